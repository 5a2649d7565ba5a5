/- Equal lists of texts, and texts of names, as the program and the specification see them. -/
import Derived.Test.YtapfokfbdmcokaaGreatDoorHJ
import Derived.Test.YtapfokfbdmcokaaGreatDoorYPB
import Derived.Test.YtapfokfbdmcokaaGreatDoorYU
import Derived.Deep.RegionHeld3
import Derived.Deep.DeepCutAuto
import Derived.RegionTactic
import Derived.BigRegion
import Derived.WalkLawsBesides
import Derived.WalkSpells
import Derived.Lib.MinMax
import Derived.Outline
namespace Go.Proofs.YtapfokfbdmcokaaGreatDoor
open Go.RowKit
attribute [local go_sem] ExtOf.cell ExtOf.frozen


theorem take_beqS {α : Type} [BEq α] [LawfulBEq α] {d : α} {xs ys : List α} {k : Nat} (h : ¬ xs.getD k d = ys.getD k d) : (xs == ys) = false := by
  rw [beq_eq_false_iff_ne]
  intro e
  subst e
  exact h rfl
theorem all_beqS {α : Type} [BEq α] [LawfulBEq α] {d : α} {xs ys : List α} (hl : xs.length = ys.length) (h : ∀ j, j < xs.length → xs.getD j d = ys.getD j d) : (xs == ys) = true := by
  rw [beq_iff_eq]
  apply List.ext_getElem hl
  intro i h1 h2
  have := h i h1
  simpa [List.getD, h1, h2] using this

set_option maxHeartbeats 3200000 in
theorem i_EqualS (A A' : Option Addr) (n c m d : Nat) (xs ys : List (List UInt8)) (w : World) (h : SlAt w 1 encS A xs) (h' : SlAt w 1 encS A' ys) (hn : n = xs.length) (hm : m = ys.length) (hl : n ≤ 1048576) (hl' : m ≤ 1048576) :
    Calls Tryz.prog 126 #[.slice A n c, .slice A' m d] w fun e w' => e = .returned (.bool (xs == ys)) ∧ Ext w w' := by
  have HN := Lib.hid hn
  have HM := Lib.hid hm
  clear hn hm
  by_cases hnm : n = m
  · subst hnm
    have hn1 : (((n : Nat) : Int) != (n : Int)) = false := by simp
    go_enter Tryz.func126, Tryz.ntmps126
    go_wp2
    go_loopw [13] (fun i wr => ∃ k : Nat, k ≤ n ∧ i = .int .i64 k ∧ Hid (∀ j, j < k → xs.getD j [] = ys.getD j []) ∧ Ext w wr) (fun i _ => n - (intOf i).toNat)
    case atStart => exact ⟨0, Nat.zero_le _, rfl, Lib.hid (fun j hj => absurd hj (by omega)), by (repeat (first | with_reducible exact Ext.refl _ | with_reducible assumption | ((with_reducible apply Src.ext); with_reducible assumption) | with_reducible refine Ext.alloc ?_ _ | with_reducible refine Ext.drew ?_ | with_reducible refine Ext.drewN ?_ _ | ((with_reducible refine Ext.setCell' ?_ ?_ _); solve | omega | simp | (simp; omega)) | (with_reducible refine Ext.trans ?_ (by with_reducible assumption))))⟩
    case round =>
      obtain ⟨k, hk, rfl, HJ, hx⟩ := hrel
      by_cases hlt : k < n
      · have hkx : k < xs.length := by rw [← HN.out]; exact hlt
        have hky : k < ys.length := by rw [← HM.out]; exact hlt
        obtain ⟨b, off, rfl, hb, d0⟩ := (h.ext hx).st hkx
        obtain ⟨b', off', rfl, hb', d1⟩ := (h'.ext hx).st hky
        have hxt := tx_beq (xs.getD k []) (ys.getD k [])
        by_cases hxy : xs.getD k [] = ys.getD k []
        · have HJ2 := Lib.hid (upTo1 HJ.out hxy)
          rw [show (xs.getD k [] == ys.getD k []) = true by rw [beq_iff_eq]; exact hxy] at hxt
          generalize tx (xs.getD k []) = sx at *
          generalize tx (ys.getD k []) = sy at *
          clear hkx hky hxy
          go_wp2
          (refine wp_region_ext (by kernel_rfl) (by kernel_rfl) ?_; (repeat (go_big_quiet_step (fail))); refine wpQuiet_nil ?_; intro wq hxwq; obtain ⟨hcwq, hfwq⟩ := hxwq.rules; have hswq := hxwq.size; (try simp at hswq))
          go_wp2
          go_roundw
          case rel => exact ⟨k + 1, by omega, by go_num, HJ2, by (repeat (first | with_reducible exact Ext.refl _ | with_reducible assumption | ((with_reducible apply Src.ext); with_reducible assumption) | with_reducible refine Ext.alloc ?_ _ | with_reducible refine Ext.drew ?_ | with_reducible refine Ext.drewN ?_ _ | ((with_reducible refine Ext.setCell' ?_ ?_ _); solve | omega | simp | (simp; omega)) | (with_reducible refine Ext.trans ?_ (by with_reducible assumption))))⟩
          case measure => simp [intOf]; omega
        · have HF := Lib.hid (take_beqS (d := []) hxy)
          rw [show (xs.getD k [] == ys.getD k []) = false by rw [beq_eq_false_iff_ne]; exact hxy] at hxt
          generalize tx (xs.getD k []) = sx at *
          generalize tx (ys.getD k []) = sy at *
          clear hkx hky hxy
          go_wp2
          (refine wp_region_ext (by kernel_rfl) (by kernel_rfl) ?_; (repeat (go_big_quiet_step (fail))); refine wpQuiet_nil ?_; intro wq hxwq; obtain ⟨hcwq, hfwq⟩ := hxwq.rules; have hswq := hxwq.size; (try simp at hswq))
          go_wp2
          go_ret
          exact ⟨ret_bool' HF.out.symm, by (repeat (first | with_reducible exact Ext.refl _ | with_reducible assumption | ((with_reducible apply Src.ext); with_reducible assumption) | with_reducible refine Ext.alloc ?_ _ | with_reducible refine Ext.drew ?_ | with_reducible refine Ext.drewN ?_ _ | ((with_reducible refine Ext.setCell' ?_ ?_ _); solve | omega | simp | (simp; omega)) | (with_reducible refine Ext.trans ?_ (by with_reducible assumption))))⟩
      · obtain rfl : k = n := by omega
        have HT := Lib.hid (all_beqS (d := []) (by rw [← HN.out, ← HM.out]) (fun j hj => HJ.out j (by rw [HN.out]; exact hj)))
        go_wp2
        go_ret
        exact ⟨ret_bool' HT.out.symm, by (repeat (first | with_reducible exact Ext.refl _ | with_reducible assumption | ((with_reducible apply Src.ext); with_reducible assumption) | with_reducible refine Ext.alloc ?_ _ | with_reducible refine Ext.drew ?_ | with_reducible refine Ext.drewN ?_ _ | ((with_reducible refine Ext.setCell' ?_ ?_ _); solve | omega | simp | (simp; omega)) | (with_reducible refine Ext.trans ?_ (by with_reducible assumption))))⟩
  · have HF : Hid ((xs == ys) = false) := Lib.hid (by rw [beq_eq_false_iff_ne]; intro e; exact hnm (by rw [HN.out, HM.out, e]))
    have hnm1 : ((n : Int) != (m : Int)) = true := by simp; omega
    go_enter Tryz.func126, Tryz.ntmps126
    go_wp2
    go_ret
    exact ⟨ret_bool' HF.out.symm, by (repeat (first | with_reducible exact Ext.refl _ | with_reducible assumption | ((with_reducible apply Src.ext); with_reducible assumption) | with_reducible refine Ext.alloc ?_ _ | with_reducible refine Ext.drew ?_ | with_reducible refine Ext.drewN ?_ _ | ((with_reducible refine Ext.setCell' ?_ ?_ _); solve | omega | simp | (simp; omega)) | (with_reducible refine Ext.trans ?_ (by with_reducible assumption))))⟩

set_option maxHeartbeats 3200000 in
theorem s_l14Equal (A A' : Option Addr) (n c m d : Nat) (xs ys : List (List UInt8)) (w : World) (h : SlAt w 1 encS A xs) (h' : SlAt w 1 encS A' ys) (hn : n = xs.length) (hm : m = ys.length) (hl : n ≤ 1048576) (hl' : m ≤ 1048576) :
    Calls Tryz.prog 118 #[.slice A n c, .slice A' m d] w fun e w' => e = .returned (.bool (xs == ys)) ∧ Ext w w' := by
  have HN := Lib.hid hn
  have HM := Lib.hid hm
  clear hn hm
  by_cases hnm : n = m
  · subst hnm
    have hn1 : (((n : Nat) : Int) != (n : Int)) = false := by simp
    go_enter Tryz.func118, Tryz.ntmps118
    go_wp2
    go_loopw [5] (fun i wr => ∃ k : Nat, k ≤ n ∧ i = .int .i64 k ∧ Hid (∀ j, j < k → xs.getD j [] = ys.getD j []) ∧ Ext w wr) (fun i _ => n - (intOf i).toNat)
    case atStart => exact ⟨0, Nat.zero_le _, rfl, Lib.hid (fun j hj => absurd hj (by omega)), by (repeat (first | with_reducible exact Ext.refl _ | with_reducible assumption | ((with_reducible apply Src.ext); with_reducible assumption) | with_reducible refine Ext.alloc ?_ _ | with_reducible refine Ext.drew ?_ | with_reducible refine Ext.drewN ?_ _ | ((with_reducible refine Ext.setCell' ?_ ?_ _); solve | omega | simp | (simp; omega)) | (with_reducible refine Ext.trans ?_ (by with_reducible assumption))))⟩
    case round =>
      obtain ⟨k, hk, rfl, HJ, hx⟩ := hrel
      by_cases hlt : k < n
      · have hkx : k < xs.length := by rw [← HN.out]; exact hlt
        have hky : k < ys.length := by rw [← HM.out]; exact hlt
        obtain ⟨b, off, rfl, hb, d0⟩ := (h.ext hx).st hkx
        obtain ⟨b', off', rfl, hb', d1⟩ := (h'.ext hx).st hky
        have hxt := tx_beq (xs.getD k []) (ys.getD k [])
        by_cases hxy : xs.getD k [] = ys.getD k []
        · have HJ2 := Lib.hid (upTo1 HJ.out hxy)
          rw [show (xs.getD k [] == ys.getD k []) = true by rw [beq_iff_eq]; exact hxy] at hxt
          generalize tx (xs.getD k []) = sx at *
          generalize tx (ys.getD k []) = sy at *
          clear hkx hky hxy
          go_wp2
          (refine wp_region_ext (by kernel_rfl) (by kernel_rfl) ?_; (repeat (go_big_quiet_step (fail))); refine wpQuiet_nil ?_; intro wq hxwq; obtain ⟨hcwq, hfwq⟩ := hxwq.rules; have hswq := hxwq.size; (try simp at hswq))
          go_wp2
          go_roundw
          case rel => exact ⟨k + 1, by omega, by go_num, HJ2, by (repeat (first | with_reducible exact Ext.refl _ | with_reducible assumption | ((with_reducible apply Src.ext); with_reducible assumption) | with_reducible refine Ext.alloc ?_ _ | with_reducible refine Ext.drew ?_ | with_reducible refine Ext.drewN ?_ _ | ((with_reducible refine Ext.setCell' ?_ ?_ _); solve | omega | simp | (simp; omega)) | (with_reducible refine Ext.trans ?_ (by with_reducible assumption))))⟩
          case measure => simp [intOf]; omega
        · have HF := Lib.hid (take_beqS (d := []) hxy)
          rw [show (xs.getD k [] == ys.getD k []) = false by rw [beq_eq_false_iff_ne]; exact hxy] at hxt
          generalize tx (xs.getD k []) = sx at *
          generalize tx (ys.getD k []) = sy at *
          clear hkx hky hxy
          go_wp2
          (refine wp_region_ext (by kernel_rfl) (by kernel_rfl) ?_; (repeat (go_big_quiet_step (fail))); refine wpQuiet_nil ?_; intro wq hxwq; obtain ⟨hcwq, hfwq⟩ := hxwq.rules; have hswq := hxwq.size; (try simp at hswq))
          go_wp2
          go_ret
          exact ⟨ret_bool' HF.out.symm, by (repeat (first | with_reducible exact Ext.refl _ | with_reducible assumption | ((with_reducible apply Src.ext); with_reducible assumption) | with_reducible refine Ext.alloc ?_ _ | with_reducible refine Ext.drew ?_ | with_reducible refine Ext.drewN ?_ _ | ((with_reducible refine Ext.setCell' ?_ ?_ _); solve | omega | simp | (simp; omega)) | (with_reducible refine Ext.trans ?_ (by with_reducible assumption))))⟩
      · obtain rfl : k = n := by omega
        have HT := Lib.hid (all_beqS (d := []) (by rw [← HN.out, ← HM.out]) (fun j hj => HJ.out j (by rw [HN.out]; exact hj)))
        go_wp2
        go_ret
        exact ⟨ret_bool' HT.out.symm, by (repeat (first | with_reducible exact Ext.refl _ | with_reducible assumption | ((with_reducible apply Src.ext); with_reducible assumption) | with_reducible refine Ext.alloc ?_ _ | with_reducible refine Ext.drew ?_ | with_reducible refine Ext.drewN ?_ _ | ((with_reducible refine Ext.setCell' ?_ ?_ _); solve | omega | simp | (simp; omega)) | (with_reducible refine Ext.trans ?_ (by with_reducible assumption))))⟩
  · have HF : Hid ((xs == ys) = false) := Lib.hid (by rw [beq_eq_false_iff_ne]; intro e; exact hnm (by rw [HN.out, HM.out, e]))
    have hnm1 : ((n : Int) != (m : Int)) = true := by simp; omega
    go_enter Tryz.func118, Tryz.ntmps118
    go_wp2
    go_ret
    exact ⟨ret_bool' HF.out.symm, by (repeat (first | with_reducible exact Ext.refl _ | with_reducible assumption | ((with_reducible apply Src.ext); with_reducible assumption) | with_reducible refine Ext.alloc ?_ _ | with_reducible refine Ext.drew ?_ | with_reducible refine Ext.drewN ?_ _ | ((with_reducible refine Ext.setCell' ?_ ?_ _); solve | omega | simp | (simp; omega)) | (with_reducible refine Ext.trans ?_ (by with_reducible assumption))))⟩

set_option maxRecDepth 20000 in
set_option maxHeartbeats 6400000 in
theorem i_textsIn (p : Pl) (y : Int) (w : World) (h : PlAt w p) (hl : p.2.2.2.2.2.2.length ≤ 1000) :
    Calls Tryz.prog 129 #[.agg #[.string (tx p.1), .int .i64 p.2.1, .int .i64 p.2.2.1, .int .i64 p.2.2.2.1, .slice p.2.2.2.2.1 p.2.2.2.2.2.2.length p.2.2.2.2.2.1], .int .i64 y] w fun e w' => ∃ v, e = .returned v ∧ OwS w' w.heap.size v (txL p.2.2.2.2.2.2 y) ∧ Ext w w' := by
  have HS := Lib.hid h.1
  clear h
  generalize tx p.1 = q0 at *
  generalize p.2.1 = q1 at *
  generalize p.2.2.1 = q2 at *
  generalize p.2.2.2.1 = q3 at *
  generalize p.2.2.2.2.1 = A at *
  generalize p.2.2.2.2.2.1 = c at *
  generalize p.2.2.2.2.2.2 = ns at *
  obtain ⟨n, hn⟩ : ∃ n, n = ns.length := ⟨_, rfl⟩
  have HN := Lib.hid hn
  rw [← hn] at hl ⊢
  clear hn
  go_enter Tryz.func129, Tryz.ntmps129
  go_wp2
  go_loopw [5, 11] (fun v i wr => ∃ k : Nat, k ≤ n ∧ i = .int .i64 k ∧ Hid (OwS wr w.heap.size v (txTo ns y k)) ∧ Ext w wr) (fun _ i _ => n - (intOf i).toNat)
  case atStart => exact ⟨0, by omega, rfl, Lib.hid (Own.nil _ _), by (repeat (first | with_reducible exact Ext.refl _ | with_reducible assumption | ((with_reducible apply Src.ext); with_reducible assumption) | with_reducible refine Ext.alloc ?_ _ | with_reducible refine Ext.drew ?_ | with_reducible refine Ext.drewN ?_ _ | ((with_reducible refine Ext.setCell' ?_ ?_ _); solve | omega | simp | (simp; omega)) | (with_reducible refine Ext.trans ?_ (by with_reducible assumption))))⟩
  case round =>
    obtain ⟨k, hk, rfl, HV, hxr⟩ := hrel
    obtain ⟨w5, rfl⟩ : ∃ x, x = wr := ⟨wr, rfl⟩
    by_cases hlt : k < n
    · have hkr : k < ns.length := by rw [← HN.out]; exact hlt
      obtain ⟨b, off, rfl, hb, d0, d1, d2, d3, d4⟩ := (HS.out.ext hxr).nm hkr
      have hsucc := txTo_succ ns y k
      have hln := txTo_len ns y k
      have HH := Lib.hid (fun W => i_has (ns.getD k nmD).2.2.2.1 (ns.getD k nmD).2.2.2.2 y W)
      have hlk : usB ns y k = inB y (ns.getD k nmD).2.2.2.1 (ns.getD k nmD).2.2.2.2 := rfl
      cases hq : usB ns y k with
      | false =>
        rw [hq] at hsucc
        rw [← hlk, hq] at HH
        have HSU : Hid (txTo ns y (k + 1) = txTo ns y k) := Lib.hid (by rw [hsucc]; simp)
        clear hsucc hlk hq hln
        generalize ns.getD k nmD = l at *
        generalize tx l.1 = s0 at *
        generalize tx l.2.1 = s1 at *
        go_wp2_with fail
        refine (HH.out _).mono ?_
        rintro e w1 ⟨rfl, hx1⟩
        go_wp2
        go_roundw
        case rel => exact ⟨k + 1, by omega, by go_num, Lib.hid (by rw [HSU.out]; exact HV.out.ext (by (repeat (first | with_reducible exact Ext.refl _ | with_reducible assumption | ((with_reducible apply Src.ext); with_reducible assumption) | with_reducible refine Ext.alloc ?_ _ | with_reducible refine Ext.drew ?_ | with_reducible refine Ext.drewN ?_ _ | ((with_reducible refine Ext.setCell' ?_ ?_ _); solve | omega | simp | (simp; omega)) | (with_reducible refine Ext.trans ?_ (by with_reducible assumption)))))), by (repeat (first | with_reducible exact Ext.refl _ | with_reducible assumption | ((with_reducible apply Src.ext); with_reducible assumption) | with_reducible refine Ext.alloc ?_ _ | with_reducible refine Ext.drew ?_ | with_reducible refine Ext.drewN ?_ _ | ((with_reducible refine Ext.setCell' ?_ ?_ _); solve | omega | simp | (simp; omega)) | (with_reducible refine Ext.trans ?_ (by with_reducible assumption))))⟩
        case measure => simp [intOf]; omega
      | true =>
        rw [hq] at hsucc
        rw [← hlk, hq] at HH
        have HSU : Hid (txTo ns y (k + 1) = txTo ns y k ++ [(ns.getD k nmD).1]) := Lib.hid (by rw [hsucc]; simp)
        have HBL := Lib.hid (fun (W : World) (g : Nat) (hB : Blk W g 9 #[.string (tx (ns.getD k nmD).1)]) => blk_s1c hB)
        have HLN : Hid ((txTo ns y k).length ≤ 1000) := Lib.hid (by omega)
        clear hsucc hlk hq hln
        generalize ns.getD k nmD = l at *
        generalize tx l.1 = s0 at *
        generalize tx l.2.1 = s1 at *
        go_wp2_with fail
        refine (HH.out _).mono ?_
        rintro e w1 ⟨rfl, hx1⟩
        obtain ⟨hc1, hf1⟩ := hx1.rules
        have hs1 := hx1.size
        (try simp at hs1)
        have := (show w5.heap.size < w1.heap.size from by omega)
        have hsr := hxr.size
        have HV1 : Hid (OwS w1 w.heap.size _ (txTo ns y k)) := Lib.hid (HV.out.ext (by (repeat (first | with_reducible exact Ext.refl _ | with_reducible assumption | ((with_reducible apply Src.ext); with_reducible assumption) | with_reducible refine Ext.alloc ?_ _ | with_reducible refine Ext.drew ?_ | with_reducible refine Ext.drewN ?_ _ | ((with_reducible refine Ext.setCell' ?_ ?_ _); solve | omega | simp | (simp; omega)) | (with_reducible refine Ext.trans ?_ (by with_reducible assumption))))))
        go_wp2_with (at_builtin; refine wpList_append_sl elS len_encS one_encS rfl _ _ rfl rfl (HV1.out.ext (by (repeat (first | with_reducible exact Ext.refl _ | with_reducible assumption | ((with_reducible apply Src.ext); with_reducible assumption) | with_reducible refine Ext.alloc ?_ _ | with_reducible refine Ext.drew ?_ | with_reducible refine Ext.drewN ?_ _ | ((with_reducible refine Ext.setCell' ?_ ?_ _); solve | omega | simp | (simp; omega)) | (with_reducible refine Ext.trans ?_ (by with_reducible assumption)))))) (xs := [l.1]) rfl (HBL.out _ _ (by (repeat (first | with_reducible assumption | ((with_reducible apply Blk.new); solve | simp | rfl) | with_reducible apply Blk.drew | with_reducible apply Blk.drewN | ((with_reducible apply Blk.far'); solve | omega | simp | (simp; omega)) | with_reducible apply Blk.set_ | with_reducible apply Blk.alloc | ((with_reducible apply Blk.ext'); with_reducible assumption) | ((with_reducible apply Blk.but'); (with_reducible assumption); solve | omega | (simp; omega)))))) (by have := HLN.out; simp; unfold maxLen; omega) (by have := HLN.out; simp; omega) (by first | omega | (simp; omega)) ?_)
        intro v' w6 hown hgrow _
        have HV2 := Lib.hid hown
        have hx6 : Ext w w6 := by
          refine Ext.grown ?_ hgrow (fun q hq => (HV.out.row q hq).1)
          (repeat (first | with_reducible exact Ext.refl _ | with_reducible assumption | ((with_reducible apply Src.ext); with_reducible assumption) | with_reducible refine Ext.alloc ?_ _ | with_reducible refine Ext.drew ?_ | with_reducible refine Ext.drewN ?_ _ | ((with_reducible refine Ext.setCell' ?_ ?_ _); solve | omega | simp | (simp; omega)) | (with_reducible refine Ext.trans ?_ (by with_reducible assumption))))
        clear hown hgrow
        go_wp2
        go_roundw
        case rel => exact ⟨k + 1, by omega, by go_num, Lib.hid (by rw [HSU.out]; exact HV2.out), hx6⟩
        case measure => simp [intOf]; omega
    · obtain rfl : k = n := by omega
      have HO : Hid (OwS w5 w.heap.size _ (txL ns y)) := Lib.hid (by unfold txL; rw [← HN.out]; exact HV.out)
      go_wp2
      go_ret
      exact ⟨_, rfl, HO.out.ext (by (repeat (first | with_reducible exact Ext.refl _ | with_reducible assumption | ((with_reducible apply Src.ext); with_reducible assumption) | with_reducible refine Ext.alloc ?_ _ | with_reducible refine Ext.drew ?_ | with_reducible refine Ext.drewN ?_ _ | ((with_reducible refine Ext.setCell' ?_ ?_ _); solve | omega | simp | (simp; omega)) | (with_reducible refine Ext.trans ?_ (by with_reducible assumption))))), by (repeat (first | with_reducible exact Ext.refl _ | with_reducible assumption | ((with_reducible apply Src.ext); with_reducible assumption) | with_reducible refine Ext.alloc ?_ _ | with_reducible refine Ext.drew ?_ | with_reducible refine Ext.drewN ?_ _ | ((with_reducible refine Ext.setCell' ?_ ?_ _); solve | omega | simp | (simp; omega)) | (with_reducible refine Ext.trans ?_ (by with_reducible assumption))))⟩

set_option maxHeartbeats 3200000 in
theorem i_differIn1 (p : Pl) (y : Int) (b5 : Nat) (w : World) (h5 : w.cell? ⟨b5, 0, none⟩ = some (.int .i64 y)) :
    Calls Tryz.prog 125 (#[plV p] ++ #[.pointer (some ⟨b5, 0, none⟩)]) w fun e w' => e = .returned (.bool (exY y (pdOf p))) ∧ Ext w w' := by
  have e5 : b5 < w.heap.size := World.block_lt_of_cell? _ _ h5
  have hpv : plV p = .agg #[.string (tx p.1), .int .i64 p.2.1, .int .i64 p.2.2.1, .int .i64 p.2.2.2.1, .slice p.2.2.2.2.1 p.2.2.2.2.2.2.length p.2.2.2.2.2.1] := rfl
  have HH : Hid (∀ W, Calls Tryz.prog 57 #[.agg #[.int .i64 p.2.2.1, .int .i64 p.2.2.2.1], .int .i64 y] W fun e w' => e = .returned (.bool (exY y (pdOf p))) ∧ Ext W w') := Lib.hid (fun W => i_has _ _ _ W)
  rw [hpv]
  generalize exY y (pdOf p) = q at *
  generalize tx p.1 = s0 at *
  clear hpv
  go_enter Tryz.func125, Tryz.ntmps125
  go_wp2_with fail
  refine (HH.out _).mono ?_
  rintro e w1 ⟨rfl, hx1⟩
  go_wp2
  go_ret
  exact ⟨rfl, by (repeat (first | with_reducible exact Ext.refl _ | with_reducible assumption | ((with_reducible apply Src.ext); with_reducible assumption) | with_reducible refine Ext.alloc ?_ _ | with_reducible refine Ext.drew ?_ | with_reducible refine Ext.drewN ?_ _ | ((with_reducible refine Ext.setCell' ?_ ?_ _); solve | omega | simp | (simp; omega)) | (with_reducible refine Ext.trans ?_ (by with_reducible assumption))))⟩
theorem en_differIn1 (args : Array Value) (w : World) : (callFunc 125 args).run Tryz.prog w = .ok (.enter 125 args) w := enters_isSome Tryz.func125 (by kernel_rfl) (by kernel_rfl) args w

set_option maxHeartbeats 3200000 in
theorem s_l11Year (A : Option Addr) (n c : Nat) (ps : List Pl) (y : Int) (w : World) (h : SlAt w 5 encQ A ps) (hp : Places w ps) (hn : n = ps.length) (hl : ps.length ≤ 1048576) (hr : rgB (psD ps) = true) (hy : inB y (-3000) 3000 = true) :
    Calls Tryz.prog 164 #[.slice A n c, .int .i64 y] w fun e w' => e = .returned (.int .i64 0) ∧ Ext w w' := by
  have HA := Lib.hid (fun W (hW : Ext w W) => s_IsRegister A n c ps W (h.ext hW) (hp.ext hW) hn hl)
  have HY := Lib.hid (fun W => s_l02Year y W)
  rw [hr] at HA
  rw [hy] at HY
  clear h hp hn hr hy
  go_enter Tryz.func164, Tryz.ntmps164
  (go_wp2_with fail; refine (HA.out _ (by (repeat (first | with_reducible exact Ext.refl _ | with_reducible assumption | ((with_reducible apply Src.ext); with_reducible assumption) | with_reducible refine Ext.alloc ?_ _ | with_reducible refine Ext.drew ?_ | with_reducible refine Ext.drewN ?_ _ | ((with_reducible refine Ext.setCell' ?_ ?_ _); solve | omega | simp | (simp; omega)) | (with_reducible refine Ext.trans ?_ (by with_reducible assumption)))))).mono ?_; rintro e w1 ⟨rfl, hx1⟩; obtain ⟨hc1, hf1⟩ := hx1.rules; have hs1 := hx1.size; (try simp at hs1))
  (go_wp2_with fail; refine (HY.out _).mono ?_; rintro e w' ⟨rfl, rfl⟩)
  go_wp2
  go_ret
  exact ⟨rfl, by (repeat (first | with_reducible exact Ext.refl _ | with_reducible assumption | ((with_reducible apply Src.ext); with_reducible assumption) | with_reducible refine Ext.alloc ?_ _ | with_reducible refine Ext.drew ?_ | with_reducible refine Ext.drewN ?_ _ | ((with_reducible refine Ext.setCell' ?_ ?_ _); solve | omega | simp | (simp; omega)) | (with_reducible refine Ext.trans ?_ (by with_reducible assumption))))⟩
set_option maxRecDepth 20000 in
set_option maxHeartbeats 6400000 in
theorem s_PlacesIn (A : Option Addr) (n c : Nat) (ps : List Pl) (y : Int) (w : World) (h : SlAt w 5 encQ A ps) (hp : Places w ps) (hn : n = ps.length) (hl : ps.length ≤ 1000) (hr : rgB (psD ps) = true) (hy : inB y (-3000) 3000 = true) :
    Calls Tryz.prog 117 #[.slice A n c, .int .i64 y] w fun e w' => ∃ v, e = .returned (.tuple #[v, .int .i64 0]) ∧ OwS w' w.heap.size v (cdsP (exY y) (psD ps)) ∧ Ext w w' := by
  have HY := Lib.hid (fun W (hW : Ext w W) => s_l11Year A n c ps y W (h.ext hW) (hp.ext hW) hn (by omega) hr hy)
  have HS := Lib.hid h
  have HN := Lib.hid hn
  have hnl : n ≤ 1000 := by omega
  have HFIN : Hid (cdsTo (exY y) (psD ps) n = cdsP (exY y) (psD ps)) := Lib.hid (by rw [hn, ← psD_len, cdsTo_all])
  clear h hp hn hl hr hy
  go_enter Tryz.func117, Tryz.ntmps117
  go_wp2_with fail
  refine (HY.out _ (by (repeat (first | with_reducible exact Ext.refl _ | with_reducible assumption | ((with_reducible apply Src.ext); with_reducible assumption) | with_reducible refine Ext.alloc ?_ _ | with_reducible refine Ext.drew ?_ | with_reducible refine Ext.drewN ?_ _ | ((with_reducible refine Ext.setCell' ?_ ?_ _); solve | omega | simp | (simp; omega)) | (with_reducible refine Ext.trans ?_ (by with_reducible assumption)))))).mono ?_
  rintro e w1 ⟨rfl, hx1⟩
  have hs1 := hx1.size
  go_wp2
  go_loopw [7, 8] (fun v i wr => ∃ k : Nat, k ≤ n ∧ i = .int .i64 k ∧ Hid (OwS wr w.heap.size v (cdsTo (exY y) (psD ps) k)) ∧ Ext w wr) (fun _ i _ => n - (intOf i).toNat)
  case atStart => exact ⟨0, by omega, rfl, Lib.hid (Own.of_blk (g := w1.heap.size) (cs := #[]) (xs := []) (by (repeat (first | with_reducible assumption | ((with_reducible apply Blk.new); solve | simp | rfl) | with_reducible apply Blk.drew | with_reducible apply Blk.drewN | ((with_reducible apply Blk.far'); solve | omega | simp | (simp; omega)) | with_reducible apply Blk.set_ | with_reducible apply Blk.alloc | ((with_reducible apply Blk.ext'); with_reducible assumption) | ((with_reducible apply Blk.but'); (with_reducible assumption); solve | omega | (simp; omega))))) len_encS rfl (by omega) (by simp)), by (repeat (first | with_reducible exact Ext.refl _ | with_reducible assumption | ((with_reducible apply Src.ext); with_reducible assumption) | with_reducible refine Ext.alloc ?_ _ | with_reducible refine Ext.drew ?_ | with_reducible refine Ext.drewN ?_ _ | ((with_reducible refine Ext.setCell' ?_ ?_ _); solve | omega | simp | (simp; omega)) | (with_reducible refine Ext.trans ?_ (by with_reducible assumption))))⟩
  case round =>
    obtain ⟨k, hk, rfl, HV, hxr⟩ := hrel
    obtain ⟨w5, rfl⟩ : ∃ x, x = wr := ⟨wr, rfl⟩
    by_cases hlt : k < n
    · have hkr : k < ps.length := by rw [← HN.out]; exact hlt
      obtain ⟨b9, off, rfl, hb, d0, d1, d2, d3, d4⟩ := (HS.out.ext hxr).pl hkr
      have hsucc := cdsTo_succ (p := exY y) (D := psD ps) (k := k) (by rw [psD_len]; exact hkr)
      rw [psD_at hkr] at hsucc
      have hln := cdsTo_len (exY y) (psD ps) k
      have HH : Hid (∀ W, Calls Tryz.prog 52 #[.agg #[.string (tx (ps.getD k plD).1), .int .i64 (ps.getD k plD).2.1, .int .i64 (ps.getD k plD).2.2.1, .int .i64 (ps.getD k plD).2.2.2.1, .slice (ps.getD k plD).2.2.2.2.1 (ps.getD k plD).2.2.2.2.2.2.length (ps.getD k plD).2.2.2.2.2.1], .int .i64 y] W fun e w' => e = .returned (.bool (exY y (pdOf (ps.getD k plD)))) ∧ Ext W w') := Lib.hid (fun W => s_l11Exists _ _ W)
      cases hq : exY y (pdOf (ps.getD k plD)) with
      | false =>
        rw [hq] at hsucc HH
        have HSU : Hid (cdsTo (exY y) (psD ps) (k + 1) = cdsTo (exY y) (psD ps) k) := Lib.hid (by rw [hsucc]; simp)
        clear hsucc hq hln
        generalize ps.getD k plD = l at *
        generalize tx l.1 = s0 at *
        generalize l.2.1 = s1 at *
        generalize l.2.2.1 = s2 at *
        generalize l.2.2.2.1 = s3 at *
        generalize l.2.2.2.2.1 = s4 at *
        generalize l.2.2.2.2.2.2.length = s5 at *
        generalize l.2.2.2.2.2.1 = s6 at *
        go_wp2_with fail
        refine (HH.out _).mono ?_
        rintro e w6 ⟨rfl, hx6⟩
        go_wp2
        go_roundw
        case rel => exact ⟨k + 1, by omega, by go_num, Lib.hid (by rw [HSU.out]; exact HV.out.ext (by (repeat (first | with_reducible exact Ext.refl _ | with_reducible assumption | ((with_reducible apply Src.ext); with_reducible assumption) | with_reducible refine Ext.alloc ?_ _ | with_reducible refine Ext.drew ?_ | with_reducible refine Ext.drewN ?_ _ | ((with_reducible refine Ext.setCell' ?_ ?_ _); solve | omega | simp | (simp; omega)) | (with_reducible refine Ext.trans ?_ (by with_reducible assumption)))))), by (repeat (first | with_reducible exact Ext.refl _ | with_reducible assumption | ((with_reducible apply Src.ext); with_reducible assumption) | with_reducible refine Ext.alloc ?_ _ | with_reducible refine Ext.drew ?_ | with_reducible refine Ext.drewN ?_ _ | ((with_reducible refine Ext.setCell' ?_ ?_ _); solve | omega | simp | (simp; omega)) | (with_reducible refine Ext.trans ?_ (by with_reducible assumption))))⟩
        case measure => simp [intOf]; omega
      | true =>
        rw [hq] at hsucc HH
        have HSU : Hid (cdsTo (exY y) (psD ps) (k + 1) = cdsTo (exY y) (psD ps) k ++ [(ps.getD k plD).1]) := Lib.hid (by rw [hsucc]; simp; rfl)
        have HBL := Lib.hid (fun (W : World) (g : Nat) (hB : Blk W g 9 #[.string (tx (ps.getD k plD).1)]) => blk_s1c hB)
        have HLN : Hid ((cdsTo (exY y) (psD ps) k).length ≤ 1000) := Lib.hid (by omega)
        clear hsucc hq hln
        generalize ps.getD k plD = l at *
        generalize tx l.1 = s0 at *
        generalize l.2.1 = s1 at *
        generalize l.2.2.1 = s2 at *
        generalize l.2.2.2.1 = s3 at *
        generalize l.2.2.2.2.1 = s4 at *
        generalize l.2.2.2.2.2.2.length = s5 at *
        generalize l.2.2.2.2.2.1 = s6 at *
        have hsr := hxr.size
        go_wp2_with fail
        refine (HH.out _).mono ?_
        rintro e w6 ⟨rfl, hx6⟩
        obtain ⟨hc6, hf6⟩ := hx6.rules
        have hs6 := hx6.size
        (try simp at hs6)
        have := (show b9 < w6.heap.size from by omega)
        have HV1 : Hid (OwS w6 w.heap.size _ (cdsTo (exY y) (psD ps) k)) := Lib.hid (HV.out.ext (by (repeat (first | with_reducible exact Ext.refl _ | with_reducible assumption | ((with_reducible apply Src.ext); with_reducible assumption) | with_reducible refine Ext.alloc ?_ _ | with_reducible refine Ext.drew ?_ | with_reducible refine Ext.drewN ?_ _ | ((with_reducible refine Ext.setCell' ?_ ?_ _); solve | omega | simp | (simp; omega)) | (with_reducible refine Ext.trans ?_ (by with_reducible assumption))))))
        go_wp2_with (at_builtin; refine wpList_append_sl elS len_encS one_encS rfl _ _ rfl rfl (HV1.out.ext (by (repeat (first | with_reducible exact Ext.refl _ | with_reducible assumption | ((with_reducible apply Src.ext); with_reducible assumption) | with_reducible refine Ext.alloc ?_ _ | with_reducible refine Ext.drew ?_ | with_reducible refine Ext.drewN ?_ _ | ((with_reducible refine Ext.setCell' ?_ ?_ _); solve | omega | simp | (simp; omega)) | (with_reducible refine Ext.trans ?_ (by with_reducible assumption)))))) (xs := [l.1]) rfl (HBL.out _ _ (by (repeat (first | with_reducible assumption | ((with_reducible apply Blk.new); solve | simp | rfl) | with_reducible apply Blk.drew | with_reducible apply Blk.drewN | ((with_reducible apply Blk.far'); solve | omega | simp | (simp; omega)) | with_reducible apply Blk.set_ | with_reducible apply Blk.alloc | ((with_reducible apply Blk.ext'); with_reducible assumption) | ((with_reducible apply Blk.but'); (with_reducible assumption); solve | omega | (simp; omega)))))) (by have := HLN.out; simp; unfold maxLen; omega) (by have := HLN.out; simp; omega) (by first | omega | (simp; omega)) ?_)
        intro v' w7 hown hgrow _
        have HV2 := Lib.hid hown
        have hx7 : Ext w w7 := by
          refine Ext.grown ?_ hgrow (fun q hq => (HV.out.row q hq).1)
          (repeat (first | with_reducible exact Ext.refl _ | with_reducible assumption | ((with_reducible apply Src.ext); with_reducible assumption) | with_reducible refine Ext.alloc ?_ _ | with_reducible refine Ext.drew ?_ | with_reducible refine Ext.drewN ?_ _ | ((with_reducible refine Ext.setCell' ?_ ?_ _); solve | omega | simp | (simp; omega)) | (with_reducible refine Ext.trans ?_ (by with_reducible assumption))))
        clear hown hgrow
        go_wp2
        go_roundw
        case rel => exact ⟨k + 1, by omega, by go_num, Lib.hid (by rw [HSU.out]; exact HV2.out), hx7⟩
        case measure => simp [intOf]; omega
    · obtain rfl : k = n := by omega
      have HO : Hid (OwS w5 w.heap.size _ (cdsP (exY y) (psD ps))) := Lib.hid (by rw [← HFIN.out]; exact HV.out)
      go_wp2
      go_ret2
      exact ⟨_, rfl, HO.out.ext (by (repeat (first | with_reducible exact Ext.refl _ | with_reducible assumption | ((with_reducible apply Src.ext); with_reducible assumption) | with_reducible refine Ext.alloc ?_ _ | with_reducible refine Ext.drew ?_ | with_reducible refine Ext.drewN ?_ _ | ((with_reducible refine Ext.setCell' ?_ ?_ _); solve | omega | simp | (simp; omega)) | (with_reducible refine Ext.trans ?_ (by with_reducible assumption))))), by (repeat (first | with_reducible exact Ext.refl _ | with_reducible assumption | ((with_reducible apply Src.ext); with_reducible assumption) | with_reducible refine Ext.alloc ?_ _ | with_reducible refine Ext.drew ?_ | with_reducible refine Ext.drewN ?_ _ | ((with_reducible refine Ext.setCell' ?_ ?_ _); solve | omega | simp | (simp; omega)) | (with_reducible refine Ext.trans ?_ (by with_reducible assumption))))⟩

end Go.Proofs.YtapfokfbdmcokaaGreatDoor
