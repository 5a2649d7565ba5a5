/- The law of maps: merged areas, neighbours; what it needs of plain laws and its comparisons. -/
import Derived.Test.YteppjdoggjcdoaaDP
import Derived.Test.YteppjdoggjcdoaaPG2
import Derived.Test.YteppjdoggjcdoaaMN
import Derived.Deep.RegionHeld3
import Derived.Deep.DeepCutAuto
import Derived.RegionTactic
import Derived.BigRegion
import Derived.WalkLawsBesides
import Derived.WalkSpells
import Derived.Lib.MinMax
import Derived.Outline
namespace Go.Proofs.Yteppjdoggjcdoaa
open Go.RowKit
attribute [local go_sem] ExtOf.cell ExtOf.frozen


theorem l_bigM (A : Option Addr) (c : Nat) (n : Nat) (w : World) : Calls Try.prog 7 #[.slice A n c] w fun e w' => e = .returned (.bool (decide (4096 < n))) ∧ w = w' := by
  go_enter Try.func7, Try.ntmps7
  go_wp2
  go_ret
  exact ⟨ret_bool (by simp; try omega), rfl⟩
set_option maxHeartbeats 1600000 in
theorem l_likeP (A A' : Option Addr) (n c c' : Nat) (ps : List (Int × Int)) (w : World) (h : SlAt w 2 encP A ps) (h' : SlAt w 2 encP A' ps) (hn : n = ps.length) (hl : n ≤ 1048576) :
    Calls Try.prog 24 #[.slice A n c, .slice A' n c'] w fun e w' => e = .returned (.bool true) ∧ Ext w w' := by
  have hn1 : (((n : Nat) : Int) != (n : Int)) = false := by simp
  have HN := Lib.hid hn
  clear hn
  go_enter Try.func24, Try.ntmps24
  go_wp2
  go_loopw [5] (fun i wr => ∃ k : Nat, k ≤ n ∧ i = .int .i64 k ∧ Ext w wr) (fun i _ => n - (intOf i).toNat)
  case atStart => exact ⟨0, Nat.zero_le _, rfl, by (repeat (first | with_reducible exact Ext.refl _ | with_reducible assumption | ((with_reducible apply Src.ext); with_reducible assumption) | with_reducible refine Ext.alloc ?_ _ | with_reducible refine Ext.drew ?_ | with_reducible refine Ext.drewN ?_ _ | ((with_reducible refine Ext.setCell' ?_ ?_ _); solve | omega | simp | (simp; omega)) | (with_reducible refine Ext.trans ?_ (by with_reducible assumption))))⟩
  case round =>
    obtain ⟨k, hk, rfl, hx⟩ := hrel
    by_cases hlt : k < n
    · obtain ⟨b, off, rfl, hb, d0, d1⟩ := (h.ext hx).pt (k := k) (by rw [← HN.out]; exact hlt)
      obtain ⟨b', off', rfl, hb', e0, e1⟩ := (h'.ext hx).pt (k := k) (by rw [← HN.out]; exact hlt)
      generalize ps.getD k (0, 0) = p at *
      obtain ⟨x, z⟩ := p
      simp only at d0 d1 e0 e1
      have hxx : eqP x z x z = true := by simp [eqP]
      go_wp2
      (refine wp_region_ext (by kernel_rfl) (by kernel_rfl) ?_; (repeat (go_big_quiet_step (fail))); refine wpQuiet_nil ?_; intro wq hxwq; obtain ⟨hcwq, hfwq⟩ := hxwq.rules; have hswq := hxwq.size; (try simp at hswq))
      go_wp2
      go_roundw
      case rel => exact ⟨k + 1, by omega, by go_num, by (repeat (first | with_reducible exact Ext.refl _ | with_reducible assumption | ((with_reducible apply Src.ext); with_reducible assumption) | with_reducible refine Ext.alloc ?_ _ | with_reducible refine Ext.drew ?_ | with_reducible refine Ext.drewN ?_ _ | ((with_reducible refine Ext.setCell' ?_ ?_ _); solve | omega | simp | (simp; omega)) | (with_reducible refine Ext.trans ?_ (by with_reducible assumption))))⟩
      case measure => simp [intOf]; omega
    · go_wp2
      go_ret
      exact ⟨rfl, by (repeat (first | with_reducible exact Ext.refl _ | with_reducible assumption | ((with_reducible apply Src.ext); with_reducible assumption) | with_reducible refine Ext.alloc ?_ _ | with_reducible refine Ext.drew ?_ | with_reducible refine Ext.drewN ?_ _ | ((with_reducible refine Ext.setCell' ?_ ?_ _); solve | omega | simp | (simp; omega)) | (with_reducible refine Ext.trans ?_ (by with_reducible assumption))))⟩


theorem nbTo_mem {L : List (List (Int × Int))} {pa : List (Int × Int)} {n : Nat} {x : Int} : x ∈ nbTo L pa n ↔ ∃ i : Nat, i < n ∧ nbB pa (L.getD i []) = true ∧ x = (i : Int) := by
  unfold nbTo
  rw [List.mem_map]
  constructor
  · rintro ⟨i, hi, rfl⟩
    rw [List.mem_filter, List.mem_range] at hi
    exact ⟨i, hi.1, hi.2, rfl⟩
  · rintro ⟨i, h1, h2, rfl⟩
    exact ⟨i, by rw [List.mem_filter, List.mem_range]; exact ⟨h1, h2⟩, rfl⟩
theorem nbB_comm {pa pb : List (Int × Int)} (h : nbB pa pb = true) : nbB pb pa = true := by
  unfold nbB at *
  rw [decide_eq_true_eq] at *
  have := shE_comm (pa := pa) (pb := pb) (fun e => by rw [e] at h; simp at h)
  exact List.length_pos_iff.2 this
theorem nb_back {L : List (List (Int × Int))} {c : Int} (h : nbC L c = 0) {k : Nat} (hk : k < (nbP L c).length) : nbC L ((nbP L c).getD k 0) = 0 ∧ c ∈ nbP L ((nbP L c).getD k 0) := by
  obtain ⟨hm, hin⟩ := arC_zero.1 h
  have hc := hin c (by simp)
  have hx : (nbP L c).getD k 0 ∈ nbP L c := by simp [List.getD, hk]
  generalize (nbP L c).getD k 0 = x at *
  unfold nbP at hx
  rw [if_pos h] at hx
  obtain ⟨i, hi, hb, rfl⟩ := nbTo_mem.1 hx
  have h0 : nbC L (i : Int) = 0 := arC_zero.2 ⟨hm, fun y hy => by rw [List.mem_singleton] at hy; subst hy; omega⟩
  refine ⟨h0, ?_⟩
  unfold nbP
  rw [if_pos h0]
  exact nbTo_mem.2 ⟨c.toNat, by omega, by rw [Int.toNat_natCast]; exact nbB_comm hb, by omega⟩
theorem se_back {L : List (List (Int × Int))} {a b : Int} (h : abC L a b = 0) : abC L b a = 0 ∧ (seP L b a).length = (seP L a b).length := by
  obtain ⟨hm, hin⟩ := arC_zero.1 h
  have ha := hin a (by simp)
  have hb := hin b (by simp)
  have h0 : abC L b a = 0 := arC_zero.2 ⟨hm, fun y hy => by
    simp at hy
    rcases hy with rfl | rfl
    · exact hb
    · exact ha⟩
  refine ⟨h0, ?_⟩
  unfold seP
  rw [if_pos h, if_pos h0]
  exact shE_len_comm (ringB_iff.1 (map_ring hm (by omega))) (ringB_iff.1 (map_ring hm (by omega)))
theorem ma_area {L : List (List (Int × Int))} {a b : Int} (h : maC L a b = 0) : abC L a b = 0 ∧ ringB (maP L a b) = true ∧ areaA (maP L a b) = areaA (L.getD a.toNat []) + areaA (L.getD b.toNat []) := by
  have hz : abC L a b = 0 := by
    unfold maC at h
    split at h
    · assumption
    · exact h
  have hp : maP L a b = mgR (mgE (L.getD a.toNat []) (L.getD b.toNat [])) := if_pos h
  have hg : mgB (mgE (L.getD a.toNat []) (L.getD b.toNat [])) = true := by
    unfold maC at h
    rw [if_pos hz] at h
    split at h
    · omega
    · split at h
      · assumption
      · omega
  obtain ⟨hm, hin⟩ := arC_zero.1 hz
  have ha := hin a (by simp)
  have hb := hin b (by simp)
  have r1 := ringB_iff.1 (map_ring hm (k := a.toNat) (by omega))
  have r2 := ringB_iff.1 (map_ring hm (k := b.toNat) (by omega))
  generalize L.getD a.toNat [] = pa at *
  generalize L.getD b.toNat [] = pb at *
  have hone : OneR (mgE pa pb) := by
    rcases Classical.em (OneR (mgE pa pb)) with c | c
    · exact c
    · rw [mgB_no c] at hg; cases hg
  have hr : ringB (stP (wkL (mgE pa pb) (mgE pa pb).length)) = true := by rw [← mgB_yes hone]; exact hg
  rw [hp, mgR_yes hg]
  exact ⟨hz, ringB_iff.2 (ringB_iff.1 hr).norm, merge_area r1 r2 hone.2 (ringB_iff.1 hr)⟩

set_option maxHeartbeats 1600000 in
theorem l_likeI (A A' : Option Addr) (n c c' : Nat) (xs : List Int) (w : World) (h : SlAt w 1 encI A xs) (h' : SlAt w 1 encI A' xs) (hn : n = xs.length) (hl : n ≤ 1048576) :
    Calls Try.prog 53 #[.slice A n c, .slice A' n c'] w fun e w' => e = .returned (.bool true) ∧ Ext w w' := by
  have hn1 : (((n : Nat) : Int) != (n : Int)) = false := by simp
  have HN := Lib.hid hn
  clear hn
  go_enter Try.func53, Try.ntmps53
  go_wp2
  go_loopw [5] (fun i wr => ∃ k : Nat, k ≤ n ∧ i = .int .i64 k ∧ Ext w wr) (fun i _ => n - (intOf i).toNat)
  case atStart => exact ⟨0, Nat.zero_le _, rfl, by (repeat (first | with_reducible exact Ext.refl _ | with_reducible assumption | ((with_reducible apply Src.ext); with_reducible assumption) | with_reducible refine Ext.alloc ?_ _ | with_reducible refine Ext.drew ?_ | with_reducible refine Ext.drewN ?_ _ | ((with_reducible refine Ext.setCell' ?_ ?_ _); solve | omega | simp | (simp; omega)) | (with_reducible refine Ext.trans ?_ (by with_reducible assumption))))⟩
  case round =>
    obtain ⟨k, hk, rfl, hx⟩ := hrel
    by_cases hlt : k < n
    · obtain ⟨b, off, rfl, hb, d0⟩ := (h.ext hx).it (k := k) (by rw [← HN.out]; exact hlt)
      obtain ⟨b', off', rfl, hb', e0⟩ := (h'.ext hx).it (k := k) (by rw [← HN.out]; exact hlt)
      generalize xs.getD k 0 = p at *
      have hxx : (p != p) = false := by simp
      go_wp2
      (refine wp_region_ext (by kernel_rfl) (by kernel_rfl) ?_; (repeat (go_big_quiet_step (fail))); refine wpQuiet_nil ?_; intro wq hxwq; obtain ⟨hcwq, hfwq⟩ := hxwq.rules; have hswq := hxwq.size; (try simp at hswq))
      go_wp2
      go_roundw
      case rel => exact ⟨k + 1, by omega, by go_num, by (repeat (first | with_reducible exact Ext.refl _ | with_reducible assumption | ((with_reducible apply Src.ext); with_reducible assumption) | with_reducible refine Ext.alloc ?_ _ | with_reducible refine Ext.drew ?_ | with_reducible refine Ext.drewN ?_ _ | ((with_reducible refine Ext.setCell' ?_ ?_ _); solve | omega | simp | (simp; omega)) | (with_reducible refine Ext.trans ?_ (by with_reducible assumption))))⟩
      case measure => simp [intOf]; omega
    · go_wp2
      go_ret
      exact ⟨rfl, by (repeat (first | with_reducible exact Ext.refl _ | with_reducible assumption | ((with_reducible apply Src.ext); with_reducible assumption) | with_reducible refine Ext.alloc ?_ _ | with_reducible refine Ext.drew ?_ | with_reducible refine Ext.drewN ?_ _ | ((with_reducible refine Ext.setCell' ?_ ?_ _); solve | omega | simp | (simp; omega)) | (with_reducible refine Ext.trans ?_ (by with_reducible assumption))))⟩
set_option maxHeartbeats 1600000 in
theorem l_likeE (A A' : Option Addr) (n c c' : Nat) (es : List Ed) (w : World) (h : SlAt w 4 encE A es) (h' : SlAt w 4 encE A' es) (hn : n = es.length) (hl : n ≤ 1048576) :
    Calls Try.prog 43 #[.slice A n c, .slice A' n c'] w fun e w' => e = .returned (.bool true) ∧ Ext w w' := by
  have hn1 : (((n : Nat) : Int) != (n : Int)) = false := by simp
  have HN := Lib.hid hn
  clear hn
  go_enter Try.func43, Try.ntmps43
  go_wp2
  go_loopw [5] (fun i wr => ∃ k : Nat, k ≤ n ∧ i = .int .i64 k ∧ Ext w wr) (fun i _ => n - (intOf i).toNat)
  case atStart => exact ⟨0, Nat.zero_le _, rfl, by (repeat (first | with_reducible exact Ext.refl _ | with_reducible assumption | ((with_reducible apply Src.ext); with_reducible assumption) | with_reducible refine Ext.alloc ?_ _ | with_reducible refine Ext.drew ?_ | with_reducible refine Ext.drewN ?_ _ | ((with_reducible refine Ext.setCell' ?_ ?_ _); solve | omega | simp | (simp; omega)) | (with_reducible refine Ext.trans ?_ (by with_reducible assumption))))⟩
  case round =>
    obtain ⟨k, hk, rfl, hx⟩ := hrel
    by_cases hlt : k < n
    · obtain ⟨b, off, rfl, hb, d0, d1, d2, d3⟩ := (h.ext hx).edX (k := k) (by rw [← HN.out]; exact hlt)
      obtain ⟨b', off', rfl, hb', e0, e1, e2, e3⟩ := (h'.ext hx).edX (k := k) (by rw [← HN.out]; exact hlt)
      generalize es.getD k edD = p at *
      obtain ⟨⟨p1, p2⟩, p3, p4⟩ := p
      simp only at d0 d1 d2 d3 e0 e1 e2 e3
      have hxx : eqEd p1 p2 p3 p4 p1 p2 p3 p4 = true := (eqEd_eq (e := ((p1, p2), p3, p4)) (f := ((p1, p2), p3, p4))).2 rfl
      go_wp2
      (refine wp_region_ext (by kernel_rfl) (by kernel_rfl) ?_; (repeat (go_big_quiet_step (fail))); refine wpQuiet_nil ?_; intro wq hxwq; obtain ⟨hcwq, hfwq⟩ := hxwq.rules; have hswq := hxwq.size; (try simp at hswq))
      go_wp2
      go_roundw
      case rel => exact ⟨k + 1, by omega, by go_num, by (repeat (first | with_reducible exact Ext.refl _ | with_reducible assumption | ((with_reducible apply Src.ext); with_reducible assumption) | with_reducible refine Ext.alloc ?_ _ | with_reducible refine Ext.drew ?_ | with_reducible refine Ext.drewN ?_ _ | ((with_reducible refine Ext.setCell' ?_ ?_ _); solve | omega | simp | (simp; omega)) | (with_reducible refine Ext.trans ?_ (by with_reducible assumption))))⟩
      case measure => simp [intOf]; omega
    · go_wp2
      go_ret
      exact ⟨rfl, by (repeat (first | with_reducible exact Ext.refl _ | with_reducible assumption | ((with_reducible apply Src.ext); with_reducible assumption) | with_reducible refine Ext.alloc ?_ _ | with_reducible refine Ext.drew ?_ | with_reducible refine Ext.drewN ?_ _ | ((with_reducible refine Ext.setCell' ?_ ?_ _); solve | omega | simp | (simp; omega)) | (with_reducible refine Ext.trans ?_ (by with_reducible assumption))))⟩
set_option maxHeartbeats 1600000 in
theorem l_hasInt (A : Option Addr) (n c : Nat) (xs : List Int) (x : Int) (w : World) (h : SlAt w 1 encI A xs) (hn : n = xs.length) (hl : n ≤ 1048576) (hm : x ∈ xs) :
    Calls Try.prog 54 #[.slice A n c, .int .i64 x] w fun e w' => e = .returned (.bool true) ∧ Ext w w' := by
  have HN := Lib.hid hn
  have HM := Lib.hid hm
  clear hn hm
  go_enter Try.func54, Try.ntmps54
  go_wp2
  go_loopw [5] (fun i wr => ∃ k : Nat, k ≤ n ∧ i = .int .i64 k ∧ Hid (∀ j, j < k → xs.getD j 0 ≠ x) ∧ Ext w wr) (fun i _ => n - (intOf i).toNat)
  case atStart => exact ⟨0, Nat.zero_le _, rfl, Lib.hid fun j hj => absurd hj (by omega), by (repeat (first | with_reducible exact Ext.refl _ | with_reducible assumption | ((with_reducible apply Src.ext); with_reducible assumption) | with_reducible refine Ext.alloc ?_ _ | with_reducible refine Ext.drew ?_ | with_reducible refine Ext.drewN ?_ _ | ((with_reducible refine Ext.setCell' ?_ ?_ _); solve | omega | simp | (simp; omega)) | (with_reducible refine Ext.trans ?_ (by with_reducible assumption))))⟩
  case round =>
    obtain ⟨k, hk, rfl, HJ, hx⟩ := hrel
    by_cases hlt : k < n
    · obtain ⟨b, off, rfl, hb, d0⟩ := (h.ext hx).it (k := k) (by rw [← HN.out]; exact hlt)
      obtain ⟨p, hp⟩ : ∃ p, p = xs.getD k 0 := ⟨_, rfl⟩
      rw [← hp] at d0
      by_cases hc : p = x
      · have hcb : (p == x) = true := by rw [beq_iff_eq]; exact hc
        clear hc hp
        go_wp2
        go_ret
        exact ⟨rfl, by (repeat (first | with_reducible exact Ext.refl _ | with_reducible assumption | ((with_reducible apply Src.ext); with_reducible assumption) | with_reducible refine Ext.alloc ?_ _ | with_reducible refine Ext.drew ?_ | with_reducible refine Ext.drewN ?_ _ | ((with_reducible refine Ext.setCell' ?_ ?_ _); solve | omega | simp | (simp; omega)) | (with_reducible refine Ext.trans ?_ (by with_reducible assumption))))⟩
      · have hcb : (p == x) = false := beq_eq_false_iff_ne.2 hc
        have HJ2 : Hid (∀ j, j < k + 1 → xs.getD j 0 ≠ x) := Lib.hid fun j hj => by
          rcases Nat.lt_or_ge j k with q | q
          · exact HJ.out j q
          · rw [show j = k by omega, ← hp]; exact hc
        clear hc hp
        go_wp2
        go_roundw
        case rel => exact ⟨k + 1, by omega, by go_num, HJ2, by (repeat (first | with_reducible exact Ext.refl _ | with_reducible assumption | ((with_reducible apply Src.ext); with_reducible assumption) | with_reducible refine Ext.alloc ?_ _ | with_reducible refine Ext.drew ?_ | with_reducible refine Ext.drewN ?_ _ | ((with_reducible refine Ext.setCell' ?_ ?_ _); solve | omega | simp | (simp; omega)) | (with_reducible refine Ext.trans ?_ (by with_reducible assumption))))⟩
        case measure => simp [intOf]; omega
    · exfalso
      obtain ⟨j, hj, e⟩ := List.mem_iff_getElem.1 HM.out
      exact HJ.out j (by have := HN.out; omega) (by simp [List.getD, hj, e])

end Go.Proofs.Yteppjdoggjcdoaa
