/- Ways up, circles and lists of links, as the program sees them. -/
import Derived.Test.YtmpgjajkaehdiaaGreatDoorZB
import Derived.Test.YtmpgjajkaehdiaaGreatDoorGU
import Derived.Deep.RegionHeld3
import Derived.Deep.DeepCutAuto
import Derived.RegionTactic
import Derived.BigRegion
import Derived.WalkLawsBesides
import Derived.WalkSpells
import Derived.Lib.MinMax
import Derived.Outline
namespace Go.Proofs.YtmpgjajkaehdiaaGreatDoor
open Go.RowKit
attribute [local go_sem] ExtOf.cell ExtOf.frozen

set_option maxHeartbeats 1600000 in
theorem i_IndexS (A : Option Addr) (n c : Nat) (xs : List (List UInt8)) (x : List UInt8) (w : World) (h : SlAt w 1 encS A xs) (hn : n = xs.length) (hl : n ≤ 1048577) :
    Calls Tryz.prog 97 #[.slice A n c, .string (tx x)] w fun e w' => e = .returned (.int .i64 (fstG (fun z => z == x) xs)) ∧ Ext w w' := by
  have HN := Lib.hid hn
  have HX := Lib.hid (tx_toL x)
  clear hn
  go_enter Tryz.func97, Tryz.ntmps97
  go_wp2
  go_loopw [8] (fun i wr => ∃ k : Nat, k ≤ n ∧ i = .int .i64 k ∧ Hid (∀ j, j < k → (xs.getD j [] == x) = false) ∧ Ext w wr) (fun i _ => n - (intOf i).toNat)
  case atStart => exact ⟨0, by omega, rfl, fun j hj => absurd hj (by omega), by (repeat (first | with_reducible exact Ext.refl _ | with_reducible assumption | ((with_reducible apply Src.ext); with_reducible assumption) | with_reducible refine Ext.alloc ?_ _ | with_reducible refine Ext.drew ?_ | with_reducible refine Ext.drewN ?_ _ | ((with_reducible refine Ext.setCell' ?_ ?_ _); solve | omega | simp | (simp; omega)) | (with_reducible refine Ext.trans ?_ (by with_reducible assumption))))⟩
  case round =>
    obtain ⟨k, hk, rfl, HJ, hxr⟩ := hrel
    by_cases hlt : k < n
    · have hkr : k < xs.length := by rw [← HN.out]; exact hlt
      obtain ⟨b, off, rfl, hb, d0⟩ := (h.ext hxr).st hkr
      have htz := tx_toL (xs.getD k [])
      cases hq : (xs.getD k [] == x) with
      | true =>
        have HQ := Lib.hid hq
        have heq : ((tx x).toList == (tx (xs.getD k [])).toList) = true := by rw [HX.out, htz, beq_iff_eq]; rw [beq_iff_eq] at hq; exact hq.symm
        have heq2 : ((tx (xs.getD k [])).toList == (tx x).toList) = true := by rw [HX.out, htz]; exact hq
        generalize tx (xs.getD k []) = z at d0 heq heq2
        generalize tx x = sx at *
        clear htz hq
        go_wp2
        go_ret
        exact ⟨ret_int (fstG_hit (d := ([] : List UInt8)) (p := fun z => z == x) hkr HQ.out HJ.out), by (repeat (first | with_reducible exact Ext.refl _ | with_reducible assumption | ((with_reducible apply Src.ext); with_reducible assumption) | with_reducible refine Ext.alloc ?_ _ | with_reducible refine Ext.drew ?_ | with_reducible refine Ext.drewN ?_ _ | ((with_reducible refine Ext.setCell' ?_ ?_ _); solve | omega | simp | (simp; omega)) | (with_reducible refine Ext.trans ?_ (by with_reducible assumption))))⟩
      | false =>
        have HJ2 := Lib.hid (upTo_succ (P := fun j => (xs.getD j [] == x) = false) HJ.out hq)
        have heq2 : ((tx (xs.getD k [])).toList == (tx x).toList) = false := by rw [HX.out, htz]; exact hq
        have heq : ((tx x).toList == (tx (xs.getD k [])).toList) = false := by rw [HX.out, htz, beq_eq_false_iff_ne]; rw [beq_eq_false_iff_ne] at hq; exact fun e => hq e.symm
        generalize tx (xs.getD k []) = z at d0 heq heq2
        generalize tx x = sx at *
        clear htz hq
        go_wp2
        go_roundw
        case rel => exact ⟨k + 1, by omega, by go_num, HJ2, by (repeat (first | with_reducible exact Ext.refl _ | with_reducible assumption | ((with_reducible apply Src.ext); with_reducible assumption) | with_reducible refine Ext.alloc ?_ _ | with_reducible refine Ext.drew ?_ | with_reducible refine Ext.drewN ?_ _ | ((with_reducible refine Ext.setCell' ?_ ?_ _); solve | omega | simp | (simp; omega)) | (with_reducible refine Ext.trans ?_ (by with_reducible assumption))))⟩
        case measure => simp [intOf]; omega
    · obtain rfl : k = n := by omega
      go_wp2
      go_ret
      exact ⟨ret_int (fstG_miss (d := ([] : List UInt8)) (p := fun z => z == x) (by rw [← HN.out]; exact HJ.out)), by (repeat (first | with_reducible exact Ext.refl _ | with_reducible assumption | ((with_reducible apply Src.ext); with_reducible assumption) | with_reducible refine Ext.alloc ?_ _ | with_reducible refine Ext.drew ?_ | with_reducible refine Ext.drewN ?_ _ | ((with_reducible refine Ext.setCell' ?_ ?_ _); solve | omega | simp | (simp; omega)) | (with_reducible refine Ext.trans ?_ (by with_reducible assumption))))⟩
theorem any_mem (xs : List (List UInt8)) (x : List UInt8) : (xs.any fun z => z == x) = decide (x ∈ xs) := by
  rw [Bool.eq_iff_iff, List.any_eq_true, decide_eq_true_iff]
  constructor
  · rintro ⟨z, hz, e⟩
    rw [beq_iff_eq] at e
    exact e ▸ hz
  · intro h
    exact ⟨x, h, by simp⟩
set_option maxHeartbeats 1600000 in
theorem i_ContainsS (A : Option Addr) (n c : Nat) (xs : List (List UInt8)) (x : List UInt8) (w : World) (h : SlAt w 1 encS A xs) (hn : n = xs.length) (hl : n ≤ 1048577) :
    Calls Tryz.prog 52 #[.slice A n c, .string (tx x)] w fun e w' => e = .returned (.bool (decide (x ∈ xs))) ∧ Ext w w' := by
  rw [← any_mem, ← fstG_any]
  have HC := Lib.hid (i_IndexS A n c xs x w h hn hl)
  generalize tx x = sx at *
  clear hn h
  go_enter Tryz.func52, Tryz.ntmps52
  go_wp2_with fail
  refine HC.out.mono ?_
  rintro e w' ⟨rfl, hx⟩
  go_wp2
  go_ret
  exact ⟨rfl, hx⟩

set_option maxRecDepth 20000 in
set_option maxHeartbeats 6400000 in
theorem i_wayUp (A : Option Addr) (n c : Nat) (L : List Lk) (x : List UInt8) (y : Int) (w : World) (h : SlAt w 4 encK A L) (hn : n = L.length) (hl : n ≤ 1048576) :
    Calls Tryz.prog 53 #[.slice A n c, .string (tx x), .int .i64 y] w fun e w' => ∃ v, e = .returned v ∧ OwS w' w.heap.size v (wayU L x y).1 ∧ Ext w w' := by
  have HN := Lib.hid hn
  have HS := Lib.hid h
  have HV0 : Hid (∀ W g, Blk W g 9 #[.string (tx x)] → w.heap.size ≤ g → OwS W w.heap.size (.slice (some ⟨g, 0, none⟩) 1 1) [x]) := Lib.hid (fun W g hB hg => Own.of_blk (xs := [x]) hB len_encS rfl hg (by unfold maxLen; simp))
  clear hn h
  go_enter Tryz.func53, Tryz.ntmps53
  go_wp2
  go_loopw [7] (fun v wr => ∃ ws, Hid (UpAt L x y ws) ∧ Hid (OwS wr w.heap.size v ws) ∧ Ext w wr) (fun v _ => n + 2 - slLn v)
  case atStart => exact ⟨[x], Lib.hid UpAt.start, Lib.hid (HV0.out _ _ (by (repeat (first | with_reducible assumption | ((with_reducible apply Blk.new); solve | simp | rfl) | with_reducible apply Blk.drew | with_reducible apply Blk.drewN | ((with_reducible apply Blk.far'); solve | omega | simp | (simp; omega)) | with_reducible apply Blk.set_ | with_reducible apply Blk.alloc | ((with_reducible apply Blk.ext'); with_reducible assumption) | ((with_reducible apply Blk.but'); (with_reducible assumption); solve | omega | (simp; omega))))) (by omega)), by (repeat (first | with_reducible exact Ext.refl _ | with_reducible assumption | ((with_reducible apply Src.ext); with_reducible assumption) | with_reducible refine Ext.alloc ?_ _ | with_reducible refine Ext.drew ?_ | with_reducible refine Ext.drewN ?_ _ | ((with_reducible refine Ext.setCell' ?_ ?_ _); solve | omega | simp | (simp; omega)) | (with_reducible refine Ext.trans ?_ (by with_reducible assumption))))⟩
  case round =>
    obtain ⟨ws, HU, HV, hxr⟩ := hrel
    obtain ⟨w5, rfl⟩ : ∃ x, x = wr := ⟨wr, rfl⟩
    have hsr := hxr.size
    obtain ⟨A', c', rfl, hS, hcc, hcm, hrow⟩ := HV.out.sl len_encS
    have HSW := Lib.hid hS
    obtain ⟨h0, hlen, cl, hlast, hgd⟩ := HU.out.ne
    have hlen2 : ws.length ≤ n + 1 := by rw [HN.out]; exact hlen
    obtain ⟨b, off, hA, hb, d0⟩ := hS.st (k := ws.length - 1) (by omega)
    subst hA
    rw [hgd] at d0
    obtain ⟨m, hm⟩ : ∃ m, ws.length = m + 1 := ⟨ws.length - 1, by omega⟩
    have hm1 : ws.length - 1 = m := by omega
    rw [hm1] at d0
    have hw : IntKind.i64.wrap ((ws.length : Int) - 1) = (m : Int) := by rw [IntWalk.i64_in _ (by omega)]; omega
    have HP := Lib.hid (fun W hW => i_parentIn A n c L cl y W hW HN.out hl)
    have HLN : Hid (ws.length = m + 1 ∧ m ≤ n) := Lib.hid ⟨hm, by omega⟩
    have hmlt : m < ws.length := by omega
    have HLAST := Lib.hid hlast
    obtain ⟨ln, hln⟩ : ∃ ln, ln = ws.length := ⟨_, rfl⟩
    rw [← hln] at hw hmlt ⊢
    have HLEQ := Lib.hid hln
    clear hS hrow hcc hcm hm1 hgd hm h0 hlen hlast
    rcases hp : par L cl y with _ | nx
    · rw [hp] at HP
      have HR := Lib.hid (HU.out.none_ HLAST.out hp)
      generalize tx cl = sc at *
      clear hp hln
      go_wp2_with fail
      refine (HP.out _ (HS.out.ext (by (repeat (first | with_reducible exact Ext.refl _ | with_reducible assumption | ((with_reducible apply Src.ext); with_reducible assumption) | with_reducible refine Ext.alloc ?_ _ | with_reducible refine Ext.drew ?_ | with_reducible refine Ext.drewN ?_ _ | ((with_reducible refine Ext.setCell' ?_ ?_ _); solve | omega | simp | (simp; omega)) | (with_reducible refine Ext.trans ?_ (by with_reducible assumption))))))).mono ?_
      rintro e w1 ⟨rfl, hx1⟩
      go_wp2
      go_ret
      exact ⟨_, rfl, by rw [HR.out, HLEQ.out]; exact HV.out.ext hx1, by (repeat (first | with_reducible exact Ext.refl _ | with_reducible assumption | ((with_reducible apply Src.ext); with_reducible assumption) | with_reducible refine Ext.alloc ?_ _ | with_reducible refine Ext.drew ?_ | with_reducible refine Ext.drewN ?_ _ | ((with_reducible refine Ext.setCell' ?_ ?_ _); solve | omega | simp | (simp; omega)) | (with_reducible refine Ext.trans ?_ (by with_reducible assumption))))⟩
    · rw [hp, parT_of hp] at HP
      have HC := Lib.hid (fun W hW => i_ContainsS (some ⟨b, off, none⟩) ln c' ws nx W hW hln (by omega))
      by_cases hmem : nx ∈ ws
      · rw [decide_eq_true hmem] at HC
        have HR := Lib.hid (HU.out.hit HLAST.out hp hmem)
        generalize tx cl = sc at *
        generalize tx nx = sn at *
        clear hp hmem hln
        go_wp2_with fail
        refine (HP.out _ (HS.out.ext (by (repeat (first | with_reducible exact Ext.refl _ | with_reducible assumption | ((with_reducible apply Src.ext); with_reducible assumption) | with_reducible refine Ext.alloc ?_ _ | with_reducible refine Ext.drew ?_ | with_reducible refine Ext.drewN ?_ _ | ((with_reducible refine Ext.setCell' ?_ ?_ _); solve | omega | simp | (simp; omega)) | (with_reducible refine Ext.trans ?_ (by with_reducible assumption))))))).mono ?_
        rintro e w1 ⟨rfl, hx1⟩
        go_wp2_with fail
        refine (HC.out _ (HSW.out.ext (by (repeat (first | with_reducible exact Ext.refl _ | with_reducible assumption | ((with_reducible apply Src.ext); with_reducible assumption) | with_reducible refine Ext.alloc ?_ _ | with_reducible refine Ext.drew ?_ | with_reducible refine Ext.drewN ?_ _ | ((with_reducible refine Ext.setCell' ?_ ?_ _); solve | omega | simp | (simp; omega)) | (with_reducible refine Ext.trans ?_ (by with_reducible assumption))))))).mono ?_
        rintro e w2 ⟨rfl, hx2⟩
        go_wp2
        go_ret
        exact ⟨_, rfl, by rw [HR.out, HLEQ.out]; exact (HV.out.ext hx1).ext hx2, by (repeat (first | with_reducible exact Ext.refl _ | with_reducible assumption | ((with_reducible apply Src.ext); with_reducible assumption) | with_reducible refine Ext.alloc ?_ _ | with_reducible refine Ext.drew ?_ | with_reducible refine Ext.drewN ?_ _ | ((with_reducible refine Ext.setCell' ?_ ?_ _); solve | omega | simp | (simp; omega)) | (with_reducible refine Ext.trans ?_ (by with_reducible assumption))))⟩
      · rw [decide_eq_false hmem] at HC
        have HON := Lib.hid (HU.out.on HLAST.out hp hmem)
        have HBL := Lib.hid (fun (W : World) (g : Nat) (hB : Blk W g 9 #[.string (tx nx)]) => blk_s1 hB)
        generalize tx cl = sc at *
        generalize tx nx = sn at *
        clear hp hmem hln
        go_wp2_with fail
        refine (HP.out _ (HS.out.ext (by (repeat (first | with_reducible exact Ext.refl _ | with_reducible assumption | ((with_reducible apply Src.ext); with_reducible assumption) | with_reducible refine Ext.alloc ?_ _ | with_reducible refine Ext.drew ?_ | with_reducible refine Ext.drewN ?_ _ | ((with_reducible refine Ext.setCell' ?_ ?_ _); solve | omega | simp | (simp; omega)) | (with_reducible refine Ext.trans ?_ (by with_reducible assumption))))))).mono ?_
        rintro e w1 ⟨rfl, hx1⟩
        have hs1 := hx1.size
        go_wp2_with fail
        refine (HC.out _ (HSW.out.ext (by (repeat (first | with_reducible exact Ext.refl _ | with_reducible assumption | ((with_reducible apply Src.ext); with_reducible assumption) | with_reducible refine Ext.alloc ?_ _ | with_reducible refine Ext.drew ?_ | with_reducible refine Ext.drewN ?_ _ | ((with_reducible refine Ext.setCell' ?_ ?_ _); solve | omega | simp | (simp; omega)) | (with_reducible refine Ext.trans ?_ (by with_reducible assumption))))))).mono ?_
        rintro e w2 ⟨rfl, hx2⟩
        have hs2 := hx2.size
        have HV1 : Hid (OwS w2 w.heap.size (.slice (some ⟨b, off, none⟩) ln c') ws) := Lib.hid (by rw [HLEQ.out]; exact (HV.out.ext hx1).ext hx2)
        go_wp2_with (at_builtin; refine wpList_append_sl elS len_encS one_encS rfl _ _ rfl rfl (HV1.out.ext (by (repeat (first | with_reducible exact Ext.refl _ | with_reducible assumption | ((with_reducible apply Src.ext); with_reducible assumption) | with_reducible refine Ext.alloc ?_ _ | with_reducible refine Ext.drew ?_ | with_reducible refine Ext.drewN ?_ _ | ((with_reducible refine Ext.setCell' ?_ ?_ _); solve | omega | simp | (simp; omega)) | (with_reducible refine Ext.trans ?_ (by with_reducible assumption)))))) (xs := [nx]) rfl (HBL.out _ _ (by (repeat (first | with_reducible assumption | ((with_reducible apply Blk.new); solve | simp | rfl) | with_reducible apply Blk.drew | with_reducible apply Blk.drewN | ((with_reducible apply Blk.far'); solve | omega | simp | (simp; omega)) | with_reducible apply Blk.set_ | with_reducible apply Blk.alloc | ((with_reducible apply Blk.ext'); with_reducible assumption) | ((with_reducible apply Blk.but'); (with_reducible assumption); solve | omega | (simp; omega)))))) (by have := HLN.out; simp; unfold maxLen; omega) (by have := HLN.out; simp; omega) (by first | omega | (simp; omega)) ?_)
        intro v' w6 hown hgrow _
        have HV2 := Lib.hid hown
        have hsl : slLn v' = ws.length + 1 := by
          obtain ⟨A2, c2, e, _⟩ := hown.sl len_encS
          rw [e]; simp [slLn]
        have HSL := Lib.hid hsl
        clear hsl
        have hx6 : Ext w w6 := by
          refine Ext.grown ?_ hgrow (fun q hq => (HV.out.row q (by rw [← HLEQ.out]; exact hq)).1)
          (repeat (first | with_reducible exact Ext.refl _ | with_reducible assumption | ((with_reducible apply Src.ext); with_reducible assumption) | with_reducible refine Ext.alloc ?_ _ | with_reducible refine Ext.drew ?_ | with_reducible refine Ext.drewN ?_ _ | ((with_reducible refine Ext.setCell' ?_ ?_ _); solve | omega | simp | (simp; omega)) | (with_reducible refine Ext.trans ?_ (by with_reducible assumption))))
        clear hown hgrow
        go_wp2
        go_roundw
        case rel => exact ⟨ws ++ [nx], Lib.hid HON.out.1, HV2, hx6⟩
        case measure => simp only [HSL.out]; simp only [slLn]; have := HON.out.2; have := HLEQ.out; have := HN.out; omega
set_option maxHeartbeats 3200000 in
theorem i_isCircle (A : Option Addr) (n c : Nat) (L : List Lk) (x : List UInt8) (y : Int) (w : World) (h : SlAt w 4 encK A L) (hn : n = L.length) (hl : n ≤ 1048576) :
    Calls Tryz.prog 71 #[.slice A n c, .string (tx x), .int .i64 y] w fun e w' => e = .returned (.bool (wayU L x y).2) ∧ Ext w w' := by
  obtain ⟨cl, hgd, h0, h2⟩ := wayU_last L x y
  have hlen : (wayU L x y).1.length ≤ n + 1 := by obtain ⟨_, _, hle⟩ := wayU_ne L x y; omega
  have HU := Lib.hid (fun W hW => i_wayUp A n c L x y W hW hn hl)
  have HP := Lib.hid (fun W hW => i_parentIn A n c L cl y W hW hn hl)
  rw [h2]
  have HS := Lib.hid h
  obtain ⟨ws, hws⟩ : ∃ ws, ws = (wayU L x y).1 := ⟨_, rfl⟩
  rw [← hws] at hgd h0 HU hlen
  have HGD := Lib.hid hgd
  generalize (par L cl y).isSome = q at *
  clear h h2 hws hgd hn
  obtain ⟨m, hm⟩ : ∃ m, ws.length = m + 1 := ⟨ws.length - 1, by omega⟩
  have hw : IntKind.i64.wrap ((ws.length : Int) - 1) = (m : Int) := by rw [IntWalk.i64_in _ (by omega)]; omega
  obtain ⟨ln, hln⟩ : ∃ ln, ln = ws.length := ⟨_, rfl⟩
  have hmlt : m < ln := by omega
  have HM1 : Hid (ws.length - 1 = m) := Lib.hid (by omega)
  have HM2 : Hid (m < ws.length) := Lib.hid (by omega)
  rw [← hln] at hw
  have HLEQ := Lib.hid hln
  clear hm hln h0 hlen
  generalize hse : tx x = sx at *
  go_enter Tryz.func71, Tryz.ntmps71
  go_wp2_with fail
  refine (HU.out _ (HS.out.ext (by (repeat (first | with_reducible exact Ext.refl _ | with_reducible assumption | ((with_reducible apply Src.ext); with_reducible assumption) | with_reducible refine Ext.alloc ?_ _ | with_reducible refine Ext.drew ?_ | with_reducible refine Ext.drewN ?_ _ | ((with_reducible refine Ext.setCell' ?_ ?_ _); solve | omega | simp | (simp; omega)) | (with_reducible refine Ext.trans ?_ (by with_reducible assumption))))))).mono ?_
  rintro e w1 ⟨v, rfl, hO, hx1⟩
  obtain ⟨A', c', rfl, hS', _, _, _⟩ := hO.sl len_encS
  obtain ⟨b, off, hA, hb, d0⟩ := hS'.st (k := m) HM2.out
  have hgd := HGD.out
  rw [HM1.out] at hgd
  rw [hgd] at d0
  subst hA
  rw [← HLEQ.out]
  clear hO hS' hgd
  generalize tx cl = sc at *
  go_wp2_with fail
  refine (HP.out _ (HS.out.ext (by (repeat (first | with_reducible exact Ext.refl _ | with_reducible assumption | ((with_reducible apply Src.ext); with_reducible assumption) | with_reducible refine Ext.alloc ?_ _ | with_reducible refine Ext.drew ?_ | with_reducible refine Ext.drewN ?_ _ | ((with_reducible refine Ext.setCell' ?_ ?_ _); solve | omega | simp | (simp; omega)) | (with_reducible refine Ext.trans ?_ (by with_reducible assumption))))))).mono ?_
  rintro e w2 ⟨rfl, hx2⟩
  go_wp2
  go_ret
  exact ⟨rfl, by (repeat (first | with_reducible exact Ext.refl _ | with_reducible assumption | ((with_reducible apply Src.ext); with_reducible assumption) | with_reducible refine Ext.alloc ?_ _ | with_reducible refine Ext.drew ?_ | with_reducible refine Ext.drewN ?_ _ | ((with_reducible refine Ext.setCell' ?_ ?_ _); solve | omega | simp | (simp; omega)) | (with_reducible refine Ext.trans ?_ (by with_reducible assumption))))⟩

/-- a link of the same child whose years meet -/
def twoB (l m : Lk) : Bool := m.1 == l.1 && meetB m.2.2.1 m.2.2.2 l.2.2.1 l.2.2.2
set_option maxHeartbeats 3200000 in
theorem i_AreLinks1 (l m : Lk) (b5 : Nat) (w : World) (h0 : w.cell? ⟨b5, 0, none⟩ = some (.string (tx l.1))) (h2 : w.cell? ⟨b5, 2, none⟩ = some (.int .i64 l.2.2.1)) (h3 : w.cell? ⟨b5, 3, none⟩ = some (.int .i64 l.2.2.2)) :
    Calls Tryz.prog 68 #[.agg #[.string (tx m.1), .string (tx m.2.1), .int .i64 m.2.2.1, .int .i64 m.2.2.2], .pointer (some ⟨b5, 0, none⟩)] w fun e w' => e = .returned (.bool (twoB l m)) ∧ Ext w w' := by
  have e5 : b5 < w.heap.size := World.block_lt_of_cell? _ _ h0
  have n5 : ¬ b5 = w.heap.size := by omega
  have HH := Lib.hid (fun W => i_meets m.2.2.1 m.2.2.2 l.2.2.1 l.2.2.2 W)
  cases he : (m.1 == l.1) with
  | false =>
    have HR : Hid (twoB l m = false) := Lib.hid (by unfold twoB; rw [he]; rfl)
    have heq : ((tx m.1).toList == (tx l.1).toList) = false := by rw [tx_toL, tx_toL]; exact he
    generalize twoB l m = res at *
    generalize tx m.1 = sc at *
    generalize tx l.1 = sx at *
    generalize tx m.2.1 = sp at *
    clear he
    go_enter Tryz.func68, Tryz.ntmps68
    go_wp2
    go_ret
    exact ⟨ret_bool' HR.out.symm, by (repeat (first | with_reducible exact Ext.refl _ | with_reducible assumption | ((with_reducible apply Src.ext); with_reducible assumption) | with_reducible refine Ext.alloc ?_ _ | with_reducible refine Ext.drew ?_ | with_reducible refine Ext.drewN ?_ _ | ((with_reducible refine Ext.setCell' ?_ ?_ _); solve | omega | simp | (simp; omega)) | (with_reducible refine Ext.trans ?_ (by with_reducible assumption))))⟩
  | true =>
    have HR : Hid (twoB l m = meetB m.2.2.1 m.2.2.2 l.2.2.1 l.2.2.2) := Lib.hid (by unfold twoB; rw [he]; rfl)
    have heq : ((tx m.1).toList == (tx l.1).toList) = true := by rw [tx_toL, tx_toL]; exact he
    generalize twoB l m = res at *
    generalize tx m.1 = sc at *
    generalize tx l.1 = sx at *
    generalize tx m.2.1 = sp at *
    clear he
    go_enter Tryz.func68, Tryz.ntmps68
    (go_wp2_with fail; refine (HH.out _).mono ?_; rintro e w1 ⟨rfl, hx1⟩; obtain ⟨hc1, hf1⟩ := hx1.rules; have hs1 := hx1.size; (try simp at hs1))
    go_wp2
    go_ret
    exact ⟨ret_bool' HR.out.symm, by (repeat (first | with_reducible exact Ext.refl _ | with_reducible assumption | ((with_reducible apply Src.ext); with_reducible assumption) | with_reducible refine Ext.alloc ?_ _ | with_reducible refine Ext.drew ?_ | with_reducible refine Ext.drewN ?_ _ | ((with_reducible refine Ext.setCell' ?_ ?_ _); solve | omega | simp | (simp; omega)) | (with_reducible refine Ext.trans ?_ (by with_reducible assumption))))⟩
theorem en_AreLinks1 (args : Array Value) (w : World) : (callFunc 68 args).run Tryz.prog w = .ok (.enter 68 args) w := enters_isSome Tryz.func68 (by kernel_rfl) (by kernel_rfl) args w
end Go.Proofs.YtmpgjajkaehdiaaGreatDoor
