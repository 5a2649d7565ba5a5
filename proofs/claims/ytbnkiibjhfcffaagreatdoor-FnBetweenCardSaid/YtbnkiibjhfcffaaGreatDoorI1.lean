/- Ways up, circles and lists of links, as the program sees them. The kit's word for slices.Compact at sorted texts: no program in sight. Lists of links, sorted lists of places, and places that are a child, as the program sees them. Lists of links, their codes, children and what lies inside, as the program sees them. -/
import Derived.Test.YtbnkiibjhfcffaaGreatDoorZB
import Derived.Test.YtbnkiibjhfcffaaGreatDoorGU
import Derived.Deep.RegionHeld3
import Derived.Deep.DeepCutAuto
import Derived.RegionTactic
import Derived.BigRegion
import Derived.WalkLawsBesides
import Derived.WalkSpells
import Derived.Lib.MinMax
import Derived.Outline
import Derived.Test.YtbnkiibjhfcffaaGreatDoorGP
import Derived.Lib.SlicesCompact
import Derived.Test.YtbnkiibjhfcffaaGreatDoorShB
import Derived.Sort.OwnSorted
namespace Go.Proofs.YtbnkiibjhfcffaaGreatDoor
open Go.RowKit
attribute [local go_sem] ExtOf.cell ExtOf.frozen

set_option maxHeartbeats 1600000 in
theorem i_IndexS (A : Option Addr) (n c : Nat) (xs : List (List UInt8)) (x : List UInt8) (w : World) (h : SlAt w 1 encS A xs) (hn : n = xs.length) (hl : n ≤ 1048577) :
    Calls Tryz.prog 100 #[.slice A n c, .string (tx x)] w fun e w' => e = .returned (.int .i64 (fstG (fun z => z == x) xs)) ∧ Ext w w' := by
  have HN := Lib.hid hn
  have HX := Lib.hid (tx_toL x)
  clear hn
  go_enter Tryz.func100, Tryz.ntmps100
  go_wp2
  go_loopw [8] (fun i wr => ∃ k : Nat, k ≤ n ∧ i = .int .i64 k ∧ Hid (∀ j, j < k → (xs.getD j [] == x) = false) ∧ Ext w wr) (fun i _ => n - (intOf i).toNat)
  case atStart => exact ⟨0, by omega, rfl, fun j hj => absurd hj (by omega), by (with_reducible repeat (first | exact Ext.refl _ | assumption | (apply Src.ext; assumption) | refine Ext.alloc ?_ _ | refine Ext.drew ?_ | refine Ext.drewN ?_ _ | (refine Ext.setCell' ?_ ?_ _; solve | omega | simp | (simp; omega)) | refine Ext.trans ?_ (by assumption)))⟩
  case round =>
    obtain ⟨k, hk, rfl, HJ, hxr⟩ := hrel
    by_cases hlt : k < n
    · have hkr : k < xs.length := by rw [← HN.out]; exact hlt
      obtain ⟨b, off, rfl, hb, d0⟩ := (h.ext hxr).st hkr
      have htz := tx_toL (xs.getD k [])
      cases hq : (xs.getD k [] == x) with
      | true =>
        have HQ := Lib.hid hq
        have heq : ((tx x).toList == (tx (xs.getD k [])).toList) = true := by rw [HX.out, htz, beq_iff_eq]; rw [beq_iff_eq] at hq; exact hq.symm
        have heq2 : ((tx (xs.getD k [])).toList == (tx x).toList) = true := by rw [HX.out, htz]; exact hq
        generalize tx (xs.getD k []) = z at d0 heq heq2
        generalize tx x = sx at *
        clear htz hq
        go_wp2
        go_ret
        exact ⟨ret_int (fstG_hit (d := ([] : List UInt8)) (p := fun z => z == x) hkr HQ.out HJ.out), by (with_reducible repeat (first | exact Ext.refl _ | assumption | (apply Src.ext; assumption) | refine Ext.alloc ?_ _ | refine Ext.drew ?_ | refine Ext.drewN ?_ _ | (refine Ext.setCell' ?_ ?_ _; solve | omega | simp | (simp; omega)) | refine Ext.trans ?_ (by assumption)))⟩
      | false =>
        have HJ2 := Lib.hid (upTo_succ (P := fun j => (xs.getD j [] == x) = false) HJ.out hq)
        have heq2 : ((tx (xs.getD k [])).toList == (tx x).toList) = false := by rw [HX.out, htz]; exact hq
        have heq : ((tx x).toList == (tx (xs.getD k [])).toList) = false := by rw [HX.out, htz, beq_eq_false_iff_ne]; rw [beq_eq_false_iff_ne] at hq; exact fun e => hq e.symm
        generalize tx (xs.getD k []) = z at d0 heq heq2
        generalize tx x = sx at *
        clear htz hq
        go_wp2
        go_roundw
        case rel => exact ⟨k + 1, by omega, by go_num, HJ2, by (with_reducible repeat (first | exact Ext.refl _ | assumption | (apply Src.ext; assumption) | refine Ext.alloc ?_ _ | refine Ext.drew ?_ | refine Ext.drewN ?_ _ | (refine Ext.setCell' ?_ ?_ _; solve | omega | simp | (simp; omega)) | refine Ext.trans ?_ (by assumption)))⟩
        case measure => simp [intOf]; omega
    · obtain rfl : k = n := by omega
      go_wp2
      go_ret
      exact ⟨ret_int (fstG_miss (d := ([] : List UInt8)) (p := fun z => z == x) (by rw [← HN.out]; exact HJ.out)), by (with_reducible repeat (first | exact Ext.refl _ | assumption | (apply Src.ext; assumption) | refine Ext.alloc ?_ _ | refine Ext.drew ?_ | refine Ext.drewN ?_ _ | (refine Ext.setCell' ?_ ?_ _; solve | omega | simp | (simp; omega)) | refine Ext.trans ?_ (by assumption)))⟩
theorem any_mem (xs : List (List UInt8)) (x : List UInt8) : (xs.any fun z => z == x) = decide (x ∈ xs) := by
  rw [Bool.eq_iff_iff, List.any_eq_true, decide_eq_true_iff]
  constructor
  · rintro ⟨z, hz, e⟩
    rw [beq_iff_eq] at e
    exact e ▸ hz
  · intro h
    exact ⟨x, h, by simp⟩
set_option maxHeartbeats 1600000 in
theorem i_ContainsS (A : Option Addr) (n c : Nat) (xs : List (List UInt8)) (x : List UInt8) (w : World) (h : SlAt w 1 encS A xs) (hn : n = xs.length) (hl : n ≤ 1048577) :
    Calls Tryz.prog 69 #[.slice A n c, .string (tx x)] w fun e w' => e = .returned (.bool (decide (x ∈ xs))) ∧ Ext w w' := by
  rw [← any_mem, ← fstG_any]
  have HC := Lib.hid (i_IndexS A n c xs x w h hn hl)
  generalize tx x = sx at *
  clear hn h
  go_enter Tryz.func69, Tryz.ntmps69
  go_wp2_with fail
  refine HC.out.mono ?_
  rintro e w' ⟨rfl, hx⟩
  go_wp2
  go_ret
  exact ⟨rfl, hx⟩

set_option maxRecDepth 20000 in
set_option maxHeartbeats 6400000 in
theorem i_wayUp (A : Option Addr) (n c : Nat) (L : List Lk) (x : List UInt8) (y : Int) (w : World) (h : SlAt w 4 encK A L) (hn : n = L.length) (hl : n ≤ 1048576) :
    Calls Tryz.prog 70 #[.slice A n c, .string (tx x), .int .i64 y] w fun e w' => ∃ v, e = .returned v ∧ OwS w' w.heap.size v (wayU L x y).1 ∧ Ext w w' := by
  have HN := Lib.hid hn
  have HS := Lib.hid h
  have HV0 : Hid (∀ W g, Blk W g 9 #[.string (tx x)] → w.heap.size ≤ g → OwS W w.heap.size (.slice (some ⟨g, 0, none⟩) 1 1) [x]) := Lib.hid (fun W g hB hg => Own.of_blk (xs := [x]) hB len_encS rfl hg (by unfold maxLen; simp))
  clear hn h
  go_enter Tryz.func70, Tryz.ntmps70
  go_wp2
  go_loopw [7] (fun v wr => ∃ ws, Hid (UpAt L x y ws) ∧ Hid (OwS wr w.heap.size v ws) ∧ Ext w wr) (fun v _ => n + 2 - slLn v)
  case atStart => exact ⟨[x], Lib.hid UpAt.start, Lib.hid (HV0.out _ _ (by (with_reducible repeat (first | assumption | (apply Blk.new; solve | simp | with_unfolding_all rfl) | apply Blk.drew | apply Blk.drewN | (apply Blk.far'; solve | omega | simp | (simp; omega)) | apply Blk.set_ | apply Blk.alloc | (apply Blk.ext'; assumption) | (apply Blk.but'; assumption; solve | omega | (simp; omega))))) (by omega)), by (with_reducible repeat (first | exact Ext.refl _ | assumption | (apply Src.ext; assumption) | refine Ext.alloc ?_ _ | refine Ext.drew ?_ | refine Ext.drewN ?_ _ | (refine Ext.setCell' ?_ ?_ _; solve | omega | simp | (simp; omega)) | refine Ext.trans ?_ (by assumption)))⟩
  case round =>
    obtain ⟨ws, HU, HV, hxr⟩ := hrel
    obtain ⟨w5, rfl⟩ : ∃ x, x = wr := ⟨wr, rfl⟩
    have hsr := hxr.size
    obtain ⟨A', c', rfl, hS, hcc, hcm, hrow⟩ := HV.out.sl len_encS
    have HSW := Lib.hid hS
    obtain ⟨h0, hlen, cl, hlast, hgd⟩ := HU.out.ne
    have hlen2 : ws.length ≤ n + 1 := by rw [HN.out]; exact hlen
    obtain ⟨b, off, hA, hb, d0⟩ := hS.st (k := ws.length - 1) (by omega)
    subst hA
    rw [hgd] at d0
    obtain ⟨m, hm⟩ : ∃ m, ws.length = m + 1 := ⟨ws.length - 1, by omega⟩
    have hm1 : ws.length - 1 = m := by omega
    rw [hm1] at d0
    have hw : IntKind.i64.wrap ((ws.length : Int) - 1) = (m : Int) := by rw [IntWalk.i64_in _ (by omega)]; omega
    have HP := Lib.hid (fun W hW => i_parentIn A n c L cl y W hW HN.out hl)
    have HLN : Hid (ws.length = m + 1 ∧ m ≤ n) := Lib.hid ⟨hm, by omega⟩
    have hmlt : m < ws.length := by omega
    have HLAST := Lib.hid hlast
    obtain ⟨ln, hln⟩ : ∃ ln, ln = ws.length := ⟨_, rfl⟩
    rw [← hln] at hw hmlt ⊢
    have HLEQ := Lib.hid hln
    clear hS hrow hcc hcm hm1 hgd hm h0 hlen hlast
    rcases hp : par L cl y with _ | nx
    · rw [hp] at HP
      have HR := Lib.hid (HU.out.none_ HLAST.out hp)
      generalize tx cl = sc at *
      clear hp hln
      go_wp2_with fail
      refine (HP.out _ (HS.out.ext (by (with_reducible repeat (first | exact Ext.refl _ | assumption | (apply Src.ext; assumption) | refine Ext.alloc ?_ _ | refine Ext.drew ?_ | refine Ext.drewN ?_ _ | (refine Ext.setCell' ?_ ?_ _; solve | omega | simp | (simp; omega)) | refine Ext.trans ?_ (by assumption)))))).mono ?_
      rintro e w1 ⟨rfl, hx1⟩
      go_wp2
      go_ret
      exact ⟨_, rfl, by rw [HR.out, HLEQ.out]; exact HV.out.ext hx1, by (with_reducible repeat (first | exact Ext.refl _ | assumption | (apply Src.ext; assumption) | refine Ext.alloc ?_ _ | refine Ext.drew ?_ | refine Ext.drewN ?_ _ | (refine Ext.setCell' ?_ ?_ _; solve | omega | simp | (simp; omega)) | refine Ext.trans ?_ (by assumption)))⟩
    · rw [hp, parT_of hp] at HP
      have HC := Lib.hid (fun W hW => i_ContainsS (some ⟨b, off, none⟩) ln c' ws nx W hW hln (by omega))
      by_cases hmem : nx ∈ ws
      · rw [decide_eq_true hmem] at HC
        have HR := Lib.hid (HU.out.hit HLAST.out hp hmem)
        generalize tx cl = sc at *
        generalize tx nx = sn at *
        clear hp hmem hln
        go_wp2_with fail
        refine (HP.out _ (HS.out.ext (by (with_reducible repeat (first | exact Ext.refl _ | assumption | (apply Src.ext; assumption) | refine Ext.alloc ?_ _ | refine Ext.drew ?_ | refine Ext.drewN ?_ _ | (refine Ext.setCell' ?_ ?_ _; solve | omega | simp | (simp; omega)) | refine Ext.trans ?_ (by assumption)))))).mono ?_
        rintro e w1 ⟨rfl, hx1⟩
        go_wp2_with fail
        refine (HC.out _ (HSW.out.ext (by (with_reducible repeat (first | exact Ext.refl _ | assumption | (apply Src.ext; assumption) | refine Ext.alloc ?_ _ | refine Ext.drew ?_ | refine Ext.drewN ?_ _ | (refine Ext.setCell' ?_ ?_ _; solve | omega | simp | (simp; omega)) | refine Ext.trans ?_ (by assumption)))))).mono ?_
        rintro e w2 ⟨rfl, hx2⟩
        go_wp2
        go_ret
        exact ⟨_, rfl, by rw [HR.out, HLEQ.out]; exact (HV.out.ext hx1).ext hx2, by (with_reducible repeat (first | exact Ext.refl _ | assumption | (apply Src.ext; assumption) | refine Ext.alloc ?_ _ | refine Ext.drew ?_ | refine Ext.drewN ?_ _ | (refine Ext.setCell' ?_ ?_ _; solve | omega | simp | (simp; omega)) | refine Ext.trans ?_ (by assumption)))⟩
      · rw [decide_eq_false hmem] at HC
        have HON := Lib.hid (HU.out.on HLAST.out hp hmem)
        have HBL := Lib.hid (fun (W : World) (g : Nat) (hB : Blk W g 9 #[.string (tx nx)]) => blk_s1 hB)
        generalize tx cl = sc at *
        generalize tx nx = sn at *
        clear hp hmem hln
        go_wp2_with fail
        refine (HP.out _ (HS.out.ext (by (with_reducible repeat (first | exact Ext.refl _ | assumption | (apply Src.ext; assumption) | refine Ext.alloc ?_ _ | refine Ext.drew ?_ | refine Ext.drewN ?_ _ | (refine Ext.setCell' ?_ ?_ _; solve | omega | simp | (simp; omega)) | refine Ext.trans ?_ (by assumption)))))).mono ?_
        rintro e w1 ⟨rfl, hx1⟩
        have hs1 := hx1.size
        go_wp2_with fail
        refine (HC.out _ (HSW.out.ext (by (with_reducible repeat (first | exact Ext.refl _ | assumption | (apply Src.ext; assumption) | refine Ext.alloc ?_ _ | refine Ext.drew ?_ | refine Ext.drewN ?_ _ | (refine Ext.setCell' ?_ ?_ _; solve | omega | simp | (simp; omega)) | refine Ext.trans ?_ (by assumption)))))).mono ?_
        rintro e w2 ⟨rfl, hx2⟩
        have hs2 := hx2.size
        have HV1 : Hid (OwS w2 w.heap.size (.slice (some ⟨b, off, none⟩) ln c') ws) := Lib.hid (by rw [HLEQ.out]; exact (HV.out.ext hx1).ext hx2)
        go_wp2_with (at_builtin; refine wpList_append_sl elS len_encS one_encS rfl _ _ rfl rfl (HV1.out.ext (by (with_reducible repeat (first | exact Ext.refl _ | assumption | (apply Src.ext; assumption) | refine Ext.alloc ?_ _ | refine Ext.drew ?_ | refine Ext.drewN ?_ _ | (refine Ext.setCell' ?_ ?_ _; solve | omega | simp | (simp; omega)) | refine Ext.trans ?_ (by assumption))))) (xs := [nx]) rfl (HBL.out _ _ (by (with_reducible repeat (first | assumption | (apply Blk.new; solve | simp | with_unfolding_all rfl) | apply Blk.drew | apply Blk.drewN | (apply Blk.far'; solve | omega | simp | (simp; omega)) | apply Blk.set_ | apply Blk.alloc | (apply Blk.ext'; assumption) | (apply Blk.but'; assumption; solve | omega | (simp; omega)))))) (by have := HLN.out; simp; unfold maxLen; omega) (by have := HLN.out; simp; omega) (by first | omega | (simp; omega)) ?_)
        intro v' w6 hown hgrow _
        have HV2 := Lib.hid hown
        have hsl : slLn v' = ws.length + 1 := by
          obtain ⟨A2, c2, e, _⟩ := hown.sl len_encS
          rw [e]; simp [slLn]
        have HSL := Lib.hid hsl
        clear hsl
        have hx6 : Ext w w6 := by
          refine Ext.grown ?_ hgrow (fun q hq => (HV.out.row q (by rw [← HLEQ.out]; exact hq)).1)
          (with_reducible repeat (first | exact Ext.refl _ | assumption | (apply Src.ext; assumption) | refine Ext.alloc ?_ _ | refine Ext.drew ?_ | refine Ext.drewN ?_ _ | (refine Ext.setCell' ?_ ?_ _; solve | omega | simp | (simp; omega)) | refine Ext.trans ?_ (by assumption)))
        clear hown hgrow
        go_wp2
        go_roundw
        case rel => exact ⟨ws ++ [nx], Lib.hid HON.out.1, HV2, hx6⟩
        case measure => simp only [HSL.out]; simp only [slLn]; have := HON.out.2; have := HLEQ.out; have := HN.out; omega
set_option maxHeartbeats 3200000 in
theorem i_isCircle (A : Option Addr) (n c : Nat) (L : List Lk) (x : List UInt8) (y : Int) (w : World) (h : SlAt w 4 encK A L) (hn : n = L.length) (hl : n ≤ 1048576) :
    Calls Tryz.prog 115 #[.slice A n c, .string (tx x), .int .i64 y] w fun e w' => e = .returned (.bool (wayU L x y).2) ∧ Ext w w' := by
  obtain ⟨cl, hgd, h0, h2⟩ := wayU_last L x y
  have hlen : (wayU L x y).1.length ≤ n + 1 := by obtain ⟨_, _, hle⟩ := wayU_ne L x y; omega
  have HU := Lib.hid (fun W hW => i_wayUp A n c L x y W hW hn hl)
  have HP := Lib.hid (fun W hW => i_parentIn A n c L cl y W hW hn hl)
  rw [h2]
  have HS := Lib.hid h
  obtain ⟨ws, hws⟩ : ∃ ws, ws = (wayU L x y).1 := ⟨_, rfl⟩
  rw [← hws] at hgd h0 HU hlen
  have HGD := Lib.hid hgd
  generalize (par L cl y).isSome = q at *
  clear h h2 hws hgd hn
  obtain ⟨m, hm⟩ : ∃ m, ws.length = m + 1 := ⟨ws.length - 1, by omega⟩
  have hw : IntKind.i64.wrap ((ws.length : Int) - 1) = (m : Int) := by rw [IntWalk.i64_in _ (by omega)]; omega
  obtain ⟨ln, hln⟩ : ∃ ln, ln = ws.length := ⟨_, rfl⟩
  have hmlt : m < ln := by omega
  have HM1 : Hid (ws.length - 1 = m) := Lib.hid (by omega)
  have HM2 : Hid (m < ws.length) := Lib.hid (by omega)
  rw [← hln] at hw
  have HLEQ := Lib.hid hln
  clear hm hln h0 hlen
  generalize hse : tx x = sx at *
  go_enter Tryz.func115, Tryz.ntmps115
  go_wp2_with fail
  refine (HU.out _ (HS.out.ext (by (with_reducible repeat (first | exact Ext.refl _ | assumption | (apply Src.ext; assumption) | refine Ext.alloc ?_ _ | refine Ext.drew ?_ | refine Ext.drewN ?_ _ | (refine Ext.setCell' ?_ ?_ _; solve | omega | simp | (simp; omega)) | refine Ext.trans ?_ (by assumption)))))).mono ?_
  rintro e w1 ⟨v, rfl, hO, hx1⟩
  obtain ⟨A', c', rfl, hS', _, _, _⟩ := hO.sl len_encS
  obtain ⟨b, off, hA, hb, d0⟩ := hS'.st (k := m) HM2.out
  have hgd := HGD.out
  rw [HM1.out] at hgd
  rw [hgd] at d0
  subst hA
  rw [← HLEQ.out]
  clear hO hS' hgd
  generalize tx cl = sc at *
  go_wp2_with fail
  refine (HP.out _ (HS.out.ext (by (with_reducible repeat (first | exact Ext.refl _ | assumption | (apply Src.ext; assumption) | refine Ext.alloc ?_ _ | refine Ext.drew ?_ | refine Ext.drewN ?_ _ | (refine Ext.setCell' ?_ ?_ _; solve | omega | simp | (simp; omega)) | refine Ext.trans ?_ (by assumption)))))).mono ?_
  rintro e w2 ⟨rfl, hx2⟩
  go_wp2
  go_ret
  exact ⟨rfl, by (with_reducible repeat (first | exact Ext.refl _ | assumption | (apply Src.ext; assumption) | refine Ext.alloc ?_ _ | refine Ext.drew ?_ | refine Ext.drewN ?_ _ | (refine Ext.setCell' ?_ ?_ _; solve | omega | simp | (simp; omega)) | refine Ext.trans ?_ (by assumption)))⟩

/-- a link of the same child whose years meet -/
def twoB (l m : Lk) : Bool := m.1 == l.1 && meetB m.2.2.1 m.2.2.2 l.2.2.1 l.2.2.2
set_option maxHeartbeats 3200000 in
theorem i_AreLinks1 (l m : Lk) (b5 : Nat) (w : World) (h0 : w.cell? ⟨b5, 0, none⟩ = some (.string (tx l.1))) (h2 : w.cell? ⟨b5, 2, none⟩ = some (.int .i64 l.2.2.1)) (h3 : w.cell? ⟨b5, 3, none⟩ = some (.int .i64 l.2.2.2)) :
    Calls Tryz.prog 113 #[.agg #[.string (tx m.1), .string (tx m.2.1), .int .i64 m.2.2.1, .int .i64 m.2.2.2], .pointer (some ⟨b5, 0, none⟩)] w fun e w' => e = .returned (.bool (twoB l m)) ∧ Ext w w' := by
  have e5 : b5 < w.heap.size := World.block_lt_of_cell? _ _ h0
  have n5 : ¬ b5 = w.heap.size := by omega
  have HH := Lib.hid (fun W => i_meets m.2.2.1 m.2.2.2 l.2.2.1 l.2.2.2 W)
  cases he : (m.1 == l.1) with
  | false =>
    have HR : Hid (twoB l m = false) := Lib.hid (by unfold twoB; rw [he]; rfl)
    have heq : ((tx m.1).toList == (tx l.1).toList) = false := by rw [tx_toL, tx_toL]; exact he
    generalize twoB l m = res at *
    generalize tx m.1 = sc at *
    generalize tx l.1 = sx at *
    generalize tx m.2.1 = sp at *
    clear he
    go_enter Tryz.func113, Tryz.ntmps113
    go_wp2
    go_ret
    exact ⟨ret_bool' HR.out.symm, by (with_reducible repeat (first | exact Ext.refl _ | assumption | (apply Src.ext; assumption) | refine Ext.alloc ?_ _ | refine Ext.drew ?_ | refine Ext.drewN ?_ _ | (refine Ext.setCell' ?_ ?_ _; solve | omega | simp | (simp; omega)) | refine Ext.trans ?_ (by assumption)))⟩
  | true =>
    have HR : Hid (twoB l m = meetB m.2.2.1 m.2.2.2 l.2.2.1 l.2.2.2) := Lib.hid (by unfold twoB; rw [he]; rfl)
    have heq : ((tx m.1).toList == (tx l.1).toList) = true := by rw [tx_toL, tx_toL]; exact he
    generalize twoB l m = res at *
    generalize tx m.1 = sc at *
    generalize tx l.1 = sx at *
    generalize tx m.2.1 = sp at *
    clear he
    go_enter Tryz.func113, Tryz.ntmps113
    (go_wp2_with fail; refine (HH.out _).mono ?_; rintro e w1 ⟨rfl, hx1⟩; obtain ⟨hc1, hf1⟩ := hx1.rules; have hs1 := hx1.size; (try simp at hs1))
    go_wp2
    go_ret
    exact ⟨ret_bool' HR.out.symm, by (with_reducible repeat (first | exact Ext.refl _ | assumption | (apply Src.ext; assumption) | refine Ext.alloc ?_ _ | refine Ext.drew ?_ | refine Ext.drewN ?_ _ | (refine Ext.setCell' ?_ ?_ _; solve | omega | simp | (simp; omega)) | refine Ext.trans ?_ (by assumption)))⟩
theorem en_AreLinks1 (args : Array Value) (w : World) : (callFunc 113 args).run Tryz.prog w = .ok (.enter 113 args) w := enters_isSome Tryz.func113 (by kernel_rfl) (by kernel_rfl) args w
end Go.Proofs.YtbnkiibjhfcffaaGreatDoor
namespace Go.Proofs.YtbnkiibjhfcffaaGreatDoor
theorem toArr_get {l : List Tx} {j : Nat} (hj : j < l.length) : l.toArray[j]! = l[j] := by
  rw [getElem!_pos l.toArray j (by simpa using hj)]
  simp
theorem compact_alf {l : List Tx} (h : l.Pairwise (fun a b => ¬ b < a)) : Alf (Lib.compact l) := by
  unfold Alf Lib.compact Lib.compactUpTo
  rw [List.pairwise_map]
  refine List.Pairwise.imp_of_mem ?_ (List.Pairwise.filter _ List.pairwise_lt_range)
  intro a b ha hb hab
  have hbl := List.mem_range.1 (List.mem_filter.1 hb).1
  have hk := (List.mem_filter.1 hb).2
  simp only [Lib.keeps, decide_eq_true_eq] at hk
  have hal : a < l.length := by omega
  have hb1 : b - 1 < l.length := by omega
  rw [toArr_get hbl, toArr_get hb1] at hk
  rw [toArr_get hbl, toArr_get hal]
  have hp := List.pairwise_iff_getElem.1 h
  have h1 : l[b - 1] < l[b] := by
    have hne : ¬ l[b] = l[b - 1] := by
      rcases hk with e | e
      · omega
      · exact e
    have h2 := hp (b - 1) b hb1 hbl (by omega)
    rcases tx_tri l[b - 1] l[b] with q | q | q
    · exact q
    · exact absurd q.symm hne
    · exact absurd q h2
  rcases Nat.lt_or_ge a (b - 1) with c | c
  · have h2 := hp a (b - 1) hal hb1 c
    rcases tx_tri l[a] l[b - 1] with q | q | q
    · exact tx_lt_trans q h1
    · rw [q]; exact h1
    · exact absurd q h2
  · have : a = b - 1 := by omega
    subst this
    exact h1
theorem compact_mem {l : List Tx} {x : Tx} : x ∈ Lib.compact l ↔ x ∈ l := by
  unfold Lib.compact Lib.compactUpTo
  constructor
  · intro h
    obtain ⟨j, hj, rfl⟩ := List.mem_map.1 h
    have hjl := List.mem_range.1 (List.mem_filter.1 hj).1
    rw [toArr_get hjl]
    exact List.getElem_mem hjl
  · intro h
    obtain ⟨j, hj, rfl⟩ := List.mem_iff_getElem.1 h
    have key : ∀ (j : Nat) (hj : j < l.length), l[j] ∈ ((List.range l.length).filter (Lib.keeps l.toArray)).map (l.toArray[·]!) := by
      intro j
      induction j with
      | zero =>
        intro hj
        refine List.mem_map.2 ⟨0, List.mem_filter.2 ⟨List.mem_range.2 hj, by simp [Lib.keeps]⟩, toArr_get hj⟩
      | succ j ih =>
        intro hj
        have hj1 : j < l.length := by omega
        by_cases e : l[j + 1] = l[j]
        · rw [e]; exact ih hj1
        · refine List.mem_map.2 ⟨j + 1, List.mem_filter.2 ⟨List.mem_range.2 hj, ?_⟩, toArr_get hj⟩
          simp only [Lib.keeps, decide_eq_true_eq]
          right
          rw [Nat.add_sub_cancel, toArr_get hj, toArr_get hj1]
          exact e
    exact key j hj
theorem compact_cpt {l : List Tx} (h : l.Pairwise (fun a b => ¬ b < a)) : Lib.compact l = cpt l :=
  (compact_alf h).ext (cpt_alf h) fun _ => compact_mem.trans cpt_mem.symm
theorem compact_sort (l : List Tx) : Lib.compact (l.mergeSort fun x y => decide (x ≤ y)) = sortA l := compact_cpt (sort_pair l)
theorem compact_len (l : List Tx) : (Lib.compact l).length ≤ l.length := by
  unfold Lib.compact Lib.compactUpTo
  rw [List.length_map]
  have := List.length_filter_le (Lib.keeps l.toArray) (List.range l.length)
  rwa [List.length_range] at this
end Go.Proofs.YtbnkiibjhfcffaaGreatDoor
namespace Go.Proofs.YtbnkiibjhfcffaaGreatDoor
open Go.RowKit Go.Sort
attribute [local go_sem] ExtOf.cell ExtOf.frozen

theorem encS_flat (xs : List (List UInt8)) : xs.flatMap encS = xs.map encStr := by
  induction xs with
  | nil => rfl
  | cons x xs ih => rw [List.flatMap_cons, ih]; rfl
theorem Own.front {α : Type} {enc : α → List Value} {sz base : Nat} {t : TypeId} {w : World} {A : Option Addr} {n c : Nat} {xs ys : List α} (hk : ∀ x, (enc x).length = sz) (h : Own enc sz t w base (.slice A n c) (xs ++ ys)) (h0 : 0 < (xs ++ ys).length) : Own enc sz t w base (.slice A xs.length c) xs := by
  obtain ⟨g, cap, cur, e, hb, hB, hn, hm, hs, ht⟩ := h.open_ h0
  injection e with e1 e2 e3
  subst e1 e3
  rw [List.length_append] at hn ht
  refine ⟨flatMap_len hk xs, .inr ⟨g, c, cur, rfl, hb, hB, by omega, hm, hs, ?_⟩⟩
  have h2 := congrArg (List.take (xs.length * sz)) ht
  rw [List.take_take, Nat.min_eq_left (Nat.mul_le_mul_right _ (by omega)), List.flatMap_append, List.take_append_of_le_length (by rw [flatMap_len hk]; exact Nat.le_refl _), List.take_of_length_le (l := xs.flatMap enc) (by rw [flatMap_len hk]; exact Nat.le_refl _)] at h2
  exact h2
theorem own_open' {base g n cap : Nat} {xs : List (List UInt8)} {w : World} (h : OwS w base (.slice (some ⟨g, 0, none⟩) n cap) xs) : ∃ cur, base ≤ g ∧ w.heap[g]? = some (.cells cur 9 (0, 0)) ∧ n = xs.length ∧ n ≤ cap ∧ cap ≤ maxLen ∧ cur.size = cap * 1 ∧ cur.toList.take n = xs.map encStr := by
  rcases h.2 with ⟨e, _⟩ | ⟨g', cap', cur, e, hb, hc, h1, h2, h3, h4⟩
  · cases e
  injection e with e1 e2 e3
  injection e1 with e1
  injection e1 with e1
  subst e1 e2 e3
  rw [Nat.mul_one, encS_flat] at h4
  exact ⟨cur, hb, hc, rfl, h1, h2, h3, h4⟩
theorem own_ofmap {base g n cap : Nat} {xs : List (List UInt8)} {w : World} (hn : n = xs.length) (h : w.ownsRow base 9 1 (.slice (some ⟨g, 0, none⟩) n cap) n (xs.map encStr)) : OwS w base (.slice (some ⟨g, 0, none⟩) n cap) xs := by
  unfold OwS Own
  rw [encS_flat, ← hn]
  exact h
theorem sort_own {base g n cap : Nat} {xs : List (List UInt8)} {w : World} (h : OwS w base (.slice (some ⟨g, 0, none⟩) n cap) xs) (hl : n ≤ 1048576) :
    Calls Tryz.prog 128 #[.slice (some ⟨g, 0, none⟩) n cap] w fun e w' => e = .returned (.tuple #[]) ∧ OwS w' base (.slice (some ⟨g, 0, none⟩) n cap) (xs.mergeSort fun x y => decide (x ≤ y)) ∧ w.grownBy w' (some g) := by
  obtain ⟨cur, hb, hc, rfl, h1, h2, h3, h4⟩ := own_open' h
  refine (Tryz.slices_Sort_string g 0 cap xs w (holds_of_block hc h4) (Array.getElem?_eq_some_iff.1 hc).1 (by omega)).mono ?_
  rintro e w' ⟨he, q, os, hw⟩
  subst hw
  have hlen : (xs.mergeSort fun x y => decide (x ≤ y)).length = xs.length := List.length_mergeSort _
  exact ⟨he, own_ofmap hlen.symm (ownsRow_sorted hlen hb hc h1 h2 h3), grownBy_sorted _⟩
theorem compact_own {base g n cap : Nat} {xs : List (List UInt8)} {w : World} (h : OwS w base (.slice (some ⟨g, 0, none⟩) n cap) xs) (hl : n ≤ 1048576) :
    Calls Tryz.prog 129 #[.slice (some ⟨g, 0, none⟩) n cap] w fun e w' => e = .returned (.slice (some ⟨g, 0, none⟩) (Lib.compact xs).length cap) ∧ OwS w' base (.slice (some ⟨g, 0, none⟩) (Lib.compact xs).length cap) (Lib.compact xs) ∧ w.grownBy w' (some g) := by
  obtain ⟨cur, hb, hc, rfl, h1, h2, h3, h4⟩ := own_open' h
  refine (Tryz.slices_Compact_string g 0 cap xs w (holds_of_block hc h4) (by omega) h1).mono ?_
  rintro e w' ⟨he, q, hw⟩
  subst hw
  have hcl := compact_len xs
  have hts : (Lib.compact xs ++ List.replicate (xs.length - (Lib.compact xs).length) []).length = xs.length := by simp; omega
  have hO2 := ownsRow_sorted (n := q) (os := #[]) (ss := xs) (ts := Lib.compact xs ++ List.replicate (xs.length - (Lib.compact xs).length) []) hts hb hc h1 h2 h3
  have hg2 := grownBy_sorted (n := q) (os := #[]) (w := w) (g := g) (Lib.compact xs ++ List.replicate (xs.length - (Lib.compact xs).length) []).toArray
  rw [grow_empty] at hO2 hg2
  have hO3 := own_ofmap hts.symm hO2
  refine ⟨he, ?_, hg2⟩
  rcases Nat.eq_zero_or_pos xs.length with hz | hz
  · have hxs : xs = [] := List.length_eq_zero_iff.1 hz
    subst hxs
    exact hO3
  · exact hO3.front len_encS (by rw [hts]; exact hz)
theorem sortA_nil : sortA [] = [] := by simp [sortA, cpt]
set_option maxHeartbeats 1600000 in
theorem i_sorted (base : Nat) (v : Value) (xs : List (List UInt8)) (w : World) (h : OwS w base v xs) (hl : xs.length ≤ 1048576) :
    Calls Tryz.prog 99 #[v] w fun e w' => ∃ v', e = .returned v' ∧ OwS w' base v' (sortA xs) ∧ w.grownBy w' v.ownBlock := by
  rcases h.2 with ⟨rfl, h0⟩ | ⟨g, cap, cur, rfl, hbase, hb, h1, h2, h3, h4⟩
  · have hx : xs = [] := List.length_eq_zero_iff.1 h0
    subst hx
    clear h
    go_enter Tryz.func99, Tryz.ntmps99
    go_wp2_with fail
    refine (Tryz.slices_Sort_string_none none 0 _).mono ?_
    rintro e w' ⟨rfl, rfl⟩
    go_wp2_with fail
    refine (Tryz.slices_Compact_string_empty none 0 _).mono ?_
    rintro e w' ⟨rfl, rfl⟩
    go_wp2
    go_ret
    exact ⟨_, rfl, by rw [sortA_nil]; exact Own.nil _ _, World.grownBy.refl _ _⟩
  · clear hb h1 h2 h3 h4 hbase
    have hS := sort_own h hl
    have HC : Hid (∀ W, OwS W base (.slice (some ⟨g, 0, none⟩) xs.length cap) (xs.mergeSort fun x y => decide (x ≤ y)) → Calls Tryz.prog 129 #[.slice (some ⟨g, 0, none⟩) xs.length cap] W fun e w' => e = .returned (.slice (some ⟨g, 0, none⟩) (sortA xs).length cap) ∧ OwS w' base (.slice (some ⟨g, 0, none⟩) (sortA xs).length cap) (sortA xs) ∧ W.grownBy w' (some g)) := Lib.hid (fun W hW => by
      have := compact_own hW hl
      rw [compact_sort] at this
      exact this)
    have HS := Lib.hid hS
    generalize (xs.mergeSort fun x y => decide (x ≤ y)) = ss at *
    generalize sortA xs = ts at *
    generalize xs.length = n at *
    clear h hS
    go_enter Tryz.func99, Tryz.ntmps99
    go_wp2_with fail
    refine HS.out.mono ?_
    rintro e w1 ⟨rfl, hO1, hg1⟩
    have HO1 := Lib.hid hO1
    have HG1 := Lib.hid hg1
    clear hO1 hg1
    go_wp2_with fail
    refine (HC.out _ HO1.out).mono ?_
    rintro e w2 ⟨rfl, hO2, hg2⟩
    have HO2 := Lib.hid hO2
    have HG2 := Lib.hid hg2
    clear hO2 hg2
    go_wp2
    go_ret
    exact ⟨_, rfl, HO2.out, HG1.out.trans HG2.out⟩

/-- the children among the first k links that p asks for -/
def chTo (L : List Lk) (y : Int) (p : List UInt8 → Bool) (k : Nat) : List (List UInt8) := ((L.take k).filter fun l => lkHas l y && p l.1).map fun l => l.1
theorem chTo_succ {L : List Lk} {y : Int} {p : List UInt8 → Bool} {k : Nat} (hk : k < L.length) : chTo L y p (k + 1) = if (lkHas (L.getD k lkD) y && p (L.getD k lkD).1) = true then chTo L y p k ++ [(L.getD k lkD).1] else chTo L y p k := by
  unfold chTo
  rw [List.take_succ_eq_append_getElem hk, List.filter_append, List.map_append, show L.getD k lkD = L[k] by simp [List.getD, hk]]
  by_cases h : (lkHas L[k] y && p L[k].1) = true
  · rw [if_pos h]; simp [h]
  · rw [if_neg h]; simp [h]
theorem chTo_len (L : List Lk) (y : Int) (p : List UInt8 → Bool) (k : Nat) : (chTo L y p k).length ≤ k := by
  unfold chTo
  rw [List.length_map]
  have := List.length_filter_le (fun l => lkHas l y && p l.1) (L.take k)
  rw [List.length_take] at this
  omega
set_option maxRecDepth 20000 in
set_option maxHeartbeats 6400000 in
theorem i_childrenOf (p : List UInt8 → Bool) (g : Nat) (lb : Array Value) (eg : ∀ args w, (callFunc g args).run Tryz.prog w = .ok (.enter g args) w) (A : Option Addr) (n c : Nat) (L : List Lk) (y : Int) (w : World) (h : SlAt w 4 encK A L) (hn : n = L.length) (hl : n ≤ 1000)
    (hp : ∀ l ∈ L, ∀ W, Ext w W → Calls Tryz.prog g (#[.string (tx l.1)] ++ lb) W fun e w' => e = .returned (.bool (p l.1)) ∧ Ext W w') :
    Calls Tryz.prog 67 #[.slice A n c, .int .i64 y, .func (.func g) #[] lb] w fun e w' => ∃ v, e = .returned v ∧ OwS w' w.heap.size v (sortA ((L.filter fun l => lkHas l y && p l.1).map fun l => l.1)) ∧ Ext w w' := by
  have HP := Lib.hid hp
  have HN := Lib.hid hn
  have HS := Lib.hid h
  have hfin : chTo L y p n = (L.filter fun l => lkHas l y && p l.1).map fun l => l.1 := by unfold chTo; rw [hn, List.take_length]
  have HFIN := Lib.hid hfin
  clear hp hn h hfin
  go_enter Tryz.func67, Tryz.ntmps67
  go_wp2
  go_loopw [7, 12] (fun v i wr => ∃ k : Nat, k ≤ n ∧ i = .int .i64 k ∧ Hid (OwS wr w.heap.size v (chTo L y p k)) ∧ Ext w wr) (fun _ i _ => n - (intOf i).toNat)
  case atStart => exact ⟨0, by omega, rfl, Lib.hid (Own.nil _ _), by (with_reducible repeat (first | exact Ext.refl _ | assumption | (apply Src.ext; assumption) | refine Ext.alloc ?_ _ | refine Ext.drew ?_ | refine Ext.drewN ?_ _ | (refine Ext.setCell' ?_ ?_ _; solve | omega | simp | (simp; omega)) | refine Ext.trans ?_ (by assumption)))⟩
  case round =>
    obtain ⟨k, hk, rfl, HV, hxr⟩ := hrel
    obtain ⟨w5, rfl⟩ : ∃ x, x = wr := ⟨wr, rfl⟩
    by_cases hlt : k < n
    · have hkr : k < L.length := by rw [← HN.out]; exact hlt
      obtain ⟨b, off, rfl, hb, d0, d1, d2, d3⟩ := (HS.out.ext hxr).lk hkr
      have hcall := HP.out _ (mem_getD (d := lkD) hkr)
      have hsucc := chTo_succ (y := y) (p := p) hkr
      have hln := chTo_len L y p k
      have HH := Lib.hid (fun W => i_has (L.getD k lkD).2.2.1 (L.getD k lkD).2.2.2 y W)
      have hlk : lkHas (L.getD k lkD) y = inB y (L.getD k lkD).2.2.1 (L.getD k lkD).2.2.2 := rfl
      cases hq : lkHas (L.getD k lkD) y with
      | false =>
        rw [hq] at hsucc
        rw [← hlk, hq] at HH
        have HSU : Hid (chTo L y p (k + 1) = chTo L y p k) := Lib.hid (by rw [hsucc]; simp)
        clear hcall hsucc hlk hq
        generalize L.getD k lkD = l at *
        generalize tx l.1 = sc at *
        generalize tx l.2.1 = sp at *
        go_wp2_with fail
        refine (HH.out _).mono ?_
        rintro e w1 ⟨rfl, hx1⟩
        go_wp2
        go_roundw
        case rel => exact ⟨k + 1, by omega, by go_num, Lib.hid (by rw [HSU.out]; exact HV.out.ext (by (with_reducible repeat (first | exact Ext.refl _ | assumption | (apply Src.ext; assumption) | refine Ext.alloc ?_ _ | refine Ext.drew ?_ | refine Ext.drewN ?_ _ | (refine Ext.setCell' ?_ ?_ _; solve | omega | simp | (simp; omega)) | refine Ext.trans ?_ (by assumption))))), by (with_reducible repeat (first | exact Ext.refl _ | assumption | (apply Src.ext; assumption) | refine Ext.alloc ?_ _ | refine Ext.drew ?_ | refine Ext.drewN ?_ _ | (refine Ext.setCell' ?_ ?_ _; solve | omega | simp | (simp; omega)) | refine Ext.trans ?_ (by assumption)))⟩
        case measure => simp [intOf]; omega
      | true =>
        rw [← hlk, hq] at HH
        cases hq2 : p (L.getD k lkD).1 with
        | false =>
          rw [hq, hq2] at hsucc
          rw [hq2] at hcall
          have HC := Lib.hid hcall
          have HSU : Hid (chTo L y p (k + 1) = chTo L y p k) := Lib.hid (by rw [hsucc]; simp)
          clear hcall hsucc hlk hq hq2
          generalize L.getD k lkD = l at *
          generalize tx l.1 = sc at *
          generalize tx l.2.1 = sp at *
          go_wp2_with fail
          refine (HH.out _).mono ?_
          rintro e w1 ⟨rfl, hx1⟩
          obtain ⟨hc1, hf1⟩ := hx1.rules
          have hs1 := hx1.size
          (try simp at hs1)
          have := (show w5.heap.size < w1.heap.size from by omega)
          go_wp2_with fail
          refine (HC.out _ (by (with_reducible repeat (first | exact Ext.refl _ | assumption | (apply Src.ext; assumption) | refine Ext.alloc ?_ _ | refine Ext.drew ?_ | refine Ext.drewN ?_ _ | (refine Ext.setCell' ?_ ?_ _; solve | omega | simp | (simp; omega)) | refine Ext.trans ?_ (by assumption))))).mono ?_
          rintro e w2 ⟨rfl, hx2⟩
          go_wp2
          go_roundw
          case rel => exact ⟨k + 1, by omega, by go_num, Lib.hid (by rw [HSU.out]; exact HV.out.ext (by (with_reducible repeat (first | exact Ext.refl _ | assumption | (apply Src.ext; assumption) | refine Ext.alloc ?_ _ | refine Ext.drew ?_ | refine Ext.drewN ?_ _ | (refine Ext.setCell' ?_ ?_ _; solve | omega | simp | (simp; omega)) | refine Ext.trans ?_ (by assumption))))), by (with_reducible repeat (first | exact Ext.refl _ | assumption | (apply Src.ext; assumption) | refine Ext.alloc ?_ _ | refine Ext.drew ?_ | refine Ext.drewN ?_ _ | (refine Ext.setCell' ?_ ?_ _; solve | omega | simp | (simp; omega)) | refine Ext.trans ?_ (by assumption)))⟩
          case measure => simp [intOf]; omega
        | true =>
          rw [hq, hq2] at hsucc
          rw [hq2] at hcall
          have HC := Lib.hid hcall
          have HSU : Hid (chTo L y p (k + 1) = chTo L y p k ++ [(L.getD k lkD).1]) := Lib.hid (by rw [hsucc]; simp)
          have HBL := Lib.hid (fun (W : World) (g : Nat) (hB : Blk W g 9 #[.string (tx (L.getD k lkD).1)]) => blk_s1 hB)
          clear hcall hsucc hlk hq hq2
          generalize L.getD k lkD = l at *
          have HLN : Hid ((chTo L y p k).length ≤ 1000) := Lib.hid (by omega)
          generalize tx l.1 = sc at *
          generalize tx l.2.1 = sp at *
          clear hln
          go_wp2_with fail
          refine (HH.out _).mono ?_
          rintro e w1 ⟨rfl, hx1⟩
          obtain ⟨hc1, hf1⟩ := hx1.rules
          have hs1 := hx1.size
          (try simp at hs1)
          have := (show w5.heap.size < w1.heap.size from by omega)
          go_wp2_with fail
          refine (HC.out _ (by (with_reducible repeat (first | exact Ext.refl _ | assumption | (apply Src.ext; assumption) | refine Ext.alloc ?_ _ | refine Ext.drew ?_ | refine Ext.drewN ?_ _ | (refine Ext.setCell' ?_ ?_ _; solve | omega | simp | (simp; omega)) | refine Ext.trans ?_ (by assumption))))).mono ?_
          rintro e w2 ⟨rfl, hx2⟩
          obtain ⟨hc2, hf2⟩ := hx2.rules
          have hs2 := hx2.size
          (try simp at hs2)
          have := (show w5.heap.size < w2.heap.size from by omega)
          have hsr := hxr.size
          have HV1 : Hid (OwS w2 w.heap.size _ (chTo L y p k)) := Lib.hid (HV.out.ext (by (with_reducible repeat (first | exact Ext.refl _ | assumption | (apply Src.ext; assumption) | refine Ext.alloc ?_ _ | refine Ext.drew ?_ | refine Ext.drewN ?_ _ | (refine Ext.setCell' ?_ ?_ _; solve | omega | simp | (simp; omega)) | refine Ext.trans ?_ (by assumption)))))
          go_wp2_with (at_builtin; refine wpList_append_sl elS len_encS one_encS rfl _ _ rfl rfl (HV1.out.ext (by (with_reducible repeat (first | exact Ext.refl _ | assumption | (apply Src.ext; assumption) | refine Ext.alloc ?_ _ | refine Ext.drew ?_ | refine Ext.drewN ?_ _ | (refine Ext.setCell' ?_ ?_ _; solve | omega | simp | (simp; omega)) | refine Ext.trans ?_ (by assumption))))) (xs := [l.1]) rfl (HBL.out _ _ (by (with_reducible repeat (first | assumption | (apply Blk.new; solve | simp | with_unfolding_all rfl) | apply Blk.drew | apply Blk.drewN | (apply Blk.far'; solve | omega | simp | (simp; omega)) | apply Blk.set_ | apply Blk.alloc | (apply Blk.ext'; assumption) | (apply Blk.but'; assumption; solve | omega | (simp; omega)))))) (by have := HLN.out; simp; unfold maxLen; omega) (by have := HLN.out; simp; omega) (by first | omega | (simp; omega)) ?_)
          intro v' w6 hown hgrow _
          have HV2 := Lib.hid hown
          have hx6 : Ext w w6 := by
            refine Ext.grown ?_ hgrow (fun q hq => (HV.out.row q hq).1)
            (with_reducible repeat (first | exact Ext.refl _ | assumption | (apply Src.ext; assumption) | refine Ext.alloc ?_ _ | refine Ext.drew ?_ | refine Ext.drewN ?_ _ | (refine Ext.setCell' ?_ ?_ _; solve | omega | simp | (simp; omega)) | refine Ext.trans ?_ (by assumption)))
          clear hown hgrow
          go_wp2
          go_roundw
          case rel => exact ⟨k + 1, by omega, by go_num, Lib.hid (by rw [HSU.out]; exact HV2.out), hx6⟩
          case measure => simp [intOf]; omega
    · obtain rfl : k = n := by omega
      have hln := chTo_len L y p k
      have HC := Lib.hid (i_sorted _ _ _ _ HV.out (by omega))
      rw [HFIN.out] at HC
      go_wp2_with fail
      refine HC.out.mono ?_
      rintro e w1 ⟨v', rfl, hO, hg⟩
      have HO := Lib.hid hO
      have hx1 : Ext w w1 := hxr.grown hg (fun q hq => (HV.out.row q hq).1)
      clear hg hO
      go_wp2
      go_ret
      exact ⟨_, rfl, HO.out, hx1⟩
end Go.Proofs.YtbnkiibjhfcffaaGreatDoor
namespace Go.Proofs.YtbnkiibjhfcffaaGreatDoor
open Go.RowKit
attribute [local go_sem] ExtOf.cell ExtOf.frozen

theorem two_any (L : List Lk) (l : Lk) (k : Nat) : ((L.take k).any (twoB l)) = ((L.take k).any fun m => m.1 == l.1 && meetB m.2.2.1 m.2.2.2 l.2.2.1 l.2.2.2) := rfl
set_option maxRecDepth 20000 in
set_option maxHeartbeats 12800000 in
theorem i_AreLinks (A : Option Addr) (n c : Nat) (L : List Lk) (w : World) (h : SlAt w 4 encK A L) (hn : n = L.length) (hl : L.length ≤ 1048576) (hcap : n ≤ c) (hg : Links L) :
    Calls Tryz.prog 85 #[.slice A n c] w fun e w' => e = .returned (.bool (lksB L)) ∧ Ext w w' := by
  have HN := Lib.hid hn
  have hn2 : n ≤ 1048576 := by omega
  have HS := Lib.hid h
  clear hn h
  go_enter Tryz.func85, Tryz.ntmps85
  go_wp2
  go_loopw [11] (fun i wr => ∃ k : Nat, k ≤ n ∧ i = .int .i64 k ∧ Hid (∀ j, j < k → okK L j) ∧ Ext w wr) (fun i _ => n - (intOf i).toNat)
  case atStart => exact ⟨0, by omega, rfl, fun j hj => absurd hj (by omega), by (with_reducible repeat (first | exact Ext.refl _ | assumption | (apply Src.ext; assumption) | refine Ext.alloc ?_ _ | refine Ext.drew ?_ | refine Ext.drewN ?_ _ | (refine Ext.setCell' ?_ ?_ _; solve | omega | simp | (simp; omega)) | refine Ext.trans ?_ (by assumption)))⟩
  case round =>
    obtain ⟨k, hk, rfl, HJ, hxr⟩ := hrel
    obtain ⟨w5, rfl⟩ : ∃ x, x = wr := ⟨wr, rfl⟩
    by_cases hlt : k < n
    · have hkl : k < L.length := by have := HN.out; omega
      obtain ⟨b, off, rfl, hb, d0, d1, d2, d3⟩ := (HS.out.ext hxr).lk hkl
      have hgk := hg k
      obtain ⟨v, hve⟩ : ∃ v, v = L.getD k lkD := ⟨_, rfl⟩
      rw [← hve] at d0 d1 d2 d3 hgk
      have HV := Lib.hid hve
      have HC := Lib.hid (fun W => i_isLink v W hgk.1 hgk.2)
      have HK2 : Hid (∀ W g, Blk W g 80 #[.string (tx v.1), .string (tx v.2.1), .int .i64 v.2.2.1, .int .i64 v.2.2.2] → Ext w W → Calls Tryz.prog 86 #[.slice (some ⟨b, off, none⟩) k c, .func (.func 113) #[] #[.pointer (some ⟨g, 0, none⟩)]] W fun e w' => e = .returned (.bool ((L.take k).any (twoB v))) ∧ Ext W w') := Lib.hid (fun W g hB hx =>
        i_ContainsFuncK (twoB v) _ _ en_AreLinks1 _ k c (L.take k) W ((HS.out.ext hx).take k) (by rw [List.length_take]; omega) (by omega) (fun m _ W' hW' => i_AreLinks1 v m g W' ((hB.ext hW').cell 0) ((hB.ext hW').cell 2) ((hB.ext hW').cell 3)))
      have hres : ∀ q, ((L.take k).any (twoB v)) = q → lkB v = true → (q = true → lksB L = false) ∧ (q = false → okK L k) := fun q hq hq2 => by
        rw [HV.out, two_any] at hq
        rw [HV.out] at hq2
        exact ⟨fun e => lksB_two hkl (by rw [hq]; exact e), fun e => okK_of hkl hq2 (by rw [hq]; exact e)⟩
      have HRES := Lib.hid hres
      have f1 : (0 : Int) ≤ (k : Int) := by omega
      have f2 : (k : Int) ≤ (c : Int) := by omega
      have f3 : (k : Int) ≤ (n : Int) := by omega
      clear hve hgk hres
      cases hq : lkB v with
      | false =>
        have HNO : Hid (lksB L = false) := Lib.hid (lksB_bad hkl (by rw [← HV.out]; exact hq))
        rw [hq] at HC
        generalize tx v.1 = sc at *
        generalize tx v.2.1 = sp at *
        clear hq hkl
        (go_wp2_with fail; refine (HC.out _).mono ?_; rintro e w1 ⟨rfl, hx1⟩; obtain ⟨hc1, hf1⟩ := hx1.rules; have hs1 := hx1.size; (try simp at hs1); have := (show w5.heap.size < w1.heap.size from by omega))
        go_wp2
        go_ret
        exact ⟨ret_bool' HNO.out.symm, by (with_reducible repeat (first | exact Ext.refl _ | assumption | (apply Src.ext; assumption) | refine Ext.alloc ?_ _ | refine Ext.drew ?_ | refine Ext.drewN ?_ _ | (refine Ext.setCell' ?_ ?_ _; solve | omega | simp | (simp; omega)) | refine Ext.trans ?_ (by assumption)))⟩
      | true =>
        have HQ := Lib.hid (HRES.out _ rfl hq)
        rw [hq] at HC
        generalize tx v.1 = sc at *
        generalize tx v.2.1 = sp at *
        clear hq hkl
        cases hq2 : (L.take k).any (twoB v) with
        | true =>
          rw [hq2] at HK2 HQ
          have HNO : Hid (lksB L = false) := Lib.hid (HQ.out.1 rfl)
          clear hq2
          (go_wp2_with fail; refine (HC.out _).mono ?_; rintro e w1 ⟨rfl, hx1⟩; obtain ⟨hc1, hf1⟩ := hx1.rules; have hs1 := hx1.size; (try simp at hs1); have := (show w5.heap.size < w1.heap.size from by omega))
          go_wp2_with fail
          refine (HK2.out _ _ (by (with_reducible repeat (first | assumption | (apply Blk.new; solve | simp | with_unfolding_all rfl) | apply Blk.drew | apply Blk.drewN | (apply Blk.far'; solve | omega | simp | (simp; omega)) | apply Blk.set_ | apply Blk.alloc | (apply Blk.ext'; assumption) | (apply Blk.but'; assumption; solve | omega | (simp; omega))))) (by (with_reducible repeat (first | exact Ext.refl _ | assumption | (apply Src.ext; assumption) | refine Ext.alloc ?_ _ | refine Ext.drew ?_ | refine Ext.drewN ?_ _ | (refine Ext.setCell' ?_ ?_ _; solve | omega | simp | (simp; omega)) | refine Ext.trans ?_ (by assumption))))).mono ?_
          rintro e w2 ⟨rfl, hx2⟩
          go_wp2
          go_ret
          exact ⟨ret_bool' HNO.out.symm, by (with_reducible repeat (first | exact Ext.refl _ | assumption | (apply Src.ext; assumption) | refine Ext.alloc ?_ _ | refine Ext.drew ?_ | refine Ext.drewN ?_ _ | (refine Ext.setCell' ?_ ?_ _; solve | omega | simp | (simp; omega)) | refine Ext.trans ?_ (by assumption)))⟩
        | false =>
          rw [hq2] at HK2 HQ
          have HJ2 := Lib.hid (upTo_succ HJ.out (HQ.out.2 rfl))
          clear hq2
          (go_wp2_with fail; refine (HC.out _).mono ?_; rintro e w1 ⟨rfl, hx1⟩; obtain ⟨hc1, hf1⟩ := hx1.rules; have hs1 := hx1.size; (try simp at hs1); have := (show w5.heap.size < w1.heap.size from by omega))
          go_wp2_with fail
          refine (HK2.out _ _ (by (with_reducible repeat (first | assumption | (apply Blk.new; solve | simp | with_unfolding_all rfl) | apply Blk.drew | apply Blk.drewN | (apply Blk.far'; solve | omega | simp | (simp; omega)) | apply Blk.set_ | apply Blk.alloc | (apply Blk.ext'; assumption) | (apply Blk.but'; assumption; solve | omega | (simp; omega))))) (by (with_reducible repeat (first | exact Ext.refl _ | assumption | (apply Src.ext; assumption) | refine Ext.alloc ?_ _ | refine Ext.drew ?_ | refine Ext.drewN ?_ _ | (refine Ext.setCell' ?_ ?_ _; solve | omega | simp | (simp; omega)) | refine Ext.trans ?_ (by assumption))))).mono ?_
          rintro e w2 ⟨rfl, hx2⟩
          go_wp2
          go_roundw
          case rel => exact ⟨k + 1, by omega, by go_num, HJ2, by (with_reducible repeat (first | exact Ext.refl _ | assumption | (apply Src.ext; assumption) | refine Ext.alloc ?_ _ | refine Ext.drew ?_ | refine Ext.drewN ?_ _ | (refine Ext.setCell' ?_ ?_ _; solve | omega | simp | (simp; omega)) | refine Ext.trans ?_ (by assumption)))⟩
          case measure => simp [intOf]; omega
    · obtain rfl : k = n := by omega
      have HP : Hid (∀ j, j < L.length → okK L j) := Lib.hid fun j hj => HJ.out j (by have := HN.out; omega)
      go_wp2
      go_loopw [29] (fun i wr => ∃ a : Nat, a ≤ k ∧ i = .int .i64 a ∧ Hid (∀ q, q < a → ∀ m, m < k → (lkHas (L.getD m lkD) (L.getD q lkD).2.2.1 && (wayU L (L.getD m lkD).1 (L.getD q lkD).2.2.1).2) = false) ∧ Ext w wr) (fun i _ => k - (intOf i).toNat)
      case atStart => exact ⟨0, by omega, rfl, fun j hj => absurd hj (by omega), by (with_reducible repeat (first | exact Ext.refl _ | assumption | (apply Src.ext; assumption) | refine Ext.alloc ?_ _ | refine Ext.drew ?_ | refine Ext.drewN ?_ _ | (refine Ext.setCell' ?_ ?_ _; solve | omega | simp | (simp; omega)) | refine Ext.trans ?_ (by assumption)))⟩
      case round =>
        obtain ⟨a, ha, rfl, HA, hxa⟩ := hrel
        obtain ⟨w6, rfl⟩ : ∃ x, x = wr := ⟨wr, rfl⟩
        by_cases hak : a < k
        · have hal : a < L.length := by have := HN.out; omega
          obtain ⟨b, off, rfl, hb, d0, d1, d2, d3⟩ := (HS.out.ext hxa).lk hal
          obtain ⟨u, hue⟩ : ∃ u, u = L.getD a lkD := ⟨_, rfl⟩
          rw [← hue] at d0 d1 d2 d3
          have HU := Lib.hid hue
          have hsa := hxa.size
          clear hue
          generalize hsc : tx u.1 = sc at *
          generalize hsp : tx u.2.1 = sp at *
          clear hsc hsp
          go_wp2
          go_loopw [35] (fun i wi => ∃ j : Nat, j ≤ k ∧ i = .int .i64 j ∧ Hid (∀ m, m < j → (lkHas (L.getD m lkD) u.2.2.1 && (wayU L (L.getD m lkD).1 u.2.2.1).2) = false) ∧ Blk wi w6.heap.size 80 #[.string sc, .string sp, .int .i64 u.2.2.1, .int .i64 u.2.2.2] ∧ Ext w6 wi) (fun i _ => k - (intOf i).toNat)
          case atStart => exact ⟨0, by omega, rfl, fun q hq => absurd hq (by omega), Blk.eq (by (with_reducible repeat (first | assumption | (apply Blk.new; solve | simp | with_unfolding_all rfl) | apply Blk.drew | apply Blk.drewN | (apply Blk.far'; solve | omega | simp | (simp; omega)) | apply Blk.set_ | apply Blk.alloc | (apply Blk.ext'; assumption) | (apply Blk.but'; assumption; solve | omega | (simp; omega))))) (by rfl), by (with_reducible repeat (first | exact Ext.refl _ | assumption | (apply Src.ext; assumption) | refine Ext.alloc ?_ _ | refine Ext.drew ?_ | refine Ext.drewN ?_ _ | (refine Ext.setCell' ?_ ?_ _; solve | omega | simp | (simp; omega)) | refine Ext.trans ?_ (by assumption)))⟩
          case round =>
            obtain ⟨j, hj, rfl, HO, hB, hxi⟩ := hrel
            obtain ⟨w7, rfl⟩ : ∃ x, x = wr := ⟨wr, rfl⟩
            have hxw := hxa.trans hxi
            have hBl := hB.lt
            have b2 : w7.cell? ⟨w6.heap.size, 2, none⟩ = some (.int .i64 u.2.2.1) := hB.cell 2
            have HB := Lib.hid hB
            clear hB d0 d1 d2 d3 hb
            by_cases hjk : j < k
            · have hjl : j < L.length := by have := HN.out; omega
              obtain ⟨b', off', hA', hb', e0, e1, e2, e3⟩ := (HS.out.ext hxw).lk hjl
              injection hA' with hA'
              injection hA' with hA1 hA2
              subst hA1 hA2
              obtain ⟨v, hve⟩ : ∃ v, v = L.getD j lkD := ⟨_, rfl⟩
              rw [← hve] at e0 e1 e2 e3
              have HV := Lib.hid hve
              have HH := Lib.hid (fun W => i_has v.2.2.1 v.2.2.2 u.2.2.1 W)
              have HCI := Lib.hid (fun W hW => i_isCircle (some ⟨b, off, none⟩) k c L v.1 u.2.2.1 W hW HN.out hn2)
              have hlk : lkHas v u.2.2.1 = inB u.2.2.1 v.2.2.1 v.2.2.2 := rfl
              clear hve
              cases hq : lkHas v u.2.2.1 with
              | false =>
                rw [← hlk, hq] at HH
                have HO2 := Lib.hid (upTo_succ (P := fun m => (lkHas (L.getD m lkD) u.2.2.1 && (wayU L (L.getD m lkD).1 u.2.2.1).2) = false) HO.out (by rw [← HV.out, hq]; rfl))
                generalize tx v.1 = vc at *
                generalize tx v.2.1 = vp at *
                clear hq hlk hjl
                (go_wp2_with fail; refine (HH.out _).mono ?_; rintro e w1 ⟨rfl, hx1⟩; obtain ⟨hc1, hf1⟩ := hx1.rules; have hs1 := hx1.size; (try simp at hs1); have := (show w6.heap.size < w1.heap.size from by omega); have := (show w7.heap.size < w1.heap.size from by omega))
                go_wp2
                go_roundw
                case rel => exact ⟨j + 1, by omega, by go_num, HO2, HB.out.ext (by (with_reducible repeat (first | exact Ext.refl _ | assumption | (apply Src.ext; assumption) | refine Ext.alloc ?_ _ | refine Ext.drew ?_ | refine Ext.drewN ?_ _ | (refine Ext.setCell' ?_ ?_ _; solve | omega | simp | (simp; omega)) | refine Ext.trans ?_ (by assumption)))), by (with_reducible repeat (first | exact Ext.refl _ | assumption | (apply Src.ext; assumption) | refine Ext.alloc ?_ _ | refine Ext.drew ?_ | refine Ext.drewN ?_ _ | (refine Ext.setCell' ?_ ?_ _; solve | omega | simp | (simp; omega)) | refine Ext.trans ?_ (by assumption)))⟩
                case measure => simp [intOf]; omega
              | true =>
                rw [← hlk, hq] at HH
                cases hq2 : (wayU L v.1 u.2.2.1).2 with
                | false =>
                  rw [hq2] at HCI
                  have HO2 := Lib.hid (upTo_succ (P := fun m => (lkHas (L.getD m lkD) u.2.2.1 && (wayU L (L.getD m lkD).1 u.2.2.1).2) = false) HO.out (by rw [← HV.out, hq, hq2]; rfl))
                  generalize tx v.1 = vc at *
                  generalize tx v.2.1 = vp at *
                  clear hq hq2 hlk hjl
                  (go_wp2_with fail; refine (HH.out _).mono ?_; rintro e w1 ⟨rfl, hx1⟩; obtain ⟨hc1, hf1⟩ := hx1.rules; have hs1 := hx1.size; (try simp at hs1); have := (show w6.heap.size < w1.heap.size from by omega); have := (show w7.heap.size < w1.heap.size from by omega))
                  go_wp2_with fail
                  refine (HCI.out _ (HS.out.ext (hxw.trans (by (with_reducible repeat (first | exact Ext.refl _ | assumption | (apply Src.ext; assumption) | refine Ext.alloc ?_ _ | refine Ext.drew ?_ | refine Ext.drewN ?_ _ | (refine Ext.setCell' ?_ ?_ _; solve | omega | simp | (simp; omega)) | refine Ext.trans ?_ (by assumption))))))).mono ?_
                  rintro e w2 ⟨rfl, hx2⟩
                  go_wp2
                  go_roundw
                  case rel => exact ⟨j + 1, by omega, by go_num, HO2, HB.out.ext (by (with_reducible repeat (first | exact Ext.refl _ | assumption | (apply Src.ext; assumption) | refine Ext.alloc ?_ _ | refine Ext.drew ?_ | refine Ext.drewN ?_ _ | (refine Ext.setCell' ?_ ?_ _; solve | omega | simp | (simp; omega)) | refine Ext.trans ?_ (by assumption)))), by (with_reducible repeat (first | exact Ext.refl _ | assumption | (apply Src.ext; assumption) | refine Ext.alloc ?_ _ | refine Ext.drew ?_ | refine Ext.drewN ?_ _ | (refine Ext.setCell' ?_ ?_ _; solve | omega | simp | (simp; omega)) | refine Ext.trans ?_ (by assumption)))⟩
                  case measure => simp [intOf]; omega
                | true =>
                  rw [hq2] at HCI
                  have HNO : Hid (lksB L = false) := Lib.hid (lksB_cir hal hjl (by rw [← HV.out, ← HU.out]; exact hq2))
                  generalize tx v.1 = vc at *
                  generalize tx v.2.1 = vp at *
                  clear hq hq2 hlk hjl
                  (go_wp2_with fail; refine (HH.out _).mono ?_; rintro e w1 ⟨rfl, hx1⟩; obtain ⟨hc1, hf1⟩ := hx1.rules; have hs1 := hx1.size; (try simp at hs1); have := (show w6.heap.size < w1.heap.size from by omega); have := (show w7.heap.size < w1.heap.size from by omega))
                  go_wp2_with fail
                  refine (HCI.out _ (HS.out.ext (hxw.trans (by (with_reducible repeat (first | exact Ext.refl _ | assumption | (apply Src.ext; assumption) | refine Ext.alloc ?_ _ | refine Ext.drew ?_ | refine Ext.drewN ?_ _ | (refine Ext.setCell' ?_ ?_ _; solve | omega | simp | (simp; omega)) | refine Ext.trans ?_ (by assumption))))))).mono ?_
                  rintro e w2 ⟨rfl, hx2⟩
                  go_wp2
                  go_ret
                  exact ⟨ret_bool' HNO.out.symm, hxw.trans (by (with_reducible repeat (first | exact Ext.refl _ | assumption | (apply Src.ext; assumption) | refine Ext.alloc ?_ _ | refine Ext.drew ?_ | refine Ext.drewN ?_ _ | (refine Ext.setCell' ?_ ?_ _; solve | omega | simp | (simp; omega)) | refine Ext.trans ?_ (by assumption))))⟩
            · obtain rfl : j = k := by omega
              have HA2 := Lib.hid (upTo_succ (P := fun q => ∀ m, m < j → (lkHas (L.getD m lkD) (L.getD q lkD).2.2.1 && (wayU L (L.getD m lkD).1 (L.getD q lkD).2.2.1).2) = false) HA.out (by rw [← HU.out]; exact HO.out))
              go_wp2
              go_roundw
              case rel => exact ⟨a + 1, by omega, by go_num, HA2, hxa.trans (by (with_reducible repeat (first | exact Ext.refl _ | assumption | (apply Src.ext; assumption) | refine Ext.alloc ?_ _ | refine Ext.drew ?_ | refine Ext.drewN ?_ _ | (refine Ext.setCell' ?_ ?_ _; solve | omega | simp | (simp; omega)) | refine Ext.trans ?_ (by assumption))))⟩
              case measure => simp [intOf]; omega
        · obtain rfl : a = k := by omega
          have hres : lksB L = decide ((a : Int) ≤ 20) := by
            by_cases h20 : a ≤ 20
            · rw [decide_eq_true (by omega)]
              exact lksB_yes HP.out (fun i hi m hm => HA.out i (by have := HN.out; omega) m (by have := HN.out; omega)) (by have := HN.out; omega)
            · rw [decide_eq_false (by omega)]
              exact lksB_long (by have := HN.out; omega)
          have HR := Lib.hid hres
          clear hres
          go_wp2
          go_ret
          exact ⟨ret_bool' HR.out.symm, by (with_reducible repeat (first | exact Ext.refl _ | assumption | (apply Src.ext; assumption) | refine Ext.alloc ?_ _ | refine Ext.drew ?_ | refine Ext.drewN ?_ _ | (refine Ext.setCell' ?_ ?_ _; solve | omega | simp | (simp; omega)) | refine Ext.trans ?_ (by assumption)))⟩

theorem as_boolG {P : Program} {f : FuncId} {args : Array Value} {w : World} {b b' : Bool} (h : Calls P f args w fun e w' => e = .returned (.bool b) ∧ w = w') (e : b = b') : Calls P f args w fun e w' => e = .returned (.bool b') ∧ w = w' := e ▸ h
set_option maxHeartbeats 3200000 in
theorem i_linkCode (A A' : Option Addr) (n c m c' : Nat) (L : List Lk) (cs : List (List UInt8)) (y : Int) (w : World) (h : SlAt w 4 encK A L) (hn : n = L.length) (hl : L.length ≤ 1048576) (hcap : n ≤ c) (hg : Links L) (h' : SlAt w 1 encS A' cs) (hm : m = cs.length) (hm2 : m ≤ 1000) (hcs : ∀ k, (cs.getD k []).length ≤ 1048576) :
    Calls Tryz.prog 66 #[.slice A n c, .int .i64 y, .slice A' m c'] w fun e w' => e = .returned (.int .i64 (lkC L cs y)) ∧ Ext w w' := by
  have HA := Lib.hid (fun W hW => i_AreLinks A n c L W hW hn hl hcap hg)
  have HW := Lib.hid (fun W hW => i_areWords A' m c' cs W hW hm (by omega) hcs)
  have HS := Lib.hid h
  have HS' := Lib.hid h'
  clear h h' hn hm hg hcs hl
  cases h1 : lksB L with
  | false =>
    rw [lkC_links h1]
    rw [h1] at HA
    clear h1
    go_enter Tryz.func66, Tryz.ntmps66
    (go_wp2_with fail; refine (HA.out _ HS.out).mono ?_; rintro e w1 ⟨rfl, hx1⟩; obtain ⟨hc1, hf1⟩ := hx1.rules; have hs1 := hx1.size; (try simp at hs1))
    go_wp2
    go_ret
    exact ⟨rfl, by (with_reducible repeat (first | exact Ext.refl _ | assumption | (apply Src.ext; assumption) | refine Ext.alloc ?_ _ | refine Ext.drew ?_ | refine Ext.drewN ?_ _ | (refine Ext.setCell' ?_ ?_ _; solve | omega | simp | (simp; omega)) | refine Ext.trans ?_ (by assumption)))⟩
  | true =>
    rw [h1] at HA
    cases h2 : (cs.all fun x => smL x 1 16) with
    | false =>
      rw [lkC_words h2]
      rw [h2] at HW
      clear h1 h2
      go_enter Tryz.func66, Tryz.ntmps66
      (go_wp2_with fail; refine (HA.out _ HS.out).mono ?_; rintro e w1 ⟨rfl, hx1⟩; obtain ⟨hc1, hf1⟩ := hx1.rules; have hs1 := hx1.size; (try simp at hs1))
      (go_wp2_with fail; refine (HW.out _ (HS'.out.ext (by (with_reducible repeat (first | exact Ext.refl _ | assumption | (apply Src.ext; assumption) | refine Ext.alloc ?_ _ | refine Ext.drew ?_ | refine Ext.drewN ?_ _ | (refine Ext.setCell' ?_ ?_ _; solve | omega | simp | (simp; omega)) | refine Ext.trans ?_ (by assumption)))))).mono ?_; rintro e w2 ⟨rfl, hx2⟩; obtain ⟨hc2, hf2⟩ := hx2.rules; have hs2 := hx2.size; (try simp at hs2))
      go_wp2
      go_ret
      exact ⟨rfl, by (with_reducible repeat (first | exact Ext.refl _ | assumption | (apply Src.ext; assumption) | refine Ext.alloc ?_ _ | refine Ext.drew ?_ | refine Ext.drewN ?_ _ | (refine Ext.setCell' ?_ ?_ _; solve | omega | simp | (simp; omega)) | refine Ext.trans ?_ (by assumption)))⟩
    | true =>
      rw [h2] at HW
      cases h3 : inB y (-3000) 3000 with
      | false =>
        rw [lkC_year h1 h2 h3]
        have HY := Lib.hid (fun W => as_boolG (i_isYear y W) h3)
        clear h1 h2 h3
        go_enter Tryz.func66, Tryz.ntmps66
        (go_wp2_with fail; refine (HA.out _ HS.out).mono ?_; rintro e w1 ⟨rfl, hx1⟩; obtain ⟨hc1, hf1⟩ := hx1.rules; have hs1 := hx1.size; (try simp at hs1))
        (go_wp2_with fail; refine (HW.out _ (HS'.out.ext (by (with_reducible repeat (first | exact Ext.refl _ | assumption | (apply Src.ext; assumption) | refine Ext.alloc ?_ _ | refine Ext.drew ?_ | refine Ext.drewN ?_ _ | (refine Ext.setCell' ?_ ?_ _; solve | omega | simp | (simp; omega)) | refine Ext.trans ?_ (by assumption)))))).mono ?_; rintro e w2 ⟨rfl, hx2⟩; obtain ⟨hc2, hf2⟩ := hx2.rules; have hs2 := hx2.size; (try simp at hs2))
        (go_wp2_with fail; refine (HY.out _).mono ?_; rintro e w' ⟨rfl, rfl⟩)
        go_wp2
        go_ret
        exact ⟨rfl, by (with_reducible repeat (first | exact Ext.refl _ | assumption | (apply Src.ext; assumption) | refine Ext.alloc ?_ _ | refine Ext.drew ?_ | refine Ext.drewN ?_ _ | (refine Ext.setCell' ?_ ?_ _; solve | omega | simp | (simp; omega)) | refine Ext.trans ?_ (by assumption)))⟩
      | true =>
        rw [lkC_ok h1 h2 h3]
        have HY := Lib.hid (fun W => as_boolG (i_isYear y W) h3)
        clear h1 h2 h3
        go_enter Tryz.func66, Tryz.ntmps66
        (go_wp2_with fail; refine (HA.out _ HS.out).mono ?_; rintro e w1 ⟨rfl, hx1⟩; obtain ⟨hc1, hf1⟩ := hx1.rules; have hs1 := hx1.size; (try simp at hs1))
        (go_wp2_with fail; refine (HW.out _ (HS'.out.ext (by (with_reducible repeat (first | exact Ext.refl _ | assumption | (apply Src.ext; assumption) | refine Ext.alloc ?_ _ | refine Ext.drew ?_ | refine Ext.drewN ?_ _ | (refine Ext.setCell' ?_ ?_ _; solve | omega | simp | (simp; omega)) | refine Ext.trans ?_ (by assumption)))))).mono ?_; rintro e w2 ⟨rfl, hx2⟩; obtain ⟨hc2, hf2⟩ := hx2.rules; have hs2 := hx2.size; (try simp at hs2))
        (go_wp2_with fail; refine (HY.out _).mono ?_; rintro e w' ⟨rfl, rfl⟩)
        go_wp2
        go_ret
        exact ⟨rfl, by (with_reducible repeat (first | exact Ext.refl _ | assumption | (apply Src.ext; assumption) | refine Ext.alloc ?_ _ | refine Ext.drew ?_ | refine Ext.drewN ?_ _ | (refine Ext.setCell' ?_ ?_ _; solve | omega | simp | (simp; omega)) | refine Ext.trans ?_ (by assumption)))⟩
end Go.Proofs.YtbnkiibjhfcffaaGreatDoor
