/- The years in which two worlds differ, as the program tells them. -/
import Derived.Test.YtapfokfbdmcokaaGreatDoorYYB
import Derived.Deep.RegionHeld3
import Derived.Deep.DeepCutAuto
import Derived.RegionTactic
import Derived.BigRegion
import Derived.WalkLawsBesides
import Derived.WalkSpells
import Derived.Lib.MinMax
import Derived.Outline
namespace Go.Proofs.YtapfokfbdmcokaaGreatDoor
open Go.RowKit
attribute [local go_sem] ExtOf.cell ExtOf.frozen


section
variable {w : World} {A A' B B' : Option Addr} {n c m c' n2 c2 m2 d2 : Nat} {ps ps2 : List Pl} {L L2 : List Lk}
set_option maxRecDepth 20000 in
set_option maxHeartbeats 12800000 in
theorem i_differIn (y : Int) (h : WIn w A A' n c m c' ps L) (h2 : WIn w B B' n2 c2 m2 d2 ps2 L2) (hw : wdB (psD ps) L = true) (hw2 : wdB (psD ps2) L2 = true) :
    Calls Tryz.prog 75 #[.agg #[.slice A n c, .slice A' m c'], .agg #[.slice B n2 c2, .slice B' m2 d2], .int .i64 y] w fun e w' => e = .returned (.bool (difY (psD ps) L (psD ps2) L2 y)) ∧ Ext w w' := by
  have h10 := wdB_len hw
  have h102 := wdB_len hw2
  rw [psD_len] at h10 h102
  have HCA : Hid (∀ W b5, Ext w W → Blk W b5 2 #[.int .i64 y] → Calls Tryz.prog 55 #[.slice A n c, .func (.func 125) #[] #[.pointer (some ⟨b5, 0, none⟩)]] W fun e w' => ∃ v, e = .returned v ∧ OwS w' W.heap.size v (cdsP (exY y) (psD ps)) ∧ Ext W w') := Lib.hid (fun W b5 hW h5 =>
    i_codesOf (exY y) _ _ en_differIn1 A n c ps W (h.sq.ext hW) h.hn (by rw [h.hn]; omega) (fun p _ W' hW' => i_differIn1 p y b5 W' ((h5.ext hW').cell 0)))
  have HCB : Hid (∀ W b5, Ext w W → Blk W b5 2 #[.int .i64 y] → Calls Tryz.prog 55 #[.slice B n2 c2, .func (.func 125) #[] #[.pointer (some ⟨b5, 0, none⟩)]] W fun e w' => ∃ v, e = .returned v ∧ OwS w' W.heap.size v (cdsP (exY y) (psD ps2)) ∧ Ext W w') := Lib.hid (fun W b5 hW h5 =>
    i_codesOf (exY y) _ _ en_differIn1 B n2 c2 ps2 W (h2.sq.ext hW) h2.hn (by rw [h2.hn]; omega) (fun p _ W' hW' => i_differIn1 p y b5 W' ((h5.ext hW').cell 0)))
  have hl1 : (cdsP (exY y) (psD ps)).length ≤ 10 := Nat.le_trans (cdsP_len _ _) (wdB_len hw)
  have hl2 : (cdsP (exY y) (psD ps2)).length ≤ 10 := Nat.le_trans (cdsP_len _ _) (wdB_len hw2)
  have HE : Hid (∀ W v v' q1 q2, OwS W q1 v (cdsP (exY y) (psD ps)) → OwS W q2 v' (cdsP (exY y) (psD ps2)) → Calls Tryz.prog 126 #[v, v'] W fun e w' => e = .returned (.bool (cdsP (exY y) (psD ps) == cdsP (exY y) (psD ps2))) ∧ Ext W w') := Lib.hid (fun W v v' q1 q2 hO hO' => by
    obtain ⟨A1, e1, rfl, hS1, _⟩ := hO.sl len_encS
    obtain ⟨A2, e2, rfl, hS2, _⟩ := hO'.sl len_encS
    exact i_EqualS _ _ _ _ _ _ _ _ _ hS1 hS2 rfl rfl (by omega) (by omega))
  have HN : (cdsP (exY y) (psD ps) == cdsP (exY y) (psD ps2)) = true → Hid (∀ W v q b3 b5 b4, OwS W q v (cdsP (exY y) (psD ps)) → Ext w W → Blk W b3 33 #[.slice A n c, .slice A' m c'] → Blk W b5 2 #[.int .i64 y] → Blk W b4 33 #[.slice B n2 c2, .slice B' m2 d2] → Calls Tryz.prog 127 #[v, .func (.func 128) #[] #[.pointer (some ⟨b3, 0, none⟩), .pointer (some ⟨b5, 0, none⟩), .pointer (some ⟨b4, 0, none⟩)]] W fun e w' => e = .returned (.bool (difY (psD ps) L (psD ps2) L2 y)) ∧ Ext W w') := fun he => Lib.hid (fun W v q b3 b5 b4 hO hW k3 k5 k4 => by
    obtain ⟨A1, e1, rfl, hS1, _⟩ := hO.sl len_encS
    rw [difY_any he]
    refine i_ContainsFuncS (dfB (psD ps) L (psD ps2) L2 y) _ _ en_differIn2 A1 _ e1 _ W hS1 rfl (by omega) (fun x hx W' hW' => ?_)
    have he2 := beq_iff_eq.1 he
    exact i_differIn2 x y b3 b5 b4 ((h.ext hW).ext hW') ((h2.ext hW).ext hW') hw hw2 (cds_found hx) (cds_found (by rw [← he2]; exact hx)) (k3.ext hW') ((k5.ext hW').cell 0) (k4.ext hW'))
  have hno : (cdsP (exY y) (psD ps) == cdsP (exY y) (psD ps2)) = false → difY (psD ps) L (psD ps2) L2 y = true := difY_codes
  generalize difY (psD ps) L (psD ps2) L2 y = res at *
  clear h h2 hw hw2 h10 h102 hl1 hl2
  generalize hq : (cdsP (exY y) (psD ps) == cdsP (exY y) (psD ps2)) = q at *
  generalize cdsP (exY y) (psD ps) = X1 at *
  generalize cdsP (exY y) (psD ps2) = X2 at *
  clear hq
  have HK : Hid (∀ W, Ext (((w.alloc (.cells #[.slice A n c, .slice A' m c'] 33)).alloc (.cells #[.slice B n2 c2, .slice B' m2 d2] 33)).alloc (.cells #[.int .i64 y] 2)) W → Blk W w.heap.size 33 #[.slice A n c, .slice A' m c'] ∧ Blk W (w.heap.size + 1) 33 #[.slice B n2 c2, .slice B' m2 d2] ∧ Blk W (w.heap.size + 1 + 1) 2 #[.int .i64 y]) := Lib.hid (fun W hW => by
    have B0 := (((Blk.new (cs := #[.slice A n c, .slice A' m c']) (t := 33) (w := w) rfl).alloc (.cells #[.slice B n2 c2, .slice B' m2 d2] 33)).alloc (.cells #[.int .i64 y] 2)).ext hW
    have B1 := ((Blk.new (cs := #[.slice B n2 c2, .slice B' m2 d2]) (t := 33) (w := w.alloc (.cells #[.slice A n c, .slice A' m c'] 33)) rfl).alloc (.cells #[.int .i64 y] 2)).ext hW
    have B2 := (Blk.new (cs := #[.int .i64 y]) (t := 2) (w := (w.alloc (.cells #[.slice A n c, .slice A' m c'] 33)).alloc (.cells #[.slice B n2 c2, .slice B' m2 d2] 33)) rfl).ext hW
    simp only [World.size_alloc] at B1 B2
    exact ⟨B0, B1, B2⟩)
  go_enter Tryz.func75, Tryz.ntmps75
  go_wp2_with fail
  refine (HCA.out _ _ (by (repeat (first | with_reducible exact Ext.refl _ | with_reducible assumption | ((with_reducible apply Src.ext); with_reducible assumption) | with_reducible refine Ext.alloc ?_ _ | with_reducible refine Ext.drew ?_ | with_reducible refine Ext.drewN ?_ _ | ((with_reducible refine Ext.setCell' ?_ ?_ _); solve | omega | simp | (simp; omega)) | (with_reducible refine Ext.trans ?_ (by with_reducible assumption))))) ((HK.out _ (by (repeat (first | with_reducible exact Ext.refl _ | with_reducible assumption | ((with_reducible apply Src.ext); with_reducible assumption) | with_reducible refine Ext.alloc ?_ _ | with_reducible refine Ext.drew ?_ | with_reducible refine Ext.drewN ?_ _ | ((with_reducible refine Ext.setCell' ?_ ?_ _); solve | omega | simp | (simp; omega)) | (with_reducible refine Ext.trans ?_ (by with_reducible assumption)))))).2.2)).mono ?_
  rintro e w1 ⟨v1, rfl, hO1, hx1⟩
  have HO1 := Lib.hid hO1
  clear hO1
  have hkb := HK.out w1 (by (repeat (first | with_reducible exact Ext.refl _ | with_reducible assumption | ((with_reducible apply Src.ext); with_reducible assumption) | with_reducible refine Ext.alloc ?_ _ | with_reducible refine Ext.drew ?_ | with_reducible refine Ext.drewN ?_ _ | ((with_reducible refine Ext.setCell' ?_ ?_ _); solve | omega | simp | (simp; omega)) | (with_reducible refine Ext.trans ?_ (by with_reducible assumption)))))
  have u0 : w1.cell? ⟨w.heap.size + 1, 0, none⟩ = some (.slice B n2 c2) := hkb.2.1.cell 0
  have u1 : w1.cell? ⟨w.heap.size + 1, 1, none⟩ = some (.slice B' m2 d2) := hkb.2.1.cell 1
  have hx1w : Ext w w1 := by clear hkb; (repeat (first | with_reducible exact Ext.refl _ | with_reducible assumption | ((with_reducible apply Src.ext); with_reducible assumption) | with_reducible refine Ext.alloc ?_ _ | with_reducible refine Ext.drew ?_ | with_reducible refine Ext.drewN ?_ _ | ((with_reducible refine Ext.setCell' ?_ ?_ _); solve | omega | simp | (simp; omega)) | (with_reducible refine Ext.trans ?_ (by with_reducible assumption))))
  have HX1 := Lib.hid hx1w
  have HKB := Lib.hid hkb
  clear hkb hx1w
  go_wp2_with fail
  refine (HCB.out _ _ (HX1.out.trans (by (repeat (first | with_reducible exact Ext.refl _ | with_reducible assumption | ((with_reducible apply Src.ext); with_reducible assumption) | with_reducible refine Ext.alloc ?_ _ | with_reducible refine Ext.drew ?_ | with_reducible refine Ext.drewN ?_ _ | ((with_reducible refine Ext.setCell' ?_ ?_ _); solve | omega | simp | (simp; omega)) | (with_reducible refine Ext.trans ?_ (by with_reducible assumption)))))) (HKB.out.2.2.ext (by (repeat (first | with_reducible exact Ext.refl _ | with_reducible assumption | ((with_reducible apply Src.ext); with_reducible assumption) | with_reducible refine Ext.alloc ?_ _ | with_reducible refine Ext.drew ?_ | with_reducible refine Ext.drewN ?_ _ | ((with_reducible refine Ext.setCell' ?_ ?_ _); solve | omega | simp | (simp; omega)) | (with_reducible refine Ext.trans ?_ (by with_reducible assumption))))))).mono ?_
  rintro e w2 ⟨v2, rfl, hO2, hx2⟩
  have HO2 := Lib.hid hO2
  clear hO2
  go_wp2_with fail
  refine (HE.out _ _ _ _ _ (HO1.out.ext (by (repeat (first | with_reducible exact Ext.refl _ | with_reducible assumption | ((with_reducible apply Src.ext); with_reducible assumption) | with_reducible refine Ext.alloc ?_ _ | with_reducible refine Ext.drew ?_ | with_reducible refine Ext.drewN ?_ _ | ((with_reducible refine Ext.setCell' ?_ ?_ _); solve | omega | simp | (simp; omega)) | (with_reducible refine Ext.trans ?_ (by with_reducible assumption)))))) (HO2.out.ext (by (repeat (first | with_reducible exact Ext.refl _ | with_reducible assumption | ((with_reducible apply Src.ext); with_reducible assumption) | with_reducible refine Ext.alloc ?_ _ | with_reducible refine Ext.drew ?_ | with_reducible refine Ext.drewN ?_ _ | ((with_reducible refine Ext.setCell' ?_ ?_ _); solve | omega | simp | (simp; omega)) | (with_reducible refine Ext.trans ?_ (by with_reducible assumption))))))).mono ?_
  rintro e w3 ⟨rfl, hx3⟩
  have HX13 : Hid (Ext w1 w3) := Lib.hid (by (repeat (first | with_reducible exact Ext.refl _ | with_reducible assumption | ((with_reducible apply Src.ext); with_reducible assumption) | with_reducible refine Ext.alloc ?_ _ | with_reducible refine Ext.drew ?_ | with_reducible refine Ext.drewN ?_ _ | ((with_reducible refine Ext.setCell' ?_ ?_ _); solve | omega | simp | (simp; omega)) | (with_reducible refine Ext.trans ?_ (by with_reducible assumption)))))
  cases q with
  | false =>
    have HR := Lib.hid (hno rfl)
    go_wp2
    go_ret
    exact ⟨ret_bool' HR.out.symm, HX1.out.trans (HX13.out.trans (by (repeat (first | with_reducible exact Ext.refl _ | with_reducible assumption | ((with_reducible apply Src.ext); with_reducible assumption) | with_reducible refine Ext.alloc ?_ _ | with_reducible refine Ext.drew ?_ | with_reducible refine Ext.drewN ?_ _ | ((with_reducible refine Ext.setCell' ?_ ?_ _); solve | omega | simp | (simp; omega)) | (with_reducible refine Ext.trans ?_ (by with_reducible assumption))))))⟩
  | true =>
    have HNN := HN rfl
    clear HN hno
    go_wp2_with fail
    refine (HNN.out _ _ _ _ _ _ ((HO1.out.ext HX13.out).ext (by (repeat (first | with_reducible exact Ext.refl _ | with_reducible assumption | ((with_reducible apply Src.ext); with_reducible assumption) | with_reducible refine Ext.alloc ?_ _ | with_reducible refine Ext.drew ?_ | with_reducible refine Ext.drewN ?_ _ | ((with_reducible refine Ext.setCell' ?_ ?_ _); solve | omega | simp | (simp; omega)) | (with_reducible refine Ext.trans ?_ (by with_reducible assumption)))))) (HX1.out.trans (HX13.out.trans (by (repeat (first | with_reducible exact Ext.refl _ | with_reducible assumption | ((with_reducible apply Src.ext); with_reducible assumption) | with_reducible refine Ext.alloc ?_ _ | with_reducible refine Ext.drew ?_ | with_reducible refine Ext.drewN ?_ _ | ((with_reducible refine Ext.setCell' ?_ ?_ _); solve | omega | simp | (simp; omega)) | (with_reducible refine Ext.trans ?_ (by with_reducible assumption))))))) ((HKB.out.1.ext HX13.out).ext (by (repeat (first | with_reducible exact Ext.refl _ | with_reducible assumption | ((with_reducible apply Src.ext); with_reducible assumption) | with_reducible refine Ext.alloc ?_ _ | with_reducible refine Ext.drew ?_ | with_reducible refine Ext.drewN ?_ _ | ((with_reducible refine Ext.setCell' ?_ ?_ _); solve | omega | simp | (simp; omega)) | (with_reducible refine Ext.trans ?_ (by with_reducible assumption)))))) ((HKB.out.2.2.ext HX13.out).ext (by (repeat (first | with_reducible exact Ext.refl _ | with_reducible assumption | ((with_reducible apply Src.ext); with_reducible assumption) | with_reducible refine Ext.alloc ?_ _ | with_reducible refine Ext.drew ?_ | with_reducible refine Ext.drewN ?_ _ | ((with_reducible refine Ext.setCell' ?_ ?_ _); solve | omega | simp | (simp; omega)) | (with_reducible refine Ext.trans ?_ (by with_reducible assumption)))))) ((HKB.out.2.1.ext HX13.out).ext (by (repeat (first | with_reducible exact Ext.refl _ | with_reducible assumption | ((with_reducible apply Src.ext); with_reducible assumption) | with_reducible refine Ext.alloc ?_ _ | with_reducible refine Ext.drew ?_ | with_reducible refine Ext.drewN ?_ _ | ((with_reducible refine Ext.setCell' ?_ ?_ _); solve | omega | simp | (simp; omega)) | (with_reducible refine Ext.trans ?_ (by with_reducible assumption))))))).mono ?_
    rintro e w4 ⟨rfl, hx4⟩
    go_wp2
    go_ret
    exact ⟨rfl, HX1.out.trans (HX13.out.trans (by (repeat (first | with_reducible exact Ext.refl _ | with_reducible assumption | ((with_reducible apply Src.ext); with_reducible assumption) | with_reducible refine Ext.alloc ?_ _ | with_reducible refine Ext.drew ?_ | with_reducible refine Ext.drewN ?_ _ | ((with_reducible refine Ext.setCell' ?_ ?_ _); solve | omega | simp | (simp; omega)) | (with_reducible refine Ext.trans ?_ (by with_reducible assumption))))))⟩
noncomputable def dbR (D : List Pd) (L : List Lk) (D' : List Pd) (L' : List Lk) (y : Int) : Bool := if wyC D L (wdB D' L') [y] = 0 then difB D L D' L' y else false
set_option maxRecDepth 20000 in
set_option maxHeartbeats 12800000 in
theorem i_DifferBeforeW (y : Int) (h : WIn w A A' n c m c' ps L) (h2 : WIn w B B' n2 c2 m2 d2 ps2 L2) (hm : Mx w) :
    Calls Tryz.prog 27 #[.agg #[.slice A n c, .slice A' m c'], .agg #[.slice B n2 c2, .slice B' m2 d2], .int .i64 y] w fun e w' => e = .returned (.tuple #[.bool (dbR (psD ps) L (psD ps2) L2 y), .int .i64 (wyC (psD ps) L (wdB (psD ps2) L2) [y])]) ∧ Ext w w' := by
  have HW := Lib.hid (fun W (hW : Ext w W) => i_IsWorldW (h2.ext hW) (hm.ext hW))
  have HC : Hid (∀ W g, Ext w W → Blk W g 2 #[.int .i64 y] → Calls Tryz.prog 54 #[.agg #[.slice A n c, .slice A' m c'], .bool (wdB (psD ps2) L2), .slice (some ⟨g, 0, none⟩) 1 1] W fun e w' => e = .returned (.int .i64 (wyC (psD ps) L (wdB (psD ps2) L2) [y])) ∧ Ext W w') := Lib.hid (fun W g hW hB => i_worldCode _ [y] _ 1 1 (h.ext hW) (hm.ext hW) (blk_i1 hB) rfl (by omega))
  have HK : Hid (∀ W, Ext ((w.alloc (.cells #[.slice A n c, .slice A' m c'] 33)).alloc (.cells #[.slice B n2 c2, .slice B' m2 d2] 33)) W → W.cell? ⟨w.heap.size, 0, none⟩ = some (.slice A n c) ∧ W.cell? ⟨w.heap.size, 1, none⟩ = some (.slice A' m c') ∧ W.cell? ⟨w.heap.size + 1, 0, none⟩ = some (.slice B n2 c2) ∧ W.cell? ⟨w.heap.size + 1, 1, none⟩ = some (.slice B' m2 d2)) := Lib.hid (fun W hW => by
    have B0 := ((Blk.new (cs := #[.slice A n c, .slice A' m c']) (t := 33) (w := w) rfl).alloc (.cells #[.slice B n2 c2, .slice B' m2 d2] 33)).ext hW
    have B1 := (Blk.new (cs := #[.slice B n2 c2, .slice B' m2 d2]) (t := 33) (w := w.alloc (.cells #[.slice A n c, .slice A' m c'] 33)) rfl).ext hW
    simp only [World.size_alloc] at B1
    exact ⟨B0.cell 0, B0.cell 1, B1.cell 0, B1.cell 1⟩)
  by_cases hz : wyC (psD ps) L (wdB (psD ps2) L2) [y] = 0
  · have hw := (wyC_zero hz).1
    have hw2 := (wyC_zero hz).2.1
    have hyy : y ≤ 3000 := (inB_iff.1 (by simpa using (wyC_zero hz).2.2)).2
    have HD := Lib.hid (fun z W (hW : Ext w W) => i_differIn (w := W) z (h.ext hW) (h2.ext hW) hw hw2)
    have HR : Hid (dbR (psD ps) L (psD ps2) L2 y = difB (psD ps) L (psD ps2) L2 y) := Lib.hid (by unfold dbR; rw [if_pos hz])
    have HYES := Lib.hid (fun z (h1 : -3000 ≤ z) (h2 : z < y) (h3 : difY (psD ps) L (psD ps2) L2 z = true) => difB_yes h1 h2 h3)
    have HNO := Lib.hid (fun (h3 : ∀ z, -3000 ≤ z → z < y → difY (psD ps) L (psD ps2) L2 z = false) => difB_no h3)
    rw [HR.out]
    rw [hz] at HC ⊢
    generalize difY (psD ps) L (psD ps2) L2 = fY at *
    generalize difB (psD ps) L (psD ps2) L2 y = res at *
    generalize wdB (psD ps2) L2 = q at *
    clear hz hw hw2 h h2 hm HR
    obtain ⟨g0, g1, g2, g3⟩ := HK.out _ (Ext.refl _)
    go_enter Tryz.func27, Tryz.ntmps27
    go_wp2
    go_region_held3 (fun w' => w'.cell? ⟨w.heap.size, 0, none⟩ = some (.slice A n c) ∧ w'.cell? ⟨w.heap.size, 1, none⟩ = some (.slice A' m c') ∧ w'.cell? ⟨w.heap.size + 1, 0, none⟩ = some (.slice B n2 c2) ∧ w'.cell? ⟨w.heap.size + 1, 1, none⟩ = some (.slice B' m2 d2)) (first | go_keep | exact HK.out _ (by (repeat (first | with_reducible exact Ext.refl _ | with_reducible assumption | ((with_reducible apply Src.ext); with_reducible assumption) | with_reducible refine Ext.alloc ?_ _ | with_reducible refine Ext.drew ?_ | with_reducible refine Ext.drewN ?_ _ | ((with_reducible refine Ext.setCell' ?_ ?_ _); solve | omega | simp | (simp; omega)) | (with_reducible refine Ext.trans ?_ (by with_reducible assumption)))))) (first | (go_at_call 74; refine (HW.out _ (by (repeat (first | with_reducible exact Ext.refl _ | with_reducible assumption | ((with_reducible apply Src.ext); with_reducible assumption) | with_reducible refine Ext.alloc ?_ _ | with_reducible refine Ext.drew ?_ | with_reducible refine Ext.drewN ?_ _ | ((with_reducible refine Ext.setCell' ?_ ?_ _); solve | omega | simp | (simp; omega)) | (with_reducible refine Ext.trans ?_ (by with_reducible assumption)))))).mono ?_; rintro e w7 ⟨rfl, hx7⟩; have hs7 := hx7.size; (try simp at hs7)) | (go_at_call 54; refine (HC.out _ _ (by (repeat (first | with_reducible exact Ext.refl _ | with_reducible assumption | ((with_reducible apply Src.ext); with_reducible assumption) | with_reducible refine Ext.alloc ?_ _ | with_reducible refine Ext.drew ?_ | with_reducible refine Ext.drewN ?_ _ | ((with_reducible refine Ext.setCell' ?_ ?_ _); solve | omega | simp | (simp; omega)) | (with_reducible refine Ext.trans ?_ (by with_reducible assumption))))) (by (repeat (first | with_reducible assumption | ((with_reducible apply Blk.new); solve | simp | rfl) | with_reducible apply Blk.drew | with_reducible apply Blk.drewN | ((with_reducible apply Blk.far'); solve | omega | simp | (simp; omega)) | with_reducible apply Blk.set_ | with_reducible apply Blk.alloc | ((with_reducible apply Blk.ext'); with_reducible assumption) | ((with_reducible apply Blk.but'); (with_reducible assumption); solve | omega | (simp; omega)))))).mono ?_; rintro e w8 ⟨rfl, hx8⟩; have hs8 := hx8.size; (try simp at hs8); have hkb8 := HK.out w8 (by (repeat (first | with_reducible exact Ext.refl _ | with_reducible assumption | ((with_reducible apply Src.ext); with_reducible assumption) | with_reducible refine Ext.alloc ?_ _ | with_reducible refine Ext.drew ?_ | with_reducible refine Ext.drewN ?_ _ | ((with_reducible refine Ext.setCell' ?_ ?_ _); solve | omega | simp | (simp; omega)) | (with_reducible refine Ext.trans ?_ (by with_reducible assumption)))))))
    all_goals
      have hX8 : Ext w w8 := by (repeat (first | with_reducible exact Ext.refl _ | with_reducible assumption | ((with_reducible apply Src.ext); with_reducible assumption) | with_reducible refine Ext.alloc ?_ _ | with_reducible refine Ext.drew ?_ | with_reducible refine Ext.drewN ?_ _ | ((with_reducible refine Ext.setCell' ?_ ?_ _); solve | omega | simp | (simp; omega)) | (with_reducible refine Ext.trans ?_ (by with_reducible assumption))))
      have HX8 := Lib.hid hX8
      have HKX : Hid (∀ W, Ext w8 W → W.cell? ⟨w.heap.size, 0, none⟩ = some (.slice A n c) ∧ W.cell? ⟨w.heap.size, 1, none⟩ = some (.slice A' m c') ∧ W.cell? ⟨w.heap.size + 1, 0, none⟩ = some (.slice B n2 c2) ∧ W.cell? ⟨w.heap.size + 1, 1, none⟩ = some (.slice B' m2 d2)) := Lib.hid (fun W hW => ⟨(hW.cell _ _ (World.block_lt_of_cell? _ _ hkb8.1)).trans hkb8.1, (hW.cell _ _ (World.block_lt_of_cell? _ _ hkb8.1)).trans hkb8.2.1, (hW.cell _ _ (World.block_lt_of_cell? _ _ hkb8.2.2.1)).trans hkb8.2.2.1, (hW.cell _ _ (World.block_lt_of_cell? _ _ hkb8.2.2.1)).trans hkb8.2.2.2⟩)
      clear hX8 hx7 hx8 hkb8 g0 g1 g2 g3
      go_wp2
      go_loopw [9] (fun i wr => ∃ z : Int, -3000 ≤ z ∧ (z ≤ y ∨ z = -3000) ∧ i = .int .i64 z ∧ Hid (∀ u, -3000 ≤ u → u < z → fY u = false) ∧ Ext w8 wr) (fun i _ => (y - intOf i).toNat)
      case atStart => exact ⟨-3000, by omega, .inr rfl, rfl, Lib.hid (fun u h1 h2 => by omega), by (repeat (first | with_reducible exact Ext.refl _ | with_reducible assumption | ((with_reducible apply Src.ext); with_reducible assumption) | with_reducible refine Ext.alloc ?_ _ | with_reducible refine Ext.drew ?_ | with_reducible refine Ext.drewN ?_ _ | ((with_reducible refine Ext.setCell' ?_ ?_ _); solve | omega | simp | (simp; omega)) | (with_reducible refine Ext.trans ?_ (by with_reducible assumption))))⟩
      case round =>
        obtain ⟨z, hz1, hz2, rfl, HJ, hxr⟩ := hrel
        obtain ⟨w5, rfl⟩ : ∃ x, x = wr := ⟨wr, rfl⟩
        obtain ⟨t0, t1, t2, t3⟩ := HKX.out w5 hxr
        by_cases hlt : z < y
        · have hwr : IntKind.i64.wrap (z + 1) = z + 1 := IntWalk.i64_in _ (by omega)
          have hld : decide (z < y) = true := decide_eq_true hlt
          have HDC := Lib.hid (fun W (hW : Ext w5 W) => HD.out z W (HX8.out.trans (hxr.trans hW)))
          cases hq : fY z with
          | true =>
            have HRR := Lib.hid (HYES.out z hz1 hlt hq)
            rw [hq] at HDC
            clear hq
            go_wp2_with fail
            refine (HDC.out _ (by (repeat (first | with_reducible exact Ext.refl _ | with_reducible assumption | ((with_reducible apply Src.ext); with_reducible assumption) | with_reducible refine Ext.alloc ?_ _ | with_reducible refine Ext.drew ?_ | with_reducible refine Ext.drewN ?_ _ | ((with_reducible refine Ext.setCell' ?_ ?_ _); solve | omega | simp | (simp; omega)) | (with_reducible refine Ext.trans ?_ (by with_reducible assumption)))))).mono ?_
            rintro e w6 ⟨rfl, hx6⟩
            go_wp2
            go_ret2
            exact ⟨by rw [HRR.out]; rfl, HX8.out.trans (by (repeat (first | with_reducible exact Ext.refl _ | with_reducible assumption | ((with_reducible apply Src.ext); with_reducible assumption) | with_reducible refine Ext.alloc ?_ _ | with_reducible refine Ext.drew ?_ | with_reducible refine Ext.drewN ?_ _ | ((with_reducible refine Ext.setCell' ?_ ?_ _); solve | omega | simp | (simp; omega)) | (with_reducible refine Ext.trans ?_ (by with_reducible assumption)))))⟩
          | false =>
            have HJ2 : Hid (∀ u, -3000 ≤ u → u < z + 1 → fY u = false) := Lib.hid (fun u h1 h2 => by
              by_cases e : u = z
              · rw [e]; exact hq
              · exact HJ.out u h1 (by omega))
            rw [hq] at HDC
            clear hq
            go_wp2_with fail
            refine (HDC.out _ (by (repeat (first | with_reducible exact Ext.refl _ | with_reducible assumption | ((with_reducible apply Src.ext); with_reducible assumption) | with_reducible refine Ext.alloc ?_ _ | with_reducible refine Ext.drew ?_ | with_reducible refine Ext.drewN ?_ _ | ((with_reducible refine Ext.setCell' ?_ ?_ _); solve | omega | simp | (simp; omega)) | (with_reducible refine Ext.trans ?_ (by with_reducible assumption)))))).mono ?_
            rintro e w6 ⟨rfl, hx6⟩
            go_wp2
            go_roundw
            case rel => exact ⟨z + 1, by omega, .inl (by omega), by first | rfl | rw [hwr], HJ2, by (repeat (first | with_reducible exact Ext.refl _ | with_reducible assumption | ((with_reducible apply Src.ext); with_reducible assumption) | with_reducible refine Ext.alloc ?_ _ | with_reducible refine Ext.drew ?_ | with_reducible refine Ext.drewN ?_ _ | ((with_reducible refine Ext.setCell' ?_ ?_ _); solve | omega | simp | (simp; omega)) | (with_reducible refine Ext.trans ?_ (by with_reducible assumption))))⟩
            case measure => simp [intOf]; omega
        · have HRR : Hid (res = false) := Lib.hid (HNO.out (fun u h1 h2 => HJ.out u h1 (by omega)))
          have hld : decide (z < y) = false := decide_eq_false hlt
          go_wp2
          go_ret2
          exact ⟨by rw [HRR.out]; rfl, HX8.out.trans (by (repeat (first | with_reducible exact Ext.refl _ | with_reducible assumption | ((with_reducible apply Src.ext); with_reducible assumption) | with_reducible refine Ext.alloc ?_ _ | with_reducible refine Ext.drew ?_ | with_reducible refine Ext.drewN ?_ _ | ((with_reducible refine Ext.setCell' ?_ ?_ _); solve | omega | simp | (simp; omega)) | (with_reducible refine Ext.trans ?_ (by with_reducible assumption)))))⟩
  · have hR : dbR (psD ps) L (psD ps2) L2 y = false := by unfold dbR; rw [if_neg hz]
    rw [hR]
    generalize wyC (psD ps) L (wdB (psD ps2) L2) [y] = cd at *
    have hcd : (cd != 0) = true := by simpa using hz
    generalize wdB (psD ps2) L2 = q at *
    clear h h2 hm hR
    obtain ⟨g0, g1, g2, g3⟩ := HK.out _ (Ext.refl _)
    go_enter Tryz.func27, Tryz.ntmps27
    go_wp2
    go_region_held3 (fun w' => w'.cell? ⟨w.heap.size, 0, none⟩ = some (.slice A n c) ∧ w'.cell? ⟨w.heap.size, 1, none⟩ = some (.slice A' m c') ∧ w'.cell? ⟨w.heap.size + 1, 0, none⟩ = some (.slice B n2 c2) ∧ w'.cell? ⟨w.heap.size + 1, 1, none⟩ = some (.slice B' m2 d2)) (first | go_keep | exact HK.out _ (by (repeat (first | with_reducible exact Ext.refl _ | with_reducible assumption | ((with_reducible apply Src.ext); with_reducible assumption) | with_reducible refine Ext.alloc ?_ _ | with_reducible refine Ext.drew ?_ | with_reducible refine Ext.drewN ?_ _ | ((with_reducible refine Ext.setCell' ?_ ?_ _); solve | omega | simp | (simp; omega)) | (with_reducible refine Ext.trans ?_ (by with_reducible assumption)))))) (first | (go_at_call 74; refine (HW.out _ (by (repeat (first | with_reducible exact Ext.refl _ | with_reducible assumption | ((with_reducible apply Src.ext); with_reducible assumption) | with_reducible refine Ext.alloc ?_ _ | with_reducible refine Ext.drew ?_ | with_reducible refine Ext.drewN ?_ _ | ((with_reducible refine Ext.setCell' ?_ ?_ _); solve | omega | simp | (simp; omega)) | (with_reducible refine Ext.trans ?_ (by with_reducible assumption)))))).mono ?_; rintro e w7 ⟨rfl, hx7⟩; have hs7 := hx7.size; (try simp at hs7)) | (go_at_call 54; refine (HC.out _ _ (by (repeat (first | with_reducible exact Ext.refl _ | with_reducible assumption | ((with_reducible apply Src.ext); with_reducible assumption) | with_reducible refine Ext.alloc ?_ _ | with_reducible refine Ext.drew ?_ | with_reducible refine Ext.drewN ?_ _ | ((with_reducible refine Ext.setCell' ?_ ?_ _); solve | omega | simp | (simp; omega)) | (with_reducible refine Ext.trans ?_ (by with_reducible assumption))))) (by (repeat (first | with_reducible assumption | ((with_reducible apply Blk.new); solve | simp | rfl) | with_reducible apply Blk.drew | with_reducible apply Blk.drewN | ((with_reducible apply Blk.far'); solve | omega | simp | (simp; omega)) | with_reducible apply Blk.set_ | with_reducible apply Blk.alloc | ((with_reducible apply Blk.ext'); with_reducible assumption) | ((with_reducible apply Blk.but'); (with_reducible assumption); solve | omega | (simp; omega)))))).mono ?_; rintro e w8 ⟨rfl, hx8⟩; have hs8 := hx8.size; (try simp at hs8); have hkb8 := HK.out w8 (by (repeat (first | with_reducible exact Ext.refl _ | with_reducible assumption | ((with_reducible apply Src.ext); with_reducible assumption) | with_reducible refine Ext.alloc ?_ _ | with_reducible refine Ext.drew ?_ | with_reducible refine Ext.drewN ?_ _ | ((with_reducible refine Ext.setCell' ?_ ?_ _); solve | omega | simp | (simp; omega)) | (with_reducible refine Ext.trans ?_ (by with_reducible assumption)))))))
    all_goals
      go_wp2
      go_ret2
      exact ⟨rfl, by (repeat (first | with_reducible exact Ext.refl _ | with_reducible assumption | ((with_reducible apply Src.ext); with_reducible assumption) | with_reducible refine Ext.alloc ?_ _ | with_reducible refine Ext.drew ?_ | with_reducible refine Ext.drewN ?_ _ | ((with_reducible refine Ext.setCell' ?_ ?_ _); solve | omega | simp | (simp; omega)) | (with_reducible refine Ext.trans ?_ (by with_reducible assumption))))⟩
end

end Go.Proofs.YtapfokfbdmcokaaGreatDoor
