/- Two worlds that are the same in a year, as the specification tells it. -/
import Derived.Test.YtapfokfbdmcokaaGreatDoorYYB
import Derived.Test.YtapfokfbdmcokaaGreatDoorYYE
import Derived.Deep.RegionHeld3
import Derived.Deep.DeepCutAuto
import Derived.RegionTactic
import Derived.BigRegion
import Derived.WalkLawsBesides
import Derived.WalkSpells
import Derived.Lib.MinMax
import Derived.Outline
namespace Go.Proofs.YtapfokfbdmcokaaGreatDoor
open Go.RowKit
attribute [local go_sem] ExtOf.cell ExtOf.frozen


theorem IsP.stexts {w : World} {d : Pd} {v : Value} (h : IsP w d v) (y : Int) : Calls Tryz.prog 119 #[v, .int .i64 y] w fun e w' => ∃ v', e = .returned v' ∧ OwS w' w.heap.size v' (txL d.2.2.2.2 y) ∧ Ext w w' := by
  have h12 := names12 h
  obtain ⟨p, g1, rfl, g3, rfl⟩ := h
  have h13 : p.2.2.2.2.2.2.length ≤ 12 := h12
  exact s_l14Texts p y w g1 (by omega)
section
variable {w : World} {A A' B B' : Option Addr} {n c m c' n2 c2 m2 d2 : Nat} {ps ps2 : List Pl} {L L2 : List Lk}
set_option maxRecDepth 20000 in
set_option maxHeartbeats 25600000 in
theorem s_l14Alike (y : Int) (h : WIn w A A' n c m c' ps L) (h2 : WIn w B B' n2 c2 m2 d2 ps2 L2) (hw : wdB (psD ps) L = true) (hw2 : wdB (psD ps2) L2 = true) (hy : inB y (-3000) 3000 = true) :
    Calls Tryz.prog 73 #[.agg #[.slice A n c, .slice A' m c'], .agg #[.slice B n2 c2, .slice B' m2 d2], .int .i64 y] w fun e w' => e = .returned (.bool (!difY (psD ps) L (psD ps2) L2 y)) ∧ Ext w w' := by
  have h10 := wdB_len hw
  have h102 := wdB_len hw2
  rw [psD_len] at h10 h102
  have hlm : m ≤ 1048576 := by rw [h.hm]; exact h.hl'
  have hlm2 : m2 ≤ 1048576 := by rw [h2.hm]; exact h2.hl'
  have HPA := Lib.hid (fun W (hW : Ext w W) => s_PlacesIn A n c ps y W (h.sq.ext hW) (h.pl.ext hW) h.hn (by omega) (wdB_iff.1 hw).1 hy)
  have HPB := Lib.hid (fun W (hW : Ext w W) => s_PlacesIn B n2 c2 ps2 y W (h2.sq.ext hW) (h2.pl.ext hW) h2.hn (by omega) (wdB_iff.1 hw2).1 hy)
  have hl1 : (cdsP (exY y) (psD ps)).length ≤ 10 := Nat.le_trans (cdsP_len _ _) (wdB_len hw)
  have hl2 : (cdsP (exY y) (psD ps2)).length ≤ 10 := Nat.le_trans (cdsP_len _ _) (wdB_len hw2)
  have HE : Hid (∀ W v v' q1 q2, OwS W q1 v (cdsP (exY y) (psD ps)) → OwS W q2 v' (cdsP (exY y) (psD ps2)) → Calls Tryz.prog 118 #[v, v'] W fun e w' => e = .returned (.bool (cdsP (exY y) (psD ps) == cdsP (exY y) (psD ps2))) ∧ Ext W w') := Lib.hid (fun W v v' q1 q2 hO hO' => by
    obtain ⟨A1, e1, rfl, hS1, _⟩ := hO.sl len_encS
    obtain ⟨A2, e2, rfl, hS2, _⟩ := hO'.sl len_encS
    exact s_l14Equal _ _ _ _ _ _ _ _ _ hS1 hS2 rfl rfl (by omega) (by omega))
  have HTX := Lib.hid (fun W d v (hP : IsP W d v) => hP.stexts y)
  have HK : Hid (∀ W, Ext ((w.alloc (.cells #[.slice A n c, .slice A' m c'] 33)).alloc (.cells #[.slice B n2 c2, .slice B' m2 d2] 33)) W → W.cell? ⟨w.heap.size, 0, none⟩ = some (.slice A n c) ∧ W.cell? ⟨w.heap.size, 1, none⟩ = some (.slice A' m c') ∧ W.cell? ⟨w.heap.size + 1, 0, none⟩ = some (.slice B n2 c2) ∧ W.cell? ⟨w.heap.size + 1, 1, none⟩ = some (.slice B' m2 d2)) := Lib.hid (fun W hW => by
    have B0 := ((Blk.new (cs := #[.slice A n c, .slice A' m c']) (t := 33) (w := w) rfl).alloc (.cells #[.slice B n2 c2, .slice B' m2 d2] 33)).ext hW
    have B1 := (Blk.new (cs := #[.slice B n2 c2, .slice B' m2 d2]) (t := 33) (w := w.alloc (.cells #[.slice A n c, .slice A' m c'] 33)) rfl).ext hW
    simp only [World.size_alloc] at B1
    exact ⟨B0.cell 0, B0.cell 1, B1.cell 0, B1.cell 1⟩)
  have hno : (cdsP (exY y) (psD ps) == cdsP (exY y) (psD ps2)) = false → difY (psD ps) L (psD ps2) L2 y = true := difY_codes
  have hyes : (cdsP (exY y) (psD ps) == cdsP (exY y) (psD ps2)) = true → difY (psD ps) L (psD ps2) L2 y = (cdsP (exY y) (psD ps)).any (dfB (psD ps) L (psD ps2) L2 y) := difY_any
  obtain ⟨res, hres⟩ : ∃ res, res = difY (psD ps) L (psD ps2) L2 y := ⟨_, rfl⟩
  rw [← hres] at hno hyes ⊢
  clear hres
  obtain ⟨X, hX⟩ : ∃ X, X = cdsP (exY y) (psD ps) := ⟨_, rfl⟩
  obtain ⟨X2, hX2⟩ : ∃ X, X = cdsP (exY y) (psD ps2) := ⟨_, rfl⟩
  have HX1 := Lib.hid hX
  have HX2 := Lib.hid hX2
  rw [← hX] at HPA HE hno hyes hl1
  rw [← hX2] at HPB HE hno hyes hl2
  clear hX hX2 h10 h102
  have HH := Lib.hid h
  have HH2 := Lib.hid h2
  have HWD := Lib.hid hw
  have HWD2 := Lib.hid hw2
  clear h h2 hw hw2 hy
  go_enter Tryz.func73, Tryz.ntmps73
  go_wp2_with fail
  refine (HPA.out _ (by (repeat (first | with_reducible exact Ext.refl _ | with_reducible assumption | ((with_reducible apply Src.ext); with_reducible assumption) | with_reducible refine Ext.alloc ?_ _ | with_reducible refine Ext.drew ?_ | with_reducible refine Ext.drewN ?_ _ | ((with_reducible refine Ext.setCell' ?_ ?_ _); solve | omega | simp | (simp; omega)) | (with_reducible refine Ext.trans ?_ (by with_reducible assumption)))))).mono ?_
  rintro e w1 ⟨v1, rfl, hO1, hx1⟩
  have HO1 := Lib.hid hO1
  obtain ⟨t0, t1, t2, t3⟩ := HK.out w1 (by (repeat (first | with_reducible exact Ext.refl _ | with_reducible assumption | ((with_reducible apply Src.ext); with_reducible assumption) | with_reducible refine Ext.alloc ?_ _ | with_reducible refine Ext.drew ?_ | with_reducible refine Ext.drewN ?_ _ | ((with_reducible refine Ext.setCell' ?_ ?_ _); solve | omega | simp | (simp; omega)) | (with_reducible refine Ext.trans ?_ (by with_reducible assumption)))))
  have hx1w : Ext w w1 := by (repeat (first | with_reducible exact Ext.refl _ | with_reducible assumption | ((with_reducible apply Src.ext); with_reducible assumption) | with_reducible refine Ext.alloc ?_ _ | with_reducible refine Ext.drew ?_ | with_reducible refine Ext.drewN ?_ _ | ((with_reducible refine Ext.setCell' ?_ ?_ _); solve | omega | simp | (simp; omega)) | (with_reducible refine Ext.trans ?_ (by with_reducible assumption))))
  have HXW1 := Lib.hid hx1w
  have HXB1 : Hid (Ext ((w.alloc (.cells #[.slice A n c, .slice A' m c'] 33)).alloc (.cells #[.slice B n2 c2, .slice B' m2 d2] 33)) w1) := Lib.hid (by clear hx1w; (repeat (first | with_reducible exact Ext.refl _ | with_reducible assumption | ((with_reducible apply Src.ext); with_reducible assumption) | with_reducible refine Ext.alloc ?_ _ | with_reducible refine Ext.drew ?_ | with_reducible refine Ext.drewN ?_ _ | ((with_reducible refine Ext.setCell' ?_ ?_ _); solve | omega | simp | (simp; omega)) | (with_reducible refine Ext.trans ?_ (by with_reducible assumption)))))
  clear hO1 hx1w hx1
  go_wp2_with fail
  refine (HPB.out _ (HXW1.out.trans (by (repeat (first | with_reducible exact Ext.refl _ | with_reducible assumption | ((with_reducible apply Src.ext); with_reducible assumption) | with_reducible refine Ext.alloc ?_ _ | with_reducible refine Ext.drew ?_ | with_reducible refine Ext.drewN ?_ _ | ((with_reducible refine Ext.setCell' ?_ ?_ _); solve | omega | simp | (simp; omega)) | (with_reducible refine Ext.trans ?_ (by with_reducible assumption))))))).mono ?_
  rintro e w2 ⟨v2, rfl, hO2, hx2⟩
  have HO2 := Lib.hid hO2
  clear hO2
  obtain ⟨q, hq⟩ : ∃ q, (X == X2) = q := ⟨_, rfl⟩
  rw [hq] at HE hno hyes
  go_wp2_with fail
  refine (HE.out _ _ _ _ _ (HO1.out.ext (by (repeat (first | with_reducible exact Ext.refl _ | with_reducible assumption | ((with_reducible apply Src.ext); with_reducible assumption) | with_reducible refine Ext.alloc ?_ _ | with_reducible refine Ext.drew ?_ | with_reducible refine Ext.drewN ?_ _ | ((with_reducible refine Ext.setCell' ?_ ?_ _); solve | omega | simp | (simp; omega)) | (with_reducible refine Ext.trans ?_ (by with_reducible assumption)))))) (HO2.out.ext (by (repeat (first | with_reducible exact Ext.refl _ | with_reducible assumption | ((with_reducible apply Src.ext); with_reducible assumption) | with_reducible refine Ext.alloc ?_ _ | with_reducible refine Ext.drew ?_ | with_reducible refine Ext.drewN ?_ _ | ((with_reducible refine Ext.setCell' ?_ ?_ _); solve | omega | simp | (simp; omega)) | (with_reducible refine Ext.trans ?_ (by with_reducible assumption))))))).mono ?_
  rintro e w3 ⟨rfl, hx3⟩
  have HX13 : Hid (Ext w1 w3) := Lib.hid (by (repeat (first | with_reducible exact Ext.refl _ | with_reducible assumption | ((with_reducible apply Src.ext); with_reducible assumption) | with_reducible refine Ext.alloc ?_ _ | with_reducible refine Ext.drew ?_ | with_reducible refine Ext.drewN ?_ _ | ((with_reducible refine Ext.setCell' ?_ ?_ _); solve | omega | simp | (simp; omega)) | (with_reducible refine Ext.trans ?_ (by with_reducible assumption)))))
  cases q with
  | false =>
    have HR := Lib.hid (hno rfl)
    go_wp2
    go_ret
    exact ⟨by rw [HR.out]; rfl, HXW1.out.trans (HX13.out.trans (by (repeat (first | with_reducible exact Ext.refl _ | with_reducible assumption | ((with_reducible apply Src.ext); with_reducible assumption) | with_reducible refine Ext.alloc ?_ _ | with_reducible refine Ext.drew ?_ | with_reducible refine Ext.drewN ?_ _ | ((with_reducible refine Ext.setCell' ?_ ?_ _); solve | omega | simp | (simp; omega)) | (with_reducible refine Ext.trans ?_ (by with_reducible assumption))))))⟩
  | true =>
    have HR := Lib.hid (hyes rfl)
    have heq := beq_iff_eq.1 hq
    have HFA : Hid (∀ k, k < X.length → (fndP (psD ps) (X.getD k [])).isSome = true) := Lib.hid (fun k hk => cds_found (p := exY y) (by rw [← HX1.out]; simp [List.getD, hk]))
    have HFB : Hid (∀ k, k < X.length → (fndP (psD ps2) (X.getD k [])).isSome = true) := Lib.hid (fun k hk => cds_found (p := exY y) (by rw [← HX2.out, ← heq]; simp [List.getD, hk]))
    obtain ⟨A7, c7, rfl, hS7, _⟩ := HO1.out.sl len_encS
    have HS7 := Lib.hid (hS7.ext HX13.out)
    have HW3 : Hid (Ext w w3) := Lib.hid (HXW1.out.trans HX13.out)
    have HB3 : Hid (Ext ((w.alloc (.cells #[.slice A n c, .slice A' m c'] 33)).alloc (.cells #[.slice B n2 c2, .slice B' m2 d2] 33)) w3) := Lib.hid (HXB1.out.trans HX13.out)
    obtain ⟨un, hun⟩ : ∃ un, un = X.length := ⟨_, rfl⟩
    have HUN := Lib.hid hun
    rw [← hun] at hl1 ⊢
    clear hno hyes hq heq hun hS7 HE HPA HPB HO1 HO2 hx2 hx3 t0 t1 t2 t3 HX1 HX2
    go_wp2
    go_loopw [11] (fun i wr => ∃ k : Nat, k ≤ un ∧ i = .int .i64 k ∧ Hid (∀ j, j < k → dfB (psD ps) L (psD ps2) L2 y (X.getD j []) = false) ∧ Ext w3 wr) (fun i _ => un - (intOf i).toNat)
    case atStart => exact ⟨0, by omega, rfl, Lib.hid (fun j hj => absurd hj (by omega)), by (repeat (first | with_reducible exact Ext.refl _ | with_reducible assumption | ((with_reducible apply Src.ext); with_reducible assumption) | with_reducible refine Ext.alloc ?_ _ | with_reducible refine Ext.drew ?_ | with_reducible refine Ext.drewN ?_ _ | ((with_reducible refine Ext.setCell' ?_ ?_ _); solve | omega | simp | (simp; omega)) | (with_reducible refine Ext.trans ?_ (by with_reducible assumption))))⟩
    case round =>
      obtain ⟨k, hk, rfl, HJ, hxr⟩ := hrel
      obtain ⟨w5, rfl⟩ : ∃ x, x = wr := ⟨wr, rfl⟩
      have hsr := hxr.size
      by_cases hlt : k < un
      · have hkr : k < X.length := by rw [← HUN.out]; exact hlt
        obtain ⟨b7, off7, hA7, hb7, c7x⟩ := (HS7.out.ext hxr).st hkr
        subst hA7
        have h := HH.out
        have h2 := HH2.out
        have hf := HFA.out k hkr
        have hf2 := HFB.out k hkr
        obtain ⟨z, hz⟩ : ∃ z, z = X.getD k [] := ⟨_, rfl⟩
        have HZ := Lib.hid hz
        rw [← hz] at hf hf2 c7x
        have hany : dfB (psD ps) L (psD ps2) L2 y z = true → res = true := fun q => by rw [HR.out, List.any_eq_true]; exact ⟨z, by rw [hz]; simp [List.getD, hkr], q⟩
        have HANY := Lib.hid hany
        obtain ⟨pa, hpa⟩ : ∃ pa, parT L z y = pa := ⟨_, rfl⟩
        obtain ⟨pb, hpb⟩ : ∃ pb, parT L2 z y = pb := ⟨_, rfl⟩
        have hD : dfB (psD ps) L (psD ps2) L2 y z = (!(txL ((fndP (psD ps) z).getD pdD).2.2.2.2 y == txL ((fndP (psD ps2) z).getD pdD).2.2.2.2 y) || !((tx pa).toList == (tx pb).toList)) := by
          rw [tx_beq, ← hpa, ← hpb]; rfl
        have HQQ0 : Hid (∀ a b s, (a = (.slice A' m c') ∧ b = (tx z) ∧ s = tx pa) ∨ (a = (.slice B' m2 d2) ∧ b = (tx z) ∧ s = tx pb) → ∀ W, Ext w W → Calls Tryz.prog 61 #[a, .string b, .int .i64 y] W fun e w' => e = .returned (.string s) ∧ Ext W w') := Lib.hid (fun a b s hv W hW => by
          rcases hv with ⟨rfl, rfl, rfl⟩ | ⟨rfl, rfl, rfl⟩
          · rw [← hpa]; exact s_l12Parent A' m c' L z y W (h.sk.ext hW) h.hm hlm
          · rw [← hpb]; exact s_l12Parent B' m2 d2 L2 z y W (h2.sk.ext hW) h2.hm hlm2)
        have hwA := HWD.out
        have hwB := HWD2.out
        clear hpa hpb hz hany hkr
        obtain ⟨ka, hka1, hka2, hka3, hka4⟩ := fnd_some hf
        rw [psD_len] at hka2
        rw [psD_at hka2] at hka3
        have HFa := Lib.hid (fun W (hW : Ext w W) => s_l11Find A n c ps z W (h.sq.ext hW) h.hn (by rw [h.hn]; exact h.hl))
        rw [hka1] at HFa
        have hgda : (fndP (psD ps) z).getD pdD = pdOf (ps.getD ka plD) := by rw [hka3]; rfl
        have hIa : IsP w (pdOf (ps.getD ka plD)) (.agg #[.string (tx (ps.getD ka plD).1), .int .i64 (ps.getD ka plD).2.1, .int .i64 (ps.getD ka plD).2.2.1, .int .i64 (ps.getD ka plD).2.2.2.1, .slice (ps.getD ka plD).2.2.2.2.1 (ps.getD ka plD).2.2.2.2.2.2.length (ps.getD ka plD).2.2.2.2.2.1]) := isP_at h hwA hka2
        obtain ⟨ba, oa, hAa, hba, pc0, pc1, pc2, pc3, pc4⟩ := h.sq.pl hka2
        have hkna : ka < n := by rw [h.hn]; exact hka2
        have hk0a : (0 : Int) ≤ (ka : Int) := by omega
        rw [hgda] at hD
        clear hka1 hka2 hka3 hka4 hgda
        generalize pdOf (ps.getD ka plD) = da at *
        generalize tx (ps.getD ka plD).1 = p0 at *
        generalize (ps.getD ka plD).2.1 = p1 at *
        generalize (ps.getD ka plD).2.2.1 = p2 at *
        generalize (ps.getD ka plD).2.2.2.1 = p3 at *
        generalize (ps.getD ka plD).2.2.2.2.1 = p4 at *
        generalize (ps.getD ka plD).2.2.2.2.2.2.length = p5 at *
        generalize (ps.getD ka plD).2.2.2.2.2.1 = p6 at *
        have HRa : Hid (∀ W, Ext w W → W.cell? ⟨ba, oa + ka * 5, none⟩ = some (.string p0) ∧ W.cell? ⟨ba, oa + ka * 5 + 1, none⟩ = some (.int .i64 p1) ∧ W.cell? ⟨ba, oa + ka * 5 + 2, none⟩ = some (.int .i64 p2) ∧ W.cell? ⟨ba, oa + ka * 5 + 3, none⟩ = some (.int .i64 p3) ∧ W.cell? ⟨ba, oa + ka * 5 + 4, none⟩ = some (.slice p4 p5 p6)) := Lib.hid (fun W hW => ⟨(hW.cell _ _ hba).trans pc0, (hW.cell _ _ hba).trans pc1, (hW.cell _ _ hba).trans pc2, (hW.cell _ _ hba).trans pc3, (hW.cell _ _ hba).trans pc4⟩)
        have HIa := Lib.hid hIa
        clear pc0 pc1 pc2 pc3 pc4 hIa
        obtain ⟨kb, hkb1, hkb2, hkb3, hkb4⟩ := fnd_some hf2
        rw [psD_len] at hkb2
        rw [psD_at hkb2] at hkb3
        have HFb := Lib.hid (fun W (hW : Ext w W) => s_l11Find B n2 c2 ps2 z W (h2.sq.ext hW) h2.hn (by rw [h2.hn]; exact h2.hl))
        rw [hkb1] at HFb
        have hgdb : (fndP (psD ps2) z).getD pdD = pdOf (ps2.getD kb plD) := by rw [hkb3]; rfl
        have hIb : IsP w (pdOf (ps2.getD kb plD)) (.agg #[.string (tx (ps2.getD kb plD).1), .int .i64 (ps2.getD kb plD).2.1, .int .i64 (ps2.getD kb plD).2.2.1, .int .i64 (ps2.getD kb plD).2.2.2.1, .slice (ps2.getD kb plD).2.2.2.2.1 (ps2.getD kb plD).2.2.2.2.2.2.length (ps2.getD kb plD).2.2.2.2.2.1]) := isP_at h2 hwB hkb2
        obtain ⟨bb, ob, hAb, hbb, rc0, rc1, rc2, rc3, rc4⟩ := h2.sq.pl hkb2
        have hknb : kb < n2 := by rw [h2.hn]; exact hkb2
        have hk0b : (0 : Int) ≤ (kb : Int) := by omega
        rw [hgdb] at hD
        clear hkb1 hkb2 hkb3 hkb4 hgdb
        generalize pdOf (ps2.getD kb plD) = db at *
        generalize tx (ps2.getD kb plD).1 = r0 at *
        generalize (ps2.getD kb plD).2.1 = r1 at *
        generalize (ps2.getD kb plD).2.2.1 = r2 at *
        generalize (ps2.getD kb plD).2.2.2.1 = r3 at *
        generalize (ps2.getD kb plD).2.2.2.2.1 = r4 at *
        generalize (ps2.getD kb plD).2.2.2.2.2.2.length = r5 at *
        generalize (ps2.getD kb plD).2.2.2.2.2.1 = r6 at *
        have HRb : Hid (∀ W, Ext w W → W.cell? ⟨bb, ob + kb * 5, none⟩ = some (.string r0) ∧ W.cell? ⟨bb, ob + kb * 5 + 1, none⟩ = some (.int .i64 r1) ∧ W.cell? ⟨bb, ob + kb * 5 + 2, none⟩ = some (.int .i64 r2) ∧ W.cell? ⟨bb, ob + kb * 5 + 3, none⟩ = some (.int .i64 r3) ∧ W.cell? ⟨bb, ob + kb * 5 + 4, none⟩ = some (.slice r4 r5 r6)) := Lib.hid (fun W hW => ⟨(hW.cell _ _ hbb).trans rc0, (hW.cell _ _ hbb).trans rc1, (hW.cell _ _ hbb).trans rc2, (hW.cell _ _ hbb).trans rc3, (hW.cell _ _ hbb).trans rc4⟩)
        have HIb := Lib.hid hIb
        clear rc0 rc1 rc2 rc3 rc4 hIb
        subst hAa
        subst hAb
        have HQQ := HQQ0
        have HFF : Hid (∀ a x k, (a = (.slice (some ⟨ba, oa, none⟩) n c) ∧ k = (ka : Int)) ∨ (a = (.slice (some ⟨bb, ob, none⟩) n2 c2) ∧ k = (kb : Int)) → x = tx z → ∀ W, Ext w W → Calls Tryz.prog 65 #[a, .string x] W fun e w' => e = .returned (.int .i64 k) ∧ W = w') := Lib.hid (fun a x k hv hx W hW => by
          subst hx
          rcases hv with ⟨rfl, rfl⟩ | ⟨rfl, rfl⟩
          · exact HFa.out W hW
          · exact HFb.out W hW)
        have HKW : Hid (∀ W, Ext w5 W → W.cell? ⟨w.heap.size, 0, none⟩ = some (.slice (some ⟨ba, oa, none⟩) n c) ∧ W.cell? ⟨w.heap.size, 1, none⟩ = some (.slice A' m c') ∧ W.cell? ⟨w.heap.size + 1, 0, none⟩ = some (.slice (some ⟨bb, ob, none⟩) n2 c2) ∧ W.cell? ⟨w.heap.size + 1, 1, none⟩ = some (.slice B' m2 d2)) := Lib.hid (fun W hW => HK.out W (HB3.out.trans (hxr.trans hW)))
        have HKC : Hid (∀ W, Ext w5 W → W.cell? ⟨w.heap.size, 0, none⟩ = some (.slice (some ⟨ba, oa, none⟩) n c) ∧ W.cell? ⟨w.heap.size, 1, none⟩ = some (.slice A' m c') ∧ W.cell? ⟨w.heap.size + 1, 0, none⟩ = some (.slice (some ⟨bb, ob, none⟩) n2 c2) ∧ W.cell? ⟨w.heap.size + 1, 1, none⟩ = some (.slice B' m2 d2) ∧ W.cell? ⟨ba, oa + ka * 5, none⟩ = some (.string p0) ∧ W.cell? ⟨ba, oa + ka * 5 + 1, none⟩ = some (.int .i64 p1) ∧ W.cell? ⟨ba, oa + ka * 5 + 2, none⟩ = some (.int .i64 p2) ∧ W.cell? ⟨ba, oa + ka * 5 + 3, none⟩ = some (.int .i64 p3) ∧ W.cell? ⟨ba, oa + ka * 5 + 4, none⟩ = some (.slice p4 p5 p6) ∧ W.cell? ⟨bb, ob + kb * 5, none⟩ = some (.string r0) ∧ W.cell? ⟨bb, ob + kb * 5 + 1, none⟩ = some (.int .i64 r1) ∧ W.cell? ⟨bb, ob + kb * 5 + 2, none⟩ = some (.int .i64 r2) ∧ W.cell? ⟨bb, ob + kb * 5 + 3, none⟩ = some (.int .i64 r3) ∧ W.cell? ⟨bb, ob + kb * 5 + 4, none⟩ = some (.slice r4 r5 r6)) := Lib.hid (fun W hW => by
          obtain ⟨a1, a2, a3, a4⟩ := HKW.out W hW
          have hWw : Ext w W := HW3.out.trans (hxr.trans hW)
          exact ⟨a1, a2, a3, a4, HRa.out W hWw |>.1, HRa.out W hWw |>.2.1, HRa.out W hWw |>.2.2.1, HRa.out W hWw |>.2.2.2.1, HRa.out W hWw |>.2.2.2.2, HRb.out W hWw⟩)
        clear h h2 hf hf2 hwA hwB hba hbb HQQ0
        generalize tx z = sx at *
        go_upto_region 8 with (fail)
        go_cut [12, 13] (fun p q wx => ∃ b12 b13 : Nat, p = .pointer (some ⟨b12, 0, none⟩) ∧ q = .pointer (some ⟨b13, 0, none⟩) ∧ Blk wx b12 78 #[.string p0, .int .i64 p1, .int .i64 p2, .int .i64 p3, .slice p4 p5 p6] ∧ Blk wx b13 78 #[.string r0, .int .i64 r1, .int .i64 r2, .int .i64 r3, .slice r4 r5 r6] ∧ Ext w5 wx)
        case first =>
          obtain ⟨a1, a2, a3, a4, a5, a6, a7, a8, a9, a10, a11, a12, a13, a14⟩ := HKC.out w5 (Ext.refl _)
          have l1 := World.block_lt_of_cell? _ _ a1
          have l3 := World.block_lt_of_cell? _ _ a3
          have l5 := World.block_lt_of_cell? _ _ a5
          have l10 := World.block_lt_of_cell? _ _ a10
          have HKC8 : Hid (∀ W, Ext w5 W → W.cell? ⟨w.heap.size, 0, none⟩ = some (.slice (some ⟨ba, oa, none⟩) n c) ∧ W.cell? ⟨w.heap.size, 1, none⟩ = some (.slice A' m c') ∧ W.cell? ⟨w.heap.size + 1, 0, none⟩ = some (.slice (some ⟨bb, ob, none⟩) n2 c2) ∧ W.cell? ⟨w.heap.size + 1, 1, none⟩ = some (.slice B' m2 d2) ∧ W.cell? ⟨ba, oa + ka * 5, none⟩ = some (.string p0) ∧ W.cell? ⟨ba, oa + ka * 5 + 1, none⟩ = some (.int .i64 p1) ∧ W.cell? ⟨ba, oa + ka * 5 + 2, none⟩ = some (.int .i64 p2) ∧ W.cell? ⟨ba, oa + ka * 5 + 3, none⟩ = some (.int .i64 p3) ∧ W.cell? ⟨ba, oa + ka * 5 + 4, none⟩ = some (.slice p4 p5 p6) ∧ W.cell? ⟨bb, ob + kb * 5, none⟩ = some (.string r0) ∧ W.cell? ⟨bb, ob + kb * 5 + 1, none⟩ = some (.int .i64 r1) ∧ W.cell? ⟨bb, ob + kb * 5 + 2, none⟩ = some (.int .i64 r2) ∧ W.cell? ⟨bb, ob + kb * 5 + 3, none⟩ = some (.int .i64 r3) ∧ W.cell? ⟨bb, ob + kb * 5 + 4, none⟩ = some (.slice r4 r5 r6) ∧ W.cell? ⟨b7, off7 + k, none⟩ = some (.string sx)) := Lib.hid (fun W hW => by
            obtain ⟨c1, c2, c3, c4, c5, c6, c7, c8, c9, c10, c11, c12, c13, c14⟩ := HKC.out W hW
            exact ⟨c1, c2, c3, c4, c5, c6, c7, c8, c9, c10, c11, c12, c13, c14, (hW.cell _ _ hb7).trans c7x⟩)
          go_region_held3 (fun w' => w'.cell? ⟨w.heap.size, 0, none⟩ = some (.slice (some ⟨ba, oa, none⟩) n c) ∧ w'.cell? ⟨w.heap.size, 1, none⟩ = some (.slice A' m c') ∧ w'.cell? ⟨w.heap.size + 1, 0, none⟩ = some (.slice (some ⟨bb, ob, none⟩) n2 c2) ∧ w'.cell? ⟨w.heap.size + 1, 1, none⟩ = some (.slice B' m2 d2) ∧ w'.cell? ⟨ba, oa + ka * 5, none⟩ = some (.string p0) ∧ w'.cell? ⟨ba, oa + ka * 5 + 1, none⟩ = some (.int .i64 p1) ∧ w'.cell? ⟨ba, oa + ka * 5 + 2, none⟩ = some (.int .i64 p2) ∧ w'.cell? ⟨ba, oa + ka * 5 + 3, none⟩ = some (.int .i64 p3) ∧ w'.cell? ⟨ba, oa + ka * 5 + 4, none⟩ = some (.slice p4 p5 p6) ∧ w'.cell? ⟨bb, ob + kb * 5, none⟩ = some (.string r0) ∧ w'.cell? ⟨bb, ob + kb * 5 + 1, none⟩ = some (.int .i64 r1) ∧ w'.cell? ⟨bb, ob + kb * 5 + 2, none⟩ = some (.int .i64 r2) ∧ w'.cell? ⟨bb, ob + kb * 5 + 3, none⟩ = some (.int .i64 r3) ∧ w'.cell? ⟨bb, ob + kb * 5 + 4, none⟩ = some (.slice r4 r5 r6) ∧ w'.cell? ⟨b7, off7 + k, none⟩ = some (.string sx)) (first | exact HKC8.out _ (by (repeat (first | with_reducible exact Ext.refl _ | with_reducible assumption | ((with_reducible apply Src.ext); with_reducible assumption) | with_reducible refine Ext.alloc ?_ _ | with_reducible refine Ext.drew ?_ | with_reducible refine Ext.drewN ?_ _ | ((with_reducible refine Ext.setCell' ?_ ?_ _); solve | omega | simp | (simp; omega)) | (with_reducible refine Ext.trans ?_ (by with_reducible assumption))))) | go_keep) ((go_at_call 65; refine (HFF.out _ _ _ (by first | exact .inl ⟨rfl, rfl⟩ | exact .inr ⟨rfl, rfl⟩) rfl _ (HW3.out.trans (hxr.trans (by (repeat (first | with_reducible exact Ext.refl _ | with_reducible assumption | ((with_reducible apply Src.ext); with_reducible assumption) | with_reducible refine Ext.alloc ?_ _ | with_reducible refine Ext.drew ?_ | with_reducible refine Ext.drewN ?_ _ | ((with_reducible refine Ext.setCell' ?_ ?_ _); solve | omega | simp | (simp; omega)) | (with_reducible refine Ext.trans ?_ (by with_reducible assumption)))))))).mono ?_; rintro e w7 ⟨rfl, rfl⟩))
          all_goals (go_wp2_with fail; go_meet; exact ⟨_, _, rfl, rfl, Blk.eq (by (repeat (first | with_reducible assumption | ((with_reducible apply Blk.new); solve | simp | rfl) | with_reducible apply Blk.drew | with_reducible apply Blk.drewN | ((with_reducible apply Blk.far'); solve | omega | simp | (simp; omega)) | with_reducible apply Blk.set_ | with_reducible apply Blk.alloc | ((with_reducible apply Blk.ext'); with_reducible assumption) | ((with_reducible apply Blk.but'); (with_reducible assumption); solve | omega | (simp; omega))))) (by rfl), Blk.eq (by (repeat (first | with_reducible assumption | ((with_reducible apply Blk.new); solve | simp | rfl) | with_reducible apply Blk.drew | with_reducible apply Blk.drewN | ((with_reducible apply Blk.far'); solve | omega | simp | (simp; omega)) | with_reducible apply Blk.set_ | with_reducible apply Blk.alloc | ((with_reducible apply Blk.ext'); with_reducible assumption) | ((with_reducible apply Blk.but'); (with_reducible assumption); solve | omega | (simp; omega))))) (by rfl), by (repeat (first | with_reducible exact Ext.refl _ | with_reducible assumption | ((with_reducible apply Src.ext); with_reducible assumption) | with_reducible refine Ext.alloc ?_ _ | with_reducible refine Ext.drew ?_ | with_reducible refine Ext.drewN ?_ _ | ((with_reducible refine Ext.setCell' ?_ ?_ _); solve | omega | simp | (simp; omega)) | (with_reducible refine Ext.trans ?_ (by with_reducible assumption))))⟩)
        case rest =>
        obtain ⟨b12, b13, rfl, rfl, hB12, hB13, hxc⟩ := hcut
        have HIA := Lib.hid (HIa.out.ext (HW3.out.trans (hxr.trans hxc)))
        have HIB := Lib.hid (HIb.out.ext (HW3.out.trans (hxr.trans hxc)))
        have ha12 := names12 HIA.out
        have hb12 := names12 HIB.out
        have c7c : wc.cell? ⟨b7, off7 + k, none⟩ = some (.string sx) := (hxc.cell _ _ hb7).trans c7x
        have z7 := World.block_lt_of_cell? _ _ c7c
        have z12 := hB12.lt
        have z13 := hB13.lt
        have HK9 : Hid (∀ W, Ext wc W → W.cell? ⟨b12, 0, none⟩ = some (.string p0) ∧ W.cell? ⟨b12, 1, none⟩ = some (.int .i64 p1) ∧ W.cell? ⟨b12, 2, none⟩ = some (.int .i64 p2) ∧ W.cell? ⟨b12, 3, none⟩ = some (.int .i64 p3) ∧ W.cell? ⟨b12, 4, none⟩ = some (.slice p4 p5 p6) ∧ W.cell? ⟨b13, 0, none⟩ = some (.string r0) ∧ W.cell? ⟨b13, 1, none⟩ = some (.int .i64 r1) ∧ W.cell? ⟨b13, 2, none⟩ = some (.int .i64 r2) ∧ W.cell? ⟨b13, 3, none⟩ = some (.int .i64 r3) ∧ W.cell? ⟨b13, 4, none⟩ = some (.slice r4 r5 r6) ∧ W.cell? ⟨w.heap.size, 0, none⟩ = some (.slice (some ⟨ba, oa, none⟩) n c) ∧ W.cell? ⟨w.heap.size, 1, none⟩ = some (.slice A' m c') ∧ W.cell? ⟨w.heap.size + 1, 0, none⟩ = some (.slice (some ⟨bb, ob, none⟩) n2 c2) ∧ W.cell? ⟨w.heap.size + 1, 1, none⟩ = some (.slice B' m2 d2) ∧ W.cell? ⟨b7, off7 + k, none⟩ = some (.string sx)) := Lib.hid (fun W hW => by
          have q1 := hB12.ext hW
          have q2 := hB13.ext hW
          exact ⟨q1.cell 0, q1.cell 1, q1.cell 2, q1.cell 3, q1.cell 4, q2.cell 0, q2.cell 1, q2.cell 2, q2.cell 3, q2.cell 4, (HKW.out W (hxc.trans hW)).1, (HKW.out W (hxc.trans hW)).2.1, (HKW.out W (hxc.trans hW)).2.2.1, (HKW.out W (hxc.trans hW)).2.2.2, (hW.cell _ _ z7).trans c7c⟩)
        have HE2 : Hid (∀ W v v' q1 q2, OwS W q1 v (txL da.2.2.2.2 y) → OwS W q2 v' (txL db.2.2.2.2 y) → Calls Tryz.prog 118 #[v, v'] W fun e w' => e = .returned (.bool (txL da.2.2.2.2 y == txL db.2.2.2.2 y)) ∧ Ext W w') := Lib.hid (fun W v v' q1 q2 hO hO' => by
          obtain ⟨A1, e1, rfl, hS1, _⟩ := hO.sl len_encS
          obtain ⟨A2, e2, rfl, hS2, _⟩ := hO'.sl len_encS
          exact s_l14Equal _ _ _ _ _ _ _ _ _ hS1 hS2 rfl rfl (Nat.le_trans (txTo_len _ _ _) (by omega)) (Nat.le_trans (txTo_len _ _ _) (by omega)))
        have HQ9 : Hid (∀ a b s, (a = (.slice A' m c') ∧ b = sx ∧ s = tx pa) ∨ (a = (.slice B' m2 d2) ∧ b = sx ∧ s = tx pb) → ∀ W, Ext wc W → Calls Tryz.prog 61 #[a, .string b, .int .i64 y] W fun e w' => e = .returned (.string s) ∧ Ext W w') := Lib.hid (fun a b s hv W hW => HQQ.out a b s hv W (HW3.out.trans (hxr.trans (hxc.trans hW))))
        obtain ⟨g1, g2, g3, g4, g5, g6, g7, g8, g9, g10, g11, g12, g13, g14, g15⟩ := HK9.out wc (Ext.refl _)
        obtain ⟨q1, hq1⟩ : ∃ q1, (txL da.2.2.2.2 y == txL db.2.2.2.2 y) = q1 := ⟨_, rfl⟩
        rw [hq1] at hD HE2
        obtain ⟨q2, hq2⟩ : ∃ q2, ((tx pa).toList == (tx pb).toList) = q2 := ⟨_, rfl⟩
        have HRT : Hid ((!q1 || !q2) = true → res = true) := Lib.hid (fun q => HANY.out (by rw [hD, hq2]; exact q))
        have HRF : Hid ((!q1 || !q2) = false → ∀ j, j < k + 1 → dfB (psD ps) L (psD ps2) L2 y (X.getD j []) = false) := Lib.hid (fun q => upTo1 HJ.out (by rw [← HZ.out, hD, hq2]; exact q))
        clear hq1 hD HQQ hB12 hB13 ha12 hb12 c7x c7c HIa HIb
        have HQQ := HQ9
        clear HQ9
        generalize tx pa = sa at *
        generalize tx pb = sb at *
        cases q1 with
        | false =>
          have HRR := Lib.hid (HRT.out rfl)
          clear HRT HRF hq2
          go_wp2
          refine wp_region_held_drew (S := (fun w' => w'.cell? ⟨b12, 0, none⟩ = some (.string p0) ∧ w'.cell? ⟨b12, 1, none⟩ = some (.int .i64 p1) ∧ w'.cell? ⟨b12, 2, none⟩ = some (.int .i64 p2) ∧ w'.cell? ⟨b12, 3, none⟩ = some (.int .i64 p3) ∧ w'.cell? ⟨b12, 4, none⟩ = some (.slice p4 p5 p6) ∧ w'.cell? ⟨b13, 0, none⟩ = some (.string r0) ∧ w'.cell? ⟨b13, 1, none⟩ = some (.int .i64 r1) ∧ w'.cell? ⟨b13, 2, none⟩ = some (.int .i64 r2) ∧ w'.cell? ⟨b13, 3, none⟩ = some (.int .i64 r3) ∧ w'.cell? ⟨b13, 4, none⟩ = some (.slice r4 r5 r6) ∧ w'.cell? ⟨w.heap.size, 0, none⟩ = some (.slice (some ⟨ba, oa, none⟩) n c) ∧ w'.cell? ⟨w.heap.size, 1, none⟩ = some (.slice A' m c') ∧ w'.cell? ⟨w.heap.size + 1, 0, none⟩ = some (.slice (some ⟨bb, ob, none⟩) n2 c2) ∧ w'.cell? ⟨w.heap.size + 1, 1, none⟩ = some (.slice B' m2 d2) ∧ w'.cell? ⟨b7, off7 + k, none⟩ = some (.string sx))) (by kernel_rfl) (by (first | exact HK9.out _ (by (repeat (first | with_reducible exact Ext.refl _ | with_reducible assumption | ((with_reducible apply Src.ext); with_reducible assumption) | with_reducible refine Ext.alloc ?_ _ | with_reducible refine Ext.drew ?_ | with_reducible refine Ext.drewN ?_ _ | ((with_reducible refine Ext.setCell' ?_ ?_ _); solve | omega | simp | (simp; omega)) | (with_reducible refine Ext.trans ?_ (by with_reducible assumption))))) | go_keep)) (fun hHeld => ?_)
          (refine wpAnyH_takeD (i := 0) (d := some 60) (v := ?_) rfl rfl (by kernel_rfl) (by kernel_rfl) (by kernel_rfl) (fun _ _ _ h => h) (Or.inl ⟨by rfl, ?_⟩) (by assumption) ?_; rotate_left; focus (intro w hSw; (try dsimp only at hSw); go_simp; (try with_reducible rfl); done); (try simp only [Act.put, List.setIfInBounds_toArray, List.set_cons_zero, List.set_cons_succ]))
          (refine wpAnyH_takeD (i := 1) (d := some 61) (v := ?_) rfl rfl (by kernel_rfl) (by kernel_rfl) (by kernel_rfl) (fun _ _ _ h => h) (Or.inl ⟨by rfl, ?_⟩) (by assumption) ?_; rotate_left; focus (intro w hSw; (try dsimp only at hSw); go_simp; (try with_reducible rfl); done); (try simp only [Act.put, List.setIfInBounds_toArray, List.set_cons_zero, List.set_cons_succ]))
          (refine wpAnyH_takeD (i := 3) (d := some 63) (v := ?_) rfl rfl (by kernel_rfl) (by kernel_rfl) (by kernel_rfl) (fun _ _ _ h => h) (Or.inl ⟨by rfl, ?_⟩) (by assumption) ?_; rotate_left; focus (intro w hSw; (try dsimp only at hSw); go_simp; (try with_reducible rfl); done); (try simp only [Act.put, List.setIfInBounds_toArray, List.set_cons_zero, List.set_cons_succ]))
          (refine wpAnyH_takeD (i := 4) (d := some 64) (v := ?_) rfl rfl (by kernel_rfl) (by kernel_rfl) (by kernel_rfl) (fun _ _ _ h => h) (Or.inl ⟨by rfl, ?_⟩) (by assumption) ?_; rotate_left; focus (intro w hSw; (try dsimp only at hSw); go_simp; (try with_reducible rfl); done); (try simp only [Act.put, List.setIfInBounds_toArray, List.set_cons_zero, List.set_cons_succ]))
          (refine wpAnyH_ready (rs := [2]) (by kernel_rfl) (by simp) ?_)
          refine AllReadyH.cons rfl (fun K hK => ?_) AllReadyH.nil
          go_simp
          (go_at_call 119; refine (HTX.out _ _ _ (IsP.ext (Hid.out (by assumption)) (by (repeat (first | with_reducible exact Ext.refl _ | with_reducible assumption | ((with_reducible apply Src.ext); with_reducible assumption) | with_reducible refine Ext.alloc ?_ _ | with_reducible refine Ext.drew ?_ | with_reducible refine Ext.drewN ?_ _ | ((with_reducible refine Ext.setCell' ?_ ?_ _); solve | omega | simp | (simp; omega)) | (with_reducible refine Ext.trans ?_ (by with_reducible assumption))))))).mono ?_; rintro e w8 ⟨v8, rfl, hO8, hx8⟩; have hs8 := hx8.size; have HO8 := Lib.hid hO8; clear hO8)
          (try go_wp2_with fail)
          (refine hK.out _ _ (by  (first | exact HK9.out _ (by (repeat (first | with_reducible exact Ext.refl _ | with_reducible assumption | ((with_reducible apply Src.ext); with_reducible assumption) | with_reducible refine Ext.alloc ?_ _ | with_reducible refine Ext.drew ?_ | with_reducible refine Ext.drewN ?_ _ | ((with_reducible refine Ext.setCell' ?_ ?_ _); solve | omega | simp | (simp; omega)) | (with_reducible refine Ext.trans ?_ (by with_reducible assumption))))) | go_keep) ) (fun hHeld => ?_); clear hK K; (try simp only [Act.put, List.setIfInBounds_toArray, List.set_cons_zero, List.set_cons_succ]))
          (refine wpAnyH_ready (rs := [5]) (by kernel_rfl) (by simp) ?_)
          refine AllReadyH.cons rfl (fun K hK => ?_) AllReadyH.nil
          go_simp
          (go_at_call 119; refine (HTX.out _ _ _ (IsP.ext (Hid.out (by assumption)) (by (repeat (first | with_reducible exact Ext.refl _ | with_reducible assumption | ((with_reducible apply Src.ext); with_reducible assumption) | with_reducible refine Ext.alloc ?_ _ | with_reducible refine Ext.drew ?_ | with_reducible refine Ext.drewN ?_ _ | ((with_reducible refine Ext.setCell' ?_ ?_ _); solve | omega | simp | (simp; omega)) | (with_reducible refine Ext.trans ?_ (by with_reducible assumption))))))).mono ?_; rintro e w8 ⟨v8, rfl, hO8, hx8⟩; have hs8 := hx8.size; have HO8 := Lib.hid hO8; clear hO8)
          (try go_wp2_with fail)
          (refine hK.out _ _ (by  (first | exact HK9.out _ (by (repeat (first | with_reducible exact Ext.refl _ | with_reducible assumption | ((with_reducible apply Src.ext); with_reducible assumption) | with_reducible refine Ext.alloc ?_ _ | with_reducible refine Ext.drew ?_ | with_reducible refine Ext.drewN ?_ _ | ((with_reducible refine Ext.setCell' ?_ ?_ _); solve | omega | simp | (simp; omega)) | (with_reducible refine Ext.trans ?_ (by with_reducible assumption))))) | go_keep) ) (fun hHeld => ?_); clear hK K; (try simp only [Act.put, List.setIfInBounds_toArray, List.set_cons_zero, List.set_cons_succ]))
          (refine wpAnyH_ready (rs := [6]) (by kernel_rfl) (by simp) ?_)
          refine AllReadyH.cons rfl (fun K hK => ?_) AllReadyH.nil
          go_simp
          (go_at_call 118; refine (HE2.out _ _ _ _ _ (Own.ext (Hid.out (by assumption)) (by (repeat (first | with_reducible exact Ext.refl _ | with_reducible assumption | ((with_reducible apply Src.ext); with_reducible assumption) | with_reducible refine Ext.alloc ?_ _ | with_reducible refine Ext.drew ?_ | with_reducible refine Ext.drewN ?_ _ | ((with_reducible refine Ext.setCell' ?_ ?_ _); solve | omega | simp | (simp; omega)) | (with_reducible refine Ext.trans ?_ (by with_reducible assumption)))))) (Own.ext (Hid.out (by assumption)) (by (repeat (first | with_reducible exact Ext.refl _ | with_reducible assumption | ((with_reducible apply Src.ext); with_reducible assumption) | with_reducible refine Ext.alloc ?_ _ | with_reducible refine Ext.drew ?_ | with_reducible refine Ext.drewN ?_ _ | ((with_reducible refine Ext.setCell' ?_ ?_ _); solve | omega | simp | (simp; omega)) | (with_reducible refine Ext.trans ?_ (by with_reducible assumption))))))).mono ?_; rintro e w10 ⟨rfl, hx10⟩; have hs10 := hx10.size)
          (try go_wp2_with fail)
          (refine hK.out _ _ (by  (first | exact HK9.out _ (by (repeat (first | with_reducible exact Ext.refl _ | with_reducible assumption | ((with_reducible apply Src.ext); with_reducible assumption) | with_reducible refine Ext.alloc ?_ _ | with_reducible refine Ext.drew ?_ | with_reducible refine Ext.drewN ?_ _ | ((with_reducible refine Ext.setCell' ?_ ?_ _); solve | omega | simp | (simp; omega)) | (with_reducible refine Ext.trans ?_ (by with_reducible assumption))))) | go_keep) ) (fun hHeld => ?_); clear hK K; (try simp only [Act.put, List.setIfInBounds_toArray, List.set_cons_zero, List.set_cons_succ]))
          (refine wpAnyH_takeD (i := 7) (d := some 67) (v := ?_) rfl rfl (by kernel_rfl) (by kernel_rfl) (by kernel_rfl) (fun _ _ _ h => h) (Or.inl ⟨by rfl, ?_⟩) (by assumption) ?_; rotate_left; focus (intro w hSw; (try dsimp only at hSw); go_simp; (try with_reducible rfl); done); (try simp only [Act.put, List.setIfInBounds_toArray, List.set_cons_zero, List.set_cons_succ]))
          (refine wpAnyH_takeD (i := 8) (d := some 68) (v := ?_) rfl rfl (by kernel_rfl) (by kernel_rfl) (by kernel_rfl) (fun _ _ _ h => h) (Or.inl ⟨by rfl, ?_⟩) (by assumption) ?_; rotate_left; focus (intro w hSw; (try dsimp only at hSw); go_simp; (try with_reducible rfl); done); (try simp only [Act.put, List.setIfInBounds_toArray, List.set_cons_zero, List.set_cons_succ]))
          (refine wpAnyH_takeD (i := 9) (d := some 69) (v := undef) rfl rfl (by kernel_rfl) (by kernel_rfl) (by kernel_rfl) (fun _ _ _ h => h) (Or.inr ⟨by rfl, rfl⟩) (by assumption) ?_; (try simp only [Act.put, List.setIfInBounds_toArray, List.set_cons_zero, List.set_cons_succ]))
          (refine wpAnyH_takeD (i := 10) (d := some 70) (v := undef) rfl rfl (by kernel_rfl) (by kernel_rfl) (by kernel_rfl) (fun _ _ _ h => h) (Or.inr ⟨by rfl, rfl⟩) (by assumption) ?_; (try simp only [Act.put, List.setIfInBounds_toArray, List.set_cons_zero, List.set_cons_succ]))
          (refine wpAnyH_takeD (i := 11) (d := some 71) (v := undef) rfl rfl (by kernel_rfl) (by kernel_rfl) (by kernel_rfl) (fun _ _ _ h => h) (Or.inr ⟨by rfl, rfl⟩) (by assumption) ?_; (try simp only [Act.put, List.setIfInBounds_toArray, List.set_cons_zero, List.set_cons_succ]))
          (refine wpAnyH_takeD (i := 12) (d := some 72) (v := undef) rfl rfl (by kernel_rfl) (by kernel_rfl) (by kernel_rfl) (fun _ _ _ h => h) (Or.inr ⟨by rfl, rfl⟩) (by assumption) ?_; (try simp only [Act.put, List.setIfInBounds_toArray, List.set_cons_zero, List.set_cons_succ]))
          (refine wpAnyH_takeD (i := 13) (d := some 73) (v := undef) rfl rfl (by kernel_rfl) (by kernel_rfl) (by kernel_rfl) (fun _ _ _ h => h) (Or.inr ⟨by rfl, rfl⟩) (by assumption) ?_; (try simp only [Act.put, List.setIfInBounds_toArray, List.set_cons_zero, List.set_cons_succ]))
          (refine wpAnyH_takeD (i := 14) (d := some 74) (v := undef) rfl rfl (by kernel_rfl) (by kernel_rfl) (by kernel_rfl) (fun _ _ _ h => h) (Or.inr ⟨by rfl, rfl⟩) (by assumption) ?_; (try simp only [Act.put, List.setIfInBounds_toArray, List.set_cons_zero, List.set_cons_succ]))
          (refine wpAnyH_takeD (i := 15) (d := some 75) (v := undef) rfl rfl (by kernel_rfl) (by kernel_rfl) (by kernel_rfl) (fun _ _ _ h => h) (Or.inr ⟨by rfl, rfl⟩) (by assumption) ?_; (try simp only [Act.put, List.setIfInBounds_toArray, List.set_cons_zero, List.set_cons_succ]))
          (refine wpAnyH_takeD (i := 16) (d := some 76) (v := undef) rfl rfl (by kernel_rfl) (by kernel_rfl) (by kernel_rfl) (fun _ _ _ h => h) (Or.inr ⟨by rfl, rfl⟩) (by assumption) ?_; (try simp only [Act.put, List.setIfInBounds_toArray, List.set_cons_zero, List.set_cons_succ]))
          (refine wpAnyH_takeD (i := 17) (d := some 77) (v := undef) rfl rfl (by kernel_rfl) (by kernel_rfl) (by kernel_rfl) (fun _ _ _ h => h) (Or.inr ⟨by rfl, rfl⟩) (by assumption) ?_; (try simp only [Act.put, List.setIfInBounds_toArray, List.set_cons_zero, List.set_cons_succ]))
          (refine wpAnyH_takeD (i := 18) (d := some 78) (v := undef) rfl rfl (by kernel_rfl) (by kernel_rfl) (by kernel_rfl) (fun _ _ _ h => h) (Or.inr ⟨by rfl, rfl⟩) (by assumption) ?_; (try simp only [Act.put, List.setIfInBounds_toArray, List.set_cons_zero, List.set_cons_succ]))
          (refine wpAnyH_takeD (i := 19) (d := some 79) (v := undef) rfl rfl (by kernel_rfl) (by kernel_rfl) (by kernel_rfl) (fun _ _ _ h => h) (Or.inr ⟨by rfl, rfl⟩) (by assumption) ?_; (try simp only [Act.put, List.setIfInBounds_toArray, List.set_cons_zero, List.set_cons_succ]))
          (refine wpAnyH_takeD (i := 20) (d := some 80) (v := undef) rfl rfl (by kernel_rfl) (by kernel_rfl) (by kernel_rfl) (fun _ _ _ h => h) (Or.inr ⟨by rfl, rfl⟩) (by assumption) ?_; (try simp only [Act.put, List.setIfInBounds_toArray, List.set_cons_zero, List.set_cons_succ]))
          (refine wpAnyH_takeD (i := 21) (d := some 81) (v := undef) rfl rfl (by kernel_rfl) (by kernel_rfl) (by kernel_rfl) (fun _ _ _ h => h) (Or.inr ⟨by rfl, rfl⟩) (by assumption) ?_; (try simp only [Act.put, List.setIfInBounds_toArray, List.set_cons_zero, List.set_cons_succ]))
          (refine wpAnyH_takeD (i := 22) (d := some 82) (v := undef) rfl rfl (by kernel_rfl) (by kernel_rfl) (by kernel_rfl) (fun _ _ _ h => h) (Or.inr ⟨by rfl, rfl⟩) (by assumption) ?_; (try simp only [Act.put, List.setIfInBounds_toArray, List.set_cons_zero, List.set_cons_succ]))
          (refine wpAnyH_takeD (i := 23) (d := some 83) (v := undef) rfl rfl (by kernel_rfl) (by kernel_rfl) (by kernel_rfl) (fun _ _ _ h => h) (Or.inr ⟨by rfl, rfl⟩) (by assumption) ?_; (try simp only [Act.put, List.setIfInBounds_toArray, List.set_cons_zero, List.set_cons_succ]))
          (refine wpAnyH_takeD (i := 24) (d := some 84) (v := undef) rfl rfl (by kernel_rfl) (by kernel_rfl) (by kernel_rfl) (fun _ _ _ h => h) (Or.inr ⟨by rfl, rfl⟩) (by assumption) ?_; (try simp only [Act.put, List.setIfInBounds_toArray, List.set_cons_zero, List.set_cons_succ]))
          (refine wpAnyH_takeD (i := 25) (d := some 85) (v := undef) rfl rfl (by kernel_rfl) (by kernel_rfl) (by kernel_rfl) (fun _ _ _ h => h) (Or.inr ⟨by rfl, rfl⟩) (by assumption) ?_; (try simp only [Act.put, List.setIfInBounds_toArray, List.set_cons_zero, List.set_cons_succ]))
          (refine wpAnyH_takeD (i := 26) (d := some 86) (v := ?_) rfl rfl (by kernel_rfl) (by kernel_rfl) (by kernel_rfl) (fun _ _ _ h => h) (Or.inl ⟨by rfl, ?_⟩) (by assumption) ?_; rotate_left; focus (intro w hSw; (try dsimp only at hSw); go_simp; (try with_reducible rfl); done); (try simp only [Act.put, List.setIfInBounds_toArray, List.set_cons_zero, List.set_cons_succ]))
          refine wpAnyH_done (by kernel_rfl) ?_ _
          go_wp2
          go_ret
          exact ⟨by rw [HRR.out]; rfl, HW3.out.trans (hxr.trans (hxc.trans (by (repeat (first | with_reducible exact Ext.refl _ | with_reducible assumption | ((with_reducible apply Src.ext); with_reducible assumption) | with_reducible refine Ext.alloc ?_ _ | with_reducible refine Ext.drew ?_ | with_reducible refine Ext.drewN ?_ _ | ((with_reducible refine Ext.setCell' ?_ ?_ _); solve | omega | simp | (simp; omega)) | (with_reducible refine Ext.trans ?_ (by with_reducible assumption)))))))⟩
        | true =>
          cases q2 with
          | false =>
            have HRR := Lib.hid (HRT.out rfl)
            clear HRT HRF
            go_wp2
            go_region_held3 (fun w' => w'.cell? ⟨b12, 0, none⟩ = some (.string p0) ∧ w'.cell? ⟨b12, 1, none⟩ = some (.int .i64 p1) ∧ w'.cell? ⟨b12, 2, none⟩ = some (.int .i64 p2) ∧ w'.cell? ⟨b12, 3, none⟩ = some (.int .i64 p3) ∧ w'.cell? ⟨b12, 4, none⟩ = some (.slice p4 p5 p6) ∧ w'.cell? ⟨b13, 0, none⟩ = some (.string r0) ∧ w'.cell? ⟨b13, 1, none⟩ = some (.int .i64 r1) ∧ w'.cell? ⟨b13, 2, none⟩ = some (.int .i64 r2) ∧ w'.cell? ⟨b13, 3, none⟩ = some (.int .i64 r3) ∧ w'.cell? ⟨b13, 4, none⟩ = some (.slice r4 r5 r6) ∧ w'.cell? ⟨w.heap.size, 0, none⟩ = some (.slice (some ⟨ba, oa, none⟩) n c) ∧ w'.cell? ⟨w.heap.size, 1, none⟩ = some (.slice A' m c') ∧ w'.cell? ⟨w.heap.size + 1, 0, none⟩ = some (.slice (some ⟨bb, ob, none⟩) n2 c2) ∧ w'.cell? ⟨w.heap.size + 1, 1, none⟩ = some (.slice B' m2 d2) ∧ w'.cell? ⟨b7, off7 + k, none⟩ = some (.string sx)) (first | exact HK9.out _ (by (repeat (first | with_reducible exact Ext.refl _ | with_reducible assumption | ((with_reducible apply Src.ext); with_reducible assumption) | with_reducible refine Ext.alloc ?_ _ | with_reducible refine Ext.drew ?_ | with_reducible refine Ext.drewN ?_ _ | ((with_reducible refine Ext.setCell' ?_ ?_ _); solve | omega | simp | (simp; omega)) | (with_reducible refine Ext.trans ?_ (by with_reducible assumption))))) | go_keep) (first | (go_at_call 119; refine (HTX.out _ _ _ (IsP.ext (Hid.out (by assumption)) (by (repeat (first | with_reducible exact Ext.refl _ | with_reducible assumption | ((with_reducible apply Src.ext); with_reducible assumption) | with_reducible refine Ext.alloc ?_ _ | with_reducible refine Ext.drew ?_ | with_reducible refine Ext.drewN ?_ _ | ((with_reducible refine Ext.setCell' ?_ ?_ _); solve | omega | simp | (simp; omega)) | (with_reducible refine Ext.trans ?_ (by with_reducible assumption))))))).mono ?_; rintro e w8 ⟨v8, rfl, hO8, hx8⟩; have hs8 := hx8.size; have HO8 := Lib.hid hO8; clear hO8) | (go_at_call 118; refine (HE2.out _ _ _ _ _ (Own.ext (Hid.out (by assumption)) (by (repeat (first | with_reducible exact Ext.refl _ | with_reducible assumption | ((with_reducible apply Src.ext); with_reducible assumption) | with_reducible refine Ext.alloc ?_ _ | with_reducible refine Ext.drew ?_ | with_reducible refine Ext.drewN ?_ _ | ((with_reducible refine Ext.setCell' ?_ ?_ _); solve | omega | simp | (simp; omega)) | (with_reducible refine Ext.trans ?_ (by with_reducible assumption)))))) (Own.ext (Hid.out (by assumption)) (by (repeat (first | with_reducible exact Ext.refl _ | with_reducible assumption | ((with_reducible apply Src.ext); with_reducible assumption) | with_reducible refine Ext.alloc ?_ _ | with_reducible refine Ext.drew ?_ | with_reducible refine Ext.drewN ?_ _ | ((with_reducible refine Ext.setCell' ?_ ?_ _); solve | omega | simp | (simp; omega)) | (with_reducible refine Ext.trans ?_ (by with_reducible assumption))))))).mono ?_; rintro e w10 ⟨rfl, hx10⟩; have hs10 := hx10.size) | (go_at_call 61; refine (HQQ.out _ _ _ (by first | exact .inl ⟨rfl, rfl, rfl⟩ | exact .inr ⟨rfl, rfl, rfl⟩) _ (by (repeat (first | with_reducible exact Ext.refl _ | with_reducible assumption | ((with_reducible apply Src.ext); with_reducible assumption) | with_reducible refine Ext.alloc ?_ _ | with_reducible refine Ext.drew ?_ | with_reducible refine Ext.drewN ?_ _ | ((with_reducible refine Ext.setCell' ?_ ?_ _); solve | omega | simp | (simp; omega)) | (with_reducible refine Ext.trans ?_ (by with_reducible assumption)))))).mono ?_; rintro e w11 ⟨rfl, hx11⟩; have hs11 := hx11.size))
            all_goals
              go_wp2
              go_ret
              exact ⟨by rw [HRR.out]; rfl, HW3.out.trans (hxr.trans (hxc.trans (by (repeat (first | with_reducible exact Ext.refl _ | with_reducible assumption | ((with_reducible apply Src.ext); with_reducible assumption) | with_reducible refine Ext.alloc ?_ _ | with_reducible refine Ext.drew ?_ | with_reducible refine Ext.drewN ?_ _ | ((with_reducible refine Ext.setCell' ?_ ?_ _); solve | omega | simp | (simp; omega)) | (with_reducible refine Ext.trans ?_ (by with_reducible assumption)))))))⟩
          | true =>
            have HJ2 := Lib.hid (HRF.out rfl)
            clear HRT HRF
            go_wp2
            go_region_held3 (fun w' => w'.cell? ⟨b12, 0, none⟩ = some (.string p0) ∧ w'.cell? ⟨b12, 1, none⟩ = some (.int .i64 p1) ∧ w'.cell? ⟨b12, 2, none⟩ = some (.int .i64 p2) ∧ w'.cell? ⟨b12, 3, none⟩ = some (.int .i64 p3) ∧ w'.cell? ⟨b12, 4, none⟩ = some (.slice p4 p5 p6) ∧ w'.cell? ⟨b13, 0, none⟩ = some (.string r0) ∧ w'.cell? ⟨b13, 1, none⟩ = some (.int .i64 r1) ∧ w'.cell? ⟨b13, 2, none⟩ = some (.int .i64 r2) ∧ w'.cell? ⟨b13, 3, none⟩ = some (.int .i64 r3) ∧ w'.cell? ⟨b13, 4, none⟩ = some (.slice r4 r5 r6) ∧ w'.cell? ⟨w.heap.size, 0, none⟩ = some (.slice (some ⟨ba, oa, none⟩) n c) ∧ w'.cell? ⟨w.heap.size, 1, none⟩ = some (.slice A' m c') ∧ w'.cell? ⟨w.heap.size + 1, 0, none⟩ = some (.slice (some ⟨bb, ob, none⟩) n2 c2) ∧ w'.cell? ⟨w.heap.size + 1, 1, none⟩ = some (.slice B' m2 d2) ∧ w'.cell? ⟨b7, off7 + k, none⟩ = some (.string sx)) (first | exact HK9.out _ (by (repeat (first | with_reducible exact Ext.refl _ | with_reducible assumption | ((with_reducible apply Src.ext); with_reducible assumption) | with_reducible refine Ext.alloc ?_ _ | with_reducible refine Ext.drew ?_ | with_reducible refine Ext.drewN ?_ _ | ((with_reducible refine Ext.setCell' ?_ ?_ _); solve | omega | simp | (simp; omega)) | (with_reducible refine Ext.trans ?_ (by with_reducible assumption))))) | go_keep) (first | (go_at_call 119; refine (HTX.out _ _ _ (IsP.ext (Hid.out (by assumption)) (by (repeat (first | with_reducible exact Ext.refl _ | with_reducible assumption | ((with_reducible apply Src.ext); with_reducible assumption) | with_reducible refine Ext.alloc ?_ _ | with_reducible refine Ext.drew ?_ | with_reducible refine Ext.drewN ?_ _ | ((with_reducible refine Ext.setCell' ?_ ?_ _); solve | omega | simp | (simp; omega)) | (with_reducible refine Ext.trans ?_ (by with_reducible assumption))))))).mono ?_; rintro e w8 ⟨v8, rfl, hO8, hx8⟩; have hs8 := hx8.size; have HO8 := Lib.hid hO8; clear hO8) | (go_at_call 118; refine (HE2.out _ _ _ _ _ (Own.ext (Hid.out (by assumption)) (by (repeat (first | with_reducible exact Ext.refl _ | with_reducible assumption | ((with_reducible apply Src.ext); with_reducible assumption) | with_reducible refine Ext.alloc ?_ _ | with_reducible refine Ext.drew ?_ | with_reducible refine Ext.drewN ?_ _ | ((with_reducible refine Ext.setCell' ?_ ?_ _); solve | omega | simp | (simp; omega)) | (with_reducible refine Ext.trans ?_ (by with_reducible assumption)))))) (Own.ext (Hid.out (by assumption)) (by (repeat (first | with_reducible exact Ext.refl _ | with_reducible assumption | ((with_reducible apply Src.ext); with_reducible assumption) | with_reducible refine Ext.alloc ?_ _ | with_reducible refine Ext.drew ?_ | with_reducible refine Ext.drewN ?_ _ | ((with_reducible refine Ext.setCell' ?_ ?_ _); solve | omega | simp | (simp; omega)) | (with_reducible refine Ext.trans ?_ (by with_reducible assumption))))))).mono ?_; rintro e w10 ⟨rfl, hx10⟩; have hs10 := hx10.size) | (go_at_call 61; refine (HQQ.out _ _ _ (by first | exact .inl ⟨rfl, rfl, rfl⟩ | exact .inr ⟨rfl, rfl, rfl⟩) _ (by (repeat (first | with_reducible exact Ext.refl _ | with_reducible assumption | ((with_reducible apply Src.ext); with_reducible assumption) | with_reducible refine Ext.alloc ?_ _ | with_reducible refine Ext.drew ?_ | with_reducible refine Ext.drewN ?_ _ | ((with_reducible refine Ext.setCell' ?_ ?_ _); solve | omega | simp | (simp; omega)) | (with_reducible refine Ext.trans ?_ (by with_reducible assumption)))))).mono ?_; rintro e w11 ⟨rfl, hx11⟩; have hs11 := hx11.size))
            all_goals
              go_wp2
              go_roundw
              case rel => exact ⟨k + 1, by omega, by go_num, HJ2, hxr.trans (hxc.trans (by (repeat (first | with_reducible exact Ext.refl _ | with_reducible assumption | ((with_reducible apply Src.ext); with_reducible assumption) | with_reducible refine Ext.alloc ?_ _ | with_reducible refine Ext.drew ?_ | with_reducible refine Ext.drewN ?_ _ | ((with_reducible refine Ext.setCell' ?_ ?_ _); solve | omega | simp | (simp; omega)) | (with_reducible refine Ext.trans ?_ (by with_reducible assumption))))))⟩
              case measure => simp [intOf]; omega
      · obtain rfl : k = un := by omega
        have HRR : Hid (res = false) := Lib.hid (by
          rw [HR.out, List.any_eq_false]
          intro x hx
          obtain ⟨j, hj, rfl⟩ := List.mem_iff_getElem.1 hx
          have := HJ.out j (by rw [HUN.out]; exact hj)
          rw [show X.getD j [] = X[j] by simp [List.getD, hj]] at this
          rw [this]; simp)
        go_wp2
        go_ret
        exact ⟨by rw [HRR.out]; rfl, HW3.out.trans (by (repeat (first | with_reducible exact Ext.refl _ | with_reducible assumption | ((with_reducible apply Src.ext); with_reducible assumption) | with_reducible refine Ext.alloc ?_ _ | with_reducible refine Ext.drew ?_ | with_reducible refine Ext.drewN ?_ _ | ((with_reducible refine Ext.setCell' ?_ ?_ _); solve | omega | simp | (simp; omega)) | (with_reducible refine Ext.trans ?_ (by with_reducible assumption)))))⟩
end

end Go.Proofs.YtapfokfbdmcokaaGreatDoor
