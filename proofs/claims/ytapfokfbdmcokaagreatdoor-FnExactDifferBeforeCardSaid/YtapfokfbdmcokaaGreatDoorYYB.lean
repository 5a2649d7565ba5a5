/- A place that is not the same in two worlds, as the program tells it. -/
import Derived.Test.YtapfokfbdmcokaaGreatDoorYY
import Derived.Test.YtapfokfbdmcokaaGreatDoorYK
import Derived.Deep.RegionHeld3
import Derived.Deep.DeepCutAuto
import Derived.RegionTactic
import Derived.BigRegion
import Derived.WalkLawsBesides
import Derived.WalkSpells
import Derived.Lib.MinMax
import Derived.Outline
namespace Go.Proofs.YtapfokfbdmcokaaGreatDoor
open Go.RowKit
attribute [local go_sem] ExtOf.cell ExtOf.frozen


theorem cds_found {D : List Pd} {p : Pd → Bool} {x : List UInt8} (h : x ∈ cdsP p D) : (fndP D x).isSome = true := by
  unfold cdsP at h
  rw [List.mem_map] at h
  obtain ⟨d, hd, e⟩ := h
  unfold fndP
  rw [List.find?_isSome]
  exact ⟨d, (List.mem_filter.1 hd).1, by rw [beq_iff_eq]; exact e⟩
theorem isP_fnd' {w : World} {A A' : Option Addr} {n c m c' : Nat} {ps : List Pl} {L : List Lk} (h : WIn w A A' n c m c' ps L) (hw : wdB (psD ps) L = true) {z : List UInt8} (hf : (fndP (psD ps) z).isSome = true) : ∃ v, IsP w ((fndP (psD ps) z).getD pdD) v := by
  obtain ⟨k, hk1, hk2, hk3, hk4⟩ := fnd_some hf
  rw [psD_len] at hk2
  rw [psD_at hk2] at hk3
  refine ⟨plV (ps.getD k plD), ?_⟩
  rw [hk3]
  exact isP_at h hw hk2
theorem names12 {w : World} {d : Pd} {v : Value} (h : IsP w d v) : d.2.2.2.2.length ≤ 12 := by
  obtain ⟨p, _, rfl, h3, _⟩ := h
  exact (nsB_iff.1 (plB_iff.1 h3).2.2.2.1).2
theorem IsP.texts {w : World} {d : Pd} {v : Value} (h : IsP w d v) (y : Int) : Calls Tryz.prog 129 #[v, .int .i64 y] w fun e w' => ∃ v', e = .returned v' ∧ OwS w' w.heap.size v' (txL d.2.2.2.2 y) ∧ Ext w w' := by
  have h12 := names12 h
  obtain ⟨p, g1, rfl, g3, rfl⟩ := h
  have h13 : p.2.2.2.2.2.2.length ≤ 12 := h12
  exact i_textsIn p y w g1 (by omega)
section
variable {w : World} {A A' B B' : Option Addr} {n c m c' n2 c2 m2 d2 : Nat} {ps ps2 : List Pl} {L L2 : List Lk}
set_option maxRecDepth 20000 in
set_option maxHeartbeats 12800000 in
theorem i_differIn2 (x : List UInt8) (y : Int) (b3 b5 b4 : Nat) (h : WIn w A A' n c m c' ps L) (h2 : WIn w B B' n2 c2 m2 d2 ps2 L2) (hw : wdB (psD ps) L = true) (hw2 : wdB (psD ps2) L2 = true) (hf : (fndP (psD ps) x).isSome = true) (hf2 : (fndP (psD ps2) x).isSome = true)
    (k3 : Blk w b3 33 #[.slice A n c, .slice A' m c']) (k5 : w.cell? ⟨b5, 0, none⟩ = some (.int .i64 y)) (k4 : Blk w b4 33 #[.slice B n2 c2, .slice B' m2 d2]) :
    Calls Tryz.prog 128 (#[.string (tx x)] ++ #[.pointer (some ⟨b3, 0, none⟩), .pointer (some ⟨b5, 0, none⟩), .pointer (some ⟨b4, 0, none⟩)]) w fun e w' => e = .returned (.bool (dfB (psD ps) L (psD ps2) L2 y x)) ∧ Ext w w' := by
  have hlm : m ≤ 1048576 := by rw [h.hm]; exact h.hl'
  have hlm2 : m2 ≤ 1048576 := by rw [h2.hm]; exact h2.hl'
  have HPA := Lib.hid (fun W (hW : Ext w W) => i_placeP (w := W) x (h.ext hW) hw hf)
  have HPB := Lib.hid (fun W (hW : Ext w W) => i_placeP (w := W) x (h2.ext hW) hw2 hf2)
  have HTX := Lib.hid (fun W d v (hP : IsP W d v) => hP.texts y)
  obtain ⟨pa, hpa⟩ : ∃ pa, parT L x y = pa := ⟨_, rfl⟩
  obtain ⟨pb, hpb⟩ : ∃ pb, parT L2 x y = pb := ⟨_, rfl⟩
  have HQA : Hid (∀ W, Ext w W → Calls Tryz.prog 63 #[.agg #[.slice A n c, .slice A' m c'], .string (tx x), .int .i64 y] W fun e w' => e = .returned (.string (tx pa)) ∧ Ext W w') := Lib.hid (fun W hW => by rw [← hpa]; exact i_parentOf x y (h.sk.ext hW) h.hm hlm)
  have HQB : Hid (∀ W, Ext w W → Calls Tryz.prog 63 #[.agg #[.slice B n2 c2, .slice B' m2 d2], .string (tx x), .int .i64 y] W fun e w' => e = .returned (.string (tx pb)) ∧ Ext W w') := Lib.hid (fun W hW => by rw [← hpb]; exact i_parentOf x y (h2.sk.ext hW) h2.hm hlm2)
  obtain ⟨va, hva⟩ := isP_fnd' h hw hf
  obtain ⟨vb, hvb⟩ := isP_fnd' h2 hw2 hf2
  have ha12 := names12 hva
  have hb12 := names12 hvb
  have hD : dfB (psD ps) L (psD ps2) L2 y x = (!(txL ((fndP (psD ps) x).getD pdD).2.2.2.2 y == txL ((fndP (psD ps2) x).getD pdD).2.2.2.2 y) || !((tx pa).toList == (tx pb).toList)) := by
    rw [tx_beq, ← hpa, ← hpb]; rfl
  rw [hD]
  generalize (fndP (psD ps) x).getD pdD = da at *
  generalize (fndP (psD ps2) x).getD pdD = db at *
  have HE : Hid (∀ W v v' q1 q2, OwS W q1 v (txL da.2.2.2.2 y) → OwS W q2 v' (txL db.2.2.2.2 y) → Calls Tryz.prog 126 #[v, v'] W fun e w' => e = .returned (.bool (txL da.2.2.2.2 y == txL db.2.2.2.2 y)) ∧ Ext W w') := Lib.hid (fun W v v' q1 q2 hO hO' => by
    obtain ⟨A1, e1, rfl, hS1, _⟩ := hO.sl len_encS
    obtain ⟨A2, e2, rfl, hS2, _⟩ := hO'.sl len_encS
    exact i_EqualS _ _ _ _ _ _ _ _ _ hS1 hS2 rfl rfl (Nat.le_trans (txTo_len _ _ _) (by omega)) (Nat.le_trans (txTo_len _ _ _) (by omega)))
  have e3 := k3.lt
  have e4 := k4.lt
  have e5 : b5 < w.heap.size := World.block_lt_of_cell? _ _ k5
  have HK : Hid (∀ W, Ext w W → W.cell? ⟨b3, 0, none⟩ = some (.slice A n c) ∧ W.cell? ⟨b3, 1, none⟩ = some (.slice A' m c') ∧ W.cell? ⟨b5, 0, none⟩ = some (.int .i64 y) ∧ W.cell? ⟨b4, 0, none⟩ = some (.slice B n2 c2) ∧ W.cell? ⟨b4, 1, none⟩ = some (.slice B' m2 d2)) := Lib.hid (fun W hW => ⟨(k3.ext hW).cell 0, (k3.ext hW).cell 1, (hW.cell _ _ e5).trans k5, (k4.ext hW).cell 0, (k4.ext hW).cell 1⟩)
  obtain ⟨g1, g2, g3, g4, g5⟩ := HK.out w (Ext.refl _)
  generalize hq1 : (txL da.2.2.2.2 y == txL db.2.2.2.2 y) = q1 at *
  clear hq1 h h2 hw hw2 hf hf2 k3 k4 k5 hD hpa hpb hva hvb ha12 hb12
  generalize tx pa = sa at *
  generalize tx pb = sb at *
  have HPP : Hid (∀ v d, (v = .agg #[.slice A n c, .slice A' m c'] ∧ d = da) ∨ (v = .agg #[.slice B n2 c2, .slice B' m2 d2] ∧ d = db) → ∀ W, Ext w W → Calls Tryz.prog 68 #[v, .string (tx x)] W fun e w' => ∃ (s0 : ByteArray) (s1 s2 s3 : Int) (s4 : Option Addr) (s5 s6 : Nat), Hid (IsP W d (.agg #[.string s0, .int .i64 s1, .int .i64 s2, .int .i64 s3, .slice s4 s5 s6])) ∧ e = .returned (.agg #[.string s0, .int .i64 s1, .int .i64 s2, .int .i64 s3, .slice s4 s5 s6]) ∧ Ext W w') := Lib.hid (fun v d hv W hW => by
    rcases hv with ⟨rfl, rfl⟩ | ⟨rfl, rfl⟩
    · exact HPA.out W hW
    · exact HPB.out W hW)
  have HQQ : Hid (∀ v s, (v = .agg #[.slice A n c, .slice A' m c'] ∧ s = sa) ∨ (v = .agg #[.slice B n2 c2, .slice B' m2 d2] ∧ s = sb) → ∀ W, Ext w W → Calls Tryz.prog 63 #[v, .string (tx x), .int .i64 y] W fun e w' => e = .returned (.string s) ∧ Ext W w') := Lib.hid (fun v s hv W hW => by
    rcases hv with ⟨rfl, rfl⟩ | ⟨rfl, rfl⟩
    · exact HQA.out W hW
    · exact HQB.out W hW)
  clear HPA HPB HQA HQB
  generalize tx x = sx at *
  cases q1 with
  | false =>
      rw [show (!false || !(sa.toList == sb.toList)) = true from rfl]
      go_enter Tryz.func128, Tryz.ntmps128
      go_wp2
      refine wp_region_held_drew (S := (fun w' => w'.cell? ⟨b3, 0, none⟩ = some (.slice A n c) ∧ w'.cell? ⟨b3, 1, none⟩ = some (.slice A' m c') ∧ w'.cell? ⟨b5, 0, none⟩ = some (.int .i64 y) ∧ w'.cell? ⟨b4, 0, none⟩ = some (.slice B n2 c2) ∧ w'.cell? ⟨b4, 1, none⟩ = some (.slice B' m2 d2))) (by kernel_rfl) (by (first | go_keep | exact HK.out _ (by (repeat (first | with_reducible exact Ext.refl _ | with_reducible assumption | ((with_reducible apply Src.ext); with_reducible assumption) | with_reducible refine Ext.alloc ?_ _ | with_reducible refine Ext.drew ?_ | with_reducible refine Ext.drewN ?_ _ | ((with_reducible refine Ext.setCell' ?_ ?_ _); solve | omega | simp | (simp; omega)) | (with_reducible refine Ext.trans ?_ (by with_reducible assumption))))))) (fun hHeld => ?_)
      (refine wpAnyH_takeD (i := 0) (d := some 6) (v := ?_) rfl rfl (by kernel_rfl) (by kernel_rfl) (by kernel_rfl) (fun _ _ _ h => h) (Or.inl ⟨by rfl, ?_⟩) (by assumption) ?_; rotate_left; focus (intro w hSw; (try dsimp only at hSw); go_simp; (try with_reducible rfl); done); (try simp only [Act.put, List.setIfInBounds_toArray, List.set_cons_zero, List.set_cons_succ]))
      (refine wpAnyH_takeD (i := 1) (d := some 7) (v := ?_) rfl rfl (by kernel_rfl) (by kernel_rfl) (by kernel_rfl) (fun _ _ _ h => h) (Or.inl ⟨by rfl, ?_⟩) (by assumption) ?_; rotate_left; focus (intro w hSw; (try dsimp only at hSw); go_simp; (try with_reducible rfl); done); (try simp only [Act.put, List.setIfInBounds_toArray, List.set_cons_zero, List.set_cons_succ]))
      (refine wpAnyH_takeD (i := 3) (d := some 9) (v := ?_) rfl rfl (by kernel_rfl) (by kernel_rfl) (by kernel_rfl) (fun _ _ _ h => h) (Or.inl ⟨by rfl, ?_⟩) (by assumption) ?_; rotate_left; focus (intro w hSw; (try dsimp only at hSw); go_simp; (try with_reducible rfl); done); (try simp only [Act.put, List.setIfInBounds_toArray, List.set_cons_zero, List.set_cons_succ]))
      (refine wpAnyH_takeD (i := 5) (d := some 11) (v := ?_) rfl rfl (by kernel_rfl) (by kernel_rfl) (by kernel_rfl) (fun _ _ _ h => h) (Or.inl ⟨by rfl, ?_⟩) (by assumption) ?_; rotate_left; focus (intro w hSw; (try dsimp only at hSw); go_simp; (try with_reducible rfl); done); (try simp only [Act.put, List.setIfInBounds_toArray, List.set_cons_zero, List.set_cons_succ]))
      (refine wpAnyH_takeD (i := 6) (d := some 12) (v := ?_) rfl rfl (by kernel_rfl) (by kernel_rfl) (by kernel_rfl) (fun _ _ _ h => h) (Or.inl ⟨by rfl, ?_⟩) (by assumption) ?_; rotate_left; focus (intro w hSw; (try dsimp only at hSw); go_simp; (try with_reducible rfl); done); (try simp only [Act.put, List.setIfInBounds_toArray, List.set_cons_zero, List.set_cons_succ]))
      (refine wpAnyH_takeD (i := 8) (d := some 14) (v := ?_) rfl rfl (by kernel_rfl) (by kernel_rfl) (by kernel_rfl) (fun _ _ _ h => h) (Or.inl ⟨by rfl, ?_⟩) (by assumption) ?_; rotate_left; focus (intro w hSw; (try dsimp only at hSw); go_simp; (try with_reducible rfl); done); (try simp only [Act.put, List.setIfInBounds_toArray, List.set_cons_zero, List.set_cons_succ]))
      (refine wpAnyH_ready (rs := [2]) (by kernel_rfl) (by simp) ?_)
      refine AllReadyH.cons rfl (fun K hK => ?_) AllReadyH.nil
      go_simp
      (go_at_call 68; refine (HPP.out _ _ (by first | exact .inl ⟨rfl, rfl⟩ | exact .inr ⟨rfl, rfl⟩) _ (by (repeat (first | with_reducible exact Ext.refl _ | with_reducible assumption | ((with_reducible apply Src.ext); with_reducible assumption) | with_reducible refine Ext.alloc ?_ _ | with_reducible refine Ext.drew ?_ | with_reducible refine Ext.drewN ?_ _ | ((with_reducible refine Ext.setCell' ?_ ?_ _); solve | omega | simp | (simp; omega)) | (with_reducible refine Ext.trans ?_ (by with_reducible assumption)))))).mono ?_; rintro e w6 ⟨s0, s1, s2, s3, s4, s5, s6, HIA, rfl, hx6⟩; have hs6 := hx6.size)
      (try go_wp2_with fail)
      (refine hK.out _ _ (by  (first | go_keep | exact HK.out _ (by (repeat (first | with_reducible exact Ext.refl _ | with_reducible assumption | ((with_reducible apply Src.ext); with_reducible assumption) | with_reducible refine Ext.alloc ?_ _ | with_reducible refine Ext.drew ?_ | with_reducible refine Ext.drewN ?_ _ | ((with_reducible refine Ext.setCell' ?_ ?_ _); solve | omega | simp | (simp; omega)) | (with_reducible refine Ext.trans ?_ (by with_reducible assumption)))))) ) (fun hHeld => ?_); clear hK K; (try simp only [Act.put, List.setIfInBounds_toArray, List.set_cons_zero, List.set_cons_succ]))
      (refine wpAnyH_ready (rs := [4]) (by kernel_rfl) (by simp) ?_)
      refine AllReadyH.cons rfl (fun K hK => ?_) AllReadyH.nil
      go_simp
      (go_at_call 129; refine (HTX.out _ _ _ (IsP.ext (Hid.out (by assumption)) (by (repeat (first | with_reducible exact Ext.refl _ | with_reducible assumption | ((with_reducible apply Src.ext); with_reducible assumption) | with_reducible refine Ext.alloc ?_ _ | with_reducible refine Ext.drew ?_ | with_reducible refine Ext.drewN ?_ _ | ((with_reducible refine Ext.setCell' ?_ ?_ _); solve | omega | simp | (simp; omega)) | (with_reducible refine Ext.trans ?_ (by with_reducible assumption))))))).mono ?_; rintro e w8 ⟨v8, rfl, hO8, hx8⟩; have hs8 := hx8.size; have HO8 := Lib.hid hO8; clear hO8)
      (try go_wp2_with fail)
      (refine hK.out _ _ (by  (first | go_keep | exact HK.out _ (by (repeat (first | with_reducible exact Ext.refl _ | with_reducible assumption | ((with_reducible apply Src.ext); with_reducible assumption) | with_reducible refine Ext.alloc ?_ _ | with_reducible refine Ext.drew ?_ | with_reducible refine Ext.drewN ?_ _ | ((with_reducible refine Ext.setCell' ?_ ?_ _); solve | omega | simp | (simp; omega)) | (with_reducible refine Ext.trans ?_ (by with_reducible assumption)))))) ) (fun hHeld => ?_); clear hK K; (try simp only [Act.put, List.setIfInBounds_toArray, List.set_cons_zero, List.set_cons_succ]))
      (refine wpAnyH_ready (rs := [7]) (by kernel_rfl) (by simp) ?_)
      refine AllReadyH.cons rfl (fun K hK => ?_) AllReadyH.nil
      go_simp
      (go_at_call 68; refine (HPP.out _ _ (by first | exact .inl ⟨rfl, rfl⟩ | exact .inr ⟨rfl, rfl⟩) _ (by (repeat (first | with_reducible exact Ext.refl _ | with_reducible assumption | ((with_reducible apply Src.ext); with_reducible assumption) | with_reducible refine Ext.alloc ?_ _ | with_reducible refine Ext.drew ?_ | with_reducible refine Ext.drewN ?_ _ | ((with_reducible refine Ext.setCell' ?_ ?_ _); solve | omega | simp | (simp; omega)) | (with_reducible refine Ext.trans ?_ (by with_reducible assumption)))))).mono ?_; rintro e w6 ⟨s0, s1, s2, s3, s4, s5, s6, HIA, rfl, hx6⟩; have hs6 := hx6.size)
      (try go_wp2_with fail)
      (refine hK.out _ _ (by  (first | go_keep | exact HK.out _ (by (repeat (first | with_reducible exact Ext.refl _ | with_reducible assumption | ((with_reducible apply Src.ext); with_reducible assumption) | with_reducible refine Ext.alloc ?_ _ | with_reducible refine Ext.drew ?_ | with_reducible refine Ext.drewN ?_ _ | ((with_reducible refine Ext.setCell' ?_ ?_ _); solve | omega | simp | (simp; omega)) | (with_reducible refine Ext.trans ?_ (by with_reducible assumption)))))) ) (fun hHeld => ?_); clear hK K; (try simp only [Act.put, List.setIfInBounds_toArray, List.set_cons_zero, List.set_cons_succ]))
      (refine wpAnyH_ready (rs := [9]) (by kernel_rfl) (by simp) ?_)
      refine AllReadyH.cons rfl (fun K hK => ?_) AllReadyH.nil
      go_simp
      (go_at_call 129; refine (HTX.out _ _ _ (IsP.ext (Hid.out (by assumption)) (by (repeat (first | with_reducible exact Ext.refl _ | with_reducible assumption | ((with_reducible apply Src.ext); with_reducible assumption) | with_reducible refine Ext.alloc ?_ _ | with_reducible refine Ext.drew ?_ | with_reducible refine Ext.drewN ?_ _ | ((with_reducible refine Ext.setCell' ?_ ?_ _); solve | omega | simp | (simp; omega)) | (with_reducible refine Ext.trans ?_ (by with_reducible assumption))))))).mono ?_; rintro e w8 ⟨v8, rfl, hO8, hx8⟩; have hs8 := hx8.size; have HO8 := Lib.hid hO8; clear hO8)
      (try go_wp2_with fail)
      (refine hK.out _ _ (by  (first | go_keep | exact HK.out _ (by (repeat (first | with_reducible exact Ext.refl _ | with_reducible assumption | ((with_reducible apply Src.ext); with_reducible assumption) | with_reducible refine Ext.alloc ?_ _ | with_reducible refine Ext.drew ?_ | with_reducible refine Ext.drewN ?_ _ | ((with_reducible refine Ext.setCell' ?_ ?_ _); solve | omega | simp | (simp; omega)) | (with_reducible refine Ext.trans ?_ (by with_reducible assumption)))))) ) (fun hHeld => ?_); clear hK K; (try simp only [Act.put, List.setIfInBounds_toArray, List.set_cons_zero, List.set_cons_succ]))
      (refine wpAnyH_ready (rs := [10]) (by kernel_rfl) (by simp) ?_)
      refine AllReadyH.cons rfl (fun K hK => ?_) AllReadyH.nil
      go_simp
      (go_at_call 126; refine (HE.out _ _ _ _ _ (Own.ext (Hid.out (by assumption)) (by (repeat (first | with_reducible exact Ext.refl _ | with_reducible assumption | ((with_reducible apply Src.ext); with_reducible assumption) | with_reducible refine Ext.alloc ?_ _ | with_reducible refine Ext.drew ?_ | with_reducible refine Ext.drewN ?_ _ | ((with_reducible refine Ext.setCell' ?_ ?_ _); solve | omega | simp | (simp; omega)) | (with_reducible refine Ext.trans ?_ (by with_reducible assumption)))))) (Own.ext (Hid.out (by assumption)) (by (repeat (first | with_reducible exact Ext.refl _ | with_reducible assumption | ((with_reducible apply Src.ext); with_reducible assumption) | with_reducible refine Ext.alloc ?_ _ | with_reducible refine Ext.drew ?_ | with_reducible refine Ext.drewN ?_ _ | ((with_reducible refine Ext.setCell' ?_ ?_ _); solve | omega | simp | (simp; omega)) | (with_reducible refine Ext.trans ?_ (by with_reducible assumption))))))).mono ?_; rintro e w10 ⟨rfl, hx10⟩; have hs10 := hx10.size)
      (try go_wp2_with fail)
      (refine hK.out _ _ (by  (first | go_keep | exact HK.out _ (by (repeat (first | with_reducible exact Ext.refl _ | with_reducible assumption | ((with_reducible apply Src.ext); with_reducible assumption) | with_reducible refine Ext.alloc ?_ _ | with_reducible refine Ext.drew ?_ | with_reducible refine Ext.drewN ?_ _ | ((with_reducible refine Ext.setCell' ?_ ?_ _); solve | omega | simp | (simp; omega)) | (with_reducible refine Ext.trans ?_ (by with_reducible assumption)))))) ) (fun hHeld => ?_); clear hK K; (try simp only [Act.put, List.setIfInBounds_toArray, List.set_cons_zero, List.set_cons_succ]))
      (refine wpAnyH_takeD (i := 11) (d := some 17) (v := ?_) rfl rfl (by kernel_rfl) (by kernel_rfl) (by kernel_rfl) (fun _ _ _ h => h) (Or.inl ⟨by rfl, ?_⟩) (by assumption) ?_; rotate_left; focus (intro w hSw; (try dsimp only at hSw); go_simp; (try with_reducible rfl); done); (try simp only [Act.put, List.setIfInBounds_toArray, List.set_cons_zero, List.set_cons_succ]))
      (refine wpAnyH_takeD (i := 12) (d := some 18) (v := ?_) rfl rfl (by kernel_rfl) (by kernel_rfl) (by kernel_rfl) (fun _ _ _ h => h) (Or.inl ⟨by rfl, ?_⟩) (by assumption) ?_; rotate_left; focus (intro w hSw; (try dsimp only at hSw); go_simp; (try with_reducible rfl); done); (try simp only [Act.put, List.setIfInBounds_toArray, List.set_cons_zero, List.set_cons_succ]))
      (refine wpAnyH_takeD (i := 13) (d := some 19) (v := undef) rfl rfl (by kernel_rfl) (by kernel_rfl) (by kernel_rfl) (fun _ _ _ h => h) (Or.inr ⟨by rfl, rfl⟩) (by assumption) ?_; (try simp only [Act.put, List.setIfInBounds_toArray, List.set_cons_zero, List.set_cons_succ]))
      (refine wpAnyH_takeD (i := 14) (d := some 20) (v := undef) rfl rfl (by kernel_rfl) (by kernel_rfl) (by kernel_rfl) (fun _ _ _ h => h) (Or.inr ⟨by rfl, rfl⟩) (by assumption) ?_; (try simp only [Act.put, List.setIfInBounds_toArray, List.set_cons_zero, List.set_cons_succ]))
      (refine wpAnyH_takeD (i := 15) (d := some 21) (v := undef) rfl rfl (by kernel_rfl) (by kernel_rfl) (by kernel_rfl) (fun _ _ _ h => h) (Or.inr ⟨by rfl, rfl⟩) (by assumption) ?_; (try simp only [Act.put, List.setIfInBounds_toArray, List.set_cons_zero, List.set_cons_succ]))
      (refine wpAnyH_takeD (i := 16) (d := some 22) (v := undef) rfl rfl (by kernel_rfl) (by kernel_rfl) (by kernel_rfl) (fun _ _ _ h => h) (Or.inr ⟨by rfl, rfl⟩) (by assumption) ?_; (try simp only [Act.put, List.setIfInBounds_toArray, List.set_cons_zero, List.set_cons_succ]))
      (refine wpAnyH_takeD (i := 17) (d := some 23) (v := undef) rfl rfl (by kernel_rfl) (by kernel_rfl) (by kernel_rfl) (fun _ _ _ h => h) (Or.inr ⟨by rfl, rfl⟩) (by assumption) ?_; (try simp only [Act.put, List.setIfInBounds_toArray, List.set_cons_zero, List.set_cons_succ]))
      (refine wpAnyH_takeD (i := 18) (d := some 24) (v := undef) rfl rfl (by kernel_rfl) (by kernel_rfl) (by kernel_rfl) (fun _ _ _ h => h) (Or.inr ⟨by rfl, rfl⟩) (by assumption) ?_; (try simp only [Act.put, List.setIfInBounds_toArray, List.set_cons_zero, List.set_cons_succ]))
      (refine wpAnyH_takeD (i := 19) (d := some 25) (v := undef) rfl rfl (by kernel_rfl) (by kernel_rfl) (by kernel_rfl) (fun _ _ _ h => h) (Or.inr ⟨by rfl, rfl⟩) (by assumption) ?_; (try simp only [Act.put, List.setIfInBounds_toArray, List.set_cons_zero, List.set_cons_succ]))
      (refine wpAnyH_takeD (i := 20) (d := some 26) (v := undef) rfl rfl (by kernel_rfl) (by kernel_rfl) (by kernel_rfl) (fun _ _ _ h => h) (Or.inr ⟨by rfl, rfl⟩) (by assumption) ?_; (try simp only [Act.put, List.setIfInBounds_toArray, List.set_cons_zero, List.set_cons_succ]))
      (refine wpAnyH_takeD (i := 21) (d := some 27) (v := undef) rfl rfl (by kernel_rfl) (by kernel_rfl) (by kernel_rfl) (fun _ _ _ h => h) (Or.inr ⟨by rfl, rfl⟩) (by assumption) ?_; (try simp only [Act.put, List.setIfInBounds_toArray, List.set_cons_zero, List.set_cons_succ]))
      (refine wpAnyH_takeD (i := 22) (d := some 28) (v := ?_) rfl rfl (by kernel_rfl) (by kernel_rfl) (by kernel_rfl) (fun _ _ _ h => h) (Or.inl ⟨by rfl, ?_⟩) (by assumption) ?_; rotate_left; focus (intro w hSw; (try dsimp only at hSw); go_simp; (try with_reducible rfl); done); (try simp only [Act.put, List.setIfInBounds_toArray, List.set_cons_zero, List.set_cons_succ]))
      (refine wpAnyH_takeD (i := 23) (d := some 5) (v := ?_) rfl rfl (by kernel_rfl) (by kernel_rfl) (by kernel_rfl) (fun _ _ _ h => h) (Or.inl ⟨by rfl, ?_⟩) (by assumption) ?_; rotate_left; focus (intro w hSw; (try dsimp only at hSw); go_simp; (try with_reducible rfl); done); (try simp only [Act.put, List.setIfInBounds_toArray, List.set_cons_zero, List.set_cons_succ]))
      refine wpAnyH_done (by kernel_rfl) ?_ _
      go_wp2
      go_ret
      exact ⟨rfl, by (repeat (first | with_reducible exact Ext.refl _ | with_reducible assumption | ((with_reducible apply Src.ext); with_reducible assumption) | with_reducible refine Ext.alloc ?_ _ | with_reducible refine Ext.drew ?_ | with_reducible refine Ext.drewN ?_ _ | ((with_reducible refine Ext.setCell' ?_ ?_ _); solve | omega | simp | (simp; omega)) | (with_reducible refine Ext.trans ?_ (by with_reducible assumption))))⟩
  | true =>
      rw [show (!true || !(sa.toList == sb.toList)) = !(sa.toList == sb.toList) from rfl]
      go_enter Tryz.func128, Tryz.ntmps128
      go_wp2
      go_region_held3 (fun w' => w'.cell? ⟨b3, 0, none⟩ = some (.slice A n c) ∧ w'.cell? ⟨b3, 1, none⟩ = some (.slice A' m c') ∧ w'.cell? ⟨b5, 0, none⟩ = some (.int .i64 y) ∧ w'.cell? ⟨b4, 0, none⟩ = some (.slice B n2 c2) ∧ w'.cell? ⟨b4, 1, none⟩ = some (.slice B' m2 d2)) (first | go_keep | exact HK.out _ (by (repeat (first | with_reducible exact Ext.refl _ | with_reducible assumption | ((with_reducible apply Src.ext); with_reducible assumption) | with_reducible refine Ext.alloc ?_ _ | with_reducible refine Ext.drew ?_ | with_reducible refine Ext.drewN ?_ _ | ((with_reducible refine Ext.setCell' ?_ ?_ _); solve | omega | simp | (simp; omega)) | (with_reducible refine Ext.trans ?_ (by with_reducible assumption)))))) (first | (go_at_call 68; refine (HPP.out _ _ (by first | exact .inl ⟨rfl, rfl⟩ | exact .inr ⟨rfl, rfl⟩) _ (by (repeat (first | with_reducible exact Ext.refl _ | with_reducible assumption | ((with_reducible apply Src.ext); with_reducible assumption) | with_reducible refine Ext.alloc ?_ _ | with_reducible refine Ext.drew ?_ | with_reducible refine Ext.drewN ?_ _ | ((with_reducible refine Ext.setCell' ?_ ?_ _); solve | omega | simp | (simp; omega)) | (with_reducible refine Ext.trans ?_ (by with_reducible assumption)))))).mono ?_; rintro e w6 ⟨s0, s1, s2, s3, s4, s5, s6, HIA, rfl, hx6⟩; have hs6 := hx6.size) | (go_at_call 129; refine (HTX.out _ _ _ (IsP.ext (Hid.out (by assumption)) (by (repeat (first | with_reducible exact Ext.refl _ | with_reducible assumption | ((with_reducible apply Src.ext); with_reducible assumption) | with_reducible refine Ext.alloc ?_ _ | with_reducible refine Ext.drew ?_ | with_reducible refine Ext.drewN ?_ _ | ((with_reducible refine Ext.setCell' ?_ ?_ _); solve | omega | simp | (simp; omega)) | (with_reducible refine Ext.trans ?_ (by with_reducible assumption))))))).mono ?_; rintro e w8 ⟨v8, rfl, hO8, hx8⟩; have hs8 := hx8.size; have HO8 := Lib.hid hO8; clear hO8) | (go_at_call 126; refine (HE.out _ _ _ _ _ (Own.ext (Hid.out (by assumption)) (by (repeat (first | with_reducible exact Ext.refl _ | with_reducible assumption | ((with_reducible apply Src.ext); with_reducible assumption) | with_reducible refine Ext.alloc ?_ _ | with_reducible refine Ext.drew ?_ | with_reducible refine Ext.drewN ?_ _ | ((with_reducible refine Ext.setCell' ?_ ?_ _); solve | omega | simp | (simp; omega)) | (with_reducible refine Ext.trans ?_ (by with_reducible assumption)))))) (Own.ext (Hid.out (by assumption)) (by (repeat (first | with_reducible exact Ext.refl _ | with_reducible assumption | ((with_reducible apply Src.ext); with_reducible assumption) | with_reducible refine Ext.alloc ?_ _ | with_reducible refine Ext.drew ?_ | with_reducible refine Ext.drewN ?_ _ | ((with_reducible refine Ext.setCell' ?_ ?_ _); solve | omega | simp | (simp; omega)) | (with_reducible refine Ext.trans ?_ (by with_reducible assumption))))))).mono ?_; rintro e w10 ⟨rfl, hx10⟩; have hs10 := hx10.size) | (go_at_call 63; refine (HQQ.out _ _ (by first | exact .inl ⟨rfl, rfl⟩ | exact .inr ⟨rfl, rfl⟩) _ (by (repeat (first | with_reducible exact Ext.refl _ | with_reducible assumption | ((with_reducible apply Src.ext); with_reducible assumption) | with_reducible refine Ext.alloc ?_ _ | with_reducible refine Ext.drew ?_ | with_reducible refine Ext.drewN ?_ _ | ((with_reducible refine Ext.setCell' ?_ ?_ _); solve | omega | simp | (simp; omega)) | (with_reducible refine Ext.trans ?_ (by with_reducible assumption)))))).mono ?_; rintro e w11 ⟨rfl, hx11⟩; have hs11 := hx11.size))
      all_goals
        go_wp2
        go_ret
        exact ⟨rfl, by (repeat (first | with_reducible exact Ext.refl _ | with_reducible assumption | ((with_reducible apply Src.ext); with_reducible assumption) | with_reducible refine Ext.alloc ?_ _ | with_reducible refine Ext.drew ?_ | with_reducible refine Ext.drewN ?_ _ | ((with_reducible refine Ext.setCell' ?_ ?_ _); solve | omega | simp | (simp; omega)) | (with_reducible refine Ext.trans ?_ (by with_reducible assumption))))⟩
end
theorem en_differIn2 (args : Array Value) (w : World) : (callFunc 128 args).run Tryz.prog w = .ok (.enter 128 args) w := enters_isSome Tryz.func128 (by kernel_rfl) (by kernel_rfl) args w

end Go.Proofs.YtapfokfbdmcokaaGreatDoor
