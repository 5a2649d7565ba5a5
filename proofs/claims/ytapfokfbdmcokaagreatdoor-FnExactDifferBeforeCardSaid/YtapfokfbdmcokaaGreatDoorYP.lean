/- Codes of places, and places found, as the program sees them. -/
import Derived.Test.YtapfokfbdmcokaaGreatDoorYJ
import Derived.Test.YtapfokfbdmcokaaGreatDoorHI
import Derived.Deep.RegionHeld3
import Derived.Deep.DeepCutAuto
import Derived.RegionTactic
import Derived.BigRegion
import Derived.WalkLawsBesides
import Derived.WalkSpells
import Derived.Lib.MinMax
import Derived.Outline
namespace Go.Proofs.YtapfokfbdmcokaaGreatDoor
open Go.RowKit
attribute [local go_sem] ExtOf.cell ExtOf.frozen


/-- a place as the program holds it: its names read as they are told -/
def IsP (w : World) (d : Pd) (v : Value) : Prop := ∃ p : Pl, PlAt w p ∧ d = pdOf p ∧ plB d = true ∧ v = plV p
theorem IsP.ext {w w' : World} {d : Pd} {v : Value} (h : IsP w d v) (hx : Ext w w') : IsP w' d v := by
  obtain ⟨p, h1, h2, h3, h4⟩ := h
  exact ⟨p, h1.ext hx, h2, h3, h4⟩
theorem IsP.yrs {w : World} {d : Pd} {s0 : ByteArray} {s1 s2 s3 : Int} {s4 : Option Addr} {s5 s6 : Nat} (h : IsP w d (.agg #[.string s0, .int .i64 s1, .int .i64 s2, .int .i64 s3, .slice s4 s5 s6])) : s2 = d.2.2.1 ∧ s3 = d.2.2.2.1 ∧ s0 = tx d.1 := by
  obtain ⟨p, h1, rfl, h3, h4⟩ := h
  unfold plV at h4
  injection h4 with h4
  injection h4 with h4
  simp at h4
  exact ⟨h4.2.2.1, h4.2.2.2.1, h4.1⟩
theorem plB_sp {d : Pd} (h : plB d = true) : -3000 ≤ d.2.2.1 ∧ d.2.2.1 ≤ d.2.2.2.1 ∧ d.2.2.2.1 ≤ 3000 := spB_iff.1 (plB_iff.1 h).2.2.1
section
variable {w : World} {A A' : Option Addr} {n c m c' : Nat} {ps : List Pl} {L : List Lk}
theorem isP_at (h : WIn w A A' n c m c' ps L) (hw : wdB (psD ps) L = true) {k : Nat} (hk : k < ps.length) : IsP w (pdOf (ps.getD k plD)) (plV (ps.getD k plD)) := by
  refine ⟨ps.getD k plD, h.pl _ (pl_mem hk), rfl, ?_, rfl⟩
  have := wdB_pl hw (j := k) (by rw [psD_len]; exact hk)
  rwa [psD_at hk] at this
theorem i_placeP (x : List UInt8) (h : WIn w A A' n c m c' ps L) (hw : wdB (psD ps) L = true) (hs : (fndP (psD ps) x).isSome = true) :
    Calls Tryz.prog 68 #[.agg #[.slice A n c, .slice A' m c'], .string (tx x)] w fun e w' => ∃ (s0 : ByteArray) (s1 s2 s3 : Int) (s4 : Option Addr) (s5 s6 : Nat), Hid (IsP w ((fndP (psD ps) x).getD pdD) (.agg #[.string s0, .int .i64 s1, .int .i64 s2, .int .i64 s3, .slice s4 s5 s6])) ∧ e = .returned (.agg #[.string s0, .int .i64 s1, .int .i64 s2, .int .i64 s3, .slice s4 s5 s6]) ∧ Ext w w' := by
  refine (i_place (A' := A') (m := m) (c' := c') x h.sq h.hn (by rw [h.hn]; exact h.hl) (asc_of (wdB_iff.1 hw).1) hs).mono ?_
  rintro e w' ⟨k, hk, _, hf, rfl, hx⟩
  refine ⟨_, _, _, _, _, _, _, Lib.hid ?_, rfl, hx⟩
  rw [hf]
  exact isP_at h hw hk
theorem IsP.steady {d : Pd} {v : Value} (hP : IsP w d v) (h : SlAt w 4 encK A' L) (hn : m = L.length) (hl : m ≤ 1048576) (hm : Mx w) (z : Int) (h1 : -3001 ≤ z) (h2 : z ≤ 3001) :
    Calls Tryz.prog 69 #[.agg #[.slice A n c, .slice A' m c'], v, .int .i64 z] w fun e w' => e = .returned (.bool (sdB d L z)) ∧ Ext w w' := by
  obtain ⟨p, g1, rfl, g3, rfl⟩ := hP
  obtain ⟨_, _, q3, q4, _⟩ := plB_iff.1 g3
  exact i_isSteady A A' n c m c' L p z w h hn hl g1 hm q4 q3 h1 h2
theorem IsP.ex {d : Pd} {v : Value} (hP : IsP w d v) (z : Int) (W : World) : Calls Tryz.prog 52 #[v, .int .i64 z] W fun e w' => e = .returned (.bool (exB d z)) ∧ Ext W w' := by
  obtain ⟨p, g1, rfl, g3, rfl⟩ := hP
  exact s_l11Exists p z W
theorem plC_ne {D : List Pd} {x : List UInt8} {ok : Bool} {y : Int} (h : ¬ wyC D L (smL x 1 16 && ok) [y] = 0) : plC D L x ok y = wyC D L (smL x 1 16 && ok) [y] := by unfold plC; rw [if_neg h]
theorem plC_has {D : List Pd} {x : List UInt8} {ok : Bool} {y : Int} (h : wyC D L (smL x 1 16 && ok) [y] = 0) (hf : (fndP D x).isSome = true) : plC D L x ok y = 0 := by unfold plC; rw [if_pos h, if_pos hf]
theorem plC_lacks {D : List Pd} {x : List UInt8} {ok : Bool} {y : Int} (h : wyC D L (smL x 1 16 && ok) [y] = 0) (hf : (fndP D x).isSome = false) : plC D L x ok y = 4 := by unfold plC; rw [if_pos h, if_neg (by rw [hf]; simp)]
theorem ssC_ne {D : List Pd} {x : List UInt8} {ok : Bool} {y : Int} (h : ¬ plC D L x ok y = 0) : ssC D L x ok y = plC D L x ok y := by unfold ssC; rw [if_neg h]
theorem ssC_yes {D : List Pd} {x : List UInt8} {ok : Bool} {y : Int} (h : plC D L x ok y = 0) (he : exB ((fndP D x).getD pdD) y = true) : ssC D L x ok y = 0 := by unfold ssC; rw [if_pos h, if_pos he]
theorem ssC_no {D : List Pd} {x : List UInt8} {ok : Bool} {y : Int} (h : plC D L x ok y = 0) (he : exB ((fndP D x).getD pdD) y = false) : ssC D L x ok y = 5 := by unfold ssC; rw [if_pos h, if_neg (by rw [he]; simp)]
set_option maxRecDepth 20000 in
set_option maxHeartbeats 12800000 in
theorem i_placeCode (x : List UInt8) (y : Int) (ok : Bool) (h : WIn w A A' n c m c' ps L) (hx : x.length ≤ 1048576) (hm : Mx w) :
    Calls Tryz.prog 67 #[.agg #[.slice A n c, .slice A' m c'], .string (tx x), .bool ok, .int .i64 y] w fun e w' => e = .returned (.int .i64 (ssC (psD ps) L x ok y)) ∧ Ext w w' := by
  have HW := Lib.hid (fun W => by have := i_IsWord (tx x) W (by rw [tx_size]; omega); rw [smB_tx] at this; exact this)
  have HC0 : Hid (∀ r W g, Ext w W → Blk W g 2 #[.int .i64 y] → Calls Tryz.prog 54 #[.agg #[.slice A n c, .slice A' m c'], .bool r, .slice (some ⟨g, 0, none⟩) 1 1] W fun e w' => e = .returned (.int .i64 (wyC (psD ps) L r [y])) ∧ Ext W w') := Lib.hid (fun r W g hW hB => i_worldCode r [y] _ 1 1 (h.ext hW) (hm.ext hW) (blk_i1 hB) rfl (by omega))
  have HK : Hid (∀ W, Ext (w.alloc (.cells #[.slice A n c, .slice A' m c'] 33)) W → W.cell? ⟨w.heap.size, 0, none⟩ = some (.slice A n c) ∧ W.cell? ⟨w.heap.size, 1, none⟩ = some (.slice A' m c')) := Lib.hid (fun W hW => by
    have B := (Blk.new (cs := #[.slice A n c, .slice A' m c']) (t := 33) (w := w) rfl).ext hW
    exact ⟨B.cell 0, B.cell 1⟩)

  cases hq : smL x 1 16 with
  | false =>
    have hz : wyC (psD ps) L false [y] = 1 := wyC_no rfl
    have hr : ssC (psD ps) L x ok y = 1 := by
      have e : plC (psD ps) L x ok y = 1 := by rw [plC_ne (by rw [hq, Bool.false_and, hz]; omega), hq, Bool.false_and, hz]
      rw [ssC_ne (by omega), e]
    have HC := Lib.hid (HC0.out false)
    rw [hz] at HC
    rw [hr]
    rw [hq] at HW
    clear HC0 hq hz hr h hm hx
    generalize tx x = sx at *
    go_enter Tryz.func67, Tryz.ntmps67
    go_wp2
    refine wp_region_held_drew (S := (fun w' => w'.cell? ⟨w.heap.size, 0, none⟩ = some (.slice A n c) ∧ w'.cell? ⟨w.heap.size, 1, none⟩ = some (.slice A' m c'))) (by kernel_rfl) (by (first | go_keep | exact HK.out _ (by (repeat (first | with_reducible exact Ext.refl _ | with_reducible assumption | ((with_reducible apply Src.ext); with_reducible assumption) | with_reducible refine Ext.alloc ?_ _ | with_reducible refine Ext.drew ?_ | with_reducible refine Ext.drewN ?_ _ | ((with_reducible refine Ext.setCell' ?_ ?_ _); solve | omega | simp | (simp; omega)) | (with_reducible refine Ext.trans ?_ (by with_reducible assumption))))))) (fun hHeld => ?_)
    (refine wpAnyH_takeD (i := 0) (d := some 10) (v := ?_) rfl rfl (by kernel_rfl) (by kernel_rfl) (by kernel_rfl) (fun _ _ _ h => h) (Or.inl ⟨by rfl, ?_⟩) (by assumption) ?_; rotate_left; focus (intro w hSw; (try dsimp only at hSw); go_simp; (try with_reducible rfl); done); (try simp only [Act.put, List.setIfInBounds_toArray, List.set_cons_zero, List.set_cons_succ]))
    (refine wpAnyH_takeD (i := 1) (d := some 11) (v := ?_) rfl rfl (by kernel_rfl) (by kernel_rfl) (by kernel_rfl) (fun _ _ _ h => h) (Or.inl ⟨by rfl, ?_⟩) (by assumption) ?_; rotate_left; focus (intro w hSw; (try dsimp only at hSw); go_simp; (try with_reducible rfl); done); (try simp only [Act.put, List.setIfInBounds_toArray, List.set_cons_zero, List.set_cons_succ]))
    (refine wpAnyH_takeD (i := 6) (d := some 16) (v := ?_) rfl rfl (by kernel_rfl) (by kernel_rfl) (by kernel_rfl) (fun _ _ _ h => h) (Or.inl ⟨by rfl, ?_⟩) (by assumption) ?_; rotate_left; focus (intro w hSw; (try dsimp only at hSw); go_simp; (try with_reducible rfl); done); (try simp only [Act.put, List.setIfInBounds_toArray, List.set_cons_zero, List.set_cons_succ]))
    (refine wpAnyH_ready (rs := [2, 7]) (by kernel_rfl) (by simp) ?_)
    refine AllReadyH.cons rfl (fun K hK => ?_) (AllReadyH.cons rfl (fun K hK => ?_) AllReadyH.nil)
    · go_simp
      (go_at_call 82; refine (HW.out _).mono ?_; rintro e w7 ⟨rfl, hx7⟩; have hs7 := hx7.size; (try simp at hs7))
      (try go_wp2_with fail)
      (refine hK.out _ _ (by  (first | go_keep | exact HK.out _ (by (repeat (first | with_reducible exact Ext.refl _ | with_reducible assumption | ((with_reducible apply Src.ext); with_reducible assumption) | with_reducible refine Ext.alloc ?_ _ | with_reducible refine Ext.drew ?_ | with_reducible refine Ext.drewN ?_ _ | ((with_reducible refine Ext.setCell' ?_ ?_ _); solve | omega | simp | (simp; omega)) | (with_reducible refine Ext.trans ?_ (by with_reducible assumption)))))) ) (fun hHeld => ?_); clear hK K; (try simp only [Act.put, List.setIfInBounds_toArray, List.set_cons_zero, List.set_cons_succ]))
      (refine wpAnyH_takeD (i := 3) (d := some 13) (v := ?_) rfl rfl (by kernel_rfl) (by kernel_rfl) (by kernel_rfl) (fun _ _ _ h => h) (Or.inl ⟨by rfl, ?_⟩) (by assumption) ?_; rotate_left; focus (intro w hSw; (try dsimp only at hSw); go_simp; (try with_reducible rfl); done); (try simp only [Act.put, List.setIfInBounds_toArray, List.set_cons_zero, List.set_cons_succ]))
      (refine wpAnyH_takeD (i := 4) (d := some 14) (v := undef) rfl rfl (by kernel_rfl) (by kernel_rfl) (by kernel_rfl) (fun _ _ _ h => h) (Or.inr ⟨by rfl, rfl⟩) (by assumption) ?_; (try simp only [Act.put, List.setIfInBounds_toArray, List.set_cons_zero, List.set_cons_succ]))
      (refine wpAnyH_takeD (i := 5) (d := some 15) (v := ?_) rfl rfl (by kernel_rfl) (by kernel_rfl) (by kernel_rfl) (fun _ _ _ h => h) (Or.inl ⟨by rfl, ?_⟩) (by assumption) ?_; rotate_left; focus (intro w hSw; (try dsimp only at hSw); go_simp; (try with_reducible rfl); done); (try simp only [Act.put, List.setIfInBounds_toArray, List.set_cons_zero, List.set_cons_succ]))
      (refine wpAnyH_ready (rs := [7]) (by kernel_rfl) (by simp) ?_)
      refine AllReadyH.cons rfl (fun K hK => ?_) AllReadyH.nil
      go_simp
      (try go_wp2_with fail)
      (refine hK.out _ _ (by  (first | go_keep | exact HK.out _ (by (repeat (first | with_reducible exact Ext.refl _ | with_reducible assumption | ((with_reducible apply Src.ext); with_reducible assumption) | with_reducible refine Ext.alloc ?_ _ | with_reducible refine Ext.drew ?_ | with_reducible refine Ext.drewN ?_ _ | ((with_reducible refine Ext.setCell' ?_ ?_ _); solve | omega | simp | (simp; omega)) | (with_reducible refine Ext.trans ?_ (by with_reducible assumption)))))) ) (fun hHeld => ?_); clear hK K; (try simp only [Act.put, List.setIfInBounds_toArray, List.set_cons_zero, List.set_cons_succ]))
      (refine wpAnyH_ready (rs := [8]) (by kernel_rfl) (by simp) ?_)
      refine AllReadyH.cons rfl (fun K hK => ?_) AllReadyH.nil
      go_simp
      (go_at_call 54; refine (HC.out _ _ (by (repeat (first | with_reducible exact Ext.refl _ | with_reducible assumption | ((with_reducible apply Src.ext); with_reducible assumption) | with_reducible refine Ext.alloc ?_ _ | with_reducible refine Ext.drew ?_ | with_reducible refine Ext.drewN ?_ _ | ((with_reducible refine Ext.setCell' ?_ ?_ _); solve | omega | simp | (simp; omega)) | (with_reducible refine Ext.trans ?_ (by with_reducible assumption))))) (by (repeat (first | with_reducible assumption | ((with_reducible apply Blk.new); solve | simp | rfl) | with_reducible apply Blk.drew | with_reducible apply Blk.drewN | ((with_reducible apply Blk.far'); solve | omega | simp | (simp; omega)) | with_reducible apply Blk.set_ | with_reducible apply Blk.alloc | ((with_reducible apply Blk.ext'); with_reducible assumption) | ((with_reducible apply Blk.but'); (with_reducible assumption); solve | omega | (simp; omega)))))).mono ?_; rintro e w8 ⟨rfl, hx8⟩; have hs8 := hx8.size; (try simp at hs8); obtain ⟨y0, y1⟩ := HK.out w8 (by (repeat (first | with_reducible exact Ext.refl _ | with_reducible assumption | ((with_reducible apply Src.ext); with_reducible assumption) | with_reducible refine Ext.alloc ?_ _ | with_reducible refine Ext.drew ?_ | with_reducible refine Ext.drewN ?_ _ | ((with_reducible refine Ext.setCell' ?_ ?_ _); solve | omega | simp | (simp; omega)) | (with_reducible refine Ext.trans ?_ (by with_reducible assumption))))))
      (try go_wp2_with fail)
      (refine hK.out _ _ (by  (first | go_keep | exact HK.out _ (by (repeat (first | with_reducible exact Ext.refl _ | with_reducible assumption | ((with_reducible apply Src.ext); with_reducible assumption) | with_reducible refine Ext.alloc ?_ _ | with_reducible refine Ext.drew ?_ | with_reducible refine Ext.drewN ?_ _ | ((with_reducible refine Ext.setCell' ?_ ?_ _); solve | omega | simp | (simp; omega)) | (with_reducible refine Ext.trans ?_ (by with_reducible assumption)))))) ) (fun hHeld => ?_); clear hK K; (try simp only [Act.put, List.setIfInBounds_toArray, List.set_cons_zero, List.set_cons_succ]))
      (refine wpAnyH_takeD (i := 9) (d := some 9) (v := ?_) rfl rfl (by kernel_rfl) (by kernel_rfl) (by kernel_rfl) (fun _ _ _ h => h) (Or.inl ⟨by rfl, ?_⟩) (by assumption) ?_; rotate_left; focus (intro w hSw; (try dsimp only at hSw); go_simp; (try with_reducible rfl); done); (try simp only [Act.put, List.setIfInBounds_toArray, List.set_cons_zero, List.set_cons_succ]))
      refine wpAnyH_done (by kernel_rfl) ?_ _
      go_wp2
      go_ret
      exact ⟨rfl, by (repeat (first | with_reducible exact Ext.refl _ | with_reducible assumption | ((with_reducible apply Src.ext); with_reducible assumption) | with_reducible refine Ext.alloc ?_ _ | with_reducible refine Ext.drew ?_ | with_reducible refine Ext.drewN ?_ _ | ((with_reducible refine Ext.setCell' ?_ ?_ _); solve | omega | simp | (simp; omega)) | (with_reducible refine Ext.trans ?_ (by with_reducible assumption))))⟩
    · go_simp
      (try go_wp2_with fail)
      (refine hK.out _ _ (by  (first | go_keep | exact HK.out _ (by (repeat (first | with_reducible exact Ext.refl _ | with_reducible assumption | ((with_reducible apply Src.ext); with_reducible assumption) | with_reducible refine Ext.alloc ?_ _ | with_reducible refine Ext.drew ?_ | with_reducible refine Ext.drewN ?_ _ | ((with_reducible refine Ext.setCell' ?_ ?_ _); solve | omega | simp | (simp; omega)) | (with_reducible refine Ext.trans ?_ (by with_reducible assumption)))))) ) (fun hHeld => ?_); clear hK K; (try simp only [Act.put, List.setIfInBounds_toArray, List.set_cons_zero, List.set_cons_succ]))
      (refine wpAnyH_ready (rs := [2]) (by kernel_rfl) (by simp) ?_)
      refine AllReadyH.cons rfl (fun K hK => ?_) AllReadyH.nil
      go_simp
      (go_at_call 82; refine (HW.out _).mono ?_; rintro e w7 ⟨rfl, hx7⟩; have hs7 := hx7.size; (try simp at hs7))
      (try go_wp2_with fail)
      (refine hK.out _ _ (by  (first | go_keep | exact HK.out _ (by (repeat (first | with_reducible exact Ext.refl _ | with_reducible assumption | ((with_reducible apply Src.ext); with_reducible assumption) | with_reducible refine Ext.alloc ?_ _ | with_reducible refine Ext.drew ?_ | with_reducible refine Ext.drewN ?_ _ | ((with_reducible refine Ext.setCell' ?_ ?_ _); solve | omega | simp | (simp; omega)) | (with_reducible refine Ext.trans ?_ (by with_reducible assumption)))))) ) (fun hHeld => ?_); clear hK K; (try simp only [Act.put, List.setIfInBounds_toArray, List.set_cons_zero, List.set_cons_succ]))
      (refine wpAnyH_takeD (i := 3) (d := some 13) (v := ?_) rfl rfl (by kernel_rfl) (by kernel_rfl) (by kernel_rfl) (fun _ _ _ h => h) (Or.inl ⟨by rfl, ?_⟩) (by assumption) ?_; rotate_left; focus (intro w hSw; (try dsimp only at hSw); go_simp; (try with_reducible rfl); done); (try simp only [Act.put, List.setIfInBounds_toArray, List.set_cons_zero, List.set_cons_succ]))
      (refine wpAnyH_takeD (i := 4) (d := some 14) (v := undef) rfl rfl (by kernel_rfl) (by kernel_rfl) (by kernel_rfl) (fun _ _ _ h => h) (Or.inr ⟨by rfl, rfl⟩) (by assumption) ?_; (try simp only [Act.put, List.setIfInBounds_toArray, List.set_cons_zero, List.set_cons_succ]))
      (refine wpAnyH_takeD (i := 5) (d := some 15) (v := ?_) rfl rfl (by kernel_rfl) (by kernel_rfl) (by kernel_rfl) (fun _ _ _ h => h) (Or.inl ⟨by rfl, ?_⟩) (by assumption) ?_; rotate_left; focus (intro w hSw; (try dsimp only at hSw); go_simp; (try with_reducible rfl); done); (try simp only [Act.put, List.setIfInBounds_toArray, List.set_cons_zero, List.set_cons_succ]))
      (refine wpAnyH_ready (rs := [8]) (by kernel_rfl) (by simp) ?_)
      refine AllReadyH.cons rfl (fun K hK => ?_) AllReadyH.nil
      go_simp
      (go_at_call 54; refine (HC.out _ _ (by (repeat (first | with_reducible exact Ext.refl _ | with_reducible assumption | ((with_reducible apply Src.ext); with_reducible assumption) | with_reducible refine Ext.alloc ?_ _ | with_reducible refine Ext.drew ?_ | with_reducible refine Ext.drewN ?_ _ | ((with_reducible refine Ext.setCell' ?_ ?_ _); solve | omega | simp | (simp; omega)) | (with_reducible refine Ext.trans ?_ (by with_reducible assumption))))) (by (repeat (first | with_reducible assumption | ((with_reducible apply Blk.new); solve | simp | rfl) | with_reducible apply Blk.drew | with_reducible apply Blk.drewN | ((with_reducible apply Blk.far'); solve | omega | simp | (simp; omega)) | with_reducible apply Blk.set_ | with_reducible apply Blk.alloc | ((with_reducible apply Blk.ext'); with_reducible assumption) | ((with_reducible apply Blk.but'); (with_reducible assumption); solve | omega | (simp; omega)))))).mono ?_; rintro e w8 ⟨rfl, hx8⟩; have hs8 := hx8.size; (try simp at hs8); obtain ⟨y0, y1⟩ := HK.out w8 (by (repeat (first | with_reducible exact Ext.refl _ | with_reducible assumption | ((with_reducible apply Src.ext); with_reducible assumption) | with_reducible refine Ext.alloc ?_ _ | with_reducible refine Ext.drew ?_ | with_reducible refine Ext.drewN ?_ _ | ((with_reducible refine Ext.setCell' ?_ ?_ _); solve | omega | simp | (simp; omega)) | (with_reducible refine Ext.trans ?_ (by with_reducible assumption))))))
      (try go_wp2_with fail)
      (refine hK.out _ _ (by  (first | go_keep | exact HK.out _ (by (repeat (first | with_reducible exact Ext.refl _ | with_reducible assumption | ((with_reducible apply Src.ext); with_reducible assumption) | with_reducible refine Ext.alloc ?_ _ | with_reducible refine Ext.drew ?_ | with_reducible refine Ext.drewN ?_ _ | ((with_reducible refine Ext.setCell' ?_ ?_ _); solve | omega | simp | (simp; omega)) | (with_reducible refine Ext.trans ?_ (by with_reducible assumption)))))) ) (fun hHeld => ?_); clear hK K; (try simp only [Act.put, List.setIfInBounds_toArray, List.set_cons_zero, List.set_cons_succ]))
      (refine wpAnyH_takeD (i := 9) (d := some 9) (v := ?_) rfl rfl (by kernel_rfl) (by kernel_rfl) (by kernel_rfl) (fun _ _ _ h => h) (Or.inl ⟨by rfl, ?_⟩) (by assumption) ?_; rotate_left; focus (intro w hSw; (try dsimp only at hSw); go_simp; (try with_reducible rfl); done); (try simp only [Act.put, List.setIfInBounds_toArray, List.set_cons_zero, List.set_cons_succ]))
      refine wpAnyH_done (by kernel_rfl) ?_ _
      go_wp2
      go_ret
      exact ⟨rfl, by (repeat (first | with_reducible exact Ext.refl _ | with_reducible assumption | ((with_reducible apply Src.ext); with_reducible assumption) | with_reducible refine Ext.alloc ?_ _ | with_reducible refine Ext.drew ?_ | with_reducible refine Ext.drewN ?_ _ | ((with_reducible refine Ext.setCell' ?_ ?_ _); solve | omega | simp | (simp; omega)) | (with_reducible refine Ext.trans ?_ (by with_reducible assumption))))⟩
  | true =>
    have HC := Lib.hid (HC0.out ok)
    have hok : (smL x 1 16 && ok) = ok := by rw [hq, Bool.true_and]
    rw [hq] at HW
    by_cases hz : wyC (psD ps) L ok [y] = 0
    · have hw := (wyC_zero hz).1
      have HP := Lib.hid (fun W (hW : Ext w W) => i_hasPlace (w := W) (c := c) (A' := A') (m := m) (c' := c') x (h.sq.ext hW) h.hn (by rw [h.hn]; exact h.hl) (asc_of (wdB_iff.1 hw).1))
      rw [hz] at HC
      cases hf : (fndP (psD ps) x).isSome with
      | false =>
        have e : plC (psD ps) L x ok y = 4 := plC_lacks (by rw [hok]; exact hz) hf
        rw [ssC_ne (by omega), e]
        rw [hf] at HP
        clear HC0 hq hz h hm hx hok hw hf e
        generalize tx x = sx at *
        go_enter Tryz.func67, Tryz.ntmps67
        go_wp2
        go_region_held3 (fun w' => w'.cell? ⟨w.heap.size, 0, none⟩ = some (.slice A n c) ∧ w'.cell? ⟨w.heap.size, 1, none⟩ = some (.slice A' m c')) (first | go_keep | exact HK.out _ (by (repeat (first | with_reducible exact Ext.refl _ | with_reducible assumption | ((with_reducible apply Src.ext); with_reducible assumption) | with_reducible refine Ext.alloc ?_ _ | with_reducible refine Ext.drew ?_ | with_reducible refine Ext.drewN ?_ _ | ((with_reducible refine Ext.setCell' ?_ ?_ _); solve | omega | simp | (simp; omega)) | (with_reducible refine Ext.trans ?_ (by with_reducible assumption)))))) (first | (go_at_call 82; refine (HW.out _).mono ?_; rintro e w7 ⟨rfl, hx7⟩; have hs7 := hx7.size; (try simp at hs7)) | (go_at_call 54; refine (HC.out _ _ (by (repeat (first | with_reducible exact Ext.refl _ | with_reducible assumption | ((with_reducible apply Src.ext); with_reducible assumption) | with_reducible refine Ext.alloc ?_ _ | with_reducible refine Ext.drew ?_ | with_reducible refine Ext.drewN ?_ _ | ((with_reducible refine Ext.setCell' ?_ ?_ _); solve | omega | simp | (simp; omega)) | (with_reducible refine Ext.trans ?_ (by with_reducible assumption))))) (by (repeat (first | with_reducible assumption | ((with_reducible apply Blk.new); solve | simp | rfl) | with_reducible apply Blk.drew | with_reducible apply Blk.drewN | ((with_reducible apply Blk.far'); solve | omega | simp | (simp; omega)) | with_reducible apply Blk.set_ | with_reducible apply Blk.alloc | ((with_reducible apply Blk.ext'); with_reducible assumption) | ((with_reducible apply Blk.but'); (with_reducible assumption); solve | omega | (simp; omega)))))).mono ?_; rintro e w8 ⟨rfl, hx8⟩; have hs8 := hx8.size; (try simp at hs8); obtain ⟨y0, y1⟩ := HK.out w8 (by (repeat (first | with_reducible exact Ext.refl _ | with_reducible assumption | ((with_reducible apply Src.ext); with_reducible assumption) | with_reducible refine Ext.alloc ?_ _ | with_reducible refine Ext.drew ?_ | with_reducible refine Ext.drewN ?_ _ | ((with_reducible refine Ext.setCell' ?_ ?_ _); solve | omega | simp | (simp; omega)) | (with_reducible refine Ext.trans ?_ (by with_reducible assumption)))))))
        all_goals
          go_wp2_with fail
          refine (HP.out _ (by (repeat (first | with_reducible exact Ext.refl _ | with_reducible assumption | ((with_reducible apply Src.ext); with_reducible assumption) | with_reducible refine Ext.alloc ?_ _ | with_reducible refine Ext.drew ?_ | with_reducible refine Ext.drewN ?_ _ | ((with_reducible refine Ext.setCell' ?_ ?_ _); solve | omega | simp | (simp; omega)) | (with_reducible refine Ext.trans ?_ (by with_reducible assumption)))))).mono ?_
          rintro e w9 ⟨rfl, hx9⟩
          obtain ⟨u0, u1⟩ := HK.out w9 (by (repeat (first | with_reducible exact Ext.refl _ | with_reducible assumption | ((with_reducible apply Src.ext); with_reducible assumption) | with_reducible refine Ext.alloc ?_ _ | with_reducible refine Ext.drew ?_ | with_reducible refine Ext.drewN ?_ _ | ((with_reducible refine Ext.setCell' ?_ ?_ _); solve | omega | simp | (simp; omega)) | (with_reducible refine Ext.trans ?_ (by with_reducible assumption)))))
          go_wp2
          go_ret
          exact ⟨rfl, by (repeat (first | with_reducible exact Ext.refl _ | with_reducible assumption | ((with_reducible apply Src.ext); with_reducible assumption) | with_reducible refine Ext.alloc ?_ _ | with_reducible refine Ext.drew ?_ | with_reducible refine Ext.drewN ?_ _ | ((with_reducible refine Ext.setCell' ?_ ?_ _); solve | omega | simp | (simp; omega)) | (with_reducible refine Ext.trans ?_ (by with_reducible assumption))))⟩
      | true =>
        have e : plC (psD ps) L x ok y = 0 := plC_has (by rw [hok]; exact hz) hf
        have HL := Lib.hid (fun W (hW : Ext w W) => i_placeP (w := W) x (h.ext hW) hw hf)
        rw [hf] at HP
        cases hex : exB ((fndP (psD ps) x).getD pdD) y with
        | false =>
          rw [ssC_no e hex]
          clear HC0 hq hz h hm hx hok hw hf e
          generalize (fndP (psD ps) x).getD pdD = d at *
          generalize tx x = sx at *
          go_enter Tryz.func67, Tryz.ntmps67
          go_wp2
          go_region_held3 (fun w' => w'.cell? ⟨w.heap.size, 0, none⟩ = some (.slice A n c) ∧ w'.cell? ⟨w.heap.size, 1, none⟩ = some (.slice A' m c')) (first | go_keep | exact HK.out _ (by (repeat (first | with_reducible exact Ext.refl _ | with_reducible assumption | ((with_reducible apply Src.ext); with_reducible assumption) | with_reducible refine Ext.alloc ?_ _ | with_reducible refine Ext.drew ?_ | with_reducible refine Ext.drewN ?_ _ | ((with_reducible refine Ext.setCell' ?_ ?_ _); solve | omega | simp | (simp; omega)) | (with_reducible refine Ext.trans ?_ (by with_reducible assumption)))))) (first | (go_at_call 82; refine (HW.out _).mono ?_; rintro e w7 ⟨rfl, hx7⟩; have hs7 := hx7.size; (try simp at hs7)) | (go_at_call 54; refine (HC.out _ _ (by (repeat (first | with_reducible exact Ext.refl _ | with_reducible assumption | ((with_reducible apply Src.ext); with_reducible assumption) | with_reducible refine Ext.alloc ?_ _ | with_reducible refine Ext.drew ?_ | with_reducible refine Ext.drewN ?_ _ | ((with_reducible refine Ext.setCell' ?_ ?_ _); solve | omega | simp | (simp; omega)) | (with_reducible refine Ext.trans ?_ (by with_reducible assumption))))) (by (repeat (first | with_reducible assumption | ((with_reducible apply Blk.new); solve | simp | rfl) | with_reducible apply Blk.drew | with_reducible apply Blk.drewN | ((with_reducible apply Blk.far'); solve | omega | simp | (simp; omega)) | with_reducible apply Blk.set_ | with_reducible apply Blk.alloc | ((with_reducible apply Blk.ext'); with_reducible assumption) | ((with_reducible apply Blk.but'); (with_reducible assumption); solve | omega | (simp; omega)))))).mono ?_; rintro e w8 ⟨rfl, hx8⟩; have hs8 := hx8.size; (try simp at hs8); obtain ⟨y0, y1⟩ := HK.out w8 (by (repeat (first | with_reducible exact Ext.refl _ | with_reducible assumption | ((with_reducible apply Src.ext); with_reducible assumption) | with_reducible refine Ext.alloc ?_ _ | with_reducible refine Ext.drew ?_ | with_reducible refine Ext.drewN ?_ _ | ((with_reducible refine Ext.setCell' ?_ ?_ _); solve | omega | simp | (simp; omega)) | (with_reducible refine Ext.trans ?_ (by with_reducible assumption)))))))
          all_goals
            go_wp2_with fail
            refine (HP.out _ (by (repeat (first | with_reducible exact Ext.refl _ | with_reducible assumption | ((with_reducible apply Src.ext); with_reducible assumption) | with_reducible refine Ext.alloc ?_ _ | with_reducible refine Ext.drew ?_ | with_reducible refine Ext.drewN ?_ _ | ((with_reducible refine Ext.setCell' ?_ ?_ _); solve | omega | simp | (simp; omega)) | (with_reducible refine Ext.trans ?_ (by with_reducible assumption)))))).mono ?_
            rintro e w9 ⟨rfl, hx9⟩
            obtain ⟨u0, u1⟩ := HK.out w9 (by (repeat (first | with_reducible exact Ext.refl _ | with_reducible assumption | ((with_reducible apply Src.ext); with_reducible assumption) | with_reducible refine Ext.alloc ?_ _ | with_reducible refine Ext.drew ?_ | with_reducible refine Ext.drewN ?_ _ | ((with_reducible refine Ext.setCell' ?_ ?_ _); solve | omega | simp | (simp; omega)) | (with_reducible refine Ext.trans ?_ (by with_reducible assumption)))))
            go_wp2_with fail
            refine (HL.out _ (by (repeat (first | with_reducible exact Ext.refl _ | with_reducible assumption | ((with_reducible apply Src.ext); with_reducible assumption) | with_reducible refine Ext.alloc ?_ _ | with_reducible refine Ext.drew ?_ | with_reducible refine Ext.drewN ?_ _ | ((with_reducible refine Ext.setCell' ?_ ?_ _); solve | omega | simp | (simp; omega)) | (with_reducible refine Ext.trans ?_ (by with_reducible assumption)))))).mono ?_
            rintro e w10 ⟨s0, s1, s2, s3, s4, s5, s6, HI, rfl, hx10⟩
            have hfd : ∀ W : World, (Instr.field 78 (.agg #[.string s0, .int .i64 s1, .int .i64 s2, .int .i64 s3, .slice s4 s5 s6]) 2).run Tryz.prog W = .ok (.agg #[.int .i64 s2, .int .i64 s3]) W := fun _ => by kernel_rfl
            have HS : Hid (∀ W, Calls Tryz.prog 57 #[.agg #[.int .i64 s2, .int .i64 s3], .int .i64 y] W fun e w' => e = .returned (.bool false) ∧ Ext W w') := Lib.hid (fun W => by
              have := i_has s2 s3 y W
              obtain ⟨rfl, rfl, _⟩ := HI.out.yrs
              rwa [show inB y d.2.2.1 d.2.2.2.1 = false from hex] at this)
            (go_wp2_with fail; refine (HS.out _).mono ?_; rintro e w11 ⟨rfl, hx11⟩; obtain ⟨hc11, hf11⟩ := hx11.rules; have hs11 := hx11.size; (try simp at hs11))
            go_wp2
            go_ret
            exact ⟨rfl, by (repeat (first | with_reducible exact Ext.refl _ | with_reducible assumption | ((with_reducible apply Src.ext); with_reducible assumption) | with_reducible refine Ext.alloc ?_ _ | with_reducible refine Ext.drew ?_ | with_reducible refine Ext.drewN ?_ _ | ((with_reducible refine Ext.setCell' ?_ ?_ _); solve | omega | simp | (simp; omega)) | (with_reducible refine Ext.trans ?_ (by with_reducible assumption))))⟩
        | true =>
          rw [ssC_yes e hex]
          clear HC0 hq hz h hm hx hok hw hf e
          generalize (fndP (psD ps) x).getD pdD = d at *
          generalize tx x = sx at *
          go_enter Tryz.func67, Tryz.ntmps67
          go_wp2
          go_region_held3 (fun w' => w'.cell? ⟨w.heap.size, 0, none⟩ = some (.slice A n c) ∧ w'.cell? ⟨w.heap.size, 1, none⟩ = some (.slice A' m c')) (first | go_keep | exact HK.out _ (by (repeat (first | with_reducible exact Ext.refl _ | with_reducible assumption | ((with_reducible apply Src.ext); with_reducible assumption) | with_reducible refine Ext.alloc ?_ _ | with_reducible refine Ext.drew ?_ | with_reducible refine Ext.drewN ?_ _ | ((with_reducible refine Ext.setCell' ?_ ?_ _); solve | omega | simp | (simp; omega)) | (with_reducible refine Ext.trans ?_ (by with_reducible assumption)))))) (first | (go_at_call 82; refine (HW.out _).mono ?_; rintro e w7 ⟨rfl, hx7⟩; have hs7 := hx7.size; (try simp at hs7)) | (go_at_call 54; refine (HC.out _ _ (by (repeat (first | with_reducible exact Ext.refl _ | with_reducible assumption | ((with_reducible apply Src.ext); with_reducible assumption) | with_reducible refine Ext.alloc ?_ _ | with_reducible refine Ext.drew ?_ | with_reducible refine Ext.drewN ?_ _ | ((with_reducible refine Ext.setCell' ?_ ?_ _); solve | omega | simp | (simp; omega)) | (with_reducible refine Ext.trans ?_ (by with_reducible assumption))))) (by (repeat (first | with_reducible assumption | ((with_reducible apply Blk.new); solve | simp | rfl) | with_reducible apply Blk.drew | with_reducible apply Blk.drewN | ((with_reducible apply Blk.far'); solve | omega | simp | (simp; omega)) | with_reducible apply Blk.set_ | with_reducible apply Blk.alloc | ((with_reducible apply Blk.ext'); with_reducible assumption) | ((with_reducible apply Blk.but'); (with_reducible assumption); solve | omega | (simp; omega)))))).mono ?_; rintro e w8 ⟨rfl, hx8⟩; have hs8 := hx8.size; (try simp at hs8); obtain ⟨y0, y1⟩ := HK.out w8 (by (repeat (first | with_reducible exact Ext.refl _ | with_reducible assumption | ((with_reducible apply Src.ext); with_reducible assumption) | with_reducible refine Ext.alloc ?_ _ | with_reducible refine Ext.drew ?_ | with_reducible refine Ext.drewN ?_ _ | ((with_reducible refine Ext.setCell' ?_ ?_ _); solve | omega | simp | (simp; omega)) | (with_reducible refine Ext.trans ?_ (by with_reducible assumption)))))))
          all_goals
            go_wp2_with fail
            refine (HP.out _ (by (repeat (first | with_reducible exact Ext.refl _ | with_reducible assumption | ((with_reducible apply Src.ext); with_reducible assumption) | with_reducible refine Ext.alloc ?_ _ | with_reducible refine Ext.drew ?_ | with_reducible refine Ext.drewN ?_ _ | ((with_reducible refine Ext.setCell' ?_ ?_ _); solve | omega | simp | (simp; omega)) | (with_reducible refine Ext.trans ?_ (by with_reducible assumption)))))).mono ?_
            rintro e w9 ⟨rfl, hx9⟩
            obtain ⟨u0, u1⟩ := HK.out w9 (by (repeat (first | with_reducible exact Ext.refl _ | with_reducible assumption | ((with_reducible apply Src.ext); with_reducible assumption) | with_reducible refine Ext.alloc ?_ _ | with_reducible refine Ext.drew ?_ | with_reducible refine Ext.drewN ?_ _ | ((with_reducible refine Ext.setCell' ?_ ?_ _); solve | omega | simp | (simp; omega)) | (with_reducible refine Ext.trans ?_ (by with_reducible assumption)))))
            go_wp2_with fail
            refine (HL.out _ (by (repeat (first | with_reducible exact Ext.refl _ | with_reducible assumption | ((with_reducible apply Src.ext); with_reducible assumption) | with_reducible refine Ext.alloc ?_ _ | with_reducible refine Ext.drew ?_ | with_reducible refine Ext.drewN ?_ _ | ((with_reducible refine Ext.setCell' ?_ ?_ _); solve | omega | simp | (simp; omega)) | (with_reducible refine Ext.trans ?_ (by with_reducible assumption)))))).mono ?_
            rintro e w10 ⟨s0, s1, s2, s3, s4, s5, s6, HI, rfl, hx10⟩
            have hfd : ∀ W : World, (Instr.field 78 (.agg #[.string s0, .int .i64 s1, .int .i64 s2, .int .i64 s3, .slice s4 s5 s6]) 2).run Tryz.prog W = .ok (.agg #[.int .i64 s2, .int .i64 s3]) W := fun _ => by kernel_rfl
            have HS : Hid (∀ W, Calls Tryz.prog 57 #[.agg #[.int .i64 s2, .int .i64 s3], .int .i64 y] W fun e w' => e = .returned (.bool true) ∧ Ext W w') := Lib.hid (fun W => by
              have := i_has s2 s3 y W
              obtain ⟨rfl, rfl, _⟩ := HI.out.yrs
              rwa [show inB y d.2.2.1 d.2.2.2.1 = true from hex] at this)
            (go_wp2_with fail; refine (HS.out _).mono ?_; rintro e w11 ⟨rfl, hx11⟩; obtain ⟨hc11, hf11⟩ := hx11.rules; have hs11 := hx11.size; (try simp at hs11))
            go_wp2
            go_ret
            exact ⟨rfl, by (repeat (first | with_reducible exact Ext.refl _ | with_reducible assumption | ((with_reducible apply Src.ext); with_reducible assumption) | with_reducible refine Ext.alloc ?_ _ | with_reducible refine Ext.drew ?_ | with_reducible refine Ext.drewN ?_ _ | ((with_reducible refine Ext.setCell' ?_ ?_ _); solve | omega | simp | (simp; omega)) | (with_reducible refine Ext.trans ?_ (by with_reducible assumption))))⟩
    · have e : plC (psD ps) L x ok y = wyC (psD ps) L ok [y] := by rw [plC_ne (by rw [hok]; exact hz), hok]
      rw [ssC_ne (by rw [e]; exact hz), e]
      generalize wyC (psD ps) L ok [y] = cd at *
      have hcd : (cd != 0) = true := by simpa using hz
      clear HC0 hq h hm hx hok e
      generalize tx x = sx at *
      go_enter Tryz.func67, Tryz.ntmps67
      go_wp2
      go_region_held3 (fun w' => w'.cell? ⟨w.heap.size, 0, none⟩ = some (.slice A n c) ∧ w'.cell? ⟨w.heap.size, 1, none⟩ = some (.slice A' m c')) (first | go_keep | exact HK.out _ (by (repeat (first | with_reducible exact Ext.refl _ | with_reducible assumption | ((with_reducible apply Src.ext); with_reducible assumption) | with_reducible refine Ext.alloc ?_ _ | with_reducible refine Ext.drew ?_ | with_reducible refine Ext.drewN ?_ _ | ((with_reducible refine Ext.setCell' ?_ ?_ _); solve | omega | simp | (simp; omega)) | (with_reducible refine Ext.trans ?_ (by with_reducible assumption)))))) (first | (go_at_call 82; refine (HW.out _).mono ?_; rintro e w7 ⟨rfl, hx7⟩; have hs7 := hx7.size; (try simp at hs7)) | (go_at_call 54; refine (HC.out _ _ (by (repeat (first | with_reducible exact Ext.refl _ | with_reducible assumption | ((with_reducible apply Src.ext); with_reducible assumption) | with_reducible refine Ext.alloc ?_ _ | with_reducible refine Ext.drew ?_ | with_reducible refine Ext.drewN ?_ _ | ((with_reducible refine Ext.setCell' ?_ ?_ _); solve | omega | simp | (simp; omega)) | (with_reducible refine Ext.trans ?_ (by with_reducible assumption))))) (by (repeat (first | with_reducible assumption | ((with_reducible apply Blk.new); solve | simp | rfl) | with_reducible apply Blk.drew | with_reducible apply Blk.drewN | ((with_reducible apply Blk.far'); solve | omega | simp | (simp; omega)) | with_reducible apply Blk.set_ | with_reducible apply Blk.alloc | ((with_reducible apply Blk.ext'); with_reducible assumption) | ((with_reducible apply Blk.but'); (with_reducible assumption); solve | omega | (simp; omega)))))).mono ?_; rintro e w8 ⟨rfl, hx8⟩; have hs8 := hx8.size; (try simp at hs8); obtain ⟨y0, y1⟩ := HK.out w8 (by (repeat (first | with_reducible exact Ext.refl _ | with_reducible assumption | ((with_reducible apply Src.ext); with_reducible assumption) | with_reducible refine Ext.alloc ?_ _ | with_reducible refine Ext.drew ?_ | with_reducible refine Ext.drewN ?_ _ | ((with_reducible refine Ext.setCell' ?_ ?_ _); solve | omega | simp | (simp; omega)) | (with_reducible refine Ext.trans ?_ (by with_reducible assumption)))))))
      all_goals
        go_wp2
        go_ret
        exact ⟨rfl, by (repeat (first | with_reducible exact Ext.refl _ | with_reducible assumption | ((with_reducible apply Src.ext); with_reducible assumption) | with_reducible refine Ext.alloc ?_ _ | with_reducible refine Ext.drew ?_ | with_reducible refine Ext.drewN ?_ _ | ((with_reducible refine Ext.setCell' ?_ ?_ _); solve | omega | simp | (simp; omega)) | (with_reducible refine Ext.trans ?_ (by with_reducible assumption))))⟩
end

end Go.Proofs.YtapfokfbdmcokaaGreatDoor
