/- The years in which two worlds differ, as the specification tells them. -/
import Derived.Test.YtapfokfbdmcokaaGreatDoorYYF
import Derived.Test.YtapfokfbdmcokaaGreatDoorYYC
import Derived.Deep.RegionHeld3
import Derived.Deep.DeepCutAuto
import Derived.RegionTactic
import Derived.BigRegion
import Derived.WalkLawsBesides
import Derived.WalkSpells
import Derived.Lib.MinMax
import Derived.Outline
namespace Go.Proofs.YtapfokfbdmcokaaGreatDoor
open Go.RowKit
attribute [local go_sem] ExtOf.cell ExtOf.frozen


section
variable {w : World} {A A' B B' : Option Addr} {n c m c' n2 c2 m2 d2 : Nat} {ps ps2 : List Pl} {L L2 : List Lk}
set_option maxRecDepth 20000 in
set_option maxHeartbeats 25600000 in
theorem s_DifferBeforeW (y : Int) (h : WIn w A A' n c m c' ps L) (h2 : WIn w B B' n2 c2 m2 d2 ps2 L2) :
    Calls Tryz.prog 26 #[.agg #[.slice A n c, .slice A' m c'], .agg #[.slice B n2 c2, .slice B' m2 d2], .int .i64 y] w fun e w' => e = .returned (.tuple #[.bool (dbR (psD ps) L (psD ps2) L2 y), .int .i64 (wyC (psD ps) L (wdB (psD ps2) L2) [y])]) ∧ Ext w w' := by
  have HWW : Hid (∀ v q, (v = .agg #[.slice A n c, .slice A' m c'] ∧ q = wdB (psD ps) L) ∨ (v = .agg #[.slice B n2 c2, .slice B' m2 d2] ∧ q = wdB (psD ps2) L2) → ∀ W, Ext w W → Calls Tryz.prog 70 #[v] W fun e w' => e = .returned (.bool q) ∧ Ext W w') := Lib.hid (fun v q hv W hW => by
    rcases hv with ⟨rfl, rfl⟩ | ⟨rfl, rfl⟩
    · exact s_IsWorldW (h.ext hW)
    · exact s_IsWorldW (h2.ext hW))
  have HY := Lib.hid (fun W => s_l02Year y W)
  have HK : Hid (∀ W, Ext ((w.alloc (.cells #[.slice A n c, .slice A' m c'] 33)).alloc (.cells #[.slice B n2 c2, .slice B' m2 d2] 33)) W → W.cell? ⟨w.heap.size, 0, none⟩ = some (.slice A n c) ∧ W.cell? ⟨w.heap.size, 1, none⟩ = some (.slice A' m c') ∧ W.cell? ⟨w.heap.size + 1, 0, none⟩ = some (.slice B n2 c2) ∧ W.cell? ⟨w.heap.size + 1, 1, none⟩ = some (.slice B' m2 d2)) := Lib.hid (fun W hW => by
    have B0 := ((Blk.new (cs := #[.slice A n c, .slice A' m c']) (t := 33) (w := w) rfl).alloc (.cells #[.slice B n2 c2, .slice B' m2 d2] 33)).ext hW
    have B1 := (Blk.new (cs := #[.slice B n2 c2, .slice B' m2 d2]) (t := 33) (w := w.alloc (.cells #[.slice A n c, .slice A' m c'] 33)) rfl).ext hW
    simp only [World.size_alloc] at B1
    exact ⟨B0.cell 0, B0.cell 1, B1.cell 0, B1.cell 1⟩)
  have hno : ¬ wyC (psD ps) L (wdB (psD ps2) L2) [y] = 0 → dbR (psD ps) L (psD ps2) L2 y = false := fun q => by unfold dbR; rw [if_neg q]
  cases hw : wdB (psD ps) L with
  | false =>
    have e : wyC (psD ps) L (wdB (psD ps2) L2) [y] = 1 := wyC_wd hw
    rw [hno (by omega), e]
    rw [hw] at HWW
    generalize wdB (psD ps2) L2 = q2 at *
    clear h h2 hno hw e
    go_enter Tryz.func26, Tryz.ntmps26
    go_wp2_with fail
    refine (HWW.out _ _ (.inl ⟨rfl, rfl⟩) _ (by (repeat (first | with_reducible exact Ext.refl _ | with_reducible assumption | ((with_reducible apply Src.ext); with_reducible assumption) | with_reducible refine Ext.alloc ?_ _ | with_reducible refine Ext.drew ?_ | with_reducible refine Ext.drewN ?_ _ | ((with_reducible refine Ext.setCell' ?_ ?_ _); solve | omega | simp | (simp; omega)) | (with_reducible refine Ext.trans ?_ (by with_reducible assumption)))))).mono ?_
    rintro e w1 ⟨rfl, hx1⟩
    go_wp2
    go_ret2
    exact ⟨rfl, by (repeat (first | with_reducible exact Ext.refl _ | with_reducible assumption | ((with_reducible apply Src.ext); with_reducible assumption) | with_reducible refine Ext.alloc ?_ _ | with_reducible refine Ext.drew ?_ | with_reducible refine Ext.drewN ?_ _ | ((with_reducible refine Ext.setCell' ?_ ?_ _); solve | omega | simp | (simp; omega)) | (with_reducible refine Ext.trans ?_ (by with_reducible assumption))))⟩
  | true =>
    cases hw2 : wdB (psD ps2) L2 with
    | false =>
      have e : wyC (psD ps) L false [y] = 1 := wyC_no rfl
      rw [hno (by rw [hw2]; omega), e]
      rw [hw, hw2] at HWW
      clear h h2 hno hw hw2 e
      go_enter Tryz.func26, Tryz.ntmps26
      go_wp2_with fail
      refine (HWW.out _ _ (.inl ⟨rfl, rfl⟩) _ (by (repeat (first | with_reducible exact Ext.refl _ | with_reducible assumption | ((with_reducible apply Src.ext); with_reducible assumption) | with_reducible refine Ext.alloc ?_ _ | with_reducible refine Ext.drew ?_ | with_reducible refine Ext.drewN ?_ _ | ((with_reducible refine Ext.setCell' ?_ ?_ _); solve | omega | simp | (simp; omega)) | (with_reducible refine Ext.trans ?_ (by with_reducible assumption)))))).mono ?_
      rintro e w1 ⟨rfl, hx1⟩
      obtain ⟨t0, t1, t2, t3⟩ := HK.out w1 (by (repeat (first | with_reducible exact Ext.refl _ | with_reducible assumption | ((with_reducible apply Src.ext); with_reducible assumption) | with_reducible refine Ext.alloc ?_ _ | with_reducible refine Ext.drew ?_ | with_reducible refine Ext.drewN ?_ _ | ((with_reducible refine Ext.setCell' ?_ ?_ _); solve | omega | simp | (simp; omega)) | (with_reducible refine Ext.trans ?_ (by with_reducible assumption)))))
      go_wp2_with fail
      refine (HWW.out _ _ (.inr ⟨rfl, rfl⟩) _ (by (repeat (first | with_reducible exact Ext.refl _ | with_reducible assumption | ((with_reducible apply Src.ext); with_reducible assumption) | with_reducible refine Ext.alloc ?_ _ | with_reducible refine Ext.drew ?_ | with_reducible refine Ext.drewN ?_ _ | ((with_reducible refine Ext.setCell' ?_ ?_ _); solve | omega | simp | (simp; omega)) | (with_reducible refine Ext.trans ?_ (by with_reducible assumption)))))).mono ?_
      rintro e w2 ⟨rfl, hx2⟩
      go_wp2
      go_ret2
      exact ⟨rfl, by (repeat (first | with_reducible exact Ext.refl _ | with_reducible assumption | ((with_reducible apply Src.ext); with_reducible assumption) | with_reducible refine Ext.alloc ?_ _ | with_reducible refine Ext.drew ?_ | with_reducible refine Ext.drewN ?_ _ | ((with_reducible refine Ext.setCell' ?_ ?_ _); solve | omega | simp | (simp; omega)) | (with_reducible refine Ext.trans ?_ (by with_reducible assumption))))⟩
    | true =>
      cases hy : inB y (-3000) 3000 with
      | false =>
        have e : wyC (psD ps) L true [y] = 2 := wyC_year hw rfl (by simp [hy])
        rw [hno (by rw [hw2]; omega), e]
        rw [hw, hw2] at HWW
        rw [hy] at HY
        clear h h2 hno hw hw2 e hy
        go_enter Tryz.func26, Tryz.ntmps26
        go_wp2_with fail
        refine (HWW.out _ _ (.inl ⟨rfl, rfl⟩) _ (by (repeat (first | with_reducible exact Ext.refl _ | with_reducible assumption | ((with_reducible apply Src.ext); with_reducible assumption) | with_reducible refine Ext.alloc ?_ _ | with_reducible refine Ext.drew ?_ | with_reducible refine Ext.drewN ?_ _ | ((with_reducible refine Ext.setCell' ?_ ?_ _); solve | omega | simp | (simp; omega)) | (with_reducible refine Ext.trans ?_ (by with_reducible assumption)))))).mono ?_
        rintro e w1 ⟨rfl, hx1⟩
        obtain ⟨t0, t1, t2, t3⟩ := HK.out w1 (by (repeat (first | with_reducible exact Ext.refl _ | with_reducible assumption | ((with_reducible apply Src.ext); with_reducible assumption) | with_reducible refine Ext.alloc ?_ _ | with_reducible refine Ext.drew ?_ | with_reducible refine Ext.drewN ?_ _ | ((with_reducible refine Ext.setCell' ?_ ?_ _); solve | omega | simp | (simp; omega)) | (with_reducible refine Ext.trans ?_ (by with_reducible assumption)))))
        go_wp2_with fail
        refine (HWW.out _ _ (.inr ⟨rfl, rfl⟩) _ (by (repeat (first | with_reducible exact Ext.refl _ | with_reducible assumption | ((with_reducible apply Src.ext); with_reducible assumption) | with_reducible refine Ext.alloc ?_ _ | with_reducible refine Ext.drew ?_ | with_reducible refine Ext.drewN ?_ _ | ((with_reducible refine Ext.setCell' ?_ ?_ _); solve | omega | simp | (simp; omega)) | (with_reducible refine Ext.trans ?_ (by with_reducible assumption)))))).mono ?_
        rintro e w2 ⟨rfl, hx2⟩
        (go_wp2_with fail; refine (HY.out _).mono ?_; rintro e w' ⟨rfl, rfl⟩)
        go_wp2
        go_ret2
        exact ⟨rfl, by (repeat (first | with_reducible exact Ext.refl _ | with_reducible assumption | ((with_reducible apply Src.ext); with_reducible assumption) | with_reducible refine Ext.alloc ?_ _ | with_reducible refine Ext.drew ?_ | with_reducible refine Ext.drewN ?_ _ | ((with_reducible refine Ext.setCell' ?_ ?_ _); solve | omega | simp | (simp; omega)) | (with_reducible refine Ext.trans ?_ (by with_reducible assumption))))⟩
      | true =>
        have e : wyC (psD ps) L true [y] = 0 := wyC_ok hw rfl (by simp [hy])
        have hR : dbR (psD ps) L (psD ps2) L2 y = difB (psD ps) L (psD ps2) L2 y := by unfold dbR; rw [hw2, if_pos e]
        rw [hR, e]
        have hyy := inB_iff.1 hy
        have HMM : Hid (∀ v R, (v = .agg #[.slice A n c, .slice A' m c'] ∧ R = mkW (psD ps) L) ∨ (v = .agg #[.slice B n2 c2, .slice B' m2 d2] ∧ R = mkW (psD ps2) L2) → ∀ W, Ext w W → Calls Tryz.prog 72 #[v] W fun e w' => ∃ v', e = .returned v' ∧ OwI w' W.heap.size v' R ∧ Ext W w') := Lib.hid (fun v R hv W hW => by
          rcases hv with ⟨rfl, rfl⟩ | ⟨rfl, rfl⟩
          · exact s_l14Marks (h.ext hW) hw
          · exact s_l14Marks (h2.ext hW) hw2)
        have HAL := Lib.hid (fun z (hz1 : -3000 ≤ z) (hz2 : z ≤ 3000) W (hW : Ext w W) => s_l14Alike (w := W) z (h.ext hW) (h2.ext hW) hw hw2 (inB_iff.2 ⟨hz1, hz2⟩))
        have HHIT := Lib.hid (fun k (hk : k < (mkW (psD ps) L ++ mkW (psD ps2) L2).length) h1 h3 => dif_hit hw hw2 (year := y) hk h1 h3)
        have HNON := Lib.hid (fun h3 => dif_none hw hw2 (year := y) h3)
        have HLO : Hid (∀ k, k < (mkW (psD ps) L ++ mkW (psD ps2) L2).length → -3000 ≤ (mkW (psD ps) L ++ mkW (psD ps2) L2).getD k 0) := Lib.hid (fun k hk => by
          have hm := mem_getD (d := (0 : Int)) hk
          rcases List.mem_append.1 hm with q | q
          · exact mkW_lo hw _ q
          · exact mkW_lo hw2 _ q)
        have hml : ∀ (D : List Pd) (LL : List Lk), wdB D LL = true → (mkW D LL).length ≤ 400 := fun D LL q => by
          have h1 := mkP_len (wdB_n12 q) D.length
          have h2 := wdB_len q
          have h3 := mkK_len LL LL.length
          have h4 := (lksB_iff.1 (wdB_iff.1 q).2.1).1.2
          unfold mkW
          rw [List.length_append, List.length_append]
          simp only [List.length_singleton]
          omega
        have HL1 := Lib.hid (hml _ _ hw)
        have HL2 := Lib.hid (hml _ _ hw2)
        rw [hw, hw2] at HWW
        rw [hy] at HY
        generalize difB (psD ps) L (psD ps2) L2 y = res at *
        generalize difY (psD ps) L (psD ps2) L2 = fY at *
        generalize mkW (psD ps) L = M1 at *
        generalize mkW (psD ps2) L2 = M2 at *
        clear h h2 hno hw hw2 e hy hR hml
        go_enter Tryz.func26, Tryz.ntmps26
        go_wp2_with fail
        refine (HWW.out _ _ (.inl ⟨rfl, rfl⟩) _ (by (repeat (first | with_reducible exact Ext.refl _ | with_reducible assumption | ((with_reducible apply Src.ext); with_reducible assumption) | with_reducible refine Ext.alloc ?_ _ | with_reducible refine Ext.drew ?_ | with_reducible refine Ext.drewN ?_ _ | ((with_reducible refine Ext.setCell' ?_ ?_ _); solve | omega | simp | (simp; omega)) | (with_reducible refine Ext.trans ?_ (by with_reducible assumption)))))).mono ?_
        rintro e w1 ⟨rfl, hx1⟩
        obtain ⟨t0, t1, t2, t3⟩ := HK.out w1 (by (repeat (first | with_reducible exact Ext.refl _ | with_reducible assumption | ((with_reducible apply Src.ext); with_reducible assumption) | with_reducible refine Ext.alloc ?_ _ | with_reducible refine Ext.drew ?_ | with_reducible refine Ext.drewN ?_ _ | ((with_reducible refine Ext.setCell' ?_ ?_ _); solve | omega | simp | (simp; omega)) | (with_reducible refine Ext.trans ?_ (by with_reducible assumption)))))
        go_wp2_with fail
        refine (HWW.out _ _ (.inr ⟨rfl, rfl⟩) _ (by (repeat (first | with_reducible exact Ext.refl _ | with_reducible assumption | ((with_reducible apply Src.ext); with_reducible assumption) | with_reducible refine Ext.alloc ?_ _ | with_reducible refine Ext.drew ?_ | with_reducible refine Ext.drewN ?_ _ | ((with_reducible refine Ext.setCell' ?_ ?_ _); solve | omega | simp | (simp; omega)) | (with_reducible refine Ext.trans ?_ (by with_reducible assumption)))))).mono ?_
        rintro e w2 ⟨rfl, hx2⟩
        (go_wp2_with fail; refine (HY.out _).mono ?_; rintro e w' ⟨rfl, rfl⟩)
        have hX2 : Ext w w2 := by (repeat (first | with_reducible exact Ext.refl _ | with_reducible assumption | ((with_reducible apply Src.ext); with_reducible assumption) | with_reducible refine Ext.alloc ?_ _ | with_reducible refine Ext.drew ?_ | with_reducible refine Ext.drewN ?_ _ | ((with_reducible refine Ext.setCell' ?_ ?_ _); solve | omega | simp | (simp; omega)) | (with_reducible refine Ext.trans ?_ (by with_reducible assumption))))
        have HX2 := Lib.hid hX2
        have hk2 := HK.out w2 (by clear hX2; (repeat (first | with_reducible exact Ext.refl _ | with_reducible assumption | ((with_reducible apply Src.ext); with_reducible assumption) | with_reducible refine Ext.alloc ?_ _ | with_reducible refine Ext.drew ?_ | with_reducible refine Ext.drewN ?_ _ | ((with_reducible refine Ext.setCell' ?_ ?_ _); solve | omega | simp | (simp; omega)) | (with_reducible refine Ext.trans ?_ (by with_reducible assumption)))))
        have l0 := World.block_lt_of_cell? _ _ hk2.1
        have l1 := World.block_lt_of_cell? _ _ hk2.2.2.1
        have HK2 : Hid (∀ W, Ext w2 W → W.cell? ⟨w.heap.size, 0, none⟩ = some (.slice A n c) ∧ W.cell? ⟨w.heap.size, 1, none⟩ = some (.slice A' m c') ∧ W.cell? ⟨w.heap.size + 1, 0, none⟩ = some (.slice B n2 c2) ∧ W.cell? ⟨w.heap.size + 1, 1, none⟩ = some (.slice B' m2 d2)) := Lib.hid (fun W hW => ⟨(hW.cell _ _ l0).trans hk2.1, (hW.cell _ _ l0).trans hk2.2.1, (hW.cell _ _ l1).trans hk2.2.2.1, (hW.cell _ _ l1).trans hk2.2.2.2⟩)
        have HMM2 : Hid (∀ v R, (v = .agg #[.slice A n c, .slice A' m c'] ∧ R = M1) ∨ (v = .agg #[.slice B n2 c2, .slice B' m2 d2] ∧ R = M2) → ∀ W, Ext w2 W → Calls Tryz.prog 72 #[v] W fun e w' => ∃ v', e = .returned v' ∧ OwI w' W.heap.size v' R ∧ Ext W w') := Lib.hid (fun v R hv W hW => HMM.out v R hv W (HX2.out.trans hW))
        clear hX2 hx1 hx2 t0 t1 t2 t3 HMM HWW HY
        have HMM := HMM2
        clear HMM2
        obtain ⟨g0, g1, g2, g3⟩ := hk2
        clear l0 l1
        go_wp2
        refine wp_region_held_drew (S := (fun w' => w'.cell? ⟨w.heap.size, 0, none⟩ = some (.slice A n c) ∧ w'.cell? ⟨w.heap.size, 1, none⟩ = some (.slice A' m c') ∧ w'.cell? ⟨w.heap.size + 1, 0, none⟩ = some (.slice B n2 c2) ∧ w'.cell? ⟨w.heap.size + 1, 1, none⟩ = some (.slice B' m2 d2))) (by kernel_rfl) (by (first | exact HK2.out _ (by (repeat (first | with_reducible exact Ext.refl _ | with_reducible assumption | ((with_reducible apply Src.ext); with_reducible assumption) | with_reducible refine Ext.alloc ?_ _ | with_reducible refine Ext.drew ?_ | with_reducible refine Ext.drewN ?_ _ | ((with_reducible refine Ext.setCell' ?_ ?_ _); solve | omega | simp | (simp; omega)) | (with_reducible refine Ext.trans ?_ (by with_reducible assumption))))) | go_keep)) (fun hHeld => ?_)
        (refine wpAnyH_takeD (i := 0) (d := some 21) (v := ?_) rfl rfl (by kernel_rfl) (by kernel_rfl) (by kernel_rfl) (fun _ _ _ h => h) (Or.inl ⟨by rfl, ?_⟩) (by assumption) ?_; rotate_left; focus (intro w hSw; (try dsimp only at hSw); go_simp; (try with_reducible rfl); done); (try simp only [Act.put, List.setIfInBounds_toArray, List.set_cons_zero, List.set_cons_succ]))
        (refine wpAnyH_takeD (i := 2) (d := some 23) (v := ?_) rfl rfl (by kernel_rfl) (by kernel_rfl) (by kernel_rfl) (fun _ _ _ h => h) (Or.inl ⟨by rfl, ?_⟩) (by assumption) ?_; rotate_left; focus (intro w hSw; (try dsimp only at hSw); go_simp; (try with_reducible rfl); done); (try simp only [Act.put, List.setIfInBounds_toArray, List.set_cons_zero, List.set_cons_succ]))
        (refine wpAnyH_ready (rs := [1]) (by kernel_rfl) (by simp) ?_)
        refine AllReadyH.cons rfl (fun K hK => ?_) AllReadyH.nil
        go_simp
        (go_at_call 72; refine (HMM.out _ _ (.inl ⟨rfl, rfl⟩) _ (by (repeat (first | with_reducible exact Ext.refl _ | with_reducible assumption | ((with_reducible apply Src.ext); with_reducible assumption) | with_reducible refine Ext.alloc ?_ _ | with_reducible refine Ext.drew ?_ | with_reducible refine Ext.drewN ?_ _ | ((with_reducible refine Ext.setCell' ?_ ?_ _); solve | omega | simp | (simp; omega)) | (with_reducible refine Ext.trans ?_ (by with_reducible assumption)))))).mono ?_; rintro e w7 ⟨v7, rfl, hO7, hx7⟩; have hs7 := hx7.size; (try simp at hs7); have HO7 := Lib.hid hO7; clear hO7)
        (try go_wp2_with fail)
        (refine hK.out _ _ (by  (first | exact HK2.out _ (by (repeat (first | with_reducible exact Ext.refl _ | with_reducible assumption | ((with_reducible apply Src.ext); with_reducible assumption) | with_reducible refine Ext.alloc ?_ _ | with_reducible refine Ext.drew ?_ | with_reducible refine Ext.drewN ?_ _ | ((with_reducible refine Ext.setCell' ?_ ?_ _); solve | omega | simp | (simp; omega)) | (with_reducible refine Ext.trans ?_ (by with_reducible assumption))))) | go_keep) ) (fun hHeld => ?_); clear hK K; (try simp only [Act.put, List.setIfInBounds_toArray, List.set_cons_zero, List.set_cons_succ]))
        (refine wpAnyH_ready (rs := [3]) (by kernel_rfl) (by simp) ?_)
        refine AllReadyH.cons rfl (fun K hK => ?_) AllReadyH.nil
        go_simp
        (go_at_call 72; refine (HMM.out _ _ (.inr ⟨rfl, rfl⟩) _ (by (repeat (first | with_reducible exact Ext.refl _ | with_reducible assumption | ((with_reducible apply Src.ext); with_reducible assumption) | with_reducible refine Ext.alloc ?_ _ | with_reducible refine Ext.drew ?_ | with_reducible refine Ext.drewN ?_ _ | ((with_reducible refine Ext.setCell' ?_ ?_ _); solve | omega | simp | (simp; omega)) | (with_reducible refine Ext.trans ?_ (by with_reducible assumption)))))).mono ?_; rintro e w8 ⟨v8, rfl, hO8, hx8⟩; have hs8 := hx8.size; (try simp at hs8); obtain ⟨A8, c8, rfl, hS8, _⟩ := hO8.sl len_encI; have HS8 := Lib.hid hS8; clear hO8 hS8)
        (try go_wp2_with fail)
        (refine hK.out _ _ (by  (first | exact HK2.out _ (by (repeat (first | with_reducible exact Ext.refl _ | with_reducible assumption | ((with_reducible apply Src.ext); with_reducible assumption) | with_reducible refine Ext.alloc ?_ _ | with_reducible refine Ext.drew ?_ | with_reducible refine Ext.drewN ?_ _ | ((with_reducible refine Ext.setCell' ?_ ?_ _); solve | omega | simp | (simp; omega)) | (with_reducible refine Ext.trans ?_ (by with_reducible assumption))))) | go_keep) ) (fun hHeld => ?_); clear hK K; (try simp only [Act.put, List.setIfInBounds_toArray, List.set_cons_zero, List.set_cons_succ]))
        have hL12 : M1.length + M2.length ≤ 800 := by have := HL1.out; have := HL2.out; omega
        have hbs : w2.heap.size ≤ w8.heap.size := by omega
        (refine wpAnyH_ready (rs := [4]) (by kernel_rfl) (by simp) ?_)
        refine AllReadyH.cons rfl (fun K hK => ?_) AllReadyH.nil
        refine step_append_sl elI len_encI one_encI rfl _ _ rfl rfl ((HO7.out.less (show w2.heap.size ≤ _ by first | exact Nat.le_refl _ | (simp; done) | (simp; omega))).ext (by (repeat (first | with_reducible exact Ext.refl _ | with_reducible assumption | ((with_reducible apply Src.ext); with_reducible assumption) | with_reducible refine Ext.alloc ?_ _ | with_reducible refine Ext.drew ?_ | with_reducible refine Ext.drewN ?_ _ | ((with_reducible refine Ext.setCell' ?_ ?_ _); solve | omega | simp | (simp; omega)) | (with_reducible refine Ext.trans ?_ (by with_reducible assumption)))))) (xs := M2) (by rfl) (HS8.out.ext (by (repeat (first | with_reducible exact Ext.refl _ | with_reducible assumption | ((with_reducible apply Src.ext); with_reducible assumption) | with_reducible refine Ext.alloc ?_ _ | with_reducible refine Ext.drew ?_ | with_reducible refine Ext.drewN ?_ _ | ((with_reducible refine Ext.setCell' ?_ ?_ _); solve | omega | simp | (simp; omega)) | (with_reducible refine Ext.trans ?_ (by with_reducible assumption)))))) (by unfold maxLen; omega) (by omega) (by first | omega | (simp; omega)) ?_
        intro v9 w9 hO9 hg9 _
        have hx9 : Ext w2 w9 := Ext.grown (by (repeat (first | with_reducible exact Ext.refl _ | with_reducible assumption | ((with_reducible apply Src.ext); with_reducible assumption) | with_reducible refine Ext.alloc ?_ _ | with_reducible refine Ext.drew ?_ | with_reducible refine Ext.drewN ?_ _ | ((with_reducible refine Ext.setCell' ?_ ?_ _); solve | omega | simp | (simp; omega)) | (with_reducible refine Ext.trans ?_ (by with_reducible assumption))))) hg9 (fun q hq => ((HO7.out.less (show w2.heap.size ≤ _ by first | exact Nat.le_refl _ | (simp; done) | (simp; omega))).row q hq).1)
        have HO9 := Lib.hid hO9
        have HX9 := Lib.hid hx9
        clear hO9 hg9
        (try go_wp2_with fail)
        (refine hK.out _ _ (by  (exact HK2.out _ HX9.out) ) (fun hHeld => ?_); clear hK K; (try simp only [Act.put, List.setIfInBounds_toArray]))
        (refine wpAnyH_takeD (i := 5) (d := some 8) (v := ?_) rfl rfl (by kernel_rfl) (by kernel_rfl) (by kernel_rfl) (fun _ _ _ h => h) (Or.inl ⟨by rfl, ?_⟩) (by assumption) ?_; rotate_left; focus (intro w hSw; (try dsimp only at hSw); go_simp; (try with_reducible rfl); done); (try simp only [Act.put, List.setIfInBounds_toArray, List.set_cons_zero, List.set_cons_succ]))
        refine wpAnyH_done (by kernel_rfl) ?_ _
        obtain ⟨A9, c9, rfl, hS9, _⟩ := HO9.out.sl len_encI
        have HS9 := Lib.hid hS9
        clear hS9 HO9 HO7 HS8 hx7 hx8 hx9 hs7 hs8 hbs HMM
        have hLen : (M1 ++ M2).length ≤ 800 := by rw [List.length_append]; exact hL12
        generalize M1 ++ M2 = M at *
        obtain ⟨un, hun⟩ : ∃ un, un = M.length := ⟨_, rfl⟩
        have HUN := Lib.hid hun
        rw [← hun] at hLen ⊢
        clear hun hL12
        go_wp2
        go_loopw [9] (fun i wr => ∃ k : Nat, k ≤ un ∧ i = .int .i64 k ∧ Hid (∀ j, j < k → M.getD j 0 < y → fY (M.getD j 0) = false) ∧ Ext w9 wr) (fun i _ => un - (intOf i).toNat)
        case atStart => exact ⟨0, by omega, rfl, Lib.hid (fun j hj => absurd hj (by omega)), by (repeat (first | with_reducible exact Ext.refl _ | with_reducible assumption | ((with_reducible apply Src.ext); with_reducible assumption) | with_reducible refine Ext.alloc ?_ _ | with_reducible refine Ext.drew ?_ | with_reducible refine Ext.drewN ?_ _ | ((with_reducible refine Ext.setCell' ?_ ?_ _); solve | omega | simp | (simp; omega)) | (with_reducible refine Ext.trans ?_ (by with_reducible assumption))))⟩
        case round =>
          obtain ⟨k, hk, rfl, HJ, hxr⟩ := hrel
          obtain ⟨w5, rfl⟩ : ∃ x, x = wr := ⟨wr, rfl⟩
          obtain ⟨u0, u1, u2, u3⟩ := HK2.out w5 (HX9.out.trans hxr)
          by_cases hlt : k < un
          · have hkr : k < M.length := by rw [← HUN.out]; exact hlt
            obtain ⟨b7, off7, hA7, hb7, c7⟩ := (HS9.out.ext hxr).it hkr
            subst hA7
            obtain ⟨z, hz⟩ : ∃ z, z = M.getD k 0 := ⟨_, rfl⟩
            rw [← hz] at c7
            have hzl : -3000 ≤ z := by rw [hz]; exact HLO.out k hkr
            have HXW := Lib.hid (HX2.out.trans (HX9.out.trans hxr))
            have lb0 := World.block_lt_of_cell? _ _ u0
            have lb1 := World.block_lt_of_cell? _ _ u2
            by_cases hzy : z < y
            · have hzd : decide (z < y) = true := decide_eq_true hzy
              have HAC := Lib.hid (fun W (hW : Ext w5 W) => HAL.out z hzl (by omega) W (HXW.out.trans hW))
              cases hq : fY z with
              | true =>
                have HRR : Hid (res = true) := Lib.hid (HHIT.out k hkr (by rw [← hz]; exact hzy) (by rw [← hz]; exact hq))
                rw [hq] at HAC
                clear hq hz hkr
                go_wp2
                (refine wp_region_ext (by kernel_rfl) (by kernel_rfl) ?_; (repeat (go_big_quiet_step ((go_at_call 73; exact Calls_ext (HAC.out _ (Ext.trans (by (repeat (first | with_reducible exact Ext.refl _ | with_reducible assumption | ((with_reducible apply Src.ext); with_reducible assumption) | with_reducible refine Ext.alloc ?_ _ | with_reducible refine Ext.drew ?_ | with_reducible refine Ext.drewN ?_ _ | ((with_reducible refine Ext.setCell' ?_ ?_ _); solve | omega | simp | (simp; omega)) | (with_reducible refine Ext.trans ?_ (by with_reducible assumption))))) (ExtOf.ext _))))))); refine wpQuiet_nil ?_; intro wq hxwq; obtain ⟨hcwq, hfwq⟩ := hxwq.rules; have hswq := hxwq.size; (try simp at hswq))
                go_wp2
                go_ret2
                exact ⟨by rw [HRR.out]; rfl, HXW.out.trans (by (repeat (first | with_reducible exact Ext.refl _ | with_reducible assumption | ((with_reducible apply Src.ext); with_reducible assumption) | with_reducible refine Ext.alloc ?_ _ | with_reducible refine Ext.drew ?_ | with_reducible refine Ext.drewN ?_ _ | ((with_reducible refine Ext.setCell' ?_ ?_ _); solve | omega | simp | (simp; omega)) | (with_reducible refine Ext.trans ?_ (by with_reducible assumption)))))⟩
              | false =>
                have HJ2 : Hid (∀ j, j < k + 1 → M.getD j 0 < y → fY (M.getD j 0) = false) := Lib.hid (upTo1 HJ.out (fun _ => by rw [← hz]; exact hq))
                rw [hq] at HAC
                clear hq hz hkr
                go_wp2
                (refine wp_region_ext (by kernel_rfl) (by kernel_rfl) ?_; (repeat (go_big_quiet_step ((go_at_call 73; exact Calls_ext (HAC.out _ (Ext.trans (by (repeat (first | with_reducible exact Ext.refl _ | with_reducible assumption | ((with_reducible apply Src.ext); with_reducible assumption) | with_reducible refine Ext.alloc ?_ _ | with_reducible refine Ext.drew ?_ | with_reducible refine Ext.drewN ?_ _ | ((with_reducible refine Ext.setCell' ?_ ?_ _); solve | omega | simp | (simp; omega)) | (with_reducible refine Ext.trans ?_ (by with_reducible assumption))))) (ExtOf.ext _))))))); refine wpQuiet_nil ?_; intro wq hxwq; obtain ⟨hcwq, hfwq⟩ := hxwq.rules; have hswq := hxwq.size; (try simp at hswq))
                go_wp2
                go_roundw
                case rel => exact ⟨k + 1, by omega, by go_num, HJ2, by (repeat (first | with_reducible exact Ext.refl _ | with_reducible assumption | ((with_reducible apply Src.ext); with_reducible assumption) | with_reducible refine Ext.alloc ?_ _ | with_reducible refine Ext.drew ?_ | with_reducible refine Ext.drewN ?_ _ | ((with_reducible refine Ext.setCell' ?_ ?_ _); solve | omega | simp | (simp; omega)) | (with_reducible refine Ext.trans ?_ (by with_reducible assumption))))⟩
                case measure => simp [intOf]; omega
            · have hzd : decide (z < y) = false := decide_eq_false hzy
              have HJ2 : Hid (∀ j, j < k + 1 → M.getD j 0 < y → fY (M.getD j 0) = false) := Lib.hid (upTo1 HJ.out (fun q => absurd (by rw [hz]; exact q) hzy))
              clear hz hkr
              go_wp2
              (refine wp_region_ext (by kernel_rfl) (by kernel_rfl) ?_; (repeat (go_big_quiet_step (fail))); refine wpQuiet_nil ?_; intro wq hxwq; obtain ⟨hcwq, hfwq⟩ := hxwq.rules; have hswq := hxwq.size; (try simp at hswq))
              go_wp2
              go_roundw
              case rel => exact ⟨k + 1, by omega, by go_num, HJ2, by (repeat (first | with_reducible exact Ext.refl _ | with_reducible assumption | ((with_reducible apply Src.ext); with_reducible assumption) | with_reducible refine Ext.alloc ?_ _ | with_reducible refine Ext.drew ?_ | with_reducible refine Ext.drewN ?_ _ | ((with_reducible refine Ext.setCell' ?_ ?_ _); solve | omega | simp | (simp; omega)) | (with_reducible refine Ext.trans ?_ (by with_reducible assumption))))⟩
              case measure => simp [intOf]; omega
          · obtain rfl : k = un := by omega
            have HRR : Hid (res = false) := Lib.hid (HNON.out (fun j hj => HJ.out j (by rw [HUN.out]; exact hj)))
            go_wp2
            go_ret2
            exact ⟨by rw [HRR.out]; rfl, HX2.out.trans (HX9.out.trans (by (repeat (first | with_reducible exact Ext.refl _ | with_reducible assumption | ((with_reducible apply Src.ext); with_reducible assumption) | with_reducible refine Ext.alloc ?_ _ | with_reducible refine Ext.drew ?_ | with_reducible refine Ext.drewN ?_ _ | ((with_reducible refine Ext.setCell' ?_ ?_ _); solve | omega | simp | (simp; omega)) | (with_reducible refine Ext.trans ?_ (by with_reducible assumption))))))⟩
end

end Go.Proofs.YtapfokfbdmcokaaGreatDoor
