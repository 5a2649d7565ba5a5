/- How many places lie inside another one, as the program and the specification tell it. The law of CountIn, walked over the translation. -/
import Derived.Test.YtbnkiibjhfcffaaGreatDoorYJ
import Derived.Deep.RegionHeld3
import Derived.Deep.DeepCutAuto
import Derived.RegionTactic
import Derived.BigRegion
import Derived.WalkLawsBesides
import Derived.WalkSpells
import Derived.Lib.MinMax
import Derived.Outline
import Derived.Test.YtbnkiibjhfcffaaGreatDoorZA
namespace Go.Proofs.YtbnkiibjhfcffaaGreatDoor
open Go.RowKit
attribute [local go_sem] ExtOf.cell ExtOf.frozen


theorem insR_lenW (L : List Lk) (x : List UInt8) (y : Int) : (insR L x y).length ≤ 1000000 := by
  unfold insR
  split
  · rename_i h
    have h1 := lks20 (lkC_zero h).1
    have h2 := pla_len L
    have h3 := List.length_filter_le (insB L x y) (plaA L)
    omega
  · simp
theorem i_lengthS (A : Option Addr) (n c : Nat) (w : World) (_hn : n ≤ 140737488351232) : Calls Tryz.prog 41 #[.slice A n c] w fun e w' => e = .returned (.int .i64 n) ∧ w = w' := by
  go_enter Tryz.func41, Tryz.ntmps41
  go_wp2
  go_ret
  exact ⟨rfl, rfl⟩
section
variable {w : World} {A A' : Option Addr} {n c m c' : Nat} {ps : List Pl} {L : List Lk}
theorem plC_neO {D : List Pd} {x : List UInt8} {ok : Bool} {y : Int} (h : ¬ wyC D L (smL x 1 16 && ok) [y] = 0) : plC D L x ok y = wyC D L (smL x 1 16 && ok) [y] := by unfold plC; rw [if_neg h]
theorem plC_hasO {D : List Pd} {x : List UInt8} {ok : Bool} {y : Int} (h : wyC D L (smL x 1 16 && ok) [y] = 0) (hf : (fndP D x).isSome = true) : plC D L x ok y = 0 := by unfold plC; rw [if_pos h, if_pos hf]
theorem plC_lacksO {D : List Pd} {x : List UInt8} {ok : Bool} {y : Int} (h : wyC D L (smL x 1 16 && ok) [y] = 0) (hf : (fndP D x).isSome = false) : plC D L x ok y = 4 := by unfold plC; rw [if_pos h, if_neg (by rw [hf]; simp)]
theorem cntR_len {D : List Pd} {x : List UInt8} {y : Int} (h : plC D L x true y = 0) : cntR D L x y = ((insR L x y).length : Int) := by unfold cntR; rw [if_pos h]
theorem cntR_no {D : List Pd} {x : List UInt8} {y : Int} (h : ¬ plC D L x true y = 0) : cntR D L x y = 0 := by unfold cntR; rw [if_neg h]
set_option maxRecDepth 20000 in
set_option maxHeartbeats 12800000 in
theorem i_CountInW (x : List UInt8) (y : Int) (h : WIn w A A' n c m c' ps L) (hx : x.length ≤ 1048576) (hm : Mx w) :
    Calls Tryz.prog 14 #[.agg #[.slice A n c, .slice A' m c'], .string (tx x), .int .i64 y] w fun e w' => e = .returned (.tuple #[.int .i64 (cntR (psD ps) L x y), .int .i64 (plC (psD ps) L x true y)]) ∧ Ext w w' := by
  have HW := Lib.hid (fun W => by have := i_IsWord (tx x) W (by rw [tx_size]; omega); rw [smB_tx] at this; exact this)
  have HC : Hid (∀ W g, Ext w W → Blk W g 2 #[.int .i64 y] → Calls Tryz.prog 21 #[.agg #[.slice A n c, .slice A' m c'], .bool (smL x 1 16), .slice (some ⟨g, 0, none⟩) 1 1] W fun e w' => e = .returned (.int .i64 (wyC (psD ps) L (smL x 1 16) [y])) ∧ Ext W w') := Lib.hid (fun W g hW hB => i_worldCode (smL x 1 16) [y] _ 1 1 (h.ext hW) (hm.ext hW) (blk_i1 hB) rfl (by omega))
  have HK : Hid (∀ W, Ext (w.alloc (.cells #[.slice A n c, .slice A' m c'] 27)) W → W.cell? ⟨w.heap.size, 0, none⟩ = some (.slice A n c) ∧ W.cell? ⟨w.heap.size, 1, none⟩ = some (.slice A' m c')) := Lib.hid (fun W hW => by
    have B := (Blk.new (cs := #[.slice A n c, .slice A' m c']) (t := 27) (w := w) rfl).ext hW
    exact ⟨B.cell 0, B.cell 1⟩)

  have HB1 := Lib.hid (Bool.and_true (smL x 1 16))
  by_cases hz : wyC (psD ps) L (smL x 1 16) [y] = 0
  · have hw := (wyC_zero hz).1
    have HP := Lib.hid (fun W (hW : Ext w W) => i_hasPlace (w := W) (c := c) (A' := A') (m := m) (c' := c') x (h.sq.ext hW) h.hn (by rw [h.hn]; exact h.hl) (asc_of (wdB_iff.1 hw).1))
    have HN := Lib.hid (fun W (hW : Ext w W) => i_InsideIn A' m c' L x y W (h.sk.ext hW) h.hm h.hl' h.cap h.lg hx)
    cases hf : (fndP (psD ps) x).isSome with
    | true =>
      have hp : plC (psD ps) L x true y = 0 := plC_hasO (by rw [HB1.out]; exact hz) hf
      have hlen : (insR L x y).length ≤ 1048576 := Nat.le_trans (insR_lenW L x y) (by omega)
      rw [plC_lkC hp] at HN
      rw [cntR_len hp, hp]
      rw [hf] at HP
      rw [hz] at HC
      generalize insR L x y = res at *
      clear hz hw hf h hm hx HB1 hp
      generalize tx x = sx at *
      generalize smL x 1 16 = q at *
      go_enter Tryz.func14, Tryz.ntmps14
      go_wp2
      go_region_held3 (fun w' => w'.cell? ⟨w.heap.size, 0, none⟩ = some (.slice A n c) ∧ w'.cell? ⟨w.heap.size, 1, none⟩ = some (.slice A' m c')) (first | go_keep | exact HK.out _ (by (with_reducible repeat (first | exact Ext.refl _ | assumption | (apply Src.ext; assumption) | refine Ext.alloc ?_ _ | refine Ext.drew ?_ | refine Ext.drewN ?_ _ | (refine Ext.setCell' ?_ ?_ _; solve | omega | simp | (simp; omega)) | refine Ext.trans ?_ (by assumption))))) (first | (go_at_call 38; refine (HW.out _).mono ?_; rintro e w7 ⟨rfl, hx7⟩; have hs7 := hx7.size; (try simp at hs7)) | (go_at_call 21; refine (HC.out _ _ (by (with_reducible repeat (first | exact Ext.refl _ | assumption | (apply Src.ext; assumption) | refine Ext.alloc ?_ _ | refine Ext.drew ?_ | refine Ext.drewN ?_ _ | (refine Ext.setCell' ?_ ?_ _; solve | omega | simp | (simp; omega)) | refine Ext.trans ?_ (by assumption)))) (by (with_reducible repeat (first | assumption | (apply Blk.new; solve | simp | with_unfolding_all rfl) | apply Blk.drew | apply Blk.drewN | (apply Blk.far'; solve | omega | simp | (simp; omega)) | apply Blk.set_ | apply Blk.alloc | (apply Blk.ext'; assumption) | (apply Blk.but'; assumption; solve | omega | (simp; omega)))))).mono ?_; rintro e w8 ⟨rfl, hx8⟩; have hs8 := hx8.size; (try simp at hs8); obtain ⟨y0, y1⟩ := HK.out w8 (by (with_reducible repeat (first | exact Ext.refl _ | assumption | (apply Src.ext; assumption) | refine Ext.alloc ?_ _ | refine Ext.drew ?_ | refine Ext.drewN ?_ _ | (refine Ext.setCell' ?_ ?_ _; solve | omega | simp | (simp; omega)) | refine Ext.trans ?_ (by assumption))))))
      all_goals
        go_wp2_with fail
        refine (HP.out _ (by (with_reducible repeat (first | exact Ext.refl _ | assumption | (apply Src.ext; assumption) | refine Ext.alloc ?_ _ | refine Ext.drew ?_ | refine Ext.drewN ?_ _ | (refine Ext.setCell' ?_ ?_ _; solve | omega | simp | (simp; omega)) | refine Ext.trans ?_ (by assumption))))).mono ?_
        rintro e w9 ⟨rfl, hx9⟩
        obtain ⟨u0, u1⟩ := HK.out w9 (by (with_reducible repeat (first | exact Ext.refl _ | assumption | (apply Src.ext; assumption) | refine Ext.alloc ?_ _ | refine Ext.drew ?_ | refine Ext.drewN ?_ _ | (refine Ext.setCell' ?_ ?_ _; solve | omega | simp | (simp; omega)) | refine Ext.trans ?_ (by assumption))))
        go_wp2_with fail
        refine (HN.out _ (by (with_reducible repeat (first | exact Ext.refl _ | assumption | (apply Src.ext; assumption) | refine Ext.alloc ?_ _ | refine Ext.drew ?_ | refine Ext.drewN ?_ _ | (refine Ext.setCell' ?_ ?_ _; solve | omega | simp | (simp; omega)) | refine Ext.trans ?_ (by assumption))))).mono ?_
        rintro e w10 ⟨v, rfl, hO, hx10⟩
        obtain ⟨A9, c9, rfl, hS9, _⟩ := hO.sl len_encS
        have hnn : res.length ≤ 140737488351232 := by omega
        go_wp2_with fail
        refine (i_lengthS _ _ _ _ hnn).mono ?_
        rintro e w11 ⟨rfl, rfl⟩
        go_wp2
        go_ret2
        exact ⟨rfl, by (with_reducible repeat (first | exact Ext.refl _ | assumption | (apply Src.ext; assumption) | refine Ext.alloc ?_ _ | refine Ext.drew ?_ | refine Ext.drewN ?_ _ | (refine Ext.setCell' ?_ ?_ _; solve | omega | simp | (simp; omega)) | refine Ext.trans ?_ (by assumption)))⟩
    | false =>
      have hp : plC (psD ps) L x true y = 4 := plC_lacksO (by rw [HB1.out]; exact hz) hf
      rw [cntR_no (by omega), hp]
      rw [hf] at HP
      rw [hz] at HC
      clear hz hw hf h hm hx HB1 hp HN
      generalize tx x = sx at *
      generalize smL x 1 16 = q at *
      go_enter Tryz.func14, Tryz.ntmps14
      go_wp2
      go_region_held3 (fun w' => w'.cell? ⟨w.heap.size, 0, none⟩ = some (.slice A n c) ∧ w'.cell? ⟨w.heap.size, 1, none⟩ = some (.slice A' m c')) (first | go_keep | exact HK.out _ (by (with_reducible repeat (first | exact Ext.refl _ | assumption | (apply Src.ext; assumption) | refine Ext.alloc ?_ _ | refine Ext.drew ?_ | refine Ext.drewN ?_ _ | (refine Ext.setCell' ?_ ?_ _; solve | omega | simp | (simp; omega)) | refine Ext.trans ?_ (by assumption))))) (first | (go_at_call 38; refine (HW.out _).mono ?_; rintro e w7 ⟨rfl, hx7⟩; have hs7 := hx7.size; (try simp at hs7)) | (go_at_call 21; refine (HC.out _ _ (by (with_reducible repeat (first | exact Ext.refl _ | assumption | (apply Src.ext; assumption) | refine Ext.alloc ?_ _ | refine Ext.drew ?_ | refine Ext.drewN ?_ _ | (refine Ext.setCell' ?_ ?_ _; solve | omega | simp | (simp; omega)) | refine Ext.trans ?_ (by assumption)))) (by (with_reducible repeat (first | assumption | (apply Blk.new; solve | simp | with_unfolding_all rfl) | apply Blk.drew | apply Blk.drewN | (apply Blk.far'; solve | omega | simp | (simp; omega)) | apply Blk.set_ | apply Blk.alloc | (apply Blk.ext'; assumption) | (apply Blk.but'; assumption; solve | omega | (simp; omega)))))).mono ?_; rintro e w8 ⟨rfl, hx8⟩; have hs8 := hx8.size; (try simp at hs8); obtain ⟨y0, y1⟩ := HK.out w8 (by (with_reducible repeat (first | exact Ext.refl _ | assumption | (apply Src.ext; assumption) | refine Ext.alloc ?_ _ | refine Ext.drew ?_ | refine Ext.drewN ?_ _ | (refine Ext.setCell' ?_ ?_ _; solve | omega | simp | (simp; omega)) | refine Ext.trans ?_ (by assumption))))))
      all_goals
        go_wp2_with fail
        refine (HP.out _ (by (with_reducible repeat (first | exact Ext.refl _ | assumption | (apply Src.ext; assumption) | refine Ext.alloc ?_ _ | refine Ext.drew ?_ | refine Ext.drewN ?_ _ | (refine Ext.setCell' ?_ ?_ _; solve | omega | simp | (simp; omega)) | refine Ext.trans ?_ (by assumption))))).mono ?_
        rintro e w9 ⟨rfl, hx9⟩
        obtain ⟨u0, u1⟩ := HK.out w9 (by (with_reducible repeat (first | exact Ext.refl _ | assumption | (apply Src.ext; assumption) | refine Ext.alloc ?_ _ | refine Ext.drew ?_ | refine Ext.drewN ?_ _ | (refine Ext.setCell' ?_ ?_ _; solve | omega | simp | (simp; omega)) | refine Ext.trans ?_ (by assumption))))
        go_wp2
        go_ret2
        exact ⟨rfl, by (with_reducible repeat (first | exact Ext.refl _ | assumption | (apply Src.ext; assumption) | refine Ext.alloc ?_ _ | refine Ext.drew ?_ | refine Ext.drewN ?_ _ | (refine Ext.setCell' ?_ ?_ _; solve | omega | simp | (simp; omega)) | refine Ext.trans ?_ (by assumption)))⟩
  · have hp : plC (psD ps) L x true y = wyC (psD ps) L (smL x 1 16) [y] := by rw [plC_neO (by rw [HB1.out]; exact hz), HB1.out]
    rw [cntR_no (by rw [hp]; exact hz), hp]
    generalize wyC (psD ps) L (smL x 1 16) [y] = cd at *
    have hcd : (cd != 0) = true := by simpa using hz
    clear h hm hx HB1 hp
    generalize tx x = sx at *
    generalize smL x 1 16 = q at *
    go_enter Tryz.func14, Tryz.ntmps14
    go_wp2
    go_region_held3 (fun w' => w'.cell? ⟨w.heap.size, 0, none⟩ = some (.slice A n c) ∧ w'.cell? ⟨w.heap.size, 1, none⟩ = some (.slice A' m c')) (first | go_keep | exact HK.out _ (by (with_reducible repeat (first | exact Ext.refl _ | assumption | (apply Src.ext; assumption) | refine Ext.alloc ?_ _ | refine Ext.drew ?_ | refine Ext.drewN ?_ _ | (refine Ext.setCell' ?_ ?_ _; solve | omega | simp | (simp; omega)) | refine Ext.trans ?_ (by assumption))))) (first | (go_at_call 38; refine (HW.out _).mono ?_; rintro e w7 ⟨rfl, hx7⟩; have hs7 := hx7.size; (try simp at hs7)) | (go_at_call 21; refine (HC.out _ _ (by (with_reducible repeat (first | exact Ext.refl _ | assumption | (apply Src.ext; assumption) | refine Ext.alloc ?_ _ | refine Ext.drew ?_ | refine Ext.drewN ?_ _ | (refine Ext.setCell' ?_ ?_ _; solve | omega | simp | (simp; omega)) | refine Ext.trans ?_ (by assumption)))) (by (with_reducible repeat (first | assumption | (apply Blk.new; solve | simp | with_unfolding_all rfl) | apply Blk.drew | apply Blk.drewN | (apply Blk.far'; solve | omega | simp | (simp; omega)) | apply Blk.set_ | apply Blk.alloc | (apply Blk.ext'; assumption) | (apply Blk.but'; assumption; solve | omega | (simp; omega)))))).mono ?_; rintro e w8 ⟨rfl, hx8⟩; have hs8 := hx8.size; (try simp at hs8); obtain ⟨y0, y1⟩ := HK.out w8 (by (with_reducible repeat (first | exact Ext.refl _ | assumption | (apply Src.ext; assumption) | refine Ext.alloc ?_ _ | refine Ext.drew ?_ | refine Ext.drewN ?_ _ | (refine Ext.setCell' ?_ ?_ _; solve | omega | simp | (simp; omega)) | refine Ext.trans ?_ (by assumption))))))
    all_goals
      go_wp2
      go_ret2
      exact ⟨rfl, by (with_reducible repeat (first | exact Ext.refl _ | assumption | (apply Src.ext; assumption) | refine Ext.alloc ?_ _ | refine Ext.drew ?_ | refine Ext.drewN ?_ _ | (refine Ext.setCell' ?_ ?_ _; solve | omega | simp | (simp; omega)) | refine Ext.trans ?_ (by assumption)))⟩
set_option maxRecDepth 20000 in
set_option maxHeartbeats 6400000 in
theorem s_CountInW (x : List UInt8) (y : Int) (h : WIn w A A' n c m c' ps L) (hx : x.length ≤ 1048576) :
    Calls Tryz.prog 15 #[.agg #[.slice A n c, .slice A' m c'], .string (tx x), .int .i64 y] w fun e w' => e = .returned (.tuple #[.int .i64 (cntR (psD ps) L x y), .int .i64 (plC (psD ps) L x true y)]) ∧ Ext w w' := by
  have HC := Lib.hid (fun W (hW : Ext w W) => s_l14Code x y (h.ext hW) hx)
  by_cases hz : plC (psD ps) L x true y = 0
  · have HN := Lib.hid (fun W (hW : Ext w W) => s_InsideIn A' m c' L x y W (h.sk.ext hW) h.hm h.hl' h.lg hx)
    have hlen : (insR L x y).length ≤ 1048576 := Nat.le_trans (insR_lenW L x y) (by omega)
    rw [plC_lkC hz] at HN
    rw [cntR_len hz, hz]
    rw [hz] at HC
    generalize insR L x y = res at *
    clear hz h hx
    generalize tx x = sx at *
    go_enter Tryz.func15, Tryz.ntmps15
    (go_wp2_with fail; refine (HC.out _ (by (with_reducible repeat (first | exact Ext.refl _ | assumption | (apply Src.ext; assumption) | refine Ext.alloc ?_ _ | refine Ext.drew ?_ | refine Ext.drewN ?_ _ | (refine Ext.setCell' ?_ ?_ _; solve | omega | simp | (simp; omega)) | refine Ext.trans ?_ (by assumption))))).mono ?_; rintro e w1 ⟨rfl, hx1⟩; obtain ⟨hc1, hf1⟩ := hx1.rules; have hs1 := hx1.size; (try simp at hs1); have := (show w.heap.size < w1.heap.size from by omega))
    go_wp2_with fail
    refine (HN.out _ (by (with_reducible repeat (first | exact Ext.refl _ | assumption | (apply Src.ext; assumption) | refine Ext.alloc ?_ _ | refine Ext.drew ?_ | refine Ext.drewN ?_ _ | (refine Ext.setCell' ?_ ?_ _; solve | omega | simp | (simp; omega)) | refine Ext.trans ?_ (by assumption))))).mono ?_
    rintro e w2 ⟨v, rfl, hO, hx2⟩
    obtain ⟨A9, c9, rfl, hS9, _⟩ := hO.sl len_encS
    have hwr : IntKind.i64.wrap (res.length : Int) = (res.length : Int) := IntWalk.i64_in _ (by omega)
    go_wp2
    go_ret2
    exact ⟨rfl, by (with_reducible repeat (first | exact Ext.refl _ | assumption | (apply Src.ext; assumption) | refine Ext.alloc ?_ _ | refine Ext.drew ?_ | refine Ext.drewN ?_ _ | (refine Ext.setCell' ?_ ?_ _; solve | omega | simp | (simp; omega)) | refine Ext.trans ?_ (by assumption)))⟩
  · rw [cntR_no hz]
    generalize plC (psD ps) L x true y = cd at *
    have hcd : (cd != 0) = true := by simpa using hz
    clear h hx
    generalize tx x = sx at *
    go_enter Tryz.func15, Tryz.ntmps15
    (go_wp2_with fail; refine (HC.out _ (by (with_reducible repeat (first | exact Ext.refl _ | assumption | (apply Src.ext; assumption) | refine Ext.alloc ?_ _ | refine Ext.drew ?_ | refine Ext.drewN ?_ _ | (refine Ext.setCell' ?_ ?_ _; solve | omega | simp | (simp; omega)) | refine Ext.trans ?_ (by assumption))))).mono ?_; rintro e w1 ⟨rfl, hx1⟩; obtain ⟨hc1, hf1⟩ := hx1.rules; have hs1 := hx1.size; (try simp at hs1))
    go_wp2
    go_ret2
    exact ⟨rfl, by (with_reducible repeat (first | exact Ext.refl _ | assumption | (apply Src.ext; assumption) | refine Ext.alloc ?_ _ | refine Ext.drew ?_ | refine Ext.drewN ?_ _ | (refine Ext.setCell' ?_ ?_ _; solve | omega | simp | (simp; omega)) | refine Ext.trans ?_ (by assumption)))⟩
end
end Go.Proofs.YtbnkiibjhfcffaaGreatDoor
namespace Go.Proofs.YtbnkiibjhfcffaaGreatDoor
open Go.RowKit
attribute [local go_sem] ExtOf.cell ExtOf.frozen


end Go.Proofs.YtbnkiibjhfcffaaGreatDoor
