/- Contracts of the maps: edges that touch, walked over the translation. -/
import Derived.Test.YtabdffponmmhoaaGreatDoorMX
import Derived.Deep.RegionHeld3
import Derived.Deep.DeepCutAuto
import Derived.RegionTactic
import Derived.BigRegion
import Derived.WalkLawsBesides
import Derived.WalkSpells
import Derived.Lib.MinMax
import Derived.Outline
namespace Go.Proofs.YtabdffponmmhoaaGreatDoor
open Go.RowKit
attribute [local go_sem] ExtOf.cell ExtOf.frozen

def touchC (x z a b c d p q r s : Int) : Bool :=
  let A := if eqP a b x z = true then (c, d) else (a, b)
  let B := if eqP p q x z = true then (r, s) else (p, q)
  !onW a b c d B.1 B.2 && !onW p q r s A.1 A.2
/-- whether two edges of different rings may meet as they do, as the reference reckons it -/
def touchB (a b c d p q r s : Int) : Bool :=
  if crossW a b c d p q r s = false then true else if (eqP a b r s && eqP c d p q) = true then true else if (eqP a b p q && eqP c d r s) = true then false else
  if (eqP a b p q || eqP a b r s) = true then touchC a b a b c d p q r s else if (eqP c d p q || eqP c d r s) = true then touchC c d a b c d p q r s else false
set_option maxRecDepth 20000 in
set_option maxHeartbeats 25600000 in
theorem s_touch (a b c d p q r s : Int) (w : World) : Calls Tryz.prog 124 #[.agg #[.int .i64 a, .int .i64 b, .int .i64 c, .int .i64 d], .agg #[.int .i64 p, .int .i64 q, .int .i64 r, .int .i64 s]] w fun e w' => e = .returned (.bool (touchB a b c d p q r s)) ∧ Ext w w' := by
  go_enter Tryz.func124, Tryz.ntmps124
  go_wp2_with fail
  refine (s_doCross _ _ _ _ _ _ _ _ _).mono ?_
  rintro e w1 ⟨rfl, hx1⟩
  have b0 : Blk w1 w.heap.size 151 #[.int .i64 a, .int .i64 b, .int .i64 c, .int .i64 d] := by (repeat (first | with_reducible assumption | ((with_reducible apply Blk.new); solve | simp | rfl) | with_reducible apply Blk.drew | with_reducible apply Blk.drewN | ((with_reducible apply Blk.far'); solve | omega | simp | (simp; omega)) | with_reducible apply Blk.set_ | with_reducible apply Blk.alloc | ((with_reducible apply Blk.ext'); with_reducible assumption) | ((with_reducible apply Blk.but'); (with_reducible assumption); solve | omega | (simp; omega))))
  have b1 : Blk w1 (w.heap.size + 1) 151 #[.int .i64 p, .int .i64 q, .int .i64 r, .int .i64 s] := by (repeat (first | with_reducible assumption | ((with_reducible apply Blk.new); solve | simp | rfl) | with_reducible apply Blk.drew | with_reducible apply Blk.drewN | ((with_reducible apply Blk.far'); solve | omega | simp | (simp; omega)) | with_reducible apply Blk.set_ | with_reducible apply Blk.alloc | ((with_reducible apply Blk.ext'); with_reducible assumption) | ((with_reducible apply Blk.but'); (with_reducible assumption); solve | omega | (simp; omega))))
  have hX : Ext w w1 := by (repeat (first | with_reducible exact Ext.refl _ | with_reducible assumption | ((with_reducible apply Src.ext); with_reducible assumption) | with_reducible refine Ext.alloc ?_ _ | with_reducible refine Ext.drew ?_ | with_reducible refine Ext.drewN ?_ _ | ((with_reducible refine Ext.setCell' ?_ ?_ _); solve | omega | simp | (simp; omega)) | (with_reducible refine Ext.trans ?_ (by with_reducible assumption))))
  have x0 : w1.cell? ⟨w.heap.size, 0, none⟩ = some (.int .i64 a) := b0.cell 0
  have x1 : w1.cell? ⟨w.heap.size, 1, none⟩ = some (.int .i64 b) := b0.cell 1
  have x2 : w1.cell? ⟨w.heap.size, 2, none⟩ = some (.int .i64 c) := b0.cell 2
  have x3 : w1.cell? ⟨w.heap.size, 3, none⟩ = some (.int .i64 d) := b0.cell 3
  have y0 : w1.cell? ⟨w.heap.size + 1, 0, none⟩ = some (.int .i64 p) := b1.cell 0
  have y1 : w1.cell? ⟨w.heap.size + 1, 1, none⟩ = some (.int .i64 q) := b1.cell 1
  have y2 : w1.cell? ⟨w.heap.size + 1, 2, none⟩ = some (.int .i64 r) := b1.cell 2
  have y3 : w1.cell? ⟨w.heap.size + 1, 3, none⟩ = some (.int .i64 s) := b1.cell 3
  have l0 := b0.lt
  have l1 := b1.lt
  clear hx1 b0 b1
  have := (show w.heap.size < w1.heap.size from by omega); have := (show w.heap.size < w1.heap.size + 1 from by omega); have := (show w.heap.size < w1.heap.size + 1 + 1 from by omega); have := (show w.heap.size + 1 < w1.heap.size from by omega); have := (show w.heap.size + 1 < w1.heap.size + 1 from by omega); have := (show w.heap.size + 1 < w1.heap.size + 1 + 1 from by omega)
  have := (show ¬ w.heap.size = w1.heap.size from by omega); have := (show ¬ w1.heap.size = w.heap.size from by omega); have := (show ¬ w.heap.size = w1.heap.size + 1 from by omega); have := (show ¬ w1.heap.size + 1 = w.heap.size from by omega); have := (show ¬ w.heap.size = w1.heap.size + 1 + 1 from by omega); have := (show ¬ w1.heap.size + 1 + 1 = w.heap.size from by omega); have := (show ¬ w.heap.size + 1 = w1.heap.size from by omega); have := (show ¬ w1.heap.size = w.heap.size + 1 from by omega); have := (show ¬ w.heap.size + 1 = w1.heap.size + 1 from by omega); have := (show ¬ w1.heap.size + 1 = w.heap.size + 1 from by omega); have := (show ¬ w.heap.size + 1 = w1.heap.size + 1 + 1 from by omega); have := (show ¬ w1.heap.size + 1 + 1 = w.heap.size + 1 from by omega)
  go_wp2
  all_goals (try (go_ret; exact ⟨ret_bool (by simp [touchB, *]), by (repeat (first | with_reducible exact Ext.refl _ | with_reducible assumption | ((with_reducible apply Src.ext); with_reducible assumption) | with_reducible refine Ext.alloc ?_ _ | with_reducible refine Ext.drew ?_ | with_reducible refine Ext.drewN ?_ _ | ((with_reducible refine Ext.setCell' ?_ ?_ _); solve | omega | simp | (simp; omega)) | (with_reducible refine Ext.trans ?_ (by with_reducible assumption))))⟩))
  all_goals go_region
  all_goals go_wp2_with (first | (go_at_call 67; refine (s_isOn _ _ _ _ _ _ _).mono ?_; rintro e w4 ⟨rfl, hx4⟩; obtain ⟨hc4, hf4⟩ := hx4.rules; have hs4 := hx4.size; (try simp at hs4); have := (show w.heap.size < w4.heap.size from by omega); have := (show w.heap.size + 1 < w4.heap.size from by omega); have := (show w1.heap.size < w4.heap.size from by omega); have := (show w1.heap.size + 1 < w4.heap.size from by omega); have := (show w1.heap.size + 1 + 1 < w4.heap.size from by omega)))
  all_goals go_ret
  all_goals refine ⟨ret_bool ?_, by (repeat (first | with_reducible exact Ext.refl _ | with_reducible assumption | ((with_reducible apply Src.ext); with_reducible assumption) | with_reducible refine Ext.alloc ?_ _ | with_reducible refine Ext.drew ?_ | with_reducible refine Ext.drewN ?_ _ | ((with_reducible refine Ext.setCell' ?_ ?_ _); solve | omega | simp | (simp; omega)) | (with_reducible refine Ext.trans ?_ (by with_reducible assumption))))⟩
  all_goals simp [touchB, touchC, *]

end Go.Proofs.YtabdffponmmhoaaGreatDoor
