/- Contracts of the functions on segments and directions, walked over the translation. -/
import Derived.Test.YteppjdoggjcdoaaA
import Derived.WalkLawsBesides
import Derived.WalkSpells
import Derived.Lib.MinMax
import Derived.Outline
namespace Go.Proofs.Yteppjdoggjcdoaa
open Go.RowKit
attribute [local go_sem] ExtOf.cell ExtOf.frozen

def crossW (ax ay bx by' cx cy dx dy : Int) : Bool :=
  onW ax ay bx by' cx cy || onW ax ay bx by' dx dy || onW cx cy dx dy ax ay || onW cx cy dx dy bx by' ||
    (decide (sgn (turnW ax ay bx by' cx cy) * sgn (turnW ax ay bx by' dx dy) < 0) && decide (sgn (turnW cx cy dx dy ax ay) * sgn (turnW cx cy dx dy bx by') < 0))
theorem sgn_bd (x : Int) : -1 ≤ sgn x ∧ sgn x ≤ 1 := by unfold sgn; omega
theorem sgn_mul (x y : Int) : -1 ≤ sgn x * sgn y ∧ sgn x * sgn y ≤ 1 := by
  rcases (show sgn x = -1 ∨ sgn x = 0 ∨ sgn x = 1 by unfold sgn; omega) with h | h | h <;> rw [h] <;> have := sgn_bd y <;> omega
theorem i_doCross (ax ay bx by' cx cy dx dy : Int) (w : World) :
    Calls Try.prog 134 #[.agg #[.int .i64 ax, .int .i64 ay], .agg #[.int .i64 bx, .int .i64 by'], .agg #[.int .i64 cx, .int .i64 cy], .agg #[.int .i64 dx, .int .i64 dy]] w
    fun e w' => e = .returned (.bool (crossW ax ay bx by' cx cy dx dy)) ∧ Ext w w' := by
  have m1 := sgn_mul (turnW ax ay bx by' cx cy) (turnW ax ay bx by' dx dy)
  have m2 := sgn_mul (turnW cx cy dx dy ax ay) (turnW cx cy dx dy bx by')
  go_enter Try.func134, Try.ntmps134
  go_wp2_with (first | (go_at_call 116; refine (i_isOn _ _ _ _ _ _ _).mono ?_; rintro e w1 ⟨rfl, hx1⟩; obtain ⟨hc1, hf1⟩ := hx1.rules; have hs1 := hx1.size; (try simp at hs1); have := (show w.heap.size < w1.heap.size from by omega); have := (show w.heap.size + 1 < w1.heap.size from by omega); have := (show w.heap.size + 1 + 1 < w1.heap.size from by omega); have := (show w.heap.size + 1 + 1 + 1 < w1.heap.size from by omega)))
  rotate_right
  · by_cases hg : sgn (turnW ax ay bx by' cx cy) * sgn (turnW ax ay bx by' dx dy) < 0
    all_goals
      (refine wp_region_ext (by kernel_rfl) (by kernel_rfl) ?_; (repeat (go_big_quiet_step (first | (go_at_call 115; exact Calls_ext (i_turn _ _ _ _ _ _ _)) | (go_at_call 67; exact Calls_same (i_sign _ _))))); refine wpQuiet_nil ?_; intro wq hxwq; obtain ⟨hcwq, hfwq⟩ := hxwq.rules; have hswq := hxwq.size; (try simp at hswq))
      go_wp2
      go_ret
      refine ⟨?_, by (repeat (first | with_reducible exact Ext.refl _ | with_reducible assumption | ((with_reducible apply Src.ext); with_reducible assumption) | with_reducible refine Ext.alloc ?_ _ | with_reducible refine Ext.drew ?_ | with_reducible refine Ext.drewN ?_ _ | ((with_reducible refine Ext.setCell' ?_ ?_ _); solve | omega | simp | (simp; omega)) | (with_reducible refine Ext.trans ?_ (by with_reducible assumption))))⟩
      (simp [crossW, *]; try omega)
  all_goals go_ret
  all_goals refine ⟨?_, by (repeat (first | with_reducible exact Ext.refl _ | with_reducible assumption | ((with_reducible apply Src.ext); with_reducible assumption) | with_reducible refine Ext.alloc ?_ _ | with_reducible refine Ext.drew ?_ | with_reducible refine Ext.drewN ?_ _ | ((with_reducible refine Ext.setCell' ?_ ?_ _); solve | omega | simp | (simp; omega)) | (with_reducible refine Ext.trans ?_ (by with_reducible assumption))))⟩
  all_goals simp [crossW, *]
theorem s_doCross (ax ay bx by' cx cy dx dy : Int) (w : World) :
    Calls Try.prog 112 #[.agg #[.int .i64 ax, .int .i64 ay], .agg #[.int .i64 bx, .int .i64 by'], .agg #[.int .i64 cx, .int .i64 cy], .agg #[.int .i64 dx, .int .i64 dy]] w
    fun e w' => e = .returned (.bool (crossW ax ay bx by' cx cy dx dy)) ∧ Ext w w' := by
  have m1 := sgn_mul (turnW ax ay bx by' cx cy) (turnW ax ay bx by' dx dy)
  have m2 := sgn_mul (turnW cx cy dx dy ax ay) (turnW cx cy dx dy bx by')
  go_enter Try.func112, Try.ntmps112
  go_wp2_with (first | (go_at_call 117; refine (s_isOn _ _ _ _ _ _ _).mono ?_; rintro e w1 ⟨rfl, hx1⟩; obtain ⟨hc1, hf1⟩ := hx1.rules; have hs1 := hx1.size; (try simp at hs1); have := (show w.heap.size < w1.heap.size from by omega); have := (show w.heap.size + 1 < w1.heap.size from by omega); have := (show w.heap.size + 1 + 1 < w1.heap.size from by omega); have := (show w.heap.size + 1 + 1 + 1 < w1.heap.size from by omega)))
  rotate_right
  · by_cases hg : sgn (turnW ax ay bx by' cx cy) * sgn (turnW ax ay bx by' dx dy) < 0
    all_goals
      (refine wp_region_ext (by kernel_rfl) (by kernel_rfl) ?_; (repeat (go_big_quiet_step (first | (go_at_call 69; exact Calls_ext (s_turn _ _ _ _ _ _ _)) | (go_at_call 135; exact Calls_same (s_sign _ _))))); refine wpQuiet_nil ?_; intro wq hxwq; obtain ⟨hcwq, hfwq⟩ := hxwq.rules; have hswq := hxwq.size; (try simp at hswq))
      go_wp2
      go_ret
      refine ⟨?_, by (repeat (first | with_reducible exact Ext.refl _ | with_reducible assumption | ((with_reducible apply Src.ext); with_reducible assumption) | with_reducible refine Ext.alloc ?_ _ | with_reducible refine Ext.drew ?_ | with_reducible refine Ext.drewN ?_ _ | ((with_reducible refine Ext.setCell' ?_ ?_ _); solve | omega | simp | (simp; omega)) | (with_reducible refine Ext.trans ?_ (by with_reducible assumption))))⟩
      (simp [crossW, *]; try omega)
  all_goals go_ret
  all_goals refine ⟨?_, by (repeat (first | with_reducible exact Ext.refl _ | with_reducible assumption | ((with_reducible apply Src.ext); with_reducible assumption) | with_reducible refine Ext.alloc ?_ _ | with_reducible refine Ext.drew ?_ | with_reducible refine Ext.drewN ?_ _ | ((with_reducible refine Ext.setCell' ?_ ?_ _); solve | omega | simp | (simp; omega)) | (with_reducible refine Ext.trans ?_ (by with_reducible assumption))))⟩
  all_goals simp [crossW, *]

theorem absW_bd (x b : Int) (h : -b ≤ x) (h' : x ≤ b) (hb : b ≤ 1000000000000) : 0 ≤ absW x ∧ absW x ≤ b := by unfold absW wrap64; omega
/-- the value at a corner of the table of directions -/
def dirT (dy dx : Int) : Int :=
  if dy < 0 then (if dx < 0 then 5 else if dx = 0 then 4 else 3) else if dy = 0 then (if dx < 0 then 6 else if dx = 0 then 0 else 2) else (if dx < 0 then 7 else if dx = 0 then 0 else 1)
/-- the direction, of the differences -/
def dirZ (dx dy : Int) : Int :=
  if 2 * absW dx < absW dy then dirT dy 0 else if 2 * absW dy < absW dx then dirT 0 dx else dirT dy dx
theorem i_sign_neg (x : Int) (w : World) (h : x < 0) : Calls Try.prog 67 #[.int .i64 x] w fun e w' => e = .returned (.int .i64 (-1)) ∧ w = w' := by
  have := i_sign x w
  rwa [show sgn x = -1 by unfold sgn; omega] at this
theorem i_sign_zero (x : Int) (w : World) (h : x = 0) : Calls Try.prog 67 #[.int .i64 x] w fun e w' => e = .returned (.int .i64 0) ∧ w = w' := by
  have := i_sign x w
  rwa [show sgn x = 0 by unfold sgn; omega] at this
theorem i_sign_pos (x : Int) (w : World) (h : 0 < x) : Calls Try.prog 67 #[.int .i64 x] w fun e w' => e = .returned (.int .i64 1) ∧ w = w' := by
  have := i_sign x w
  rwa [show sgn x = 1 by unfold sgn; omega] at this

end Go.Proofs.Yteppjdoggjcdoaa
