/- Contracts of the functions on segments and directions, walked over the translation. -/
import Derived.Test.YthhkmkhilnglkaaA
import Derived.WalkLawsBesides
import Derived.WalkSpells
import Derived.Lib.MinMax
import Derived.Outline
namespace Go.Proofs.Ythhkmkhilnglkaa
open Go.RowKit
attribute [local go_sem] ExtOf.cell ExtOf.frozen

def crossW (ax ay bx by' cx cy dx dy : Int) : Bool :=
  onW ax ay bx by' cx cy || onW ax ay bx by' dx dy || onW cx cy dx dy ax ay || onW cx cy dx dy bx by' ||
    (decide (sgn (turnW ax ay bx by' cx cy) * sgn (turnW ax ay bx by' dx dy) < 0) && decide (sgn (turnW cx cy dx dy ax ay) * sgn (turnW cx cy dx dy bx by') < 0))
theorem sgn_bd (x : Int) : -1 ≤ sgn x ∧ sgn x ≤ 1 := by unfold sgn; omega
theorem sgn_mul (x y : Int) : -1 ≤ sgn x * sgn y ∧ sgn x * sgn y ≤ 1 := by
  rcases (show sgn x = -1 ∨ sgn x = 0 ∨ sgn x = 1 by unfold sgn; omega) with h | h | h <;> rw [h] <;> have := sgn_bd y <;> omega
theorem i_doCross (ax ay bx by' cx cy dx dy : Int) (w : World) :
    Calls Try.prog 97 #[.agg #[.int .i64 ax, .int .i64 ay], .agg #[.int .i64 bx, .int .i64 by'], .agg #[.int .i64 cx, .int .i64 cy], .agg #[.int .i64 dx, .int .i64 dy]] w
    fun e w' => e = .returned (.bool (crossW ax ay bx by' cx cy dx dy)) ∧ Ext w w' := by
  have m1 := sgn_mul (turnW ax ay bx by' cx cy) (turnW ax ay bx by' dx dy)
  have m2 := sgn_mul (turnW cx cy dx dy ax ay) (turnW cx cy dx dy bx by')
  go_enter Try.func97, Try.ntmps97
  go_wp2_with (first | (go_at_call 95; refine (i_isOn _ _ _ _ _ _ _).mono ?_; rintro e w1 ⟨rfl, hx1⟩; obtain ⟨hc1, hf1⟩ := hx1.rules; have hs1 := hx1.size; (try simp at hs1); have := (show w.heap.size < w1.heap.size from by omega); have := (show w.heap.size + 1 < w1.heap.size from by omega); have := (show w.heap.size + 1 + 1 < w1.heap.size from by omega); have := (show w.heap.size + 1 + 1 + 1 < w1.heap.size from by omega)))
  rotate_right
  · by_cases hg : sgn (turnW ax ay bx by' cx cy) * sgn (turnW ax ay bx by' dx dy) < 0
    all_goals
      (refine wp_region_ext (by kernel_rfl) (by kernel_rfl) ?_; (repeat (go_big_quiet_step (first | (go_at_call 86; exact Calls_ext (i_turn _ _ _ _ _ _ _)) | (go_at_call 110; exact Calls_same (i_sign _ _))))); refine wpQuiet_nil ?_; intro wq hxwq; obtain ⟨hcwq, hfwq⟩ := hxwq.rules; have hswq := hxwq.size; (try simp at hswq))
      go_wp2
      go_ret
      refine ⟨?_, by (repeat (first | with_reducible exact Ext.refl _ | with_reducible assumption | ((with_reducible apply Src.ext); with_reducible assumption) | with_reducible refine Ext.alloc ?_ _ | with_reducible refine Ext.drew ?_ | with_reducible refine Ext.drewN ?_ _ | ((with_reducible refine Ext.setCell' ?_ ?_ _); solve | omega | simp | (simp; omega)) | (with_reducible refine Ext.trans ?_ (by with_reducible assumption))))⟩
      (simp [crossW, *]; try omega)
  all_goals go_ret
  all_goals refine ⟨?_, by (repeat (first | with_reducible exact Ext.refl _ | with_reducible assumption | ((with_reducible apply Src.ext); with_reducible assumption) | with_reducible refine Ext.alloc ?_ _ | with_reducible refine Ext.drew ?_ | with_reducible refine Ext.drewN ?_ _ | ((with_reducible refine Ext.setCell' ?_ ?_ _); solve | omega | simp | (simp; omega)) | (with_reducible refine Ext.trans ?_ (by with_reducible assumption))))⟩
  all_goals simp [crossW, *]
theorem s_doCross (ax ay bx by' cx cy dx dy : Int) (w : World) :
    Calls Try.prog 98 #[.agg #[.int .i64 ax, .int .i64 ay], .agg #[.int .i64 bx, .int .i64 by'], .agg #[.int .i64 cx, .int .i64 cy], .agg #[.int .i64 dx, .int .i64 dy]] w
    fun e w' => e = .returned (.bool (crossW ax ay bx by' cx cy dx dy)) ∧ Ext w w' := by
  have m1 := sgn_mul (turnW ax ay bx by' cx cy) (turnW ax ay bx by' dx dy)
  have m2 := sgn_mul (turnW cx cy dx dy ax ay) (turnW cx cy dx dy bx by')
  go_enter Try.func98, Try.ntmps98
  go_wp2_with (first | (go_at_call 96; refine (s_isOn _ _ _ _ _ _ _).mono ?_; rintro e w1 ⟨rfl, hx1⟩; obtain ⟨hc1, hf1⟩ := hx1.rules; have hs1 := hx1.size; (try simp at hs1); have := (show w.heap.size < w1.heap.size from by omega); have := (show w.heap.size + 1 < w1.heap.size from by omega); have := (show w.heap.size + 1 + 1 < w1.heap.size from by omega); have := (show w.heap.size + 1 + 1 + 1 < w1.heap.size from by omega)))
  rotate_right
  · by_cases hg : sgn (turnW ax ay bx by' cx cy) * sgn (turnW ax ay bx by' dx dy) < 0
    all_goals
      (refine wp_region_ext (by kernel_rfl) (by kernel_rfl) ?_; (repeat (go_big_quiet_step (first | (go_at_call 88; exact Calls_ext (s_turn _ _ _ _ _ _ _)) | (go_at_call 127; exact Calls_same (s_sign _ _))))); refine wpQuiet_nil ?_; intro wq hxwq; obtain ⟨hcwq, hfwq⟩ := hxwq.rules; have hswq := hxwq.size; (try simp at hswq))
      go_wp2
      go_ret
      refine ⟨?_, by (repeat (first | with_reducible exact Ext.refl _ | with_reducible assumption | ((with_reducible apply Src.ext); with_reducible assumption) | with_reducible refine Ext.alloc ?_ _ | with_reducible refine Ext.drew ?_ | with_reducible refine Ext.drewN ?_ _ | ((with_reducible refine Ext.setCell' ?_ ?_ _); solve | omega | simp | (simp; omega)) | (with_reducible refine Ext.trans ?_ (by with_reducible assumption))))⟩
      (simp [crossW, *]; try omega)
  all_goals go_ret
  all_goals refine ⟨?_, by (repeat (first | with_reducible exact Ext.refl _ | with_reducible assumption | ((with_reducible apply Src.ext); with_reducible assumption) | with_reducible refine Ext.alloc ?_ _ | with_reducible refine Ext.drew ?_ | with_reducible refine Ext.drewN ?_ _ | ((with_reducible refine Ext.setCell' ?_ ?_ _); solve | omega | simp | (simp; omega)) | (with_reducible refine Ext.trans ?_ (by with_reducible assumption))))⟩
  all_goals simp [crossW, *]

theorem absW_bd (x b : Int) (h : -b ≤ x) (h' : x ≤ b) (hb : b ≤ 1000000000000) : 0 ≤ absW x ∧ absW x ≤ b := by unfold absW wrap64; omega
/-- the value at a corner of the table of directions -/
def dirT (dy dx : Int) : Int :=
  if dy < 0 then (if dx < 0 then 5 else if dx = 0 then 4 else 3) else if dy = 0 then (if dx < 0 then 6 else if dx = 0 then 0 else 2) else (if dx < 0 then 7 else if dx = 0 then 0 else 1)
/-- the direction, of the differences -/
def dirZ (dx dy : Int) : Int :=
  if 2 * absW dx < absW dy then dirT dy 0 else if 2 * absW dy < absW dx then dirT 0 dx else dirT dy dx
theorem i_sign_neg (x : Int) (w : World) (h : x < 0) : Calls Try.prog 110 #[.int .i64 x] w fun e w' => e = .returned (.int .i64 (-1)) ∧ w = w' := by
  have := i_sign x w
  rwa [show sgn x = -1 by unfold sgn; omega] at this
theorem i_sign_zero (x : Int) (w : World) (h : x = 0) : Calls Try.prog 110 #[.int .i64 x] w fun e w' => e = .returned (.int .i64 0) ∧ w = w' := by
  have := i_sign x w
  rwa [show sgn x = 0 by unfold sgn; omega] at this
theorem i_sign_pos (x : Int) (w : World) (h : 0 < x) : Calls Try.prog 110 #[.int .i64 x] w fun e w' => e = .returned (.int .i64 1) ∧ w = w' := by
  have := i_sign x w
  rwa [show sgn x = 1 by unfold sgn; omega] at this
set_option maxHeartbeats 2000000 in
theorem i_direction (ax ay bx by' : Int) (w : World) (h : okP ax ay = true) (h' : okP bx by' = true) :
    Calls Try.prog 90 #[.agg #[.int .i64 ax, .int .i64 ay], .agg #[.int .i64 bx, .int .i64 by']] w
    fun e w' => e = .returned (.int .i64 (dirZ (bx - ax) (by' - ay))) ∧ Ext w w' := by
  simp [okP, inB] at h h'
  have b1 := absW_bd (bx - ax) 2000 (by omega) (by omega) (by omega)
  have b2 := absW_bd (by' - ay) 2000 (by omega) (by omega) (by omega)
  go_enter Try.func90, Try.ntmps90
  go_wp2
  (refine wp_region_ext (by kernel_rfl) (by kernel_rfl) ?_; (repeat (go_big_quiet_step (fail))); refine wpQuiet_nil ?_; intro wq hxwq; obtain ⟨hcwq, hfwq⟩ := hxwq.rules; have hswq := hxwq.size; (try simp at hswq))
  go_wp2_with (first | (go_at_call 74; refine (i_abs _ _).mono ?_; rintro e w' ⟨rfl, rfl⟩))
  all_goals
    rcases Int.lt_trichotomy (bx - ax) 0 with hx | hx | hx <;> rcases Int.lt_trichotomy (by' - ay) 0 with hy | hy | hy
  all_goals
    (refine wp_region_ext (by kernel_rfl) (by kernel_rfl) ?_; (repeat (go_big_quiet_step ((go_at_call 110; first | exact Calls_same (i_sign_neg _ _ (by omega)) | exact Calls_same (i_sign_zero _ _ (by omega)) | exact Calls_same (i_sign_pos _ _ (by omega)))))); refine wpQuiet_nil ?_; intro wr hxwr; obtain ⟨hcwr, hfwr⟩ := hxwr.rules; have hswr := hxwr.size; (try simp at hswr))
    go_wp2
  all_goals go_ret
  all_goals refine ⟨ret_int ?_, by (repeat (first | with_reducible exact Ext.refl _ | with_reducible assumption | ((with_reducible apply Src.ext); with_reducible assumption) | with_reducible refine Ext.alloc ?_ _ | with_reducible refine Ext.drew ?_ | with_reducible refine Ext.drewN ?_ _ | ((with_reducible refine Ext.setCell' ?_ ?_ _); solve | omega | simp | (simp; omega)) | (with_reducible refine Ext.trans ?_ (by with_reducible assumption))))⟩
  all_goals unfold dirZ dirT
  all_goals (repeat (first | rw [if_pos (by omega)] | rw [if_neg (by omega)]))
  all_goals rfl
theorem s_direction (ax ay bx by' : Int) (w : World) (h : okP ax ay = true) (h' : okP bx by' = true) (hne : ¬ (ax = bx ∧ ay = by')) :
    Calls Try.prog 91 #[.agg #[.int .i64 ax, .int .i64 ay], .agg #[.int .i64 bx, .int .i64 by']] w
    fun e w' => e = .returned (.int .i64 (dirZ (bx - ax) (by' - ay))) ∧ Ext w w' := by
  simp [okP, inB] at h h'
  have b1 := absW_bd (bx - ax) 2000 (by omega) (by omega) (by omega)
  have b2 := absW_bd (by' - ay) 2000 (by omega) (by omega) (by omega)
  have hne' : bx - ax < 0 ∨ 0 < bx - ax ∨ by' - ay < 0 ∨ 0 < by' - ay := by omega
  clear hne
  go_enter Try.func91, Try.ntmps91
  go_wp2
  (refine wp_region_ext (by kernel_rfl) (by kernel_rfl) ?_; (repeat (go_big_quiet_step (fail))); refine wpQuiet_nil ?_; intro wq hxwq; obtain ⟨hcwq, hfwq⟩ := hxwq.rules; have hswq := hxwq.size; (try simp at hswq))
  go_wp2_with (first | (go_at_call 71; refine (s_abs _ _).mono ?_; rintro e w' ⟨rfl, rfl⟩))
  all_goals go_ret
  all_goals refine ⟨ret_int ?_, by (repeat (first | with_reducible exact Ext.refl _ | with_reducible assumption | ((with_reducible apply Src.ext); with_reducible assumption) | with_reducible refine Ext.alloc ?_ _ | with_reducible refine Ext.drew ?_ | with_reducible refine Ext.drewN ?_ _ | ((with_reducible refine Ext.setCell' ?_ ?_ _); solve | omega | simp | (simp; omega)) | (with_reducible refine Ext.trans ?_ (by with_reducible assumption))))⟩
  all_goals (have c1 : absW (bx - ax) = max (bx - ax) (-(bx - ax)) := by (unfold absW wrap64; omega))
  all_goals (have c2 : absW (by' - ay) = max (by' - ay) (-(by' - ay)) := by (unfold absW wrap64; omega))
  all_goals unfold dirZ dirT
  all_goals (repeat (first | rw [if_pos (by omega)] | rw [if_neg (by omega)] | split))
  all_goals first | rfl | omega
end Go.Proofs.Ythhkmkhilnglkaa
