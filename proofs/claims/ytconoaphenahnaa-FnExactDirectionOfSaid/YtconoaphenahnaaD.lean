/- Contracts of the laws on the public functions of points, walked over the translation. -/
import Derived.Test.YtconoaphenahnaaC
import Derived.WalkLawsBesides
import Derived.WalkSpells
import Derived.Lib.MinMax
import Derived.Outline
namespace Go.Proofs.Ytconoaphenahnaa
open Go.RowKit
attribute [local go_sem] ExtOf.cell ExtOf.frozen



theorem fnExactSquaredDistance_walk (ax az bx bz : Int) (w : World) : Calls Try.prog 4 #[.agg #[.int .i64 ax, .int .i64 az], .agg #[.int .i64 bx, .int .i64 bz]] w
    fun e w' => e = .returned (.bool true) ∧ Ext w w' := by
  go_enter Try.func4, Try.ntmps4
  go_wp2
  (refine wp_region_ext (by kernel_rfl) (by kernel_rfl) ?_; (repeat (go_big_quiet_step (first | (go_at_call 16; exact Calls_ext (l_toPoint _ _ _)) | (go_at_call 18; exact Calls_ext (s_SquaredDistance _ _ _ _ _))))); refine wpQuiet_nil ?_; intro wq hxwq; obtain ⟨hcwq, hfwq⟩ := hxwq.rules; have hswq := hxwq.size; (try simp at hswq))
  (have := (show w.heap.size < wq.heap.size from by omega); have := (show w.heap.size + 1 < wq.heap.size from by omega))
  go_wp2
  (refine wp_region_ext (by kernel_rfl) (by kernel_rfl) ?_; (repeat (go_big_quiet_step (first | (go_at_call 16; exact Calls_ext (l_toPoint _ _ _)) | (go_at_call 19; exact Calls_ext (i_SquaredDistance _ _ _ _ _))))); refine wpQuiet_nil ?_; intro wr hxwr; obtain ⟨hcwr, hfwr⟩ := hxwr.rules; have hswr := hxwr.size; (try simp at hswr))
  go_wp2
  all_goals go_ret
  all_goals exact ⟨rfl, by (repeat (first | exact Ext.refl _ | assumption | refine Ext.alloc ?_ _ | refine Ext.drew ?_ | refine Ext.drewN ?_ _ | refine Ext.setCell ?_ (by first | omega | (simp; omega)) _ | refine Ext.trans ?_ (by assumption)))⟩

theorem fnExactTurnOf_walk (ax az bx bz cx cz : Int) (w : World) : Calls Try.prog 5 #[.agg #[.int .i64 ax, .int .i64 az], .agg #[.int .i64 bx, .int .i64 bz], .agg #[.int .i64 cx, .int .i64 cz]] w
    fun e w' => e = .returned (.bool true) ∧ Ext w w' := by
  go_enter Try.func5, Try.ntmps5
  go_wp2
  (refine wp_region_ext (by kernel_rfl) (by kernel_rfl) ?_; (repeat (go_big_quiet_step (first | (go_at_call 16; exact Calls_ext (l_toPoint _ _ _)) | (go_at_call 20; exact Calls_ext (s_TurnOf _ _ _ _ _ _ _))))); refine wpQuiet_nil ?_; intro wq hxwq; obtain ⟨hcwq, hfwq⟩ := hxwq.rules; have hswq := hxwq.size; (try simp at hswq))
  (have := (show w.heap.size < wq.heap.size from by omega); have := (show w.heap.size + 1 < wq.heap.size from by omega); have := (show w.heap.size + 1 + 1 < wq.heap.size from by omega))
  go_wp2
  (refine wp_region_ext (by kernel_rfl) (by kernel_rfl) ?_; (repeat (go_big_quiet_step (first | (go_at_call 16; exact Calls_ext (l_toPoint _ _ _)) | (go_at_call 21; exact Calls_ext (i_TurnOf _ _ _ _ _ _ _))))); refine wpQuiet_nil ?_; intro wr hxwr; obtain ⟨hcwr, hfwr⟩ := hxwr.rules; have hswr := hxwr.size; (try simp at hswr))
  go_wp2
  all_goals go_ret
  all_goals exact ⟨rfl, by (repeat (first | exact Ext.refl _ | assumption | refine Ext.alloc ?_ _ | refine Ext.drew ?_ | refine Ext.drewN ?_ _ | refine Ext.setCell ?_ (by first | omega | (simp; omega)) _ | refine Ext.trans ?_ (by assumption)))⟩

theorem fnExactIsOn_walk (ax az bx bz cx cz : Int) (w : World) : Calls Try.prog 6 #[.agg #[.int .i64 ax, .int .i64 az], .agg #[.int .i64 bx, .int .i64 bz], .agg #[.int .i64 cx, .int .i64 cz]] w
    fun e w' => e = .returned (.bool true) ∧ Ext w w' := by
  go_enter Try.func6, Try.ntmps6
  go_wp2
  (refine wp_region_ext (by kernel_rfl) (by kernel_rfl) ?_; (repeat (go_big_quiet_step (first | (go_at_call 16; exact Calls_ext (l_toPoint _ _ _)) | (go_at_call 22; exact Calls_ext (s_IsOn _ _ _ _ _ _ _))))); refine wpQuiet_nil ?_; intro wq hxwq; obtain ⟨hcwq, hfwq⟩ := hxwq.rules; have hswq := hxwq.size; (try simp at hswq))
  (have := (show w.heap.size < wq.heap.size from by omega); have := (show w.heap.size + 1 < wq.heap.size from by omega); have := (show w.heap.size + 1 + 1 < wq.heap.size from by omega))
  go_wp2
  (refine wp_region_ext (by kernel_rfl) (by kernel_rfl) ?_; (repeat (go_big_quiet_step (first | (go_at_call 16; exact Calls_ext (l_toPoint _ _ _)) | (go_at_call 23; exact Calls_ext (i_IsOn _ _ _ _ _ _ _))))); refine wpQuiet_nil ?_; intro wr hxwr; obtain ⟨hcwr, hfwr⟩ := hxwr.rules; have hswr := hxwr.size; (try simp at hswr))
  go_wp2
  all_goals go_ret
  all_goals exact ⟨rfl, by (repeat (first | exact Ext.refl _ | assumption | refine Ext.alloc ?_ _ | refine Ext.drew ?_ | refine Ext.drewN ?_ _ | refine Ext.setCell ?_ (by first | omega | (simp; omega)) _ | refine Ext.trans ?_ (by assumption)))⟩

theorem fnExactDoCross_walk (ax az bx bz cx cz dx dz : Int) (w : World) : Calls Try.prog 7 #[.agg #[.int .i64 ax, .int .i64 az], .agg #[.int .i64 bx, .int .i64 bz], .agg #[.int .i64 cx, .int .i64 cz], .agg #[.int .i64 dx, .int .i64 dz]] w
    fun e w' => e = .returned (.bool true) ∧ Ext w w' := by
  go_enter Try.func7, Try.ntmps7
  go_wp2
  (refine wp_region_ext (by kernel_rfl) (by kernel_rfl) ?_; (repeat (go_big_quiet_step (first | (go_at_call 16; exact Calls_ext (l_toPoint _ _ _)) | (go_at_call 24; exact Calls_ext (s_DoCross _ _ _ _ _ _ _ _ _))))); refine wpQuiet_nil ?_; intro wq hxwq; obtain ⟨hcwq, hfwq⟩ := hxwq.rules; have hswq := hxwq.size; (try simp at hswq))
  (have := (show w.heap.size < wq.heap.size from by omega); have := (show w.heap.size + 1 < wq.heap.size from by omega); have := (show w.heap.size + 1 + 1 < wq.heap.size from by omega); have := (show w.heap.size + 1 + 1 + 1 < wq.heap.size from by omega))
  go_wp2
  (refine wp_region_ext (by kernel_rfl) (by kernel_rfl) ?_; (repeat (go_big_quiet_step (first | (go_at_call 16; exact Calls_ext (l_toPoint _ _ _)) | (go_at_call 25; exact Calls_ext (i_DoCross _ _ _ _ _ _ _ _ _))))); refine wpQuiet_nil ?_; intro wr hxwr; obtain ⟨hcwr, hfwr⟩ := hxwr.rules; have hswr := hxwr.size; (try simp at hswr))
  go_wp2
  all_goals go_ret
  all_goals exact ⟨rfl, by (repeat (first | exact Ext.refl _ | assumption | refine Ext.alloc ?_ _ | refine Ext.drew ?_ | refine Ext.drewN ?_ _ | refine Ext.setCell ?_ (by first | omega | (simp; omega)) _ | refine Ext.trans ?_ (by assumption)))⟩

theorem fnExactDirectionOf_walk (ax az bx bz : Int) (w : World) : Calls Try.prog 8 #[.agg #[.int .i64 ax, .int .i64 az], .agg #[.int .i64 bx, .int .i64 bz]] w
    fun e w' => e = .returned (.bool true) ∧ Ext w w' := by
  go_enter Try.func8, Try.ntmps8
  go_wp2
  (refine wp_region_ext (by kernel_rfl) (by kernel_rfl) ?_; (repeat (go_big_quiet_step (first | (go_at_call 16; exact Calls_ext (l_toPoint _ _ _)) | (go_at_call 26; exact Calls_ext (s_DirectionOf _ _ _ _ _))))); refine wpQuiet_nil ?_; intro wq hxwq; obtain ⟨hcwq, hfwq⟩ := hxwq.rules; have hswq := hxwq.size; (try simp at hswq))
  (have := (show w.heap.size < wq.heap.size from by omega); have := (show w.heap.size + 1 < wq.heap.size from by omega))
  go_wp2
  (refine wp_region_ext (by kernel_rfl) (by kernel_rfl) ?_; (repeat (go_big_quiet_step (first | (go_at_call 16; exact Calls_ext (l_toPoint _ _ _)) | (go_at_call 27; exact Calls_ext (i_DirectionOf _ _ _ _ _))))); refine wpQuiet_nil ?_; intro wr hxwr; obtain ⟨hcwr, hfwr⟩ := hxwr.rules; have hswr := hxwr.size; (try simp at hswr))
  go_wp2
  all_goals go_ret
  all_goals exact ⟨rfl, by (repeat (first | exact Ext.refl _ | assumption | refine Ext.alloc ?_ _ | refine Ext.drew ?_ | refine Ext.drewN ?_ _ | refine Ext.setCell ?_ (by first | omega | (simp; omega)) _ | refine Ext.trans ?_ (by assumption)))⟩
end Go.Proofs.Ytconoaphenahnaa
