/- Contracts of the maps: edges that fit, walked over the translation. -/
import Derived.Test.YtdbheipjbjcikaaGreatDoorMB
import Derived.Deep.RegionHeld3
import Derived.Deep.DeepCutAuto
import Derived.RegionTactic
import Derived.BigRegion
import Derived.WalkLawsBesides
import Derived.WalkSpells
import Derived.Lib.MinMax
import Derived.Outline
namespace Go.Proofs.YtdbheipjbjcikaaGreatDoor
open Go.RowKit
attribute [local go_sem] ExtOf.cell ExtOf.frozen

theorem i_joint' {a b c d p q r s j1 j2 j3 j4 j5 j6 : Int} {ok : Bool} (hJ : jointV a b c d p q r s = ((j1, j2), (j3, j4), (j5, j6), ok)) (w : World) : Calls Tryz.prog 228 #[.agg #[.int .i64 a, .int .i64 b, .int .i64 c, .int .i64 d], .agg #[.int .i64 p, .int .i64 q, .int .i64 r, .int .i64 s]] w
    fun e w' => e = .returned (.tuple #[.agg #[.int .i64 j1, .int .i64 j2], .agg #[.int .i64 j3, .int .i64 j4], .agg #[.int .i64 j5, .int .i64 j6], .bool ok]) ∧ Ext w w' := by
  have := i_joint a b c d p q r s w
  rwa [hJ] at this
/-- whether two edges of different rings have only points in common that they may have -/
def fitB (a b c d p q r s : Int) : Bool :=
  if eqEd a b c d r s p q = true then true else if eqEd a b c d p q r s = true then false else
  if (jointV a b c d p q r s).2.2.2 = true then
    !onW (jointV a b c d p q r s).1.1 (jointV a b c d p q r s).1.2 (jointV a b c d p q r s).2.1.1 (jointV a b c d p q r s).2.1.2 (jointV a b c d p q r s).2.2.1.1 (jointV a b c d p q r s).2.2.1.2 &&
    !onW (jointV a b c d p q r s).1.1 (jointV a b c d p q r s).1.2 (jointV a b c d p q r s).2.2.1.1 (jointV a b c d p q r s).2.2.1.2 (jointV a b c d p q r s).2.1.1 (jointV a b c d p q r s).2.1.2
  else !crossW a b c d p q r s
set_option maxRecDepth 20000 in
set_option maxHeartbeats 12800000 in
theorem i_fit (a b c d p q r s : Int) (w : World) : Calls Tryz.prog 194 #[.agg #[.int .i64 a, .int .i64 b, .int .i64 c, .int .i64 d], .agg #[.int .i64 p, .int .i64 q, .int .i64 r, .int .i64 s]] w fun e w' => e = .returned (.bool (fitB a b c d p q r s)) ∧ Ext w w' := by
  rcases hJ : jointV a b c d p q r s with ⟨⟨j1, j2⟩, ⟨j3, j4⟩, ⟨j5, j6⟩, ok⟩
  have HJ := Lib.hid hJ
  have hf : fitB a b c d p q r s = if eqEd a b c d r s p q = true then true else if eqEd a b c d p q r s = true then false else if ok = true then !onW j1 j2 j3 j4 j5 j6 && !onW j1 j2 j5 j6 j3 j4 else !crossW a b c d p q r s := by
    unfold fitB; rw [hJ]
  have HF := Lib.hid hf
  clear hJ hf
  go_enter Tryz.func194, Tryz.ntmps194
  go_wp2
  (refine wp_region_ext (by kernel_rfl) (by kernel_rfl) ?_; (repeat (go_big_quiet_step ((go_at_call 227; exact Calls_ext (i_back _ _ _ _ _))))); refine wpQuiet_nil ?_; intro wq hxwq; obtain ⟨hcwq, hfwq⟩ := hxwq.rules; have hswq := hxwq.size; (try simp at hswq))
  have b0 : Blk wq w.heap.size 195 #[.int .i64 a, .int .i64 b, .int .i64 c, .int .i64 d] := by (repeat (first | with_reducible assumption | ((with_reducible apply Blk.new); solve | simp | rfl) | with_reducible apply Blk.drew | with_reducible apply Blk.drewN | ((with_reducible apply Blk.far'); solve | omega | simp | (simp; omega)) | with_reducible apply Blk.set_ | with_reducible apply Blk.alloc | ((with_reducible apply Blk.ext'); with_reducible assumption) | ((with_reducible apply Blk.but'); (with_reducible assumption); solve | omega | (simp; omega))))
  have b1 : Blk wq (w.heap.size + 1) 195 #[.int .i64 p, .int .i64 q, .int .i64 r, .int .i64 s] := by (repeat (first | with_reducible assumption | ((with_reducible apply Blk.new); solve | simp | rfl) | with_reducible apply Blk.drew | with_reducible apply Blk.drewN | ((with_reducible apply Blk.far'); solve | omega | simp | (simp; omega)) | with_reducible apply Blk.set_ | with_reducible apply Blk.alloc | ((with_reducible apply Blk.ext'); with_reducible assumption) | ((with_reducible apply Blk.but'); (with_reducible assumption); solve | omega | (simp; omega))))
  have hwq : Ext w wq := by (repeat (first | with_reducible exact Ext.refl _ | with_reducible assumption | ((with_reducible apply Src.ext); with_reducible assumption) | with_reducible refine Ext.alloc ?_ _ | with_reducible refine Ext.drew ?_ | with_reducible refine Ext.drewN ?_ _ | ((with_reducible refine Ext.setCell' ?_ ?_ _); solve | omega | simp | (simp; omega)) | (with_reducible refine Ext.trans ?_ (by with_reducible assumption))))
  have x0 : wq.cell? ⟨w.heap.size, 0, none⟩ = some (.int .i64 a) := b0.cell 0
  have x1 : wq.cell? ⟨w.heap.size, 1, none⟩ = some (.int .i64 b) := b0.cell 1
  have x2 : wq.cell? ⟨w.heap.size, 2, none⟩ = some (.int .i64 c) := b0.cell 2
  have x3 : wq.cell? ⟨w.heap.size, 3, none⟩ = some (.int .i64 d) := b0.cell 3
  have y0 : wq.cell? ⟨w.heap.size + 1, 0, none⟩ = some (.int .i64 p) := b1.cell 0
  have y1 : wq.cell? ⟨w.heap.size + 1, 1, none⟩ = some (.int .i64 q) := b1.cell 1
  have y2 : wq.cell? ⟨w.heap.size + 1, 2, none⟩ = some (.int .i64 r) := b1.cell 2
  have y3 : wq.cell? ⟨w.heap.size + 1, 3, none⟩ = some (.int .i64 s) := b1.cell 3
  have l0 := b0.lt
  have l1 := b1.lt
  clear hcwq hfwq hswq hxwq
  have NEQ : ∀ H : Nat, w.heap.size + 1 < H → (¬ w.heap.size = H ∧ ¬ w.heap.size = H + 1 ∧ ¬ w.heap.size = H + 1 + 1 ∧ ¬ w.heap.size + 1 = H ∧ ¬ w.heap.size + 1 = H + 1 ∧ ¬ w.heap.size + 1 = H + 1 + 1) ∧ (¬ H = w.heap.size ∧ ¬ H + 1 = w.heap.size ∧ ¬ H + 1 + 1 = w.heap.size ∧ ¬ H = w.heap.size + 1 ∧ ¬ H + 1 = w.heap.size + 1 ∧ ¬ H + 1 + 1 = w.heap.size + 1) := fun H hH => by omega
  have HNE := Lib.hid NEQ
  clear NEQ
  go_wp2_with (first | ((go_at_call 228; refine (i_joint' HJ.out _).mono ?_; rintro e w3 ⟨rfl, hx3⟩; obtain ⟨hc3, hf3⟩ := hx3.rules; have hs3 := hx3.size; (try simp at hs3); have := (show w.heap.size < w3.heap.size from by omega); have := (show w.heap.size + 1 < w3.heap.size from by omega)); obtain ⟨⟨n1, n2, n3, n4, n5, n6⟩, ⟨m1, m2, m3, m4, m5, m6⟩⟩ := HNE.out w3.heap.size (by omega); have := (show w.heap.size < w3.heap.size + 1 from by omega); have := (show w.heap.size < w3.heap.size + 1 + 1 from by omega); have := (show w.heap.size + 1 < w3.heap.size + 1 from by omega); have := (show w.heap.size + 1 < w3.heap.size + 1 + 1 from by omega)) | (go_at_call 139; refine (i_doCross _ _ _ _ _ _ _ _ _).mono ?_; rintro e w4 ⟨rfl, hx4⟩; obtain ⟨hc4, hf4⟩ := hx4.rules; have hs4 := hx4.size; (try simp at hs4)) | (go_at_call 164; refine (i_isOn _ _ _ _ _ _ _).mono ?_; rintro e w5 ⟨rfl, hx5⟩; obtain ⟨hc5, hf5⟩ := hx5.rules; have hs5 := hx5.size; (try simp at hs5); have := (show w3.heap.size < w5.heap.size from by omega); have := (show w3.heap.size + 1 < w5.heap.size from by omega); have := (show w3.heap.size + 1 + 1 < w5.heap.size from by omega)))
  all_goals go_ret
  all_goals refine ⟨?_, by (repeat (first | with_reducible exact Ext.refl _ | with_reducible assumption | ((with_reducible apply Src.ext); with_reducible assumption) | with_reducible refine Ext.alloc ?_ _ | with_reducible refine Ext.drew ?_ | with_reducible refine Ext.drewN ?_ _ | ((with_reducible refine Ext.setCell' ?_ ?_ _); solve | omega | simp | (simp; omega)) | (with_reducible refine Ext.trans ?_ (by with_reducible assumption))))⟩
  all_goals rw [HF.out]
  all_goals (cases ok <;> simp [*] <;> simp at *)

end Go.Proofs.YtdbheipjbjcikaaGreatDoor
