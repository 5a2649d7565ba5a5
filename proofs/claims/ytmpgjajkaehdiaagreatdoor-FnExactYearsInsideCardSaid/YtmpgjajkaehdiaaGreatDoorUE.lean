/- Spans collected from the library's iterator: AppendSeq, Collect, Values. -/
import Derived.Test.YtmpgjajkaehdiaaGreatDoorUD
import Derived.RangeFuncWrites
import Derived.Maps.AppendAt
namespace Go.Proofs.YtmpgjajkaehdiaaGreatDoor
open Go.RowKit Go.Shelf
attribute [local go_sem] Oper.semAt_some

theorem val_stops (F : Fence) (n : Nat) (h7 : F.fn 121) (hro : F.round = none) (hn : 1 ≤ n) (Bs n₀ b cap : Nat) (A : Option Addr) (S : List Sn) (hA : 0 < S.length → A = some ⟨b, 0, none⟩) (hreach : S.length ≤ 1000000) (w : World) (hBs : Bs < w.heap.size) (hn₀ : n₀ ≤ w.heap.size) (hb : 0 < S.length → b < n₀)
    (hc : w.cell? ⟨Bs, 0, none⟩ = some (.slice A S.length cap))
    (hcs : ∀ j, j < S.length → w.cell? ⟨b, j * 2, none⟩ = some (.int .i64 (S.getD j (0, 0)).1) ∧ w.cell? ⟨b, j * 2 + 1, none⟩ = some (.int .i64 (S.getD j (0, 0)).2)) :
    SeqStopsK F n Tryz.prog 121 #[.pointer (some ⟨Bs, 0, none⟩)] (fun x : Sn => #[agS x]) (Below n₀) (fun ys => ys = S) (fun _ => True) S.length w := fun l J Jx W hW hJ _ hY h0 => by
  refine (val1_in F n h7 hro hn l Bs n₀ b S.length cap A S rfl hA hreach hb J Jx hY W hJ (Nat.le_trans hn₀ hW.size) ((hW.cell (p := ⟨Bs, 0, none⟩) hBs).trans hc)
    (fun j hj => ⟨(hW.cell (p := ⟨b, j * 2, none⟩) (Nat.lt_of_lt_of_le (hb (by omega)) hn₀)).trans (hcs j hj).1, (hW.cell (p := ⟨b, j * 2 + 1, none⟩) (Nat.lt_of_lt_of_le (hb (by omega)) hn₀)).trans (hcs j hj).2⟩) h0).mono ?_
  rintro e W' ⟨he, hj | ⟨pre, hj⟩⟩
  · exact ⟨he, .inl ⟨S, rfl, hj⟩⟩
  · exact ⟨he, .inr ⟨pre, trivial, hj⟩⟩
theorem infoSn : (Tryz.prog.info? 55).map (fun i => (i.zero, i.size, i.bytes)) = some (some (.agg #[.int .i64 0, .int .i64 0]), 2, 16) := by kernel_rfl
/-- a loop's variable: a block of its own that holds a span -/
def BoxS (W : World) (B : Nat) (x : Sn) : Prop := W.heap[B]? = some (.cells #[.int .i64 x.1, .int .i64 x.2] 55 (0, 0))
theorem BoxS.lt {W : World} {B : Nat} {x : Sn} (h : BoxS W B x) : B < W.heap.size := (Array.getElem?_eq_some_iff.1 h).1
theorem cell_two_new (w : World) (x y : Value) (t : TypeId) : ∀ j u, [x, y][j]? = some u → (w.alloc (.cells #[x, y] t)).cell? ((⟨w.heap.size, 0, none⟩ : Addr).add j) = some u := by
  intro j u hj
  have hB := Blk.new (cs := #[x, y]) (t := t) (w := w) rfl
  match j, hj with
  | 0, hj =>
    have h0 := hB.cell 0
    obtain rfl : x = u := by simpa using hj
    exact h0
  | 1, hj =>
    have h0 := hB.cell 1
    obtain rfl : y = u := by simpa using hj
    exact h0
  | k + 2, hj => simp at hj
set_option maxRecDepth 100000 in
set_option maxHeartbeats 2000000 in
theorem apS_in (F : Fence) (n : Nat) (h1 : F.fn 139) (h7 : F.fn 121) (hro : F.round = none) (hn : 3 ≤ n) (Bs b cap : Nat) (A : Option Addr) (S : List Sn) (hA : 0 < S.length → A = some ⟨b, 0, none⟩) (hreach : S.length ≤ 1000000) (w : World) (hBs : Bs < w.heap.size) (hb : 0 < S.length → b < w.heap.size)
    (hc : w.cell? ⟨Bs, 0, none⟩ = some (.slice A S.length cap))
    (hcs : ∀ j, j < S.length → w.cell? ⟨b, j * 2, none⟩ = some (.int .i64 (S.getD j (0, 0)).1) ∧ w.cell? ⟨b, j * 2 + 1, none⟩ = some (.int .i64 (S.getD j (0, 0)).2)) :
    CallsIn F n Tryz.prog 139 #[.slice none 0 0, .func (.func 121) #[] #[.pointer (some ⟨Bs, 0, none⟩)]] w fun e w' => ∃ v, e = .returned v ∧ w'.ownsRow w.heap.size 55 2 v S.length (S.flatMap encSn) ∧ Below w.heap.size w w' := by
  have hn1 : 1 ≤ n := by omega
  obtain ⟨i0, hi, hz0, hz1, hz2⟩ := info_parts infoSn
  refine callsIn_of_wp_marks Tryz.func139 rfl h1 ?_ hro
  simp only [Tryz.ntmps139, List.size_toArray, List.length_cons, List.length_nil, Nat.reduceAdd, Nat.reduceSub, Array.replicate_succ, Array.replicate_zero, List.push_toArray, List.append_toArray, List.nil_append, List.cons_append]
  gi_wp2
  have bO := Boxed.new w 27 (.slice none 0 0)
  have hB0 : Below w.heap.size w (w.alloc (.cells #[.slice none 0 0] 27)) := (Below.refl _ w).alloc (Nat.le_refl _) _
  refine wpIn_rangeFunc_ownH hro hn1 (gf := 121) (lb := #[.pointer (some ⟨Bs, 0, none⟩)]) rfl h7 (enters_of Tryz.func121 (by kernel_rfl) rfl)
    (val_stops F (n - 1) h7 hro (by omega) Bs w.heap.size b cap A S hA hreach (w.alloc (.cells #[.slice none 0 0] 27)) (by simp; omega) (by simp) hb ((hB0.cell (p := ⟨Bs, 0, none⟩) hBs).trans hc)
      (fun j hj => ⟨(hB0.cell (p := ⟨b, j * 2, none⟩) (hb (by omega))).trans (hcs j hj).1, (hB0.cell (p := ⟨b, j * 2 + 1, none⟩) (hb (by omega))).trans (hcs j hj).2⟩)) belowK_t (belowK_b (by simp)) (Below.refl _ _) (fun _ => rfl)
    (fun pre W => (∃ v, Boxed W w.heap.size 27 v ∧ W.ownsRow w.heap.size 55 2 v pre.length (pre.flatMap encSn) ∧ True) ∧ Below w.heap.size w W)
    (fun _ _ _ => False)
    (OwnFrom.and (Own.from (holdsRow_own w.heap.size w.heap.size 27 55 2 (fun (pre : List Sn) => pre.length) (fun (pre : List Sn) => pre.flatMap encSn) (fun _ _ => True)) _) (ownFrom_below (Nat.le_refl _) (by simp)))
    (fun _ _ _ _ _ hs _ _ => hs)
    ⟨⟨_, bO, World.ownsRow_nil _ _ _ _, trivial⟩, hB0⟩
    (fun x a' W => ∃ Bx, w.heap.size < Bx ∧ BoxS W Bx x ∧ a' = { tmps := #[.slice none 0 0, .func (.func 121) #[] #[.pointer (some ⟨Bs, 0, none⟩)], .pointer (some ⟨w.heap.size, 0, none⟩), undef, .slice none 0 0, .pointer (some ⟨Bx, 0, none⟩), .func (.func 121) #[] #[.pointer (some ⟨Bs, 0, none⟩)], agS x, undef, undef, undef, undef, undef], defers := [] })
    (fun x a' _ X Y row hs hg hr => by
      obtain ⟨Bx, e1, e2, e3⟩ := hs
      exact ⟨Bx, e1, (hg.block Bx e2.lt (fun e => by obtain ⟨_, o, ho, hc⟩ := hr Bx e.symm; rw [show X.heap[Bx]? = _ from e2] at ho; cases ho; cases hc)).trans e2, e3⟩)
    ?assign ?body ?done ?stop
  case assign =>
    rintro l pre x W K ⟨⟨v, hv, hrow, _⟩, hB⟩ hK
    simp only [agS]
    gi_wp2
    exact hK _ _ ((KeepsOthers.alloc _ _).from _) ((Below.refl _ W).alloc hB.size _) ⟨⟨v, hv.alloc _, hrow.alloc _, trivial⟩, hB.alloc hB.size _⟩ ⟨W.heap.size, hv.lt, World.alloc_heap_new W _, rfl⟩
  case body =>
    rintro l pre x a' W hl ⟨r, hr⟩ ⟨⟨v, hv, hrow, _⟩, hB⟩ ⟨Bx, hBx, bX, rfl⟩ hlt
    have hcv := hv.cell
    have cX0 : W.cell? ⟨Bx, 0, none⟩ = some (.int .i64 x.1) := by simp [World.cell?, show W.heap[Bx]? = _ from bX]
    have cX1 : W.cell? ⟨Bx, 1, none⟩ = some (.int .i64 x.2) := by simp [World.cell?, show W.heap[Bx]? = _ from bX]
    gi_wp2_with (gi_at_builtin; refine wpListIn_append_own _ rfl _ _ 27 rfl w.heap.size 55 i0 (.agg #[.int .i64 0, .int .i64 0]) 2 16 Tryz.underlying27 hi hz0 hz1 hz2 rfl (by decide) _ _ _ rfl (hrow.alloc _) ⟨W.heap.size, 0, none⟩ 1 1 [.int .i64 x.1, .int .i64 x.2] rfl rfl (cell_two_new _ _ _ _) (by simp [Value.oneCell']) (by unfold maxLen; omega) (by omega) (by have := hB.size; simp; omega) ?_; intro v' w1 hown' hgrow _; obtain ⟨g', cap', rfl⟩ := ownsRow_succ hown'; obtain ⟨hv1, hv2, hr2, hk2, hb2⟩ := hv.appended (by decide) hrow hB.size (Nat.le_refl _) hown' hgrow; have hc1 := hv1.cell; have hf1 := hv1.frozen)
    exact ⟨hk2.from _, hb2, ⟨_, hv2, by rw [List.length_append, List.flatMap_append]; simpa [encSn] using hr2, trivial⟩, hB.trans hb2⟩
  case done =>
    rintro D ys W hD rfl ⟨⟨v, hv, hrow, _⟩, hB⟩ hK
    have hcv := hv.cell
    gi_wp2
    refine ⟨by simp, .inl ⟨_, _, rfl, run_takeDeferred hK, ?_⟩⟩
    exact ⟨_, results_tmp rfl _ _ _, v, rfl, ownsRow_putObj hrow _ hK rfl, hB.trans (belowK_b (w := w) (Nat.le_refl _) W D _ _ (by simp at hD; omega) hK rfl rfl)⟩
  case stop =>
    rintro D c pre W _ _ h _
    exact h.elim
end Go.Proofs.YtmpgjajkaehdiaaGreatDoor
