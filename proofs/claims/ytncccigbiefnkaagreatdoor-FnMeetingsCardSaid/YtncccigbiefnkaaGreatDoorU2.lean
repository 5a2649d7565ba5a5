/- The library's iterator over a row of spans: turned from the kit's worked text on rows of ints. Spans collected from the library's iterator: AppendSeq, Collect, Values. -/
import Derived.RangeFuncNested
import Derived.RangeFuncBound
import Derived.RangeFuncBox
import Derived.RangeFuncCalls
import Derived.RangeFuncLeaves
import Derived.Shelf.Abstract
import Derived.Shelf.RegionOpen
import Derived.WalkKit
import Derived.OwnWalkIn
import Derived.TacticsInMore
import Derived.LoopNIn
import Derived.LoopIn
import Derived.Test.YtncccigbiefnkaaGreatDoorU1
import Derived.RangeFuncWrites
import Derived.Maps.AppendAt
namespace Go.Proofs.YtncccigbiefnkaaGreatDoor
open Go.RowKit Go.Shelf
attribute [local go_sem] Oper.semAt_some

/-- a span as one value -/
def agS (s : Sn) : Value := .agg #[.int .i64 s.1, .int .i64 s.2]
theorem take_succ_sn (S : List Sn) {k : Nat} (hk : k < S.length) : S.take (k + 1) = S.take k ++ [S.getD k (0, 0)] := by
  rw [List.take_succ_eq_append_getElem hk, show S.getD k (0, 0) = S[k] by simp [List.getD, hk]]
set_option maxRecDepth 100000 in
set_option maxHeartbeats 2000000 in
theorem val1_in (F : Fence) (n : Nat) (h7 : F.fn 219) (hro : F.round = none) (hn : 1 ≤ n) (l Bs n₀ b len cap : Nat) (A : Option Addr) (S : List Sn) (hlen : len = S.length) (hA : 0 < len → A = some ⟨b, 0, none⟩) (hreach : len ≤ 1000000) (hb : 0 < len → b < n₀) (J Jx : List Sn → World → Prop)
    (hY : ∀ pre x W, J pre W → pre.length < len → YieldAt F (n - 1) Tryz.prog l #[agS x] W fun e W' =>
      (e = .returned (.bool true) ∧ J (pre ++ [x]) W' ∧ Below n₀ W W') ∨ (e = .returned (.bool false) ∧ Jx (pre ++ [x]) W'))
    (W : World) (hJ : AbidesFrom W.heap.size J) (hn0 : n₀ ≤ W.heap.size) (hBs : W.cell? ⟨Bs, 0, none⟩ = some (.slice A len cap))
    (hc : ∀ j, j < len → W.cell? ⟨b, j * 2, none⟩ = some (.int .i64 (S.getD j (0, 0)).1) ∧ W.cell? ⟨b, j * 2 + 1, none⟩ = some (.int .i64 (S.getD j (0, 0)).2)) (h0 : J [] W) :
    CallsIn F n Tryz.prog 219 #[.func (.yield l) #[] #[], .pointer (some ⟨Bs, 0, none⟩)] W fun e W' => (∃ v, e = .returned v) ∧
      (J S W' ∨ (∃ pre, Jx pre W')) := by
  refine callsIn_of_wp Tryz.func219 rfl h7 ?_ hro
  simp only [Tryz.ntmps219, List.size_toArray, List.length_cons, List.length_nil, Nat.reduceAdd, Nat.reduceSub, Array.replicate_succ, Array.replicate_zero, List.push_toArray, List.append_toArray, List.nil_append, List.cons_append]
  have HA := Lib.hid hA
  have HB := Lib.hid hb
  clear hA hb
  gi_wp2
  gi_loopw [7] (fun i wr => ∃ k : Nat, k ≤ len ∧ i = .int .i64 k ∧ J (S.take k) wr ∧ Below n₀ W wr)
    (fun i _ => len - (intOf i).toNat)
  case atStart => exact ⟨0, Nat.zero_le _, rfl, h0, Below.refl _ _⟩
  case round =>
    obtain ⟨k, hk, rfl, hJs, hnx⟩ := hrel
    by_cases hlt : k < len
    · obtain rfl := HA.out (by omega)
      have hb := HB.out (by omega)
      obtain ⟨s, hs⟩ : ∃ s, s = S.getD k (0, 0) := ⟨_, rfl⟩
      have hcx := hc k hlt
      have hcx1 := (hnx.cell (p := ⟨b, k * 2, none⟩) hb).trans hcx.1
      have hcx2 := (hnx.cell (p := ⟨b, k * 2 + 1, none⟩) hb).trans hcx.2
      rw [← hs] at hcx1 hcx2
      have htk : S.take (k + 1) = S.take k ++ [s] := by rw [hs]; exact take_succ_sn S (by omega)
      have HTK := Lib.hid htk
      have hsz := hnx.size
      have hJ2 : J (S.take k) (wr.alloc (.cells #[.int .i64 s.1, .int .i64 s.2] 82)) := hJ _ _ _ none hJs (World.grownBy_alloc _ _ none) (fun r e => by cases e)
      obtain ⟨fn, tmps, assign, body, hy, hR⟩ := hY _ s _ hJ2 (by rw [List.length_take]; omega)
      unfold agS at hy
      clear htk hs hcx
      gi_wp2
      refine hR.mono ?_
      rintro e W3 (⟨rfl, hJ3, hk3⟩ | ⟨rfl, hJx3⟩)
      · gi_wp2
        go_roundw
        case rel => exact ⟨k + 1, by omega, by simp, by rw [HTK.out]; exact hJ3, (hnx.alloc (by omega) _).trans hk3⟩
        case measure => simp [intOf]; omega
      · gi_wp2
        refine bodyPost_ret (results_none rfl _ _ _) rfl ?_
        exact ⟨⟨_, rfl⟩, .inr ⟨_, hJx3⟩⟩
    · obtain rfl : k = len := by omega
      gi_wp2
      go_end0
      exact ⟨⟨_, rfl⟩, .inl (by rw [hlen, List.take_length] at hJs; exact hJs)⟩
end Go.Proofs.YtncccigbiefnkaaGreatDoor
namespace Go.Proofs.YtncccigbiefnkaaGreatDoor
open Go.RowKit Go.Shelf
attribute [local go_sem] Oper.semAt_some

theorem val_stops (F : Fence) (n : Nat) (h7 : F.fn 219) (hro : F.round = none) (hn : 1 ≤ n) (Bs n₀ b cap : Nat) (A : Option Addr) (S : List Sn) (hA : 0 < S.length → A = some ⟨b, 0, none⟩) (hreach : S.length ≤ 1000000) (w : World) (hBs : Bs < w.heap.size) (hn₀ : n₀ ≤ w.heap.size) (hb : 0 < S.length → b < n₀)
    (hc : w.cell? ⟨Bs, 0, none⟩ = some (.slice A S.length cap))
    (hcs : ∀ j, j < S.length → w.cell? ⟨b, j * 2, none⟩ = some (.int .i64 (S.getD j (0, 0)).1) ∧ w.cell? ⟨b, j * 2 + 1, none⟩ = some (.int .i64 (S.getD j (0, 0)).2)) :
    SeqStopsK F n Tryz.prog 219 #[.pointer (some ⟨Bs, 0, none⟩)] (fun x : Sn => #[agS x]) (Below n₀) (fun ys => ys = S) (fun _ => True) S.length w := fun l J Jx W hW hJ _ hY h0 => by
  refine (val1_in F n h7 hro hn l Bs n₀ b S.length cap A S rfl hA hreach hb J Jx hY W hJ (Nat.le_trans hn₀ hW.size) ((hW.cell (p := ⟨Bs, 0, none⟩) hBs).trans hc)
    (fun j hj => ⟨(hW.cell (p := ⟨b, j * 2, none⟩) (Nat.lt_of_lt_of_le (hb (by omega)) hn₀)).trans (hcs j hj).1, (hW.cell (p := ⟨b, j * 2 + 1, none⟩) (Nat.lt_of_lt_of_le (hb (by omega)) hn₀)).trans (hcs j hj).2⟩) h0).mono ?_
  rintro e W' ⟨he, hj | ⟨pre, hj⟩⟩
  · exact ⟨he, .inl ⟨S, rfl, hj⟩⟩
  · exact ⟨he, .inr ⟨pre, trivial, hj⟩⟩
theorem infoSn : (Tryz.prog.info? 82).map (fun i => (i.zero, i.size, i.bytes)) = some (some (.agg #[.int .i64 0, .int .i64 0]), 2, 16) := by kernel_rfl
/-- a loop's variable: a block of its own that holds a span -/
def BoxS (W : World) (B : Nat) (x : Sn) : Prop := W.heap[B]? = some (.cells #[.int .i64 x.1, .int .i64 x.2] 82 (0, 0))
theorem BoxS.lt {W : World} {B : Nat} {x : Sn} (h : BoxS W B x) : B < W.heap.size := (Array.getElem?_eq_some_iff.1 h).1
theorem cell_two_new (w : World) (x y : Value) (t : TypeId) : ∀ j u, [x, y][j]? = some u → (w.alloc (.cells #[x, y] t)).cell? ((⟨w.heap.size, 0, none⟩ : Addr).add j) = some u := by
  intro j u hj
  have hB := Blk.new (cs := #[x, y]) (t := t) (w := w) rfl
  match j, hj with
  | 0, hj =>
    have h0 := hB.cell 0
    obtain rfl : x = u := by simpa using hj
    exact h0
  | 1, hj =>
    have h0 := hB.cell 1
    obtain rfl : y = u := by simpa using hj
    exact h0
  | k + 2, hj => simp at hj
set_option maxRecDepth 100000 in
set_option maxHeartbeats 2000000 in
theorem apS_in (F : Fence) (n : Nat) (h1 : F.fn 270) (h7 : F.fn 219) (hro : F.round = none) (hn : 3 ≤ n) (Bs b cap : Nat) (A : Option Addr) (S : List Sn) (hA : 0 < S.length → A = some ⟨b, 0, none⟩) (hreach : S.length ≤ 1000000) (w : World) (hBs : Bs < w.heap.size) (hb : 0 < S.length → b < w.heap.size)
    (hc : w.cell? ⟨Bs, 0, none⟩ = some (.slice A S.length cap))
    (hcs : ∀ j, j < S.length → w.cell? ⟨b, j * 2, none⟩ = some (.int .i64 (S.getD j (0, 0)).1) ∧ w.cell? ⟨b, j * 2 + 1, none⟩ = some (.int .i64 (S.getD j (0, 0)).2)) :
    CallsIn F n Tryz.prog 270 #[.slice none 0 0, .func (.func 219) #[] #[.pointer (some ⟨Bs, 0, none⟩)]] w fun e w' => ∃ v, e = .returned v ∧ w'.ownsRow w.heap.size 82 2 v S.length (S.flatMap encSn) ∧ Below w.heap.size w w' := by
  have hn1 : 1 ≤ n := by omega
  obtain ⟨i0, hi, hz0, hz1, hz2⟩ := info_parts infoSn
  refine callsIn_of_wp_marks Tryz.func270 rfl h1 ?_ hro
  simp only [Tryz.ntmps270, List.size_toArray, List.length_cons, List.length_nil, Nat.reduceAdd, Nat.reduceSub, Array.replicate_succ, Array.replicate_zero, List.push_toArray, List.append_toArray, List.nil_append, List.cons_append]
  gi_wp2
  have bO := Boxed.new w 27 (.slice none 0 0)
  have hB0 : Below w.heap.size w (w.alloc (.cells #[.slice none 0 0] 27)) := (Below.refl _ w).alloc (Nat.le_refl _) _
  refine wpIn_rangeFunc_ownH hro hn1 (gf := 219) (lb := #[.pointer (some ⟨Bs, 0, none⟩)]) rfl h7 (enters_of Tryz.func219 (by kernel_rfl) rfl)
    (val_stops F (n - 1) h7 hro (by omega) Bs w.heap.size b cap A S hA hreach (w.alloc (.cells #[.slice none 0 0] 27)) (by simp; omega) (by simp) hb ((hB0.cell (p := ⟨Bs, 0, none⟩) hBs).trans hc)
      (fun j hj => ⟨(hB0.cell (p := ⟨b, j * 2, none⟩) (hb (by omega))).trans (hcs j hj).1, (hB0.cell (p := ⟨b, j * 2 + 1, none⟩) (hb (by omega))).trans (hcs j hj).2⟩)) belowK_t (belowK_b (by simp)) (Below.refl _ _) (fun _ => rfl)
    (fun pre W => (∃ v, Boxed W w.heap.size 27 v ∧ W.ownsRow w.heap.size 82 2 v pre.length (pre.flatMap encSn) ∧ True) ∧ Below w.heap.size w W)
    (fun _ _ _ => False)
    (OwnFrom.and (Own.from (holdsRow_own w.heap.size w.heap.size 27 82 2 (fun (pre : List Sn) => pre.length) (fun (pre : List Sn) => pre.flatMap encSn) (fun _ _ => True)) _) (ownFrom_below (Nat.le_refl _) (by simp)))
    (fun _ _ _ _ _ hs _ _ => hs)
    ⟨⟨_, bO, World.ownsRow_nil _ _ _ _, trivial⟩, hB0⟩
    (fun x a' W => ∃ Bx, w.heap.size < Bx ∧ BoxS W Bx x ∧ a' = { tmps := #[.slice none 0 0, .func (.func 219) #[] #[.pointer (some ⟨Bs, 0, none⟩)], .pointer (some ⟨w.heap.size, 0, none⟩), undef, .slice none 0 0, .pointer (some ⟨Bx, 0, none⟩), .func (.func 219) #[] #[.pointer (some ⟨Bs, 0, none⟩)], agS x, undef, undef, undef, undef, undef], defers := [] })
    (fun x a' _ X Y row hs hg hr => by
      obtain ⟨Bx, e1, e2, e3⟩ := hs
      exact ⟨Bx, e1, (hg.block Bx e2.lt (fun e => by obtain ⟨_, o, ho, hc⟩ := hr Bx e.symm; rw [show X.heap[Bx]? = _ from e2] at ho; cases ho; cases hc)).trans e2, e3⟩)
    ?assign ?body ?done ?stop
  case assign =>
    rintro l pre x W K ⟨⟨v, hv, hrow, _⟩, hB⟩ hK
    simp only [agS]
    gi_wp2
    exact hK _ _ ((KeepsOthers.alloc _ _).from _) ((Below.refl _ W).alloc hB.size _) ⟨⟨v, hv.alloc _, hrow.alloc _, trivial⟩, hB.alloc hB.size _⟩ ⟨W.heap.size, hv.lt, World.alloc_heap_new W _, rfl⟩
  case body =>
    rintro l pre x a' W hl ⟨r, hr⟩ ⟨⟨v, hv, hrow, _⟩, hB⟩ ⟨Bx, hBx, bX, rfl⟩ hlt
    have hcv := hv.cell
    have cX0 : W.cell? ⟨Bx, 0, none⟩ = some (.int .i64 x.1) := by simp [World.cell?, show W.heap[Bx]? = _ from bX]
    have cX1 : W.cell? ⟨Bx, 1, none⟩ = some (.int .i64 x.2) := by simp [World.cell?, show W.heap[Bx]? = _ from bX]
    gi_wp2_with (gi_at_builtin; refine wpListIn_append_own _ rfl _ _ 27 rfl w.heap.size 82 i0 (.agg #[.int .i64 0, .int .i64 0]) 2 16 Tryz.underlying27 hi hz0 hz1 hz2 rfl (by decide) _ _ _ rfl (hrow.alloc _) ⟨W.heap.size, 0, none⟩ 1 1 [.int .i64 x.1, .int .i64 x.2] rfl rfl (cell_two_new _ _ _ _) (by simp [Value.oneCell']) (by unfold maxLen; omega) (by omega) (by have := hB.size; simp; omega) ?_; intro v' w1 hown' hgrow _; obtain ⟨g', cap', rfl⟩ := ownsRow_succ hown'; obtain ⟨hv1, hv2, hr2, hk2, hb2⟩ := hv.appended (by decide) hrow hB.size (Nat.le_refl _) hown' hgrow; have hc1 := hv1.cell; have hf1 := hv1.frozen)
    exact ⟨hk2.from _, hb2, ⟨_, hv2, by rw [List.length_append, List.flatMap_append]; simpa [encSn] using hr2, trivial⟩, hB.trans hb2⟩
  case done =>
    rintro D ys W hD rfl ⟨⟨v, hv, hrow, _⟩, hB⟩ hK
    have hcv := hv.cell
    gi_wp2
    refine ⟨by simp, .inl ⟨_, _, rfl, run_takeDeferred hK, ?_⟩⟩
    exact ⟨_, results_tmp rfl _ _ _, v, rfl, ownsRow_putObj hrow _ hK rfl, hB.trans (belowK_b (w := w) (Nat.le_refl _) W D _ _ (by simp at hD; omega) hK rfl rfl)⟩
  case stop =>
    rintro D c pre W _ _ h _
    exact h.elim
end Go.Proofs.YtncccigbiefnkaaGreatDoor
