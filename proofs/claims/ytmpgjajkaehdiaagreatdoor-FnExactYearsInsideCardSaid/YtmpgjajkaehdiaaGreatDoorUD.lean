/- The library's iterator over a row of spans: turned from the kit's worked text on rows of ints. -/
import Derived.RangeFuncNested
import Derived.RangeFuncBound
import Derived.RangeFuncBox
import Derived.RangeFuncCalls
import Derived.RangeFuncLeaves
import Derived.Shelf.Abstract
import Derived.Shelf.RegionOpen
import Derived.WalkKit
import Derived.OwnWalkIn
import Derived.TacticsInMore
import Derived.LoopNIn
import Derived.LoopIn
import Derived.Test.YtmpgjajkaehdiaaGreatDoorUS
namespace Go.Proofs.YtmpgjajkaehdiaaGreatDoor
open Go.RowKit Go.Shelf
attribute [local go_sem] Oper.semAt_some

/-- a span as one value -/
def agS (s : Sn) : Value := .agg #[.int .i64 s.1, .int .i64 s.2]
theorem take_succ_sn (S : List Sn) {k : Nat} (hk : k < S.length) : S.take (k + 1) = S.take k ++ [S.getD k (0, 0)] := by
  rw [List.take_succ_eq_append_getElem hk, show S.getD k (0, 0) = S[k] by simp [List.getD, hk]]
set_option maxRecDepth 100000 in
set_option maxHeartbeats 2000000 in
theorem val1_in (F : Fence) (n : Nat) (h7 : F.fn 121) (hro : F.round = none) (hn : 1 ≤ n) (l Bs n₀ b len cap : Nat) (A : Option Addr) (S : List Sn) (hlen : len = S.length) (hA : 0 < len → A = some ⟨b, 0, none⟩) (hreach : len ≤ 1000000) (hb : 0 < len → b < n₀) (J Jx : List Sn → World → Prop)
    (hY : ∀ pre x W, J pre W → pre.length < len → YieldAt F (n - 1) Tryz.prog l #[agS x] W fun e W' =>
      (e = .returned (.bool true) ∧ J (pre ++ [x]) W' ∧ Below n₀ W W') ∨ (e = .returned (.bool false) ∧ Jx (pre ++ [x]) W'))
    (W : World) (hJ : AbidesFrom W.heap.size J) (hn0 : n₀ ≤ W.heap.size) (hBs : W.cell? ⟨Bs, 0, none⟩ = some (.slice A len cap))
    (hc : ∀ j, j < len → W.cell? ⟨b, j * 2, none⟩ = some (.int .i64 (S.getD j (0, 0)).1) ∧ W.cell? ⟨b, j * 2 + 1, none⟩ = some (.int .i64 (S.getD j (0, 0)).2)) (h0 : J [] W) :
    CallsIn F n Tryz.prog 121 #[.func (.yield l) #[] #[], .pointer (some ⟨Bs, 0, none⟩)] W fun e W' => (∃ v, e = .returned v) ∧
      (J S W' ∨ (∃ pre, Jx pre W')) := by
  refine callsIn_of_wp Tryz.func121 rfl h7 ?_ hro
  simp only [Tryz.ntmps121, List.size_toArray, List.length_cons, List.length_nil, Nat.reduceAdd, Nat.reduceSub, Array.replicate_succ, Array.replicate_zero, List.push_toArray, List.append_toArray, List.nil_append, List.cons_append]
  have HA := Lib.hid hA
  have HB := Lib.hid hb
  clear hA hb
  gi_wp2
  gi_loopw [7] (fun i wr => ∃ k : Nat, k ≤ len ∧ i = .int .i64 k ∧ J (S.take k) wr ∧ Below n₀ W wr)
    (fun i _ => len - (intOf i).toNat)
  case atStart => exact ⟨0, Nat.zero_le _, rfl, h0, Below.refl _ _⟩
  case round =>
    obtain ⟨k, hk, rfl, hJs, hnx⟩ := hrel
    by_cases hlt : k < len
    · obtain rfl := HA.out (by omega)
      have hb := HB.out (by omega)
      obtain ⟨s, hs⟩ : ∃ s, s = S.getD k (0, 0) := ⟨_, rfl⟩
      have hcx := hc k hlt
      have hcx1 := (hnx.cell (p := ⟨b, k * 2, none⟩) hb).trans hcx.1
      have hcx2 := (hnx.cell (p := ⟨b, k * 2 + 1, none⟩) hb).trans hcx.2
      rw [← hs] at hcx1 hcx2
      have htk : S.take (k + 1) = S.take k ++ [s] := by rw [hs]; exact take_succ_sn S (by omega)
      have HTK := Lib.hid htk
      have hsz := hnx.size
      have hJ2 : J (S.take k) (wr.alloc (.cells #[.int .i64 s.1, .int .i64 s.2] 55)) := hJ _ _ _ none hJs (World.grownBy_alloc _ _ none) (fun r e => by cases e)
      obtain ⟨fn, tmps, assign, body, hy, hR⟩ := hY _ s _ hJ2 (by rw [List.length_take]; omega)
      unfold agS at hy
      clear htk hs hcx
      gi_wp2
      refine hR.mono ?_
      rintro e W3 (⟨rfl, hJ3, hk3⟩ | ⟨rfl, hJx3⟩)
      · gi_wp2
        go_roundw
        case rel => exact ⟨k + 1, by omega, by simp, by rw [HTK.out]; exact hJ3, (hnx.alloc (by omega) _).trans hk3⟩
        case measure => simp [intOf]; omega
      · gi_wp2
        refine bodyPost_ret (results_none rfl _ _ _) rfl ?_
        exact ⟨⟨_, rfl⟩, .inr ⟨_, hJx3⟩⟩
    · obtain rfl : k = len := by omega
      gi_wp2
      go_end0
      exact ⟨⟨_, rfl⟩, .inl (by rw [hlen, List.take_length] at hJs; exact hJs)⟩
end Go.Proofs.YtmpgjajkaehdiaaGreatDoor
