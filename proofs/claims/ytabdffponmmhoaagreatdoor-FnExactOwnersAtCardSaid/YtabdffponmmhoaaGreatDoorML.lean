/- Contracts of the laws over lists of rings, walked over the translation. -/
import Derived.Test.YtabdffponmmhoaaGreatDoorMZ
import Derived.Deep.RegionHeld3
import Derived.Deep.DeepCutAuto
import Derived.RegionTactic
import Derived.BigRegion
import Derived.WalkLawsBesides
import Derived.WalkSpells
import Derived.Lib.MinMax
import Derived.Outline
namespace Go.Proofs.YtabdffponmmhoaaGreatDoor
open Go.RowKit
attribute [local go_sem] ExtOf.cell ExtOf.frozen

theorem l_szP (A : Option Addr) (n c : Nat) (left : Int) (w : World) (hn : n ≤ 9223372036854775807) (h0 : 0 ≤ left) (h1 : left ≤ 1048576) : Calls Tryz.prog 27 #[.slice A n c, .int .i64 left] w
    fun e w' => e = .returned (.int .i64 (szR left n)) ∧ w = w' := by
  go_enter Tryz.func27, Tryz.ntmps27
  go_wp2
  all_goals go_ret
  all_goals refine ⟨ret_int ?_, rfl⟩
  all_goals (unfold szR; first | rw [if_pos (by omega)] | rw [if_neg (by omega)])
/-- the lengths of the first k rings -/
def sumL (rs : List Rg) (k : Nat) : Int := tot (fun i => ((rs.getD i rgD).2.2.length : Int)) k
/-- what is known of a size that was reckoned over a list of rings -/
def SzOk (rs : List Rg) (z : Int) : Prop := z ≤ 1048576 ∧ (z = -1 ∨ (0 ≤ z ∧ rs.length ≤ 1048576 ∧ (∀ i, i < rs.length → (rs.getD i rgD).2.2.length ≤ 1048576) ∧ sumL rs rs.length ≤ 1048576))
set_option maxHeartbeats 3200000 in
theorem l_szPointSS (A : Option Addr) (c : Nat) (rs : List Rg) (left : Int) (w : World) (h : SlAt w 1 encR A rs) (hn : rs.length ≤ 9223372036854775807) (hr : ∀ i, i < rs.length → (rs.getD i rgD).2.2.length ≤ 9223372036854775807) (h0 : 0 ≤ left) (h1 : left ≤ 1048576) :
    Calls Tryz.prog 5 #[.slice A rs.length c, .int .i64 left] w fun e w' => (∃ z : Int, e = .returned (.int .i64 z) ∧ SzOk rs z) ∧ w = w' := by
  have HR := Lib.hid hr
  clear hr
  by_cases hc : left - (rs.length : Int) < 0
  · go_enter Tryz.func5, Tryz.ntmps5
    go_wp2
    go_ret
    exact ⟨⟨-1, rfl, by omega, .inl rfl⟩, rfl⟩
  · have hl : rs.length ≤ 1048576 := by omega
    go_enter Tryz.func5, Tryz.ntmps5
    go_wp2
    go_loop [1, 5] (fun l i => ∃ (k : Nat) (z : Int), k ≤ rs.length ∧ i = .int .i64 k ∧ l = .int .i64 z ∧ 0 ≤ z ∧ z ≤ 1048576 ∧ Hid (∀ i, i < k → (rs.getD i rgD).2.2.length ≤ 1048576) ∧ Hid (z = left - (rs.length : Int) - sumL rs k)) (fun _ i => rs.length - (intOf i).toNat)
    case atStart => exact ⟨0, left - rs.length, by omega, rfl, rfl, by omega, by omega, fun j hj => absurd hj (by omega), Lib.hid (by simp [sumL, tot])⟩
    case round =>
      obtain ⟨k, z, hk, rfl, rfl, hz0, hz1, HJ, HZ⟩ := hrel
      by_cases hlt : k < rs.length
      · obtain ⟨b, off, rfl, hb, hcell⟩ := h.rg hlt
        have hm := HR.out k hlt
        obtain ⟨r, hre⟩ : ∃ r, r = rs.getD k rgD := ⟨_, rfl⟩
        rw [← hre] at hcell hm
        have HRE := Lib.hid hre
        clear hre
        by_cases hz : z - (r.2.2.length : Int) < 0
        · have hs : szR z r.2.2.length = -1 := by unfold szR; rw [if_pos hz]
          have hcall := l_szP r.1 r.2.2.length r.2.1 z w hm hz0 hz1
          rw [hs] at hcall
          have HC := Lib.hid hcall
          clear hcall hs
          (go_wp2_with fail; refine (HC.out).mono ?_; rintro e w' ⟨rfl, rfl⟩)
          go_wp2
          go_ret
          exact ⟨⟨-1, rfl, by omega, .inl rfl⟩, rfl⟩
        · have hs : szR z r.2.2.length = z - (r.2.2.length : Int) := by unfold szR; rw [if_neg hz]
          have hcall := l_szP r.1 r.2.2.length r.2.1 z w hm hz0 hz1
          rw [hs] at hcall
          have HC := Lib.hid hcall
          have HJ2 := Lib.hid (upTo_succ HJ.out (show (rs.getD k rgD).2.2.length ≤ 1048576 by rw [← HRE.out]; omega))
          clear hcall hs
          (go_wp2_with fail; refine (HC.out).mono ?_; rintro e w' ⟨rfl, rfl⟩)
          go_wp2
          go_round
          case rel => exact ⟨k + 1, z - (r.2.2.length : Int), by omega, by go_num, rfl, by omega, by omega, HJ2, Lib.hid (by have := HZ.out; unfold sumL at *; rw [tot, ← HRE.out]; omega)⟩
          case measure => simp [intOf]; omega
      · obtain rfl : k = rs.length := by omega
        go_wp2
        go_ret
        exact ⟨⟨z, rfl, by omega, .inr ⟨hz0, hl, HJ.out, by have := HZ.out; omega⟩⟩, rfl⟩
/-- rings that lie in blocks of the call's own, one behind the other -/
def blkOf (r : Rg) : Nat := match r.1 with
  | some q => q.block
  | none => 0
def RgOwn (w : World) (base : Nat) (rs : List Rg) : Prop := ∀ k, k < rs.length → ∃ g cs, rs.getD k rgD = (some ⟨g, 0, none⟩, (rs.getD k rgD).2.2.length, (rs.getD k rgD).2.2) ∧ base < g ∧ Blk w g 35 cs ∧ cs.toList = (rs.getD k rgD).2.2.flatMap encP ∧ (∀ j, j < k → blkOf (rs.getD j rgD) < g) ∧ (rs.getD k rgD).2.2.length ≤ 1048576
theorem RgOwn.mono {w w' : World} {base : Nat} {rs : List Rg} (h : RgOwn w base rs) (hb : ∀ g t cs, base < g → Blk w g t cs → Blk w' g t cs) : RgOwn w' base rs := fun k hk => by
  obtain ⟨g, cs, a, b, c, d⟩ := h k hk
  exact ⟨g, cs, a, b, hb g _ cs b c, d⟩
theorem RgOwn.ext {w w' : World} {base : Nat} {rs : List Rg} (h : RgOwn w base rs) (hx : Ext w w') : RgOwn w' base rs := h.mono fun _ _ _ _ hB => hB.ext hx
theorem getD_snoc {α : Type} {xs : List α} {x d : α} {k : Nat} (hk : k < xs.length + 1) : (xs ++ [x]).getD k d = if k < xs.length then xs.getD k d else x := by
  split
  · rename_i h
    rw [List.getD_eq_getElem?_getD, List.getElem?_append_left h, ← List.getD_eq_getElem?_getD]
  · obtain rfl : k = xs.length := by omega
    simp [List.getD]
theorem RgOwn.snoc {w : World} {base g : Nat} {cs : Array Value} {rs : List Rg} {ps : List (Int × Int)} (h : RgOwn w base rs) (hg : base < g) (hB : Blk w g 35 cs) (hcs : cs.toList = ps.flatMap encP) (hlt : ∀ j, j < rs.length → blkOf (rs.getD j rgD) < g) (hl : ps.length ≤ 1048576) :
    RgOwn w base (rs ++ [(some ⟨g, 0, none⟩, ps.length, ps)]) := fun k hk => by
  rw [List.length_append, List.length_singleton] at hk
  rw [getD_snoc hk]
  split
  · rename_i hkl
    obtain ⟨g', cs', a, b, c, d, e, f⟩ := h k hkl
    exact ⟨g', cs', a, b, c, d, fun j hj => by rw [getD_snoc (by omega), if_pos (by omega)]; exact e j hj, f⟩
  · obtain rfl : k = rs.length := by omega
    exact ⟨g, cs, rfl, hg, hB, hcs, fun j hj => by rw [getD_snoc (by omega), if_pos hj]; exact hlt j hj, hl⟩
theorem RgOwn.rings {w : World} {base : Nat} {rs : List Rg} (h : RgOwn w base rs) : Rings w rs := fun r hr => by
  obtain ⟨k, hk, rfl⟩ := List.mem_iff_getElem.1 hr
  obtain ⟨g, cs, a, b, c, d, e, f⟩ := h k hk
  have hge : rs.getD k rgD = rs[k] := by simp [List.getD, hk]
  rw [hge] at a d f
  refine ⟨?_, ?_, f⟩
  · rw [a]; exact c.sl d len_encP
  · rw [a]; exact Nat.le_refl _
theorem RgOwn.blk_lt {w : World} {base : Nat} {rs : List Rg} (h : RgOwn w base rs) {k : Nat} (hk : k < rs.length) : blkOf (rs.getD k rgD) < w.heap.size ∧ base < blkOf (rs.getD k rgD) := by
  obtain ⟨g, cs, a, b, c, _⟩ := h k hk
  rw [a]
  exact ⟨c.lt, b⟩
/-- the first k elements of a row of slices have been written -/
def FillR (n : Nat) (rs : List Rg) (cs : Array Value) : Prop := cs.size = n ∧ ∀ q, q < rs.length → cs[q]? = some (.slice (rs.getD q rgD).1 (rs.getD q rgD).2.2.length (rs.getD q rgD).2.1)
theorem FillR.step {n : Nat} {rs : List Rg} {cs : Array Value} {r : Rg} (h : FillR n rs cs) (hl : rs.length < n) : FillR n (rs ++ [r]) (cs.setIfInBounds rs.length (.slice r.1 r.2.2.length r.2.1)) := by
  refine ⟨by simpa using h.1, fun q hq => ?_⟩
  rw [List.length_append, List.length_singleton] at hq
  rw [getD_snoc hq]
  split
  · rename_i hql
    rw [Array.getElem?_setIfInBounds_ne (by omega)]
    exact h.2 q hql
  · obtain rfl : q = rs.length := by omega
    rw [Array.getElem?_setIfInBounds_self_of_lt (by rw [h.1]; exact hl)]
theorem FillR.done {rs : List Rg} {cs : Array Value} (h : FillR rs.length rs cs) : cs.toList = rs.flatMap encR := by
  apply List.ext_getElem?
  intro i
  rcases Nat.lt_or_ge i rs.length with hi | hi
  · rw [Array.getElem?_toList, h.2 i hi]
    have hg : rs[i]? = some (rs.getD i rgD) := by simp [List.getD, hi]
    have := flatMap_at (enc := encR) (sz := 1) len_encR rs i _ 0 _ hg rfl
    rw [Nat.mul_one, Nat.add_zero] at this
    exact this.symm
  · rw [List.getElem?_eq_none (by rw [Array.length_toList, h.1]; exact hi), List.getElem?_eq_none (by rw [flatMap_len len_encR, Nat.mul_one]; exact hi)]
theorem elR : ElT Tryz.prog 31 63 1 24 := ElT.mk' (z := .slice none 0 0) Tryz.underlying31 (by kernel_rfl) rfl (by omega)
set_option maxHeartbeats 6400000 in
theorem l_toPointSS (A : Option Addr) (c : Nat) (rs : List Rg) (w : World) (h : SlAt w 1 encR A rs) (hr : ∀ i, i < rs.length → SlAt w 2 encP (rs.getD i rgD).1 (rs.getD i rgD).2.2) (hl : rs.length ≤ 1048576) (hs : ∀ i, i < rs.length → (rs.getD i rgD).2.2.length ≤ 1048576) :
    Calls Tryz.prog 8 #[.slice A rs.length c] w fun e w' => ∃ (rs' : List Rg) (cs : Array Value), e = .returned (.slice (some ⟨w.heap.size, 0, none⟩) rs.length rs.length) ∧ rs'.length = rs.length ∧ psOf rs' = psOf rs ∧ Blk w' w.heap.size 63 cs ∧ cs.toList = rs'.flatMap encR ∧ RgOwn w' w.heap.size rs' ∧ Ext w w' := by
  obtain ⟨hu, ⟨i0, z0, hi, hz, hz1, hz2, hz3⟩, _⟩ := elR
  have hzz : i0.zero = some (.slice none 0 0) := by
    have : (Tryz.prog.info? 63).map (fun i => i.zero) = some (some (.slice none 0 0)) := by kernel_rfl
    rw [hi] at this
    injection this
  have hmk : ∀ u : World, (Instr.makeSlice 31 (.int .i64 (rs.length : Int)) (.int .i64 (rs.length : Int))).run Tryz.prog u =
      .ok (.slice (some ⟨u.heap.size, 0, none⟩) rs.length rs.length) (u.alloc (.cells (madeCells #[.slice none 0 0] (rs.length * 1)) 63)) := fun u => by
    have h := run_make (P := Tryz.prog) u 31 63 i0 (.slice none 0 0) hu hi hzz .i64 .i64 (rs.length : Int) (rs.length : Int) (by omega) (Int.le_refl _) (by rw [hz2]; omega) (by omega)
    simpa [hz1, Value.cells] using h
  have HR := Lib.hid hr
  have HS := Lib.hid hs
  clear hr hs hz hz3
  go_enter Tryz.func8, Tryz.ntmps8
  go_wp2
  go_loopw [4] (fun i wr => ∃ (k : Nat) (q : List Rg) (cs : Array Value), k ≤ rs.length ∧ i = .int .i64 k ∧ q.length = k ∧ Hid (psOf q = (psOf rs).take k) ∧ Blk wr w.heap.size 63 cs ∧ Hid (FillR rs.length q cs) ∧ Hid (RgOwn wr w.heap.size q) ∧ Ext w wr) (fun i _ => rs.length - (intOf i).toNat)
  case atStart => exact ⟨0, [], _, Nat.zero_le _, rfl, rfl, rfl, Blk.new rfl, ⟨by simp [madeCells], fun q hq => absurd hq (by simp)⟩, fun k hk => absurd hk (by simp), by (repeat (first | with_reducible exact Ext.refl _ | with_reducible assumption | ((with_reducible apply Src.ext); with_reducible assumption) | with_reducible refine Ext.alloc ?_ _ | with_reducible refine Ext.drew ?_ | with_reducible refine Ext.drewN ?_ _ | ((with_reducible refine Ext.setCell' ?_ ?_ _); solve | omega | simp | (simp; omega)) | (with_reducible refine Ext.trans ?_ (by with_reducible assumption))))⟩
  case round =>
    obtain ⟨k, q, cs, hk, rfl, hq, HP, hB, HF, HO, hxr⟩ := hrel
    have HQ := Lib.hid hq
    clear hq
    by_cases hlt : k < rs.length
    · obtain ⟨b, off, rfl, hb, hcell⟩ := (h.ext hxr).rg hlt
      have hrk := (HR.out k hlt).ext hxr
      have hsk := HS.out k hlt
      obtain ⟨r, hre⟩ : ∃ r, r = rs.getD k rgD := ⟨_, rfl⟩
      rw [← hre] at hcell hrk hsk
      have HRE := Lib.hid hre
      clear hre
      obtain ⟨u, hu⟩ : ∃ u, cs[k]? = some u := ⟨_, Array.getElem?_eq_getElem (by rw [HF.out.1]; exact hlt)⟩
      have hcu := (hB.cell k).trans hu
      have hfu := hB.frozen k
      have hBl := hB.lt
      clear hu
      go_wp2_with fail
      refine (l_toPointS _ _ r.2.2 _ hrk hsk).mono ?_
      rintro e w1 ⟨cs1, rfl, hB1, hcs1, hx1⟩
      obtain ⟨hc1, hf1⟩ := hx1.rules
      have hs1 := hx1.size
      have hl1 : w.heap.size < w1.heap.size := by omega
      have HCS := Lib.hid hcs1
      clear hcs1
      go_wp2
      go_roundw
      case rel =>
        refine ⟨k + 1, q ++ [(some ⟨wr.heap.size, 0, none⟩, r.2.2.length, r.2.2)], _, by omega, by go_num, by rw [List.length_append, HQ.out]; rfl, ?_, Blk.eq ((hB.ext hx1).set_ _ _) rfl, ?_, ?_, by (repeat (first | with_reducible exact Ext.refl _ | with_reducible assumption | ((with_reducible apply Src.ext); with_reducible assumption) | with_reducible refine Ext.alloc ?_ _ | with_reducible refine Ext.drew ?_ | with_reducible refine Ext.drewN ?_ _ | ((with_reducible refine Ext.setCell' ?_ ?_ _); solve | omega | simp | (simp; omega)) | (with_reducible refine Ext.trans ?_ (by with_reducible assumption))))⟩
        · have hkp : k < (psOf rs).length := by rw [psOf_len]; exact hlt
          have hpk : (psOf rs)[k] = r.2.2 := by
            have := psOf_at hlt
            rw [← HRE.out] at this
            rw [← this]; simp [List.getD, hkp]
          refine Lib.hid ?_
          rw [List.take_succ_eq_append_getElem hkp, ← HP.out, hpk]
          simp [psOf]
        · have := HF.out.step (r := (some ⟨wr.heap.size, 0, none⟩, r.2.2.length, r.2.2)) (by rw [HQ.out]; exact hlt)
          rw [HQ.out] at this
          exact Lib.hid this
        · refine Lib.hid (RgOwn.snoc (cs := cs1) ((HO.out.ext hx1).mono fun g t cs hg hB => hB.far (by show ¬ g = w.heap.size; omega) _) (by omega) (hB1.far (by show ¬ wr.heap.size = w.heap.size; omega) _) HCS.out (fun j hj => (HO.out.blk_lt hj).1) hsk)
      case measure => simp [intOf]; omega
    · go_wp2
      go_ret
      obtain rfl : k = rs.length := by omega
      have hf := HF.out
      rw [show rs.length = q.length from HQ.out.symm] at hf
      exact ⟨q, cs, rfl, HQ.out, by rw [HP.out, ← psOf_len rs, List.take_length], hB, hf.done, HO.out, hxr⟩

end Go.Proofs.YtabdffponmmhoaaGreatDoor
