/- A row of spans that is in order already, handed to the library's sort: it stays as it is. Spans in a strict order, handed through the library's Values, Collect and SortedFunc. -/
import Derived.Test.YtncccigbiefnkaaGreatDoorUF
import Derived.Test.YtncccigbiefnkaaGreatDoorU2
import Derived.Shelf.SlSortCmp.NoneTotal
namespace Go.Proofs.YtncccigbiefnkaaGreatDoor
open Go.Shelf Go.RowKit Go.Lib Go.Sort

theorem ltFrom (x y : Sn) : ltOf (fun x y : Sn => Lib.compareInt x.1 y.1) x y = decide (x.1 < y.1) := by
  unfold ltOf Lib.compareInt
  by_cases h1 : x.1 < y.1
  · simp [h1]
  · by_cases h2 : y.1 < x.1 <;> simp [h1, h2]
theorem swoFrom : SWO (ltOf fun x y : Sn => Lib.compareInt x.1 y.1) where
  irrefl x := by rw [ltFrom]; simp
  trans x y z h1 h2 := by rw [ltFrom] at *; simp at *; omega
  ntrans x y z h1 h2 := by rw [ltFrom] at *; simp at *; omega
set_option maxHeartbeats 1000000 in
theorem i_union1 (x y : Sn) (W : World) : Calls Tryz.prog 156 #[.agg #[.int .i64 x.1, .int .i64 x.2], .agg #[.int .i64 y.1, .int .i64 y.2]] W fun e w' => e = .returned (.int .i64 (Lib.compareInt x.1 y.1)) ∧ ∃ q os', w' = grow (W.drewN q) os' := by
  have hcon := fun W' => AnyG.cmp_Compare_int Tryz.cmpY x.1 y.1 W'
  change ∀ W', Calls Tryz.prog 157 _ _ _ at hcon
  generalize Lib.compareInt x.1 y.1 = r at hcon ⊢
  go_enter Tryz.func156, Tryz.ntmps156
  go_wp2_with (go_at_call 157; refine (hcon _).mono ?_; rintro e w' ⟨rfl, rfl⟩)
  go_ret
  exact ⟨rfl, 0, _, by rw [alloc_eq_grow, alloc_eq_grow, grow_grow]; rfl⟩
theorem cmpFrom (blk off size : Nat) (w : World) : CmpLays Tryz.prog 156 #[] encSn 2 (fun x y => Lib.compareInt x.1 y.1) blk off size w :=
  fun _ _ _ _ x y => i_union1 x y _
theorem holdsSn {w : World} {base g n cap : Nat} {S : List Sn} (h : OwSn w base (.slice (some ⟨g, 0, none⟩) n cap) S) : HoldsK encSn 2 w g 0 S.toArray := by
  intro j hj
  have hj' : j < S.toArray.size * 2 := by simpa using hj
  rw [get_flatK _ _ _ _ hj']
  have hjs : j < S.length * 2 := by simpa using hj'
  obtain ⟨A, c, e, hS, _⟩ := h.sl len_encSn
  injection e with e1 e2 e3
  subst e1
  obtain ⟨b, off, e, hb, h1, h2⟩ := hS.sn (k := j / 2) (by omega)
  injection e with e
  injection e with e4 e5
  subst e4 e5
  have hgd : S.toArray[j / 2]! = S.getD (j / 2) (0, 0) := by
    rw [getElem!_pos S.toArray (j / 2) (by simp; omega)]
    simp [List.getD, show j / 2 < S.length by omega]
  rw [hgd]
  refine ⟨?_, World.ownsRow.frozenAt (show w.ownsRow base 82 2 (.slice (some ⟨g, 0, none⟩) n cap) n (S.flatMap encSn) by subst e2; exact h) _⟩
  rcases Nat.mod_two_eq_zero_or_one j with c | c
  · rw [c, show 0 + j = 0 + j / 2 * 2 by omega, h1]; rfl
  · rw [c, show 0 + j = 0 + j / 2 * 2 + 1 by omega, h2]; rfl
theorem sortSn_same {base g n cap : Nat} {S : List Sn} {w : World} (h : OwSn w base (.slice (some ⟨g, 0, none⟩) n cap) S) (hl : n ≤ 1000000) (hp : S.Pairwise (fun s t => s.1 < t.1)) :
    Calls Tryz.prog 218 #[.slice (some ⟨g, 0, none⟩) n cap, .func (.func 156) #[] #[]] w fun e w' => e = .returned (.tuple #[]) ∧ Ext w w' := by
  have hH := holdsSn h
  have hblk : g < w.heap.size := by
    obtain ⟨A, c, e, hS, _, _, hr⟩ := h.sl len_encSn
    injection e with e1 e2 e3
    exact (hr _ e1.symm).2
  have hn : n = S.toArray.size := by
    obtain ⟨A, c, e, _⟩ := h.sl len_encSn
    injection e with e1 e2 e3
  have hcon := AnyQ.slices_SortFunc Tryz.sortSn 2 (fun _ => by kernel_rfl) (fun _ => by kernel_rfl) encSn len_encSn one_encSn (fun x y => Lib.compareInt x.1 y.1) swoFrom 156 #[] g 0 cap S.toArray w (enters_of Tryz.func156 (by kernel_rfl) rfl) (cmpFrom g 0 _ w) hH hblk (by rw [← hn]; omega)
  rw [hn]
  refine Calls.mono (show Calls Tryz.prog 218 _ w _ from hcon) ?_
  rintro e w' ⟨he, d', m, os, hpm, hso, hw⟩
  refine ⟨he, ?_⟩
  have hsz := hpm.1
  have hperm : d'.toList.Perm S := by
    have := hpm.2.2
    rw [Array.extract_eq_self_of_le (by omega), Array.extract_eq_self_of_le (by omega)] at this
    simpa using this
  have hd : d'.toList = S := perm_asc hperm hp (List.pairwise_iff_getElem.2 fun i j hi hj hij => by
    have := hso i j (Nat.zero_le _) hij (by rw [← hsz]; simpa using hj)
    rw [ltFrom, decide_eq_false_iff_not] at this
    rw [getElem!_pos d' j (by simpa using hj), getElem!_pos d' i (by simpa using hi)] at this
    simpa using this)
  have hd2 : d' = S.toArray := by rw [← hd]
  subst hd2
  rw [hw]
  unfold sortWorldK
  rw [putRowK_self encSn 2 (Sort.ahead w m) g 0 S.toArray (holdsK_ahead encSn 2 w m g 0 _ hH)]
  exact Ext.grown (Ext.refl _) (row := none) ⟨rfl, rfl, rfl, by rw [size_grow]; exact Nat.le_add_right _ _, fun k hk _ => heap_grow_old _ _ hk⟩ (fun k hk => by cases hk)
end Go.Proofs.YtncccigbiefnkaaGreatDoor
namespace Go.Proofs.YtncccigbiefnkaaGreatDoor
open Go.Shelf Go.RowKit Go.Lib Go.Sort
attribute [local go_sem] ExtOf.cell ExtOf.frozen

theorem OwSn.seq {w : World} {base n c : Nat} {A : Option Addr} {S : List Sn} (h : OwSn w base (.slice A n c) S) :
    n = S.length ∧ ∃ b, (0 < S.length → A = some ⟨b, 0, none⟩) ∧ (0 < S.length → b < w.heap.size) ∧ ∀ j, j < S.length → w.cell? ⟨b, j * 2, none⟩ = some (.int .i64 (S.getD j (0, 0)).1) ∧ w.cell? ⟨b, j * 2 + 1, none⟩ = some (.int .i64 (S.getD j (0, 0)).2) := by
  obtain ⟨A1, c1, e, hS, _, _, hr⟩ := h.sl len_encSn
  injection e with e1 e2 e3
  subst e1 e2
  refine ⟨rfl, ?_⟩
  rcases Nat.eq_zero_or_pos S.length with h0 | h0
  · exact ⟨0, fun e => by omega, fun e => by omega, fun j hj => by omega⟩
  · obtain ⟨g, cap, cur, e, hb, hB, _⟩ := h.open_ h0
    injection e with e1 e2 e3
    subst e1
    refine ⟨g, fun _ => rfl, fun _ => hB.lt, fun j hj => ?_⟩
    obtain ⟨b, off, e, _, h1, h2⟩ := hS.sn hj
    injection e with e
    injection e with e4 e5
    subst e4 e5
    rw [Nat.zero_add] at h1 h2
    exact ⟨h1, h2⟩
theorem sortSn_any {base : Nat} {v : Value} {S : List Sn} {w : World} (h : OwSn w base v S) (hl : S.length ≤ 1000000) (hp : S.Pairwise (fun s t => s.1 < t.1)) :
    Calls Tryz.prog 218 #[v, .func (.func 156) #[] #[]] w fun e w' => e = .returned (.tuple #[]) ∧ Ext w w' := by
  rcases Nat.eq_zero_or_pos S.length with h0 | h0
  · obtain ⟨A, c, rfl, _⟩ := h.sl len_encSn
    rw [h0]
    exact (AnyF.slices_SortFunc_none Tryz.sortSn A c _ w).mono fun e w' ⟨he, hw⟩ => ⟨he, by rw [hw]; exact Ext.refl _⟩
  · obtain ⟨g, cap, cur, rfl, _⟩ := h.open_ h0
    exact sortSn_same h hl hp
theorem i_ValuesS (A : Option Addr) (n c : Nat) (w : World) :
    Calls Tryz.prog 155 #[.slice A n c] w fun e w' => e = .returned (.func (.func 219) #[] #[.pointer (some ⟨w.heap.size, 0, none⟩)]) ∧ w' = w.alloc (.cells #[.slice A n c] 27) := by
  go_enter Tryz.func155, Tryz.ntmps155
  go_wp2
  go_ret
  exact ⟨rfl, rfl⟩
/-- an iterator's box: it holds the spans S -/
def SeqS (w : World) (Bs : Nat) (S : List Sn) : Prop := ∃ A c b, (0 < S.length → A = some ⟨b, 0, none⟩) ∧ Bs < w.heap.size ∧ (0 < S.length → b < w.heap.size) ∧ w.cell? ⟨Bs, 0, none⟩ = some (.slice A S.length c) ∧
  ∀ j, j < S.length → w.cell? ⟨b, j * 2, none⟩ = some (.int .i64 (S.getD j (0, 0)).1) ∧ w.cell? ⟨b, j * 2 + 1, none⟩ = some (.int .i64 (S.getD j (0, 0)).2)
theorem OwSn.seqAt {w : World} {base n c : Nat} {A : Option Addr} {S : List Sn} (h : OwSn w base (.slice A n c) S) : SeqS (w.alloc (.cells #[.slice A n c] 27)) w.heap.size S := by
  obtain ⟨rfl, b, h1, h2, h3⟩ := h.seq
  have hx : Ext w (w.alloc (.cells #[.slice A S.length c] 27)) := Ext.alloc (Ext.refl _) _
  exact ⟨A, c, b, h1, by simp, fun e => by have := h2 e; simp; omega, (Boxed.new w 27 (.slice A S.length c)).cell,
    fun j hj => ⟨(hx.below.cell (p := ⟨b, j * 2, none⟩) (h2 (by omega))).trans (h3 j hj).1, (hx.below.cell (p := ⟨b, j * 2 + 1, none⟩) (h2 (by omega))).trans (h3 j hj).2⟩⟩
theorem i_AppendSeqS {w : World} {Bs : Nat} {S : List Sn} (h : SeqS w Bs S) (hl : S.length ≤ 1000000) :
    Calls Tryz.prog 270 #[.slice none 0 0, .func (.func 219) #[] #[.pointer (some ⟨Bs, 0, none⟩)]] w fun e w' => ∃ v, e = .returned v ∧ OwSn w' w.heap.size v S ∧ Ext w w' := by
  obtain ⟨A, c, b, h1, h2, h3, h4, h5⟩ := h
  exact (callsIn_wide.1 (apS_in Fence.wide 3 trivial trivial rfl (Nat.le_refl _) Bs b c A S h1 hl w h2 h3 h4 h5)).mono fun e w' ⟨v, he, ho, hb⟩ => ⟨v, he, ho, hb⟩
set_option maxHeartbeats 1600000 in
theorem i_CollectS {w : World} {Bs : Nat} {S : List Sn} (h : SeqS w Bs S) (hl : S.length ≤ 1000000) :
    Calls Tryz.prog 217 #[.func (.func 219) #[] #[.pointer (some ⟨Bs, 0, none⟩)]] w fun e w' => ∃ v, e = .returned v ∧ OwSn w' w.heap.size v S ∧ Ext w w' := by
  have HA := Lib.hid (i_AppendSeqS h hl)
  clear h
  go_enter Tryz.func217, Tryz.ntmps217
  go_wp2_with fail
  refine HA.out.mono ?_
  rintro e w1 ⟨v, rfl, hO, hx⟩
  obtain ⟨A, c, rfl, _⟩ := hO.sl len_encSn
  have HO := Lib.hid hO
  have HX := Lib.hid hx
  generalize S.length = n at *
  clear hO hx HA
  go_wp2
  go_ret
  exact ⟨.slice A n c, rfl, HO.out, HX.out⟩
set_option maxHeartbeats 1600000 in
theorem i_SortedFuncS {w : World} {Bs : Nat} {S : List Sn} (h : SeqS w Bs S) (hl : S.length ≤ 1000000) (hp : S.Pairwise (fun s t => s.1 < t.1)) :
    Calls Tryz.prog 154 #[.func (.func 219) #[] #[.pointer (some ⟨Bs, 0, none⟩)], .func (.func 156) #[] #[]] w fun e w' => ∃ v, e = .returned v ∧ OwSn w' w.heap.size v S ∧ Ext w w' := by
  have HA := Lib.hid (i_CollectS h hl)
  have HSO := Lib.hid (fun W b v (hO : OwSn W b v S) => sortSn_any hO hl hp)
  clear h hp
  go_enter Tryz.func154, Tryz.ntmps154
  go_wp2_with fail
  refine HA.out.mono ?_
  rintro e w1 ⟨v, rfl, hO, hx⟩
  have HO := Lib.hid hO
  have HX := Lib.hid hx
  have HSX := Lib.hid (HSO.out _ _ _ hO)
  obtain ⟨A, c, rfl, _⟩ := hO.sl len_encSn
  generalize S.length = n at *
  clear hO hx HA HSO
  go_wp2_with fail
  refine HSX.out.mono ?_
  rintro e w2 ⟨rfl, hx2⟩
  have HX2 := Lib.hid hx2
  clear hx2
  go_wp2
  go_ret
  exact ⟨.slice A n c, rfl, HO.out.ext HX2.out, HX.out.trans HX2.out⟩
end Go.Proofs.YtncccigbiefnkaaGreatDoor
