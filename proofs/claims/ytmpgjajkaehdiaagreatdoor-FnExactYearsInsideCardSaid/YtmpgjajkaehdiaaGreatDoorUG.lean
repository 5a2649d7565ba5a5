/- A row of spans that is in order already, handed to the library's sort: it stays as it is. -/
import Derived.Test.YtmpgjajkaehdiaaGreatDoorUF
import Derived.Test.YtmpgjajkaehdiaaGreatDoorUE
namespace Go.Proofs.YtmpgjajkaehdiaaGreatDoor
open Go.Shelf Go.RowKit Go.Lib Go.Sort

theorem ltFrom (x y : Sn) : ltOf (fun x y : Sn => Lib.compareInt x.1 y.1) x y = decide (x.1 < y.1) := by
  unfold ltOf Lib.compareInt
  by_cases h1 : x.1 < y.1
  · simp [h1]
  · by_cases h2 : y.1 < x.1 <;> simp [h1, h2]
theorem swoFrom : SWO (ltOf fun x y : Sn => Lib.compareInt x.1 y.1) where
  irrefl x := by rw [ltFrom]; simp
  trans x y z h1 h2 := by rw [ltFrom] at *; simp at *; omega
  ntrans x y z h1 h2 := by rw [ltFrom] at *; simp at *; omega
set_option maxHeartbeats 1000000 in
theorem i_union1 (x y : Sn) (W : World) : Calls Tryz.prog 100 #[.agg #[.int .i64 x.1, .int .i64 x.2], .agg #[.int .i64 y.1, .int .i64 y.2]] W fun e w' => e = .returned (.int .i64 (Lib.compareInt x.1 y.1)) ∧ ∃ q os', w' = grow (W.drewN q) os' := by
  have hcon := fun W' => AnyG.cmp_Compare_int Tryz.cmpY x.1 y.1 W'
  change ∀ W', Calls Tryz.prog 101 _ _ _ at hcon
  generalize Lib.compareInt x.1 y.1 = r at hcon ⊢
  go_enter Tryz.func100, Tryz.ntmps100
  go_wp2_with (go_at_call 101; refine (hcon _).mono ?_; rintro e w' ⟨rfl, rfl⟩)
  go_ret
  exact ⟨rfl, 0, _, by rw [alloc_eq_grow, alloc_eq_grow, grow_grow]; rfl⟩
theorem cmpFrom (blk off size : Nat) (w : World) : CmpLays Tryz.prog 100 #[] encSn 2 (fun x y => Lib.compareInt x.1 y.1) blk off size w :=
  fun _ _ _ _ x y => i_union1 x y _
theorem holdsSn {w : World} {base g n cap : Nat} {S : List Sn} (h : OwSn w base (.slice (some ⟨g, 0, none⟩) n cap) S) : HoldsK encSn 2 w g 0 S.toArray := by
  intro j hj
  have hj' : j < S.toArray.size * 2 := by simpa using hj
  rw [get_flatK _ _ _ _ hj']
  have hjs : j < S.length * 2 := by simpa using hj'
  obtain ⟨A, c, e, hS, _⟩ := h.sl len_encSn
  injection e with e1 e2 e3
  subst e1
  obtain ⟨b, off, e, hb, h1, h2⟩ := hS.sn (k := j / 2) (by omega)
  injection e with e
  injection e with e4 e5
  subst e4 e5
  have hgd : S.toArray[j / 2]! = S.getD (j / 2) (0, 0) := by
    rw [getElem!_pos S.toArray (j / 2) (by simp; omega)]
    simp [List.getD, show j / 2 < S.length by omega]
  rw [hgd]
  refine ⟨?_, World.ownsRow.frozenAt (show w.ownsRow base 55 2 (.slice (some ⟨g, 0, none⟩) n cap) n (S.flatMap encSn) by subst e2; exact h) _⟩
  rcases Nat.mod_two_eq_zero_or_one j with c | c
  · rw [c, show 0 + j = 0 + j / 2 * 2 by omega, h1]; rfl
  · rw [c, show 0 + j = 0 + j / 2 * 2 + 1 by omega, h2]; rfl
theorem sortSn_same {base g n cap : Nat} {S : List Sn} {w : World} (h : OwSn w base (.slice (some ⟨g, 0, none⟩) n cap) S) (hl : n ≤ 1000000) (hp : S.Pairwise (fun s t => s.1 < t.1)) :
    Calls Tryz.prog 120 #[.slice (some ⟨g, 0, none⟩) n cap, .func (.func 100) #[] #[]] w fun e w' => e = .returned (.tuple #[]) ∧ Ext w w' := by
  have hH := holdsSn h
  have hblk : g < w.heap.size := by
    obtain ⟨A, c, e, hS, _, _, hr⟩ := h.sl len_encSn
    injection e with e1 e2 e3
    exact (hr _ e1.symm).2
  have hn : n = S.toArray.size := by
    obtain ⟨A, c, e, _⟩ := h.sl len_encSn
    injection e with e1 e2 e3
  have hcon := AnyQ.slices_SortFunc Tryz.sortSn 2 (fun _ => by kernel_rfl) (fun _ => by kernel_rfl) encSn len_encSn one_encSn (fun x y => Lib.compareInt x.1 y.1) swoFrom 100 #[] g 0 cap S.toArray w (enters_of Tryz.func100 (by kernel_rfl) rfl) (cmpFrom g 0 _ w) hH hblk (by rw [← hn]; omega)
  rw [hn]
  refine Calls.mono (show Calls Tryz.prog 120 _ w _ from hcon) ?_
  rintro e w' ⟨he, d', m, os, hpm, hso, hw⟩
  refine ⟨he, ?_⟩
  have hsz := hpm.1
  have hperm : d'.toList.Perm S := by
    have := hpm.2.2
    rw [Array.extract_eq_self_of_le (by omega), Array.extract_eq_self_of_le (by omega)] at this
    simpa using this
  have hd : d'.toList = S := perm_asc hperm hp (List.pairwise_iff_getElem.2 fun i j hi hj hij => by
    have := hso i j (Nat.zero_le _) hij (by rw [← hsz]; simpa using hj)
    rw [ltFrom, decide_eq_false_iff_not] at this
    rw [getElem!_pos d' j (by simpa using hj), getElem!_pos d' i (by simpa using hi)] at this
    simpa using this)
  have hd2 : d' = S.toArray := by rw [← hd]
  subst hd2
  rw [hw]
  unfold sortWorldK
  rw [putRowK_self encSn 2 (Sort.ahead w m) g 0 S.toArray (holdsK_ahead encSn 2 w m g 0 _ hH)]
  exact Ext.grown (Ext.refl _) (row := none) ⟨rfl, rfl, rfl, by rw [size_grow]; exact Nat.le_add_right _ _, fun k hk _ => heap_grow_old _ _ hk⟩ (fun k hk => by cases hk)
end Go.Proofs.YtmpgjajkaehdiaaGreatDoor
