/- The kit's word for slices.Compact at sorted texts: no program in sight. -/
import Derived.Test.YtmpgjajkaehdiaaGreatDoorGP
import Derived.Lib.SlicesCompact
namespace Go.Proofs.YtmpgjajkaehdiaaGreatDoor
theorem toArr_get {l : List Tx} {j : Nat} (hj : j < l.length) : l.toArray[j]! = l[j] := by
  rw [getElem!_pos l.toArray j (by simpa using hj)]
  simp
theorem compact_alf {l : List Tx} (h : l.Pairwise (fun a b => ¬ b < a)) : Alf (Lib.compact l) := by
  unfold Alf Lib.compact Lib.compactUpTo
  rw [List.pairwise_map]
  refine List.Pairwise.imp_of_mem ?_ (List.Pairwise.filter _ List.pairwise_lt_range)
  intro a b ha hb hab
  have hbl := List.mem_range.1 (List.mem_filter.1 hb).1
  have hk := (List.mem_filter.1 hb).2
  simp only [Lib.keeps, decide_eq_true_eq] at hk
  have hal : a < l.length := by omega
  have hb1 : b - 1 < l.length := by omega
  rw [toArr_get hbl, toArr_get hb1] at hk
  rw [toArr_get hbl, toArr_get hal]
  have hp := List.pairwise_iff_getElem.1 h
  have h1 : l[b - 1] < l[b] := by
    have hne : ¬ l[b] = l[b - 1] := by
      rcases hk with e | e
      · omega
      · exact e
    have h2 := hp (b - 1) b hb1 hbl (by omega)
    rcases tx_tri l[b - 1] l[b] with q | q | q
    · exact q
    · exact absurd q.symm hne
    · exact absurd q h2
  rcases Nat.lt_or_ge a (b - 1) with c | c
  · have h2 := hp a (b - 1) hal hb1 c
    rcases tx_tri l[a] l[b - 1] with q | q | q
    · exact tx_lt_trans q h1
    · rw [q]; exact h1
    · exact absurd q h2
  · have : a = b - 1 := by omega
    subst this
    exact h1
theorem compact_mem {l : List Tx} {x : Tx} : x ∈ Lib.compact l ↔ x ∈ l := by
  unfold Lib.compact Lib.compactUpTo
  constructor
  · intro h
    obtain ⟨j, hj, rfl⟩ := List.mem_map.1 h
    have hjl := List.mem_range.1 (List.mem_filter.1 hj).1
    rw [toArr_get hjl]
    exact List.getElem_mem hjl
  · intro h
    obtain ⟨j, hj, rfl⟩ := List.mem_iff_getElem.1 h
    have key : ∀ (j : Nat) (hj : j < l.length), l[j] ∈ ((List.range l.length).filter (Lib.keeps l.toArray)).map (l.toArray[·]!) := by
      intro j
      induction j with
      | zero =>
        intro hj
        refine List.mem_map.2 ⟨0, List.mem_filter.2 ⟨List.mem_range.2 hj, by simp [Lib.keeps]⟩, toArr_get hj⟩
      | succ j ih =>
        intro hj
        have hj1 : j < l.length := by omega
        by_cases e : l[j + 1] = l[j]
        · rw [e]; exact ih hj1
        · refine List.mem_map.2 ⟨j + 1, List.mem_filter.2 ⟨List.mem_range.2 hj, ?_⟩, toArr_get hj⟩
          simp only [Lib.keeps, decide_eq_true_eq]
          right
          rw [Nat.add_sub_cancel, toArr_get hj, toArr_get hj1]
          exact e
    exact key j hj
theorem compact_cpt {l : List Tx} (h : l.Pairwise (fun a b => ¬ b < a)) : Lib.compact l = cpt l :=
  (compact_alf h).ext (cpt_alf h) fun _ => compact_mem.trans cpt_mem.symm
theorem compact_sort (l : List Tx) : Lib.compact (l.mergeSort fun x y => decide (x ≤ y)) = sortA l := compact_cpt (sort_pair l)
theorem compact_len (l : List Tx) : (Lib.compact l).length ≤ l.length := by
  unfold Lib.compact Lib.compactUpTo
  rw [List.length_map]
  have := List.length_filter_le (Lib.keeps l.toArray) (List.range l.length)
  rwa [List.length_range] at this
end Go.Proofs.YtmpgjajkaehdiaaGreatDoor
