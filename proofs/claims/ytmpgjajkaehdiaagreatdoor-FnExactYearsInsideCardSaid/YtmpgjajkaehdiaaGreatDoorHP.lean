/- The years of changes, sorted and each once: no program in sight. -/
import Derived.Test.YtmpgjajkaehdiaaGreatDoorHO
import Derived.Test.YtmpgjajkaehdiaaGreatDoorGU
import Derived.Lib.SlicesCompact
namespace Go.Proofs.YtmpgjajkaehdiaaGreatDoor
/-- the years of changes as they are gathered -/
def chL (L : List Lk) (k : Nat) : List Int := [-3000, 3001] ++ (L.take k).flatMap fun l => [l.2.2.1, l.2.2.2 + 1]
theorem chL_zero (L : List Lk) : chL L 0 = [-3000, 3001] := rfl
theorem chL_succ {L : List Lk} {k : Nat} (hk : k < L.length) : chL L (k + 1) = chL L k ++ [(L.getD k lkD).2.2.1, (L.getD k lkD).2.2.2 + 1] := by
  unfold chL
  rw [List.take_succ_eq_append_getElem hk, List.flatMap_append, show L.getD k lkD = L[k] by simp [List.getD, hk], List.append_assoc]
  simp
theorem chL_len (L : List Lk) : ∀ k, k ≤ L.length → (chL L k).length = 2 * k + 2
  | 0, _ => rfl
  | k + 1, h => by
    rw [chL_succ (by omega), List.length_append, chL_len L k (by omega)]
    simp only [List.length_cons, List.length_nil]
    omega
theorem toArr_getI {l : List Int} {j : Nat} (hj : j < l.length) : l.toArray[j]! = l[j] := by
  rw [getElem!_pos l.toArray j (by simpa using hj)]
  simp
theorem compact_ascI {l : List Int} (h : l.Pairwise (fun a b => a ≤ b)) : (Lib.compact l).Pairwise (fun a b => a < b) := by
  unfold Lib.compact Lib.compactUpTo
  rw [List.pairwise_map]
  refine List.Pairwise.imp_of_mem ?_ (List.Pairwise.filter _ List.pairwise_lt_range)
  intro a b ha hb hab
  have hbl := List.mem_range.1 (List.mem_filter.1 hb).1
  have hk := (List.mem_filter.1 hb).2
  simp only [Lib.keeps, decide_eq_true_eq] at hk
  have hal : a < l.length := by omega
  have hb1 : b - 1 < l.length := by omega
  rw [toArr_getI hbl, toArr_getI hb1] at hk
  rw [toArr_getI hbl, toArr_getI hal]
  have hp := List.pairwise_iff_getElem.1 h
  have h2 := hp (b - 1) b hb1 hbl (by omega)
  have hne : ¬ l[b] = l[b - 1] := by
    rcases hk with e | e
    · omega
    · exact e
  rcases Nat.lt_or_ge a (b - 1) with c | c
  · have h3 := hp a (b - 1) hal hb1 c
    omega
  · have : a = b - 1 := by omega
    subst this
    omega
theorem compact_memI {l : List Int} {x : Int} : x ∈ Lib.compact l ↔ x ∈ l := by
  unfold Lib.compact Lib.compactUpTo
  constructor
  · intro h
    obtain ⟨j, hj, rfl⟩ := List.mem_map.1 h
    have hjl := List.mem_range.1 (List.mem_filter.1 hj).1
    rw [toArr_getI hjl]
    exact List.getElem_mem hjl
  · intro h
    obtain ⟨j, hj, rfl⟩ := List.mem_iff_getElem.1 h
    have key : ∀ (j : Nat) (hj : j < l.length), l[j] ∈ ((List.range l.length).filter (Lib.keeps l.toArray)).map (l.toArray[·]!) := by
      intro j
      induction j with
      | zero =>
        intro hj
        refine List.mem_map.2 ⟨0, List.mem_filter.2 ⟨List.mem_range.2 hj, by simp [Lib.keeps]⟩, toArr_getI hj⟩
      | succ j ih =>
        intro hj
        have hj1 : j < l.length := by omega
        by_cases e : l[j + 1] = l[j]
        · rw [e]; exact ih hj1
        · refine List.mem_map.2 ⟨j + 1, List.mem_filter.2 ⟨List.mem_range.2 hj, ?_⟩, toArr_getI hj⟩
          simp only [Lib.keeps, decide_eq_true_eq]
          right
          rw [Nat.add_sub_cancel, toArr_getI hj, toArr_getI hj1]
          exact e
    exact key j hj
theorem compact_lenI (l : List Int) : (Lib.compact l).length ≤ l.length := by
  unfold Lib.compact Lib.compactUpTo
  rw [List.length_map]
  have := List.length_filter_le (Lib.keeps l.toArray) (List.range l.length)
  rwa [List.length_range] at this
theorem sort_pairI (l : List Int) : (l.mergeSort fun x y => decide (x ≤ y)).Pairwise (fun a b => a ≤ b) := by
  have h := List.pairwise_mergeSort (le := fun x y : Int => decide (x ≤ y)) (fun a b c h1 h2 => by
    simp only [decide_eq_true_eq] at *
    exact Int.le_trans h1 h2) (fun a b => by
    simp only [Bool.or_eq_true, decide_eq_true_eq]
    exact Int.le_total a b) l
  refine h.imp fun {a b} q => ?_
  simpa only [decide_eq_true_eq] using q
/-- the years of changes, sorted, each once -/
def chY (L : List Lk) : List Int := Lib.compact ((chL L L.length).mergeSort fun x y => decide (x ≤ y))
theorem chY_mem {L : List Lk} {z : Int} : z ∈ chY L ↔ z ∈ chL L L.length := by
  unfold chY
  rw [compact_memI, List.mem_mergeSort]
theorem chY_len (L : List Lk) : (chY L).length ≤ 2 * L.length + 2 := by
  have := compact_lenI ((chL L L.length).mergeSort fun x y => decide (x ≤ y))
  rw [List.length_mergeSort, chL_len L _ (Nat.le_refl _)] at this
  exact this
theorem as_of {l : List Int} (h : l.Pairwise (fun a b => a < b)) : As l := fun i j hij hj => by
  have := List.pairwise_iff_getElem.1 h i j (by omega) hj hij
  rw [show l.getD i 0 = l[i] by simp [List.getD, show i < l.length by omega], show l.getD j 0 = l[j] by simp [List.getD, hj]]
  exact this
theorem chY_as (L : List Lk) : As (chY L) := as_of (compact_ascI (sort_pairI _))
theorem chL_in {L : List Lk} (h : lksB L = true) : ∀ z ∈ chL L L.length, -3000 ≤ z ∧ z ≤ 3001 := by
  intro z hz
  unfold chL at hz
  rw [List.take_length] at hz
  rcases List.mem_append.1 hz with hz | hz
  · simp at hz
    rcases hz with rfl | rfl <;> omega
  · obtain ⟨l, hl, hm⟩ := List.mem_flatMap.1 hz
    obtain ⟨j, hj, rfl⟩ := List.mem_iff_getElem.1 hl
    have h1 := ((lksB_iff.1 h).1.1 j hj).1
    rw [show L.getD j lkD = L[j] by simp [List.getD, hj]] at h1
    unfold lkB at h1
    simp only [Bool.and_eq_true] at h1
    obtain ⟨b1, b2, b3⟩ := spB_iff.1 h1.2
    simp at hm
    rcases hm with rfl | rfl <;> omega
theorem chY_at {L : List Lk} {z : Int} (h : z ∈ chL L L.length) : ∃ j, j < (chY L).length ∧ (chY L).getD j 0 = z := by
  obtain ⟨j, hj, e⟩ := List.mem_iff_getElem.1 (chY_mem.2 h)
  exact ⟨j, hj, by simp [List.getD, hj, e]⟩
theorem chY_of {L : List Lk} {j : Nat} (hj : j < (chY L).length) : (chY L).getD j 0 ∈ chL L L.length := by
  refine chY_mem.1 ?_
  rw [show (chY L).getD j 0 = (chY L)[j] by simp [List.getD, hj]]
  exact List.getElem_mem hj
theorem chY_first {L : List Lk} (h : lksB L = true) : (chY L).getD 0 0 = -3000 := by
  obtain ⟨j, hj, e⟩ := chY_at (L := L) (z := -3000) (by unfold chL; simp)
  rcases Nat.eq_zero_or_pos j with c | c
  · rw [c] at e; exact e
  · have h1 := chY_as L 0 j c hj
    have h2 := (chL_in h _ (chY_of (j := 0) (by omega))).1
    omega
theorem chY_last {L : List Lk} (h : lksB L = true) : (chY L).getD ((chY L).length - 1) 0 = 3001 := by
  obtain ⟨j, hj, e⟩ := chY_at (L := L) (z := 3001) (by unfold chL; simp)
  rcases Nat.eq_or_lt_of_le (show j ≤ (chY L).length - 1 by omega) with c | c
  · rw [← c]; exact e
  · have h1 := chY_as L j _ c (by omega)
    have h2 := (chL_in h _ (chY_of (j := (chY L).length - 1) (by omega))).2
    omega
theorem chY_links {L : List Lk} : ∀ l ∈ L, l.2.2.1 ∈ chY L ∧ l.2.2.2 + 1 ∈ chY L := fun l hl => by
  rw [chY_mem, chY_mem]
  unfold chL
  rw [List.take_length]
  exact ⟨List.mem_append_right _ (List.mem_flatMap.2 ⟨l, hl, by simp⟩), List.mem_append_right _ (List.mem_flatMap.2 ⟨l, hl, by simp⟩)⟩
/-- the set of years in which b lies on the way up from a -/
def yrS (L : List Lk) (a b : List UInt8) : List Sn := (yrTo (insY L a b) 6001).foldl joinS []
/-- the spans that the program gathers -/
def yiS (L : List Lk) (a b : List UInt8) (k : Nat) : List Sn := spTo (chY L) (insY L a b) k
theorem yrS_law {L : List Lk} (h : lksB L = true) (a b : List UInt8) : (yiS L a b ((chY L).length - 1)).foldl joinS [] = yrS L a b :=
  years_law (chY_as L) (chY_first h) (chY_last h) (insY_const chY_links)
theorem yiS_asc (L : List Lk) (a b : List UInt8) : (yiS L a b ((chY L).length - 1)).Pairwise (fun s t => s.1 < t.1) := by
  rcases Nat.eq_zero_or_pos (chY L).length with c | c
  · rw [c]; exact List.Pairwise.nil
  · exact spTo_asc _ (chY_as L) _ (by omega)
end Go.Proofs.YtmpgjajkaehdiaaGreatDoor
