/- Plain law of YearsInside: the years told between the changes are the years told one by one. -/
import Derived.Test.YtmpgjajkaehdiaaGreatDoorHE
namespace Go.Proofs.YtmpgjajkaehdiaaGreatDoor

/-- strictly ascending, told by places -/
def As (Y : List Int) : Prop := ∀ i j, i < j → j < Y.length → Y.getD i 0 < Y.getD j 0
/-- the spans between one change and the next in which p holds, as far as the k-th -/
def spTo (Y : List Int) (p : Int → Bool) (k : Nat) : List Sn := (List.range k).flatMap fun i => if p (Y.getD i 0) = true then [(Y.getD i 0, Y.getD (i + 1) 0 - 1)] else []
/-- the years in which p holds, each a span, as far as the k-th -/
def yrTo (p : Int → Bool) (k : Nat) : List Sn := (List.range k).flatMap fun (i : Nat) => if p (-3000 + (i : Int)) = true then [(-3000 + (i : Int), -3000 + (i : Int))] else []
theorem spTo_succ (Y : List Int) (p : Int → Bool) (k : Nat) : spTo Y p (k + 1) = spTo Y p k ++ (if p (Y.getD k 0) = true then [(Y.getD k 0, Y.getD (k + 1) 0 - 1)] else []) := by
  unfold spTo; rw [List.range_succ, List.flatMap_append]; simp
theorem yrTo_succ (p : Int → Bool) (k : Nat) : yrTo p (k + 1) = yrTo p k ++ (if p (-3000 + (k : Int)) = true then [(-3000 + (k : Int), -3000 + (k : Int))] else []) := by
  unfold yrTo; rw [List.range_succ, List.flatMap_append]; simp
theorem spTo_mem {Y : List Int} {p : Int → Bool} {k : Nat} {s : Sn} : s ∈ spTo Y p k ↔ ∃ i, i < k ∧ p (Y.getD i 0) = true ∧ s = (Y.getD i 0, Y.getD (i + 1) 0 - 1) := by
  unfold spTo; rw [List.mem_flatMap]
  constructor
  · rintro ⟨i, hi, hs⟩
    rw [List.mem_range] at hi
    by_cases hp : p (Y.getD i 0) = true
    · rw [if_pos hp] at hs; exact ⟨i, hi, hp, List.mem_singleton.1 hs⟩
    · rw [if_neg hp] at hs; cases hs
  · rintro ⟨i, hi, hp, hs⟩
    exact ⟨i, List.mem_range.2 hi, by rw [if_pos hp]; exact List.mem_singleton.2 hs⟩
theorem yrTo_mem {p : Int → Bool} {k : Nat} {s : Sn} : s ∈ yrTo p k ↔ ∃ i : Nat, i < k ∧ p (-3000 + (i : Int)) = true ∧ s = (-3000 + (i : Int), -3000 + (i : Int)) := by
  unfold yrTo; rw [List.mem_flatMap]
  constructor
  · rintro ⟨i, hi, hs⟩
    rw [List.mem_range] at hi
    by_cases hp : p (-3000 + (i : Int)) = true
    · rw [if_pos hp] at hs; exact ⟨i, hi, hp, List.mem_singleton.1 hs⟩
    · rw [if_neg hp] at hs; cases hs
  · rintro ⟨i, hi, hp, hs⟩
    exact ⟨i, List.mem_range.2 hi, by rw [if_pos hp]; exact List.mem_singleton.2 hs⟩
theorem spTo_asc {Y : List Int} (p : Int → Bool) (h : As Y) : ∀ k, k < Y.length → (spTo Y p k).Pairwise (fun a b => a.1 < b.1)
  | 0, _ => List.Pairwise.nil
  | k + 1, hk => by
    rw [spTo_succ, List.pairwise_append]
    refine ⟨spTo_asc p h k (by omega), ?_, fun a ha b hb => ?_⟩
    · split
      · exact List.pairwise_singleton ..
      · exact List.Pairwise.nil
    · obtain ⟨i, hi, _, rfl⟩ := spTo_mem.1 ha
      split at hb
      · rw [List.mem_singleton] at hb
        rw [hb]; exact h i k hi (by omega)
      · cases hb
theorem spTo_len (Y : List Int) (p : Int → Bool) : ∀ k, (spTo Y p k).length ≤ k
  | 0 => Nat.le_refl _
  | k + 1 => by
    rw [spTo_succ, List.length_append]
    have := spTo_len Y p k
    split <;> simp <;> omega
theorem yrTo_asc (p : Int → Bool) : ∀ k, (yrTo p k).Pairwise (fun a b => a.1 ≤ b.1)
  | 0 => List.Pairwise.nil
  | k + 1 => by
    rw [yrTo_succ, List.pairwise_append]
    refine ⟨yrTo_asc p k, ?_, fun a ha b hb => ?_⟩
    · split
      · exact List.pairwise_singleton ..
      · exact List.Pairwise.nil
    · obtain ⟨i, hi, _, rfl⟩ := yrTo_mem.1 ha
      split at hb
      · rw [List.mem_singleton] at hb
        rw [hb]; simp only; omega
      · cases hb
theorem As.seg {Y : List Int} {y : Int} (h0 : Y.getD 0 0 ≤ y) : ∀ k, y < Y.getD k 0 → ∃ i, i < k ∧ Y.getD i 0 ≤ y ∧ y < Y.getD (i + 1) 0
  | 0, h => absurd h0 (by omega)
  | k + 1, h => by
    rcases Int.lt_or_le y (Y.getD k 0) with c | c
    · obtain ⟨i, hi, e⟩ := As.seg h0 k c
      exact ⟨i, by omega, e⟩
    · exact ⟨k, by omega, c, h⟩
theorem As.gap {Y : List Int} (h : As Y) {i : Nat} (hi : i + 1 < Y.length) {a y : Int} (ha : Y.getD i 0 ≤ a) (hy : y < Y.getD (i + 1) 0) : ∀ m ∈ Y, ¬ (a < m ∧ m ≤ y) := fun m hm hh => by
  obtain ⟨j, hj, e⟩ := List.mem_iff_getElem.1 hm
  have e2 : Y.getD j 0 = m := by simp [List.getD, hj, e]
  rcases Nat.lt_or_ge i j with c | c
  · rcases Nat.eq_or_lt_of_le (show i + 1 ≤ j from c) with d | d
    · rw [← d] at e2; omega
    · have := h (i + 1) j d hj; omega
  · rcases Nat.eq_or_lt_of_le c with d | d
    · rw [d] at e2; omega
    · have := h j i d (by omega); omega
/-- the years told between the changes, joined, are the years told one by one, joined -/
theorem years_law {Y : List Int} {p : Int → Bool} (hY : As Y) (h0 : Y.getD 0 0 = -3000) (hl : Y.getD (Y.length - 1) 0 = 3001)
    (hc : ∀ a b, a ≤ b → (∀ m ∈ Y, ¬ (a < m ∧ m ≤ b)) → p a = p b) : (spTo Y p (Y.length - 1)).foldl joinS [] = (yrTo p 6001).foldl joinS [] := by
  have hlen : 2 ≤ Y.length := by
    rcases Nat.lt_or_ge Y.length 2 with c | c
    · have : Y.length - 1 = 0 := by omega
      rw [this] at hl; omega
    · exact c
  refine join_same (fun s hs => ?_) (fun s hs => ?_) ((spTo_asc p hY _ (by omega)).imp (fun h => Int.le_of_lt h)) (yrTo_asc p _) (fun y => ?_)
  · obtain ⟨i, hi, _, rfl⟩ := spTo_mem.1 hs
    have := hY i (i + 1) (by omega) (by omega)
    simp only; omega
  · obtain ⟨i, hi, _, rfl⟩ := yrTo_mem.1 hs
    exact Int.le_refl _
  · constructor
    · rintro ⟨s, hs, h1, h2⟩
      obtain ⟨i, hi, hp, rfl⟩ := spTo_mem.1 hs
      simp only at h1 h2
      have e : p (Y.getD i 0) = p y := hc _ _ h1 (hY.gap (by omega) (Int.le_refl _) (by omega))
      have hlo : -3000 ≤ y := by
        rcases Nat.eq_zero_or_pos i with c | c
        · rw [c] at h1; omega
        · have := hY 0 i c (by omega); omega
      have hhi : y ≤ 3000 := by
        rcases Nat.eq_or_lt_of_le (show i + 1 ≤ Y.length - 1 by omega) with c | c
        · rw [c] at h2; omega
        · have := hY (i + 1) (Y.length - 1) c (by omega); omega
      have ey : -3000 + ((y + 3000).toNat : Int) = y := by omega
      refine ⟨(y, y), yrTo_mem.2 ⟨(y + 3000).toNat, by omega, ?_, ?_⟩, Int.le_refl _, Int.le_refl _⟩
      · rw [ey, ← e]; exact hp
      · rw [ey]
    · rintro ⟨s, hs, h1, h2⟩
      obtain ⟨i, hi, hp, rfl⟩ := yrTo_mem.1 hs
      simp only at h1 h2
      have ey : -3000 + (i : Int) = y := by omega
      rw [ey] at hp
      obtain ⟨j, hj, j1, j2⟩ := As.seg (Y := Y) (y := y) (by omega) (Y.length - 1) (by omega)
      have e : p (Y.getD j 0) = p y := hc _ _ j1 (hY.gap (by omega) (Int.le_refl _) j2)
      exact ⟨_, spTo_mem.2 ⟨j, hj, by rw [e]; exact hp, rfl⟩, j1, by simp only; omega⟩
/-- whether b lies on the way up from a in a year -/
def insY (L : List Lk) (a b : List UInt8) (y : Int) : Bool := decide (b ∈ (wayU L a y).1)
theorem insY_const {L : List Lk} {c d : List UInt8} {Y : List Int} (hm : ∀ l ∈ L, l.2.2.1 ∈ Y ∧ l.2.2.2 + 1 ∈ Y) (a b : Int) (hab : a ≤ b) (h : ∀ m ∈ Y, ¬ (a < m ∧ m ≤ b)) : insY L c d a = insY L c d b := by
  unfold insY
  rw [way_const fun l hl => lkHas_const hab (h _ (hm l hl).1) (h _ (hm l hl).2)]
/-- spans in a strict order: what is a permutation and in order is the same -/
theorem perm_asc : ∀ {a b : List Sn}, a.Perm b → b.Pairwise (fun s t => s.1 < t.1) → a.Pairwise (fun s t => ¬ t.1 < s.1) → a = b
  | [], b, h, _, _ => h.nil_eq
  | s :: a, [], h, _, _ => absurd h.length_eq (by simp)
  | s :: a, t :: b, h, hb, ha => by
    rw [List.pairwise_cons] at ha hb
    have e : s = t := by
      have h1 : t ∈ s :: a := h.mem_iff.2 (List.mem_cons_self ..)
      have h2 : s ∈ t :: b := h.mem_iff.1 (List.mem_cons_self ..)
      rcases List.mem_cons.1 h1 with e | e
      · exact e.symm
      · rcases List.mem_cons.1 h2 with f | f
        · exact f
        · exact absurd (hb.1 s f) (ha.1 t e)
    subst e
    rw [perm_asc (List.perm_cons s |>.1 h) hb.2 ha.2]
end Go.Proofs.YtmpgjajkaehdiaaGreatDoor
