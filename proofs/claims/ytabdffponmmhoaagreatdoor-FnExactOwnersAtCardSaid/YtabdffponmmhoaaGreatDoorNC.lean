/- Plain laws of the normal ring: both ways of reckoning it give one list. -/
import Derived.Test.YtabdffponmmhoaaGreatDoorNB
namespace Go.Proofs.YtabdffponmmhoaaGreatDoor

theorem list_getD_ext {α : Type} {l1 l2 : List α} (d : α) (hl : l1.length = l2.length) (h : ∀ i, i < l1.length → l1.getD i d = l2.getD i d) : l1 = l2 := by
  apply List.ext_getElem hl
  intro i h1 h2
  have := h i h1
  simpa [List.getD, h1, h2] using this
theorem rot_getD {o : List (Int × Int)} {f i : Nat} (hf : f < o.length) (hi : i < o.length) : (o.drop f ++ o.take f).getD i (0, 0) = o.getD (if f + i < o.length then f + i else f + i - o.length) (0, 0) := by
  rw [List.getD_eq_getElem?_getD, List.getD_eq_getElem?_getD]
  by_cases c : f + i < o.length
  · rw [if_pos c, List.getElem?_append_left (by rw [List.length_drop]; omega), List.getElem?_drop]
  · rw [if_neg c, List.getElem?_append_right (by rw [List.length_drop]; omega), List.length_drop, List.getElem?_take_of_lt (by omega), show i - (o.length - f) = f + i - o.length by omega]
theorem map_range_getD {n i : Nat} (g : Nat → Int × Int) (hi : i < n) : ((List.range n).map g).getD i (0, 0) = g i := by simp [List.getD, hi]
theorem ptxz_nat (ps : List (Int × Int)) (k : Nat) : (ptx ps (k : Int), ptz ps (k : Int)) = ps.getD (k % ps.length) (0, 0) := by simp [ptx, ptz]
theorem lessP_iff {p q : Int × Int} : lessP p q = true ↔ p.1 < q.1 ∨ (p.1 = q.1 ∧ p.2 < q.2) := by simp [lessP]
theorem minTo_spec {o : List (Int × Int)} : ∀ {k j : Nat}, j < k → ¬ lessP (atP o j) (atP o (minTo o k)) = true
  | 0, _, h => absurd h (Nat.not_lt_zero _)
  | k + 1, j, h => by
    unfold minTo
    rcases Nat.lt_or_ge j k with c | c
    · have := minTo_spec (o := o) c
      split
      · rename_i hl
        rw [lessP_iff] at *
        omega
      · exact this
    · obtain rfl : j = k := by omega
      split
      · rw [lessP_iff]; omega
      · assumption
/-- the points of a list are different -/
def Diff (o : List (Int × Int)) : Prop := ∀ i j, i < o.length → j < o.length → atP o i = atP o j → i = j
theorem min_unique {o : List (Int × Int)} (hd : Diff o) {a b : Nat} (ha : a < o.length) (hb : b < o.length) (h1 : ∀ j, j < o.length → ¬ lessP (atP o j) (atP o a) = true) (h2 : ∀ j, j < o.length → ¬ lessP (atP o j) (atP o b) = true) : a = b := by
  refine hd a b ha hb ?_
  have p := h1 b hb
  have q := h2 a ha
  rw [lessP_iff] at p q
  rcases hx : atP o a with ⟨x, y⟩
  rcases hy : atP o b with ⟨x', y'⟩
  rw [hx, hy] at p q
  simp only at p q
  rw [Prod.mk.injEq]
  omega
theorem RingP.diff {ps : List (Int × Int)} (h : RingP ps) : Diff ps := fun i j hi hj e => by
  have hd := h.2.2.2.2.1
  have he : ptx ps i = ptx ps j ∧ ptz ps i = ptz ps j := by
    rw [ptx_lt hi, ptx_lt hj, ptz_lt hi, ptz_lt hj]
    unfold atP at e
    rw [e]; exact ⟨rfl, rfl⟩
  rcases Nat.lt_trichotomy i j with c | c | c
  · exact absurd ⟨he.1.symm, he.2.symm⟩ (hd j i c hj)
  · exact c
  · exact absurd he (hd i j c hi)
theorem Diff.rev {ps : List (Int × Int)} (h : Diff ps) : Diff ps.reverse := fun i j hi hj e => by
  rw [List.length_reverse] at hi hj
  unfold atP at e
  rw [List.getD_eq_getElem?_getD, List.getD_eq_getElem?_getD, List.getElem?_reverse hi, List.getElem?_reverse hj, ← List.getD_eq_getElem?_getD, ← List.getD_eq_getElem?_getD] at e
  have := h (ps.length - 1 - i) (ps.length - 1 - j) (by omega) (by omega) e
  omega
theorem rev_at {ps : List (Int × Int)} {i : Nat} (hi : i < ps.length) : atP ps.reverse i = atP ps (ps.length - 1 - i) := by
  unfold atP
  rw [List.getD_eq_getElem?_getD, List.getElem?_reverse hi, ← List.getD_eq_getElem?_getD]
theorem min_rev {ps : List (Int × Int)} (hd : Diff ps) (h0 : 0 < ps.length) : minTo ps.reverse ps.length = ps.length - 1 - minTo ps ps.length := by
  have hm := minTo_lt h0 (Nat.le_refl ps.length)
  refine min_unique hd.rev ?_ ?_ (fun j hj => ?_) (fun j hj => ?_)
  · rw [List.length_reverse]
    have := minTo_lt (ps := ps.reverse) (by rw [List.length_reverse]; exact h0) (k := ps.length) (by rw [List.length_reverse]; exact Nat.le_refl _)
    rwa [List.length_reverse] at this
  · rw [List.length_reverse]; omega
  · rw [List.length_reverse] at hj
    exact minTo_spec hj
  · rw [List.length_reverse] at hj
    rw [rev_at hj, rev_at (by omega), show ps.length - 1 - (ps.length - 1 - minTo ps ps.length) = minTo ps ps.length by omega]
    exact minTo_spec (by omega)
theorem normI_len (ps : List (Int × Int)) : (normI ps).length = ps.length := by
  unfold normI
  rw [List.length_append, List.length_drop, List.length_take, outI_len]
  omega
theorem normS_len (ps : List (Int × Int)) : (normS ps).length = ps.length := nsTo_len ps _
theorem norm_same {ps : List (Int × Int)} (h : RingP ps) : normI ps = normS ps := by
  have h0 : 0 < ps.length := by have := h.1; omega
  have ha := h.area
  have hd := h.diff
  have hm := minTo_lt h0 (Nat.le_refl ps.length)
  refine list_getD_ext (0, 0) (by rw [normI_len, normS_len]) fun i hi => ?_
  rw [normI_len] at hi
  have hr : (normS ps).getD i (0, 0) = nsAt ps (minTo ps ps.length) i := map_range_getD _ hi
  rw [hr]
  unfold normI
  rw [rot_getD (minTo_lt (by rw [outI_len]; exact h0) (by rw [outI_len]; exact Nat.le_refl _)) (by rw [outI_len]; exact hi), outI_len]
  unfold nsAt
  by_cases c : 0 < areaZ ps
  · rw [if_pos c]
    have : outI ps = ps := by unfold outI; rw [if_neg (by omega)]
    rw [this, show ((minTo ps ps.length : Int) + (i : Int)) = ((minTo ps ps.length + i : Nat) : Int) by omega, ptxz_nat]
    congr 1
    split
    · rename_i hlt; rw [Nat.mod_eq_of_lt hlt]
    · rw [Nat.mod_eq_sub_mod (by omega), Nat.mod_eq_of_lt (by omega)]
  · rw [if_neg c]
    have : outI ps = ps.reverse := by unfold outI; rw [if_pos (by omega)]
    rw [this, min_rev hd h0, show ((minTo ps ps.length : Int) + (ps.length : Int) - (i : Int)) = ((minTo ps ps.length + ps.length - i : Nat) : Int) by omega, ptxz_nat]
    have hv : ∀ q, q < ps.length → ps.reverse.getD q (0, 0) = ps.getD (ps.length - 1 - q) (0, 0) := fun q hq => rev_at hq
    rw [hv _ (by split <;> omega)]
    congr 1
    by_cases e : i ≤ minTo ps ps.length
    · rw [if_pos (by omega), Nat.mod_eq_sub_mod (by omega), Nat.mod_eq_of_lt (by omega)]; omega
    · rw [if_neg (by omega), Nat.mod_eq_of_lt (by omega)]; omega
end Go.Proofs.YtabdffponmmhoaaGreatDoor
