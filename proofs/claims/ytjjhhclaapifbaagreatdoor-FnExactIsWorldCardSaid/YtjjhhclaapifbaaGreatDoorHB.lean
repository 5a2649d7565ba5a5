/- Plain laws of texts in alphabetical order, each once: no program in sight. -/
import Derived.Test.YtjjhhclaapifbaaGreatDoorHA
import Derived.Sort.Walk0
namespace Go.Proofs.YtjjhhclaapifbaaGreatDoor

abbrev Tx := List UInt8
/-- in alphabetical order, each once -/
def Alf (l : List Tx) : Prop := l.Pairwise (· < ·)
theorem tx_lt_irrefl (a : Tx) : ¬ a < a := List.lt_irrefl a
theorem tx_lt_trans {a b c : Tx} (h : a < b) (k : b < c) : a < c := List.lt_trans h k
theorem tx_lt_asymm {a b : Tx} (h : a < b) : ¬ b < a := fun k => tx_lt_irrefl a (tx_lt_trans h k)
theorem tx_tri (a b : Tx) : a < b ∨ a = b ∨ b < a := by
  rcases Classical.em (a < b) with h | h
  · exact .inl h
  · rcases Classical.em (b < a) with k | k
    · exact .inr (.inr k)
    · exact .inr (.inl (List.le_antisymm (List.not_lt.1 k) (List.not_lt.1 h)))
/-- two such lists of the same texts are the same -/
theorem Alf.ext : ∀ {a b : List Tx}, Alf a → Alf b → (∀ x, x ∈ a ↔ x ∈ b) → a = b
  | [], [], _, _, _ => rfl
  | [], y :: b, _, _, h => absurd ((h y).2 (List.mem_cons_self ..)) (by simp)
  | x :: a, [], _, _, h => absurd ((h x).1 (List.mem_cons_self ..)) (by simp)
  | x :: a, y :: b, ha, hb, h => by
    unfold Alf at ha hb
    rw [List.pairwise_cons] at ha hb
    have hxy : x = y := by
      rcases List.mem_cons.1 ((h x).1 (List.mem_cons_self ..)) with e | e
      · exact e
      · rcases List.mem_cons.1 ((h y).2 (List.mem_cons_self ..)) with e2 | e2
        · exact e2.symm
        · exact absurd (ha.1 y e2) (tx_lt_asymm (hb.1 x e))
    subst hxy
    rw [Alf.ext ha.2 hb.2 fun z => ?_]
    have hz := h z
    rw [List.mem_cons, List.mem_cons] at hz
    constructor
    · intro hm
      rcases hz.1 (.inr hm) with e | e
      · subst e; exact absurd (ha.1 _ hm) (tx_lt_irrefl _)
      · exact e
    · intro hm
      rcases hz.2 (.inr hm) with e | e
      · subst e; exact absurd (hb.1 _ hm) (tx_lt_irrefl _)
      · exact e

/-- a text laid into such a list -/
def insA : List Tx → Tx → List Tx
  | [], x => [x]
  | y :: l, x => if y < x then y :: insA l x else if y = x then y :: l else x :: y :: l
theorem insA_mem : ∀ {l : List Tx} {x z : Tx}, z ∈ insA l x ↔ z = x ∨ z ∈ l
  | [], x, z => by simp [insA]
  | y :: l, x, z => by
    unfold insA
    split
    · rw [List.mem_cons, insA_mem, List.mem_cons]
      constructor
      · rintro (e | e | e)
        · exact .inr (.inl e)
        · exact .inl e
        · exact .inr (.inr e)
      · rintro (e | e | e)
        · exact .inr (.inl e)
        · exact .inl e
        · exact .inr (.inr e)
    · split
      · rename_i h
        subst h
        simp
      · simp
theorem insA_alf : ∀ {l : List Tx} {x : Tx}, Alf l → Alf (insA l x)
  | [], x, _ => by simp [insA, Alf]
  | y :: l, x, h => by
    unfold Alf at h
    rw [List.pairwise_cons] at h
    unfold insA
    split
    · rename_i hlt
      unfold Alf
      rw [List.pairwise_cons]
      refine ⟨fun z hz => ?_, insA_alf h.2⟩
      rcases insA_mem.1 hz with e | e
      · rw [e]; exact hlt
      · exact h.1 z e
    · split
      · unfold Alf
        rw [List.pairwise_cons]
        exact h
      · rename_i h1 h2
        have hxy : x < y := by
          rcases tx_tri x y with e | e | e
          · exact e
          · exact absurd e.symm h2
          · exact absurd e h1
        unfold Alf
        rw [List.pairwise_cons, List.pairwise_cons]
        refine ⟨fun z hz => ?_, h⟩
        rcases List.mem_cons.1 hz with e | e
        · rw [e]; exact hxy
        · exact tx_lt_trans hxy (h.1 z e)
/-- where it is laid -/
theorem insA_at : ∀ {l : List Tx} {x : Tx} {k : Nat}, k ≤ l.length → (∀ j, j < k → l.getD j [] < x) → (k < l.length → ¬ l.getD k [] < x) → insA l x = if k < l.length ∧ l.getD k [] = x then l else l.take k ++ x :: l.drop k
  | [], x, k, hk, _, _ => by
    obtain rfl : k = 0 := by simpa using hk
    simp [insA]
  | y :: l, x, 0, _, _, h => by
    have h0 : ¬ y < x := by simpa using h (by simp)
    unfold insA
    rw [if_neg h0]
    simp
  | y :: l, x, k + 1, hk, h1, h2 => by
    have h0 : y < x := by simpa using h1 0 (by omega)
    unfold insA
    rw [if_pos h0, insA_at (k := k) (by simpa using hk) (fun j hj => by simpa using h1 (j + 1) (by omega)) (fun hl => by simpa using h2 (by simpa using hl))]
    simp only [List.length_cons, Nat.add_lt_add_iff_right, List.getD_cons_succ, List.take_succ_cons, List.drop_succ_cons, List.cons_append]
    split <;> rfl

/-- texts in order, those that stand beside their like left out -/
def cpt : List Tx → List Tx
  | [] => []
  | [x] => [x]
  | x :: y :: l => if x = y then cpt (y :: l) else x :: cpt (y :: l)
theorem cpt_mem : ∀ {l : List Tx} {z : Tx}, z ∈ cpt l ↔ z ∈ l
  | [], _ => Iff.rfl
  | [x], _ => Iff.rfl
  | x :: y :: l, z => by
    unfold cpt
    split
    · rename_i h
      subst h
      rw [cpt_mem]
      simp
    · rw [List.mem_cons, cpt_mem, List.mem_cons (a := z) (b := x)]
theorem cpt_alf : ∀ {l : List Tx}, l.Pairwise (fun a b => ¬ b < a) → Alf (cpt l)
  | [], _ => List.Pairwise.nil
  | [x], _ => by simp [cpt, Alf]
  | x :: y :: l, h => by
    rw [List.pairwise_cons] at h
    unfold cpt
    split
    · exact cpt_alf h.2
    · rename_i hne
      unfold Alf
      rw [List.pairwise_cons]
      refine ⟨fun z hz => ?_, cpt_alf h.2⟩
      have hm := cpt_mem.1 hz
      have hxy : x < y := by
        rcases tx_tri x y with e | e | e
        · exact e
        · exact absurd e hne
        · exact absurd e (h.1 y (List.mem_cons_self ..))
      rcases List.mem_cons.1 hm with e | e
      · rw [e]; exact hxy
      · have h2 := h.2
        rw [List.pairwise_cons] at h2
        rcases tx_tri y z with q | q | q
        · exact tx_lt_trans hxy q
        · rw [← q]; exact hxy
        · exact absurd q (h2.1 z e)
theorem sort_pair (l : List Tx) : (l.mergeSort fun x y => decide (x ≤ y)).Pairwise (fun a b => ¬ b < a) := by
  have h := List.pairwise_mergeSort (le := fun x y : Tx => decide (x ≤ y)) (fun a b c h1 h2 => by
    simp only [decide_eq_true_eq] at *
    exact List.le_trans h1 h2) (fun a b => by
    simp only [Bool.or_eq_true, decide_eq_true_eq]
    exact List.le_total a b) l
  refine h.imp fun {a b} q => ?_
  simp only [decide_eq_true_eq] at q
  exact List.not_lt.2 q
/-- sorted and each once -/
def sortA (l : List Tx) : List Tx := cpt (l.mergeSort fun x y => decide (x ≤ y))
theorem sortA_alf (l : List Tx) : Alf (sortA l) := cpt_alf (sort_pair l)
theorem sortA_mem {l : List Tx} {x : Tx} : x ∈ sortA l ↔ x ∈ l := by
  unfold sortA
  rw [cpt_mem, List.mem_mergeSort]
theorem sortA_eq {l m : List Tx} (hm : Alf m) (h : ∀ x, x ∈ l ↔ x ∈ m) : sortA l = m := (sortA_alf l).ext hm fun x => sortA_mem.trans (h x)
/-- all texts of a list laid into one -/
def insL (l : List Tx) : List Tx := l.foldl insA []
theorem foldA_alf : ∀ {l m : List Tx}, Alf m → Alf (l.foldl insA m)
  | [], _, h => h
  | _ :: l, _, h => foldA_alf (l := l) (insA_alf h)
theorem foldA_mem : ∀ {l m : List Tx} {z : Tx}, z ∈ l.foldl insA m ↔ z ∈ l ∨ z ∈ m
  | [], m, z => by simp
  | x :: l, m, z => by
    rw [List.foldl_cons, foldA_mem, insA_mem, List.mem_cons]
    constructor
    · rintro (e | e | e)
      · exact .inl (.inr e)
      · exact .inl (.inl e)
      · exact .inr e
    · rintro ((e | e) | e)
      · exact .inr (.inl e)
      · exact .inl e
      · exact .inr (.inr e)
theorem Alf.filter {l : List Tx} (h : Alf l) (p : Tx → Bool) : Alf (l.filter p) := List.Pairwise.filter p h
end Go.Proofs.YtjjhhclaapifbaaGreatDoor
