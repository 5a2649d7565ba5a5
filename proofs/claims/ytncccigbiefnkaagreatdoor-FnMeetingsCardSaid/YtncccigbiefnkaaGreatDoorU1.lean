/- Plain laws of spans that are joined one by one. Plain law of YearsInside: the years told between the changes are the years told one by one. The years of changes, sorted and each once: no program in sight. Rows of spans that the call owns: their cells, their last span grown in place. -/
import Derived.Test.YtncccigbiefnkaaGreatDoorGP
import Derived.Test.YtncccigbiefnkaaGreatDoorGU
import Derived.Lib.SlicesCompact
import Derived.Test.YtncccigbiefnkaaGreatDoorIB
namespace Go.Proofs.YtncccigbiefnkaaGreatDoor

/-- a span joined to those before it: the last one grows where the two touch -/
def joinS (out : List Sn) (s : Sn) : List Sn :=
  match out.getLast? with
  | some t => if s.1 ≤ t.2 + 1 then out.dropLast ++ [(t.1, max t.2 s.2)] else out ++ [s]
  | none => [s]
theorem joinS_nil (s : Sn) : joinS [] s = [s] := rfl
theorem joinS_snoc (o : List Sn) (t s : Sn) : joinS (o ++ [t]) s = if s.1 ≤ t.2 + 1 then o ++ [(t.1, max t.2 s.2)] else o ++ [t] ++ [s] := by
  unfold joinS
  simp
theorem inSp_app {a b : List Sn} {y : Int} : inSp (a ++ b) y ↔ inSp a y ∨ inSp b y := by
  unfold inSp
  constructor
  · rintro ⟨s, hs, h⟩
    rcases List.mem_append.1 hs with e | e
    · exact .inl ⟨s, e, h⟩
    · exact .inr ⟨s, e, h⟩
  · rintro (⟨s, hs, h⟩ | ⟨s, hs, h⟩)
    · exact ⟨s, List.mem_append_left _ hs, h⟩
    · exact ⟨s, List.mem_append_right _ hs, h⟩
theorem inSp_one {s : Sn} {y : Int} : inSp [s] y ↔ s.1 ≤ y ∧ y ≤ s.2 := by
  unfold inSp
  constructor
  · rintro ⟨t, ht, h⟩
    rw [List.mem_singleton] at ht
    rw [← ht]; exact h
  · intro h
    exact ⟨s, List.mem_singleton.2 rfl, h⟩
theorem Nrm.snoc {o : List Sn} {t : Sn} : Nrm (o ++ [t]) ↔ Nrm o ∧ t.1 ≤ t.2 ∧ ∀ u ∈ o, u.2 + 2 ≤ t.1 := by
  unfold Nrm
  rw [List.pairwise_append]
  constructor
  · rintro ⟨⟨h1, _, h2⟩, h3⟩
    exact ⟨⟨h1, fun s hs => h3 s (List.mem_append_left _ hs)⟩, h3 t (List.mem_append_right _ (List.mem_singleton.2 rfl)), fun u hu => h2 u hu t (List.mem_singleton.2 rfl)⟩
  · rintro ⟨⟨h1, h2⟩, h3, h4⟩
    refine ⟨⟨h1, List.pairwise_singleton .., fun u hu v hv => ?_⟩, fun s hs => ?_⟩
    · rw [List.mem_singleton] at hv
      rw [hv]; exact h4 u hu
    · rcases List.mem_append.1 hs with e | e
      · exact h2 s e
      · rw [List.mem_singleton] at e
        rw [e]; exact h3
/-- what joining does to the years -/
theorem joinS_law {out : List Sn} {s : Sn} (h : Nrm out) (hs : s.1 ≤ s.2) (hl : ∀ t ∈ out, t.1 ≤ s.1) :
    Nrm (joinS out s) ∧ (∀ y, inSp (joinS out s) y ↔ inSp out y ∨ (s.1 ≤ y ∧ y ≤ s.2)) ∧ ∀ t ∈ joinS out s, t.1 ≤ s.1 := by
  rcases List.eq_nil_or_concat out with rfl | ⟨o, t, rfl⟩
  · rw [joinS_nil]
    refine ⟨(Nrm.snoc (o := [])).2 ⟨h, hs, fun u hu => by cases hu⟩, fun y => ?_, fun t ht => ?_⟩
    · rw [inSp_one]
      constructor
      · exact .inr
      · rintro (⟨u, hu, _⟩ | e)
        · cases hu
        · exact e
    · rw [List.mem_singleton] at ht
      rw [ht]; exact Int.le_refl _
  · rw [List.concat_eq_append] at *
    rw [joinS_snoc]
    obtain ⟨h1, h2, h3⟩ := Nrm.snoc.1 h
    have ht := hl t (List.mem_append_right _ (List.mem_singleton.2 rfl))
    split
    · rename_i hc
      refine ⟨Nrm.snoc.2 ⟨h1, by simp only; omega, fun u hu => h3 u hu⟩, fun y => ?_, fun u hu => ?_⟩
      · rw [inSp_app, inSp_app, inSp_one, inSp_one]
        simp only
        constructor
        · rintro (e | e)
          · exact .inl (.inl e)
          · rcases Int.lt_or_le t.2 y with c | c
            · exact .inr ⟨by omega, by omega⟩
            · exact .inl (.inr ⟨e.1, c⟩)
        · rintro ((e | e) | e)
          · exact .inl e
          · exact .inr ⟨e.1, by omega⟩
          · exact .inr ⟨by omega, by omega⟩
      · rcases List.mem_append.1 hu with e | e
        · exact hl u (List.mem_append_left _ e)
        · rw [List.mem_singleton] at e
          rw [e]; exact ht
    · rename_i hc
      refine ⟨Nrm.snoc.2 ⟨h, hs, fun u hu => ?_⟩, fun y => ?_, fun u hu => ?_⟩
      · rcases List.mem_append.1 hu with e | e
        · have := h3 u e
          omega
        · rw [List.mem_singleton] at e
          rw [e]; omega
      · rw [inSp_app, inSp_one]
      · rcases List.mem_append.1 hu with e | e
        · exact hl u e
        · rw [List.mem_singleton] at e
          rw [e]; exact Int.le_refl _
/-- spans joined one by one, in the order in which they begin -/
theorem joinL_law : ∀ {S : List Sn} {out : List Sn}, Nrm out → (∀ s ∈ S, s.1 ≤ s.2) → S.Pairwise (fun a b => a.1 ≤ b.1) → (∀ t ∈ out, ∀ s ∈ S, t.1 ≤ s.1) →
    Nrm (S.foldl joinS out) ∧ ∀ y, inSp (S.foldl joinS out) y ↔ inSp out y ∨ inSp S y
  | [], out, h, _, _, _ => ⟨h, fun y => ⟨.inl, fun e => e.elim id fun ⟨_, hs, _⟩ => by cases hs⟩⟩
  | s :: S, out, h, hs, hp, hl => by
    rw [List.pairwise_cons] at hp
    obtain ⟨j1, j2, j3⟩ := joinS_law h (hs s (List.mem_cons_self ..)) fun t ht => hl t ht s (List.mem_cons_self ..)
    obtain ⟨k1, k2⟩ := joinL_law (S := S) j1 (fun t ht => hs t (List.mem_cons_of_mem _ ht)) hp.2 fun t ht u hu => Int.le_trans (j3 t ht) (hp.1 u hu)
    refine ⟨k1, fun y => ?_⟩
    rw [List.foldl_cons, k2, j2, inSp_cons]
    constructor
    · rintro ((e | e) | e)
      · exact .inl e
      · exact .inr (.inl e)
      · exact .inr (.inr e)
    · rintro (e | e | e)
      · exact .inl (.inl e)
      · exact .inl (.inr e)
      · exact .inr e
/-- two ways to tell the same years by spans, joined -/
theorem join_same {S T : List Sn} (hs : ∀ s ∈ S, s.1 ≤ s.2) (ht : ∀ s ∈ T, s.1 ≤ s.2) (ps : S.Pairwise (fun a b => a.1 ≤ b.1)) (pt : T.Pairwise (fun a b => a.1 ≤ b.1)) (h : ∀ y, inSp S y ↔ inSp T y) :
    S.foldl joinS [] = T.foldl joinS [] := by
  have n0 : Nrm [] := ⟨List.Pairwise.nil, fun s hs => by cases hs⟩
  obtain ⟨a1, a2⟩ := joinL_law (S := S) n0 hs ps fun t ht => by cases ht
  obtain ⟨b1, b2⟩ := joinL_law (S := T) n0 ht pt fun t ht => by cases ht
  refine a1.eq b1 fun y => ?_
  rw [a2, b2, h]
end Go.Proofs.YtncccigbiefnkaaGreatDoor
namespace Go.Proofs.YtncccigbiefnkaaGreatDoor

/-- strictly ascending, told by places -/
def As (Y : List Int) : Prop := ∀ i j, i < j → j < Y.length → Y.getD i 0 < Y.getD j 0
/-- the spans between one change and the next in which p holds, as far as the k-th -/
def spTo (Y : List Int) (p : Int → Bool) (k : Nat) : List Sn := (List.range k).flatMap fun i => if p (Y.getD i 0) = true then [(Y.getD i 0, Y.getD (i + 1) 0 - 1)] else []
/-- the years in which p holds, each a span, as far as the k-th -/
def yrTo (p : Int → Bool) (k : Nat) : List Sn := (List.range k).flatMap fun (i : Nat) => if p (-3000 + (i : Int)) = true then [(-3000 + (i : Int), -3000 + (i : Int))] else []
theorem spTo_succ (Y : List Int) (p : Int → Bool) (k : Nat) : spTo Y p (k + 1) = spTo Y p k ++ (if p (Y.getD k 0) = true then [(Y.getD k 0, Y.getD (k + 1) 0 - 1)] else []) := by
  unfold spTo; rw [List.range_succ, List.flatMap_append]; simp
theorem yrTo_succ (p : Int → Bool) (k : Nat) : yrTo p (k + 1) = yrTo p k ++ (if p (-3000 + (k : Int)) = true then [(-3000 + (k : Int), -3000 + (k : Int))] else []) := by
  unfold yrTo; rw [List.range_succ, List.flatMap_append]; simp
theorem spTo_mem {Y : List Int} {p : Int → Bool} {k : Nat} {s : Sn} : s ∈ spTo Y p k ↔ ∃ i, i < k ∧ p (Y.getD i 0) = true ∧ s = (Y.getD i 0, Y.getD (i + 1) 0 - 1) := by
  unfold spTo; rw [List.mem_flatMap]
  constructor
  · rintro ⟨i, hi, hs⟩
    rw [List.mem_range] at hi
    by_cases hp : p (Y.getD i 0) = true
    · rw [if_pos hp] at hs; exact ⟨i, hi, hp, List.mem_singleton.1 hs⟩
    · rw [if_neg hp] at hs; cases hs
  · rintro ⟨i, hi, hp, hs⟩
    exact ⟨i, List.mem_range.2 hi, by rw [if_pos hp]; exact List.mem_singleton.2 hs⟩
theorem yrTo_mem {p : Int → Bool} {k : Nat} {s : Sn} : s ∈ yrTo p k ↔ ∃ i : Nat, i < k ∧ p (-3000 + (i : Int)) = true ∧ s = (-3000 + (i : Int), -3000 + (i : Int)) := by
  unfold yrTo; rw [List.mem_flatMap]
  constructor
  · rintro ⟨i, hi, hs⟩
    rw [List.mem_range] at hi
    by_cases hp : p (-3000 + (i : Int)) = true
    · rw [if_pos hp] at hs; exact ⟨i, hi, hp, List.mem_singleton.1 hs⟩
    · rw [if_neg hp] at hs; cases hs
  · rintro ⟨i, hi, hp, hs⟩
    exact ⟨i, List.mem_range.2 hi, by rw [if_pos hp]; exact List.mem_singleton.2 hs⟩
theorem spTo_asc {Y : List Int} (p : Int → Bool) (h : As Y) : ∀ k, k < Y.length → (spTo Y p k).Pairwise (fun a b => a.1 < b.1)
  | 0, _ => List.Pairwise.nil
  | k + 1, hk => by
    rw [spTo_succ, List.pairwise_append]
    refine ⟨spTo_asc p h k (by omega), ?_, fun a ha b hb => ?_⟩
    · split
      · exact List.pairwise_singleton ..
      · exact List.Pairwise.nil
    · obtain ⟨i, hi, _, rfl⟩ := spTo_mem.1 ha
      split at hb
      · rw [List.mem_singleton] at hb
        rw [hb]; exact h i k hi (by omega)
      · cases hb
theorem spTo_len (Y : List Int) (p : Int → Bool) : ∀ k, (spTo Y p k).length ≤ k
  | 0 => Nat.le_refl _
  | k + 1 => by
    rw [spTo_succ, List.length_append]
    have := spTo_len Y p k
    split <;> simp <;> omega
theorem yrTo_asc (p : Int → Bool) : ∀ k, (yrTo p k).Pairwise (fun a b => a.1 ≤ b.1)
  | 0 => List.Pairwise.nil
  | k + 1 => by
    rw [yrTo_succ, List.pairwise_append]
    refine ⟨yrTo_asc p k, ?_, fun a ha b hb => ?_⟩
    · split
      · exact List.pairwise_singleton ..
      · exact List.Pairwise.nil
    · obtain ⟨i, hi, _, rfl⟩ := yrTo_mem.1 ha
      split at hb
      · rw [List.mem_singleton] at hb
        rw [hb]; simp only; omega
      · cases hb
theorem As.seg {Y : List Int} {y : Int} (h0 : Y.getD 0 0 ≤ y) : ∀ k, y < Y.getD k 0 → ∃ i, i < k ∧ Y.getD i 0 ≤ y ∧ y < Y.getD (i + 1) 0
  | 0, h => absurd h0 (by omega)
  | k + 1, h => by
    rcases Int.lt_or_le y (Y.getD k 0) with c | c
    · obtain ⟨i, hi, e⟩ := As.seg h0 k c
      exact ⟨i, by omega, e⟩
    · exact ⟨k, by omega, c, h⟩
theorem As.gap {Y : List Int} (h : As Y) {i : Nat} (hi : i + 1 < Y.length) {a y : Int} (ha : Y.getD i 0 ≤ a) (hy : y < Y.getD (i + 1) 0) : ∀ m ∈ Y, ¬ (a < m ∧ m ≤ y) := fun m hm hh => by
  obtain ⟨j, hj, e⟩ := List.mem_iff_getElem.1 hm
  have e2 : Y.getD j 0 = m := by simp [List.getD, hj, e]
  rcases Nat.lt_or_ge i j with c | c
  · rcases Nat.eq_or_lt_of_le (show i + 1 ≤ j from c) with d | d
    · rw [← d] at e2; omega
    · have := h (i + 1) j d hj; omega
  · rcases Nat.eq_or_lt_of_le c with d | d
    · rw [d] at e2; omega
    · have := h j i d (by omega); omega
/-- the years told between the changes, joined, are the years told one by one, joined -/
theorem years_law {Y : List Int} {p : Int → Bool} (hY : As Y) (h0 : Y.getD 0 0 = -3000) (hl : Y.getD (Y.length - 1) 0 = 3001)
    (hc : ∀ a b, a ≤ b → (∀ m ∈ Y, ¬ (a < m ∧ m ≤ b)) → p a = p b) : (spTo Y p (Y.length - 1)).foldl joinS [] = (yrTo p 6001).foldl joinS [] := by
  have hlen : 2 ≤ Y.length := by
    rcases Nat.lt_or_ge Y.length 2 with c | c
    · have : Y.length - 1 = 0 := by omega
      rw [this] at hl; omega
    · exact c
  refine join_same (fun s hs => ?_) (fun s hs => ?_) ((spTo_asc p hY _ (by omega)).imp (fun h => Int.le_of_lt h)) (yrTo_asc p _) (fun y => ?_)
  · obtain ⟨i, hi, _, rfl⟩ := spTo_mem.1 hs
    have := hY i (i + 1) (by omega) (by omega)
    simp only; omega
  · obtain ⟨i, hi, _, rfl⟩ := yrTo_mem.1 hs
    exact Int.le_refl _
  · constructor
    · rintro ⟨s, hs, h1, h2⟩
      obtain ⟨i, hi, hp, rfl⟩ := spTo_mem.1 hs
      simp only at h1 h2
      have e : p (Y.getD i 0) = p y := hc _ _ h1 (hY.gap (by omega) (Int.le_refl _) (by omega))
      have hlo : -3000 ≤ y := by
        rcases Nat.eq_zero_or_pos i with c | c
        · rw [c] at h1; omega
        · have := hY 0 i c (by omega); omega
      have hhi : y ≤ 3000 := by
        rcases Nat.eq_or_lt_of_le (show i + 1 ≤ Y.length - 1 by omega) with c | c
        · rw [c] at h2; omega
        · have := hY (i + 1) (Y.length - 1) c (by omega); omega
      have ey : -3000 + ((y + 3000).toNat : Int) = y := by omega
      refine ⟨(y, y), yrTo_mem.2 ⟨(y + 3000).toNat, by omega, ?_, ?_⟩, Int.le_refl _, Int.le_refl _⟩
      · rw [ey, ← e]; exact hp
      · rw [ey]
    · rintro ⟨s, hs, h1, h2⟩
      obtain ⟨i, hi, hp, rfl⟩ := yrTo_mem.1 hs
      simp only at h1 h2
      have ey : -3000 + (i : Int) = y := by omega
      rw [ey] at hp
      obtain ⟨j, hj, j1, j2⟩ := As.seg (Y := Y) (y := y) (by omega) (Y.length - 1) (by omega)
      have e : p (Y.getD j 0) = p y := hc _ _ j1 (hY.gap (by omega) (Int.le_refl _) j2)
      exact ⟨_, spTo_mem.2 ⟨j, hj, by rw [e]; exact hp, rfl⟩, j1, by simp only; omega⟩
/-- whether b lies on the way up from a in a year -/
def insY (L : List Lk) (a b : List UInt8) (y : Int) : Bool := decide (b ∈ (wayU L a y).1)
theorem insY_const {L : List Lk} {c d : List UInt8} {Y : List Int} (hm : ∀ l ∈ L, l.2.2.1 ∈ Y ∧ l.2.2.2 + 1 ∈ Y) (a b : Int) (hab : a ≤ b) (h : ∀ m ∈ Y, ¬ (a < m ∧ m ≤ b)) : insY L c d a = insY L c d b := by
  unfold insY
  rw [way_const fun l hl => lkHas_const hab (h _ (hm l hl).1) (h _ (hm l hl).2)]
/-- spans in a strict order: what is a permutation and in order is the same -/
theorem perm_asc : ∀ {a b : List Sn}, a.Perm b → b.Pairwise (fun s t => s.1 < t.1) → a.Pairwise (fun s t => ¬ t.1 < s.1) → a = b
  | [], b, h, _, _ => h.nil_eq
  | s :: a, [], h, _, _ => absurd h.length_eq (by simp)
  | s :: a, t :: b, h, hb, ha => by
    rw [List.pairwise_cons] at ha hb
    have e : s = t := by
      have h1 : t ∈ s :: a := h.mem_iff.2 (List.mem_cons_self ..)
      have h2 : s ∈ t :: b := h.mem_iff.1 (List.mem_cons_self ..)
      rcases List.mem_cons.1 h1 with e | e
      · exact e.symm
      · rcases List.mem_cons.1 h2 with f | f
        · exact f
        · exact absurd (hb.1 s f) (ha.1 t e)
    subst e
    rw [perm_asc (List.perm_cons s |>.1 h) hb.2 ha.2]
end Go.Proofs.YtncccigbiefnkaaGreatDoor
namespace Go.Proofs.YtncccigbiefnkaaGreatDoor
/-- the years of changes as they are gathered -/
def chL (L : List Lk) (k : Nat) : List Int := [-3000, 3001] ++ (L.take k).flatMap fun l => [l.2.2.1, l.2.2.2 + 1]
theorem chL_zero (L : List Lk) : chL L 0 = [-3000, 3001] := rfl
theorem chL_succ {L : List Lk} {k : Nat} (hk : k < L.length) : chL L (k + 1) = chL L k ++ [(L.getD k lkD).2.2.1, (L.getD k lkD).2.2.2 + 1] := by
  unfold chL
  rw [List.take_succ_eq_append_getElem hk, List.flatMap_append, show L.getD k lkD = L[k] by simp [List.getD, hk], List.append_assoc]
  simp
theorem chL_len (L : List Lk) : ∀ k, k ≤ L.length → (chL L k).length = 2 * k + 2
  | 0, _ => rfl
  | k + 1, h => by
    rw [chL_succ (by omega), List.length_append, chL_len L k (by omega)]
    simp only [List.length_cons, List.length_nil]
    omega
theorem toArr_getI {l : List Int} {j : Nat} (hj : j < l.length) : l.toArray[j]! = l[j] := by
  rw [getElem!_pos l.toArray j (by simpa using hj)]
  simp
theorem compact_ascI {l : List Int} (h : l.Pairwise (fun a b => a ≤ b)) : (Lib.compact l).Pairwise (fun a b => a < b) := by
  unfold Lib.compact Lib.compactUpTo
  rw [List.pairwise_map]
  refine List.Pairwise.imp_of_mem ?_ (List.Pairwise.filter _ List.pairwise_lt_range)
  intro a b ha hb hab
  have hbl := List.mem_range.1 (List.mem_filter.1 hb).1
  have hk := (List.mem_filter.1 hb).2
  simp only [Lib.keeps, decide_eq_true_eq] at hk
  have hal : a < l.length := by omega
  have hb1 : b - 1 < l.length := by omega
  rw [toArr_getI hbl, toArr_getI hb1] at hk
  rw [toArr_getI hbl, toArr_getI hal]
  have hp := List.pairwise_iff_getElem.1 h
  have h2 := hp (b - 1) b hb1 hbl (by omega)
  have hne : ¬ l[b] = l[b - 1] := by
    rcases hk with e | e
    · omega
    · exact e
  rcases Nat.lt_or_ge a (b - 1) with c | c
  · have h3 := hp a (b - 1) hal hb1 c
    omega
  · have : a = b - 1 := by omega
    subst this
    omega
theorem compact_memI {l : List Int} {x : Int} : x ∈ Lib.compact l ↔ x ∈ l := by
  unfold Lib.compact Lib.compactUpTo
  constructor
  · intro h
    obtain ⟨j, hj, rfl⟩ := List.mem_map.1 h
    have hjl := List.mem_range.1 (List.mem_filter.1 hj).1
    rw [toArr_getI hjl]
    exact List.getElem_mem hjl
  · intro h
    obtain ⟨j, hj, rfl⟩ := List.mem_iff_getElem.1 h
    have key : ∀ (j : Nat) (hj : j < l.length), l[j] ∈ ((List.range l.length).filter (Lib.keeps l.toArray)).map (l.toArray[·]!) := by
      intro j
      induction j with
      | zero =>
        intro hj
        refine List.mem_map.2 ⟨0, List.mem_filter.2 ⟨List.mem_range.2 hj, by simp [Lib.keeps]⟩, toArr_getI hj⟩
      | succ j ih =>
        intro hj
        have hj1 : j < l.length := by omega
        by_cases e : l[j + 1] = l[j]
        · rw [e]; exact ih hj1
        · refine List.mem_map.2 ⟨j + 1, List.mem_filter.2 ⟨List.mem_range.2 hj, ?_⟩, toArr_getI hj⟩
          simp only [Lib.keeps, decide_eq_true_eq]
          right
          rw [Nat.add_sub_cancel, toArr_getI hj, toArr_getI hj1]
          exact e
    exact key j hj
theorem compact_lenI (l : List Int) : (Lib.compact l).length ≤ l.length := by
  unfold Lib.compact Lib.compactUpTo
  rw [List.length_map]
  have := List.length_filter_le (Lib.keeps l.toArray) (List.range l.length)
  rwa [List.length_range] at this
theorem sort_pairI (l : List Int) : (l.mergeSort fun x y => decide (x ≤ y)).Pairwise (fun a b => a ≤ b) := by
  have h := List.pairwise_mergeSort (le := fun x y : Int => decide (x ≤ y)) (fun a b c h1 h2 => by
    simp only [decide_eq_true_eq] at *
    exact Int.le_trans h1 h2) (fun a b => by
    simp only [Bool.or_eq_true, decide_eq_true_eq]
    exact Int.le_total a b) l
  refine h.imp fun {a b} q => ?_
  simpa only [decide_eq_true_eq] using q
/-- the years of changes, sorted, each once -/
def chY (L : List Lk) : List Int := Lib.compact ((chL L L.length).mergeSort fun x y => decide (x ≤ y))
theorem chY_mem {L : List Lk} {z : Int} : z ∈ chY L ↔ z ∈ chL L L.length := by
  unfold chY
  rw [compact_memI, List.mem_mergeSort]
theorem chY_len (L : List Lk) : (chY L).length ≤ 2 * L.length + 2 := by
  have := compact_lenI ((chL L L.length).mergeSort fun x y => decide (x ≤ y))
  rw [List.length_mergeSort, chL_len L _ (Nat.le_refl _)] at this
  exact this
theorem as_of {l : List Int} (h : l.Pairwise (fun a b => a < b)) : As l := fun i j hij hj => by
  have := List.pairwise_iff_getElem.1 h i j (by omega) hj hij
  rw [show l.getD i 0 = l[i] by simp [List.getD, show i < l.length by omega], show l.getD j 0 = l[j] by simp [List.getD, hj]]
  exact this
theorem chY_as (L : List Lk) : As (chY L) := as_of (compact_ascI (sort_pairI _))
theorem chL_in {L : List Lk} (h : lksB L = true) : ∀ z ∈ chL L L.length, -3000 ≤ z ∧ z ≤ 3001 := by
  intro z hz
  unfold chL at hz
  rw [List.take_length] at hz
  rcases List.mem_append.1 hz with hz | hz
  · simp at hz
    rcases hz with rfl | rfl <;> omega
  · obtain ⟨l, hl, hm⟩ := List.mem_flatMap.1 hz
    obtain ⟨j, hj, rfl⟩ := List.mem_iff_getElem.1 hl
    have h1 := ((lksB_iff.1 h).1.1 j hj).1
    rw [show L.getD j lkD = L[j] by simp [List.getD, hj]] at h1
    unfold lkB at h1
    simp only [Bool.and_eq_true] at h1
    obtain ⟨b1, b2, b3⟩ := spB_iff.1 h1.2
    simp at hm
    rcases hm with rfl | rfl <;> omega
theorem chY_at {L : List Lk} {z : Int} (h : z ∈ chL L L.length) : ∃ j, j < (chY L).length ∧ (chY L).getD j 0 = z := by
  obtain ⟨j, hj, e⟩ := List.mem_iff_getElem.1 (chY_mem.2 h)
  exact ⟨j, hj, by simp [List.getD, hj, e]⟩
theorem chY_of {L : List Lk} {j : Nat} (hj : j < (chY L).length) : (chY L).getD j 0 ∈ chL L L.length := by
  refine chY_mem.1 ?_
  rw [show (chY L).getD j 0 = (chY L)[j] by simp [List.getD, hj]]
  exact List.getElem_mem hj
theorem chY_first {L : List Lk} (h : lksB L = true) : (chY L).getD 0 0 = -3000 := by
  obtain ⟨j, hj, e⟩ := chY_at (L := L) (z := -3000) (by unfold chL; simp)
  rcases Nat.eq_zero_or_pos j with c | c
  · rw [c] at e; exact e
  · have h1 := chY_as L 0 j c hj
    have h2 := (chL_in h _ (chY_of (j := 0) (by omega))).1
    omega
theorem chY_last {L : List Lk} (h : lksB L = true) : (chY L).getD ((chY L).length - 1) 0 = 3001 := by
  obtain ⟨j, hj, e⟩ := chY_at (L := L) (z := 3001) (by unfold chL; simp)
  rcases Nat.eq_or_lt_of_le (show j ≤ (chY L).length - 1 by omega) with c | c
  · rw [← c]; exact e
  · have h1 := chY_as L j _ c (by omega)
    have h2 := (chL_in h _ (chY_of (j := (chY L).length - 1) (by omega))).2
    omega
theorem chY_links {L : List Lk} : ∀ l ∈ L, l.2.2.1 ∈ chY L ∧ l.2.2.2 + 1 ∈ chY L := fun l hl => by
  rw [chY_mem, chY_mem]
  unfold chL
  rw [List.take_length]
  exact ⟨List.mem_append_right _ (List.mem_flatMap.2 ⟨l, hl, by simp⟩), List.mem_append_right _ (List.mem_flatMap.2 ⟨l, hl, by simp⟩)⟩
/-- the set of years in which b lies on the way up from a -/
def yrS (L : List Lk) (a b : List UInt8) : List Sn := (yrTo (insY L a b) 6001).foldl joinS []
/-- the spans that the program gathers -/
def yiS (L : List Lk) (a b : List UInt8) (k : Nat) : List Sn := spTo (chY L) (insY L a b) k
theorem yrS_law {L : List Lk} (h : lksB L = true) (a b : List UInt8) : (yiS L a b ((chY L).length - 1)).foldl joinS [] = yrS L a b :=
  years_law (chY_as L) (chY_first h) (chY_last h) (insY_const chY_links)
theorem yiS_asc (L : List Lk) (a b : List UInt8) : (yiS L a b ((chY L).length - 1)).Pairwise (fun s t => s.1 < t.1) := by
  rcases Nat.eq_zero_or_pos (chY L).length with c | c
  · rw [c]; exact List.Pairwise.nil
  · exact spTo_asc _ (chY_as L) _ (by omega)
end Go.Proofs.YtncccigbiefnkaaGreatDoor
namespace Go.Proofs.YtncccigbiefnkaaGreatDoor
open Go.RowKit

/-- a span as two cells -/
def encSn (s : Sn) : List Value := [.int .i64 s.1, .int .i64 s.2]
theorem len_encSn : ∀ s, (encSn s).length = 2 := fun _ => rfl
theorem one_encSn : ∀ s, ∀ u ∈ encSn s, u.oneCell' = true := by
  intro s u hu
  simp [encSn] at hu
  rcases hu with rfl | rfl <;> rfl
theorem elSn : ElT Tryz.prog 27 82 2 16 := ElT.mk' (z := .agg #[.int .i64 0, .int .i64 0]) Tryz.underlying27 (by kernel_rfl) rfl (by omega)
abbrev OwSn (w : World) (base : Nat) (v : Value) (xs : List Sn) : Prop := Own encSn 2 82 w base v xs
theorem blk_sn1 {w : World} {g : Nat} {t : TypeId} {s : Sn} {cs : Array Value} (h : Blk w g t cs) (e : cs = #[.int .i64 s.1, .int .i64 s.2]) : SlAt w 2 encSn (some ⟨g, 0, none⟩) [s] := by
  subst e; exact h.sl rfl len_encSn
theorem SlAt.sn {w : World} {A : Option Addr} {S : List Sn} (h : SlAt w 2 encSn A S) {k : Nat} (hk : k < S.length) :
    ∃ b off, A = some ⟨b, off, none⟩ ∧ b < w.heap.size ∧ w.cell? ⟨b, off + k * 2, none⟩ = some (.int .i64 (S.getD k (0, 0)).1) ∧ w.cell? ⟨b, off + k * 2 + 1, none⟩ = some (.int .i64 (S.getD k (0, 0)).2) := by
  obtain ⟨b, off, e, hb, hc⟩ := h (by omega)
  have hg : S[k]? = some (S.getD k (0, 0)) := by simp [List.getD, hk]
  exact ⟨b, off, e, hb, by simpa using hc k _ hg 0 _ rfl, hc k _ hg 1 _ rfl⟩
theorem getD_snoc {α : Type} (o : List α) (s d : α) : (o ++ [s]).getD o.length d = s := by simp [List.getD]
theorem flat_snoc {o : List Sn} {s : Sn} {y : Int} : ((o ++ [s]).flatMap encSn).set (o.length * 2 + 1) (.int .i64 y) = (o ++ [(s.1, y)]).flatMap encSn := by
  have hl : (o.flatMap encSn).length = o.length * 2 := flatMap_len len_encSn o
  rw [List.flatMap_append, List.flatMap_append, List.set_append_right _ _ (by omega), hl]
  simp [encSn]
/-- the last span of an owned row: where it lies -/
theorem OwSn.last {w : World} {base : Nat} {v : Value} {o : List Sn} {s : Sn} (h : OwSn w base v (o ++ [s])) :
    ∃ g cap, v = .slice (some ⟨g, 0, none⟩) (o.length + 1) cap ∧ base ≤ g ∧ g < w.heap.size ∧ w.cell? ⟨g, o.length * 2, none⟩ = some (.int .i64 s.1) ∧ w.cell? ⟨g, o.length * 2 + 1, none⟩ = some (.int .i64 s.2) ∧ w.frozen? ⟨g, o.length * 2 + 1, none⟩ = false := by
  obtain ⟨g, cap, cur, rfl, hb, hB, hn, hm, hs, ht⟩ := h.open_ (by simp)
  have hlt : g < w.heap.size := hB.lt
  obtain ⟨A, c, e, hS, _⟩ := h.sl len_encSn
  injection e with e1 e2 e3
  subst e1 e3
  obtain ⟨b, off, e, _, h1, h2⟩ := hS.sn (k := o.length) (by simp)
  injection e with e
  injection e with e4 e5
  subst e4 e5
  rw [getD_snoc] at h1 h2
  refine ⟨g, cap, by simp, hb, hlt, by simpa using h1, by simpa using h2, ?_⟩
  have h' := h
  unfold OwSn Own at h'
  exact World.ownsRow.frozenAt (by simpa using h') _
theorem OwSn.at_ {w : World} {base g n cap : Nat} {o : List Sn} {s : Sn} (h : OwSn w base (.slice (some ⟨g, 0, none⟩) n cap) (o ++ [s])) :
    n = o.length + 1 ∧ base ≤ g ∧ g < w.heap.size ∧ w.cell? ⟨g, o.length * 2, none⟩ = some (.int .i64 s.1) ∧ w.cell? ⟨g, o.length * 2 + 1, none⟩ = some (.int .i64 s.2) ∧ w.frozen? ⟨g, o.length * 2 + 1, none⟩ = false := by
  obtain ⟨g', cap', e, r⟩ := h.last
  injection e with e1 e2 e3
  injection e1 with e1
  injection e1 with e1
  subst e1
  exact ⟨e2, r⟩
/-- the last span grown in place -/
theorem OwSn.grow {w : World} {base g cap : Nat} {o : List Sn} {s : Sn} (h : OwSn w base (.slice (some ⟨g, 0, none⟩) (o.length + 1) cap) (o ++ [s])) (y : Int) :
    OwSn (w.setCell ⟨g, o.length * 2 + 1, none⟩ (.int .i64 y)) base (.slice (some ⟨g, 0, none⟩) (o.length + 1) cap) (o ++ [(s.1, y)]) ∧ w.grownBy (w.setCell ⟨g, o.length * 2 + 1, none⟩ (.int .i64 y)) (some g) := by
  unfold OwSn Own at *
  simp only [List.length_append, List.length_cons, List.length_nil] at *
  obtain ⟨a, b⟩ := World.ownsRow.stored h (o.length * 2 + 1) (.int .i64 y)
  rw [flat_snoc] at a
  exact ⟨a, b⟩
/-- what the specification tells so far -/
def yrK (L : List Lk) (a b : List UInt8) (k : Nat) : List Sn := (yrTo (insY L a b) k).foldl joinS []
theorem yrK_no {L : List Lk} {a b : List UInt8} {k : Nat} (h : insY L a b (-3000 + (k : Int)) = false) : yrK L a b (k + 1) = yrK L a b k := by
  unfold yrK
  rw [yrTo_succ, if_neg (by rw [h]; exact Bool.false_ne_true), List.append_nil]
theorem yrK_yes {L : List Lk} {a b : List UInt8} {k : Nat} (h : insY L a b (-3000 + (k : Int)) = true) : yrK L a b (k + 1) = joinS (yrK L a b k) (-3000 + (k : Int), -3000 + (k : Int)) := by
  unfold yrK
  rw [yrTo_succ, if_pos h, List.foldl_append]; rfl
theorem joinS_mem {out : List Sn} {s t : Sn} (h : t ∈ joinS out s) : t ∈ out ∨ t.2 = s.2 ∨ ∃ u ∈ out, t = (u.1, max u.2 s.2) := by
  rcases List.eq_nil_or_concat out with rfl | ⟨o, u, rfl⟩
  · rw [joinS_nil, List.mem_singleton] at h
    rw [h]; exact .inr (.inl rfl)
  · rw [List.concat_eq_append] at *
    rw [joinS_snoc] at h
    split at h
    · rcases List.mem_append.1 h with e | e
      · exact .inl (List.mem_append_left _ e)
      · exact .inr (.inr ⟨u, List.mem_append_right _ (List.mem_singleton.2 rfl), List.mem_singleton.1 e⟩)
    · rcases List.mem_append.1 h with e | e
      · exact .inl e
      · rw [List.mem_singleton.1 e]; exact .inr (.inl rfl)
theorem yrK_lt (L : List Lk) (a b : List UInt8) : ∀ k, ∀ t ∈ yrK L a b k, t.2 < -3000 + (k : Int)
  | 0, t, ht => by cases ht
  | k + 1, t, ht => by
    cases h : insY L a b (-3000 + (k : Int)) with
    | false =>
      rw [yrK_no h] at ht
      have := yrK_lt L a b k t ht
      omega
    | true =>
      rw [yrK_yes h] at ht
      rcases joinS_mem ht with e | e | ⟨u, hu, rfl⟩
      · have := yrK_lt L a b k t e
        omega
      · rw [e]; simp only; omega
      · have := yrK_lt L a b k u hu
        simp only; omega
theorem joinS_len (out : List Sn) (s : Sn) : (joinS out s).length ≤ out.length + 1 := by
  rcases List.eq_nil_or_concat out with rfl | ⟨o, u, rfl⟩
  · rw [joinS_nil]; exact Nat.le_refl _
  · rw [List.concat_eq_append, joinS_snoc]
    split <;> simp
theorem yrK_len (L : List Lk) (a b : List UInt8) : ∀ k, (yrK L a b k).length ≤ k
  | 0 => Nat.le_refl _
  | k + 1 => by
    have := yrK_len L a b k
    cases h : insY L a b (-3000 + (k : Int)) with
    | false => rw [yrK_no h]; omega
    | true =>
      rw [yrK_yes h]
      have := joinS_len (yrK L a b k) (-3000 + (k : Int), -3000 + (k : Int))
      omega
/-- the year hangs on to the last span -/
theorem yrK_on {L : List Lk} {a b : List UInt8} {k : Nat} {o : List Sn} {s : Sn} (h : insY L a b (-3000 + (k : Int)) = true) (e : yrK L a b k = o ++ [s]) (hs : s.2 = -3000 + (k : Int) - 1) : yrK L a b (k + 1) = o ++ [(s.1, -3000 + (k : Int))] := by
  rw [yrK_yes h, e, joinS_snoc, if_pos (by simp only; omega)]
  simp only
  rw [show max s.2 (-3000 + (k : Int)) = -3000 + (k : Int) by omega]
/-- the year stands by itself -/
theorem yrK_new {L : List Lk} {a b : List UInt8} {k : Nat} {o : List Sn} {s : Sn} (h : insY L a b (-3000 + (k : Int)) = true) (e : yrK L a b k = o ++ [s]) (hs : s.2 ≠ -3000 + (k : Int) - 1) : yrK L a b (k + 1) = yrK L a b k ++ [(-3000 + (k : Int), -3000 + (k : Int))] := by
  have := yrK_lt L a b k s (by rw [e]; exact List.mem_append_right _ (List.mem_singleton.2 rfl))
  rw [yrK_yes h, e, joinS_snoc, if_neg (by simp only; omega)]
theorem yrK_first {L : List Lk} {a b : List UInt8} {k : Nat} (h : insY L a b (-3000 + (k : Int)) = true) (e : yrK L a b k = []) : yrK L a b (k + 1) = [(-3000 + (k : Int), -3000 + (k : Int))] := by
  rw [yrK_yes h, e, joinS_nil]
end Go.Proofs.YtncccigbiefnkaaGreatDoor
