/- Plain laws of links between places and of the ways up: no program in sight. Plain laws of texts in alphabetical order, each once: no program in sight. Plain laws of years: what stays between marks, and spans of which no two touch. -/
import Derived.Test.YtbnkiibjhfcffaaGreatDoorG0
import Derived.Sort.Walk0
namespace Go.Proofs.YtbnkiibjhfcffaaGreatDoor

/-- a link: child, parent, first year, last year -/
abbrev Lk := List UInt8 × List UInt8 × Int × Int
def lkD : Lk := ([], [], 0, 0)
def lkHas (l : Lk) (y : Int) : Bool := inB y l.2.2.1 l.2.2.2
theorem lkHas_iff {l : Lk} {y : Int} : lkHas l y = true ↔ l.2.2.1 ≤ y ∧ y ≤ l.2.2.2 := by simp [lkHas, inB]
def lkOf (L : List Lk) (c : List UInt8) (y : Int) : Option Lk := L.find? fun l => l.1 == c && lkHas l y
/-- the parent of a place in a year -/
def par (L : List Lk) (c : List UInt8) (y : Int) : Option (List UInt8) := (lkOf L c y).map fun l => l.2.1
theorem lkOf_some {L : List Lk} {c : List UInt8} {y : Int} {l : Lk} (h : lkOf L c y = some l) : l ∈ L ∧ l.1 = c ∧ lkHas l y = true := by
  have h1 := List.mem_of_find?_eq_some h
  have h2 := List.find?_some h
  simp only [Bool.and_eq_true, beq_iff_eq] at h2
  exact ⟨h1, h2.1, h2.2⟩
theorem lkOf_ex {L : List Lk} {l : Lk} {y : Int} (h : l ∈ L) (hy : lkHas l y = true) : ∃ l', lkOf L l.1 y = some l' := by
  rcases h' : lkOf L l.1 y with _ | l'
  · unfold lkOf at h'
    rw [List.find?_eq_none] at h'
    have := h' l h
    simp [hy] at this
  · exact ⟨l', rfl⟩
theorem par_mem {L : List Lk} {c n : List UInt8} {y : Int} (h : par L c y = some n) : c ∈ L.map fun l => l.1 := by
  unfold par at h
  rcases hl : lkOf L c y with _ | l
  · rw [hl] at h; cases h
  · obtain ⟨h1, h2, _⟩ := lkOf_some hl
    exact List.mem_map.2 ⟨l, h1, h2⟩

theorem nodup_le {α : Type} [DecidableEq α] : ∀ {l m : List α}, l.Nodup → (∀ x ∈ l, x ∈ m) → l.length ≤ m.length
  | [], _, _, _ => Nat.zero_le _
  | a :: l, m, hn, hs => by
    have ha : a ∈ m := hs a (List.mem_cons_self ..)
    rw [List.nodup_cons] at hn
    have h1 := nodup_le (l := l) (m := m.erase a) hn.2 fun x hx => (List.mem_erase_of_ne (fun e => hn.1 (by rw [← e]; exact hx))).2 (hs x (List.mem_cons_of_mem _ hx))
    rw [List.length_erase_of_mem ha] at h1
    have h2 := List.length_pos_of_mem ha
    simp only [List.length_cons]
    omega

section
variable {α : Type} {p : α → Option α} {ch : List α} {f : Nat} {w : List α} {c n : α}
/-- the way so far: no place twice, each but the last one among ch and followed by its parent -/
structure WayOk (p : α → Option α) (ch : List α) (f : Nat) (w : List α) (c : α) : Prop where
  nd : w.Nodup
  mem : ∀ x ∈ w, x = c ∨ x ∈ ch
  last : w.getLast? = some c
  fuel : ch.length + 2 ≤ f + w.length
  chain : ∀ i x y, w[i]? = some x → w[i + 1]? = some y → p x = some y
theorem WayOk.start (p : α → Option α) (ch : List α) (c : α) : WayOk p ch (ch.length + 1) [c] c :=
  ⟨by simp, fun x hx => .inl (List.mem_singleton.1 hx), rfl, by simp, fun i x y _ h => by simp at h⟩
theorem WayOk.step (h : WayOk p ch (f + 1) w c) (hc : ∀ x n, p x = some n → x ∈ ch) (hp : p c = some n) (hn : n ∉ w) : WayOk p ch f (w ++ [n]) n := by
  refine ⟨?_, fun x hx => ?_, by simp, ?_, fun i x y hx hy => ?_⟩
  · rw [List.nodup_append]
    refine ⟨h.nd, by simp, fun a ha b hb e => ?_⟩
    rw [List.mem_singleton.1 hb] at e
    exact hn (e ▸ ha)
  · rcases List.mem_append.1 hx with hx | hx
    · exact .inr ((h.mem x hx).elim (fun e => e ▸ hc c n hp) id)
    · exact .inl (List.mem_singleton.1 hx)
  · have := h.fuel
    rw [List.length_append, List.length_singleton]
    omega
  · rcases Nat.lt_or_ge (i + 1) w.length with hi | hi
    · rw [List.getElem?_append_left hi] at hy
      rw [List.getElem?_append_left (by omega)] at hx
      exact h.chain i x y hx hy
    · rw [List.getElem?_append_right hi] at hy
      have h0 : i + 1 - w.length = 0 := by
        rcases Nat.eq_zero_or_pos (i + 1 - w.length) with e | e
        · exact e
        · rw [List.getElem?_eq_none (by simp; omega)] at hy; cases hy
      rw [h0] at hy
      simp at hy
      subst hy
      rw [List.getElem?_append_left (by omega)] at hx
      have hl := h.last
      rw [List.getLast?_eq_getElem?, show w.length - 1 = i by omega, hx] at hl
      injection hl with hl
      rw [hl]; exact hp
end
section
variable {α : Type} [DecidableEq α] {p : α → Option α} {ch : List α} {f : Nat} {w : List α} {c n : α}
/-- the way up from c, as far as no place comes again; and whether one would come again -/
def way (p : α → Option α) : Nat → List α → α → List α × Bool
  | 0, w, _ => (w, false)
  | f + 1, w, c => match p c with
    | none => (w, false)
    | some n => if n ∈ w then (w, true) else way p f (w ++ [n]) n
theorem WayOk.pos (h : WayOk p ch f w c) (hc : ∀ x n, p x = some n → x ∈ ch) (hp : p c = some n) : 0 < f ∧ w.length ≤ ch.length := by
  have h1 := nodup_le h.nd fun x hx => (h.mem x hx).elim (fun e => e ▸ hc c n hp) id
  have h2 := h.fuel
  omega
theorem WayOk.len (h : WayOk p ch f w c) : w.length ≤ ch.length + 1 := by
  have h1 := nodup_le (m := c :: ch) h.nd fun x hx => (h.mem x hx).elim (fun e => e ▸ List.mem_cons_self ..) (List.mem_cons_of_mem _)
  simpa using h1
theorem way_none (hp : p c = none) : way p f w c = (w, false) := by cases f <;> simp [way, hp]
theorem way_hit (hf : 0 < f) (hp : p c = some n) (hm : n ∈ w) : way p f w c = (w, true) := by
  obtain ⟨f, rfl⟩ : ∃ k, f = k + 1 := ⟨f - 1, by omega⟩
  simp [way, hp, hm]
theorem way_on (hp : p c = some n) (hn : n ∉ w) : way p (f + 1) w c = way p f (w ++ [n]) n := by simp [way, hp, hn]
/-- a way ends well, or in a circle; its last place tells -/
theorem way_end (hc : ∀ x n, p x = some n → x ∈ ch) : ∀ (f : Nat) (w : List α) (c : α), WayOk p ch f w c →
    ∃ (f' : Nat) (c' : α), WayOk p ch f' (way p f w c).1 c' ∧ (way p f w c).2 = (p c').isSome ∧ (∀ n, p c' = some n → n ∈ (way p f w c).1)
  | 0, w, c, h => by
    rcases hp : p c with _ | n
    · exact ⟨0, c, by rw [way_none hp]; exact h, by rw [way_none hp, hp]; rfl, fun n e => by rw [hp] at e; cases e⟩
    · have := (h.pos hc hp).1
      omega
  | f + 1, w, c, h => by
    rcases hp : p c with _ | n
    · exact ⟨f + 1, c, by rw [way_none hp]; exact h, by rw [way_none hp, hp]; rfl, fun n e => by rw [hp] at e; cases e⟩
    · by_cases hm : n ∈ w
      · refine ⟨f + 1, c, by rw [way_hit (by omega) hp hm]; exact h, by rw [way_hit (by omega) hp hm, hp]; rfl, fun m e => ?_⟩
        rw [hp] at e
        injection e with e
        rw [way_hit (by omega) hp hm, ← e]; exact hm
      · rw [way_on hp hm]
        exact way_end hc f (w ++ [n]) n (h.step hc hp hm)
theorem way_circ (hc : ∀ x n, p x = some n → x ∈ ch) (h : WayOk p ch f w c) : (way p f w c).2 = ((way p f w c).1.getLast?.bind p).isSome := by
  obtain ⟨f', c', h1, h2, _⟩ := way_end hc f w c h
  rw [h1.last, h2]; rfl
/-- in a set that each parent stays in, each way comes back -/
theorem way_closed (hc : ∀ x n, p x = some n → x ∈ ch) {S : List α} (hS : ∀ x ∈ S, ∃ n ∈ S, p x = some n) : ∀ (f : Nat) (w : List α) (c : α), WayOk p ch f w c → c ∈ S → (way p f w c).2 = true
  | 0, w, c, h, hs => by
    obtain ⟨n, _, hp⟩ := hS c hs
    have := (h.pos hc hp).1
    omega
  | f + 1, w, c, h, hs => by
    obtain ⟨n, hn, hp⟩ := hS c hs
    by_cases hm : n ∈ w
    · rw [way_hit (by omega) hp hm]
    · rw [way_on hp hm]
      exact way_closed hc hS f (w ++ [n]) n (h.step hc hp hm) hn
/-- a way that comes back goes round -/
theorem way_cycle (hc : ∀ x n, p x = some n → x ∈ ch) (h : WayOk p ch f w c) (hb : (way p f w c).2 = true) : ∃ S : List α, S ≠ [] ∧ ∀ x ∈ S, ∃ n ∈ S, p x = some n := by
  obtain ⟨f', c', h1, h2, h3⟩ := way_end hc f w c h
  rw [hb] at h2
  obtain ⟨n, hp⟩ := Option.isSome_iff_exists.1 h2.symm
  have hm := h3 n hp
  generalize (way p f w c).1 = v at *
  obtain ⟨j, hj, hjn⟩ := List.mem_iff_getElem.1 hm
  refine ⟨v.drop j, fun e => ?_, fun x hx => ?_⟩
  · have := congrArg List.length e
    simp at this
    omega
  · obtain ⟨i, hi, rfl⟩ := List.mem_iff_getElem.1 hx
    rw [List.length_drop] at hi
    rw [List.getElem_drop]
    have inS : ∀ k (hk : k < v.length), j ≤ k → v[k] ∈ v.drop j := fun k hk hjk => by
      rw [List.mem_iff_getElem]
      exact ⟨k - j, by rw [List.length_drop]; omega, by rw [List.getElem_drop]; congr 1; omega⟩
    by_cases hlast : j + i + 1 < v.length
    · exact ⟨v[j + i + 1], inS _ hlast (by omega), h1.chain (j + i) _ _ (List.getElem?_eq_getElem (by omega)) (List.getElem?_eq_getElem hlast)⟩
    · have hl := h1.last
      rw [List.getLast?_eq_getElem?, show v.length - 1 = j + i by omega, List.getElem?_eq_getElem (by omega)] at hl
      injection hl with hl
      rw [hl]
      exact ⟨n, by rw [← hjn]; exact inS j hj (Nat.le_refl _), hp⟩
end

/-- the way up from a place in a year, and whether it comes back -/
def wayU (L : List Lk) (c : List UInt8) (y : Int) : List (List UInt8) × Bool := way (fun x => par L x y) (L.length + 1) [c] c
abbrev WayIn (L : List Lk) (y : Int) (f : Nat) (w : List (List UInt8)) (c : List UInt8) : Prop := WayOk (fun x => par L x y) (L.map fun l => l.1) f w c
theorem par_in {L : List Lk} {y : Int} : ∀ x n, (fun x => par L x y) x = some n → x ∈ L.map fun l => l.1 := fun _ _ h => par_mem h
theorem WayIn.start (L : List Lk) (c : List UInt8) (y : Int) : WayIn L y (L.length + 1) [c] c := by
  have := WayOk.start (fun x => par L x y) (L.map fun l => l.1) c
  rwa [List.length_map] at this
theorem wayU_circ (L : List Lk) (c : List UInt8) (y : Int) : (wayU L c y).2 = ((wayU L c y).1.getLast?.bind fun x => par L x y).isSome := way_circ par_in (WayIn.start L c y)
theorem wayU_ne (L : List Lk) (c : List UInt8) (y : Int) : ∃ c', (wayU L c y).1.getLast? = some c' ∧ (wayU L c y).1.length ≤ L.length + 1 := by
  obtain ⟨f', c', h1, _⟩ := way_end (par_in (L := L) (y := y)) _ _ _ (WayIn.start L c y)
  exact ⟨c', h1.last, by have := h1.len; rwa [List.length_map] at this⟩
/-- a way that comes back has a link of its year -/
theorem wayU_has {L : List Lk} {c : List UInt8} {y : Int} (h : (wayU L c y).2 = true) : ∃ l ∈ L, l.1 = c ∧ lkHas l y = true := by
  rcases hp : par L c y with _ | n
  · unfold wayU at h
    rw [way_none (p := fun x => par L x y) hp] at h
    cases h
  · unfold par at hp
    rcases hl : lkOf L c y with _ | l
    · rw [hl] at hp; cases hp
    · obtain ⟨h1, h2, h3⟩ := lkOf_some hl
      exact ⟨l, h1, h2, h3⟩

/-- years that meet -/
def meetB (a b c d : Int) : Bool := decide (a ≤ d) && decide (c ≤ b)
/-- no child has two links in one year -/
def AloneL (L : List Lk) : Prop := ∀ i j, j < i → i < L.length → ((L.getD j lkD).1 == (L.getD i lkD).1 && meetB (L.getD j lkD).2.2.1 (L.getD j lkD).2.2.2 (L.getD i lkD).2.2.1 (L.getD i lkD).2.2.2) = false
/-- no way comes back in a year in which a link begins -/
def FlatL (L : List Lk) : Prop := ∀ l ∈ L, ∀ m ∈ L, (wayU L m.1 l.2.2.1).2 = false
theorem alone_eq {L : List Lk} (h : AloneL L) {l m : Lk} {y : Int} (hl : l ∈ L) (hm : m ∈ L) (hc : l.1 = m.1) (h1 : lkHas l y = true) (h2 : lkHas m y = true) : l = m := by
  obtain ⟨i, hi, rfl⟩ := List.mem_iff_getElem.1 hl
  obtain ⟨j, hj, rfl⟩ := List.mem_iff_getElem.1 hm
  rw [lkHas_iff] at h1 h2
  have ei : L.getD i lkD = L[i] := by simp [List.getD, hi]
  have ej : L.getD j lkD = L[j] := by simp [List.getD, hj]
  rcases Nat.lt_trichotomy i j with c | c | c
  · have := h j i c hj
    rw [ei, ej] at this
    simp [hc, meetB] at this
    omega
  · subst c; rfl
  · have := h i j c hi
    rw [ei, ej] at this
    simp [hc, meetB] at this
    omega
theorem exists_max {α : Type} (f : α → Int) : ∀ (S : List α), S ≠ [] → ∃ x ∈ S, ∀ z ∈ S, f z ≤ f x
  | [], h => absurd rfl h
  | [x], _ => ⟨x, List.mem_singleton.2 rfl, fun z hz => by rw [List.mem_singleton.1 hz]; exact Int.le_refl _⟩
  | x :: y :: S, _ => by
    obtain ⟨m, hm, hmax⟩ := exists_max f (y :: S) (by simp)
    by_cases h : f m ≤ f x
    · refine ⟨x, List.mem_cons_self .., fun z hz => ?_⟩
      rcases List.mem_cons.1 hz with rfl | hz
      · exact Int.le_refl _
      · exact Int.le_trans (hmax z hz) h
    · refine ⟨m, List.mem_cons_of_mem _ hm, fun z hz => ?_⟩
      rcases List.mem_cons.1 hz with rfl | hz
      · omega
      · exact hmax z hz
/-- links without circles where links begin have none in any year -/
theorem flat_any {L : List Lk} (hA : AloneL L) (hF : FlatL L) (c : List UInt8) (y : Int) : (wayU L c y).2 = false := by
  rcases hb : (wayU L c y).2 with _ | _
  · rfl
  · exfalso
    obtain ⟨S, hne, hS⟩ := way_cycle par_in (WayIn.start L c y) hb
    have hlk : ∀ x ∈ S, ∃ l n, lkOf L x y = some l ∧ l.2.1 = n ∧ n ∈ S := fun x hx => by
      obtain ⟨n, hn, hp⟩ := hS x hx
      simp only [par] at hp
      rcases hl : lkOf L x y with _ | l
      · rw [hl] at hp; cases hp
      · rw [hl] at hp
        injection hp with hp
        exact ⟨l, n, rfl, hp, hn⟩
    obtain ⟨x, hx, hmax⟩ := exists_max (fun x => match lkOf L x y with | some l => l.2.2.1 | none => 0) S hne
    obtain ⟨l, n, hl, _, _⟩ := hlk x hx
    obtain ⟨hlm, hlc, hly⟩ := lkOf_some hl
    rw [lkHas_iff] at hly
    rw [hl] at hmax
    have hS' : ∀ z ∈ S, ∃ n ∈ S, (fun x => par L x l.2.2.1) z = some n := fun z hz => by
      obtain ⟨m, n, hm, hmn, hn⟩ := hlk z hz
      obtain ⟨hmm, hmc, hmy⟩ := lkOf_some hm
      have h1 := hmax z hz
      rw [hm] at h1
      simp only at h1
      rw [lkHas_iff] at hmy
      have h2 : lkHas m l.2.2.1 = true := by rw [lkHas_iff]; omega
      obtain ⟨m', hm'⟩ := lkOf_ex hmm h2
      obtain ⟨a1, a2, a3⟩ := lkOf_some hm'
      have := alone_eq hA a1 hmm a2 a3 h2
      subst this
      rw [hmc] at hm'
      refine ⟨n, hn, ?_⟩
      simp only [par]
      rw [hm']
      exact congrArg some hmn
    have h3 := way_closed par_in hS' _ _ _ (WayIn.start L x l.2.2.1) hx
    have h4 := hF l hlm l hlm
    rw [hlc] at h4
    unfold wayU at h4
    rw [h4] at h3
    cases h3
end Go.Proofs.YtbnkiibjhfcffaaGreatDoor
namespace Go.Proofs.YtbnkiibjhfcffaaGreatDoor

abbrev Tx := List UInt8
/-- in alphabetical order, each once -/
def Alf (l : List Tx) : Prop := l.Pairwise (· < ·)
theorem tx_lt_irrefl (a : Tx) : ¬ a < a := List.lt_irrefl a
theorem tx_lt_trans {a b c : Tx} (h : a < b) (k : b < c) : a < c := List.lt_trans h k
theorem tx_lt_asymm {a b : Tx} (h : a < b) : ¬ b < a := fun k => tx_lt_irrefl a (tx_lt_trans h k)
theorem tx_tri (a b : Tx) : a < b ∨ a = b ∨ b < a := by
  rcases Classical.em (a < b) with h | h
  · exact .inl h
  · rcases Classical.em (b < a) with k | k
    · exact .inr (.inr k)
    · exact .inr (.inl (List.le_antisymm (List.not_lt.1 k) (List.not_lt.1 h)))
/-- two such lists of the same texts are the same -/
theorem Alf.ext : ∀ {a b : List Tx}, Alf a → Alf b → (∀ x, x ∈ a ↔ x ∈ b) → a = b
  | [], [], _, _, _ => rfl
  | [], y :: b, _, _, h => absurd ((h y).2 (List.mem_cons_self ..)) (by simp)
  | x :: a, [], _, _, h => absurd ((h x).1 (List.mem_cons_self ..)) (by simp)
  | x :: a, y :: b, ha, hb, h => by
    unfold Alf at ha hb
    rw [List.pairwise_cons] at ha hb
    have hxy : x = y := by
      rcases List.mem_cons.1 ((h x).1 (List.mem_cons_self ..)) with e | e
      · exact e
      · rcases List.mem_cons.1 ((h y).2 (List.mem_cons_self ..)) with e2 | e2
        · exact e2.symm
        · exact absurd (ha.1 y e2) (tx_lt_asymm (hb.1 x e))
    subst hxy
    rw [Alf.ext ha.2 hb.2 fun z => ?_]
    have hz := h z
    rw [List.mem_cons, List.mem_cons] at hz
    constructor
    · intro hm
      rcases hz.1 (.inr hm) with e | e
      · subst e; exact absurd (ha.1 _ hm) (tx_lt_irrefl _)
      · exact e
    · intro hm
      rcases hz.2 (.inr hm) with e | e
      · subst e; exact absurd (hb.1 _ hm) (tx_lt_irrefl _)
      · exact e

/-- a text laid into such a list -/
def insA : List Tx → Tx → List Tx
  | [], x => [x]
  | y :: l, x => if y < x then y :: insA l x else if y = x then y :: l else x :: y :: l
theorem insA_mem : ∀ {l : List Tx} {x z : Tx}, z ∈ insA l x ↔ z = x ∨ z ∈ l
  | [], x, z => by simp [insA]
  | y :: l, x, z => by
    unfold insA
    split
    · rw [List.mem_cons, insA_mem, List.mem_cons]
      constructor
      · rintro (e | e | e)
        · exact .inr (.inl e)
        · exact .inl e
        · exact .inr (.inr e)
      · rintro (e | e | e)
        · exact .inr (.inl e)
        · exact .inl e
        · exact .inr (.inr e)
    · split
      · rename_i h
        subst h
        simp
      · simp
theorem insA_alf : ∀ {l : List Tx} {x : Tx}, Alf l → Alf (insA l x)
  | [], x, _ => by simp [insA, Alf]
  | y :: l, x, h => by
    unfold Alf at h
    rw [List.pairwise_cons] at h
    unfold insA
    split
    · rename_i hlt
      unfold Alf
      rw [List.pairwise_cons]
      refine ⟨fun z hz => ?_, insA_alf h.2⟩
      rcases insA_mem.1 hz with e | e
      · rw [e]; exact hlt
      · exact h.1 z e
    · split
      · unfold Alf
        rw [List.pairwise_cons]
        exact h
      · rename_i h1 h2
        have hxy : x < y := by
          rcases tx_tri x y with e | e | e
          · exact e
          · exact absurd e.symm h2
          · exact absurd e h1
        unfold Alf
        rw [List.pairwise_cons, List.pairwise_cons]
        refine ⟨fun z hz => ?_, h⟩
        rcases List.mem_cons.1 hz with e | e
        · rw [e]; exact hxy
        · exact tx_lt_trans hxy (h.1 z e)
/-- where it is laid -/
theorem insA_at : ∀ {l : List Tx} {x : Tx} {k : Nat}, k ≤ l.length → (∀ j, j < k → l.getD j [] < x) → (k < l.length → ¬ l.getD k [] < x) → insA l x = if k < l.length ∧ l.getD k [] = x then l else l.take k ++ x :: l.drop k
  | [], x, k, hk, _, _ => by
    obtain rfl : k = 0 := by simpa using hk
    simp [insA]
  | y :: l, x, 0, _, _, h => by
    have h0 : ¬ y < x := by simpa using h (by simp)
    unfold insA
    rw [if_neg h0]
    simp
  | y :: l, x, k + 1, hk, h1, h2 => by
    have h0 : y < x := by simpa using h1 0 (by omega)
    unfold insA
    rw [if_pos h0, insA_at (k := k) (by simpa using hk) (fun j hj => by simpa using h1 (j + 1) (by omega)) (fun hl => by simpa using h2 (by simpa using hl))]
    simp only [List.length_cons, Nat.add_lt_add_iff_right, List.getD_cons_succ, List.take_succ_cons, List.drop_succ_cons, List.cons_append]
    split <;> rfl

/-- texts in order, those that stand beside their like left out -/
def cpt : List Tx → List Tx
  | [] => []
  | [x] => [x]
  | x :: y :: l => if x = y then cpt (y :: l) else x :: cpt (y :: l)
theorem cpt_mem : ∀ {l : List Tx} {z : Tx}, z ∈ cpt l ↔ z ∈ l
  | [], _ => Iff.rfl
  | [x], _ => Iff.rfl
  | x :: y :: l, z => by
    unfold cpt
    split
    · rename_i h
      subst h
      rw [cpt_mem]
      simp
    · rw [List.mem_cons, cpt_mem, List.mem_cons (a := z) (b := x)]
theorem cpt_alf : ∀ {l : List Tx}, l.Pairwise (fun a b => ¬ b < a) → Alf (cpt l)
  | [], _ => List.Pairwise.nil
  | [x], _ => by simp [cpt, Alf]
  | x :: y :: l, h => by
    rw [List.pairwise_cons] at h
    unfold cpt
    split
    · exact cpt_alf h.2
    · rename_i hne
      unfold Alf
      rw [List.pairwise_cons]
      refine ⟨fun z hz => ?_, cpt_alf h.2⟩
      have hm := cpt_mem.1 hz
      have hxy : x < y := by
        rcases tx_tri x y with e | e | e
        · exact e
        · exact absurd e hne
        · exact absurd e (h.1 y (List.mem_cons_self ..))
      rcases List.mem_cons.1 hm with e | e
      · rw [e]; exact hxy
      · have h2 := h.2
        rw [List.pairwise_cons] at h2
        rcases tx_tri y z with q | q | q
        · exact tx_lt_trans hxy q
        · rw [← q]; exact hxy
        · exact absurd q (h2.1 z e)
theorem sort_pair (l : List Tx) : (l.mergeSort fun x y => decide (x ≤ y)).Pairwise (fun a b => ¬ b < a) := by
  have h := List.pairwise_mergeSort (le := fun x y : Tx => decide (x ≤ y)) (fun a b c h1 h2 => by
    simp only [decide_eq_true_eq] at *
    exact List.le_trans h1 h2) (fun a b => by
    simp only [Bool.or_eq_true, decide_eq_true_eq]
    exact List.le_total a b) l
  refine h.imp fun {a b} q => ?_
  simp only [decide_eq_true_eq] at q
  exact List.not_lt.2 q
/-- sorted and each once -/
def sortA (l : List Tx) : List Tx := cpt (l.mergeSort fun x y => decide (x ≤ y))
theorem sortA_alf (l : List Tx) : Alf (sortA l) := cpt_alf (sort_pair l)
theorem sortA_mem {l : List Tx} {x : Tx} : x ∈ sortA l ↔ x ∈ l := by
  unfold sortA
  rw [cpt_mem, List.mem_mergeSort]
theorem sortA_eq {l m : List Tx} (hm : Alf m) (h : ∀ x, x ∈ l ↔ x ∈ m) : sortA l = m := (sortA_alf l).ext hm fun x => sortA_mem.trans (h x)
theorem Alf.filter {l : List Tx} (h : Alf l) (p : Tx → Bool) : Alf (l.filter p) := List.Pairwise.filter p h
end Go.Proofs.YtbnkiibjhfcffaaGreatDoor
namespace Go.Proofs.YtbnkiibjhfcffaaGreatDoor

/-- a span of years -/
abbrev Sn := Int × Int
/-- spans of which no two touch, in order -/
def Nrm (l : List Sn) : Prop := l.Pairwise (fun a b => a.2 + 2 ≤ b.1) ∧ ∀ s ∈ l, s.1 ≤ s.2
def inSp (l : List Sn) (y : Int) : Prop := ∃ s ∈ l, s.1 ≤ y ∧ y ≤ s.2
theorem inSp_cons {s : Sn} {l : List Sn} {y : Int} : inSp (s :: l) y ↔ (s.1 ≤ y ∧ y ≤ s.2) ∨ inSp l y := by
  unfold inSp
  constructor
  · rintro ⟨t, ht, h⟩
    rcases List.mem_cons.1 ht with rfl | ht
    · exact .inl h
    · exact .inr ⟨t, ht, h⟩
  · rintro (h | ⟨t, ht, h⟩)
    · exact ⟨s, List.mem_cons_self .., h⟩
    · exact ⟨t, List.mem_cons_of_mem _ ht, h⟩
theorem Nrm.tail {s : Sn} {l : List Sn} (h : Nrm (s :: l)) : Nrm l ∧ s.1 ≤ s.2 ∧ ∀ y, inSp l y → s.2 + 2 ≤ y := by
  have h1 := h.1
  rw [List.pairwise_cons] at h1
  refine ⟨⟨h1.2, fun t ht => h.2 t (List.mem_cons_of_mem _ ht)⟩, h.2 s (List.mem_cons_self ..), fun y ⟨t, ht, hy, _⟩ => ?_⟩
  have := h1.1 t ht
  omega
/-- two such lists with the same years are the same -/
theorem Nrm.eq : ∀ {a b : List Sn}, Nrm a → Nrm b → (∀ y, inSp a y ↔ inSp b y) → a = b
  | [], [], _, _, _ => rfl
  | [], t :: b, _, hb, h => by
    obtain ⟨s, hs, _⟩ := (h t.1).2 (inSp_cons.2 (.inl ⟨Int.le_refl _, hb.tail.2.1⟩))
    cases hs
  | s :: a, [], ha, _, h => by
    obtain ⟨t, ht, _⟩ := (h s.1).1 (inSp_cons.2 (.inl ⟨Int.le_refl _, ha.tail.2.1⟩))
    cases ht
  | s :: a, t :: b, ha, hb, h => by
    obtain ⟨a1, a2, a3⟩ := ha.tail
    obtain ⟨b1, b2, b3⟩ := hb.tail
    have hs1 := (h s.1).1 (inSp_cons.2 (.inl ⟨Int.le_refl _, a2⟩))
    have ht1 := (h t.1).2 (inSp_cons.2 (.inl ⟨Int.le_refl _, b2⟩))
    rw [inSp_cons] at hs1 ht1
    have e1 : s.1 = t.1 := by
      rcases hs1 with x | x
      · rcases ht1 with z | z
        · omega
        · have := a3 _ z
          omega
      · have := b3 _ x
        rcases ht1 with z | z
        · omega
        · have := a3 _ z
          omega
    have e2 : s.2 = t.2 := by
      rcases Int.lt_trichotomy s.2 t.2 with c | c | c
      · have := (h (s.2 + 1)).2 (inSp_cons.2 (.inl ⟨by omega, by omega⟩))
        rw [inSp_cons] at this
        rcases this with z | z
        · omega
        · have := a3 _ z
          omega
      · exact c
      · have := (h (t.2 + 1)).1 (inSp_cons.2 (.inl ⟨by omega, by omega⟩))
        rw [inSp_cons] at this
        rcases this with z | z
        · omega
        · have := b3 _ z
          omega
    have e : s = t := Prod.ext e1 e2
    subst e
    rw [Nrm.eq a1 b1 fun y => ?_]
    have hy := h y
    rw [inSp_cons, inSp_cons] at hy
    constructor
    · intro z
      have := a3 y z
      rcases hy.1 (.inr z) with q | q
      · omega
      · exact q
    · intro z
      have := b3 y z
      rcases hy.2 (.inr z) with q | q
      · omega
      · exact q
end Go.Proofs.YtbnkiibjhfcffaaGreatDoor
