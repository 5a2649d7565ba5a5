/- Plain laws of links between places and of the ways up: no program in sight. Plain laws of texts in alphabetical order, each once: no program in sight. Plain laws of years: what stays between marks, and spans of which no two touch. -/
import Derived.Test.YtlnliajnipniaaaGreatDoorG0
import Derived.Sort.Walk0
namespace Go.Proofs.YtlnliajnipniaaaGreatDoor
abbrev Lk := List UInt8 × List UInt8 × Int × Int
def lkD : Lk := ([], [], 0, 0)
def lkHas (l : Lk) (y : Int) : Bool := inB y l.2.2.1 l.2.2.2
theorem lkHas_iff {l : Lk} {y : Int} : lkHas l y = true ↔ l.2.2.1 ≤ y ∧ y ≤ l.2.2.2 := by simp [lkHas, inB]
def lkOf (L : List Lk) (c : List UInt8) (y : Int) : Option Lk := L.find? fun l => l.1 == c && lkHas l y
def par (L : List Lk) (c : List UInt8) (y : Int) : Option (List UInt8) := (lkOf L c y).map fun l => l.2.1
theorem lkOf_some {L : List Lk} {c : List UInt8} {y : Int} {l : Lk} (h : lkOf L c y = some l) : l ∈ L ∧ l.1 = c ∧ lkHas l y = true := by
 have h1 := List.mem_of_find?_eq_some h
 have h2 := List.find?_some h
 simp only [Bool.and_eq_true, beq_iff_eq] at h2
 exact ⟨h1, h2.1, h2.2⟩
theorem lkOf_ex {L : List Lk} {l : Lk} {y : Int} (h : l ∈ L) (hy : lkHas l y = true) : ∃ l', lkOf L l.1 y = some l' := by
 rcases h' : lkOf L l.1 y with _ | l'
 ·unfold lkOf at h'
  rw [List.find?_eq_none] at h'
  have := h' l h
  simp [hy] at this
 ·exact ⟨l', rfl⟩
theorem par_mem {L : List Lk} {c n : List UInt8} {y : Int} (h : par L c y = some n) : c ∈ L.map fun l => l.1 := by
 unfold par at h
 rcases hl : lkOf L c y with _ | l
 ·rw [hl] at h; cases h
 ·obtain ⟨h1, h2, _⟩ := lkOf_some hl
  exact List.mem_map.2 ⟨l, h1, h2⟩
theorem nodup_le {α : Type} [DecidableEq α] : ∀ {l m : List α}, l.Nodup → (∀ x ∈ l, x ∈ m) → l.length ≤ m.length
 | [], _, _, _ => Nat.zero_le _
 | a :: l, m, hn, hs => by
  have ha : a ∈ m := hs a (List.mem_cons_self ..)
  rw [List.nodup_cons] at hn
  have h1 := nodup_le (l := l) (m := m.erase a) hn.2 fun x hx => (List.mem_erase_of_ne (fun e => hn.1 (by rw [← e]; exact hx))).2 (hs x (List.mem_cons_of_mem _ hx))
  rw [List.length_erase_of_mem ha] at h1
  have h2 := List.length_pos_of_mem ha
  simp only [List.length_cons]
  omega
section
variable {α : Type} {p : α → Option α} {ch : List α} {f : Nat} {w : List α} {c n : α}
structure WayOk (p : α → Option α) (ch : List α) (f : Nat) (w : List α) (c : α) : Prop where
 nd : w.Nodup
 mem : ∀ x ∈ w, x = c ∨ x ∈ ch
 last : w.getLast? = some c
 fuel : ch.length + 2 ≤ f + w.length
 chain : ∀ i x y, w[i]? = some x → w[i + 1]? = some y → p x = some y
theorem WayOk.start (p : α → Option α) (ch : List α) (c : α) : WayOk p ch (ch.length + 1) [c] c :=
 ⟨by simp, fun x hx => .inl (List.mem_singleton.1 hx), rfl, by simp, fun i x y _ h => by simp at h⟩
theorem WayOk.step (h : WayOk p ch (f + 1) w c) (hc : ∀ x n, p x = some n → x ∈ ch) (hp : p c = some n) (hn : n ∉ w) : WayOk p ch f (w ++ [n]) n := by
 refine ⟨?_, fun x hx => ?_, by simp, ?_, fun i x y hx hy => ?_⟩
 ·rw [List.nodup_append]
  refine ⟨h.nd, by simp, fun a ha b hb e => ?_⟩
  rw [List.mem_singleton.1 hb] at e
  exact hn (e ▸ ha)
 ·rcases List.mem_append.1 hx with hx | hx
  ·exact .inr ((h.mem x hx).elim (fun e => e ▸ hc c n hp) id)
  ·exact .inl (List.mem_singleton.1 hx)
 ·have := h.fuel
  rw [List.length_append, List.length_singleton]
  omega
 ·rcases Nat.lt_or_ge (i + 1) w.length with hi | hi
  ·rw [List.getElem?_append_left hi] at hy
   rw [List.getElem?_append_left (by omega)] at hx
   exact h.chain i x y hx hy
  ·rw [List.getElem?_append_right hi] at hy
   have h0 : i + 1 - w.length = 0 := by
    rcases Nat.eq_zero_or_pos (i + 1 - w.length) with e | e
    ·exact e
    ·rw [List.getElem?_eq_none (by simp; omega)] at hy; cases hy
   rw [h0] at hy
   simp at hy
   subst hy
   rw [List.getElem?_append_left (by omega)] at hx
   have hl := h.last
   rw [List.getLast?_eq_getElem?, show w.length - 1 = i by omega, hx] at hl
   injection hl with hl
   rw [hl]; exact hp
end
section
variable {α : Type} [DecidableEq α] {p : α → Option α} {ch : List α} {f : Nat} {w : List α} {c n : α}
def way (p : α → Option α) : Nat → List α → α → List α × Bool
 | 0, w, _ => (w, false)
 | f + 1, w, c => match p c with
  | none => (w, false)
  | some n => if n ∈ w then (w, true) else way p f (w ++ [n]) n
theorem WayOk.pos (h : WayOk p ch f w c) (hc : ∀ x n, p x = some n → x ∈ ch) (hp : p c = some n) : 0 < f ∧ w.length ≤ ch.length := by
 have h1 := nodup_le h.nd fun x hx => (h.mem x hx).elim (fun e => e ▸ hc c n hp) id
 have h2 := h.fuel
 omega
theorem WayOk.len (h : WayOk p ch f w c) : w.length ≤ ch.length + 1 := by
 have h1 := nodup_le (m := c :: ch) h.nd fun x hx => (h.mem x hx).elim (fun e => e ▸ List.mem_cons_self ..) (List.mem_cons_of_mem _)
 simpa using h1
theorem way_none (hp : p c = none) : way p f w c = (w, false) := by cases f <;> simp [way, hp]
theorem way_hit (hf : 0 < f) (hp : p c = some n) (hm : n ∈ w) : way p f w c = (w, true) := by
 obtain ⟨f, rfl⟩ : ∃ k, f = k + 1 := ⟨f - 1, by omega⟩
 simp [way, hp, hm]
theorem way_on (hp : p c = some n) (hn : n ∉ w) : way p (f + 1) w c = way p f (w ++ [n]) n := by simp [way, hp, hn]
theorem way_end (hc : ∀ x n, p x = some n → x ∈ ch) : ∀ (f : Nat) (w : List α) (c : α), WayOk p ch f w c →
  ∃ (f' : Nat) (c' : α), WayOk p ch f' (way p f w c).1 c' ∧ (way p f w c).2 = (p c').isSome ∧ (∀ n, p c' = some n → n ∈ (way p f w c).1)
 | 0, w, c, h => by
  rcases hp : p c with _ | n
  ·exact ⟨0, c, by rw [way_none hp]; exact h, by rw [way_none hp, hp]; rfl, fun n e => by rw [hp] at e; cases e⟩
  ·have := (h.pos hc hp).1
   omega
 | f + 1, w, c, h => by
  rcases hp : p c with _ | n
  ·exact ⟨f + 1, c, by rw [way_none hp]; exact h, by rw [way_none hp, hp]; rfl, fun n e => by rw [hp] at e; cases e⟩
  ·by_cases hm : n ∈ w
   ·refine ⟨f + 1, c, by rw [way_hit (by omega) hp hm]; exact h, by rw [way_hit (by omega) hp hm, hp]; rfl, fun m e => ?_⟩
    rw [hp] at e
    injection e with e
    rw [way_hit (by omega) hp hm, ← e]; exact hm
   ·rw [way_on hp hm]
    exact way_end hc f (w ++ [n]) n (h.step hc hp hm)
theorem way_circ (hc : ∀ x n, p x = some n → x ∈ ch) (h : WayOk p ch f w c) : (way p f w c).2 = ((way p f w c).1.getLast?.bind p).isSome := by
 obtain ⟨f', c', h1, h2, _⟩ := way_end hc f w c h
 rw [h1.last, h2]; rfl
theorem way_closed (hc : ∀ x n, p x = some n → x ∈ ch) {S : List α} (hS : ∀ x ∈ S, ∃ n ∈ S, p x = some n) : ∀ (f : Nat) (w : List α) (c : α), WayOk p ch f w c → c ∈ S → (way p f w c).2 = true
 | 0, w, c, h, hs => by
  obtain ⟨n, _, hp⟩ := hS c hs
  have := (h.pos hc hp).1
  omega
 | f + 1, w, c, h, hs => by
  obtain ⟨n, hn, hp⟩ := hS c hs
  by_cases hm : n ∈ w
  ·rw [way_hit (by omega) hp hm]
  ·rw [way_on hp hm]
   exact way_closed hc hS f (w ++ [n]) n (h.step hc hp hm) hn
theorem way_cycle (hc : ∀ x n, p x = some n → x ∈ ch) (h : WayOk p ch f w c) (hb : (way p f w c).2 = true) : ∃ S : List α, S ≠ [] ∧ ∀ x ∈ S, ∃ n ∈ S, p x = some n := by
 obtain ⟨f', c', h1, h2, h3⟩ := way_end hc f w c h
 rw [hb] at h2
 obtain ⟨n, hp⟩ := Option.isSome_iff_exists.1 h2.symm
 have hm := h3 n hp
 generalize (way p f w c).1 = v at *
 obtain ⟨j, hj, hjn⟩ := List.mem_iff_getElem.1 hm
 refine ⟨v.drop j, fun e => ?_, fun x hx => ?_⟩
 ·have := congrArg List.length e
  simp at this
  omega
 ·obtain ⟨i, hi, rfl⟩ := List.mem_iff_getElem.1 hx
  rw [List.length_drop] at hi
  rw [List.getElem_drop]
  have inS : ∀ k (hk : k < v.length), j ≤ k → v[k] ∈ v.drop j := fun k hk hjk => by
   rw [List.mem_iff_getElem]
   exact ⟨k - j, by rw [List.length_drop]; omega, by rw [List.getElem_drop]; congr 1; omega⟩
  by_cases hlast : j + i + 1 < v.length
  ·exact ⟨v[j + i + 1], inS _ hlast (by omega), h1.chain (j + i) _ _ (List.getElem?_eq_getElem (by omega)) (List.getElem?_eq_getElem hlast)⟩
  ·have hl := h1.last
   rw [List.getLast?_eq_getElem?, show v.length - 1 = j + i by omega, List.getElem?_eq_getElem (by omega)] at hl
   injection hl with hl
   rw [hl]
   exact ⟨n, by rw [← hjn]; exact inS j hj (Nat.le_refl _), hp⟩
end
def wayU (L : List Lk) (c : List UInt8) (y : Int) : List (List UInt8) × Bool := way (fun x => par L x y) (L.length + 1) [c] c
abbrev WayIn (L : List Lk) (y : Int) (f : Nat) (w : List (List UInt8)) (c : List UInt8) : Prop := WayOk (fun x => par L x y) (L.map fun l => l.1) f w c
theorem par_in {L : List Lk} {y : Int} : ∀ x n, (fun x => par L x y) x = some n → x ∈ L.map fun l => l.1 := fun _ _ h => par_mem h
theorem WayIn.start (L : List Lk) (c : List UInt8) (y : Int) : WayIn L y (L.length + 1) [c] c := by
 have := WayOk.start (fun x => par L x y) (L.map fun l => l.1) c
 rwa [List.length_map] at this
theorem wayU_circ (L : List Lk) (c : List UInt8) (y : Int) : (wayU L c y).2 = ((wayU L c y).1.getLast?.bind fun x => par L x y).isSome := way_circ par_in (WayIn.start L c y)
theorem wayU_ne (L : List Lk) (c : List UInt8) (y : Int) : ∃ c', (wayU L c y).1.getLast? = some c' ∧ (wayU L c y).1.length ≤ L.length + 1 := by
 obtain ⟨f', c', h1, _⟩ := way_end (par_in (L := L) (y := y)) _ _ _ (WayIn.start L c y)
 exact ⟨c', h1.last, by have := h1.len; rwa [List.length_map] at this⟩
theorem wayU_has {L : List Lk} {c : List UInt8} {y : Int} (h : (wayU L c y).2 = true) : ∃ l ∈ L, l.1 = c ∧ lkHas l y = true := by
 rcases hp : par L c y with _ | n
 ·unfold wayU at h
  rw [way_none (p := fun x => par L x y) hp] at h
  cases h
 ·unfold par at hp
  rcases hl : lkOf L c y with _ | l
  ·rw [hl] at hp; cases hp
  ·obtain ⟨h1, h2, h3⟩ := lkOf_some hl
   exact ⟨l, h1, h2, h3⟩
def meetB (a b c d : Int) : Bool := decide (a ≤ d) && decide (c ≤ b)
def AloneL (L : List Lk) : Prop := ∀ i j, j < i → i < L.length → ((L.getD j lkD).1 == (L.getD i lkD).1 && meetB (L.getD j lkD).2.2.1 (L.getD j lkD).2.2.2 (L.getD i lkD).2.2.1 (L.getD i lkD).2.2.2) = false
def FlatL (L : List Lk) : Prop := ∀ l ∈ L, ∀ m ∈ L, (wayU L m.1 l.2.2.1).2 = false
theorem alone_eq {L : List Lk} (h : AloneL L) {l m : Lk} {y : Int} (hl : l ∈ L) (hm : m ∈ L) (hc : l.1 = m.1) (h1 : lkHas l y = true) (h2 : lkHas m y = true) : l = m := by
 obtain ⟨i, hi, rfl⟩ := List.mem_iff_getElem.1 hl
 obtain ⟨j, hj, rfl⟩ := List.mem_iff_getElem.1 hm
 rw [lkHas_iff] at h1 h2
 have ei : L.getD i lkD = L[i] := by simp [List.getD, hi]
 have ej : L.getD j lkD = L[j] := by simp [List.getD, hj]
 rcases Nat.lt_trichotomy i j with c | c | c
 ·have := h j i c hj
  rw [ei, ej] at this
  simp [hc, meetB] at this
  omega
 ·subst c; rfl
 ·have := h i j c hi
  rw [ei, ej] at this
  simp [hc, meetB] at this
  omega
theorem exists_max {α : Type} (f : α → Int) : ∀ (S : List α), S ≠ [] → ∃ x ∈ S, ∀ z ∈ S, f z ≤ f x
 | [], h => absurd rfl h
 | [x], _ => ⟨x, List.mem_singleton.2 rfl, fun z hz => by rw [List.mem_singleton.1 hz]; exact Int.le_refl _⟩
 | x :: y :: S, _ => by
  obtain ⟨m, hm, hmax⟩ := exists_max f (y :: S) (by simp)
  by_cases h : f m ≤ f x
  ·refine ⟨x, List.mem_cons_self .., fun z hz => ?_⟩
   rcases List.mem_cons.1 hz with rfl | hz
   ·exact Int.le_refl _
   ·exact Int.le_trans (hmax z hz) h
  ·refine ⟨m, List.mem_cons_of_mem _ hm, fun z hz => ?_⟩
   rcases List.mem_cons.1 hz with rfl | hz
   ·omega
   ·exact hmax z hz
theorem flat_any {L : List Lk} (hA : AloneL L) (hF : FlatL L) (c : List UInt8) (y : Int) : (wayU L c y).2 = false := by
 rcases hb : (wayU L c y).2 with _ | _
 ·rfl
 ·exfalso
  obtain ⟨S, hne, hS⟩ := way_cycle par_in (WayIn.start L c y) hb
  have hlk : ∀ x ∈ S, ∃ l n, lkOf L x y = some l ∧ l.2.1 = n ∧ n ∈ S := fun x hx => by
   obtain ⟨n, hn, hp⟩ := hS x hx
   simp only [par] at hp
   rcases hl : lkOf L x y with _ | l
   ·rw [hl] at hp; cases hp
   ·rw [hl] at hp
    injection hp with hp
    exact ⟨l, n, rfl, hp, hn⟩
  obtain ⟨x, hx, hmax⟩ := exists_max (fun x => match lkOf L x y with | some l => l.2.2.1 | none => 0) S hne
  obtain ⟨l, n, hl, _, _⟩ := hlk x hx
  obtain ⟨hlm, hlc, hly⟩ := lkOf_some hl
  rw [lkHas_iff] at hly
  rw [hl] at hmax
  have hS' : ∀ z ∈ S, ∃ n ∈ S, (fun x => par L x l.2.2.1) z = some n := fun z hz => by
   obtain ⟨m, n, hm, hmn, hn⟩ := hlk z hz
   obtain ⟨hmm, hmc, hmy⟩ := lkOf_some hm
   have h1 := hmax z hz
   rw [hm] at h1
   simp only at h1
   rw [lkHas_iff] at hmy
   have h2 : lkHas m l.2.2.1 = true := by rw [lkHas_iff]; omega
   obtain ⟨m', hm'⟩ := lkOf_ex hmm h2
   obtain ⟨a1, a2, a3⟩ := lkOf_some hm'
   have := alone_eq hA a1 hmm a2 a3 h2
   subst this
   rw [hmc] at hm'
   refine ⟨n, hn, ?_⟩
   simp only [par]
   rw [hm']
   exact congrArg some hmn
  have h3 := way_closed par_in hS' _ _ _ (WayIn.start L x l.2.2.1) hx
  have h4 := hF l hlm l hlm
  rw [hlc] at h4
  unfold wayU at h4
  rw [h4] at h3
  cases h3
abbrev Tx := List UInt8
theorem tx_lt_irrefl (a : Tx) : ¬ a < a := List.lt_irrefl a
theorem tx_lt_trans {a b c : Tx} (h : a < b) (k : b < c) : a < c := List.lt_trans h k
def insA : List Tx → Tx → List Tx
 | [], x => [x]
 | y :: l, x => if y < x then y :: insA l x else if y = x then y :: l else x :: y :: l
theorem insA_mem : ∀ {l : List Tx} {x z : Tx}, z ∈ insA l x ↔ z = x ∨ z ∈ l
 | [], x, z => by simp [insA]
 | y :: l, x, z => by
  unfold insA
  split
  ·rw [List.mem_cons, insA_mem, List.mem_cons]
   constructor
   ·rintro (e | e | e)
    ·exact .inr (.inl e)
    ·exact .inl e
    ·exact .inr (.inr e)
   ·rintro (e | e | e)
    ·exact .inr (.inl e)
    ·exact .inl e
    ·exact .inr (.inr e)
  ·split
   ·rename_i h
    subst h
    simp
   ·simp
theorem insA_at : ∀ {l : List Tx} {x : Tx} {k : Nat}, k ≤ l.length → (∀ j, j < k → l.getD j [] < x) → (k < l.length → ¬ l.getD k [] < x) → insA l x = if k < l.length ∧ l.getD k [] = x then l else l.take k ++ x :: l.drop k
 | [], x, k, hk, _, _ => by
  obtain rfl : k = 0 := by simpa using hk
  simp [insA]
 | y :: l, x, 0, _, _, h => by
  have h0 : ¬ y < x := by simpa using h (by simp)
  unfold insA
  rw [if_neg h0]
  simp
 | y :: l, x, k + 1, hk, h1, h2 => by
  have h0 : y < x := by simpa using h1 0 (by omega)
  unfold insA
  rw [if_pos h0, insA_at (k := k) (by simpa using hk) (fun j hj => by simpa using h1 (j + 1) (by omega)) (fun hl => by simpa using h2 (by simpa using hl))]
  simp only [List.length_cons, Nat.add_lt_add_iff_right, List.getD_cons_succ, List.take_succ_cons, List.drop_succ_cons, List.cons_append]
  split <;> rfl
theorem lkHas_const {l : Lk} {a b : Int} (hab : a ≤ b) (h1 : ¬ (a < l.2.2.1 ∧ l.2.2.1 ≤ b)) (h2 : ¬ (a < l.2.2.2 + 1 ∧ l.2.2.2 + 1 ≤ b)) : lkHas l a = lkHas l b := by
 apply Bool.eq_iff_iff.2
 rw [lkHas_iff, lkHas_iff]
 omega
theorem find_congr {α : Type} {p q : α → Bool} : ∀ {l : List α}, (∀ x ∈ l, p x = q x) → l.find? p = l.find? q
 | [], _ => rfl
 | x :: l, h => by
  rw [List.find?_cons, List.find?_cons, h x (List.mem_cons_self ..), find_congr fun y hy => h y (List.mem_cons_of_mem _ hy)]
theorem par_const {L : List Lk} {a b : Int} (h : ∀ l ∈ L, lkHas l a = lkHas l b) (c : List UInt8) : par L c a = par L c b := by
 unfold par lkOf
 rw [find_congr fun l hl => by rw [h l hl]]
theorem marks_at {M : List Int} {lo y : Int} {p : Int → Bool} (h0 : lo ∈ M) (hlo : ∀ m ∈ M, lo ≤ m) (hc : ∀ a b, lo ≤ a → a ≤ b → (∀ m ∈ M, ¬ (a < m ∧ m ≤ b)) → p a = p b) (hy : lo ≤ y) : ∃ m ∈ M, m ≤ y ∧ p m = p y := by
 have hne : (M.filter fun m => decide (m ≤ y)) ≠ [] := fun e => by
  have : lo ∈ M.filter fun m => decide (m ≤ y) := by rw [List.mem_filter]; exact ⟨h0, by simpa using hy⟩
  rw [e] at this; cases this
 obtain ⟨m, hm, hmax⟩ := exists_max (fun m : Int => m) _ hne
 rw [List.mem_filter] at hm
 have hmy : m ≤ y := by simpa using hm.2
 refine ⟨m, hm.1, hmy, hc m y (hlo m hm.1) hmy fun q hq hqq => ?_⟩
 have := hmax q (by rw [List.mem_filter]; exact ⟨hq, by simpa using hqq.2⟩)
 omega
theorem marks_law {M : List Int} {lo year : Int} {p : Int → Bool} (h0 : lo ∈ M) (hlo : ∀ m ∈ M, lo ≤ m) (hc : ∀ a b, lo ≤ a → a ≤ b → (∀ m ∈ M, ¬ (a < m ∧ m ≤ b)) → p a = p b) :
  (∃ y, lo ≤ y ∧ y < year ∧ p y = true) ↔ ∃ m ∈ M, m < year ∧ p m = true := by
 constructor
 ·rintro ⟨y, h1, h2, h3⟩
  obtain ⟨m, hm, hmy, e⟩ := marks_at h0 hlo hc h1
  exact ⟨m, hm, by omega, e.trans h3⟩
 ·rintro ⟨m, hm, h1, h2⟩
  exact ⟨m, hlo m hm, h1, h2⟩
end Go.Proofs.YtlnliajnipniaaaGreatDoor
