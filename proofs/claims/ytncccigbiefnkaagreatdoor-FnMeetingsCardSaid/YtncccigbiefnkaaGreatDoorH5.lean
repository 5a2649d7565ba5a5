/- The plain laws of meetings, of years inside and of ended links. The plain law of the years inside: a set of years, and what it holds. -/
import Derived.Test.YtncccigbiefnkaaGreatDoorW3
import Derived.Test.YtncccigbiefnkaaGreatDoorW8
import Derived.Test.YtncccigbiefnkaaGreatDoorU1
import Derived.Test.YtncccigbiefnkaaGreatDoorW2
import Derived.Test.YtncccigbiefnkaaGreatDoorUB
namespace Go.Proofs.YtncccigbiefnkaaGreatDoor
open Go.RowKit

/-- a link that ends for a place before a year -/
def cutK (c : List UInt8) (z : Int) (l : Lk) : Lk := if l.1 = c ∨ l.2.1 = c then (l.1, l.2.1, l.2.2.1, min l.2.2.2 (z - 1)) else l
/-- of the first k links those that are left when a place's links end -/
def endTo (L : List Lk) (c : List UInt8) (z : Int) (k : Nat) : List Lk := ((L.take k).map (cutK c z)).filter fun l => decide (l.2.2.1 ≤ l.2.2.2)
noncomputable def endR (L : List Lk) (c : List UInt8) (z : Int) : List Lk := if lkC L [c] z = 0 then endTo L c z L.length else []
theorem endTo_zero (L : List Lk) (c : List UInt8) (z : Int) : endTo L c z 0 = [] := rfl
theorem endTo_succ {L : List Lk} {c : List UInt8} {z : Int} {k : Nat} (hk : k < L.length) : endTo L c z (k + 1) = endTo L c z k ++ (if (cutK c z (L.getD k lkD)).2.2.1 ≤ (cutK c z (L.getD k lkD)).2.2.2 then [cutK c z (L.getD k lkD)] else []) := by
  unfold endTo
  rw [List.take_succ_eq_append_getElem hk, List.map_append, List.filter_append, show L.getD k lkD = L[k] by simp [List.getD, hk]]
  congr 1
  simp only [List.map_cons, List.map_nil, List.filter_cons, List.filter_nil]
  split <;> rename_i h <;> simp at h <;> simp [h]
theorem endTo_len (L : List Lk) (c : List UInt8) (z : Int) (k : Nat) : (endTo L c z k).length ≤ k := by
  unfold endTo
  have h1 := List.length_filter_le (fun l : Lk => decide (l.2.2.1 ≤ l.2.2.2)) ((L.take k).map (cutK c z))
  rw [List.length_map, List.length_take] at h1
  omega
theorem cutK_child (c : List UInt8) (z : Int) (l : Lk) : (cutK c z l).1 = l.1 := by unfold cutK; split <;> rfl
theorem cutK_parent (c : List UInt8) (z : Int) (l : Lk) : (cutK c z l).2.1 = l.2.1 := by unfold cutK; split <;> rfl
theorem cutK_from (c : List UInt8) (z : Int) (l : Lk) : (cutK c z l).2.2.1 = l.2.2.1 := by unfold cutK; split <;> rfl
theorem cutK_to (c : List UInt8) (z : Int) (l : Lk) : (cutK c z l).2.2.2 ≤ l.2.2.2 := by unfold cutK; split <;> (try simp only) <;> omega
theorem cutK_end {c : List UInt8} {z : Int} {l : Lk} (h : l.1 = c ∨ l.2.1 = c) : (cutK c z l).2.2.2 ≤ z - 1 := by unfold cutK; rw [if_pos h]; simp only; omega
theorem endTo_mem {L : List Lk} {c : List UInt8} {z : Int} {m : Lk} (h : m ∈ endTo L c z L.length) : ∃ l ∈ L, m = cutK c z l ∧ m.2.2.1 ≤ m.2.2.2 := by
  unfold endTo at h
  rw [List.take_length, List.mem_filter] at h
  obtain ⟨l, hl, e⟩ := List.mem_map.1 h.1
  exact ⟨l, hl, e.symm, of_decide_eq_true h.2⟩
theorem lk_at {L : List Lk} {j : Nat} (hj : j < L.length) : L.getD j lkD = L[j] := by simp [List.getD, hj]
theorem alone_pair {L : List Lk} : AloneL L ↔ L.Pairwise fun a b => (a.1 == b.1 && meetB a.2.2.1 a.2.2.2 b.2.2.1 b.2.2.2) = false := by
  rw [List.pairwise_iff_getElem]
  constructor
  · intro h i j hi hj hij
    have := h j i hij hj
    rwa [lk_at hi, lk_at hj] at this
  · intro h i j hij hi
    have := h j i (by omega) hi hij
    rwa [lk_at hi, lk_at (show j < L.length by omega)]
theorem end_alone {L : List Lk} (h : AloneL L) (c : List UInt8) (z : Int) : AloneL (endTo L c z L.length) := by
  rw [alone_pair] at *
  unfold endTo
  rw [List.take_length]
  refine List.Pairwise.filter _ ?_
  rw [List.pairwise_map]
  refine h.imp ?_
  intro a b hab
  rw [cutK_child, cutK_child]
  have h1 := cutK_from c z a
  have h2 := cutK_from c z b
  have h3 := cutK_to c z a
  have h4 := cutK_to c z b
  rw [Bool.and_eq_false_iff] at hab ⊢
  rcases hab with e | e
  · exact .inl e
  · refine .inr ?_
    unfold meetB at *
    rw [Bool.and_eq_false_iff] at *
    rcases e with e | e
    · have := of_decide_eq_false e
      exact .inl (decide_eq_false (by omega))
    · have := of_decide_eq_false e
      exact .inr (decide_eq_false (by omega))
theorem end_par {L : List Lk} (h : AloneL L) {c x n : List UInt8} {z y : Int} (hp : par (endTo L c z L.length) x y = some n) : par L x y = some n := by
  unfold par at hp
  rcases hl : lkOf (endTo L c z L.length) x y with _ | m
  · rw [hl] at hp; cases hp
  · rw [hl] at hp
    obtain ⟨h1, h2, h3⟩ := lkOf_some hl
    obtain ⟨l, l1, rfl, _⟩ := endTo_mem h1
    rw [cutK_child] at h2
    have hn : l.2.1 = n := by simpa [cutK_parent] using hp
    have hy : lkHas l y = true := by
      rw [lkHas_iff] at *
      rw [cutK_from] at h3
      have := cutK_to c z l
      omega
    obtain ⟨l', e⟩ := lkOf_ex l1 hy
    obtain ⟨e1, e2, e3⟩ := lkOf_some e
    have := alone_eq h e1 l1 e2 e3 hy
    subst this
    unfold par
    rw [← h2, e, ← hn]; rfl
/-- no link of the place is left in the year -/
theorem end_none (L : List Lk) (c x : List UInt8) (z : Int) : par (endTo L c z L.length) c z = none ∧ par (endTo L c z L.length) x z ≠ some c := by
  have key : ∀ m ∈ endTo L c z L.length, lkHas m z = true → ¬ (m.1 = c ∨ m.2.1 = c) := by
    intro m hm hz hc
    obtain ⟨l, _, rfl, _⟩ := endTo_mem hm
    rw [cutK_child, cutK_parent] at hc
    have := cutK_end (z := z) hc
    rw [lkHas_iff] at hz
    omega
  constructor
  · unfold par
    rcases hl : lkOf (endTo L c z L.length) c z with _ | m
    · rfl
    · obtain ⟨h1, h2, h3⟩ := lkOf_some hl
      exact absurd (.inl h2) (key m h1 h3)
  · unfold par
    rcases hl : lkOf (endTo L c z L.length) x z with _ | m
    · intro e; cases e
    · obtain ⟨h1, h2, h3⟩ := lkOf_some hl
      intro e
      have hn : m.2.1 = c := by simpa using e
      exact key m h1 h3 (.inr hn)
theorem end_links {L : List Lk} (h : lksB L = true) (c : List UInt8) (z : Int) : lksB (endTo L c z L.length) = true := by
  have hP := lksB_iff.1 h
  have hA := end_alone hP.1.alone c z
  refine lksB_iff.2 ⟨⟨fun j hj => ⟨?_, fun q hq => hA j q hq hj⟩, ?_⟩, fun i hi k hk => ?_⟩
  · rw [lk_at hj]
    obtain ⟨l, hl, e, hle⟩ := endTo_mem (List.getElem_mem hj)
    rw [e] at hle ⊢
    obtain ⟨i, hi, rfl⟩ := List.mem_iff_getElem.1 hl
    have h1 := (hP.1.1 i hi).1
    rw [lk_at hi] at h1
    unfold lkB at *
    rw [cutK_child, cutK_parent]
    simp only [Bool.and_eq_true] at h1 ⊢
    refine ⟨h1.1, ?_⟩
    have hs := spB_iff.1 h1.2
    have h3 := cutK_to c z L[i]
    rw [cutK_from] at hle ⊢
    exact spB_iff.2 (by omega)
  · have h1 := endTo_len L c z L.length
    have h2 := hP.1.2
    omega
  · generalize ((endTo L c z L.length).getD k lkD).1 = x
    generalize ((endTo L c z L.length).getD i lkD).2.2.1 = y
    cases hw : (wayU (endTo L c z L.length) x y).2 with
    | false => rfl
    | true =>
      exfalso
      obtain ⟨S, hne, hS⟩ := way_cycle par_in (WayIn.start (endTo L c z L.length) x y) hw
      obtain ⟨s, hs⟩ := List.exists_mem_of_ne_nil S hne
      have := way_closed (par_in (L := L) (y := y)) (S := S) (fun t ht => by
        obtain ⟨n, hn, hp⟩ := hS t ht
        exact ⟨n, hn, end_par hP.1.alone hp⟩) _ _ _ (WayIn.start L s y) hs
      have h2 := hP.way s y
      unfold wayU at h2
      rw [h2] at this
      cases this
/-- what is told of ended links -/
theorem end_law {L : List Lk} {c : List UInt8} {z : Int} (h : lkC L [c] z = 0) : lksB (endR L c z) = true ∧ lkC (endR L c z) [c] z = 0 ∧ insR (endR L c z) c z = [] ∧ parC (endR L c z) c z = 4 := by
  obtain ⟨h1, h2, h3⟩ := lkC_zero h
  have e : endR L c z = endTo L c z L.length := by unfold endR; rw [if_pos h]
  rw [e]
  have k1 := end_links h1 c z
  have k2 := lkC_ok k1 h2 h3
  refine ⟨k1, k2, ?_, (parC_none k2 (by rw [(end_none L c c z).1]; rfl)).1⟩
  unfold insR
  rw [if_pos k2, List.filter_eq_nil_iff]
  intro x _ hx
  unfold insB at hx
  simp only [Bool.and_eq_true, Bool.not_eq_true', decide_eq_true_eq, beq_eq_false_iff_ne] at hx
  rcases way_from (p := fun x => par (endTo L c z L.length) x z) _ _ _ c hx.2 with e | ⟨t, ht⟩
  · exact hx.1 (List.mem_singleton.1 e).symm
  · exact (end_none L c t z).2 ht

/-- two ways up that go on alike and end meet in one place, from whichever one looks -/
theorem meet_sym {α : Type} {p : α → Option α} {a b : List α} {pa pb : α → Bool} (hpa : ∀ z, pa z = true ↔ z ∈ b) (hpb : ∀ z, pb z = true ↔ z ∈ a) (na : a.Nodup)
    (ca : ∀ (i : Nat) (x n : α), a[i]? = some x → p x = some n → a[i + 1]? = some n)
    (db : ∀ (i : Nat) (x n : α), b[i]? = some x → b[i + 1]? = some n → p x = some n)
    {m m' : α} (hm : a.find? pa = some m) (hm' : b.find? pb = some m') : m = m' := by
  rw [List.find?_eq_some_iff_getElem] at hm hm'
  obtain ⟨h1, i, hi, rfl, h2⟩ := hm
  obtain ⟨k1, j, hj, rfl, k2⟩ := hm'
  have h1 := (hpa _).1 h1
  have k1 := (hpb _).1 k1
  obtain ⟨j2, hj2, ej⟩ := List.mem_iff_getElem.1 h1
  obtain ⟨i2, hi2, ei⟩ := List.mem_iff_getElem.1 k1
  have hij : i ≤ i2 := by
    rcases Nat.lt_or_ge i2 i with c | c
    · have := h2 i2 c
      rw [ei, (hpa _).2 (List.getElem_mem hj)] at this
      cases this
    · exact c
  have hjj : j ≤ j2 := by
    rcases Nat.lt_or_ge j2 j with c | c
    · have := k2 j2 c
      rw [ej, (hpb _).2 (List.getElem_mem hi)] at this
      cases this
    · exact c
  have key : ∀ d, j + d ≤ j2 → a[i2 + d]? = b[j + d]? := by
    intro d
    induction d with
    | zero => intro _; rw [Nat.add_zero, Nat.add_zero, List.getElem?_eq_getElem hi2, List.getElem?_eq_getElem hj, ei]
    | succ d ih =>
      intro hd
      have e := ih (by omega)
      have hb1 : j + d < b.length := by omega
      have hb2 : j + d + 1 < b.length := by omega
      rw [List.getElem?_eq_getElem hb1] at e
      have hp := db (j + d) _ _ (List.getElem?_eq_getElem hb1) (List.getElem?_eq_getElem hb2)
      have := ca (i2 + d) _ _ e hp
      rw [← Nat.add_assoc, ← Nat.add_assoc, this, List.getElem?_eq_getElem hb2]
  have h3 := key (j2 - j) (by omega)
  rw [show j + (j2 - j) = j2 by omega, List.getElem?_eq_getElem hj2, ej] at h3
  obtain ⟨hlt, h4⟩ := List.getElem?_eq_some_iff.1 h3
  have h5 : i2 + (j2 - j) = i := (List.getElem_inj na).1 h4
  have h6 : i2 = i := by omega
  subst h6
  exact ei
/-- a way up that ends: each place twice at most once, and followed by its parent -/
theorem wayU_chain (L : List Lk) (c : List UInt8) (y : Int) (hf : (wayU L c y).2 = false) : (wayU L c y).1.Nodup ∧ (∀ i x n, (wayU L c y).1[i]? = some x → (wayU L c y).1[i + 1]? = some n → par L x y = some n) ∧ ∀ i x n, (wayU L c y).1[i]? = some x → par L x y = some n → (wayU L c y).1[i + 1]? = some n := by
  obtain ⟨f', c', h1, h2, h3⟩ := way_end (par_in (L := L) (y := y)) _ _ _ (WayIn.start L c y)
  unfold wayU at *
  rw [hf] at h2
  have hl := h1.last
  have hch := h1.chain
  have hnd := h1.nd
  generalize (way (fun x => par L x y) (L.length + 1) [c] c).1 = v at *
  refine ⟨hnd, hch, fun i x n hx hp => ?_⟩
  obtain ⟨hi, _⟩ := List.getElem?_eq_some_iff.1 hx
  rcases Nat.lt_or_ge (i + 1) v.length with q | q
  · have h5 := hch i x _ hx (List.getElem?_eq_getElem q)
    (try simp only at h5)
    rw [hp] at h5
    rw [List.getElem?_eq_getElem q, h5]
  · exfalso
    rw [List.getLast?_eq_getElem?, show v.length - 1 = i by omega, hx] at hl
    injection hl with hl
    subst hl
    rw [hp] at h2
    cases h2
theorem mtO_sym {L : List Lk} {a b : List UInt8} {y : Int} (h : lksB L = true) {m : List UInt8} (hm : mtO L a b y = some m) : mtO L b a y = some m := by
  have hP := lksB_iff.1 h
  obtain ⟨na, _, ca⟩ := wayU_chain L a y (hP.way a y)
  obtain ⟨_, db, _⟩ := wayU_chain L b y (hP.way b y)
  unfold mtO at *
  rcases hm' : (wayU L b y).1.find? (fun z => decide (z ∈ (wayU L a y).1)) with _ | m'
  · exfalso
    rw [List.find?_eq_none] at hm'
    have h1 := List.mem_of_find?_eq_some hm
    have h2 := List.find?_some hm
    have := hm' m (by simpa using h2)
    simp [h1] at this
  · exact congrArg some (meet_sym (p := fun x => par L x y) (fun z => decide_eq_true_iff) (fun z => decide_eq_true_iff) na ca db hm hm').symm
theorem mt_law {L : List Lk} {a b : List UInt8} {y : Int} (h : mtC L a b y = 0) : mtC L b a y = 0 ∧ mtV L b a y = mtV L a b y := by
  by_cases hz : lkC L [a, b] y = 0
  · obtain ⟨h1, h2, h3⟩ := lkC_zero hz
    have hz' : lkC L [b, a] y = 0 := lkC_ok h1 (by simp at h2 ⊢; exact ⟨h2.2, h2.1⟩) h3
    rcases hm : mtO L a b y with _ | m
    · rw [(mtC_none hz hm).1] at h; cases h
    · have := mtC_some hz' (mtO_sym h1 hm)
      exact ⟨this.1, by rw [this.2, (mtC_some hz hm).2]⟩
  · rw [(mtC_bad hz).1] at h
    exact absurd h hz
end Go.Proofs.YtncccigbiefnkaaGreatDoor
namespace Go.Proofs.YtncccigbiefnkaaGreatDoor
open Go.RowKit

/-- spans that are a set of years -/
def YrsOk (S : List Sn) : Prop := Nrm S ∧ (∀ s ∈ S, -3000 ≤ s.1 ∧ s.2 ≤ 3000) ∧ S.length ≤ 12
/-- whether a year is in a set of years -/
def hasY (S : List Sn) (y : Int) : Bool := S.any fun s => inB y s.1 s.2
theorem hasY_iff {S : List Sn} {y : Int} : hasY S y = true ↔ inSp S y := by
  unfold hasY inSp
  rw [List.any_eq_true]
  constructor
  · rintro ⟨s, hs, h⟩
    simp [inB] at h
    exact ⟨s, hs, h⟩
  · rintro ⟨s, hs, h⟩
    refine ⟨s, hs, ?_⟩
    simp [inB]
    exact h
theorem YrsOk.at_ {S : List Sn} (h : YrsOk S) {j : Nat} (hj : j < S.length) : spB (S.getD j (0, 0)).1 (S.getD j (0, 0)).2 = true ∧ (0 < j → (S.getD (j - 1) (0, 0)).2 + 2 ≤ (S.getD j (0, 0)).1) := by
  obtain ⟨⟨h1, h2⟩, h3, _⟩ := h
  rw [show S.getD j (0, 0) = S[j] by simp [List.getD, hj]]
  have a1 := h2 S[j] (List.getElem_mem hj)
  have a2 := h3 S[j] (List.getElem_mem hj)
  refine ⟨spB_iff.2 ⟨a2.1, a1, a2.2⟩, fun h0 => ?_⟩
  have hj1 : j - 1 < S.length := by omega
  rw [show S.getD (j - 1) (0, 0) = S[j - 1] by simp [List.getD, hj1]]
  exact List.pairwise_iff_getElem.1 h1 (j - 1) j hj1 hj (by omega)
theorem inSp_yrTo {p : Int → Bool} {y : Int} : inSp (yrTo p 6001) y ↔ (-3000 ≤ y ∧ y ≤ 3000) ∧ p y = true := by
  constructor
  · rintro ⟨s, hs, h1, h2⟩
    obtain ⟨i, hi, hp, rfl⟩ := yrTo_mem.1 hs
    simp only at h1 h2
    have e : y = -3000 + (i : Int) := by omega
    rw [e]
    exact ⟨by omega, hp⟩
  · rintro ⟨h1, h2⟩
    have e : -3000 + ((y + 3000).toNat : Int) = y := by omega
    exact ⟨(y, y), yrTo_mem.2 ⟨(y + 3000).toNat, by omega, by rw [e]; exact h2, by rw [e]⟩, Int.le_refl _, Int.le_refl _⟩
theorem yrS_nrm (L : List Lk) (a b : List UInt8) : Nrm (yrS L a b) ∧ ∀ y, inSp (yrS L a b) y ↔ (-3000 ≤ y ∧ y ≤ 3000) ∧ insY L a b y = true := by
  have n0 : Nrm [] := ⟨List.Pairwise.nil, fun s hs => by cases hs⟩
  obtain ⟨a1, a2⟩ := joinL_law (S := yrTo (insY L a b) 6001) n0 (fun s hs => by
    obtain ⟨i, _, _, rfl⟩ := yrTo_mem.1 hs
    exact Int.le_refl _) (yrTo_asc _ _) fun t ht => by cases ht
  refine ⟨a1, fun y => ?_⟩
  unfold yrS
  rw [a2, inSp_yrTo]
  constructor
  · rintro (⟨s, hs, _⟩ | e)
    · cases hs
    · exact e
  · exact .inr
theorem yiC_zero {L : List Lk} {a b : List UInt8} (h : yiC L a b = 0) : lksB L = true ∧ smL a 1 16 = true ∧ smL b 1 16 = true ∧ ¬ 12 < (yrS L a b).length := by
  unfold yiC at h
  split at h
  · rename_i h1
    split at h
    · cases h
    · split at h
      · cases h
      · rename_i h3
        exact ⟨h1.1, h1.2.1, h1.2.2, h3⟩
  · cases h
/-- what the years inside are, where they are told -/
theorem yi_law {L : List Lk} {a b : List UInt8} (h : yiC L a b = 0) : YrsOk (yiV L a b) ∧ ∀ y, -3000 ≤ y → y ≤ 3000 → lkC L [a] y = 0 ∧ hasY (yiV L a b) y = decide (b ∈ wayR L a y) := by
  obtain ⟨h1, h2, h3, h4⟩ := yiC_zero h
  obtain ⟨n1, n2⟩ := yrS_nrm L a b
  rw [yiV_ok h]
  refine ⟨⟨n1, fun s hs => ?_, by omega⟩, fun y hy1 hy2 => ?_⟩
  · have hle := n1.2 s hs
    have e1 := ((n2 s.1).1 ⟨s, hs, Int.le_refl _, hle⟩).1
    have e2 := ((n2 s.2).1 ⟨s, hs, hle, Int.le_refl _⟩).1
    exact ⟨e1.1, e2.2⟩
  · have hk : lkC L [a] y = 0 := lkC_ok h1 (by simp [h2]) (by simp [inB]; omega)
    refine ⟨hk, ?_⟩
    have hw : wayR L a y = (wayU L a y).1 := by unfold wayR; rw [if_pos hk]
    rw [hw]
    have e := n2 y
    rw [← hasY_iff] at e
    unfold insY at e
    cases hh : hasY (yrS L a b) y with
    | true =>
      have := (e.1 hh).2
      exact this.symm
    | false =>
      rw [hh] at e
      refine (decide_eq_false fun hm => ?_).symm
      have := e.2 ⟨⟨hy1, hy2⟩, decide_eq_true hm⟩
      cases this
end Go.Proofs.YtncccigbiefnkaaGreatDoor
