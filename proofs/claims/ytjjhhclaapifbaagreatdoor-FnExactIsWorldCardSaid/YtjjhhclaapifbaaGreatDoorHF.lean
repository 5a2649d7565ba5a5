/- Plain laws of ways up and of links as the program tests them: no program in sight. -/
import Derived.Test.YtjjhhclaapifbaaGreatDoorHB
import Derived.Test.YtjjhhclaapifbaaGreatDoorWE
namespace Go.Proofs.YtjjhhclaapifbaaGreatDoor

/-- the loop's state of a way up: the way so far -/
def UpAt (L : List Lk) (x : List UInt8) (y : Int) (ws : List (List UInt8)) : Prop :=
  ∃ f c, ws.getLast? = some c ∧ way (fun z => par L z y) f ws c = wayU L x y ∧ WayIn L y f ws c
section
variable {L : List Lk} {x c n : List UInt8} {y : Int} {ws : List (List UInt8)}
theorem UpAt.start : UpAt L x y [x] := ⟨L.length + 1, x, rfl, rfl, WayIn.start L x y⟩
theorem UpAt.none_ (h : UpAt L x y ws) (hl : ws.getLast? = some c) (hp : par L c y = none) : (wayU L x y).1 = ws := by
  obtain ⟨f, c', h1, h2, h3⟩ := h
  rw [hl] at h1
  injection h1 with h1
  subst h1
  rw [way_none (p := fun z => par L z y) hp] at h2
  rw [← h2]
theorem UpAt.hit (h : UpAt L x y ws) (hl : ws.getLast? = some c) (hp : par L c y = some n) (hm : n ∈ ws) : (wayU L x y).1 = ws := by
  obtain ⟨f, c', h1, h2, h3⟩ := h
  rw [hl] at h1
  injection h1 with h1
  subst h1
  have hf := (h3.pos par_in (show (fun z => par L z y) c = some n from hp)).1
  rw [way_hit hf (show (fun z => par L z y) c = some n from hp) hm] at h2
  rw [← h2]
theorem UpAt.on (h : UpAt L x y ws) (hl : ws.getLast? = some c) (hp : par L c y = some n) (hm : n ∉ ws) : UpAt L x y (ws ++ [n]) ∧ ws.length ≤ L.length := by
  obtain ⟨f, c', h1, h2, h3⟩ := h
  rw [hl] at h1
  injection h1 with h1
  subst h1
  have hpos := h3.pos par_in (show (fun z => par L z y) c = some n from hp)
  rw [List.length_map] at hpos
  obtain ⟨f, rfl⟩ : ∃ k, f = k + 1 := ⟨f - 1, by omega⟩
  rw [way_on (show (fun z => par L z y) c = some n from hp) hm] at h2
  exact ⟨⟨f, n, by simp, h2, h3.step par_in hp hm⟩, hpos.2⟩
theorem UpAt.ne (h : UpAt L x y ws) : 0 < ws.length ∧ ws.length ≤ L.length + 1 ∧ ∃ c, ws.getLast? = some c ∧ ws.getD (ws.length - 1) [] = c := by
  obtain ⟨f, c, h1, h2, h3⟩ := h
  have h4 := h3.len
  rw [List.length_map] at h4
  have h5 : 0 < ws.length := by
    rcases ws with _ | ⟨a, t⟩
    · simp at h1
    · simp
  refine ⟨h5, h4, c, h1, ?_⟩
  rw [List.getLast?_eq_getElem?] at h1
  rw [List.getD_eq_getElem?_getD, h1]; rfl
end
theorem parT_of {L : List Lk} {c n : List UInt8} {y : Int} (h : par L c y = some n) : parT L c y = n := by unfold parT; rw [h]; rfl
theorem wayU_last (L : List Lk) (x : List UInt8) (y : Int) : ∃ c, (wayU L x y).1.getD ((wayU L x y).1.length - 1) [] = c ∧ 0 < (wayU L x y).1.length ∧ (wayU L x y).2 = (par L c y).isSome := by
  obtain ⟨c, h1, _⟩ := wayU_ne L x y
  have h2 := wayU_circ L x y
  rw [h1] at h2
  have h3 : 0 < (wayU L x y).1.length := by
    rcases he : (wayU L x y).1 with _ | ⟨a, t⟩
    · rw [he] at h1; simp at h1
    · simp
  refine ⟨c, ?_, h3, h2⟩
  rw [List.getLast?_eq_getElem?] at h1
  rw [List.getD_eq_getElem?_getD, h1]; rfl
theorem lksB_bad {L : List Lk} {j : Nat} (hj : j < L.length) (h : lkB (L.getD j lkD) = false) : lksB L = false := lksB_no fun hM => by rw [(hM.1.1 j hj).1] at h; cases h
theorem lksB_two {L : List Lk} {j : Nat} (hj : j < L.length) (h : ((L.take j).any fun m => m.1 == (L.getD j lkD).1 && meetB m.2.2.1 m.2.2.2 (L.getD j lkD).2.2.1 (L.getD j lkD).2.2.2) = true) : lksB L = false := lksB_no fun hM => by
  rw [List.any_eq_true] at h
  obtain ⟨m, hm, hq⟩ := h
  obtain ⟨q, hq2, rfl⟩ := List.mem_iff_getElem.1 hm
  rw [List.length_take] at hq2
  have := (hM.1.1 j hj).2 q (by omega)
  have hql : q < L.length := by omega
  simp only [List.getElem_take] at hq
  simp only [liB, List.getD, List.getElem?_eq_getElem hql, Option.getD_some] at this
  simp only [List.getD] at hq
  rw [hq] at this
  cases this
theorem okK_of {L : List Lk} {j : Nat} (hj : j < L.length) (h1 : lkB (L.getD j lkD) = true) (h : ((L.take j).any fun m => m.1 == (L.getD j lkD).1 && meetB m.2.2.1 m.2.2.2 (L.getD j lkD).2.2.1 (L.getD j lkD).2.2.2) = false) : okK L j := ⟨h1, fun q hq => by
  rw [List.any_eq_false] at h
  have hql : q < L.length := by omega
  have := h L[q] (List.mem_iff_getElem.2 ⟨q, by simp; omega, by simp⟩)
  unfold liB
  rw [show L.getD q lkD = L[q] by simp [List.getD, hql]]
  simpa using this⟩
theorem lksB_cir {L : List Lk} {i k : Nat} (hi : i < L.length) (hk : k < L.length) (h : (wayU L (L.getD k lkD).1 (L.getD i lkD).2.2.1).2 = true) : lksB L = false := lksB_no fun hM => by rw [hM.2 i hi k hk] at h; cases h
theorem lksB_yes {L : List Lk} (h1 : ∀ j, j < L.length → okK L j) (h2 : ∀ i, i < L.length → ∀ k, k < L.length → (lkHas (L.getD k lkD) (L.getD i lkD).2.2.1 && (wayU L (L.getD k lkD).1 (L.getD i lkD).2.2.1).2) = false) (h3 : L.length ≤ 20) : lksB L = true :=
  lksB_iff.2 ⟨⟨h1, h3⟩, fun i hi k hk => by
    cases hb : (wayU L (L.getD k lkD).1 (L.getD i lkD).2.2.1).2 with
    | false => rfl
    | true =>
      obtain ⟨l, hl, hc, hy⟩ := wayU_has hb
      obtain ⟨q, hq, rfl⟩ := List.mem_iff_getElem.1 hl
      have := h2 i hi q hq
      rw [show L.getD q lkD = L[q] by simp [List.getD, hq], hc, hy, hb] at this
      cases this⟩
theorem lksB_long {L : List Lk} (h : 20 < L.length) : lksB L = false := lksB_no fun hM => by have := hM.1.2; omega
/-- the code of links, codes and a year -/
noncomputable def lkC (L : List Lk) (cs : List (List UInt8)) (y : Int) : Int := if lksB L = true ∧ (cs.all fun x => smL x 1 16) = true then (if inB y (-3000) 3000 = true then 0 else 2) else 1
theorem lkC_links {L : List Lk} {cs : List (List UInt8)} {y : Int} (h : lksB L = false) : lkC L cs y = 1 := by simp [lkC, h]
theorem lkC_words {L : List Lk} {cs : List (List UInt8)} {y : Int} (h : (cs.all fun x => smL x 1 16) = false) : lkC L cs y = 1 := by simp [lkC, h]
theorem lkC_year {L : List Lk} {cs : List (List UInt8)} {y : Int} (h1 : lksB L = true) (h2 : (cs.all fun x => smL x 1 16) = true) (h : inB y (-3000) 3000 = false) : lkC L cs y = 2 := by simp [lkC, h1, h2, h]
theorem lkC_ok {L : List Lk} {cs : List (List UInt8)} {y : Int} (h1 : lksB L = true) (h2 : (cs.all fun x => smL x 1 16) = true) (h : inB y (-3000) 3000 = true) : lkC L cs y = 0 := by simp [lkC, h1, h2, h]
theorem lkC_zero {L : List Lk} {cs : List (List UInt8)} {y : Int} (h : lkC L cs y = 0) : lksB L = true ∧ (cs.all fun x => smL x 1 16) = true ∧ inB y (-3000) 3000 = true := by
  cases h1 : lksB L with
  | false => rw [lkC_links h1] at h; cases h
  | true =>
    cases h2 : (cs.all fun x => smL x 1 16) with
    | false => rw [lkC_words h2] at h; cases h
    | true =>
      refine ⟨rfl, rfl, ?_⟩
      cases h3 : inB y (-3000) 3000 with
      | false => rw [lkC_year h1 h2 h3] at h; cases h
      | true => rfl
theorem lkC_ne {L : List Lk} {cs : List (List UInt8)} {y : Int} (h : ¬ lkC L cs y = 0) : (lkC L cs y = 1 ∨ lkC L cs y = 2) := by
  unfold lkC at *
  split at h
  · rename_i h1
    split at h
    · exact absurd rfl h
    · rename_i h2
      rw [if_pos h1, if_neg h2]; exact .inr rfl
  · rename_i h1
    rw [if_neg h1]; exact .inl rfl
end Go.Proofs.YtjjhhclaapifbaaGreatDoor
