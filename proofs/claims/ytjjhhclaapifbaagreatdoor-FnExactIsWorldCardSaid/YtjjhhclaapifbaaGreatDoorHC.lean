/- Plain laws of children and of what lies inside. -/
import Derived.Test.YtjjhhclaapifbaaGreatDoorWE
import Derived.Test.YtjjhhclaapifbaaGreatDoorHB
namespace Go.Proofs.YtjjhhclaapifbaaGreatDoor

/-- all places of links, in alphabetical order -/
def plaA (L : List Lk) : List Tx := L.foldl (fun o l => insA (insA o l.1) l.2.1) []
theorem plaF_alf : ∀ {L : List Lk} {o : List Tx}, Alf o → Alf (L.foldl (fun o l => insA (insA o l.1) l.2.1) o)
  | [], _, h => h
  | _ :: L, _, h => plaF_alf (L := L) (insA_alf (insA_alf h))
theorem plaF_mem : ∀ {L : List Lk} {o : List Tx} {x : Tx}, x ∈ L.foldl (fun o l => insA (insA o l.1) l.2.1) o ↔ x ∈ o ∨ ∃ l ∈ L, x = l.1 ∨ x = l.2.1
  | [], o, x => by simp
  | m :: L, o, x => by
    rw [List.foldl_cons, plaF_mem, insA_mem, insA_mem]
    constructor
    · rintro ((e | e | e) | ⟨l, hl, e⟩)
      · exact .inr ⟨m, List.mem_cons_self .., .inr e⟩
      · exact .inr ⟨m, List.mem_cons_self .., .inl e⟩
      · exact .inl e
      · exact .inr ⟨l, List.mem_cons_of_mem _ hl, e⟩
    · rintro (e | ⟨l, hl, e⟩)
      · exact .inl (.inr (.inr e))
      · rcases List.mem_cons.1 hl with rfl | hl
        · rcases e with e | e
          · exact .inl (.inr (.inl e))
          · exact .inl (.inl e)
        · exact .inr ⟨l, hl, e⟩
theorem plaA_alf (L : List Lk) : Alf (plaA L) := plaF_alf List.Pairwise.nil
theorem plaA_mem {L : List Lk} {x : Tx} : x ∈ plaA L ↔ ∃ l ∈ L, x = l.1 ∨ x = l.2.1 := by
  unfold plaA
  rw [plaF_mem]
  simp
/-- a place with a parent has a link of the year -/
theorem par_link {L : List Lk} {x n : Tx} {y : Int} (h : par L x y = some n) : ∃ l ∈ L, l.1 = x ∧ lkHas l y = true := by
  unfold par at h
  rcases hl : lkOf L x y with _ | l
  · rw [hl] at h; cases h
  · exact ⟨l, lkOf_some hl⟩
theorem parT_some {L : List Lk} {x : Tx} {y : Int} (h : parT L x y ≠ []) : par L x y = some (parT L x y) := by
  unfold parT at *
  rcases hp : par L x y with _ | n
  · rw [hp] at h; exact absurd rfl h
  · rfl
/-- whatever is asked of places that have a parent is asked of all places or of the children of the year alike -/
theorem child_law (L : List Lk) (y : Int) (p : Tx → Bool) (h : ∀ x, p x = true → ∃ n, par L x y = some n) :
    sortA ((L.filter fun l => lkHas l y && p l.1).map fun l => l.1) = (plaA L).filter p := by
  refine sortA_eq ((plaA_alf L).filter p) fun x => ?_
  rw [List.mem_filter, plaA_mem, List.mem_map]
  constructor
  · rintro ⟨l, hl, rfl⟩
    rw [List.mem_filter] at hl
    simp only [Bool.and_eq_true] at hl
    exact ⟨⟨l, hl.1, .inl rfl⟩, hl.2.2⟩
  · rintro ⟨_, hp⟩
    obtain ⟨n, hn⟩ := h x hp
    obtain ⟨l, hl, e, hy⟩ := par_link hn
    refine ⟨l, ?_, e⟩
    rw [List.mem_filter]
    refine ⟨hl, ?_⟩
    rw [hy, e, hp]; rfl
/-- the places whose parent is a place -/
def chiB (L : List Lk) (c : Tx) (y : Int) (x : Tx) : Bool := parT L x y == c
/-- the places that lie in a place -/
def insB (L : List Lk) (c : Tx) (y : Int) (x : Tx) : Bool := !(x == c) && decide (c ∈ (wayU L x y).1)
theorem chi_law (L : List Lk) {c : Tx} (hc : c ≠ []) (y : Int) : sortA ((L.filter fun l => lkHas l y && chiB L c y l.1).map fun l => l.1) = (plaA L).filter (chiB L c y) :=
  child_law L y _ fun x hx => by
    simp only [chiB, beq_iff_eq] at hx
    exact ⟨_, parT_some (by rw [hx]; exact hc)⟩
theorem ins_law (L : List Lk) (c : Tx) (y : Int) : sortA ((L.filter fun l => lkHas l y && insB L c y l.1).map fun l => l.1) = (plaA L).filter (insB L c y) :=
  child_law L y _ fun x hx => by
    simp only [insB, Bool.and_eq_true, Bool.not_eq_true', beq_eq_false_iff_ne, decide_eq_true_eq] at hx
    rcases hp : par L x y with _ | n
    · have : (wayU L x y).1 = [x] := by unfold wayU; rw [way_none (p := fun z => par L z y) hp]
      rw [this, List.mem_singleton] at hx
      exact absurd hx.2.symm hx.1
    · exact ⟨n, rfl⟩
end Go.Proofs.YtjjhhclaapifbaaGreatDoor
