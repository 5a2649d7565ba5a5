/- Plain laws of spans that are joined one by one. -/
import Derived.Test.YtmpgjajkaehdiaaGreatDoorGP
namespace Go.Proofs.YtmpgjajkaehdiaaGreatDoor

/-- a span joined to those before it: the last one grows where the two touch -/
def joinS (out : List Sn) (s : Sn) : List Sn :=
  match out.getLast? with
  | some t => if s.1 ≤ t.2 + 1 then out.dropLast ++ [(t.1, max t.2 s.2)] else out ++ [s]
  | none => [s]
theorem joinS_nil (s : Sn) : joinS [] s = [s] := rfl
theorem joinS_snoc (o : List Sn) (t s : Sn) : joinS (o ++ [t]) s = if s.1 ≤ t.2 + 1 then o ++ [(t.1, max t.2 s.2)] else o ++ [t] ++ [s] := by
  unfold joinS
  simp
theorem inSp_app {a b : List Sn} {y : Int} : inSp (a ++ b) y ↔ inSp a y ∨ inSp b y := by
  unfold inSp
  constructor
  · rintro ⟨s, hs, h⟩
    rcases List.mem_append.1 hs with e | e
    · exact .inl ⟨s, e, h⟩
    · exact .inr ⟨s, e, h⟩
  · rintro (⟨s, hs, h⟩ | ⟨s, hs, h⟩)
    · exact ⟨s, List.mem_append_left _ hs, h⟩
    · exact ⟨s, List.mem_append_right _ hs, h⟩
theorem inSp_one {s : Sn} {y : Int} : inSp [s] y ↔ s.1 ≤ y ∧ y ≤ s.2 := by
  unfold inSp
  constructor
  · rintro ⟨t, ht, h⟩
    rw [List.mem_singleton] at ht
    rw [← ht]; exact h
  · intro h
    exact ⟨s, List.mem_singleton.2 rfl, h⟩
theorem Nrm.snoc {o : List Sn} {t : Sn} : Nrm (o ++ [t]) ↔ Nrm o ∧ t.1 ≤ t.2 ∧ ∀ u ∈ o, u.2 + 2 ≤ t.1 := by
  unfold Nrm
  rw [List.pairwise_append]
  constructor
  · rintro ⟨⟨h1, _, h2⟩, h3⟩
    exact ⟨⟨h1, fun s hs => h3 s (List.mem_append_left _ hs)⟩, h3 t (List.mem_append_right _ (List.mem_singleton.2 rfl)), fun u hu => h2 u hu t (List.mem_singleton.2 rfl)⟩
  · rintro ⟨⟨h1, h2⟩, h3, h4⟩
    refine ⟨⟨h1, List.pairwise_singleton .., fun u hu v hv => ?_⟩, fun s hs => ?_⟩
    · rw [List.mem_singleton] at hv
      rw [hv]; exact h4 u hu
    · rcases List.mem_append.1 hs with e | e
      · exact h2 s e
      · rw [List.mem_singleton] at e
        rw [e]; exact h3
/-- what joining does to the years -/
theorem joinS_law {out : List Sn} {s : Sn} (h : Nrm out) (hs : s.1 ≤ s.2) (hl : ∀ t ∈ out, t.1 ≤ s.1) :
    Nrm (joinS out s) ∧ (∀ y, inSp (joinS out s) y ↔ inSp out y ∨ (s.1 ≤ y ∧ y ≤ s.2)) ∧ ∀ t ∈ joinS out s, t.1 ≤ s.1 := by
  rcases List.eq_nil_or_concat out with rfl | ⟨o, t, rfl⟩
  · rw [joinS_nil]
    refine ⟨(Nrm.snoc (o := [])).2 ⟨h, hs, fun u hu => by cases hu⟩, fun y => ?_, fun t ht => ?_⟩
    · rw [inSp_one]
      constructor
      · exact .inr
      · rintro (⟨u, hu, _⟩ | e)
        · cases hu
        · exact e
    · rw [List.mem_singleton] at ht
      rw [ht]; exact Int.le_refl _
  · rw [List.concat_eq_append] at *
    rw [joinS_snoc]
    obtain ⟨h1, h2, h3⟩ := Nrm.snoc.1 h
    have ht := hl t (List.mem_append_right _ (List.mem_singleton.2 rfl))
    split
    · rename_i hc
      refine ⟨Nrm.snoc.2 ⟨h1, by simp only; omega, fun u hu => h3 u hu⟩, fun y => ?_, fun u hu => ?_⟩
      · rw [inSp_app, inSp_app, inSp_one, inSp_one]
        simp only
        constructor
        · rintro (e | e)
          · exact .inl (.inl e)
          · rcases Int.lt_or_le t.2 y with c | c
            · exact .inr ⟨by omega, by omega⟩
            · exact .inl (.inr ⟨e.1, c⟩)
        · rintro ((e | e) | e)
          · exact .inl e
          · exact .inr ⟨e.1, by omega⟩
          · exact .inr ⟨by omega, by omega⟩
      · rcases List.mem_append.1 hu with e | e
        · exact hl u (List.mem_append_left _ e)
        · rw [List.mem_singleton] at e
          rw [e]; exact ht
    · rename_i hc
      refine ⟨Nrm.snoc.2 ⟨h, hs, fun u hu => ?_⟩, fun y => ?_, fun u hu => ?_⟩
      · rcases List.mem_append.1 hu with e | e
        · have := h3 u e
          omega
        · rw [List.mem_singleton] at e
          rw [e]; omega
      · rw [inSp_app, inSp_one]
      · rcases List.mem_append.1 hu with e | e
        · exact hl u e
        · rw [List.mem_singleton] at e
          rw [e]; exact Int.le_refl _
/-- spans joined one by one, in the order in which they begin -/
theorem joinL_law : ∀ {S : List Sn} {out : List Sn}, Nrm out → (∀ s ∈ S, s.1 ≤ s.2) → S.Pairwise (fun a b => a.1 ≤ b.1) → (∀ t ∈ out, ∀ s ∈ S, t.1 ≤ s.1) →
    Nrm (S.foldl joinS out) ∧ ∀ y, inSp (S.foldl joinS out) y ↔ inSp out y ∨ inSp S y
  | [], out, h, _, _, _ => ⟨h, fun y => ⟨.inl, fun e => e.elim id fun ⟨_, hs, _⟩ => by cases hs⟩⟩
  | s :: S, out, h, hs, hp, hl => by
    rw [List.pairwise_cons] at hp
    obtain ⟨j1, j2, j3⟩ := joinS_law h (hs s (List.mem_cons_self ..)) fun t ht => hl t ht s (List.mem_cons_self ..)
    obtain ⟨k1, k2⟩ := joinL_law (S := S) j1 (fun t ht => hs t (List.mem_cons_of_mem _ ht)) hp.2 fun t ht u hu => Int.le_trans (j3 t ht) (hp.1 u hu)
    refine ⟨k1, fun y => ?_⟩
    rw [List.foldl_cons, k2, j2, inSp_cons]
    constructor
    · rintro ((e | e) | e)
      · exact .inl e
      · exact .inr (.inl e)
      · exact .inr (.inr e)
    · rintro (e | e | e)
      · exact .inl (.inl e)
      · exact .inl (.inr e)
      · exact .inr e
/-- two ways to tell the same years by spans, joined -/
theorem join_same {S T : List Sn} (hs : ∀ s ∈ S, s.1 ≤ s.2) (ht : ∀ s ∈ T, s.1 ≤ s.2) (ps : S.Pairwise (fun a b => a.1 ≤ b.1)) (pt : T.Pairwise (fun a b => a.1 ≤ b.1)) (h : ∀ y, inSp S y ↔ inSp T y) :
    S.foldl joinS [] = T.foldl joinS [] := by
  have n0 : Nrm [] := ⟨List.Pairwise.nil, fun s hs => by cases hs⟩
  obtain ⟨a1, a2⟩ := joinL_law (S := S) n0 hs ps fun t ht => by cases ht
  obtain ⟨b1, b2⟩ := joinL_law (S := T) n0 ht pt fun t ht => by cases ht
  refine a1.eq b1 fun y => ?_
  rw [a2, b2, h]
end Go.Proofs.YtmpgjajkaehdiaaGreatDoor
