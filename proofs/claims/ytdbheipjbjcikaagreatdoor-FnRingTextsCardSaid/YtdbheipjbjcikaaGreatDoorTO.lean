/- Plain laws of texts that are joined and split again; of the text of a change. -/
import Derived.Test.YtdbheipjbjcikaaGreatDoorTE
import Derived.Test.YtdbheipjbjcikaaGreatDoorTI
namespace Go.Proofs.YtdbheipjbjcikaaGreatDoor

theorem jn_two (x y : List UInt8) (r : List (List UInt8)) (c : UInt8) : jn (x :: y :: r) [c] = x ++ c :: jn (y :: r) [c] := by
  show Lib.join (x :: y :: r) [c] = x ++ c :: Lib.join (y :: r) [c]
  rw [Lib.join_cons, Lib.join_cons]
  unfold Lib.joinTail
  simp
/-- words without the byte between them: joined, then split: the words -/
theorem sp_jn {c : UInt8} : ∀ {L : List (List UInt8)}, L ≠ [] → (∀ x ∈ L, c ∉ x) → sp c (jn L [c]) = L
  | [], h, _ => absurd rfl h
  | [x], _, h => by
    rw [show jn [x] [c] = x from Lib.join_one x [c]]
    exact sp_free (h x (List.mem_singleton.2 rfl))
  | x :: y :: r, _, h => by
    rw [jn_two, sp_cut _ (h x (List.mem_cons_self ..)), sp_jn (by simp) fun z hz => h z (List.mem_cons_of_mem _ hz)]
/-- split, then joined: the text -/
theorem jn_sp (c : UInt8) : ∀ l : List UInt8, jn (sp c l) [c] = l
  | [] => Lib.join_one [] [c]
  | b :: l => by
    have ih := jn_sp c l
    rw [sp]
    rcases hs : sp c l with _ | ⟨x, r⟩
    · exact absurd hs (sp_ne c l)
    · rw [hs] at ih
      by_cases hb : b = c
      · rw [if_pos hb, jn_two, ih, hb]; rfl
      · rw [if_neg hb]
        show jn ((b :: x) :: r) [c] = b :: l
        rw [← ih]
        show Lib.join ((b :: x) :: r) [c] = b :: Lib.join (x :: r) [c]
        rw [Lib.join_cons, Lib.join_cons]
        rfl
theorem sp_bytes {c b : UInt8} {l : List UInt8} (h : b ∈ l) : b = c ∨ ∃ x ∈ sp c l, b ∈ x := by
  induction l with
  | nil => cases h
  | cons a l ih =>
    rw [sp]
    by_cases ha : a = c
    · rw [if_pos ha]
      rcases List.mem_cons.1 h with e | e
      · exact .inl (e.trans ha)
      · rcases ih e with e | ⟨x, hx, hb⟩
        · exact .inl e
        · exact .inr ⟨x, List.mem_cons_of_mem _ hx, hb⟩
    · rw [if_neg ha]
      rcases hs : sp c l with _ | ⟨x, r⟩
      · exact absurd hs (sp_ne c l)
      · rcases List.mem_cons.1 h with e | e
        · exact .inr ⟨a :: x, List.mem_cons_self .., by rw [e]; exact List.mem_cons_self ..⟩
        · rcases ih e with e | ⟨y, hy, hb⟩
          · exact .inl e
          · rw [hs] at hy
            rcases List.mem_cons.1 hy with rfl | hy
            · exact .inr ⟨a :: y, List.mem_cons_self .., List.mem_cons_of_mem _ hb⟩
            · exact .inr ⟨y, List.mem_cons_of_mem _ hy, hb⟩
theorem sm_free {l : List UInt8} {lo hi : Int} {b : UInt8} (h : smL l lo hi = true) (hl : lowB b = false) : b ∉ l := fun hb => by
  unfold smL at h
  rw [Bool.and_eq_true] at h
  have := List.all_eq_true.1 h.2 b hb
  rw [hl] at this
  cases this
theorem ph_free {l : List UInt8} {b : UInt8} (h : phB l = true) (hb : b ≠ 32) (hl : lowB b = false) : b ∉ l := fun hm => by
  unfold phB at h
  rw [Bool.and_eq_true] at h
  rcases sp_bytes (c := 32) hm with e | ⟨x, hx, hbx⟩
  · exact hb e
  · exact sm_free (List.all_eq_true.1 h.2 x hx) hl hbx
/-- "." read as nothing -/
def frB (s : ByteArray) : ByteArray := if s.data.toList = [46] then ⟨#[]⟩ else s
theorem fr_dt {s : ByteArray} (h : s.data.toList ≠ [46]) : frB (dtB s) = s := by
  unfold dtB
  rw [ByteArray.toList_eq]
  rcases hs : s.data.toList with _ | ⟨a, r⟩
  · simp only [List.isEmpty_nil, if_true]
    unfold frB
    rw [if_pos rfl]
    exact (eq_tx hs).symm ▸ rfl
  · simp only [List.isEmpty_cons, Bool.false_eq_true, if_false]
    unfold frB
    rw [if_neg h]
theorem dt_free {s : ByteArray} {b : UInt8} (h : b ∉ s.data.toList) (hb : b ≠ 46) : b ∉ (dtB s).data.toList := by
  unfold dtB
  split
  · simpa using hb
  · exact h
theorem chB_free {b : UInt8} {y k : Int} {co ot la te : ByteArray} (hl : lowB b = false) (hb : b ≠ 32) (h : chB y k co ot la te = true) :
    b ∉ co.data.toList ∧ b ∉ ot.data.toList ∧ b ∉ la.data.toList ∧ b ∉ te.data.toList := by
  unfold chB at h
  simp only [Bool.and_eq_true] at h
  obtain ⟨_, _, hco, hot, hlt⟩ := h
  have emp : ∀ s : ByteArray, s.toList.isEmpty = true → b ∉ s.data.toList := fun s e => by
    rw [ByteArray.toList_eq] at e
    rw [List.isEmpty_iff.1 e]
    simp
  refine ⟨?_, ?_, ?_⟩
  · rw [smB_list] at hco
    exact sm_free hco hl
  · split at hot
    · rw [Bool.and_eq_true, smB_list] at hot
      exact sm_free hot.1 hl
    · exact emp _ hot
  · split at hlt
    · rw [Bool.and_eq_true] at hlt
      exact ⟨sm_free hlt.1 hl, ph_free hlt.2 hb hl⟩
    · rw [Bool.and_eq_true] at hlt
      exact ⟨emp _ hlt.1, emp _ hlt.2⟩
theorem sp_chT {y k : Int} {co ot la te : ByteArray} (h : chB y k co ot la te = true) : sp 47 (chT y k co ot la te) = chL y k co ot la te := by
  obtain ⟨h1, h2, h3, h4⟩ := chB_free (b := 47) (by decide) (by decide) h
  refine sp_jn (by simp [chL]) fun x hx => ?_
  simp only [chL, List.mem_cons, List.not_mem_nil, or_false] at hx
  rcases hx with rfl | rfl | rfl | rfl | rfl | rfl
  · exact itoa_free (by decide) (by decide)
  · exact itoa_free (by decide) (by decide)
  · exact h1
  · exact dt_free h2 (by decide)
  · exact dt_free h3 (by decide)
  · exact dt_free h4 (by decide)
theorem data_inj {a b : ByteArray} (h : a.data.toList = b.data.toList) : a = b := by rw [eq_tx h]; rfl
/-- valid changes of one text are one -/
theorem chT_inj {y k : Int} {co ot la te : ByteArray} {y' k' : Int} {co' ot' la' te' : ByteArray} (h : chB y k co ot la te = true) (h' : chB y' k' co' ot' la' te' = true) (e : chT y k co ot la te = chT y' k' co' ot' la' te') :
    y = y' ∧ k = k' ∧ co = co' ∧ ot = ot' ∧ la = la' ∧ te = te' := by
  have e2 := (sp_chT h).symm.trans ((congrArg (sp 47) e).trans (sp_chT h'))
  simp only [chL, List.cons.injEq, and_true] at e2
  obtain ⟨a1, a2, a3, a4, a5, a6⟩ := e2
  obtain ⟨_, n1, n2, n3⟩ := chB_free (b := 46) (by decide) (by decide) h
  obtain ⟨_, m1, m2, m3⟩ := chB_free (b := 46) (by decide) (by decide) h'
  have dot : ∀ s : ByteArray, (46 : UInt8) ∉ s.data.toList → s.data.toList ≠ [46] := fun s hs e => hs (by rw [e]; exact List.mem_singleton.2 rfl)
  refine ⟨itoa_inj a1, itoa_inj a2, data_inj a3, ?_, ?_, ?_⟩
  · rw [← fr_dt (dot _ n1), data_inj a4, fr_dt (dot _ m1)]
  · rw [← fr_dt (dot _ n2), data_inj a5, fr_dt (dot _ m2)]
  · rw [← fr_dt (dot _ n3), data_inj a6, fr_dt (dot _ m3)]
/-- a change's six fields -/
structure Chg where
  y : Int
  k : Int
  co : ByteArray
  ot : ByteArray
  la : ByteArray
  te : ByteArray
open Classical in
/-- the change that a text spells -/
noncomputable def rdCh (l : List UInt8) : Option Chg := if h : ∃ p : Chg, chB p.y p.k p.co p.ot p.la p.te = true ∧ l = chT p.y p.k p.co p.ot p.la p.te then some h.choose else none
theorem rdCh_yes {l : List UInt8} {p : Chg} (h : chB p.y p.k p.co p.ot p.la p.te = true) (e : l = chT p.y p.k p.co p.ot p.la p.te) : rdCh l = some p := by
  have hx : ∃ p : Chg, chB p.y p.k p.co p.ot p.la p.te = true ∧ l = chT p.y p.k p.co p.ot p.la p.te := ⟨p, h, e⟩
  unfold rdCh
  rw [dif_pos hx]
  obtain ⟨e1, e2, e3, e4, e5, e6⟩ := chT_inj hx.choose_spec.1 h (hx.choose_spec.2.symm.trans e)
  generalize hx.choose = q at *
  cases p
  cases q
  simp only at e1 e2 e3 e4 e5 e6
  subst e1 e2 e3 e4 e5 e6
  rfl
theorem rdCh_no {l : List UInt8} (h : ∀ p : Chg, chB p.y p.k p.co p.ot p.la p.te = true → l ≠ chT p.y p.k p.co p.ot p.la p.te) : rdCh l = none := by
  unfold rdCh
  rw [dif_neg]
  rintro ⟨p, h1, h2⟩
  exact h p h1 h2
end Go.Proofs.YtdbheipjbjcikaaGreatDoor
