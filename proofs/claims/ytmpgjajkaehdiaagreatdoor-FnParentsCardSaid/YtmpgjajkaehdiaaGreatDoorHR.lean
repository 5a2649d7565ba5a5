/- The plain laws of parents and ways up. -/
import Derived.Test.YtmpgjajkaehdiaaGreatDoorWM
import Derived.Test.YtmpgjajkaehdiaaGreatDoorWN
import Derived.Test.YtmpgjajkaehdiaaGreatDoorWO
namespace Go.Proofs.YtmpgjajkaehdiaaGreatDoor
open Go.RowKit

section
variable {α : Type} [DecidableEq α] {p : α → Option α}
theorem way_pre : ∀ (f : Nat) (w : List α) (c : α), ∃ t, (way p f w c).1 = w ++ t
  | 0, w, c => ⟨[], by simp [way]⟩
  | f + 1, w, c => by
    rcases hp : p c with _ | n
    · exact ⟨[], by rw [way_none hp]; simp⟩
    · by_cases hm : n ∈ w
      · exact ⟨[], by rw [way_hit (Nat.succ_pos f) hp hm]; simp⟩
      · rw [way_on hp hm]
        obtain ⟨t, ht⟩ := way_pre f (w ++ [n]) n
        exact ⟨n :: t, by rw [ht]; simp⟩
theorem way_from : ∀ (f : Nat) (w : List α) (c : α), ∀ z ∈ (way p f w c).1, z ∈ w ∨ ∃ x, p x = some z
  | 0, w, c, z, hz => .inl (by simpa [way] using hz)
  | f + 1, w, c, z, hz => by
    rcases hp : p c with _ | n
    · rw [way_none hp] at hz; exact .inl hz
    · by_cases hm : n ∈ w
      · rw [way_hit (Nat.succ_pos f) hp hm] at hz; exact .inl hz
      · rw [way_on hp hm] at hz
        rcases way_from f (w ++ [n]) n z hz with h | h
        · rcases List.mem_append.1 h with h | h
          · exact .inl h
          · exact .inr ⟨c, by rw [hp, List.mem_singleton.1 h]⟩
        · exact .inr h
end
theorem wayU_none' {L : List Lk} {x : List UInt8} {y : Int} (hp : par L x y = none) : (wayU L x y).1 = [x] := by
  unfold wayU
  rw [way_none (p := fun x => par L x y) hp]
theorem wayU_some' {L : List Lk} {x n : List UInt8} {y : Int} (hp : par L x y = some n) (hf : (wayU L x y).2 = false) : n ≠ x ∧ ∃ t, (wayU L x y).1 = x :: n :: t := by
  unfold wayU at *
  by_cases hm : n ∈ [x]
  · rw [way_hit (p := fun x => par L x y) (Nat.succ_pos _) hp hm] at hf
    cases hf
  · rw [way_on (p := fun x => par L x y) hp hm]
    obtain ⟨t, ht⟩ := way_pre (p := fun x => par L x y) L.length ([x] ++ [n]) n
    exact ⟨fun e => hm (by rw [e]; simp), t, by rw [ht]; rfl⟩
theorem flat_of {L : List Lk} {x z : List UInt8} {y : Int} (h : lkC L [x] y = 0) : (wayU L z y).2 = false := (lksB_iff.1 (lkC_zero h).1).way z y
/-- what the way up begins with, and whether it goes on -/
theorem up_law {L : List Lk} {x : List UInt8} {y : Int} (h : lkC L [x] y = 0) : 0 < (wayU L x y).1.length ∧ (wayU L x y).1.getD 0 [] = x ∧ decide (1 < (wayU L x y).1.length) = (par L x y).isSome ∧ ((par L x y).isSome = true → (wayU L x y).1.getD 1 [] = parT L x y) := by
  rcases hp : par L x y with _ | n
  · rw [wayU_none' hp]; simp
  · obtain ⟨_, t, ht⟩ := wayU_some' hp (flat_of h)
    rw [ht]
    refine ⟨by simp, by simp, by simp, fun _ => ?_⟩
    unfold parT
    rw [hp]; rfl
theorem par_word {L : List Lk} {x n : List UInt8} {y : Int} (hL : lksB L = true) (hp : par L x y = some n) : smL n 1 16 = true := by
  unfold par at hp
  rcases hl : lkOf L x y with _ | l
  · rw [hl] at hp; cases hp
  · rw [hl] at hp
    obtain ⟨hm, _, _⟩ := lkOf_some hl
    obtain ⟨i, hi, rfl⟩ := List.mem_iff_getElem.1 hm
    have := ((lksB_iff.1 hL).1.1 i hi).1
    simp only [List.getD, List.getElem?_eq_getElem hi, Option.getD_some, lkB, Bool.and_eq_true] at this
    have e : L[i].2.1 = n := by simpa using hp
    rw [← e]; exact this.1.1.2
/-- the way's last place has no parent -/
theorem last_law {L : List Lk} {x : List UInt8} {y : Int} (h : lkC L [x] y = 0) : parC L ((wayU L x y).1.getD ((wayU L x y).1.length - 1) []) y = 4 := by
  obtain ⟨c, hc, hl, he⟩ := wayU_last L x y
  rw [hc]
  rw [flat_of h] at he
  obtain ⟨h1, h2, h3⟩ := lkC_zero h
  have hm : c ∈ (wayU L x y).1 := by
    rw [← hc]
    have hq : (wayU L x y).1.length - 1 < (wayU L x y).1.length := by omega
    simp [List.getD, hq]
  have hw : smL c 1 16 = true := by
    rcases way_from (p := fun x => par L x y) _ _ _ c hm with hx | ⟨z, hz⟩
    · rw [List.mem_singleton.1 hx]; simpa using h2
    · exact par_word h1 hz
  exact (parC_none (lkC_ok h1 (by simp [hw]) h3) he.symm).1
/-- children lie inside, and no place lies in itself -/
theorem chi_in {L : List Lk} {x z : List UInt8} {y : Int} (h : lkC L [x] y = 0) (hz : z ∈ chiR L x y) : z ∈ insR L x y := by
  unfold chiR at hz
  unfold insR
  rw [if_pos h, List.mem_filter] at *
  refine ⟨hz.1, ?_⟩
  have hq : parT L z y = x := by simpa [chiB] using hz.2
  have hx : x ≠ [] := smA_ne (lkC_zero h).2.1
  have hp : par L z y = some x := by rw [← hq]; exact parT_some (by rw [hq]; exact hx)
  obtain ⟨hn, t, ht⟩ := wayU_some' hp (flat_of h)
  unfold insB
  rw [ht]
  simp
  exact fun e => hn e.symm
theorem self_out {L : List Lk} {x : List UInt8} {y : Int} : x ∉ insR L x y := by
  unfold insR
  split
  · rw [List.mem_filter]
    rintro ⟨_, h⟩
    simp [insB] at h
  · simp
/-- a link that was added tells its child's parent -/
theorem add_law {L : List Lk} {l : Lk} (h : addC L l = 0) : parC (L ++ [l]) l.1 l.2.2.1 = 0 ∧ parV (L ++ [l]) l.1 l.2.2.1 = l.2.1 := by
  unfold addC at h
  split at h
  · rename_i hb
    split at h
    · rename_i hL
      have hl := hb.2
      simp only [lkB, Bool.and_eq_true] at hl
      have hsp := hl.2
      have hs : inB l.2.2.1 (-3000) 3000 = true ∧ lkHas l l.2.2.1 = true := by
        simp [spB, inB, lkHas] at hsp ⊢
        omega
      have hk : lkC (L ++ [l]) [l.1] l.2.2.1 = 0 := lkC_ok hL (by simp [hl.1.1.1]) hs.1
      have hm : l ∈ L ++ [l] := by simp
      obtain ⟨m, hm2⟩ := lkOf_ex hm hs.2
      obtain ⟨h1, h2, h3⟩ := lkOf_some hm2
      have e : m = l := alone_eq (lksB_iff.1 hL).1.alone h1 hm h2 h3 hs.2
      have hp : par (L ++ [l]) l.1 l.2.2.1 = some l.2.1 := by unfold par; rw [hm2, e]; rfl
      have := parC_some hk (by rw [hp]; rfl)
      exact ⟨this.1, by rw [this.2, parT_of hp]⟩
    · cases h
  · cases h
end Go.Proofs.YtmpgjajkaehdiaaGreatDoor
