/- A change is recovered from its text: no program in sight. -/
import Derived.Test.YtabdffponmmhoaaGreatDoorT4
namespace Go.Proofs.YtabdffponmmhoaaGreatDoor
open Go.RowKit

theorem rc_back {y k : Int} {co ot la te : ByteArray} (h : chC y k co ot la te = 0) : rcC (chR y k co ot la te) = 0 ∧ rcR (chR y k co ot la te) = ⟨y, k, co, ot, la, te⟩ := by
  have hb : chB y k co ot la te = true := by
    unfold chC at h
    by_cases e : chB y k co ot la te = true
    · exact e
    · rw [if_neg e] at h; exact absurd h (by decide)
  have hr : rdCh (chR y k co ot la te) = some ⟨y, k, co, ot, la, te⟩ := rdCh_yes (p := ⟨y, k, co, ot, la, te⟩) hb (by unfold chR; rw [if_pos hb])
  unfold rcC rcR
  rw [hr]
  exact ⟨rfl, rfl⟩
theorem rc_again {l : List UInt8} (h : rcC l = 0) : chC (rcR l).y (rcR l).k (rcR l).co (rcR l).ot (rcR l).la (rcR l).te = 0 ∧ chR (rcR l).y (rcR l).k (rcR l).co (rcR l).ot (rcR l).la (rcR l).te = l := by
  by_cases e : ∃ p : Chg, chB p.y p.k p.co p.ot p.la p.te = true ∧ l = chT p.y p.k p.co p.ot p.la p.te
  · obtain ⟨p, hb, hl⟩ := e
    have hr : rcR l = p := by unfold rcR; rw [rdCh_yes hb hl]; rfl
    rw [hr]
    unfold chC chR
    rw [if_pos hb, if_pos hb]
    exact ⟨rfl, hl.symm⟩
  · have hn : rdCh l = none := rdCh_no fun p hp hl => e ⟨p, hp, hl⟩
    unfold rcC at h
    rw [hn] at h
    exact absurd h (by decide)
/-- what ReadChange answers: valid with code none, the empty change else -/
theorem rc_size {l : List UInt8} : (rcR l).co.size ≤ 1048576 ∧ (rcR l).ot.size ≤ 1048576 ∧ (rcR l).la.size ≤ 1048576 ∧ (rcR l).te.size ≤ 1048576 ∨ rcC l = 0 := by
  unfold rcC rcR
  cases rdCh l with
  | none => left; simp [chg0, ByteArray.size]
  | some p => right; rfl
end Go.Proofs.YtabdffponmmhoaaGreatDoor
