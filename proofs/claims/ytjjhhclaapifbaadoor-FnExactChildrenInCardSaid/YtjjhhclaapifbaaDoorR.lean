/- Contracts of the rings: corners, turns, edges apart; the test of a ring, walked over the translation. -/
import Derived.Test.YtjjhhclaapifbaaDoorM
import Derived.RegionTactic
import Derived.BigRegion
import Derived.Deep.RegionHeld3
import Derived.RegionTactic
import Derived.BigRegion
import Derived.WalkLawsBesides
import Derived.WalkSpells
import Derived.Lib.MinMax
import Derived.Outline
namespace Go.Proofs.YtjjhhclaapifbaaDoor
open Go.RowKit
attribute [local go_sem] ExtOf.cell ExtOf.frozen





/-- the corner with an index, counted on around the end -/
def ptx (ps : List (Int × Int)) (i : Int) : Int := (ps.getD (i.toNat % ps.length) (0, 0)).1
def ptz (ps : List (Int × Int)) (i : Int) : Int := (ps.getD (i.toNat % ps.length) (0, 0)).2
theorem ptx_lt {ps : List (Int × Int)} {k : Nat} (hk : k < ps.length) : ptx ps k = (ps.getD k (0, 0)).1 := by simp [ptx, Nat.mod_eq_of_lt hk]
theorem ptz_lt {ps : List (Int × Int)} {k : Nat} (hk : k < ps.length) : ptz ps k = (ps.getD k (0, 0)).2 := by simp [ptz, Nat.mod_eq_of_lt hk]
theorem SlAt.ring {w : World} {b off : Nat} {ps : List (Int × Int)} (h : SlAt w 2 encP (some ⟨b, off, none⟩) ps) {k : Nat} (hk : k < ps.length) :
    w.cell? ⟨b, off + k * 2, none⟩ = some (.int .i64 (ptx ps k)) ∧ w.cell? ⟨b, off + k * 2 + 1, none⟩ = some (.int .i64 (ptz ps k)) := by
  rw [ptx_lt hk, ptz_lt hk]; exact h.pt' hk
theorem SlAt.open_ {w : World} {A : Option Addr} {ps : List (Int × Int)} (h : SlAt w 2 encP A ps) (h0 : 0 < ps.length) : ∃ b off, A = some ⟨b, off, none⟩ ∧ b < w.heap.size := by
  obtain ⟨b, off, e, hb, _⟩ := h.pt h0
  exact ⟨b, off, e, hb⟩

def turnI (ps : List (Int × Int)) (k : Int) : Int := turnW (ptx ps k) (ptz ps k) (ptx ps (k + 1)) (ptz ps (k + 1)) (ptx ps (k + 2)) (ptz ps (k + 2))
def crossI (ps : List (Int × Int)) (i k : Int) : Bool := crossW (ptx ps i) (ptz ps i) (ptx ps (i + 1)) (ptz ps (i + 1)) (ptx ps k) (ptz ps k) (ptx ps (k + 1)) (ptz ps (k + 1))
/-- two edges have nothing in common, or follow one another -/
def apB (ps : List (Int × Int)) (i k : Nat) : Bool := decide (k = i + 1 ∨ (i = 0 ∧ k + 1 = ps.length)) || !crossI ps i k
/-- the index of a point in a list, counted on from i, or -1 -/
def idxG (x z : Int) : List (Int × Int) → Int → Int
  | [], _ => -1
  | p :: ps, i => if eqP x z p.1 p.2 = true then i else idxG x z ps (i + 1)
theorem idxG_at {x z : Int} {xs : List (Int × Int)} {k : Nat} {r : Int} (hk : k < xs.length) (h : Hid (idxG x z (xs.drop k) k = r)) (he : eqP x z xs[k].1 xs[k].2 = true) : (k : Int) = r := by
  have h := h.out
  rw [List.drop_eq_getElem_cons hk] at h
  simpa [idxG, he] using h
theorem idxG_no {x z : Int} {xs : List (Int × Int)} {k : Nat} {r : Int} (hk : k < xs.length) (h : Hid (idxG x z (xs.drop k) k = r)) (he : eqP x z xs[k].1 xs[k].2 = false) : Hid (idxG x z (xs.drop (k + 1)) ((k + 1 : Nat) : Int) = r) := by
  have h := h.out
  rw [List.drop_eq_getElem_cons hk] at h
  show _ = _
  simpa [idxG, he] using h
theorem idxG_end {x z : Int} {xs : List (Int × Int)} {k : Nat} {r : Int} (hk : xs.length ≤ k) (h : Hid (idxG x z (xs.drop k) k = r)) : -1 = r := by
  have h := h.out
  rw [List.drop_of_length_le hk] at h
  simpa [idxG] using h
def hasP (xs : List (Int × Int)) (x z : Int) : Bool := decide (0 ≤ idxG x z xs 0)
theorem idxG_mem {x z : Int} : ∀ (xs : List (Int × Int)) (i : Int), 0 ≤ i → (0 ≤ idxG x z xs i ↔ (x, z) ∈ xs)
  | [], i, _ => by simp [idxG]
  | p :: ps, i, hi => by
    unfold idxG
    by_cases h : eqP x z p.1 p.2 = true
    · rw [if_pos h]
      have := eqP_iff.1 h
      exact ⟨fun _ => List.mem_cons.2 (Or.inl (Prod.ext this.1 this.2)), fun _ => hi⟩
    · rw [if_neg h, idxG_mem ps (i + 1) (by omega), List.mem_cons]
      refine ⟨Or.inr, fun e => e.resolve_left fun e => h ?_⟩
      rw [← e]
      exact eqP_iff.2 ⟨rfl, rfl⟩
theorem hasP_iff {xs : List (Int × Int)} {x z : Int} : hasP xs x z = true ↔ (x, z) ∈ xs := by rw [hasP, decide_eq_true_eq]; exact idxG_mem xs 0 (by omega)

end Go.Proofs.YtjjhhclaapifbaaDoor
