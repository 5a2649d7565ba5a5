/- Contracts of the the normal ring, walked over the translation. -/
import Derived.Test.YtacpimajiojekaaDoorNA
import Derived.Test.YtacpimajiojekaaDoorGE
import Derived.Deep.RegionHeld3
import Derived.Deep.DeepCutAuto
import Derived.RegionTactic
import Derived.BigRegion
import Derived.WalkLawsBesides
import Derived.WalkSpells
import Derived.Lib.MinMax
import Derived.Outline
namespace Go.Proofs.YtacpimajiojekaaDoor
open Go.RowKit
attribute [local go_sem] ExtOf.cell ExtOf.frozen

def atP (ps : List (Int × Int)) (k : Nat) : Int × Int := ps.getD k (0, 0)
/-- whether a point stands ahead of another one -/
def lessP (p q : Int × Int) : Bool := decide (p.1 < q.1) || (p.1 == q.1 && decide (p.2 < q.2))
/-- the index of the least point among the first k -/
def minTo (ps : List (Int × Int)) : Nat → Nat
  | 0 => 0
  | k + 1 => if lessP (atP ps k) (atP ps (minTo ps k)) = true then k else minTo ps k
theorem minTo_le (ps : List (Int × Int)) : ∀ k, minTo ps k = 0 ∨ minTo ps k < k
  | 0 => .inl rfl
  | k + 1 => by
    unfold minTo
    have := minTo_le ps k
    split
    · omega
    · omega
theorem minTo_lt {ps : List (Int × Int)} (h : 0 < ps.length) {k : Nat} (hk : k ≤ ps.length) : minTo ps k < ps.length := by
  have := minTo_le ps k
  omega
def outI (ps : List (Int × Int)) : List (Int × Int) := if areaZ ps < 0 then ps.reverse else ps
def normI (ps : List (Int × Int)) : List (Int × Int) := (outI ps).drop (minTo (outI ps) ps.length) ++ (outI ps).take (minTo (outI ps) ps.length)
theorem outI_len (ps : List (Int × Int)) : (outI ps).length = ps.length := by unfold outI; split <;> simp
theorem less_yes {o : List (Int × Int)} {k : Nat} (h : lessP (atP o k) (atP o (minTo o k)) = true) : minTo o (k + 1) = k := by rw [minTo, if_pos h]
theorem less_no {o : List (Int × Int)} {k : Nat} (h : lessP (atP o k) (atP o (minTo o k)) = false) : minTo o (k + 1) = minTo o k := by rw [minTo, if_neg (by simp [h])]
/-- the normal ring, as the reference reckons it -/
def nsAt (ps : List (Int × Int)) (b i : Nat) : Int × Int := if 0 < areaZ ps then (ptx ps ((b : Int) + i), ptz ps ((b : Int) + i)) else (ptx ps ((b : Int) + ps.length - i), ptz ps ((b : Int) + ps.length - i))
def nsTo (ps : List (Int × Int)) (k : Nat) : List (Int × Int) := (List.range k).map (nsAt ps (minTo ps ps.length))
def normS (ps : List (Int × Int)) : List (Int × Int) := nsTo ps ps.length
theorem nsTo_succ (ps : List (Int × Int)) (k : Nat) : nsTo ps (k + 1) = nsTo ps k ++ [nsAt ps (minTo ps ps.length) k] := by unfold nsTo; rw [List.range_succ, List.map_append]; rfl
theorem nsTo_len (ps : List (Int × Int)) (k : Nat) : (nsTo ps k).length = k := by simp [nsTo]
theorem blk_sl1 {w : World} {g : Nat} {t : TypeId} {p : Int × Int} {x z : Int} (h : Blk w g t #[.int .i64 x, .int .i64 z]) (e : p = (x, z)) : SlAt w 2 encP (some ⟨g, 0, none⟩) [p] := by
  subst e; exact h.sl rfl len_encP

end Go.Proofs.YtacpimajiojekaaDoor
