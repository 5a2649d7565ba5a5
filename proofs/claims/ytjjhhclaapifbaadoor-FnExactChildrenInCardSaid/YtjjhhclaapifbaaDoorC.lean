/- Contracts of the exported functions of points, and the laws on them, walked over the translation. -/
import Derived.Test.YtjjhhclaapifbaaDoorB
import Derived.Test.YtjjhhclaapifbaaDoorE
import Derived.WalkLawsBesides
import Derived.WalkSpells
import Derived.Lib.MinMax
import Derived.Outline
namespace Go.Proofs.YtjjhhclaapifbaaDoor
open Go.RowKit
attribute [local go_sem] ExtOf.cell ExtOf.frozen


theorem all_false {ps : List (Int × Int)} {k : Nat} (hk : k < ps.length) (h : (!okP ps[k].1 ps[k].2) = true) : (ps.all fun p => okP p.1 p.2) = false := by
  rw [List.all_eq_false]
  exact ⟨ps[k], List.getElem_mem hk, by simpa using h⟩
theorem all_succ {ps : List (Int × Int)} {k : Nat} (hk : k < ps.length) (hal : (ps.take k).all (fun p => okP p.1 p.2) = true) (h : (!okP ps[k].1 ps[k].2) = false) : (ps.take (k + 1)).all (fun p => okP p.1 p.2) = true := by
  rw [List.take_succ_eq_append_getElem hk, List.all_append, hal]
  simpa using h

def oks (ps : List (Int × Int)) : Bool := ps.all fun p => okP p.1 p.2
def okC (ps : List (Int × Int)) : Int := if oks ps then 0 else 1
def turnR (ax az bx bz cx cz : Int) : Int := if oks [(ax, az), (bx, bz), (cx, cz)] then turnW ax az bx bz cx cz else 0
def onR (ax az bx bz cx cz : Int) : Bool := if oks [(ax, az), (bx, bz), (cx, cz)] then onW ax az bx bz cx cz else false
def sqR (ax az bx bz : Int) : Int := if oks [(ax, az), (bx, bz)] then sqW ax az bx bz else 0
def crossC (ax az bx bz cx cz dx dz : Int) : Int := if oks [(ax, az), (bx, bz), (cx, cz), (dx, dz)] then (if eqP ax az bx bz || eqP cx cz dx dz then 5 else 0) else 1
def dirC (ax az bx bz : Int) : Int := if oks [(ax, az), (bx, bz)] then (if eqP ax az bx bz then 5 else 0) else 1
def crossR (ax az bx bz cx cz dx dz : Int) : Bool := if crossC ax az bx bz cx cz dx dz = 0 then crossW ax az bx bz cx cz dx dz else false
def dirR (ax az bx bz : Int) : Int := if dirC ax az bx bz = 0 then dirZ (bx - ax) (bz - az) else 0
theorem ne_of_eqP {ax az bx bz : Int} (h : eqP ax az bx bz = false) : ¬ (ax = bx ∧ az = bz) := fun e => by rw [eqP_iff.2 e] at h; cases h
theorem oks_two {ax az bx bz : Int} (h : (!oks [(ax, az), (bx, bz)]) = false) : okP ax az = true ∧ okP bx bz = true := by simpa [oks] using h
theorem oks_two' {ax az bx bz : Int} (h : oks [(ax, az), (bx, bz)] = true) : okP ax az = true ∧ okP bx bz = true := by simpa [oks] using h


end Go.Proofs.YtjjhhclaapifbaaDoor
