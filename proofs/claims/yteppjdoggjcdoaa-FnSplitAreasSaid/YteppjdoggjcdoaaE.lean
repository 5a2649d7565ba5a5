/- '==' of structs: points. -/
import Derived.Test.YteppjdoggjcdoaaProg
import Derived.Test.Yteppjdoggjcdoaa0
import Derived.WalkLawsBesides
import Derived.Laws.StructEq
import Derived.KernelRfl
namespace Go.Proofs.Yteppjdoggjcdoaa
open Go.RowKit

/-- two points are one -/
def eqP (ax az bx bz : Int) : Bool := ax == bx && az == bz
theorem eqP_iff {ax az bx bz : Int} : eqP ax az bx bz = true ↔ ax = bx ∧ az = bz := by simp [eqP]
@[go_sem high] theorem guard_pt (op : BinOp) (x y : Operand) (xs ys : Array Value) (w : World) : (eqGuard op 33 x y (.agg xs) (.agg ys)).run Try.prog w = .ok () w :=
  run_eqGuard_agg w op _ x y xs ys (by kernel_rfl)
@[go_sem high] theorem eql_pt (ax az bx bz : Int) (w : World) : (binOp .eql 33 (.agg #[.int .i64 ax, .int .i64 az]) (.agg #[.int .i64 bx, .int .i64 bz])).run Try.prog w = .ok (.bool (eqP ax az bx bz)) w := by
  have hS : Try.prog.underlying 33 = some (.struct (Try.prog.fieldsOf 33)) := by kernel_rfl
  have hp : Try.prog.stoodInHeld 33 = false := by kernel_rfl
  have a3 := Try.isAgg2
  have z3 := Try.sizeOf2
  rw [run_eql_struct, show (10000 : Nat) = 9999 + 1 from rfl, run_equalIn_agg w 9999 33 _ _ hS hp]
  simp only [Program.fieldsOf, Try.underlying33]
  go_simp
  by_cases h1 : ax = bx <;> by_cases h2 : az = bz <;> simp [h1, h2, eqP]
@[go_sem high] theorem neq_pt (ax az bx bz : Int) (w : World) : (binOp .neq 33 (.agg #[.int .i64 ax, .int .i64 az]) (.agg #[.int .i64 bx, .int .i64 bz])).run Try.prog w = .ok (.bool (!eqP ax az bx bz)) w := by
  have hS : Try.prog.underlying 33 = some (.struct (Try.prog.fieldsOf 33)) := by kernel_rfl
  have hp : Try.prog.stoodInHeld 33 = false := by kernel_rfl
  have a3 := Try.isAgg2
  have z3 := Try.sizeOf2
  rw [run_neq_struct, show (10000 : Nat) = 9999 + 1 from rfl, run_equalIn_agg w 9999 33 _ _ hS hp]
  simp only [Program.fieldsOf, Try.underlying33]
  go_simp
  by_cases h1 : ax = bx <;> by_cases h2 : az = bz <;> simp [h1, h2, eqP]
end Go.Proofs.Yteppjdoggjcdoaa
