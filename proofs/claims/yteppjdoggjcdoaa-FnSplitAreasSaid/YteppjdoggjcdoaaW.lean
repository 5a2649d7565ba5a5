/- Small words for memory, beside the first text of words. -/
import Derived.Test.Yteppjdoggjcdoaa0
namespace Go.Proofs.Yteppjdoggjcdoaa
open Go.RowKit
@[simp] theorem drew_size (w : World) : w.drew.heap.size = w.heap.size := rfl
@[simp] theorem drewN_size (w : World) (n : Nat) : (w.drewN n).heap.size = w.heap.size := rfl
end Go.Proofs.Yteppjdoggjcdoaa
