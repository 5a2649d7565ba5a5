/- The laws' helpers over texts and links. -/
import Derived.Test.YtabdffponmmhoaaGreatDoorS1
namespace Go.Proofs.YtabdffponmmhoaaGreatDoor
open Go.RowKit
attribute [local go_sem] ExtOf.cell ExtOf.frozen

theorem l_bigQ (A : Option Addr) (c : Nat) (n : Nat) (w : World) : Calls Tryz.prog 19 #[.slice A n c] w fun e w' => e = .returned (.bool (decide (4096 < n))) ∧ w = w' := by
  go_enter Tryz.func19, Tryz.ntmps19
  go_wp2
  go_ret
  exact ⟨ret_bool' (by rw [decide_eq_decide]; omega), rfl⟩

end Go.Proofs.YtabdffponmmhoaaGreatDoor
