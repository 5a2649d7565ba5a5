/- Closed facts of the program alone, which every claim of the seat asks for. -/
import Derived.Test.YtlnliajnipniaaaGreatDoorRows
import Derived.JoinedOf
import Derived.Stop.Joined
namespace Go.Proofs.YtlnliajnipniaaaGreatDoor
set_option maxHeartbeats 25600000 in
set_option maxRecDepth 100000 in
theorem kf_out : laidOutB Tryz.pinned.checked.prog = true := by kernel_rfl
set_option maxHeartbeats 25600000 in
set_option maxRecDepth 100000 in
theorem kf_rowed : mapsRowed Tryz.pinned.checked.prog = true := by kernel_rfl
set_option maxHeartbeats 25600000 in
set_option maxRecDepth 100000 in
theorem kf_keys : (true == Program.plainKeys Tryz.pinned.checked.prog) = true := by kernel_rfl
set_option maxHeartbeats 25600000 in
set_option maxRecDepth 100000 in
theorem kf_heard : Program.stopsHeard Tryz.pinned.checked.prog = true := by kernel_rfl
set_option maxHeartbeats 25600000 in
set_option maxRecDepth 100000 in
theorem kf_enter : Program.mayEnter Tryz.pinned.checked.prog = true := by kernel_rfl
set_option maxHeartbeats 25600000 in
set_option maxRecDepth 100000 in
theorem kf_lifted : (false == Program.liftsFinal Tryz.pinned.checked.prog) = true := by kernel_rfl
set_option maxHeartbeats 25600000 in
set_option maxRecDepth 100000 in
theorem kf_make : (Program.make Tryz.pinned.checked.prog == some .cut) = true := by kernel_rfl
end Go.Proofs.YtlnliajnipniaaaGreatDoor
