/- Opening a list of bytes among a law's arguments. -/
import Derived.Test.YtbnkiibjhfcffaaGreatDoorK1
import Derived.Test.YtbnkiibjhfcffaaGreatDoorG0
namespace Go.Proofs.YtbnkiibjhfcffaaGreatDoor
open Go.ChangeShapes Go.WideShapes Go.ChangeAt Go.RowKit Go.Deep Go.Joins
set_option maxRecDepth 100000 in
/-- a list of bytes among the arguments -/
theorem openLB {H : Type} {enc : TypeId × Value → H} {w : World} {base : Nat} {t e : TypeId} {v : Value} {d : DataW H} {p : List MemPlace}
    (ht : Tryz.prog.underlying t = some (.slice e)) (he : Tryz.prog.underlying e = some (.int .u8)) (hC : Tryz.prog.cellsOf e = 1)
    (hv : Value.okWide Tryz.prog w .any base t v) (h : DataW.Trod enc Tryz.prog w 0 (fun _ => true) true t v d p) :
    ∃ (A : Option Addr) (c : Nat) (bs : List Int), v = .slice A bs.length c ∧ SlAt w 1 encB A bs ∧ (∀ b ∈ bs, 0 ≤ b ∧ b ≤ 255) := by
  obtain ⟨a0, len, cap, rfl⟩ := okWide_slice ht hv
  obtain ⟨fuel, hf⟩ := h
  obtain ⟨A, c, xs, hcs, hS, hG, _, _⟩ := open_sl encB (fun b => 0 ≤ b ∧ b ≤ 255) ht hC (by omega)
    (fun n cs x h => by
      obtain ⟨b, e0, _, wb⟩ := DataW.trod_int he h
      refine ⟨b, e0, ?_⟩
      have := wb
      simp [Lit.wf, IntKind.min, IntKind.max, IntKind.signed, IntKind.bits] at this
      omega) hf
  exact ⟨A, c, xs, by simpa [Value.cells] using hcs, hS, hG⟩
end Go.Proofs.YtbnkiibjhfcffaaGreatDoor
