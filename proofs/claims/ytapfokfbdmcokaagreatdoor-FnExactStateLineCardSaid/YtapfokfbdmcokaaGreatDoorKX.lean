/- Opening a list of texts among a law's arguments. -/
import Derived.Test.YtapfokfbdmcokaaGreatDoorKW
namespace Go.Proofs.YtapfokfbdmcokaaGreatDoor
open Go.ChangeShapes Go.WideShapes Go.ChangeAt Go.RowKit Go.Deep Go.Joins
/-- a list of texts among a law's arguments -/
structure ArgT (w : World) (A : Option Addr) (L : List (List UInt8)) : Prop where
  sl : SlAt w 1 encS A L
  can : ∀ i, i < L.length → (L.getD i []).length ≤ 9223372036854775807
  len : L.length ≤ 9223372036854775807
theorem ArgT.ext {w w' : World} {A : Option Addr} {L : List (List UInt8)} (h : ArgT w A L) (hx : Ext w w') : ArgT w' A L := ⟨h.sl.ext hx, h.can, h.len⟩
set_option maxRecDepth 100000 in
theorem openLT {H : Type} {enc : TypeId × Value → H} {w : World} {base : Nat} {v : Value} {d : DataW H} {p : List MemPlace}
    (hv : Value.okWide Tryz.prog w .any base 27 v) (h : DataW.Trod enc Tryz.prog w 0 (fun _ => true) true 27 v d p) :
    ∃ (A : Option Addr) (c : Nat) (L : List (List UInt8)), v = .slice A L.length c ∧ ArgT w A L := by
  obtain ⟨a0, len, cap, rfl⟩ := okWide_slice Tryz.underlying27 hv
  obtain ⟨fuel, hf⟩ := h
  obtain ⟨A, c, L, hcs, hS, hG, _, _⟩ := open_sl (α := List UInt8) encS (fun l => l.length ≤ 9223372036854775807) Tryz.underlying27 (sz := 1) (by kernel_rfl) (by omega)
    (fun n cs x h => trod_tx Tryz.underlying9 h) hf
  have hlen : len ≤ 9223372036854775807 := trod_len (A := a0) (c := cap) Tryz.underlying27 (by simpa [Value.cells] using hf)
  have hcs' : Value.slice a0 len cap = .slice A L.length c := by simpa [Value.cells] using hcs
  refine ⟨A, c, L, hcs', hS, fun i hi => hG _ (by simp [List.getD, hi]), ?_⟩
  injection hcs' with _ e2
  omega
end Go.Proofs.YtapfokfbdmcokaaGreatDoor
