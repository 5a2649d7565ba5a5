/- Opening a list of rings among a law's arguments. -/
import Derived.Test.YteppjdoggjcdoaaK
import Derived.Test.YteppjdoggjcdoaaMM
namespace Go.Proofs.Yteppjdoggjcdoaa
open Go.ChangeShapes Go.WideShapes Go.ChangeAt Go.RowKit Go.Deep Go.Joins
theorem trod_len {H : Type} {enc : TypeId × Value → H} {P : Program} {w : World} {base : Nat} {held : Bool} {fuel : Nat} {t e : TypeId} {A : Option Addr} {n c : Nat} {x : DataW H × List MemPlace} (ht : P.underlying t = some (.slice e))
    (h : DataW.trod enc P w base (fun _ => true) held fuel t [.slice A n c] = some x) : n ≤ 9223372036854775807 := by
  rcases open_slice ht h with ⟨e1, _⟩ | ⟨a, len, cap, m, k, D, Pl, e1, _, hl, hm, _⟩
  · injection e1 with e1
    injection e1 with _ e2
    omega
  · injection e1 with e1
    injection e1 with _ e2
    unfold maxLen at hm
    omega
theorem trod_rg {H : Type} {enc : TypeId × Value → H} {w : World} {base : Nat} {held : Bool} {fuel : Nat} {t e : TypeId} {f0 f1 : Field} {cs : List Value} {x : DataW H × List MemPlace} (ht : Try.prog.underlying t = some (.slice e)) (hs : Try.prog.underlying e = some (.struct #[f0, f1]))
    (h0 : f0.type = 2) (h1 : f1.type = 2) (hone : oneCellFields Try.prog #[f0, f1] = true) (hC : Try.prog.cellsOf e = 2) (h : DataW.trod enc Try.prog w base (fun _ => true) held fuel t cs = some x) :
    ∃ r : Rg, cs = encR r ∧ SlAt w 2 encP r.1 r.2.2 ∧ r.2.2.length ≤ 9223372036854775807 := by
  obtain ⟨A, c, xs, rfl, hS, _, _, _⟩ := open_sl encP (fun p => I64 p.1 ∧ I64 p.2) ht hC (by omega) (fun n cs x h => trod_pt hs Try.underlying2 h0 h1 hone hC h) h
  exact ⟨(A, c, xs), rfl, hS, trod_len ht h⟩
set_option maxRecDepth 100000 in
/-- a list of rings among the arguments -/
theorem openLLP {H : Type} {enc : TypeId × Value → H} {w : World} {base : Nat} {t e e2 : TypeId} {f0 f1 : Field} {v : Value} {d : DataW H} {p : List MemPlace}
    (ht : Try.prog.underlying t = some (.slice e)) (he : Try.prog.underlying e = some (.slice e2)) (hs : Try.prog.underlying e2 = some (.struct #[f0, f1])) (h0 : f0.type = 2) (h1 : f1.type = 2) (hone : oneCellFields Try.prog #[f0, f1] = true) (hC : Try.prog.cellsOf e2 = 2) (hC1 : Try.prog.cellsOf e = 1)
    (hv : Value.okWide Try.prog w .any base t v) (h : DataW.Trod enc Try.prog w 0 (fun _ => true) true t v d p) :
    ∃ (A : Option Addr) (c : Nat) (rs : List Rg), v = .slice A rs.length c ∧ ArgR w A rs := by
  obtain ⟨a0, len, cap, rfl⟩ := okWide_slice ht hv
  obtain ⟨fuel, hf⟩ := h
  obtain ⟨A, c, rs, hcs, hS, hG, _, _⟩ := open_sl (α := Rg) encR (fun r => SlAt w 2 encP r.1 r.2.2 ∧ r.2.2.length ≤ 9223372036854775807) ht hC1 (by omega)
    (fun n cs x h => trod_rg he hs h0 h1 hone hC h) hf
  have hl : len ≤ 9223372036854775807 := trod_len (A := a0) (c := cap) ht (by simpa [Value.cells] using hf)
  have hcs' : Value.slice a0 len cap = .slice A rs.length c := by simpa [Value.cells] using hcs
  refine ⟨A, c, rs, hcs', hS, fun i hi => (hG _ (rg_mem hi)).1, ?_, fun i hi => (hG _ (rg_mem hi)).2⟩
  injection hcs' with _ e2
  omega
end Go.Proofs.Yteppjdoggjcdoaa
