/- The law FnSplitAreas is true of every input: the row's step, from the walk. -/
import Derived.Test.YteppjdoggjcdoaaK
import Derived.Test.YteppjdoggjcdoaaKB
import Derived.Test.YteppjdoggjcdoaaFX
namespace Go.Proofs.Yteppjdoggjcdoaa.fnSplitAreas
open Go.ChangeShapes Go.WideShapes Go.ChangeAt Go.RowKit Go.Deep Go.Joins
open Go.ChangeMaps (open_string shut_string)
set_option maxRecDepth 100000 in
theorem lifted (os : Os) (started : os.Started) (H : Type) (enc : TypeId × Value → H) :
    ReturnsInHanded {} Try.checked os 5 .any (Rows.fnSplitAreasSpec.pre6 enc Try.prog Try.f5 Rows.fnSplitAreasRow.domain false) (Rows.fnSplitAreasSpec.post enc Try.prog Try.f5 false true false false) := by
  refine returnsInHanded_of_change_sized (C := Try.checked) own started (by kernel_rfl) Try.func5
    (ChangeSpec.witness6 (enc := enc) (C := Try.checked) false ⟨#[], #[.slice none 0 0], []⟩ 8 (by kernel_rfl) (by kernel_rfl) (by kernel_rfl) (by kernel_rfl)) ?_
  intro W base args ds gs before hval0 hW0 _ hsz0 _
  have hval : ∀ (j : Nat) t v, Try.f5.params[j]? = some t → args[j]? = some v → Value.okWide Try.prog W .any base t v := hval0
  have hW : DataW.Whole enc Try.prog Try.f5.params.toList Rows.fnSplitAreasSpec.vars false W args.toList ds gs before := hW0
  clear hval0 hW0
  obtain ⟨p, q, hA0, hV, hpq, hfz, hnd⟩ := id hW
  have hA : DataW.TrodAll enc Try.prog W 0 (fun _ => true) true Try.f5.params.toList args.toList ds p := hA0
  rw [Try.params5] at hA hval
  obtain ⟨rfl, rfl⟩ := trodVars_none hV
  obtain ⟨v0, vs0, d0, ds0, p0, q0, hargs, hds, _, h0, r0⟩ := trodAll_cons hA
  obtain ⟨rfl, rfl, _⟩ := trodAll_nil r0
  obtain rfl : args = #[v0] := by cases args; simp_all
  subst hds
  obtain ⟨A0, c0, ps0, e0, hS0, hg0⟩ := openLB Try.underlying22 Try.underlying5 (by kernel_rfl) (hval 0 _ v0 rfl rfl) h0
  have hfn : (Rows.fnSplitAreasSpec.fn H ([d0] ++ [])).results = [.lit (.bool true)] ∧ (Rows.fnSplitAreasSpec.fn H ([d0] ++ [])).args = [d0] ∧ (Rows.fnSplitAreasSpec.fn H ([d0] ++ [])).vars = [] := ⟨rfl, rfl, rfl⟩
  have fin : ∀ (e : Ending) (W' : World), e = .returned (.bool true) ∧ Ext W W' → ∃ v, e = .returned v ∧ Rows.fnSplitAreasSpec.post enc Try.prog Try.f5 false true false false W #[v0] v W' := fun e W' ⟨he, hx⟩ =>
    ⟨_, he, lawPost hW rfl laidOut (by kernel_rfl) (by kernel_rfl) Try.underlying4 hfn hx⟩
  clear hW hA hA0 hV hfz hnd hval hsz0 hfn h0
  subst e0
  exact (fnSplitAreas_walk A0 c0 ps0 W hS0 hg0).mono fin
set_option maxRecDepth 100000 in
theorem nameFact : Try.pinned.checked.prog.funcNamed Rows.fnSplitAreasRow.func = some 5 := by kernel_rfl
set_option maxRecDepth 100000 in
theorem closedFact : joinedFacts Try.pinned.checked.prog 5 Try.f5 Rows.fnSplitAreasSpec Rows.fnSplitAreasRow = true := by kernel_rfl
set_option maxRecDepth 100000 in
theorem instFact : Try.f5.isInstance Try.pinned.checked.prog Rows.fnSplitAreasRow.origin Rows.fnSplitAreasRow.targs := of_decide_eq_true (by kernel_rfl)
set_option maxRecDepth 100000 in
theorem wrapFact : Try.f5.isWrapper Try.pinned.checked.prog Rows.fnSplitAreasRow.wrapper Rows.fnSplitAreasRow.mainSum := by unfold Func.isWrapper; first | (rw [if_pos (by decide +kernel)]; kernel_rfl) | (rw [if_neg (by decide +kernel)]; exact ⟨rfl, rfl⟩)
theorem over : Rows.fnSplitAreasRow.holds Try.pinned (OpenSpec.ofChange Rows.fnSplitAreasSpec) :=
  OpenClaim.holds_of_wide 5 Try.f5 rfl rfl rfl rfl rfl rfl rfl ⟨rfl, rfl, rfl, rfl, rfl⟩ rfl rfl rfl rfl rfl nameFact Try.func5 closedFact instFact wrapFact
    (fun os started H enc _ => lifted os started H enc)
theorem proved : Rows.FnSplitAreasSaid := over
#print axioms proved
end Go.Proofs.Yteppjdoggjcdoaa.fnSplitAreas
