/- The law FnExactMergeAreas is true of every input: the row's step, from the walk. -/
import Derived.Test.YteppjdoggjcdoaaK
import Derived.Test.YteppjdoggjcdoaaKC
import Derived.Test.YteppjdoggjcdoaaPH
namespace Go.Proofs.Yteppjdoggjcdoaa.fnExactMergeAreas
open Go.ChangeShapes Go.WideShapes Go.ChangeAt Go.RowKit Go.Deep Go.Joins
open Go.ChangeMaps (open_string shut_string)
set_option maxRecDepth 100000 in
theorem lifted (os : Os) (started : os.Started) (H : Type) (enc : TypeId × Value → H) :
    ReturnsInHanded {} Try.checked os 4 .any (Rows.fnExactMergeAreasSpec.pre6 enc Try.prog Try.f4 Rows.fnExactMergeAreasRow.domain false) (Rows.fnExactMergeAreasSpec.post enc Try.prog Try.f4 false true false false) := by
  refine returnsInHanded_of_change_sized (C := Try.checked) own started (by kernel_rfl) Try.func4
    (ChangeSpec.witness6 (enc := enc) (C := Try.checked) false ⟨#[], #[.slice none 0 0, .int .i64 0, .int .i64 0], []⟩ 8 (by kernel_rfl) (by kernel_rfl) (by kernel_rfl) (by kernel_rfl)) ?_
  intro W base args ds gs before hval0 hW0 _ hsz0 _
  have hval : ∀ (j : Nat) t v, Try.f4.params[j]? = some t → args[j]? = some v → Value.okWide Try.prog W .any base t v := hval0
  have hW : DataW.Whole enc Try.prog Try.f4.params.toList Rows.fnExactMergeAreasSpec.vars false W args.toList ds gs before := hW0
  clear hval0 hW0
  obtain ⟨p, q, hA0, hV, hpq, hfz, hnd⟩ := id hW
  have hA : DataW.TrodAll enc Try.prog W 0 (fun _ => true) true Try.f4.params.toList args.toList ds p := hA0
  rw [Try.params4] at hA hval
  obtain ⟨rfl, rfl⟩ := trodVars_none hV
  obtain ⟨v0, vs0, d0, ds0, p0, q0, hargs, hds, _, h0, r0⟩ := trodAll_cons hA
  obtain ⟨v1, vs1, d1, ds1, p1, q1, rfl, rfl, _, h1, r1⟩ := trodAll_cons r0
  obtain ⟨v2, vs2, d2, ds2, p2, q2, rfl, rfl, _, h2, r2⟩ := trodAll_cons r1
  obtain ⟨rfl, rfl, _⟩ := trodAll_nil r2
  obtain rfl : args = #[v0, v1, v2] := by cases args; simp_all
  subst hds
  obtain ⟨A0, c0, ps0, e0, hR0⟩ := openLLP Try.underlying38 Try.underlying85 Try.underlying115 rfl rfl (by kernel_rfl) (by kernel_rfl) (by kernel_rfl) (hval 0 _ v0 rfl rfl) h0
  obtain ⟨x1, e1, _, _bx1⟩ := openI Try.underlying2 (hval 1 _ v1 rfl rfl) h1
  obtain ⟨x2, e2, _, _bx2⟩ := openI Try.underlying2 (hval 2 _ v2 rfl rfl) h2
  have hfn : (Rows.fnExactMergeAreasSpec.fn H ([d0, d1, d2] ++ [])).results = [.lit (.bool true)] ∧ (Rows.fnExactMergeAreasSpec.fn H ([d0, d1, d2] ++ [])).args = [d0, d1, d2] ∧ (Rows.fnExactMergeAreasSpec.fn H ([d0, d1, d2] ++ [])).vars = [] := ⟨rfl, rfl, rfl⟩
  have fin : ∀ (e : Ending) (W' : World), e = .returned (.bool true) ∧ Ext W W' → ∃ v, e = .returned v ∧ Rows.fnExactMergeAreasSpec.post enc Try.prog Try.f4 false true false false W #[v0, v1, v2] v W' := fun e W' ⟨he, hx⟩ =>
    ⟨_, he, lawPost hW rfl laidOut (by kernel_rfl) (by kernel_rfl) Try.underlying4 hfn hx⟩
  clear hW hA hA0 hV hfz hnd hval hsz0 hfn h0 h1 h2
  subst e0 e1 e2
  exact (fnExactMergeAreas_walk A0 c0 ps0 x1 x2 W hR0).mono fin
set_option maxRecDepth 100000 in
theorem nameFact : Try.pinned.checked.prog.funcNamed Rows.fnExactMergeAreasRow.func = some 4 := by kernel_rfl
set_option maxRecDepth 100000 in
theorem closedFact : joinedFacts Try.pinned.checked.prog 4 Try.f4 Rows.fnExactMergeAreasSpec Rows.fnExactMergeAreasRow = true := by kernel_rfl
set_option maxRecDepth 100000 in
theorem instFact : Try.f4.isInstance Try.pinned.checked.prog Rows.fnExactMergeAreasRow.origin Rows.fnExactMergeAreasRow.targs := of_decide_eq_true (by kernel_rfl)
set_option maxRecDepth 100000 in
theorem wrapFact : Try.f4.isWrapper Try.pinned.checked.prog Rows.fnExactMergeAreasRow.wrapper Rows.fnExactMergeAreasRow.mainSum := by unfold Func.isWrapper; first | (rw [if_pos (by decide +kernel)]; kernel_rfl) | (rw [if_neg (by decide +kernel)]; exact ⟨rfl, rfl⟩)
theorem over : Rows.fnExactMergeAreasRow.holds Try.pinned (OpenSpec.ofChange Rows.fnExactMergeAreasSpec) :=
  OpenClaim.holds_of_wide 4 Try.f4 rfl rfl rfl rfl rfl rfl rfl ⟨rfl, rfl, rfl, rfl, rfl⟩ rfl rfl rfl rfl rfl nameFact Try.func4 closedFact instFact wrapFact
    (fun os started H enc _ => lifted os started H enc)
theorem proved : Rows.FnExactMergeAreasSaid := over
#print axioms proved
end Go.Proofs.Yteppjdoggjcdoaa.fnExactMergeAreas
