/- The law FnExactNeighboursOf is true of every input: the row's step, from the walk. -/
import Derived.Test.YtmpdnlnacblmlaaK
import Derived.Test.YtmpdnlnacblmlaaKC
import Derived.Test.YtmpdnlnacblmlaaPD
namespace Go.Proofs.Ytmpdnlnacblmlaa.fnExactNeighboursOf
open Go.ChangeShapes Go.WideShapes Go.ChangeAt Go.RowKit Go.Deep Go.Joins
open Go.ChangeMaps (open_string shut_string)
set_option maxRecDepth 100000 in
theorem lifted (os : Os) (started : os.Started) (H : Type) (enc : TypeId × Value → H) :
    ReturnsInHanded {} Try.checked os 3 .any (Rows.fnExactNeighboursOfSpec.pre6 enc Try.prog Try.f3 Rows.fnExactNeighboursOfRow.domain false) (Rows.fnExactNeighboursOfSpec.post enc Try.prog Try.f3 false true false false) := by
  refine returnsInHanded_of_change_sized (C := Try.checked) own started (by kernel_rfl) Try.func3
    (ChangeSpec.witness6 (enc := enc) (C := Try.checked) false ⟨#[], #[.slice none 0 0, .int .i64 0], []⟩ 8 (by kernel_rfl) (by kernel_rfl) (by kernel_rfl) (by kernel_rfl)) ?_
  intro W base args ds gs before hval0 hW0 _ hsz0 _
  have hval : ∀ (j : Nat) t v, Try.f3.params[j]? = some t → args[j]? = some v → Value.okWide Try.prog W .any base t v := hval0
  have hW : DataW.Whole enc Try.prog Try.f3.params.toList Rows.fnExactNeighboursOfSpec.vars false W args.toList ds gs before := hW0
  clear hval0 hW0
  obtain ⟨p, q, hA0, hV, hpq, hfz, hnd⟩ := id hW
  have hA : DataW.TrodAll enc Try.prog W 0 (fun _ => true) true Try.f3.params.toList args.toList ds p := hA0
  rw [Try.params3] at hA hval
  obtain ⟨rfl, rfl⟩ := trodVars_none hV
  obtain ⟨v0, vs0, d0, ds0, p0, q0, hargs, hds, _, h0, r0⟩ := trodAll_cons hA
  obtain ⟨v1, vs1, d1, ds1, p1, q1, rfl, rfl, _, h1, r1⟩ := trodAll_cons r0
  obtain ⟨rfl, rfl, _⟩ := trodAll_nil r1
  obtain rfl : args = #[v0, v1] := by cases args; simp_all
  subst hds
  obtain ⟨A0, c0, ps0, e0, hR0⟩ := openLLP Try.underlying22 Try.underlying70 Try.underlying99 rfl rfl (by kernel_rfl) (by kernel_rfl) (by kernel_rfl) (hval 0 _ v0 rfl rfl) h0
  obtain ⟨x1, e1, _, _bx1⟩ := openI Try.underlying2 (hval 1 _ v1 rfl rfl) h1
  have hfn : (Rows.fnExactNeighboursOfSpec.fn H ([d0, d1] ++ [])).results = [.lit (.bool true)] ∧ (Rows.fnExactNeighboursOfSpec.fn H ([d0, d1] ++ [])).args = [d0, d1] ∧ (Rows.fnExactNeighboursOfSpec.fn H ([d0, d1] ++ [])).vars = [] := ⟨rfl, rfl, rfl⟩
  have fin : ∀ (e : Ending) (W' : World), e = .returned (.bool true) ∧ Ext W W' → ∃ v, e = .returned v ∧ Rows.fnExactNeighboursOfSpec.post enc Try.prog Try.f3 false true false false W #[v0, v1] v W' := fun e W' ⟨he, hx⟩ =>
    ⟨_, he, lawPost hW rfl laidOut (by kernel_rfl) (by kernel_rfl) Try.underlying4 hfn hx⟩
  clear hW hA hA0 hV hfz hnd hval hsz0 hfn h0 h1
  subst e0 e1
  exact (fnExactNeighboursOf_walk A0 c0 ps0 x1 W hR0).mono fin
theorem over : Rows.fnExactNeighboursOfRow.holds Try.pinned (OpenSpec.ofChange Rows.fnExactNeighboursOfSpec) :=
  OpenClaim.holds_of_wide 3 Try.f3 rfl rfl rfl rfl rfl rfl rfl ⟨rfl, rfl, rfl, rfl, rfl⟩ rfl rfl rfl rfl rfl (by kernel_rfl) Try.func3 (by kernel_rfl)
    (of_decide_eq_true (by kernel_rfl)) (by unfold Func.isWrapper; first | (rw [if_pos (by decide +kernel)]; kernel_rfl) | (rw [if_neg (by decide +kernel)]; exact ⟨rfl, rfl⟩))
    (fun os started H enc _ => lifted os started H enc)
/-- the statement, for every input -/
theorem proved : Rows.FnExactNeighboursOfSaid := over
#print axioms proved
end Go.Proofs.Ytmpdnlnacblmlaa.fnExactNeighboursOf
