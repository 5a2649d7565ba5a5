/- The law FnExactDifferBefore is true of every input: the row's step, from the walk. -/
import Derived.Test.YtapfokfbdmcokaaGreatDoorK
import Derived.Test.YtapfokfbdmcokaaGreatDoorTie
import Derived.Test.YtapfokfbdmcokaaGreatDoorCards
import Derived.LaidMore
import Derived.Lay
import Derived.SevenTiedAt
import Derived.Stop.Joined
import Derived.Test.YtapfokfbdmcokaaGreatDoorYYL
import Derived.Test.YtapfokfbdmcokaaGreatDoorKS
import Derived.Test.YtapfokfbdmcokaaGreatDoorKF
namespace Go.Proofs.YtapfokfbdmcokaaGreatDoor.fnExactDifferBefore
open Go.ChangeShapes Go.WideShapes Go.ChangeAt Go.RowKit Go.Deep Go.Joins
open Go.ChangeMaps (open_string shut_string)
set_option maxRecDepth 100000 in
theorem lifted (os : Os) (started : os.Started) (H : Type) (enc : TypeId × Value → H) :
    ReturnsInHanded {} Tryz.checked os 6 .any (fun w args => (Rows.fnExactDifferBeforeSpec.pre enc Tryz.prog Tryz.f6 Rows.fnExactDifferBeforeRow.domain false w args ∧ laidMetH Tryz.prog Rows.fnExactDifferBeforeRow.laid w) ∧ sizedMet enc Tryz.prog Tryz.f6 (OpenSpec.ofChange Rows.fnExactDifferBeforeSpec) false w args)
      (Rows.fnExactDifferBeforeSpec.post enc Tryz.prog Tryz.f6 false true false false) := by
  refine step_shaped (C := Tryz.checked) (X := (fun w _ => laidMetH Tryz.prog Rows.fnExactDifferBeforeRow.laid w)) (fun _ _ _ hh h => h.of_heap hh) own started (by kernel_rfl) Tryz.func6
    (ChangeSpec.witness_shaped (enc := enc) (C := Tryz.checked) (os := os) (X := (fun w _ => laidMetH Tryz.prog Rows.fnExactDifferBeforeRow.laid w)) false (World.laidAll Tryz.prog os Rows.fnExactDifferBeforeRow.laid) #[.agg #[.slice none 0 0, .slice none 0 0], .agg #[.slice none 0 0, .slice none 0 0], .int .i64 0] 8 (World.laidAll_os _ _ _)
      (World.shaped_of_ZipB (by kernel_rfl) (by kernel_rfl)) (by kernel_rfl) (by kernel_rfl) (by kernel_rfl)
      (by rw [MakeChecks.laidMetH_plain _ _ _ (by kernel_rfl)]; exact laidMet_laidAll _ (by kernel_rfl) (by kernel_rfl))) ?_
  intro W base args ds gs before hval0 hW0 hsz0 hL0 hSh0
  have hval : ∀ (j : Nat) t v, Tryz.f6.params[j]? = some t → args[j]? = some v → Value.okWide Tryz.prog W .any base t v := hval0
  have hW : DataW.Whole enc Tryz.prog Tryz.f6.params.toList Rows.fnExactDifferBeforeSpec.vars false W args.toList ds gs before := hW0
  clear hval0 hW0
  obtain ⟨p, q, hA0, hV, hpq, hfz, hnd⟩ := id hW
  have hA : DataW.TrodAll enc Tryz.prog W 0 (fun _ => true) true Tryz.f6.params.toList args.toList ds p := hA0
  rw [Tryz.params6] at hA hval
  obtain ⟨rfl, rfl⟩ := trodVars_none hV
  obtain ⟨v0, vs0, d0, ds0, p0, q0, hargs, hds, _, h0, r0⟩ := trodAll_cons hA
  obtain ⟨v1, vs1, d1, ds1, p1, q1, rfl, rfl, _, h1, r1⟩ := trodAll_cons r0
  obtain ⟨v2, vs2, d2, ds2, p2, q2, rfl, rfl, _, h2, r2⟩ := trodAll_cons r1
  obtain ⟨rfl, rfl, _⟩ := trodAll_nil r2
  obtain rfl : args = #[v0, v1, v2] := by cases args; simp_all
  subst hds
  obtain ⟨A0, c0, ps0, B0, d0', L0, e0, hR0, hK0⟩ := openW (hval 0 _ v0 rfl rfl) h0
  obtain ⟨A1, c1, ps1, B1, d1', L1, e1, hR1, hK1⟩ := openW (hval 1 _ v1 rfl rfl) h1
  obtain ⟨x2, e2, _, _bx2⟩ := openI Tryz.underlying2 (hval 2 _ v2 rfl rfl) h2
  have hfn : (Rows.fnExactDifferBeforeSpec.fn H ([d0, d1, d2] ++ [])).results = [.lit (.bool true)] ∧ (Rows.fnExactDifferBeforeSpec.fn H ([d0, d1, d2] ++ [])).args = [d0, d1, d2] ∧ (Rows.fnExactDifferBeforeSpec.fn H ([d0, d1, d2] ++ [])).vars = [] := ⟨rfl, rfl, rfl⟩
  have fin : ∀ (e : Ending) (W' : World), e = .returned (.bool true) ∧ Ext W W' → ∃ v, e = .returned v ∧ Rows.fnExactDifferBeforeSpec.post enc Tryz.prog Tryz.f6 false true false false W #[v0, v1, v2] v W' := fun e W' ⟨he, hx⟩ =>
    ⟨_, he, lawPost hW rfl laidOut (by kernel_rfl) (by kernel_rfl) Tryz.underlying4 hfn hx⟩
  have hM := mx_of_shaped hSh0
  clear hL0
  clear hW hA hA0 hV hfz hnd hval hsz0 hfn h0 h1 h2
  subst e0 e1 e2
  exact (fnExactDifferBefore_walk A0 c0 ps0 B0 d0' L0 A1 c1 ps1 B1 d1' L1 x2 W hR0 hK0 hR1 hK1 hM).mono fin
set_option maxRecDepth 100000 in
theorem nameFact : Tryz.pinned.checked.prog.funcNamed Rows.fnExactDifferBeforeRow.func = some 6 := by kernel_rfl
set_option maxHeartbeats 25600000 in
set_option maxRecDepth 100000 in
theorem closedFact : joinedFacts Tryz.pinned.checked.prog 6 Tryz.f6 Rows.fnExactDifferBeforeSpec Rows.fnExactDifferBeforeRow = true := by
  unfold joinedFacts
  repeat' (with_reducible refine Bool.and_eq_true_iff.2 ⟨?_, ?_⟩)
  · as_aux_lemma => kernel_rfl
  · exact kf_out
  · exact kf_rowed
  · as_aux_lemma => kernel_rfl
  · as_aux_lemma => kernel_rfl
  · as_aux_lemma => kernel_rfl
  · as_aux_lemma => kernel_rfl
  · as_aux_lemma => kernel_rfl
  · as_aux_lemma => kernel_rfl
  · as_aux_lemma => kernel_rfl
  · as_aux_lemma => kernel_rfl
  · as_aux_lemma => kernel_rfl
  · as_aux_lemma => kernel_rfl
  · as_aux_lemma => kernel_rfl
  · as_aux_lemma => kernel_rfl
  · as_aux_lemma => kernel_rfl
  · as_aux_lemma => kernel_rfl
  · as_aux_lemma => kernel_rfl
  · as_aux_lemma => kernel_rfl
  · as_aux_lemma => kernel_rfl
  · as_aux_lemma => kernel_rfl
  · as_aux_lemma => kernel_rfl
  · exact kf_keys
  · as_aux_lemma => kernel_rfl
  · exact kf_heard
  · exact kf_enter
  · exact kf_lifted
  · exact kf_make
  · as_aux_lemma => kernel_rfl
  · as_aux_lemma => kernel_rfl
  · as_aux_lemma => kernel_rfl
  · as_aux_lemma => kernel_rfl
set_option maxRecDepth 100000 in
theorem instFact : Tryz.f6.isInstance Tryz.pinned.checked.prog Rows.fnExactDifferBeforeRow.origin Rows.fnExactDifferBeforeRow.targs := of_decide_eq_true (by kernel_rfl)
set_option maxRecDepth 100000 in
theorem wrapFact : Tryz.f6.isWrapper Tryz.pinned.checked.prog Rows.fnExactDifferBeforeRow.wrapper Rows.fnExactDifferBeforeRow.mainSum := by unfold Func.isWrapper; first | (rw [if_pos (by decide +kernel)]; kernel_rfl) | (rw [if_neg (by decide +kernel)]; exact ⟨rfl, rfl⟩)
theorem over : Rows.fnExactDifferBeforeRow.holds Tryz.pinned (OpenSpec.ofChange Rows.fnExactDifferBeforeSpec) :=
  OpenClaim.holds_of_wide 6 Tryz.f6 rfl rfl rfl rfl rfl rfl rfl ⟨rfl, rfl, rfl, rfl, rfl⟩ rfl rfl rfl rfl rfl nameFact Tryz.func6 closedFact instFact wrapFact
    (fun os started H enc _ => lifted os started H enc)
set_option maxRecDepth 100000 in
theorem wfFact : Rows.fnExactDifferBeforeRow.wfByText (OpenSpec.ofChange Rows.fnExactDifferBeforeSpec) = true := by kernel_rfl
set_option maxRecDepth 100000 in
theorem mainFact : Tryz.pinned.checked.prog.mainIs = some (true, ("03d1c14518610c7fa3d5d79e6fc4b7b4d1b86867c3e6783c5b3c6bfa942ebf32" : String).toList) := by kernel_rfl
set_option maxRecDepth 100000 in
theorem goesFact : false = Rows.fnExactDifferBeforeRow.goesBy Tryz.pinned.checked.prog := by kernel_rfl
set_option maxRecDepth 100000 in
theorem looksFact : false = Tryz.pinned.checked.prog.looks [] := by kernel_rfl
set_option maxRecDepth 100000 in
theorem standFact : (Tryz.f6.params.toList.all fun u => !Tryz.pinned.checked.prog.wantsStandIn u) = true := by kernel_rfl
theorem fnFact : ∀ f fn, Tryz.pinned.checked.prog.funcNamed Rows.fnExactDifferBeforeRow.func = some f → Tryz.pinned.checked.prog.funcs[f]? = some fn → false = Tryz.pinned.checked.prog.looks [] ∧ ∀ (j : Nat) t, fn.params[j]? = some t → Tryz.pinned.checked.prog.wantsStandIn t = false := fun f fn hf hfn => by
  obtain rfl : 6 = f := Option.some.inj (nameFact.symm.trans hf)
  obtain rfl : Tryz.f6 = fn := Option.some.inj (Tryz.func6.symm.trans hfn)
  refine ⟨looksFact, fun j t ht => ?_⟩
  have hm : t ∈ Tryz.f6.params.toList := by simpa using Array.mem_of_getElem? ht
  have := List.all_eq_true.1 standFact t hm
  simpa using this
/-- the statement, for every input -/
theorem proved : Rows.FnExactDifferBeforeCardSaid :=
  Claim7.holds_tied_plain_at .later [] [.data, .pinned] true (true, "03d1c14518610c7fa3d5d79e6fc4b7b4d1b86867c3e6783c5b3c6bfa942ebf32") false over (fun _ h => by cases h) wfFact (fun _ h => by cases h) fnExactDifferBefore_row_tie rfl ⟨rfl, rfl⟩ mainFact rfl fnFact goesFact
#print axioms proved
end Go.Proofs.YtapfokfbdmcokaaGreatDoor.fnExactDifferBefore
