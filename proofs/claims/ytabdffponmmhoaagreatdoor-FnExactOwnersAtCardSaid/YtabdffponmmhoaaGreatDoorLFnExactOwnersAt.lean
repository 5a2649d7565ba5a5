/- The law FnExactOwnersAt is true of every input: the row's step, from the walk. -/
import Derived.Test.YtabdffponmmhoaaGreatDoorK
import Derived.Test.YtabdffponmmhoaaGreatDoorTie
import Derived.Test.YtabdffponmmhoaaGreatDoorCards
import Derived.LaidMore
import Derived.Lay
import Derived.SevenTiedAt
import Derived.Stop.Joined
import Derived.Test.YtabdffponmmhoaaGreatDoorVP
import Derived.Test.YtabdffponmmhoaaGreatDoorKF
namespace Go.Proofs.YtabdffponmmhoaaGreatDoor.fnExactOwnersAt
open Go.ChangeShapes Go.WideShapes Go.ChangeAt Go.RowKit Go.Deep Go.Joins
open Go.ChangeMaps (open_string shut_string)
set_option maxRecDepth 100000 in
theorem lifted (os : Os) (started : os.Started) (H : Type) (enc : TypeId × Value → H) :
    ReturnsInHanded {} Tryz.checked os 3 .any (fun w args => (Rows.fnExactOwnersAtSpec.pre enc Tryz.prog Tryz.f3 Rows.fnExactOwnersAtRow.domain false w args ∧ laidMetH Tryz.prog Rows.fnExactOwnersAtRow.laid w) ∧ sizedMet enc Tryz.prog Tryz.f3 (OpenSpec.ofChange Rows.fnExactOwnersAtSpec) false w args)
      (Rows.fnExactOwnersAtSpec.post enc Tryz.prog Tryz.f3 false true false false) := by
  refine returnsInHanded_of_change_and (C := Tryz.checked) (X := (fun w _ => laidMetH Tryz.prog Rows.fnExactOwnersAtRow.laid w)) (fun _ _ _ hh h => h.of_heap hh) own started (by kernel_rfl) Tryz.func3
    (ChangeSpec.witness_shaped (enc := enc) (C := Tryz.checked) (os := os) (X := (fun w _ => laidMetH Tryz.prog Rows.fnExactOwnersAtRow.laid w)) false (World.laidAll Tryz.prog os Rows.fnExactOwnersAtRow.laid) #[.slice none 0 0, .slice none 0 0, .agg #[.int .i64 0, .int .i64 0]] 8 (World.laidAll_os _ _ _)
      (World.shaped_of_ZipB (by kernel_rfl) (by kernel_rfl)) (by kernel_rfl) (by kernel_rfl) (by kernel_rfl)
      (by rw [MakeChecks.laidMetH_plain _ _ _ (by kernel_rfl)]; exact laidMet_laidAll _ (by kernel_rfl) (by kernel_rfl))) ?_
  intro W base args ds gs before hval0 hW0 _ hsz0 hL0 _
  have hval : ∀ (j : Nat) t v, Tryz.f3.params[j]? = some t → args[j]? = some v → Value.okWide Tryz.prog W .any base t v := hval0
  have hW : DataW.Whole enc Tryz.prog Tryz.f3.params.toList Rows.fnExactOwnersAtSpec.vars false W args.toList ds gs before := hW0
  clear hval0 hW0
  obtain ⟨p, q, hA0, hV, hpq, hfz, hnd⟩ := id hW
  have hA : DataW.TrodAll enc Tryz.prog W 0 (fun _ => true) true Tryz.f3.params.toList args.toList ds p := hA0
  rw [Tryz.params3] at hA hval
  obtain ⟨rfl, rfl⟩ := trodVars_none hV
  obtain ⟨v0, vs0, d0, ds0, p0, q0, hargs, hds, _, h0, r0⟩ := trodAll_cons hA
  obtain ⟨v1, vs1, d1, ds1, p1, q1, rfl, rfl, _, h1, r1⟩ := trodAll_cons r0
  obtain ⟨v2, vs2, d2, ds2, p2, q2, rfl, rfl, _, h2, r2⟩ := trodAll_cons r1
  obtain ⟨rfl, rfl, _⟩ := trodAll_nil r2
  obtain rfl : args = #[v0, v1, v2] := by cases args; simp_all
  subst hds
  obtain ⟨A0, c0, ps0, e0, hR0⟩ := openLLP Tryz.underlying22 Tryz.underlying56 Tryz.underlying25 rfl rfl (by kernel_rfl) (by kernel_rfl) (by kernel_rfl) (hval 0 _ v0 rfl rfl) h0
  obtain ⟨A1, c1, ps1, e1, hR1⟩ := openLV Tryz.underlying23 Tryz.underlying59 Tryz.underlying9 Tryz.underlying28 rfl rfl (by kernel_rfl) (by kernel_rfl) (by kernel_rfl) (hval 1 _ v1 rfl rfl) h1
  obtain ⟨x2, y2, e2, _, _bx2, _by2⟩ := openP Tryz.underlying25 Tryz.underlying2 rfl rfl (by kernel_rfl) (by kernel_rfl) (hval 2 _ v2 rfl rfl) h2
  have hfn : (Rows.fnExactOwnersAtSpec.fn H ([d0, d1, d2] ++ [])).results = [.lit (.bool true)] ∧ (Rows.fnExactOwnersAtSpec.fn H ([d0, d1, d2] ++ [])).args = [d0, d1, d2] ∧ (Rows.fnExactOwnersAtSpec.fn H ([d0, d1, d2] ++ [])).vars = [] := ⟨rfl, rfl, rfl⟩
  have fin : ∀ (e : Ending) (W' : World), e = .returned (.bool true) ∧ Ext W W' → ∃ v, e = .returned v ∧ Rows.fnExactOwnersAtSpec.post enc Tryz.prog Tryz.f3 false true false false W #[v0, v1, v2] v W' := fun e W' ⟨he, hx⟩ =>
    ⟨_, he, lawPost hW rfl laidOut (by kernel_rfl) (by kernel_rfl) Tryz.underlying4 hfn hx⟩
  clear hL0
  clear hW hA hA0 hV hfz hnd hval hsz0 hfn h0 h1 h2
  subst e0 e1 e2
  exact (fnExactOwnersAt_walk A0 c0 ps0 A1 c1 ps1 x2 y2 W hR0 hR1).mono fin
set_option maxRecDepth 100000 in
theorem nameFact : Tryz.pinned.checked.prog.funcNamed Rows.fnExactOwnersAtRow.func = some 3 := by kernel_rfl
set_option maxHeartbeats 25600000 in
set_option maxRecDepth 100000 in
theorem closedFact : joinedFacts Tryz.pinned.checked.prog 3 Tryz.f3 Rows.fnExactOwnersAtSpec Rows.fnExactOwnersAtRow = true := by
  unfold joinedFacts
  repeat' (with_reducible refine Bool.and_eq_true_iff.2 ⟨?_, ?_⟩)
  · as_aux_lemma => kernel_rfl
  · exact kf_out
  · exact kf_rowed
  · as_aux_lemma => kernel_rfl
  · as_aux_lemma => kernel_rfl
  · as_aux_lemma => kernel_rfl
  · as_aux_lemma => kernel_rfl
  · as_aux_lemma => kernel_rfl
  · as_aux_lemma => kernel_rfl
  · as_aux_lemma => kernel_rfl
  · as_aux_lemma => kernel_rfl
  · as_aux_lemma => kernel_rfl
  · as_aux_lemma => kernel_rfl
  · as_aux_lemma => kernel_rfl
  · as_aux_lemma => kernel_rfl
  · as_aux_lemma => kernel_rfl
  · as_aux_lemma => kernel_rfl
  · as_aux_lemma => kernel_rfl
  · as_aux_lemma => kernel_rfl
  · as_aux_lemma => kernel_rfl
  · as_aux_lemma => kernel_rfl
  · as_aux_lemma => kernel_rfl
  · exact kf_keys
  · as_aux_lemma => kernel_rfl
  · exact kf_heard
  · exact kf_enter
  · exact kf_lifted
  · exact kf_make
  · as_aux_lemma => kernel_rfl
  · as_aux_lemma => kernel_rfl
  · as_aux_lemma => kernel_rfl
  · as_aux_lemma => kernel_rfl
set_option maxRecDepth 100000 in
theorem instFact : Tryz.f3.isInstance Tryz.pinned.checked.prog Rows.fnExactOwnersAtRow.origin Rows.fnExactOwnersAtRow.targs := of_decide_eq_true (by kernel_rfl)
set_option maxRecDepth 100000 in
theorem wrapFact : Tryz.f3.isWrapper Tryz.pinned.checked.prog Rows.fnExactOwnersAtRow.wrapper Rows.fnExactOwnersAtRow.mainSum := by unfold Func.isWrapper; first | (rw [if_pos (by decide +kernel)]; kernel_rfl) | (rw [if_neg (by decide +kernel)]; exact ⟨rfl, rfl⟩)
theorem over : Rows.fnExactOwnersAtRow.holds Tryz.pinned (OpenSpec.ofChange Rows.fnExactOwnersAtSpec) :=
  OpenClaim.holds_of_wide 3 Tryz.f3 rfl rfl rfl rfl rfl rfl rfl ⟨rfl, rfl, rfl, rfl, rfl⟩ rfl rfl rfl rfl rfl nameFact Tryz.func3 closedFact instFact wrapFact
    (fun os started H enc _ => lifted os started H enc)
set_option maxRecDepth 100000 in
theorem wfFact : Rows.fnExactOwnersAtRow.wfByText (OpenSpec.ofChange Rows.fnExactOwnersAtSpec) = true := by kernel_rfl
set_option maxRecDepth 100000 in
theorem mainFact : Tryz.pinned.checked.prog.mainIs = some (true, ("a366745d3adef2a55dc57f77d13f54ed62fa2878cd829187a44dadc49066a888" : String).toList) := by kernel_rfl
set_option maxRecDepth 100000 in
theorem goesFact : false = Rows.fnExactOwnersAtRow.goesBy Tryz.pinned.checked.prog := by kernel_rfl
set_option maxRecDepth 100000 in
theorem looksFact : true = Tryz.pinned.checked.prog.looks [] := by kernel_rfl
set_option maxRecDepth 100000 in
theorem standFact : (Tryz.f3.params.toList.all fun u => !Tryz.pinned.checked.prog.wantsStandIn u) = true := by kernel_rfl
theorem fnFact : ∀ f fn, Tryz.pinned.checked.prog.funcNamed Rows.fnExactOwnersAtRow.func = some f → Tryz.pinned.checked.prog.funcs[f]? = some fn → true = Tryz.pinned.checked.prog.looks [] ∧ ∀ (j : Nat) t, fn.params[j]? = some t → Tryz.pinned.checked.prog.wantsStandIn t = false := fun f fn hf hfn => by
  obtain rfl : 3 = f := Option.some.inj (nameFact.symm.trans hf)
  obtain rfl : Tryz.f3 = fn := Option.some.inj (Tryz.func3.symm.trans hfn)
  refine ⟨looksFact, fun j t ht => ?_⟩
  have hm : t ∈ Tryz.f3.params.toList := by simpa using Array.mem_of_getElem? ht
  have := List.all_eq_true.1 standFact t hm
  simpa using this
/-- the statement, for every input -/
theorem proved : Rows.FnExactOwnersAtCardSaid :=
  Claim7.holds_tied_plain_at .later [] [.data, .pinned] true (true, "a366745d3adef2a55dc57f77d13f54ed62fa2878cd829187a44dadc49066a888") true over (fun _ h => by cases h) wfFact (fun _ h => by cases h) fnExactOwnersAt_row_tie rfl ⟨rfl, rfl⟩ mainFact rfl fnFact goesFact
#print axioms proved
end Go.Proofs.YtabdffponmmhoaaGreatDoor.fnExactOwnersAt
