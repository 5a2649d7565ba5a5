/- The law FnHistory is true of every input: the row's step, from the walk. -/
import Derived.Test.YtlnliajnipniaaaGreatDoorTie
import Derived.Test.YtlnliajnipniaaaGreatDoorCards
import Derived.SevenTiedAt
import Derived.Test.YtlnliajnipniaaaGreatDoorFY
import Derived.Test.YtlnliajnipniaaaGreatDoorK2
import Derived.Test.YtlnliajnipniaaaGreatDoorKF
namespace Go.Proofs.YtlnliajnipniaaaGreatDoor.fnHistory
open Go.ChangeShapes Go.WideShapes Go.ChangeAt Go.RowKit Go.Deep Go.Joins
open Go.ChangeMaps (open_string shut_string)
set_option maxRecDepth 100000 in
theorem lifted (os : Os) (started : os.Started) (H : Type) (enc : TypeId × Value → H) :
  ReturnsInHanded {} Tryz.checked os 3 .any (fun w args => (Rows.fnHistorySpec.pre enc Tryz.prog Tryz.f3 Rows.fnHistoryRow.domain false w args ∧ laidMetH Tryz.prog Rows.fnHistoryRow.laid w) ∧ sizedMet enc Tryz.prog Tryz.f3 (OpenSpec.ofChange Rows.fnHistorySpec) false w args)
   (Rows.fnHistorySpec.post enc Tryz.prog Tryz.f3 false true false false) := by
 refine step_shaped (C := Tryz.checked) (X := (fun w _ => laidMetH Tryz.prog Rows.fnHistoryRow.laid w)) (fun _ _ _ hh h => h.of_heap hh) own started (by kernel_rfl) Tryz.func3
  (ChangeSpec.witness_shaped (enc := enc) (C := Tryz.checked) (os := os) (X := (fun w _ => laidMetH Tryz.prog Rows.fnHistoryRow.laid w)) false (World.laidAll Tryz.prog os Rows.fnHistoryRow.laid) #[.slice none 0 0] 8 (World.laidAll_os _ _ _)
   (World.shaped_of_ZipB (by kernel_rfl) (by kernel_rfl)) (by kernel_rfl) (by kernel_rfl) (by kernel_rfl)
   (by rw [MakeChecks.laidMetH_plain _ _ _ (by kernel_rfl)]; exact laidMet_laidAll _ (by kernel_rfl) (by kernel_rfl))) ?_
 intro W base args ds gs before hval0 hW0 hsz0 hL0 hSh0
 have hval : ∀ (j : Nat) t v, Tryz.f3.params[j]? = some t → args[j]? = some v → Value.okWide Tryz.prog W .any base t v := hval0
 have hW : DataW.Whole enc Tryz.prog Tryz.f3.params.toList Rows.fnHistorySpec.vars false W args.toList ds gs before := hW0
 clear hval0 hW0
 obtain ⟨p, q, hA0, hV, hpq, hfz, hnd⟩ := id hW
 have hA : DataW.TrodAll enc Tryz.prog W 0 (fun _ => true) true Tryz.f3.params.toList args.toList ds p := hA0
 rw [Tryz.params3] at hA hval
 obtain ⟨rfl, rfl⟩ := trodVars_none hV
 obtain ⟨v0, vs0, d0, ds0, p0, q0, hargs, hds, _, h0, r0⟩ := trodAll_cons hA
 obtain ⟨rfl, rfl, _⟩ := trodAll_nil r0
 obtain rfl : args = #[v0] := by cases args; simp_all
 subst hds
 obtain ⟨A0, c0, ps0, e0, hS0, hg0⟩ := openLB Tryz.underlying22 Tryz.underlying5 (by kernel_rfl) (hval 0 _ v0 rfl rfl) h0
 have hfn : (Rows.fnHistorySpec.fn H ([d0] ++ [])).results = [.lit (.bool true)] ∧ (Rows.fnHistorySpec.fn H ([d0] ++ [])).args = [d0] ∧ (Rows.fnHistorySpec.fn H ([d0] ++ [])).vars = [] := ⟨rfl, rfl, rfl⟩
 have fin : ∀ (e : Ending) (W' : World), e = .returned (.bool true) ∧ Ext W W' → ∃ v, e = .returned v ∧ Rows.fnHistorySpec.post enc Tryz.prog Tryz.f3 false true false false W #[v0] v W' := fun e W' ⟨he, hx⟩ =>
  ⟨_, he, lawPost hW rfl laidOut (by kernel_rfl) (by kernel_rfl) Tryz.underlying4 hfn hx⟩
 have hM := mx_of_shaped hSh0
 clear hL0
 clear hW hA hA0 hV hfz hnd hval hsz0 hfn h0
 subst e0
 exact (fnHistory_walk A0 c0 ps0 W hS0 hg0 hM).mono fin
set_option maxRecDepth 100000 in
theorem nameFact : Tryz.pinned.checked.prog.funcNamed Rows.fnHistoryRow.func = some 3 := by kernel_rfl
set_option maxHeartbeats 25600000 in
set_option maxRecDepth 100000 in
theorem closedFact : joinedFacts Tryz.pinned.checked.prog 3 Tryz.f3 Rows.fnHistorySpec Rows.fnHistoryRow = true := by
 unfold joinedFacts
 repeat' (with_reducible refine Bool.and_eq_true_iff.2 ⟨?_, ?_⟩)
 ·as_aux_lemma => kernel_rfl
 ·exact kf_out
 ·exact kf_rowed
 ·as_aux_lemma => kernel_rfl
 ·as_aux_lemma => kernel_rfl
 ·as_aux_lemma => kernel_rfl
 ·as_aux_lemma => kernel_rfl
 ·as_aux_lemma => kernel_rfl
 ·as_aux_lemma => kernel_rfl
 ·as_aux_lemma => kernel_rfl
 ·as_aux_lemma => kernel_rfl
 ·as_aux_lemma => kernel_rfl
 ·as_aux_lemma => kernel_rfl
 ·as_aux_lemma => kernel_rfl
 ·as_aux_lemma => kernel_rfl
 ·as_aux_lemma => kernel_rfl
 ·as_aux_lemma => kernel_rfl
 ·as_aux_lemma => kernel_rfl
 ·as_aux_lemma => kernel_rfl
 ·as_aux_lemma => kernel_rfl
 ·as_aux_lemma => kernel_rfl
 ·as_aux_lemma => kernel_rfl
 ·exact kf_keys
 ·as_aux_lemma => kernel_rfl
 ·exact kf_heard
 ·exact kf_enter
 ·exact kf_lifted
 ·exact kf_make
 ·as_aux_lemma => kernel_rfl
 ·as_aux_lemma => kernel_rfl
 ·as_aux_lemma => kernel_rfl
 ·as_aux_lemma => kernel_rfl
set_option maxRecDepth 100000 in
theorem instFact : Tryz.f3.isInstance Tryz.pinned.checked.prog Rows.fnHistoryRow.origin Rows.fnHistoryRow.targs := of_decide_eq_true (by kernel_rfl)
set_option maxRecDepth 100000 in
theorem wrapFact : Tryz.f3.isWrapper Tryz.pinned.checked.prog Rows.fnHistoryRow.wrapper Rows.fnHistoryRow.mainSum := by unfold Func.isWrapper; first | (rw [if_pos (by decide +kernel)]; kernel_rfl) | (rw [if_neg (by decide +kernel)]; exact ⟨rfl, rfl⟩)
theorem over : Rows.fnHistoryRow.holds Tryz.pinned (OpenSpec.ofChange Rows.fnHistorySpec) :=
 OpenClaim.holds_of_wide 3 Tryz.f3 rfl rfl rfl rfl rfl rfl rfl ⟨rfl, rfl, rfl, rfl, rfl⟩ rfl rfl rfl rfl rfl nameFact Tryz.func3 closedFact instFact wrapFact
  (fun os started H enc _ => lifted os started H enc)
set_option maxRecDepth 100000 in
theorem wfFact : Rows.fnHistoryRow.wfByText (OpenSpec.ofChange Rows.fnHistorySpec) = true := by kernel_rfl
set_option maxRecDepth 100000 in
theorem mainFact : Tryz.pinned.checked.prog.mainIs = some (true, ("bb9e81e4793d7f77a72fb53a3d6290299938a8694f32ae066b07a7203b9da05e" : String).toList) := by kernel_rfl
set_option maxRecDepth 100000 in
theorem goesFact : false = Rows.fnHistoryRow.goesBy Tryz.pinned.checked.prog := by kernel_rfl
set_option maxRecDepth 100000 in
theorem looksFact : false = Tryz.pinned.checked.prog.looks [] := by kernel_rfl
set_option maxRecDepth 100000 in
theorem standFact : (Tryz.f3.params.toList.all fun u => !Tryz.pinned.checked.prog.wantsStandIn u) = true := by kernel_rfl
theorem fnFact : ∀ f fn, Tryz.pinned.checked.prog.funcNamed Rows.fnHistoryRow.func = some f → Tryz.pinned.checked.prog.funcs[f]? = some fn → false = Tryz.pinned.checked.prog.looks [] ∧ ∀ (j : Nat) t, fn.params[j]? = some t → Tryz.pinned.checked.prog.wantsStandIn t = false := fun f fn hf hfn => by
 obtain rfl : 3 = f := Option.some.inj (nameFact.symm.trans hf)
 obtain rfl : Tryz.f3 = fn := Option.some.inj (Tryz.func3.symm.trans hfn)
 refine ⟨looksFact, fun j t ht => ?_⟩
 have hm : t ∈ Tryz.f3.params.toList := by simpa using Array.mem_of_getElem? ht
 have := List.all_eq_true.1 standFact t hm
 simpa using this
theorem proved : Rows.FnHistoryCardSaid :=
 Claim7.holds_tied_plain_at .later [] [.data, .pinned] true (true, "bb9e81e4793d7f77a72fb53a3d6290299938a8694f32ae066b07a7203b9da05e") false over (fun _ h => by cases h) wfFact (fun _ h => by cases h) fnHistory_row_tie rfl ⟨rfl, rfl⟩ mainFact rfl fnFact goesFact
#print axioms proved
end Go.Proofs.YtlnliajnipniaaaGreatDoor.fnHistory
