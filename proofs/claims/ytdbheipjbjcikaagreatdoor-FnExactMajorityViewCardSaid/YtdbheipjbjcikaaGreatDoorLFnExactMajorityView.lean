/- The law FnExactMajorityView is true of every input: the row's step, from the walk. -/
import Derived.Test.YtdbheipjbjcikaaGreatDoorK
import Derived.Test.YtdbheipjbjcikaaGreatDoorTie
import Derived.Test.YtdbheipjbjcikaaGreatDoorCards
import Derived.LaidMore
import Derived.Lay
import Derived.SevenTiedAt
import Derived.Stop.Joined
import Derived.Test.YtdbheipjbjcikaaGreatDoorV4
namespace Go.Proofs.YtdbheipjbjcikaaGreatDoor.fnExactMajorityView
open Go.ChangeShapes Go.WideShapes Go.ChangeAt Go.RowKit Go.Deep Go.Joins
open Go.ChangeMaps (open_string shut_string)
set_option maxRecDepth 100000 in
theorem lifted (os : Os) (started : os.Started) (H : Type) (enc : TypeId × Value → H) :
    ReturnsInHanded {} Tryz.checked os 10 .any (fun w args => (Rows.fnExactMajorityViewSpec.pre enc Tryz.prog Tryz.f10 Rows.fnExactMajorityViewRow.domain false w args ∧ laidMetH Tryz.prog Rows.fnExactMajorityViewRow.laid w) ∧ sizedMet enc Tryz.prog Tryz.f10 (OpenSpec.ofChange Rows.fnExactMajorityViewSpec) false w args)
      (Rows.fnExactMajorityViewSpec.post enc Tryz.prog Tryz.f10 false true false false) := by
  refine returnsInHanded_of_change_and (C := Tryz.checked) (X := (fun w _ => laidMetH Tryz.prog Rows.fnExactMajorityViewRow.laid w)) (fun _ _ _ hh h => h.of_heap hh) own started (by kernel_rfl) Tryz.func10
    (ChangeSpec.witness_shaped (enc := enc) (C := Tryz.checked) (os := os) (X := (fun w _ => laidMetH Tryz.prog Rows.fnExactMajorityViewRow.laid w)) false (World.laidAll Tryz.prog os Rows.fnExactMajorityViewRow.laid) #[.slice none 0 0, .slice none 0 0] 8 (World.laidAll_os _ _ _)
      (World.shaped_of_ZipB (by kernel_rfl) (by kernel_rfl)) (by kernel_rfl) (by kernel_rfl) (by kernel_rfl)
      (by rw [MakeChecks.laidMetH_plain _ _ _ (by kernel_rfl)]; exact laidMet_laidAll _ (by kernel_rfl) (by kernel_rfl))) ?_
  intro W base args ds gs before hval0 hW0 _ hsz0 hL0 _
  have hval : ∀ (j : Nat) t v, Tryz.f10.params[j]? = some t → args[j]? = some v → Value.okWide Tryz.prog W .any base t v := hval0
  have hW : DataW.Whole enc Tryz.prog Tryz.f10.params.toList Rows.fnExactMajorityViewSpec.vars false W args.toList ds gs before := hW0
  clear hval0 hW0
  obtain ⟨p, q, hA0, hV, hpq, hfz, hnd⟩ := id hW
  have hA : DataW.TrodAll enc Tryz.prog W 0 (fun _ => true) true Tryz.f10.params.toList args.toList ds p := hA0
  rw [Tryz.params10] at hA hval
  obtain ⟨rfl, rfl⟩ := trodVars_none hV
  obtain ⟨v0, vs0, d0, ds0, p0, q0, hargs, hds, _, h0, r0⟩ := trodAll_cons hA
  obtain ⟨v1, vs1, d1, ds1, p1, q1, rfl, rfl, _, h1, r1⟩ := trodAll_cons r0
  obtain ⟨rfl, rfl, _⟩ := trodAll_nil r1
  obtain rfl : args = #[v0, v1] := by cases args; simp_all
  subst hds
  obtain ⟨A0, c0, ps0, e0, hR0⟩ := openLLP Tryz.underlying42 Tryz.underlying97 Tryz.underlying68 rfl rfl (by kernel_rfl) (by kernel_rfl) (by kernel_rfl) (hval 0 _ v0 rfl rfl) h0
  obtain ⟨A1, c1, ps1, e1, hR1⟩ := openLV Tryz.underlying43 Tryz.underlying100 Tryz.underlying9 Tryz.underlying60 rfl rfl (by kernel_rfl) (by kernel_rfl) (by kernel_rfl) (hval 1 _ v1 rfl rfl) h1
  have hfn : (Rows.fnExactMajorityViewSpec.fn H ([d0, d1] ++ [])).results = [.lit (.bool true)] ∧ (Rows.fnExactMajorityViewSpec.fn H ([d0, d1] ++ [])).args = [d0, d1] ∧ (Rows.fnExactMajorityViewSpec.fn H ([d0, d1] ++ [])).vars = [] := ⟨rfl, rfl, rfl⟩
  have fin : ∀ (e : Ending) (W' : World), e = .returned (.bool true) ∧ Ext W W' → ∃ v, e = .returned v ∧ Rows.fnExactMajorityViewSpec.post enc Tryz.prog Tryz.f10 false true false false W #[v0, v1] v W' := fun e W' ⟨he, hx⟩ =>
    ⟨_, he, lawPost hW rfl laidOut (by kernel_rfl) (by kernel_rfl) Tryz.underlying4 hfn hx⟩
  clear hL0
  clear hW hA hA0 hV hfz hnd hval hsz0 hfn h0 h1
  subst e0 e1
  exact (fnExactMajorityView_walk A0 c0 ps0 A1 c1 ps1 W hR0 hR1).mono fin
set_option maxRecDepth 100000 in
theorem nameFact : Tryz.pinned.checked.prog.funcNamed Rows.fnExactMajorityViewRow.func = some 10 := by kernel_rfl
set_option maxRecDepth 100000 in
theorem closedFact : joinedFacts Tryz.pinned.checked.prog 10 Tryz.f10 Rows.fnExactMajorityViewSpec Rows.fnExactMajorityViewRow = true := by kernel_rfl
set_option maxRecDepth 100000 in
theorem instFact : Tryz.f10.isInstance Tryz.pinned.checked.prog Rows.fnExactMajorityViewRow.origin Rows.fnExactMajorityViewRow.targs := of_decide_eq_true (by kernel_rfl)
set_option maxRecDepth 100000 in
theorem wrapFact : Tryz.f10.isWrapper Tryz.pinned.checked.prog Rows.fnExactMajorityViewRow.wrapper Rows.fnExactMajorityViewRow.mainSum := by unfold Func.isWrapper; first | (rw [if_pos (by decide +kernel)]; kernel_rfl) | (rw [if_neg (by decide +kernel)]; exact ⟨rfl, rfl⟩)
theorem over : Rows.fnExactMajorityViewRow.holds Tryz.pinned (OpenSpec.ofChange Rows.fnExactMajorityViewSpec) :=
  OpenClaim.holds_of_wide 10 Tryz.f10 rfl rfl rfl rfl rfl rfl rfl ⟨rfl, rfl, rfl, rfl, rfl⟩ rfl rfl rfl rfl rfl nameFact Tryz.func10 closedFact instFact wrapFact
    (fun os started H enc _ => lifted os started H enc)
/-- the statement, for every input -/
theorem proved : Rows.FnExactMajorityViewCardSaid :=
  Claim7.holds_tied_plain_at .later [] [.data, .pinned] true (true, "fc36914408e9bcff49b082e0fefa7a260b0dde6e88f86980bb13999f15d538b5") true over (fun _ h => by cases h) (by kernel_rfl) (fun _ h => by cases h) fnExactMajorityView_row_tie rfl ⟨rfl, rfl⟩ (by kernel_rfl) rfl
    (fun f fn hf hfn => by
      obtain rfl : f = 10 := Option.some.inj ((show Tryz.prog.funcNamed "loop.example/g01030/laws.FnExactMajorityView" = some 10 by kernel_rfl).symm.trans hf) |>.symm
      obtain rfl : fn = Tryz.f10 := (Option.some.inj (Tryz.func10.symm.trans hfn)).symm
      exact ⟨by kernel_rfl, fun j t ht => by
        have hall : (Tryz.f10.params.toList.all fun u => !Tryz.prog.wantsStandIn u) = true := by kernel_rfl
        have hm : t ∈ Tryz.f10.params.toList := by simpa using Array.mem_of_getElem? ht
        exact (show Tryz.prog.wantsStandIn t = false by simpa using List.all_eq_true.1 hall t hm)⟩)
    (by kernel_rfl)
#print axioms proved
end Go.Proofs.YtdbheipjbjcikaaGreatDoor.fnExactMajorityView
