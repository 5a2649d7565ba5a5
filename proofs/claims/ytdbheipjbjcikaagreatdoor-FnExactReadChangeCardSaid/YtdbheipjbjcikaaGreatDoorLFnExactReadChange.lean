/- The law FnExactReadChange is true of every input: the row's step, from the walk. -/
import Derived.Test.YtdbheipjbjcikaaGreatDoorK
import Derived.Test.YtdbheipjbjcikaaGreatDoorTie
import Derived.Test.YtdbheipjbjcikaaGreatDoorCards
import Derived.LaidMore
import Derived.Lay
import Derived.SevenTiedAt
import Derived.Stop.Joined
import Derived.Test.YtdbheipjbjcikaaGreatDoorKU
import Derived.Test.YtdbheipjbjcikaaGreatDoorTR
namespace Go.Proofs.YtdbheipjbjcikaaGreatDoor.fnExactReadChange
open Go.ChangeShapes Go.WideShapes Go.ChangeAt Go.RowKit Go.Deep Go.Joins
open Go.ChangeMaps (open_string shut_string)
set_option maxRecDepth 100000 in
theorem lifted (os : Os) (started : os.Started) (H : Type) (enc : TypeId × Value → H) :
    ReturnsInHanded {} Tryz.checked os 3 .any (fun w args => (Rows.fnExactReadChangeSpec.pre enc Tryz.prog Tryz.f3 Rows.fnExactReadChangeRow.domain false w args ∧ laidMetH Tryz.prog Rows.fnExactReadChangeRow.laid w) ∧ sizedMet enc Tryz.prog Tryz.f3 (OpenSpec.ofChange Rows.fnExactReadChangeSpec) false w args)
      (Rows.fnExactReadChangeSpec.post enc Tryz.prog Tryz.f3 false true false false) := by
  refine step_shaped (C := Tryz.checked) (X := (fun w _ => laidMetH Tryz.prog Rows.fnExactReadChangeRow.laid w)) (fun _ _ _ hh h => h.of_heap hh) own started (by kernel_rfl) Tryz.func3
    (ChangeSpec.witness_shaped (enc := enc) (C := Tryz.checked) (os := os) (X := (fun w _ => laidMetH Tryz.prog Rows.fnExactReadChangeRow.laid w)) false (World.laidAll Tryz.prog os Rows.fnExactReadChangeRow.laid) #[.string .empty] 8 (World.laidAll_os _ _ _)
      (World.shaped_of_ZipB (by kernel_rfl) (by kernel_rfl)) (by kernel_rfl) (by kernel_rfl) (by kernel_rfl)
      (by rw [MakeChecks.laidMetH_plain _ _ _ (by kernel_rfl)]; exact laidMet_laidAll _ (by kernel_rfl) (by kernel_rfl))) ?_
  intro W base args ds gs before hval0 hW0 hsz0 hL0 hSh0
  have hval : ∀ (j : Nat) t v, Tryz.f3.params[j]? = some t → args[j]? = some v → Value.okWide Tryz.prog W .any base t v := hval0
  have hW : DataW.Whole enc Tryz.prog Tryz.f3.params.toList Rows.fnExactReadChangeSpec.vars false W args.toList ds gs before := hW0
  clear hval0 hW0
  obtain ⟨p, q, hA0, hV, hpq, hfz, hnd⟩ := id hW
  have hA : DataW.TrodAll enc Tryz.prog W 0 (fun _ => true) true Tryz.f3.params.toList args.toList ds p := hA0
  rw [Tryz.params3] at hA hval
  obtain ⟨rfl, rfl⟩ := trodVars_none hV
  obtain ⟨v0, vs0, d0, ds0, p0, q0, hargs, hds, _, h0, r0⟩ := trodAll_cons hA
  obtain ⟨rfl, rfl, _⟩ := trodAll_nil r0
  obtain rfl : args = #[v0] := by cases args; simp_all
  subst hds
  obtain ⟨s0, e0, _, _, hs0⟩ := open_string Tryz.underlying9 (hval 0 _ v0 rfl rfl) h0
  have hfn : (Rows.fnExactReadChangeSpec.fn H ([d0] ++ [])).results = [.lit (.bool true)] ∧ (Rows.fnExactReadChangeSpec.fn H ([d0] ++ [])).args = [d0] ∧ (Rows.fnExactReadChangeSpec.fn H ([d0] ++ [])).vars = [] := ⟨rfl, rfl, rfl⟩
  have fin : ∀ (e : Ending) (W' : World), e = .returned (.bool true) ∧ Ext W W' → ∃ v, e = .returned v ∧ Rows.fnExactReadChangeSpec.post enc Tryz.prog Tryz.f3 false true false false W #[v0] v W' := fun e W' ⟨he, hx⟩ =>
    ⟨_, he, lawPost hW rfl laidOut (by kernel_rfl) (by kernel_rfl) Tryz.underlying4 hfn hx⟩
  have hL := Ld.of_row hSh0 (MakeChecks.laidMetH_plain _ _ _ (by kernel_rfl) ▸ hL0) (by simp [Rows.fnExactReadChangeRow]) (by simp [Rows.fnExactReadChangeRow]) (by simp [Rows.fnExactReadChangeRow])
  clear hL0
  clear hW hA hA0 hV hfz hnd hval hsz0 hfn h0
  subst e0
  exact (fnExactReadChange_walk s0 W hs0 hL).mono fin
set_option maxRecDepth 100000 in
theorem nameFact : Tryz.pinned.checked.prog.funcNamed Rows.fnExactReadChangeRow.func = some 3 := by kernel_rfl
set_option maxRecDepth 100000 in
theorem closedFact : joinedFacts Tryz.pinned.checked.prog 3 Tryz.f3 Rows.fnExactReadChangeSpec Rows.fnExactReadChangeRow = true := by kernel_rfl
set_option maxRecDepth 100000 in
theorem instFact : Tryz.f3.isInstance Tryz.pinned.checked.prog Rows.fnExactReadChangeRow.origin Rows.fnExactReadChangeRow.targs := of_decide_eq_true (by kernel_rfl)
set_option maxRecDepth 100000 in
theorem wrapFact : Tryz.f3.isWrapper Tryz.pinned.checked.prog Rows.fnExactReadChangeRow.wrapper Rows.fnExactReadChangeRow.mainSum := by unfold Func.isWrapper; first | (rw [if_pos (by decide +kernel)]; kernel_rfl) | (rw [if_neg (by decide +kernel)]; exact ⟨rfl, rfl⟩)
theorem over : Rows.fnExactReadChangeRow.holds Tryz.pinned (OpenSpec.ofChange Rows.fnExactReadChangeSpec) :=
  OpenClaim.holds_of_wide 3 Tryz.f3 rfl rfl rfl rfl rfl rfl rfl ⟨rfl, rfl, rfl, rfl, rfl⟩ rfl rfl rfl rfl rfl nameFact Tryz.func3 closedFact instFact wrapFact
    (fun os started H enc _ => lifted os started H enc)
/-- the statement, for every input -/
theorem proved : Rows.FnExactReadChangeCardSaid :=
  Claim7.holds_tied_plain_at .later [] [.data, .data, .data, .data, .sentinel, .sentinel, .pinned] true (true, "fc36914408e9bcff49b082e0fefa7a260b0dde6e88f86980bb13999f15d538b5") true over (fun _ h => by cases h) (by kernel_rfl) (fun _ h => by cases h) fnExactReadChange_row_tie rfl ⟨rfl, rfl⟩ (by kernel_rfl) rfl
    (fun f fn hf hfn => by
      obtain rfl : f = 3 := Option.some.inj ((show Tryz.prog.funcNamed "loop.example/g01030/laws.FnExactReadChange" = some 3 by kernel_rfl).symm.trans hf) |>.symm
      obtain rfl : fn = Tryz.f3 := (Option.some.inj (Tryz.func3.symm.trans hfn)).symm
      exact ⟨by kernel_rfl, fun j t ht => by
        have hall : (Tryz.f3.params.toList.all fun u => !Tryz.prog.wantsStandIn u) = true := by kernel_rfl
        have hm : t ∈ Tryz.f3.params.toList := by simpa using Array.mem_of_getElem? ht
        exact (show Tryz.prog.wantsStandIn t = false by simpa using List.all_eq_true.1 hall t hm)⟩)
    (by kernel_rfl)
#print axioms proved
end Go.Proofs.YtdbheipjbjcikaaGreatDoor.fnExactReadChange
