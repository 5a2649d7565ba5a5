/- The law FnExactReadRing is true of every input: the row's step, from the walk. -/
import Derived.Test.YtacpimajiojekaaDoorK
import Derived.Test.YtacpimajiojekaaDoorTie
import Derived.Test.YtacpimajiojekaaDoorCards
import Derived.LaidMore
import Derived.Lay
import Derived.SevenTiedAt
import Derived.Stop.Joined
import Derived.Test.YtacpimajiojekaaDoorKU
import Derived.Test.YtacpimajiojekaaDoorTN
namespace Go.Proofs.YtacpimajiojekaaDoor.fnExactReadRing
open Go.ChangeShapes Go.WideShapes Go.ChangeAt Go.RowKit Go.Deep Go.Joins
open Go.ChangeMaps (open_string shut_string)
set_option maxRecDepth 100000 in
theorem lifted (os : Os) (started : os.Started) (H : Type) (enc : TypeId × Value → H) :
    ReturnsInHanded {} Tryd.checked os 7 .any (fun w args => (Rows.fnExactReadRingSpec.pre enc Tryd.prog Tryd.f7 Rows.fnExactReadRingRow.domain false w args ∧ laidMetH Tryd.prog Rows.fnExactReadRingRow.laid w) ∧ sizedMet enc Tryd.prog Tryd.f7 (OpenSpec.ofChange Rows.fnExactReadRingSpec) false w args)
      (Rows.fnExactReadRingSpec.post enc Tryd.prog Tryd.f7 false true false false) := by
  refine step_shaped (C := Tryd.checked) (X := (fun w _ => laidMetH Tryd.prog Rows.fnExactReadRingRow.laid w)) (fun _ _ _ hh h => h.of_heap hh) own started (by kernel_rfl) Tryd.func7
    (ChangeSpec.witness_shaped (enc := enc) (C := Tryd.checked) (os := os) (X := (fun w _ => laidMetH Tryd.prog Rows.fnExactReadRingRow.laid w)) false (World.laidAll Tryd.prog os Rows.fnExactReadRingRow.laid) #[.string .empty] 8 (World.laidAll_os _ _ _)
      (World.shaped_of_ZipB (by kernel_rfl) (by kernel_rfl)) (by kernel_rfl) (by kernel_rfl) (by kernel_rfl)
      (by rw [MakeChecks.laidMetH_plain _ _ _ (by kernel_rfl)]; exact laidMet_laidAll _ (by kernel_rfl) (by kernel_rfl))) ?_
  intro W base args ds gs before hval0 hW0 hsz0 hL0 hSh0
  have hval : ∀ (j : Nat) t v, Tryd.f7.params[j]? = some t → args[j]? = some v → Value.okWide Tryd.prog W .any base t v := hval0
  have hW : DataW.Whole enc Tryd.prog Tryd.f7.params.toList Rows.fnExactReadRingSpec.vars false W args.toList ds gs before := hW0
  clear hval0 hW0
  obtain ⟨p, q, hA0, hV, hpq, hfz, hnd⟩ := id hW
  have hA : DataW.TrodAll enc Tryd.prog W 0 (fun _ => true) true Tryd.f7.params.toList args.toList ds p := hA0
  rw [Tryd.params7] at hA hval
  obtain ⟨rfl, rfl⟩ := trodVars_none hV
  obtain ⟨v0, vs0, d0, ds0, p0, q0, hargs, hds, _, h0, r0⟩ := trodAll_cons hA
  obtain ⟨rfl, rfl, _⟩ := trodAll_nil r0
  obtain rfl : args = #[v0] := by cases args; simp_all
  subst hds
  obtain ⟨s0, e0, _, _, hs0⟩ := open_string Tryd.underlying9 (hval 0 _ v0 rfl rfl) h0
  have hfn : (Rows.fnExactReadRingSpec.fn H ([d0] ++ [])).results = [.lit (.bool true)] ∧ (Rows.fnExactReadRingSpec.fn H ([d0] ++ [])).args = [d0] ∧ (Rows.fnExactReadRingSpec.fn H ([d0] ++ [])).vars = [] := ⟨rfl, rfl, rfl⟩
  have fin : ∀ (e : Ending) (W' : World), e = .returned (.bool true) ∧ Ext W W' → ∃ v, e = .returned v ∧ Rows.fnExactReadRingSpec.post enc Tryd.prog Tryd.f7 false true false false W #[v0] v W' := fun e W' ⟨he, hx⟩ =>
    ⟨_, he, lawPost hW rfl laidOut (by kernel_rfl) (by kernel_rfl) Tryd.underlying4 hfn hx⟩
  have hL := Ld.of_row hSh0 (MakeChecks.laidMetH_plain _ _ _ (by kernel_rfl) ▸ hL0) (by simp [Rows.fnExactReadRingRow]) (by simp [Rows.fnExactReadRingRow]) (by simp [Rows.fnExactReadRingRow])
  clear hL0
  clear hW hA hA0 hV hfz hnd hval hsz0 hfn h0
  subst e0
  exact (fnExactReadRing_walk s0 W hs0 hL).mono fin
theorem over : Rows.fnExactReadRingRow.holds Tryd.pinned (OpenSpec.ofChange Rows.fnExactReadRingSpec) :=
  OpenClaim.holds_of_wide 7 Tryd.f7 rfl rfl rfl rfl rfl rfl rfl ⟨rfl, rfl, rfl, rfl, rfl⟩ rfl rfl rfl rfl rfl (by kernel_rfl) Tryd.func7 (by kernel_rfl)
    (of_decide_eq_true (by kernel_rfl)) (by unfold Func.isWrapper; first | (rw [if_pos (by decide +kernel)]; kernel_rfl) | (rw [if_neg (by decide +kernel)]; exact ⟨rfl, rfl⟩))
    (fun os started H enc _ => lifted os started H enc)
/-- the statement, for every input -/
theorem proved : Rows.FnExactReadRingCardSaid :=
  Claim7.holds_tied_plain_at .later [] [.data, .data, .data, .data, .sentinel, .sentinel, .pinned] true (true, "b769add0dea11261498096d915f23f4f2fbaacf71898114192d79d67593871e8") true over (fun _ h => by cases h) (by kernel_rfl) (fun _ h => by cases h) fnExactReadRing_row_tie rfl ⟨rfl, rfl⟩ (by kernel_rfl) rfl
    (fun f fn hf hfn => by
      obtain rfl : f = 7 := Option.some.inj ((show Tryd.prog.funcNamed "loop.example/g01030/laws.FnExactReadRing" = some 7 by kernel_rfl).symm.trans hf) |>.symm
      obtain rfl : fn = Tryd.f7 := (Option.some.inj (Tryd.func7.symm.trans hfn)).symm
      exact ⟨by kernel_rfl, fun j t ht => by
        have hall : (Tryd.f7.params.toList.all fun u => !Tryd.prog.wantsStandIn u) = true := by kernel_rfl
        have hm : t ∈ Tryd.f7.params.toList := by simpa using Array.mem_of_getElem? ht
        exact (show Tryd.prog.wantsStandIn t = false by simpa using List.all_eq_true.1 hall t hm)⟩)
    (by kernel_rfl)
#print axioms proved
end Go.Proofs.YtacpimajiojekaaDoor.fnExactReadRing
