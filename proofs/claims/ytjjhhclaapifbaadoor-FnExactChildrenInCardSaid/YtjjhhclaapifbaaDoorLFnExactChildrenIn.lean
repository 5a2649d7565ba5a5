/- The law FnExactChildrenIn is true of every input: the row's step, from the walk. -/
import Derived.Test.YtjjhhclaapifbaaDoorK
import Derived.Test.YtjjhhclaapifbaaDoorTie
import Derived.Test.YtjjhhclaapifbaaDoorCards
import Derived.LaidMore
import Derived.Lay
import Derived.SevenTiedAt
import Derived.Stop.Joined
import Derived.Test.YtjjhhclaapifbaaDoorZI
namespace Go.Proofs.YtjjhhclaapifbaaDoor.fnExactChildrenIn
open Go.ChangeShapes Go.WideShapes Go.ChangeAt Go.RowKit Go.Deep Go.Joins
open Go.ChangeMaps (open_string shut_string)
set_option maxRecDepth 100000 in
theorem lifted (os : Os) (started : os.Started) (H : Type) (enc : TypeId × Value → H) :
    ReturnsInHanded {} Tryd.checked os 4 .any (fun w args => (Rows.fnExactChildrenInSpec.pre enc Tryd.prog Tryd.f4 Rows.fnExactChildrenInRow.domain false w args ∧ laidMetH Tryd.prog Rows.fnExactChildrenInRow.laid w) ∧ sizedMet enc Tryd.prog Tryd.f4 (OpenSpec.ofChange Rows.fnExactChildrenInSpec) false w args)
      (Rows.fnExactChildrenInSpec.post enc Tryd.prog Tryd.f4 false true false false) := by
  refine returnsInHanded_of_change_and (C := Tryd.checked) (X := (fun w _ => laidMetH Tryd.prog Rows.fnExactChildrenInRow.laid w)) (fun _ _ _ hh h => h.of_heap hh) own started (by kernel_rfl) Tryd.func4
    (ChangeSpec.witness_shaped (enc := enc) (C := Tryd.checked) (os := os) (X := (fun w _ => laidMetH Tryd.prog Rows.fnExactChildrenInRow.laid w)) false (World.laidAll Tryd.prog os Rows.fnExactChildrenInRow.laid) #[.slice none 0 0, .string .empty, .int .i64 0] 8 (World.laidAll_os _ _ _)
      (World.shaped_of_ZipB (by kernel_rfl) (by kernel_rfl)) (by kernel_rfl) (by kernel_rfl) (by kernel_rfl)
      (by rw [MakeChecks.laidMetH_plain _ _ _ (by kernel_rfl)]; exact laidMet_laidAll _ (by kernel_rfl) (by kernel_rfl))) ?_
  intro W base args ds gs before hval0 hW0 _ hsz0 hL0 _
  have hval : ∀ (j : Nat) t v, Tryd.f4.params[j]? = some t → args[j]? = some v → Value.okWide Tryd.prog W .any base t v := hval0
  have hW : DataW.Whole enc Tryd.prog Tryd.f4.params.toList Rows.fnExactChildrenInSpec.vars false W args.toList ds gs before := hW0
  clear hval0 hW0
  obtain ⟨p, q, hA0, hV, hpq, hfz, hnd⟩ := id hW
  have hA : DataW.TrodAll enc Tryd.prog W 0 (fun _ => true) true Tryd.f4.params.toList args.toList ds p := hA0
  rw [Tryd.params4] at hA hval
  obtain ⟨rfl, rfl⟩ := trodVars_none hV
  obtain ⟨v0, vs0, d0, ds0, p0, q0, hargs, hds, _, h0, r0⟩ := trodAll_cons hA
  obtain ⟨v1, vs1, d1, ds1, p1, q1, rfl, rfl, _, h1, r1⟩ := trodAll_cons r0
  obtain ⟨v2, vs2, d2, ds2, p2, q2, rfl, rfl, _, h2, r2⟩ := trodAll_cons r1
  obtain ⟨rfl, rfl, _⟩ := trodAll_nil r2
  obtain rfl : args = #[v0, v1, v2] := by cases args; simp_all
  subst hds
  obtain ⟨A0, c0, ps0, e0, hR0⟩ := openLK (hval 0 _ v0 rfl rfl) h0
  obtain ⟨s1, e1, _, _, hs1⟩ := open_string Tryd.underlying9 (hval 1 _ v1 rfl rfl) h1
  obtain ⟨x2, e2, _, _bx2⟩ := openI Tryd.underlying2 (hval 2 _ v2 rfl rfl) h2
  have hfn : (Rows.fnExactChildrenInSpec.fn H ([d0, d1, d2] ++ [])).results = [.lit (.bool true)] ∧ (Rows.fnExactChildrenInSpec.fn H ([d0, d1, d2] ++ [])).args = [d0, d1, d2] ∧ (Rows.fnExactChildrenInSpec.fn H ([d0, d1, d2] ++ [])).vars = [] := ⟨rfl, rfl, rfl⟩
  have fin : ∀ (e : Ending) (W' : World), e = .returned (.bool true) ∧ Ext W W' → ∃ v, e = .returned v ∧ Rows.fnExactChildrenInSpec.post enc Tryd.prog Tryd.f4 false true false false W #[v0, v1, v2] v W' := fun e W' ⟨he, hx⟩ =>
    ⟨_, he, lawPost hW rfl laidOut (by kernel_rfl) (by kernel_rfl) Tryd.underlying4 hfn hx⟩
  clear hL0
  clear hW hA hA0 hV hfz hnd hval hsz0 hfn h0 h1 h2
  subst e0 e1 e2
  exact (fnExactChildrenIn_walk A0 c0 ps0 s1 x2 W hR0 hs1).mono fin
set_option maxRecDepth 100000 in
theorem nameFact : Tryd.pinned.checked.prog.funcNamed Rows.fnExactChildrenInRow.func = some 4 := by kernel_rfl
set_option maxRecDepth 100000 in
theorem closedFact : joinedFacts Tryd.pinned.checked.prog 4 Tryd.f4 Rows.fnExactChildrenInSpec Rows.fnExactChildrenInRow = true := by kernel_rfl
set_option maxRecDepth 100000 in
theorem instFact : Tryd.f4.isInstance Tryd.pinned.checked.prog Rows.fnExactChildrenInRow.origin Rows.fnExactChildrenInRow.targs := of_decide_eq_true (by kernel_rfl)
set_option maxRecDepth 100000 in
theorem wrapFact : Tryd.f4.isWrapper Tryd.pinned.checked.prog Rows.fnExactChildrenInRow.wrapper Rows.fnExactChildrenInRow.mainSum := by unfold Func.isWrapper; first | (rw [if_pos (by decide +kernel)]; kernel_rfl) | (rw [if_neg (by decide +kernel)]; exact ⟨rfl, rfl⟩)
theorem over : Rows.fnExactChildrenInRow.holds Tryd.pinned (OpenSpec.ofChange Rows.fnExactChildrenInSpec) :=
  OpenClaim.holds_of_wide 4 Tryd.f4 rfl rfl rfl rfl rfl rfl rfl ⟨rfl, rfl, rfl, rfl, rfl⟩ rfl rfl rfl rfl rfl nameFact Tryd.func4 closedFact instFact wrapFact
    (fun os started H enc _ => lifted os started H enc)
/-- the statement, for every input -/
theorem proved : Rows.FnExactChildrenInCardSaid :=
  Claim7.holds_tied_plain_at .later [] [.data, .pinned] true (true, "117a197325e3a45ddccd51af1703ffc2d65c6f8e7b94deb85ab6a0bf1a8d4323") false over (fun _ h => by cases h) (by kernel_rfl) (fun _ h => by cases h) fnExactChildrenIn_row_tie rfl ⟨rfl, rfl⟩ (by kernel_rfl) rfl
    (fun f fn hf hfn => by
      obtain rfl : f = 4 := Option.some.inj ((show Tryd.prog.funcNamed "loop.example/g01030/laws.FnExactChildrenIn" = some 4 by kernel_rfl).symm.trans hf) |>.symm
      obtain rfl : fn = Tryd.f4 := (Option.some.inj (Tryd.func4.symm.trans hfn)).symm
      exact ⟨by kernel_rfl, fun j t ht => by
        have hall : (Tryd.f4.params.toList.all fun u => !Tryd.prog.wantsStandIn u) = true := by kernel_rfl
        have hm : t ∈ Tryd.f4.params.toList := by simpa using Array.mem_of_getElem? ht
        exact (show Tryd.prog.wantsStandIn t = false by simpa using List.all_eq_true.1 hall t hm)⟩)
    (by kernel_rfl)
#print axioms proved
end Go.Proofs.YtjjhhclaapifbaaDoor.fnExactChildrenIn
