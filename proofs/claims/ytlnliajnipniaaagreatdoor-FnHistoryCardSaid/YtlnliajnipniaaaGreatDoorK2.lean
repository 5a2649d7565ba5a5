/- Opening a list of bytes among a law's arguments. The row's step where a walk takes the world's shape besides what the row lists; opening a change among a law's arguments. -/
import Derived.Test.YtlnliajnipniaaaGreatDoorK1
import Derived.LaidMore
import Derived.Lay
import Derived.Stop.Joined
namespace Go.Proofs.YtlnliajnipniaaaGreatDoor
open Go.ChangeShapes Go.WideShapes Go.ChangeAt Go.RowKit Go.Deep Go.Joins
set_option maxRecDepth 100000 in
theorem openLB {H : Type} {enc : TypeId × Value → H} {w : World} {base : Nat} {t e : TypeId} {v : Value} {d : DataW H} {p : List MemPlace}
  (ht : Tryz.prog.underlying t = some (.slice e)) (he : Tryz.prog.underlying e = some (.int .u8)) (hC : Tryz.prog.cellsOf e = 1)
  (hv : Value.okWide Tryz.prog w .any base t v) (h : DataW.Trod enc Tryz.prog w 0 (fun _ => true) true t v d p) :
  ∃ (A : Option Addr) (c : Nat) (bs : List Int), v = .slice A bs.length c ∧ SlAt w 1 encB A bs ∧ (∀ b ∈ bs, 0 ≤ b ∧ b ≤ 255) := by
 obtain ⟨a0, len, cap, rfl⟩ := okWide_slice ht hv
 obtain ⟨fuel, hf⟩ := h
 obtain ⟨A, c, xs, hcs, hS, hG, _, _⟩ := open_sl encB (fun b => 0 ≤ b ∧ b ≤ 255) ht hC (by omega)
  (fun n cs x h => by
   obtain ⟨b, e0, _, wb⟩ := DataW.trod_int he h
   refine ⟨b, e0, ?_⟩
   have := wb
   simp [Lit.wf, IntKind.min, IntKind.max, IntKind.signed, IntKind.bits] at this
   omega) hf
 exact ⟨A, c, xs, by simpa [Value.cells] using hcs, hS, hG⟩
end Go.Proofs.YtlnliajnipniaaaGreatDoor
namespace Go.Proofs.YtlnliajnipniaaaGreatDoor
open Go.ChangeShapes Go.WideShapes Go.ChangeAt Go.RowKit Go.Deep Go.Joins
open Go.ChangeMaps (open_string shut_string)
theorem mx_of_shaped {W : World} (h : W.ShapedOpen Tryz.prog) : Mx W :=
 cell_of_shapedOpen_int (g := 0) (t := 3) (zero := #[.int .i64 0]) h (of_decide_eq_true (by kernel_rfl)) (by kernel_rfl) rfl (by kernel_rfl) (by kernel_rfl) Tryz.underlying3
theorem step_shaped {H : Type} {enc : TypeId × Value → H} {a : Assume} {C : Checked} {os : Os} {f : FuncId} {fn : Func} {s : ChangeSpec} {conds : List PathCond} {apart fresh handsOn again : Bool} {X : World → Array Value → Prop}
  (hX : ∀ (w w' : World) (args : Array Value), w.heap = w'.heap → X w args → X w' args)
  (own : ownKnob C.prog.godebug = none) (started : os.Started) (noInit : C.prog.inits.idxOf? f = none) (hfn : C.prog.funcs[f]? = some fn)
  (witness : ∃ (w : World) (tape : Tape) (i : Input), w.os = os ∧ (w.forCall tape i).Shaped C.prog ∧ i.vars = [] ∧ Input.okWide C.prog (w.forCall tape i) .any w.heap.size f i ∧
   ((s.pre enc C.prog fn conds apart (w.forCall tape i).memory i.args ∧ X (w.forCall tape i).memory i.args) ∧ sizedMet enc C.prog fn (OpenSpec.ofChange s) apart (w.forCall tape i).memory i.args) ∧ a.holds C.prog (lone (Frame.enter C.prog f i.args .normal) [] (w.forCall tape i)))
  (walk : ∀ (W : World) (base : Nat) (args : Array Value) (ds gs : List (DataW H)) (before : List MemPlace),
   (∀ (j : Nat) t v, fn.params[j]? = some t → args[j]? = some v → Value.okWide C.prog W .any base t v) →
   DataW.Whole enc C.prog fn.params.toList s.vars apart W args.toList ds gs before →
   (DataW.weightsEach C.prog (fn.params.toList ++ s.plain.varTypes C.prog) (ds ++ gs)).all (· ≤ reachBytes) = true → X W args → W.ShapedOpen C.prog →
   Calls C.prog f args W fun e W' => ∃ v, e = .returned v ∧ s.post enc C.prog fn apart fresh handsOn again W args v W') :
  ReturnsInHanded a C os f .any (fun w args => (s.pre enc C.prog fn conds apart w args ∧ X w args) ∧ sizedMet enc C.prog fn (OpenSpec.ofChange s) apart w args) (s.post enc C.prog fn apart fresh handsOn again) := by
 refine returnsInHanded_of_calls own started noInit witness fun w tape i _ hshape _ hfits hpre _ => ?_
 obtain ⟨_, _, _, g, hg, _, _, _, _, hval⟩ := hfits
 obtain rfl : g = fn := Option.some.inj (hg.symm.trans hfn)
 obtain ⟨⟨⟨ds, gs, before, hwhole, _⟩, hx⟩, hsized⟩ := hpre
 have hW := DataW.Whole.of_heap (w' := w.forCall tape i) (by rfl) hwhole
 refine (walk (w.forCall tape i) w.heap.size i.args ds gs before hval hW (hsized.weights hwhole) (hX _ _ _ (by rfl) hx) hshape).mono ?_
 rintro e W' ⟨v, rfl, hp⟩
 exact ChangeSpec.post_blind hp
section
variable {H : Type} {enc : TypeId × Value → H} {P : Program}
end
end Go.Proofs.YtlnliajnipniaaaGreatDoor
