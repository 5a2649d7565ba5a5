/- The row's step where a walk takes the world's shape besides what the row lists; opening a change among a law's arguments. -/
import Derived.Test.YtbnkiibjhfcffaaGreatDoorK1
import Derived.Test.YtbnkiibjhfcffaaGreatDoorGT
import Derived.SizedLaws
import Derived.LaidMore
import Derived.Lay
import Derived.Stop.Joined
namespace Go.Proofs.YtbnkiibjhfcffaaGreatDoor
open Go.ChangeShapes Go.WideShapes Go.ChangeAt Go.RowKit Go.Deep Go.Joins
open Go.ChangeMaps (open_string shut_string)

theorem mx_of_shaped {W : World} (h : W.ShapedOpen Tryz.prog) : Mx W :=
  cell_of_shapedOpen_int (g := 0) (t := 3) (zero := #[.int .i64 0]) h (of_decide_eq_true (by kernel_rfl)) (by kernel_rfl) rfl (by kernel_rfl) (by kernel_rfl) Tryz.underlying3
theorem step_shaped {H : Type} {enc : TypeId × Value → H} {a : Assume} {C : Checked} {os : Os} {f : FuncId} {fn : Func} {s : ChangeSpec} {conds : List PathCond} {apart fresh handsOn again : Bool} {X : World → Array Value → Prop}
    (hX : ∀ (w w' : World) (args : Array Value), w.heap = w'.heap → X w args → X w' args)
    (own : ownKnob C.prog.godebug = none) (started : os.Started) (noInit : C.prog.inits.idxOf? f = none) (hfn : C.prog.funcs[f]? = some fn)
    (witness : ∃ (w : World) (tape : Tape) (i : Input), w.os = os ∧ (w.forCall tape i).Shaped C.prog ∧ i.vars = [] ∧ Input.okWide C.prog (w.forCall tape i) .any w.heap.size f i ∧
      ((s.pre enc C.prog fn conds apart (w.forCall tape i).memory i.args ∧ X (w.forCall tape i).memory i.args) ∧ sizedMet enc C.prog fn (OpenSpec.ofChange s) apart (w.forCall tape i).memory i.args) ∧ a.holds C.prog (lone (Frame.enter C.prog f i.args .normal) [] (w.forCall tape i)))
    (walk : ∀ (W : World) (base : Nat) (args : Array Value) (ds gs : List (DataW H)) (before : List MemPlace),
      (∀ (j : Nat) t v, fn.params[j]? = some t → args[j]? = some v → Value.okWide C.prog W .any base t v) →
      DataW.Whole enc C.prog fn.params.toList s.vars apart W args.toList ds gs before →
      (DataW.weightsEach C.prog (fn.params.toList ++ s.plain.varTypes C.prog) (ds ++ gs)).all (· ≤ reachBytes) = true → X W args → W.ShapedOpen C.prog →
      Calls C.prog f args W fun e W' => ∃ v, e = .returned v ∧ s.post enc C.prog fn apart fresh handsOn again W args v W') :
    ReturnsInHanded a C os f .any (fun w args => (s.pre enc C.prog fn conds apart w args ∧ X w args) ∧ sizedMet enc C.prog fn (OpenSpec.ofChange s) apart w args) (s.post enc C.prog fn apart fresh handsOn again) := by
  refine returnsInHanded_of_calls own started noInit witness fun w tape i _ hshape _ hfits hpre _ => ?_
  obtain ⟨_, _, _, g, hg, _, _, _, _, hval⟩ := hfits
  obtain rfl : g = fn := Option.some.inj (hg.symm.trans hfn)
  obtain ⟨⟨⟨ds, gs, before, hwhole, _⟩, hx⟩, hsized⟩ := hpre
  have hW := DataW.Whole.of_heap (w' := w.forCall tape i) (by rfl) hwhole
  refine (walk (w.forCall tape i) w.heap.size i.args ds gs before hval hW (hsized.weights hwhole) (hX _ _ _ (by rfl) hx) hshape).mono ?_
  rintro e W' ⟨v, rfl, hp⟩
  exact ChangeSpec.post_blind hp

section
variable {H : Type} {enc : TypeId × Value → H} {P : Program}
theorem array6 {α : Type} {cs : Array α} (h : cs.size = 6) : ∃ c0 c1 c2 c3 c4 c5, cs = #[c0, c1, c2, c3, c4, c5] := by
  obtain ⟨l⟩ := cs
  match l, h with
  | [c0, c1, c2, c3, c4, c5], _ => exact ⟨c0, c1, c2, c3, c4, c5, rfl⟩
/-- a struct of two int64 and four texts -/
theorem openC {w : World} {base : Nat} {spare : Nat → Bool} {held : Bool} {t ti ts : TypeId} {f0 f1 f2 f3 f4 f5 : Field} {v : Value} {d : DataW H} {p : List MemPlace} {base' : Nat} (hs : P.underlying t = some (.struct #[f0, f1, f2, f3, f4, f5]))
    (hi : P.underlying ti = some (.int .i64)) (hu : P.underlying ts = some .string) (h0 : f0.type = ti) (h1 : f1.type = ti) (h2 : f2.type = ts) (h3 : f3.type = ts) (h4 : f4.type = ts) (h5 : f5.type = ts)
    (hone : oneCellFields P #[f0, f1, f2, f3, f4, f5] = true) (hC : P.cellsOf t = 6)
    (hv : Value.okWide P w .any base' t v) (h : DataW.Trod enc P w base spare held t v d p) :
    ∃ (y k : Int) (co ot la te : ByteArray), v = .agg #[.int .i64 y, .int .i64 k, .string co, .string ot, .string la, .string te] ∧ co.size ≤ maxLen ∧ ot.size ≤ maxLen ∧ la.size ≤ maxLen ∧ te.size ≤ maxLen := by
  obtain ⟨cs, rfl, hsz⟩ := okWide_struct hs hv
  obtain ⟨c0, c1, c2, c3, c4, c5, rfl⟩ := array6 (hsz.trans hC)
  obtain ⟨fuel, hf⟩ := h
  obtain ⟨xs, n, _, _, _, hlen, hg⟩ := DataW.trod_struct hs hf
  obtain ⟨o0, k0⟩ := hone_of hone 0 f0 rfl
  obtain ⟨o1, k1⟩ := hone_of hone 1 f1 rfl
  obtain ⟨o2, k2⟩ := hone_of hone 2 f2 rfl
  obtain ⟨o3, k3⟩ := hone_of hone 3 f3 rfl
  obtain ⟨o4, k4⟩ := hone_of hone 4 f4 rfl
  obtain ⟨o5, k5⟩ := hone_of hone 5 f5 rfl
  have g0 := hg 0 f0 rfl
  have g1 := hg 1 f1 rfl
  have g2 := hg 2 f2 rfl
  have g3 := hg 3 f3 rfl
  have g4 := hg 4 f4 rfl
  have g5 := hg 5 f5 rfl
  have hx : xs.length = 6 := by rw [hlen]; rfl
  rw [o0, k0, h0, List.getElem?_eq_getElem (by omega)] at g0
  rw [o1, k1, h1, List.getElem?_eq_getElem (by omega)] at g1
  rw [o2, k2, h2, List.getElem?_eq_getElem (by omega)] at g2
  rw [o3, k3, h3, List.getElem?_eq_getElem (by omega)] at g3
  rw [o4, k4, h4, List.getElem?_eq_getElem (by omega)] at g4
  rw [o5, k5, h5, List.getElem?_eq_getElem (by omega)] at g5
  obtain ⟨y, e0, _, _⟩ := DataW.trod_int hi g0
  obtain ⟨k, e1, _, _⟩ := DataW.trod_int hi g1
  obtain ⟨co, e2, _, s2⟩ := DataW.trod_string hu g2
  obtain ⟨ot, e3, _, s3⟩ := DataW.trod_string hu g3
  obtain ⟨la, e4, _, s4⟩ := DataW.trod_string hu g4
  obtain ⟨te, e5, _, s5⟩ := DataW.trod_string hu g5
  simp [Value.cells] at e0 e1 e2 e3 e4 e5
  subst e0 e1 e2 e3 e4 e5
  exact ⟨y, k, co, ot, la, te, rfl, s2, s3, s4, s5⟩
end
end Go.Proofs.YtbnkiibjhfcffaaGreatDoor
