/- The frame of every law of this set: 'returns true, leaves its arguments': from a walk that ends in Ext to the row's step; and how the arguments are opened. -/
import Derived.Test.YtabdffponmmhoaaGreatDoorG0
import Derived.Test.YtabdffponmmhoaaGreatDoorRows
import Derived.ProofKit
import Derived.OpenShut
import Derived.ShutString
import Derived.ChangeOld
import Derived.SizedLaws
import Derived.Lib.SmallJoins
import Derived.Deep.Slices
import Derived.Deep.Fields
import Derived.ChangeSame
namespace Go.Proofs.YtabdffponmmhoaaGreatDoor
open Go.ChangeShapes Go.WideShapes Go.ChangeAt Go.RowKit Go.Deep Go.Joins
open Go.ChangeMaps (open_string shut_string)

/-- within int64 -/
def I64 (x : Int) : Prop := -9223372036854775808 ≤ x ∧ x ≤ 9223372036854775807
theorem own : ownKnob Tryz.prog.godebug = none := by kernel_rfl
theorem laidOut : laidOutB Tryz.prog = true := by kernel_rfl

section
variable {H : Type} {enc : TypeId × Value → H} {P : Program}

/-- all the arguments read behind the call as they read before it -/
theorem trodAll_below (hl : laidOutB P = true) {W W' : World} (hb : Below W.heap.size W W') : ∀ (ts : List TypeId) (vs : List Value) (ds : List (DataW H)) (ps : List MemPlace),
    ts.all (fun t => P.readableRec t && decide (t < P.types.size)) = true → DataW.TrodAll enc P W 0 (fun _ => true) true ts vs ds ps →
    DataW.TrodAll enc P W' 0 (fun b => decide (b < W.heap.size)) true ts vs ds ps
  | [], _, _, _, _, h => by obtain ⟨rfl, rfl, rfl⟩ := trodAll_nil h; exact trodAll_mk0
  | t :: ts, _, _, _, ha, h => by
    obtain ⟨v, vs', d, ds', p, q, rfl, rfl, rfl, h0, h1⟩ := trodAll_cons h
    simp only [List.all_cons, Bool.and_eq_true, decide_eq_true_eq] at ha
    obtain ⟨m, hm⟩ := id h0
    exact trodAll_cons_mk (Below.trod hl ha.1.1 ha.1.2 h0 hb (DataW.trod_lt m _ _ _ hm)) (trodAll_below hl hb ts vs' ds' q ha.2 h1)

/-- the row's 'post' of a law -/
theorem lawPost {f : Func} {s : ChangeSpec} {W W' : World} {args : Array Value} {ds gs : List (DataW H)} {before : List MemPlace} {tb : TypeId}
    (hW : DataW.Whole enc P f.params.toList s.vars false W args.toList ds gs before)
    (hv : s.vars = []) (hl : laidOutB P = true) (hr : f.params.toList.all (fun t => P.readableRec t && decide (t < P.types.size)) = true)
    (hres : f.resultTypes = #[tb]) (hb : P.underlying tb = some .bool)
    (hfn : (s.fn H (ds ++ gs)).results = [.lit (.bool true)] ∧ (s.fn H (ds ++ gs)).args = ds ∧ (s.fn H (ds ++ gs)).vars = [])
    (hbel : Ext W W') : s.post enc P f false true false false W args (.bool true) W' := by
  obtain ⟨p, q, hA, hV, hpq, hz, hn⟩ := id hW
  refine ⟨ds, gs, before, [], p, [], hW, ?_, ?_, ?_, (Ext.below hbel).frame _, fun h => by cases h⟩
  · rw [hfn.1, hres]; exact trodAll_mk1 (shut_bool hb _)
  · rw [hfn.2.1]; exact trodAll_below hl hbel _ _ _ _ hr hA
  · rw [hfn.2.2, hv]; rfl

/-- an int64 -/
theorem openI {w : World} {base : Nat} {spare : Nat → Bool} {held : Bool} {t : TypeId} {v : Value} {d : DataW H} {p : List MemPlace} {base' : Nat} (hs : P.underlying t = some (.int .i64))
    (hv : Value.okWide P w .any base' t v) (h : DataW.Trod enc P w base spare held t v d p) : ∃ x : Int, v = .int .i64 x ∧ d = .lit (.int .i64 x) ∧ I64 x := by
  obtain ⟨x, rfl, rfl, rfl, wx⟩ := open_int hs hv h
  refine ⟨x, rfl, rfl, ?_⟩
  simpa [I64, Lit.wf, IntKind.min, IntKind.max, IntKind.signed, IntKind.bits] using wx

/-- a point by value -/
theorem openP {w : World} {base : Nat} {spare : Nat → Bool} {held : Bool} {t ti : TypeId} {f0 f1 : Field} {v : Value} {d : DataW H} {p : List MemPlace} {base' : Nat} (hs : P.underlying t = some (.struct #[f0, f1]))
    (hi : P.underlying ti = some (.int .i64)) (h0 : f0.type = ti) (h1 : f1.type = ti) (hone : oneCellFields P #[f0, f1] = true) (hC : P.cellsOf t = 2)
    (hv : Value.okWide P w .any base' t v) (h : DataW.Trod enc P w base spare held t v d p) :
    ∃ x y : Int, v = .agg #[.int .i64 x, .int .i64 y] ∧ d = .agg [.lit (.int .i64 x), .lit (.int .i64 y)] ∧ I64 x ∧ I64 y := by
  obtain ⟨c0, c1, y0, y1, m, rfl, rfl, rfl, hy0, hy1⟩ := open_agg2 hs hone hC hv h
  rw [h0] at hy0
  rw [h1] at hy1
  obtain ⟨x, e0, rfl, wx⟩ := DataW.trod_int hi hy0
  obtain ⟨y, e1, rfl, wy⟩ := DataW.trod_int hi hy1
  simp at e0 e1
  subst e0 e1
  refine ⟨x, y, rfl, rfl, ?_, ?_⟩
  · simpa [I64, Lit.wf, IntKind.min, IntKind.max, IntKind.signed, IntKind.bits] using wx
  · simpa [I64, Lit.wf, IntKind.min, IntKind.max, IntKind.signed, IntKind.bits] using wy

/-- the cells of a struct of two int64 -/
theorem trod_pt {w : World} {base : Nat} {spare : Nat → Bool} {held : Bool} {fuel : Nat} {t ti : TypeId} {f0 f1 : Field} {cs : List Value} {x : DataW H × List MemPlace} (hs : P.underlying t = some (.struct #[f0, f1]))
    (hi : P.underlying ti = some (.int .i64)) (h0 : f0.type = ti) (h1 : f1.type = ti) (hone : oneCellFields P #[f0, f1] = true) (hC : P.cellsOf t = 2)
    (h : DataW.trod enc P w base spare held fuel t cs = some x) : ∃ p : Int × Int, cs = encP p ∧ I64 p.1 ∧ I64 p.2 := by
  obtain ⟨xs, n, _, _, hl, hlen, hg⟩ := DataW.trod_struct hs h
  obtain ⟨o0, k0⟩ := hone_of hone 0 f0 rfl
  obtain ⟨o1, k1⟩ := hone_of hone 1 f1 rfl
  have g0 := hg 0 f0 rfl
  have g1 := hg 1 f1 rfl
  rw [o0, k0, h0, List.getElem?_eq_getElem (show 0 < xs.length by rw [hlen]; simp)] at g0
  rw [o1, k1, h1, List.getElem?_eq_getElem (show 1 < xs.length by rw [hlen]; simp)] at g1
  match cs, hl.trans hC with
  | [c0, c1], _ =>
    obtain ⟨a, e0, _, wa⟩ := DataW.trod_int hi g0
    obtain ⟨b, e1, _, wb⟩ := DataW.trod_int hi g1
    simp at e0 e1
    subst e0 e1
    refine ⟨(a, b), rfl, ?_, ?_⟩
    · simpa [I64, Lit.wf, IntKind.min, IntKind.max, IntKind.signed, IntKind.bits] using wa
    · simpa [I64, Lit.wf, IntKind.min, IntKind.max, IntKind.signed, IntKind.bits] using wb

/-- a slice, its elements' cells as 'hrd' reads them -/
theorem open_sl {w : World} {base : Nat} {held : Bool} {fuel : Nat} {t e : TypeId} {α : Type} [Inhabited α] {sz : Nat} {cs : List Value} {x : DataW H × List MemPlace} (encA : α → List Value) (Good : α → Prop) (ht : P.underlying t = some (.slice e)) (hC : P.cellsOf e = sz) (hsz : 0 < sz)
    (hrd : ∀ (n : Nat) (cs : List Value) (x : DataW H × List MemPlace), DataW.trod enc P w base (fun _ => true) held n e cs = some x → ∃ a : α, cs = encA a ∧ Good a)
    (h : DataW.trod enc P w base (fun _ => true) held fuel t cs = some x) :
    ∃ (A : Option Addr) (c : Nat) (xs : List α), cs = [.slice A xs.length c] ∧ SlAt w sz encA A xs ∧ (∀ a ∈ xs, Good a) ∧ xs.length ≤ c ∧ (xs = [] ∨ ∃ elems spare, x.1 = .slice elems spare ∧ elems.length = xs.length) := by
  rcases open_slice ht h with ⟨rfl, rfl⟩ | ⟨a, len, cap, m, n, D, Pl, rfl, hb, hl, hm, hmm, hx, hi⟩
  · exact ⟨none, 0, [], rfl, SlAt.nil, (fun _ h => absurd h (by simp)), Nat.le_refl _, Or.inl rfl⟩
  · rw [hC] at hi
    simp only [if_true] at hmm
    subst hmm
    have hex : ∀ i, ∃ y : α, i < len → (∀ j v, (encA y)[j]? = some v → w.cell? ((a.add (i * sz)).add j) = some v) ∧ (encA y).length = sz ∧ Good y := fun i => by
      by_cases hlt : i < len
      · obtain ⟨cs', hc, ht'⟩ := hi i (by omega)
        obtain ⟨y, rfl, hy⟩ := hrd n cs' _ ht'
        obtain ⟨_, hcl, hat⟩ := World.cells?_some hc
        refine ⟨y, fun _ => ⟨fun j v hj => ?_, hcl, hy⟩⟩
        have hjl : j < sz := by rw [← hcl]; exact (List.getElem?_eq_some_iff.1 hj).1
        rw [hat j hjl, hj]
      · exact ⟨default, fun h => absurd h hlt⟩
    let f : Nat → α := fun i => (hex i).choose
    have hf := fun i => (hex i).choose_spec
    refine ⟨some a, m, (List.range len).map f, by simp, fun hn => ?_, fun y hy => ?_, by simpa using hl, .inr ⟨_, _, by rw [hx], by simp⟩⟩
    · have h0 : 0 < len := by simpa using hn
      obtain ⟨hc0, hl0, _⟩ := hf 0 h0
      obtain ⟨v0, hv0⟩ : ∃ v, (encA (f 0))[0]? = some v := ⟨_, List.getElem?_eq_getElem (show 0 < (encA (f 0)).length by rw [hl0]; exact hsz)⟩
      have hcell := hc0 0 v0 hv0
      rw [Go.Deep.add_add] at hcell
      simp only [Nat.zero_mul, Nat.add_zero] at hcell
      obtain ⟨b, off, spot⟩ := a
      have hspot : spot = none := by simpa [Addr.add] using World.cell?_spot hcell
      subst hspot
      refine ⟨b, off, rfl, by simpa [Addr.add] using World.block_lt_of_cell? _ _ hcell, fun i y hi j v hj => ?_⟩
      have hil : i < len := by simpa using (List.getElem?_eq_some_iff.1 hi).1
      obtain rfl : f i = y := by simpa [hil] using hi
      have h2 := (hf i hil).1 j v hj
      rw [Go.Deep.add_add] at h2
      by_cases hz : i * sz + j = 0
      · have hz' : off + i * sz + j = off := by omega
        rw [hz']; rw [hz] at h2; simpa [Addr.add] using h2
      · rw [Nat.add_assoc]; unfold Addr.add at h2; rw [if_neg hz] at h2; exact h2
    · obtain ⟨i, hi', rfl⟩ := List.mem_map.1 hy
      exact (hf i (by simpa using hi')).2.2
end

set_option maxRecDepth 100000 in
/-- a list of points among the arguments -/
theorem openLP {H : Type} {enc : TypeId × Value → H} {w : World} {base : Nat} {t e : TypeId} {f0 f1 : Field} {v : Value} {d : DataW H} {p : List MemPlace} {ts : List TypeId} {ds : List (DataW H)} {j : Nat}
    (ht : Tryz.prog.underlying t = some (.slice e)) (hs : Tryz.prog.underlying e = some (.struct #[f0, f1])) (h0 : f0.type = 2) (h1 : f1.type = 2) (hone : oneCellFields Tryz.prog #[f0, f1] = true) (hC : Tryz.prog.cellsOf e = 2) (hB : Tryz.prog.bytesOf e = 16)
    (hv : Value.okWide Tryz.prog w .any base t v) (h : DataW.Trod enc Tryz.prog w 0 (fun _ => true) true t v d p)
    (hsz : (DataW.weightsEach Tryz.prog ts ds).all (· ≤ reachBytes) = true) (hj : ts[j]? = some t) (hd : ds[j]? = some d) :
    ∃ (A : Option Addr) (c : Nat) (ps : List (Int × Int)), v = .slice A ps.length c ∧ SlAt w 2 encP A ps ∧ (∀ p ∈ ps, I64 p.1 ∧ I64 p.2) ∧ ps.length ≤ 140737488351232 := by
  obtain ⟨a0, len, cap, rfl⟩ := okWide_slice ht hv
  obtain ⟨fuel, hf⟩ := h
  obtain ⟨A, c, xs, hcs, hS, hG, _, hw⟩ := open_sl encP (fun p => I64 p.1 ∧ I64 p.2) ht hC (by omega)
    (fun n cs x h => trod_pt hs Tryz.underlying2 h0 h1 hone hC h) hf
  refine ⟨A, c, xs, by simpa [Value.cells] using hcs, hS, hG, ?_⟩
  rcases hw with rfl | ⟨elems, spare, hx, he⟩
  · simp
  · simp only at hx
    subst hx
    have := sized_slice hsz hj hd ht
    rw [hB] at this
    unfold reachBytes at this
    omega
end Go.Proofs.YtabdffponmmhoaaGreatDoor
