/- The frame of every law of this set: 'returns true, leaves its arguments': from a walk that ends in Ext to the row's step; and how the arguments are opened. Opening lists of links, of places, and worlds among a law's arguments. Opening a list of texts among a law's arguments. -/
import Derived.Test.YtncccigbiefnkaaGreatDoorG0
import Derived.Test.YtncccigbiefnkaaGreatDoorRows
import Derived.ProofKit
import Derived.OpenShut
import Derived.ShutString
import Derived.ChangeOld
import Derived.SizedLaws
import Derived.Lib.SmallJoins
import Derived.Deep.Slices
import Derived.Deep.Fields
import Derived.ChangeSame
import Derived.Test.YtncccigbiefnkaaGreatDoorGV
import Derived.Test.YtncccigbiefnkaaGreatDoorGW
namespace Go.Proofs.YtncccigbiefnkaaGreatDoor
open Go.ChangeShapes Go.WideShapes Go.ChangeAt Go.RowKit Go.Deep Go.Joins
open Go.ChangeMaps (open_string shut_string)

/-- within int64 -/
def I64 (x : Int) : Prop := -9223372036854775808 ≤ x ∧ x ≤ 9223372036854775807
theorem own : ownKnob Tryz.prog.godebug = none := by kernel_rfl
theorem laidOut : laidOutB Tryz.prog = true := by kernel_rfl

section
variable {H : Type} {enc : TypeId × Value → H} {P : Program}

/-- all the arguments read behind the call as they read before it -/
theorem trodAll_below (hl : laidOutB P = true) {W W' : World} (hb : Below W.heap.size W W') : ∀ (ts : List TypeId) (vs : List Value) (ds : List (DataW H)) (ps : List MemPlace),
    ts.all (fun t => P.readableRec t && decide (t < P.types.size)) = true → DataW.TrodAll enc P W 0 (fun _ => true) true ts vs ds ps →
    DataW.TrodAll enc P W' 0 (fun b => decide (b < W.heap.size)) true ts vs ds ps
  | [], _, _, _, _, h => by obtain ⟨rfl, rfl, rfl⟩ := trodAll_nil h; exact trodAll_mk0
  | t :: ts, _, _, _, ha, h => by
    obtain ⟨v, vs', d, ds', p, q, rfl, rfl, rfl, h0, h1⟩ := trodAll_cons h
    simp only [List.all_cons, Bool.and_eq_true, decide_eq_true_eq] at ha
    obtain ⟨m, hm⟩ := id h0
    exact trodAll_cons_mk (Below.trod hl ha.1.1 ha.1.2 h0 hb (DataW.trod_lt m _ _ _ hm)) (trodAll_below hl hb ts vs' ds' q ha.2 h1)

/-- the row's 'post' of a law -/
theorem lawPost {f : Func} {s : ChangeSpec} {W W' : World} {args : Array Value} {ds gs : List (DataW H)} {before : List MemPlace} {tb : TypeId}
    (hW : DataW.Whole enc P f.params.toList s.vars false W args.toList ds gs before)
    (hv : s.vars = []) (hl : laidOutB P = true) (hr : f.params.toList.all (fun t => P.readableRec t && decide (t < P.types.size)) = true)
    (hres : f.resultTypes = #[tb]) (hb : P.underlying tb = some .bool)
    (hfn : (s.fn H (ds ++ gs)).results = [.lit (.bool true)] ∧ (s.fn H (ds ++ gs)).args = ds ∧ (s.fn H (ds ++ gs)).vars = [])
    (hbel : Ext W W') : s.post enc P f false true false false W args (.bool true) W' := by
  obtain ⟨p, q, hA, hV, hpq, hz, hn⟩ := id hW
  refine ⟨ds, gs, before, [], p, [], hW, ?_, ?_, ?_, (Ext.below hbel).frame _, fun h => by cases h⟩
  · rw [hfn.1, hres]; exact trodAll_mk1 (shut_bool hb _)
  · rw [hfn.2.1]; exact trodAll_below hl hbel _ _ _ _ hr hA
  · rw [hfn.2.2, hv]; rfl

/-- an int64 -/
theorem openI {w : World} {base : Nat} {spare : Nat → Bool} {held : Bool} {t : TypeId} {v : Value} {d : DataW H} {p : List MemPlace} {base' : Nat} (hs : P.underlying t = some (.int .i64))
    (hv : Value.okWide P w .any base' t v) (h : DataW.Trod enc P w base spare held t v d p) : ∃ x : Int, v = .int .i64 x ∧ d = .lit (.int .i64 x) ∧ I64 x := by
  obtain ⟨x, rfl, rfl, rfl, wx⟩ := open_int hs hv h
  refine ⟨x, rfl, rfl, ?_⟩
  simpa [I64, Lit.wf, IntKind.min, IntKind.max, IntKind.signed, IntKind.bits] using wx

/-- a point by value -/
theorem openP {w : World} {base : Nat} {spare : Nat → Bool} {held : Bool} {t ti : TypeId} {f0 f1 : Field} {v : Value} {d : DataW H} {p : List MemPlace} {base' : Nat} (hs : P.underlying t = some (.struct #[f0, f1]))
    (hi : P.underlying ti = some (.int .i64)) (h0 : f0.type = ti) (h1 : f1.type = ti) (hone : oneCellFields P #[f0, f1] = true) (hC : P.cellsOf t = 2)
    (hv : Value.okWide P w .any base' t v) (h : DataW.Trod enc P w base spare held t v d p) :
    ∃ x y : Int, v = .agg #[.int .i64 x, .int .i64 y] ∧ d = .agg [.lit (.int .i64 x), .lit (.int .i64 y)] ∧ I64 x ∧ I64 y := by
  obtain ⟨c0, c1, y0, y1, m, rfl, rfl, rfl, hy0, hy1⟩ := open_agg2 hs hone hC hv h
  rw [h0] at hy0
  rw [h1] at hy1
  obtain ⟨x, e0, rfl, wx⟩ := DataW.trod_int hi hy0
  obtain ⟨y, e1, rfl, wy⟩ := DataW.trod_int hi hy1
  simp at e0 e1
  subst e0 e1
  refine ⟨x, y, rfl, rfl, ?_, ?_⟩
  · simpa [I64, Lit.wf, IntKind.min, IntKind.max, IntKind.signed, IntKind.bits] using wx
  · simpa [I64, Lit.wf, IntKind.min, IntKind.max, IntKind.signed, IntKind.bits] using wy

/-- the cells of a struct of two int64 -/
theorem trod_pt {w : World} {base : Nat} {spare : Nat → Bool} {held : Bool} {fuel : Nat} {t ti : TypeId} {f0 f1 : Field} {cs : List Value} {x : DataW H × List MemPlace} (hs : P.underlying t = some (.struct #[f0, f1]))
    (hi : P.underlying ti = some (.int .i64)) (h0 : f0.type = ti) (h1 : f1.type = ti) (hone : oneCellFields P #[f0, f1] = true) (hC : P.cellsOf t = 2)
    (h : DataW.trod enc P w base spare held fuel t cs = some x) : ∃ p : Int × Int, cs = encP p ∧ I64 p.1 ∧ I64 p.2 := by
  obtain ⟨xs, n, _, _, hl, hlen, hg⟩ := DataW.trod_struct hs h
  obtain ⟨o0, k0⟩ := hone_of hone 0 f0 rfl
  obtain ⟨o1, k1⟩ := hone_of hone 1 f1 rfl
  have g0 := hg 0 f0 rfl
  have g1 := hg 1 f1 rfl
  rw [o0, k0, h0, List.getElem?_eq_getElem (show 0 < xs.length by rw [hlen]; simp)] at g0
  rw [o1, k1, h1, List.getElem?_eq_getElem (show 1 < xs.length by rw [hlen]; simp)] at g1
  match cs, hl.trans hC with
  | [c0, c1], _ =>
    obtain ⟨a, e0, _, wa⟩ := DataW.trod_int hi g0
    obtain ⟨b, e1, _, wb⟩ := DataW.trod_int hi g1
    simp at e0 e1
    subst e0 e1
    refine ⟨(a, b), rfl, ?_, ?_⟩
    · simpa [I64, Lit.wf, IntKind.min, IntKind.max, IntKind.signed, IntKind.bits] using wa
    · simpa [I64, Lit.wf, IntKind.min, IntKind.max, IntKind.signed, IntKind.bits] using wb

/-- a slice, its elements' cells as 'hrd' reads them -/
theorem open_sl {w : World} {base : Nat} {held : Bool} {fuel : Nat} {t e : TypeId} {α : Type} [Inhabited α] {sz : Nat} {cs : List Value} {x : DataW H × List MemPlace} (encA : α → List Value) (Good : α → Prop) (ht : P.underlying t = some (.slice e)) (hC : P.cellsOf e = sz) (hsz : 0 < sz)
    (hrd : ∀ (n : Nat) (cs : List Value) (x : DataW H × List MemPlace), DataW.trod enc P w base (fun _ => true) held n e cs = some x → ∃ a : α, cs = encA a ∧ Good a)
    (h : DataW.trod enc P w base (fun _ => true) held fuel t cs = some x) :
    ∃ (A : Option Addr) (c : Nat) (xs : List α), cs = [.slice A xs.length c] ∧ SlAt w sz encA A xs ∧ (∀ a ∈ xs, Good a) ∧ xs.length ≤ c ∧ (xs = [] ∨ ∃ elems spare, x.1 = .slice elems spare ∧ elems.length = xs.length) := by
  rcases open_slice ht h with ⟨rfl, rfl⟩ | ⟨a, len, cap, m, n, D, Pl, rfl, hb, hl, hm, hmm, hx, hi⟩
  · exact ⟨none, 0, [], rfl, SlAt.nil, (fun _ h => absurd h (by simp)), Nat.le_refl _, Or.inl rfl⟩
  · rw [hC] at hi
    simp only [if_true] at hmm
    subst hmm
    have hex : ∀ i, ∃ y : α, i < len → (∀ j v, (encA y)[j]? = some v → w.cell? ((a.add (i * sz)).add j) = some v) ∧ (encA y).length = sz ∧ Good y := fun i => by
      by_cases hlt : i < len
      · obtain ⟨cs', hc, ht'⟩ := hi i (by omega)
        obtain ⟨y, rfl, hy⟩ := hrd n cs' _ ht'
        obtain ⟨_, hcl, hat⟩ := World.cells?_some hc
        refine ⟨y, fun _ => ⟨fun j v hj => ?_, hcl, hy⟩⟩
        have hjl : j < sz := by rw [← hcl]; exact (List.getElem?_eq_some_iff.1 hj).1
        rw [hat j hjl, hj]
      · exact ⟨default, fun h => absurd h hlt⟩
    let f : Nat → α := fun i => (hex i).choose
    have hf := fun i => (hex i).choose_spec
    refine ⟨some a, m, (List.range len).map f, by simp, fun hn => ?_, fun y hy => ?_, by simpa using hl, .inr ⟨_, _, by rw [hx], by simp⟩⟩
    · have h0 : 0 < len := by simpa using hn
      obtain ⟨hc0, hl0, _⟩ := hf 0 h0
      obtain ⟨v0, hv0⟩ : ∃ v, (encA (f 0))[0]? = some v := ⟨_, List.getElem?_eq_getElem (show 0 < (encA (f 0)).length by rw [hl0]; exact hsz)⟩
      have hcell := hc0 0 v0 hv0
      rw [Go.Deep.add_add] at hcell
      simp only [Nat.zero_mul, Nat.add_zero] at hcell
      obtain ⟨b, off, spot⟩ := a
      have hspot : spot = none := by simpa [Addr.add] using World.cell?_spot hcell
      subst hspot
      refine ⟨b, off, rfl, by simpa [Addr.add] using World.block_lt_of_cell? _ _ hcell, fun i y hi j v hj => ?_⟩
      have hil : i < len := by simpa using (List.getElem?_eq_some_iff.1 hi).1
      obtain rfl : f i = y := by simpa [hil] using hi
      have h2 := (hf i hil).1 j v hj
      rw [Go.Deep.add_add] at h2
      by_cases hz : i * sz + j = 0
      · have hz' : off + i * sz + j = off := by omega
        rw [hz']; rw [hz] at h2; simpa [Addr.add] using h2
      · rw [Nat.add_assoc]; unfold Addr.add at h2; rw [if_neg hz] at h2; exact h2
    · obtain ⟨i, hi', rfl⟩ := List.mem_map.1 hy
      exact (hf i (by simpa using hi')).2.2
end

set_option maxRecDepth 100000 in
/-- a list of points among the arguments -/
theorem openLP {H : Type} {enc : TypeId × Value → H} {w : World} {base : Nat} {t e : TypeId} {f0 f1 : Field} {v : Value} {d : DataW H} {p : List MemPlace} {ts : List TypeId} {ds : List (DataW H)} {j : Nat}
    (ht : Tryz.prog.underlying t = some (.slice e)) (hs : Tryz.prog.underlying e = some (.struct #[f0, f1])) (h0 : f0.type = 2) (h1 : f1.type = 2) (hone : oneCellFields Tryz.prog #[f0, f1] = true) (hC : Tryz.prog.cellsOf e = 2) (hB : Tryz.prog.bytesOf e = 16)
    (hv : Value.okWide Tryz.prog w .any base t v) (h : DataW.Trod enc Tryz.prog w 0 (fun _ => true) true t v d p)
    (hsz : (DataW.weightsEach Tryz.prog ts ds).all (· ≤ reachBytes) = true) (hj : ts[j]? = some t) (hd : ds[j]? = some d) :
    ∃ (A : Option Addr) (c : Nat) (ps : List (Int × Int)), v = .slice A ps.length c ∧ SlAt w 2 encP A ps ∧ (∀ p ∈ ps, I64 p.1 ∧ I64 p.2) ∧ ps.length ≤ 140737488351232 := by
  obtain ⟨a0, len, cap, rfl⟩ := okWide_slice ht hv
  obtain ⟨fuel, hf⟩ := h
  obtain ⟨A, c, xs, hcs, hS, hG, _, hw⟩ := open_sl encP (fun p => I64 p.1 ∧ I64 p.2) ht hC (by omega)
    (fun n cs x h => trod_pt hs Tryz.underlying2 h0 h1 hone hC h) hf
  refine ⟨A, c, xs, by simpa [Value.cells] using hcs, hS, hG, ?_⟩
  rcases hw with rfl | ⟨elems, spare, hx, he⟩
  · simp
  · simp only at hx
    subst hx
    have := sized_slice hsz hj hd ht
    rw [hB] at this
    unfold reachBytes at this
    omega
end Go.Proofs.YtncccigbiefnkaaGreatDoor
namespace Go.Proofs.YtncccigbiefnkaaGreatDoor
open Go.ChangeShapes Go.WideShapes Go.ChangeAt Go.RowKit Go.Deep Go.Joins
theorem trod_len {H : Type} {enc : TypeId × Value → H} {P : Program} {w : World} {base : Nat} {held : Bool} {fuel : Nat} {t e : TypeId} {A : Option Addr} {n c : Nat} {x : DataW H × List MemPlace} (ht : P.underlying t = some (.slice e))
    (h : DataW.trod enc P w base (fun _ => true) held fuel t [.slice A n c] = some x) : n ≤ 9223372036854775807 := by
  rcases open_slice ht h with ⟨e1, _⟩ | ⟨a, len, cap, m, k, D, Pl, e1, _, hl, hm, _⟩
  · injection e1 with e1
    injection e1 with _ e2
    omega
  · injection e1 with e1
    injection e1 with _ e2
    unfold maxLen at hm
    omega
theorem max_le {n : Nat} (h : n ≤ maxLen) : n ≤ 9223372036854775807 := by unfold maxLen at h; omega
theorem size_tx (s : ByteArray) : s.data.toList.length = s.size := by rw [Array.length_toList]; rfl
/-- no text of a link is longer than a length can tell -/
def CanK (l : Lk) : Prop := l.1.length ≤ 9223372036854775807 ∧ l.2.1.length ≤ 9223372036854775807
def CanN (l : Nm) : Prop := l.1.length ≤ 9223372036854775807 ∧ l.2.1.length ≤ 9223372036854775807
/-- a list of links among a law's arguments -/
structure ArgK (w : World) (A : Option Addr) (L : List Lk) : Prop where
  sl : SlAt w 4 encK A L
  can : ∀ i, i < L.length → (L.getD i lkD).1.length ≤ 9223372036854775807 ∧ (L.getD i lkD).2.1.length ≤ 9223372036854775807
  len : L.length ≤ 9223372036854775807
theorem ArgK.ext {w w' : World} {A : Option Addr} {L : List Lk} (h : ArgK w A L) (hx : Ext w w') : ArgK w' A L := ⟨h.sl.ext hx, h.can, h.len⟩
/-- a place among a law's arguments -/
def ArgP1 (w : World) (p : Pl) : Prop := SlAt w 5 encN p.2.2.2.2.1 p.2.2.2.2.2.2 ∧ p.1.length ≤ 9223372036854775807 ∧ p.2.2.2.2.2.2.length ≤ 9223372036854775807 ∧ ∀ i, i < p.2.2.2.2.2.2.length → CanN (p.2.2.2.2.2.2.getD i nmD)
/-- a list of places among a law's arguments -/
structure ArgQ (w : World) (A : Option Addr) (ps : List Pl) : Prop where
  sl : SlAt w 5 encQ A ps
  pl : ∀ i, i < ps.length → ArgP1 w (ps.getD i plD)
  len : ps.length ≤ 9223372036854775807
theorem ArgQ.ext {w w' : World} {A : Option Addr} {ps : List Pl} (h : ArgQ w A ps) (hx : Ext w w') : ArgQ w' A ps := ⟨h.sl.ext hx, fun i hi => ⟨(h.pl i hi).1.ext hx, (h.pl i hi).2⟩, h.len⟩
section
variable {H : Type} {enc : TypeId × Value → H} {P : Program} {w : World} {base : Nat} {held : Bool} {fuel : Nat}
theorem trod_tx {ts : TypeId} {cs : List Value} {x : DataW H × List MemPlace} (hu : P.underlying ts = some .string)
    (h : DataW.trod enc P w base (fun _ => true) held fuel ts cs = some x) : ∃ l : List UInt8, cs = encS l ∧ l.length ≤ 9223372036854775807 := by
  obtain ⟨s, e, _, hs⟩ := DataW.trod_string hu h
  exact ⟨s.data.toList, e, by rw [size_tx]; exact max_le hs⟩
/-- what is asked of the type of a span -/
structure SpT (P : Program) (tp : TypeId) : Prop where
  ex : ∃ (ti : TypeId) (g0 g1 : Field), P.underlying tp = some (.struct #[g0, g1]) ∧ P.underlying ti = some (.int .i64) ∧ g0.type = ti ∧ g1.type = ti ∧ oneCellFields P #[g0, g1] = true ∧ P.cellsOf tp = 2
theorem trod_sp {tp : TypeId} {cs : List Value} {x : DataW H × List MemPlace} (hp : SpT P tp)
    (h : DataW.trod enc P w base (fun _ => true) held fuel tp cs = some x) : ∃ p : Int × Int, cs = encP p := by
  obtain ⟨ti, g0, g1, a, b, c, d, e, f⟩ := hp.ex
  obtain ⟨p, hp, _⟩ := trod_pt a b c d e f h
  exact ⟨p, hp⟩
theorem trod_lk {t tp ts : TypeId} {f0 f1 f2 : Field} {cs : List Value} {x : DataW H × List MemPlace} (hs : P.underlying t = some (.struct #[f0, f1, f2])) (hp : SpT P tp) (hu : P.underlying ts = some .string)
    (h0 : f0.type = ts) (h1 : f1.type = ts) (h2 : f2.type = tp) (hCs : P.cellsOf ts = 1) (hC : P.cellsOf t = 4) (o0 : f0.offset = 0) (o1 : f1.offset = 1) (o2 : f2.offset = 2)
    (h : DataW.trod enc P w base (fun _ => true) held fuel t cs = some x) : ∃ l : Lk, cs = encK l ∧ CanK l := by
  obtain ⟨xs, n, _, _, hll, hlen, hg⟩ := DataW.trod_struct hs h
  have hCp : P.cellsOf tp = 2 := by obtain ⟨_, _, _, _, _, _, _, _, e⟩ := hp.ex; exact e
  have g0 := hg 0 f0 rfl
  have g1 := hg 1 f1 rfl
  have g2 := hg 2 f2 rfl
  have hx : xs.length = 3 := by rw [hlen]; rfl
  rw [o0, h0, hCs, List.getElem?_eq_getElem (by omega)] at g0
  rw [o1, h1, hCs, List.getElem?_eq_getElem (by omega)] at g1
  rw [o2, h2, hCp, List.getElem?_eq_getElem (by omega)] at g2
  match cs, hll.trans hC with
  | [c0, c1, c2, c3], _ =>
    obtain ⟨a, e0, ha⟩ := trod_tx hu g0
    obtain ⟨b, e1, hb⟩ := trod_tx hu g1
    obtain ⟨p, e2⟩ := trod_sp hp g2
    simp [encS, encP] at e0 e1 e2
    obtain ⟨e2, e3⟩ := e2
    subst e0 e1 e2 e3
    exact ⟨(a, b, p.1, p.2), rfl, ha, hb⟩
theorem trod_nm {t tp ts ti : TypeId} {f0 f1 f2 f3 : Field} {cs : List Value} {x : DataW H × List MemPlace} (hs : P.underlying t = some (.struct #[f0, f1, f2, f3])) (hp : SpT P tp) (hu : P.underlying ts = some .string) (hi : P.underlying ti = some (.int .i64))
    (h0 : f0.type = ts) (h1 : f1.type = ts) (h2 : f2.type = ti) (h3 : f3.type = tp) (hCs : P.cellsOf ts = 1) (hCi : P.cellsOf ti = 1) (hC : P.cellsOf t = 5) (o0 : f0.offset = 0) (o1 : f1.offset = 1) (o2 : f2.offset = 2) (o3 : f3.offset = 3)
    (h : DataW.trod enc P w base (fun _ => true) held fuel t cs = some x) : ∃ l : Nm, cs = encN l ∧ CanN l := by
  obtain ⟨xs, n, _, _, hll, hlen, hg⟩ := DataW.trod_struct hs h
  have hCp : P.cellsOf tp = 2 := by obtain ⟨_, _, _, _, _, _, _, _, e⟩ := hp.ex; exact e
  have g0 := hg 0 f0 rfl
  have g1 := hg 1 f1 rfl
  have g2 := hg 2 f2 rfl
  have g3 := hg 3 f3 rfl
  have hx : xs.length = 4 := by rw [hlen]; rfl
  rw [o0, h0, hCs, List.getElem?_eq_getElem (by omega)] at g0
  rw [o1, h1, hCs, List.getElem?_eq_getElem (by omega)] at g1
  rw [o2, h2, hCi, List.getElem?_eq_getElem (by omega)] at g2
  rw [o3, h3, hCp, List.getElem?_eq_getElem (by omega)] at g3
  match cs, hll.trans hC with
  | [c0, c1, c2, c3, c4], _ =>
    obtain ⟨a, e0, ha⟩ := trod_tx hu g0
    obtain ⟨b, e1, hb⟩ := trod_tx hu g1
    obtain ⟨z, e2, _, _⟩ := DataW.trod_int hi g2
    obtain ⟨p, e3⟩ := trod_sp hp g3
    simp [encS, encP] at e0 e1 e2 e3
    obtain ⟨e3, e4⟩ := e3
    subst e0 e1 e2 e3 e4
    exact ⟨(a, b, z, p.1, p.2), rfl, ha, hb⟩
/-- what is asked of the type of a name -/
structure NmT (P : Program) (t : TypeId) : Prop where
  rd : ∀ {H : Type} {enc : TypeId × Value → H} {w : World} {base : Nat} {held : Bool} {fuel : Nat} {cs : List Value} {x : DataW H × List MemPlace}, DataW.trod enc P w base (fun _ => true) held fuel t cs = some x → ∃ l : Nm, cs = encN l ∧ CanN l
  ce : P.cellsOf t = 5
theorem trod_pl {t tp ts ti tl tn : TypeId} {f0 f1 f2 f3 : Field} {cs : List Value} {x : DataW H × List MemPlace} (hs : P.underlying t = some (.struct #[f0, f1, f2, f3])) (hp : SpT P tp) (hN : NmT P tn) (hu : P.underlying ts = some .string) (hi : P.underlying ti = some (.int .i64)) (hl : P.underlying tl = some (.slice tn))
    (h0 : f0.type = ts) (h1 : f1.type = ti) (h2 : f2.type = tp) (h3 : f3.type = tl) (hCs : P.cellsOf ts = 1) (hCi : P.cellsOf ti = 1) (hCl : P.cellsOf tl = 1) (hC : P.cellsOf t = 5) (o0 : f0.offset = 0) (o1 : f1.offset = 1) (o2 : f2.offset = 2) (o3 : f3.offset = 4)
    (h : DataW.trod enc P w base (fun _ => true) held fuel t cs = some x) : ∃ p : Pl, cs = encQ p ∧ ArgP1 w p := by
  obtain ⟨xs, n, _, _, hll, hlen, hg⟩ := DataW.trod_struct hs h
  have hCp : P.cellsOf tp = 2 := by obtain ⟨_, _, _, _, _, _, _, _, e⟩ := hp.ex; exact e
  have g0 := hg 0 f0 rfl
  have g1 := hg 1 f1 rfl
  have g2 := hg 2 f2 rfl
  have g3 := hg 3 f3 rfl
  have hx : xs.length = 4 := by rw [hlen]; rfl
  rw [o0, h0, hCs, List.getElem?_eq_getElem (by omega)] at g0
  rw [o1, h1, hCi, List.getElem?_eq_getElem (by omega)] at g1
  rw [o2, h2, hCp, List.getElem?_eq_getElem (by omega)] at g2
  rw [o3, h3, hCl, List.getElem?_eq_getElem (by omega)] at g3
  match cs, hll.trans hC with
  | [c0, c1, c2, c3, c4], _ =>
    obtain ⟨a, e0, ha⟩ := trod_tx hu g0
    obtain ⟨z, e1, _, _⟩ := DataW.trod_int hi g1
    obtain ⟨p, e2⟩ := trod_sp hp g2
    obtain ⟨A, c, ns, e3, hS, hG, _, _⟩ := open_sl (α := Nm) encN CanN hl hN.ce (by omega) (fun n cs x h => hN.rd h) g3
    have e3' := e3
    simp [encS, encP] at e0 e1 e2 e3
    obtain ⟨e2, e4⟩ := e2
    subst e0 e1 e2 e3 e4
    have hln := trod_len hl (by simpa using g3)
    exact ⟨(a, z, p.1, p.2, A, c, ns), rfl, hS, ha, hln, fun i hi => hG _ (by simp [List.getD, hi])⟩
end

end Go.Proofs.YtncccigbiefnkaaGreatDoor
namespace Go.Proofs.YtncccigbiefnkaaGreatDoor
open Go.ChangeShapes Go.WideShapes Go.ChangeAt Go.RowKit Go.Deep Go.Joins
/-- a list of texts among a law's arguments -/
structure ArgT (w : World) (A : Option Addr) (L : List (List UInt8)) : Prop where
  sl : SlAt w 1 encS A L
  can : ∀ i, i < L.length → (L.getD i []).length ≤ 9223372036854775807
  len : L.length ≤ 9223372036854775807
theorem ArgT.ext {w w' : World} {A : Option Addr} {L : List (List UInt8)} (h : ArgT w A L) (hx : Ext w w') : ArgT w' A L := ⟨h.sl.ext hx, h.can, h.len⟩
set_option maxRecDepth 100000 in
theorem openLT {H : Type} {enc : TypeId × Value → H} {w : World} {base : Nat} {v : Value} {d : DataW H} {p : List MemPlace}
    (hv : Value.okWide Tryz.prog w .any base 40 v) (h : DataW.Trod enc Tryz.prog w 0 (fun _ => true) true 40 v d p) :
    ∃ (A : Option Addr) (c : Nat) (L : List (List UInt8)), v = .slice A L.length c ∧ ArgT w A L := by
  obtain ⟨a0, len, cap, rfl⟩ := okWide_slice Tryz.underlying40 hv
  obtain ⟨fuel, hf⟩ := h
  obtain ⟨A, c, L, hcs, hS, hG, _, _⟩ := open_sl (α := List UInt8) encS (fun l => l.length ≤ 9223372036854775807) Tryz.underlying40 (sz := 1) (by kernel_rfl) (by omega)
    (fun n cs x h => trod_tx Tryz.underlying9 h) hf
  have hlen : len ≤ 9223372036854775807 := trod_len (A := a0) (c := cap) Tryz.underlying40 (by simpa [Value.cells] using hf)
  have hcs' : Value.slice a0 len cap = .slice A L.length c := by simpa [Value.cells] using hcs
  refine ⟨A, c, L, hcs', hS, fun i hi => hG _ (by simp [List.getD, hi]), ?_⟩
  injection hcs' with _ e2
  omega
end Go.Proofs.YtncccigbiefnkaaGreatDoor
