/- The frame of every law of this set: 'returns true, leaves its arguments': from a walk that ends in Ext to the row's step; and how the arguments are opened. Opening lists of links, of places, and worlds among a law's arguments. Opening a list of texts among a law's arguments. -/
import Derived.Test.YtlnliajnipniaaaGreatDoorRows
import Derived.ProofKit
import Derived.OpenShut
import Derived.ShutString
import Derived.ChangeOld
import Derived.SizedLaws
import Derived.Deep.Slices
import Derived.Deep.Fields
import Derived.ChangeSame
import Derived.Test.YtlnliajnipniaaaGreatDoorGV
namespace Go.Proofs.YtlnliajnipniaaaGreatDoor
open Go.ChangeShapes Go.WideShapes Go.ChangeAt Go.RowKit Go.Deep Go.Joins
open Go.ChangeMaps (open_string shut_string)
theorem own : ownKnob Tryz.prog.godebug = none := by kernel_rfl
theorem laidOut : laidOutB Tryz.prog = true := by kernel_rfl
section
variable {H : Type} {enc : TypeId × Value → H} {P : Program}
theorem trodAll_below (hl : laidOutB P = true) {W W' : World} (hb : Below W.heap.size W W') : ∀ (ts : List TypeId) (vs : List Value) (ds : List (DataW H)) (ps : List MemPlace),
  ts.all (fun t => P.readableRec t && decide (t < P.types.size)) = true → DataW.TrodAll enc P W 0 (fun _ => true) true ts vs ds ps →
  DataW.TrodAll enc P W' 0 (fun b => decide (b < W.heap.size)) true ts vs ds ps
 | [], _, _, _, _, h => by obtain ⟨rfl, rfl, rfl⟩ := trodAll_nil h; exact trodAll_mk0
 | t :: ts, _, _, _, ha, h => by
  obtain ⟨v, vs', d, ds', p, q, rfl, rfl, rfl, h0, h1⟩ := trodAll_cons h
  simp only [List.all_cons, Bool.and_eq_true, decide_eq_true_eq] at ha
  obtain ⟨m, hm⟩ := id h0
  exact trodAll_cons_mk (Below.trod hl ha.1.1 ha.1.2 h0 hb (DataW.trod_lt m _ _ _ hm)) (trodAll_below hl hb ts vs' ds' q ha.2 h1)
theorem lawPost {f : Func} {s : ChangeSpec} {W W' : World} {args : Array Value} {ds gs : List (DataW H)} {before : List MemPlace} {tb : TypeId}
  (hW : DataW.Whole enc P f.params.toList s.vars false W args.toList ds gs before)
  (hv : s.vars = []) (hl : laidOutB P = true) (hr : f.params.toList.all (fun t => P.readableRec t && decide (t < P.types.size)) = true)
  (hres : f.resultTypes = #[tb]) (hb : P.underlying tb = some .bool)
  (hfn : (s.fn H (ds ++ gs)).results = [.lit (.bool true)] ∧ (s.fn H (ds ++ gs)).args = ds ∧ (s.fn H (ds ++ gs)).vars = [])
  (hbel : Ext W W') : s.post enc P f false true false false W args (.bool true) W' := by
 obtain ⟨p, q, hA, hV, hpq, hz, hn⟩ := id hW
 refine ⟨ds, gs, before, [], p, [], hW, ?_, ?_, ?_, (Ext.below hbel).frame _, fun h => by cases h⟩
 ·rw [hfn.1, hres]; exact trodAll_mk1 (shut_bool hb _)
 ·rw [hfn.2.1]; exact trodAll_below hl hbel _ _ _ _ hr hA
 ·rw [hfn.2.2, hv]; rfl
theorem open_sl {w : World} {base : Nat} {held : Bool} {fuel : Nat} {t e : TypeId} {α : Type} [Inhabited α] {sz : Nat} {cs : List Value} {x : DataW H × List MemPlace} (encA : α → List Value) (Good : α → Prop) (ht : P.underlying t = some (.slice e)) (hC : P.cellsOf e = sz) (hsz : 0 < sz)
  (hrd : ∀ (n : Nat) (cs : List Value) (x : DataW H × List MemPlace), DataW.trod enc P w base (fun _ => true) held n e cs = some x → ∃ a : α, cs = encA a ∧ Good a)
  (h : DataW.trod enc P w base (fun _ => true) held fuel t cs = some x) :
  ∃ (A : Option Addr) (c : Nat) (xs : List α), cs = [.slice A xs.length c] ∧ SlAt w sz encA A xs ∧ (∀ a ∈ xs, Good a) ∧ xs.length ≤ c ∧ (xs = [] ∨ ∃ elems spare, x.1 = .slice elems spare ∧ elems.length = xs.length) := by
 rcases open_slice ht h with ⟨rfl, rfl⟩ | ⟨a, len, cap, m, n, D, Pl, rfl, hb, hl, hm, hmm, hx, hi⟩
 ·exact ⟨none, 0, [], rfl, SlAt.nil, (fun _ h => absurd h (by simp)), Nat.le_refl _, Or.inl rfl⟩
 ·rw [hC] at hi
  simp only [if_true] at hmm
  subst hmm
  have hex : ∀ i, ∃ y : α, i < len → (∀ j v, (encA y)[j]? = some v → w.cell? ((a.add (i * sz)).add j) = some v) ∧ (encA y).length = sz ∧ Good y := fun i => by
   by_cases hlt : i < len
   ·obtain ⟨cs', hc, ht'⟩ := hi i (by omega)
    obtain ⟨y, rfl, hy⟩ := hrd n cs' _ ht'
    obtain ⟨_, hcl, hat⟩ := World.cells?_some hc
    refine ⟨y, fun _ => ⟨fun j v hj => ?_, hcl, hy⟩⟩
    have hjl : j < sz := by rw [← hcl]; exact (List.getElem?_eq_some_iff.1 hj).1
    rw [hat j hjl, hj]
   ·exact ⟨default, fun h => absurd h hlt⟩
  let f : Nat → α := fun i => (hex i).choose
  have hf := fun i => (hex i).choose_spec
  refine ⟨some a, m, (List.range len).map f, by simp, fun hn => ?_, fun y hy => ?_, by simpa using hl, .inr ⟨_, _, by rw [hx], by simp⟩⟩
  ·have h0 : 0 < len := by simpa using hn
   obtain ⟨hc0, hl0, _⟩ := hf 0 h0
   obtain ⟨v0, hv0⟩ : ∃ v, (encA (f 0))[0]? = some v := ⟨_, List.getElem?_eq_getElem (show 0 < (encA (f 0)).length by rw [hl0]; exact hsz)⟩
   have hcell := hc0 0 v0 hv0
   rw [Go.Deep.add_add] at hcell
   simp only [Nat.zero_mul, Nat.add_zero] at hcell
   obtain ⟨b, off, spot⟩ := a
   have hspot : spot = none := by simpa [Addr.add] using World.cell?_spot hcell
   subst hspot
   refine ⟨b, off, rfl, by simpa [Addr.add] using World.block_lt_of_cell? _ _ hcell, fun i y hi j v hj => ?_⟩
   have hil : i < len := by simpa using (List.getElem?_eq_some_iff.1 hi).1
   obtain rfl : f i = y := by simpa [hil] using hi
   have h2 := (hf i hil).1 j v hj
   rw [Go.Deep.add_add] at h2
   by_cases hz : i * sz + j = 0
   ·have hz' : off + i * sz + j = off := by omega
    rw [hz']; rw [hz] at h2; simpa [Addr.add] using h2
   ·rw [Nat.add_assoc]; unfold Addr.add at h2; rw [if_neg hz] at h2; exact h2
  ·obtain ⟨i, hi', rfl⟩ := List.mem_map.1 hy
   exact (hf i (by simpa using hi')).2.2
end
end Go.Proofs.YtlnliajnipniaaaGreatDoor
namespace Go.Proofs.YtlnliajnipniaaaGreatDoor
open Go.ChangeShapes Go.WideShapes Go.ChangeAt Go.RowKit Go.Deep Go.Joins
section
variable {H : Type} {enc : TypeId × Value → H} {P : Program} {w : World} {base : Nat} {held : Bool} {fuel : Nat}
end
end Go.Proofs.YtlnliajnipniaaaGreatDoor
