/- What a law's answer says of its arguments: for a seat whose other texts were cut down (prune.py). -/
import Derived.Test.YtbnkiibjhfcffaaGreatDoorK1
import Derived.ProofKit
import Derived.OpenShut
import Derived.ShutString
import Derived.ChangeOld
import Derived.SizedLaws
import Derived.Lib.SmallJoins
import Derived.Deep.Slices
import Derived.Deep.Fields
import Derived.ChangeSame
namespace Go.Proofs.YtbnkiibjhfcffaaGreatDoor
open Go.ChangeShapes Go.WideShapes Go.ChangeAt Go.RowKit Go.Deep Go.Joins
open Go.ChangeMaps (open_string shut_string)

theorem laidOut : laidOutB Tryz.prog = true := by kernel_rfl

section
variable {H : Type} {enc : TypeId × Value → H} {P : Program}

/-- all the arguments read behind the call as they read before it -/
theorem trodAll_below (hl : laidOutB P = true) {W W' : World} (hb : Below W.heap.size W W') : ∀ (ts : List TypeId) (vs : List Value) (ds : List (DataW H)) (ps : List MemPlace),
    ts.all (fun t => P.readableRec t && decide (t < P.types.size)) = true → DataW.TrodAll enc P W 0 (fun _ => true) true ts vs ds ps →
    DataW.TrodAll enc P W' 0 (fun b => decide (b < W.heap.size)) true ts vs ds ps
  | [], _, _, _, _, h => by obtain ⟨rfl, rfl, rfl⟩ := trodAll_nil h; exact trodAll_mk0
  | t :: ts, _, _, _, ha, h => by
    obtain ⟨v, vs', d, ds', p, q, rfl, rfl, rfl, h0, h1⟩ := trodAll_cons h
    simp only [List.all_cons, Bool.and_eq_true, decide_eq_true_eq] at ha
    obtain ⟨m, hm⟩ := id h0
    exact trodAll_cons_mk (Below.trod hl ha.1.1 ha.1.2 h0 hb (DataW.trod_lt m _ _ _ hm)) (trodAll_below hl hb ts vs' ds' q ha.2 h1)

/-- the row's 'post' of a law -/
theorem lawPost {f : Func} {s : ChangeSpec} {W W' : World} {args : Array Value} {ds gs : List (DataW H)} {before : List MemPlace} {tb : TypeId}
    (hW : DataW.Whole enc P f.params.toList s.vars false W args.toList ds gs before)
    (hv : s.vars = []) (hl : laidOutB P = true) (hr : f.params.toList.all (fun t => P.readableRec t && decide (t < P.types.size)) = true)
    (hres : f.resultTypes = #[tb]) (hb : P.underlying tb = some .bool)
    (hfn : (s.fn H (ds ++ gs)).results = [.lit (.bool true)] ∧ (s.fn H (ds ++ gs)).args = ds ∧ (s.fn H (ds ++ gs)).vars = [])
    (hbel : Ext W W') : s.post enc P f false true false false W args (.bool true) W' := by
  obtain ⟨p, q, hA, hV, hpq, hz, hn⟩ := id hW
  refine ⟨ds, gs, before, [], p, [], hW, ?_, ?_, ?_, (Ext.below hbel).frame _, fun h => by cases h⟩
  · rw [hfn.1, hres]; exact trodAll_mk1 (shut_bool hb _)
  · rw [hfn.2.1]; exact trodAll_below hl hbel _ _ _ _ hr hA
  · rw [hfn.2.2, hv]; rfl
end
end Go.Proofs.YtbnkiibjhfcffaaGreatDoor
