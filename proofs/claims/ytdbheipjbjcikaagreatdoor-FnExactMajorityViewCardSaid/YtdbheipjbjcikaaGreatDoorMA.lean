/- Contracts of the maps: edges that fit, walked over the translation. -/
import Derived.Test.YtdbheipjbjcikaaGreatDoorEC
import Derived.Deep.RegionHeld3
import Derived.Deep.DeepCutAuto
import Derived.RegionTactic
import Derived.BigRegion
import Derived.WalkLawsBesides
import Derived.WalkSpells
import Derived.Lib.MinMax
import Derived.Outline
namespace Go.Proofs.YtdbheipjbjcikaaGreatDoor
open Go.RowKit
attribute [local go_sem] ExtOf.cell ExtOf.frozen

/-- two edges are one -/
def eqEd (a b c d p q r s : Int) : Bool := eqP a b p q && eqP c d r s
@[go_sem high] theorem eql_ed (a b c d p q r s : Int) (w : World) : (binOp .eql 195 (.agg #[.int .i64 a, .int .i64 b, .int .i64 c, .int .i64 d]) (.agg #[.int .i64 p, .int .i64 q, .int .i64 r, .int .i64 s])).run Tryz.prog w = .ok (.bool (eqEd a b c d p q r s)) w := by
  have hS : Tryz.prog.underlying 195 = some (.struct (Tryz.prog.fieldsOf 195)) := by kernel_rfl
  have hp : Tryz.prog.stoodInHeld 195 = false := by kernel_rfl
  have hS' : Tryz.prog.underlying 70 = some (.struct (Tryz.prog.fieldsOf 70)) := by kernel_rfl
  have hp' : Tryz.prog.stoodInHeld 70 = false := by kernel_rfl
  have a3 := Tryz.isAgg2
  have z3 := Tryz.sizeOf2
  have a4 := Tryz.isAgg70
  have z4 := Tryz.sizeOf70
  rw [run_eql_struct, show (10000 : Nat) = 9999 + 1 from rfl, run_equalIn_agg w 9999 195 _ _ hS hp]
  simp only [Program.fieldsOf, Tryz.underlying195]
  have hpt : ∀ (n : Nat) (x z u v : Int) (w : World), (Op.equalIn (n + 1 + 1) 70 (.agg #[.int .i64 x, .int .i64 z]) (.agg #[.int .i64 u, .int .i64 v])).run Tryz.prog w = .ok (eqP x z u v) w := fun n x z u v w => by
    rw [run_equalIn_agg w (n + 1) 70 _ _ hS' hp']
    simp only [Program.fieldsOf, Tryz.underlying70]
    go_simp
    by_cases h1 : x = u <;> by_cases h2 : z = v <;> simp [h1, h2, eqP]
  have h1 := hpt 9997
  go_simp
  cases h1 : eqP a b p q <;> cases h2 : eqP c d r s <;> simp [eqEd, h1, h2]

@[go_sem high] theorem guard_ed (op : BinOp) (x y : Operand) (xs ys : Array Value) (w : World) : (eqGuard op 195 x y (.agg xs) (.agg ys)).run Tryz.prog w = .ok () w :=
  run_eqGuard_agg w op _ x y xs ys (by kernel_rfl)
theorem i_back (a b c d : Int) (w : World) : Calls Tryz.prog 227 #[.agg #[.int .i64 a, .int .i64 b, .int .i64 c, .int .i64 d]] w fun e w' => e = .returned (.agg #[.int .i64 c, .int .i64 d, .int .i64 a, .int .i64 b]) ∧ Ext w w' := by
  go_enter Tryz.func227, Tryz.ntmps227
  go_wp2
  refine bodyPost_ret (v := .agg #[.int .i64 c, .int .i64 d, .int .i64 a, .int .i64 b]) (by simp [results, Tryz.results227, go_sem]) rfl ⟨rfl, ?_⟩
  (repeat (first | with_reducible exact Ext.refl _ | with_reducible assumption | ((with_reducible apply Src.ext); with_reducible assumption) | with_reducible refine Ext.alloc ?_ _ | with_reducible refine Ext.drew ?_ | with_reducible refine Ext.drewN ?_ _ | ((with_reducible refine Ext.setCell' ?_ ?_ _); solve | omega | simp | (simp; omega)) | (with_reducible refine Ext.trans ?_ (by with_reducible assumption))))

/-- the double of a list of points -/
def dbP (p : Int × Int) : Int × Int := (2 * p.1, 2 * p.2)
theorem oks_at2 {ps : List (Int × Int)} (h : oks ps = true) {k : Nat} (hk : k < ps.length) : bdP (ps.getD k (0, 0)).1 (ps.getD k (0, 0)).2 := by
  have := bd_at h (k : Int)
  rwa [ptx_lt hk, ptz_lt hk] at this
def dbTo (ps : List (Int × Int)) (k : Nat) : List (Int × Int) := (List.range k).map fun i => dbP (atP ps i)
theorem dbTo_succ (ps : List (Int × Int)) (k : Nat) : dbTo ps (k + 1) = dbTo ps k ++ [dbP (atP ps k)] := by unfold dbTo; rw [List.range_succ, List.map_append]; rfl
theorem dbTo_len (ps : List (Int × Int)) (k : Nat) : (dbTo ps k).length = k := by simp [dbTo]
set_option maxHeartbeats 3200000 in
theorem i_doubled (A : Option Addr) (c : Nat) (ps : List (Int × Int)) (w : World) (h : SlAt w 2 encP A ps) (hl : ps.length ≤ 1000) (ho : oks ps = true) :
    Calls Tryz.prog 226 #[.slice A ps.length c] w fun e w' => ∃ v, e = .returned v ∧ OwP w' w.heap.size v (dbTo ps ps.length) ∧ Ext w w' := by
  have HO := Lib.hid ho
  clear ho
  have HO0 := Lib.hid (Own.nil w w.heap.size : OwP w w.heap.size (.slice none 0 0) (dbTo ps 0))
  go_enter Tryz.func226, Tryz.ntmps226
  go_wp2
  go_loopw [3, 8] (fun v i wr => ∃ k : Nat, k ≤ ps.length ∧ i = .int .i64 k ∧ Hid (OwP wr w.heap.size v (dbTo ps k)) ∧ Ext w wr) (fun _ i _ => ps.length - (intOf i).toNat)
  case atStart => exact ⟨0, by omega, rfl, HO0, by (repeat (first | with_reducible exact Ext.refl _ | with_reducible assumption | ((with_reducible apply Src.ext); with_reducible assumption) | with_reducible refine Ext.alloc ?_ _ | with_reducible refine Ext.drew ?_ | with_reducible refine Ext.drewN ?_ _ | ((with_reducible refine Ext.setCell' ?_ ?_ _); solve | omega | simp | (simp; omega)) | (with_reducible refine Ext.trans ?_ (by with_reducible assumption))))⟩
  case round =>
    obtain ⟨k, hk, rfl, HV, hxr⟩ := hrel
    have hsr := hxr.size
    by_cases hlt : k < ps.length
    · obtain ⟨g, off, rfl, hgr, d0, d1⟩ := (h.ext hxr).pt (k := k) hlt
      have hnl := dbTo_len ps k
      have HN := Lib.hid hnl
      have HS := Lib.hid (dbTo_succ ps k)
      have hok := oks_at2 HO.out hlt
      have HA : Hid (dbP (atP ps k) = (2 * (ps.getD k (0, 0)).1, 2 * (ps.getD k (0, 0)).2)) := Lib.hid rfl
      generalize (ps.getD k (0, 0)).1 = xk at d0 HA hok
      generalize (ps.getD k (0, 0)).2 = zk at d1 HA hok
      obtain ⟨q1, q2, q3, q4⟩ := hok
      clear hnl
      go_wp2_with (at_builtin; refine wpList_append_sl elP len_encP one_encP rfl _ _ rfl rfl (HV.out.ext (by (repeat (first | with_reducible exact Ext.refl _ | with_reducible assumption | ((with_reducible apply Src.ext); with_reducible assumption) | with_reducible refine Ext.alloc ?_ _ | with_reducible refine Ext.drew ?_ | with_reducible refine Ext.drewN ?_ _ | ((with_reducible refine Ext.setCell' ?_ ?_ _); solve | omega | simp | (simp; omega)) | (with_reducible refine Ext.trans ?_ (by with_reducible assumption)))))) (xs := [dbP (atP ps k)]) rfl (blk_sl1 (by (repeat (first | with_reducible assumption | ((with_reducible apply Blk.new); solve | simp | rfl) | with_reducible apply Blk.drew | with_reducible apply Blk.drewN | ((with_reducible apply Blk.far'); solve | omega | simp | (simp; omega)) | with_reducible apply Blk.set_ | with_reducible apply Blk.alloc | ((with_reducible apply Blk.ext'); with_reducible assumption) | ((with_reducible apply Blk.but'); (with_reducible assumption); solve | omega | (simp; omega))))) HA.out) (by rw [HN.out]; simp; unfold maxLen; omega) (by rw [HN.out]; simp; omega) (by simp; omega) ?_)
      intro v' w5 hown hgrow _
      rw [← HS.out] at hown
      have HV2 := Lib.hid hown
      have hx5 : Ext w w5 := by
        refine Ext.grown ?_ hgrow (fun q hq => (HV.out.row q hq).1)
        (repeat (first | with_reducible exact Ext.refl _ | with_reducible assumption | ((with_reducible apply Src.ext); with_reducible assumption) | with_reducible refine Ext.alloc ?_ _ | with_reducible refine Ext.drew ?_ | with_reducible refine Ext.drewN ?_ _ | ((with_reducible refine Ext.setCell' ?_ ?_ _); solve | omega | simp | (simp; omega)) | (with_reducible refine Ext.trans ?_ (by with_reducible assumption))))
      clear hown hgrow
      go_wp2
      go_roundw
      case rel => exact ⟨k + 1, by omega, by go_num, HV2, hx5⟩
      case measure => simp [intOf]; omega
    · go_wp2
      go_ret
      obtain rfl : k = ps.length := by omega
      exact ⟨_, rfl, HV.out, hxr⟩
/-- whether the middle of an edge lies inside -/
def midB (ps : List (Int × Int)) (a b c d : Int) : Bool := decide (0 < sideZ (dbTo ps ps.length) (a + c) (b + d))
set_option maxRecDepth 20000 in
set_option maxHeartbeats 6400000 in
theorem i_isMiddleIn (A : Option Addr) (cc : Nat) (ps : List (Int × Int)) (a b c d : Int) (w : World) (h : SlAt w 2 encP A ps) (h0 : 0 < ps.length) (hl : ps.length ≤ 1000) (ho : oks ps = true) (h1 : bdP a b) (h2 : bdP c d) :
    Calls Tryz.prog 193 #[.slice A ps.length cc, .agg #[.int .i64 a, .int .i64 b, .int .i64 c, .int .i64 d]] w fun e w' => e = .returned (.bool (midB ps a b c d)) ∧ Ext w w' := by
  have HO := Lib.hid ho
  clear ho
  unfold bdP at h1 h2
  obtain ⟨q1, q2, q3, q4⟩ := h1
  obtain ⟨q5, q6, q7, q8⟩ := h2
  have hw1 : IntKind.i64.wrap (a + c) = a + c := IntWalk.i64_in _ (by omega)
  have hw2 : IntKind.i64.wrap (b + d) = b + d := IntWalk.i64_in _ (by omega)
  have hdl := dbTo_len ps ps.length
  have HD := Lib.hid hdl
  clear hdl
  go_enter Tryz.func193, Tryz.ntmps193
  go_wp2
  have B0 : Blk (w.alloc (.cells #[.int .i64 a, .int .i64 b, .int .i64 c, .int .i64 d] 195)) w.heap.size 195 #[.int .i64 a, .int .i64 b, .int .i64 c, .int .i64 d] := Blk.new rfl
  have z0 := B0.cell 0
  have z1 := B0.cell 1
  have z2 := B0.cell 2
  have z3 := B0.cell 3
  simp only [show #[Value.int .i64 a, Value.int .i64 b, Value.int .i64 c, Value.int .i64 d][0]? = some (Value.int .i64 a) from rfl, show #[Value.int .i64 a, Value.int .i64 b, Value.int .i64 c, Value.int .i64 d][1]? = some (Value.int .i64 b) from rfl, show #[Value.int .i64 a, Value.int .i64 b, Value.int .i64 c, Value.int .i64 d][2]? = some (Value.int .i64 c) from rfl, show #[Value.int .i64 a, Value.int .i64 b, Value.int .i64 c, Value.int .i64 d][3]? = some (Value.int .i64 d) from rfl] at z0 z1 z2 z3
  go_region_held3 (fun w' => w'.cell? ⟨w.heap.size, 0, none⟩ = some (.int .i64 a) ∧ w'.cell? ⟨w.heap.size, 1, none⟩ = some (.int .i64 b) ∧ w'.cell? ⟨w.heap.size, 2, none⟩ = some (.int .i64 c) ∧ w'.cell? ⟨w.heap.size, 3, none⟩ = some (.int .i64 d)) (go_keep) (first | (go_at_call 226; refine (i_doubled _ _ ps _ (h.ext (by (repeat (first | with_reducible exact Ext.refl _ | with_reducible assumption | ((with_reducible apply Src.ext); with_reducible assumption) | with_reducible refine Ext.alloc ?_ _ | with_reducible refine Ext.drew ?_ | with_reducible refine Ext.drewN ?_ _ | ((with_reducible refine Ext.setCell' ?_ ?_ _); solve | omega | simp | (simp; omega)) | (with_reducible refine Ext.trans ?_ (by with_reducible assumption)))))) hl HO.out).mono ?_; rintro e w7 ⟨v7, rfl, hO7, hx7⟩; obtain ⟨A7, c7, rfl, hS7, _, _, _⟩ := hO7.sl len_encP; obtain ⟨hc7, hf7⟩ := hx7.rules; have hs7 := hx7.size; (try simp at hs7); have := (show w.heap.size < w7.heap.size from by omega)) | (go_at_call 114; refine (i_side _ _ (dbTo ps ps.length) _ _ _ (hS7.ext (by (repeat (first | with_reducible exact Ext.refl _ | with_reducible assumption | ((with_reducible apply Src.ext); with_reducible assumption) | with_reducible refine Ext.alloc ?_ _ | with_reducible refine Ext.drew ?_ | with_reducible refine Ext.drewN ?_ _ | ((with_reducible refine Ext.setCell' ?_ ?_ _); solve | omega | simp | (simp; omega)) | (with_reducible refine Ext.trans ?_ (by with_reducible assumption)))))) (by rw [HD.out]; exact h0) (by rw [HD.out]; exact hl)).mono ?_; rintro e w8 ⟨rfl, hx8⟩; obtain ⟨hc8, hf8⟩ := hx8.rules; have hs8 := hx8.size; (try simp at hs8); have := (show w.heap.size < w8.heap.size from by omega)))
  all_goals go_wp2
  all_goals go_ret
  all_goals exact ⟨rfl, by (repeat (first | with_reducible exact Ext.refl _ | with_reducible assumption | ((with_reducible apply Src.ext); with_reducible assumption) | with_reducible refine Ext.alloc ?_ _ | with_reducible refine Ext.drew ?_ | with_reducible refine Ext.drewN ?_ _ | ((with_reducible refine Ext.setCell' ?_ ?_ _); solve | omega | simp | (simp; omega)) | (with_reducible refine Ext.trans ?_ (by with_reducible assumption))))⟩

end Go.Proofs.YtdbheipjbjcikaaGreatDoor
