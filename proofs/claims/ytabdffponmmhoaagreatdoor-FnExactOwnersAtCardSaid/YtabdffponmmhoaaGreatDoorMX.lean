/- Contracts of the maps: edges that fit, walked over the translation. Contracts of the maps: what edges have in common, walked over the translation. Contracts of the maps: edges that fit, walked over the translation. Contracts of the maps: rings that fit together, walked over the translation. -/
import Derived.Test.YtabdffponmmhoaaGreatDoorEG
import Derived.Deep.RegionHeld3
import Derived.Deep.DeepCutAuto
import Derived.RegionTactic
import Derived.BigRegion
import Derived.WalkLawsBesides
import Derived.WalkSpells
import Derived.Lib.MinMax
import Derived.Outline
namespace Go.Proofs.YtabdffponmmhoaaGreatDoor
open Go.RowKit
attribute [local go_sem] ExtOf.cell ExtOf.frozen

/-- two edges are one -/
def eqEd (a b c d p q r s : Int) : Bool := eqP a b p q && eqP c d r s
@[go_sem high] theorem eql_ed (a b c d p q r s : Int) (w : World) : (binOp .eql 151 (.agg #[.int .i64 a, .int .i64 b, .int .i64 c, .int .i64 d]) (.agg #[.int .i64 p, .int .i64 q, .int .i64 r, .int .i64 s])).run Tryz.prog w = .ok (.bool (eqEd a b c d p q r s)) w := by
  have hS : Tryz.prog.underlying 151 = some (.struct (Tryz.prog.fieldsOf 151)) := by kernel_rfl
  have hp : Tryz.prog.stoodInHeld 151 = false := by kernel_rfl
  have hS' : Tryz.prog.underlying 35 = some (.struct (Tryz.prog.fieldsOf 35)) := by kernel_rfl
  have hp' : Tryz.prog.stoodInHeld 35 = false := by kernel_rfl
  have a3 := Tryz.isAgg2
  have z3 := Tryz.sizeOf2
  have a4 := Tryz.isAgg35
  have z4 := Tryz.sizeOf35
  rw [run_eql_struct, show (10000 : Nat) = 9999 + 1 from rfl, run_equalIn_agg w 9999 151 _ _ hS hp]
  simp only [Program.fieldsOf, Tryz.underlying151]
  have hpt : ∀ (n : Nat) (x z u v : Int) (w : World), (Op.equalIn (n + 1 + 1) 35 (.agg #[.int .i64 x, .int .i64 z]) (.agg #[.int .i64 u, .int .i64 v])).run Tryz.prog w = .ok (eqP x z u v) w := fun n x z u v w => by
    rw [run_equalIn_agg w (n + 1) 35 _ _ hS' hp']
    simp only [Program.fieldsOf, Tryz.underlying35]
    go_simp
    by_cases h1 : x = u <;> by_cases h2 : z = v <;> simp [h1, h2, eqP]
  have h1 := hpt 9997
  go_simp
  cases h1 : eqP a b p q <;> cases h2 : eqP c d r s <;> simp [eqEd, h1, h2]

@[go_sem high] theorem guard_ed (op : BinOp) (x y : Operand) (xs ys : Array Value) (w : World) : (eqGuard op 151 x y (.agg xs) (.agg ys)).run Tryz.prog w = .ok () w :=
  run_eqGuard_agg w op _ x y xs ys (by kernel_rfl)
theorem i_back (a b c d : Int) (w : World) : Calls Tryz.prog 170 #[.agg #[.int .i64 a, .int .i64 b, .int .i64 c, .int .i64 d]] w fun e w' => e = .returned (.agg #[.int .i64 c, .int .i64 d, .int .i64 a, .int .i64 b]) ∧ Ext w w' := by
  go_enter Tryz.func170, Tryz.ntmps170
  go_wp2
  refine bodyPost_ret (v := .agg #[.int .i64 c, .int .i64 d, .int .i64 a, .int .i64 b]) (by simp [results, Tryz.results170, go_sem]) rfl ⟨rfl, ?_⟩
  (repeat (first | with_reducible exact Ext.refl _ | with_reducible assumption | ((with_reducible apply Src.ext); with_reducible assumption) | with_reducible refine Ext.alloc ?_ _ | with_reducible refine Ext.drew ?_ | with_reducible refine Ext.drewN ?_ _ | ((with_reducible refine Ext.setCell' ?_ ?_ _); solve | omega | simp | (simp; omega)) | (with_reducible refine Ext.trans ?_ (by with_reducible assumption))))

/-- the double of a list of points -/
def dbP (p : Int × Int) : Int × Int := (2 * p.1, 2 * p.2)
theorem oks_at2 {ps : List (Int × Int)} (h : oks ps = true) {k : Nat} (hk : k < ps.length) : bdP (ps.getD k (0, 0)).1 (ps.getD k (0, 0)).2 := by
  have := bd_at h (k : Int)
  rwa [ptx_lt hk, ptz_lt hk] at this
def dbTo (ps : List (Int × Int)) (k : Nat) : List (Int × Int) := (List.range k).map fun i => dbP (atP ps i)
theorem dbTo_succ (ps : List (Int × Int)) (k : Nat) : dbTo ps (k + 1) = dbTo ps k ++ [dbP (atP ps k)] := by unfold dbTo; rw [List.range_succ, List.map_append]; rfl
theorem dbTo_len (ps : List (Int × Int)) (k : Nat) : (dbTo ps k).length = k := by simp [dbTo]
set_option maxHeartbeats 3200000 in
theorem i_doubled (A : Option Addr) (c : Nat) (ps : List (Int × Int)) (w : World) (h : SlAt w 2 encP A ps) (hl : ps.length ≤ 1000) (ho : oks ps = true) :
    Calls Tryz.prog 169 #[.slice A ps.length c] w fun e w' => ∃ v, e = .returned v ∧ OwP w' w.heap.size v (dbTo ps ps.length) ∧ Ext w w' := by
  have HO := Lib.hid ho
  clear ho
  have HO0 := Lib.hid (Own.nil w w.heap.size : OwP w w.heap.size (.slice none 0 0) (dbTo ps 0))
  go_enter Tryz.func169, Tryz.ntmps169
  go_wp2
  go_loopw [3, 8] (fun v i wr => ∃ k : Nat, k ≤ ps.length ∧ i = .int .i64 k ∧ Hid (OwP wr w.heap.size v (dbTo ps k)) ∧ Ext w wr) (fun _ i _ => ps.length - (intOf i).toNat)
  case atStart => exact ⟨0, by omega, rfl, HO0, by (repeat (first | with_reducible exact Ext.refl _ | with_reducible assumption | ((with_reducible apply Src.ext); with_reducible assumption) | with_reducible refine Ext.alloc ?_ _ | with_reducible refine Ext.drew ?_ | with_reducible refine Ext.drewN ?_ _ | ((with_reducible refine Ext.setCell' ?_ ?_ _); solve | omega | simp | (simp; omega)) | (with_reducible refine Ext.trans ?_ (by with_reducible assumption))))⟩
  case round =>
    obtain ⟨k, hk, rfl, HV, hxr⟩ := hrel
    have hsr := hxr.size
    by_cases hlt : k < ps.length
    · obtain ⟨g, off, rfl, hgr, d0, d1⟩ := (h.ext hxr).pt (k := k) hlt
      have hnl := dbTo_len ps k
      have HN := Lib.hid hnl
      have HS := Lib.hid (dbTo_succ ps k)
      have hok := oks_at2 HO.out hlt
      have HA : Hid (dbP (atP ps k) = (2 * (ps.getD k (0, 0)).1, 2 * (ps.getD k (0, 0)).2)) := Lib.hid rfl
      generalize (ps.getD k (0, 0)).1 = xk at d0 HA hok
      generalize (ps.getD k (0, 0)).2 = zk at d1 HA hok
      obtain ⟨q1, q2, q3, q4⟩ := hok
      clear hnl
      go_wp2_with (at_builtin; refine wpList_append_sl elP len_encP one_encP rfl _ _ rfl rfl (HV.out.ext (by (repeat (first | with_reducible exact Ext.refl _ | with_reducible assumption | ((with_reducible apply Src.ext); with_reducible assumption) | with_reducible refine Ext.alloc ?_ _ | with_reducible refine Ext.drew ?_ | with_reducible refine Ext.drewN ?_ _ | ((with_reducible refine Ext.setCell' ?_ ?_ _); solve | omega | simp | (simp; omega)) | (with_reducible refine Ext.trans ?_ (by with_reducible assumption)))))) (xs := [dbP (atP ps k)]) rfl (blk_sl1 (by (repeat (first | with_reducible assumption | ((with_reducible apply Blk.new); solve | simp | rfl) | with_reducible apply Blk.drew | with_reducible apply Blk.drewN | ((with_reducible apply Blk.far'); solve | omega | simp | (simp; omega)) | with_reducible apply Blk.set_ | with_reducible apply Blk.alloc | ((with_reducible apply Blk.ext'); with_reducible assumption) | ((with_reducible apply Blk.but'); (with_reducible assumption); solve | omega | (simp; omega))))) HA.out) (by rw [HN.out]; simp; unfold maxLen; omega) (by rw [HN.out]; simp; omega) (by simp; omega) ?_)
      intro v' w5 hown hgrow _
      rw [← HS.out] at hown
      have HV2 := Lib.hid hown
      have hx5 : Ext w w5 := by
        refine Ext.grown ?_ hgrow (fun q hq => (HV.out.row q hq).1)
        (repeat (first | with_reducible exact Ext.refl _ | with_reducible assumption | ((with_reducible apply Src.ext); with_reducible assumption) | with_reducible refine Ext.alloc ?_ _ | with_reducible refine Ext.drew ?_ | with_reducible refine Ext.drewN ?_ _ | ((with_reducible refine Ext.setCell' ?_ ?_ _); solve | omega | simp | (simp; omega)) | (with_reducible refine Ext.trans ?_ (by with_reducible assumption))))
      clear hown hgrow
      go_wp2
      go_roundw
      case rel => exact ⟨k + 1, by omega, by go_num, HV2, hx5⟩
      case measure => simp [intOf]; omega
    · go_wp2
      go_ret
      obtain rfl : k = ps.length := by omega
      exact ⟨_, rfl, HV.out, hxr⟩
/-- whether the middle of an edge lies inside -/
def midB (ps : List (Int × Int)) (a b c d : Int) : Bool := decide (0 < sideZ (dbTo ps ps.length) (a + c) (b + d))
set_option maxRecDepth 20000 in
set_option maxHeartbeats 6400000 in
theorem i_isMiddleIn (A : Option Addr) (cc : Nat) (ps : List (Int × Int)) (a b c d : Int) (w : World) (h : SlAt w 2 encP A ps) (h0 : 0 < ps.length) (hl : ps.length ≤ 1000) (ho : oks ps = true) (h1 : bdP a b) (h2 : bdP c d) :
    Calls Tryz.prog 133 #[.slice A ps.length cc, .agg #[.int .i64 a, .int .i64 b, .int .i64 c, .int .i64 d]] w fun e w' => e = .returned (.bool (midB ps a b c d)) ∧ Ext w w' := by
  have HO := Lib.hid ho
  clear ho
  unfold bdP at h1 h2
  obtain ⟨q1, q2, q3, q4⟩ := h1
  obtain ⟨q5, q6, q7, q8⟩ := h2
  have hw1 : IntKind.i64.wrap (a + c) = a + c := IntWalk.i64_in _ (by omega)
  have hw2 : IntKind.i64.wrap (b + d) = b + d := IntWalk.i64_in _ (by omega)
  have hdl := dbTo_len ps ps.length
  have HD := Lib.hid hdl
  clear hdl
  go_enter Tryz.func133, Tryz.ntmps133
  go_wp2
  have B0 : Blk (w.alloc (.cells #[.int .i64 a, .int .i64 b, .int .i64 c, .int .i64 d] 151)) w.heap.size 151 #[.int .i64 a, .int .i64 b, .int .i64 c, .int .i64 d] := Blk.new rfl
  have z0 := B0.cell 0
  have z1 := B0.cell 1
  have z2 := B0.cell 2
  have z3 := B0.cell 3
  simp only [show #[Value.int .i64 a, Value.int .i64 b, Value.int .i64 c, Value.int .i64 d][0]? = some (Value.int .i64 a) from rfl, show #[Value.int .i64 a, Value.int .i64 b, Value.int .i64 c, Value.int .i64 d][1]? = some (Value.int .i64 b) from rfl, show #[Value.int .i64 a, Value.int .i64 b, Value.int .i64 c, Value.int .i64 d][2]? = some (Value.int .i64 c) from rfl, show #[Value.int .i64 a, Value.int .i64 b, Value.int .i64 c, Value.int .i64 d][3]? = some (Value.int .i64 d) from rfl] at z0 z1 z2 z3
  go_region_held3 (fun w' => w'.cell? ⟨w.heap.size, 0, none⟩ = some (.int .i64 a) ∧ w'.cell? ⟨w.heap.size, 1, none⟩ = some (.int .i64 b) ∧ w'.cell? ⟨w.heap.size, 2, none⟩ = some (.int .i64 c) ∧ w'.cell? ⟨w.heap.size, 3, none⟩ = some (.int .i64 d)) (go_keep) (first | (go_at_call 169; refine (i_doubled _ _ ps _ (h.ext (by (repeat (first | with_reducible exact Ext.refl _ | with_reducible assumption | ((with_reducible apply Src.ext); with_reducible assumption) | with_reducible refine Ext.alloc ?_ _ | with_reducible refine Ext.drew ?_ | with_reducible refine Ext.drewN ?_ _ | ((with_reducible refine Ext.setCell' ?_ ?_ _); solve | omega | simp | (simp; omega)) | (with_reducible refine Ext.trans ?_ (by with_reducible assumption)))))) hl HO.out).mono ?_; rintro e w7 ⟨v7, rfl, hO7, hx7⟩; obtain ⟨A7, c7, rfl, hS7, _, _, _⟩ := hO7.sl len_encP; obtain ⟨hc7, hf7⟩ := hx7.rules; have hs7 := hx7.size; (try simp at hs7); have := (show w.heap.size < w7.heap.size from by omega)) | (go_at_call 38; refine (i_side _ _ (dbTo ps ps.length) _ _ _ (hS7.ext (by (repeat (first | with_reducible exact Ext.refl _ | with_reducible assumption | ((with_reducible apply Src.ext); with_reducible assumption) | with_reducible refine Ext.alloc ?_ _ | with_reducible refine Ext.drew ?_ | with_reducible refine Ext.drewN ?_ _ | ((with_reducible refine Ext.setCell' ?_ ?_ _); solve | omega | simp | (simp; omega)) | (with_reducible refine Ext.trans ?_ (by with_reducible assumption)))))) (by rw [HD.out]; exact h0) (by rw [HD.out]; exact hl)).mono ?_; rintro e w8 ⟨rfl, hx8⟩; obtain ⟨hc8, hf8⟩ := hx8.rules; have hs8 := hx8.size; (try simp at hs8); have := (show w.heap.size < w8.heap.size from by omega)))
  all_goals go_wp2
  all_goals go_ret
  all_goals exact ⟨rfl, by (repeat (first | with_reducible exact Ext.refl _ | with_reducible assumption | ((with_reducible apply Src.ext); with_reducible assumption) | with_reducible refine Ext.alloc ?_ _ | with_reducible refine Ext.drew ?_ | with_reducible refine Ext.drewN ?_ _ | ((with_reducible refine Ext.setCell' ?_ ?_ _); solve | omega | simp | (simp; omega)) | (with_reducible refine Ext.trans ?_ (by with_reducible assumption))))⟩

end Go.Proofs.YtabdffponmmhoaaGreatDoor
namespace Go.Proofs.YtabdffponmmhoaaGreatDoor
open Go.RowKit
attribute [local go_sem] ExtOf.cell ExtOf.frozen

/-- a return of three structs of two cells, each in a block of its own, and one value more -/
theorem ret_blk3 {P : Program} {fn : Func} {R : Ending → World → Prop} {a : Act} {W : World} {b0 b1 b2 : Nat} {t : TypeId} {x0 x1 y0 y1 z0 z1 v : Value} (h0 : Blk W b0 t #[x0, x1]) (h1 : Blk W b1 t #[y0, y1]) (h2 : Blk W b2 t #[z0, z1]) (hd : a.defers = [])
    (hres : ∀ W' : World, W'.cell? ⟨b0, 0, none⟩ = some x0 → W'.cell? ⟨b0, 1, none⟩ = some x1 → W'.cell? ⟨b1, 0, none⟩ = some y0 → W'.cell? ⟨b1, 1, none⟩ = some y1 → W'.cell? ⟨b2, 0, none⟩ = some z0 → W'.cell? ⟨b2, 1, none⟩ = some z1 → (results fn a.tmps).run P W' = .ok v W') (hR : R (.returned v) W) : bodyPost P fn R .ret a W :=
  bodyPost_ret (hres W (h0.cell 0) (h0.cell 1) (h1.cell 0) (h1.cell 1) (h2.cell 0) (h2.cell 1)) hd hR
/-- the end that two edges have in common, and the other end of each -/
def jointV (a b c d p q r s : Int) : (Int × Int) × (Int × Int) × (Int × Int) × Bool :=
  if eqP a b p q = true then ((a, b), (c, d), (r, s), true) else if eqP a b r s = true then ((a, b), (c, d), (p, q), true) else
  if eqP c d p q = true then ((c, d), (a, b), (r, s), true) else if eqP c d r s = true then ((c, d), (a, b), (p, q), true) else ((0, 0), (0, 0), (0, 0), false)
def jointR (x : (Int × Int) × (Int × Int) × (Int × Int) × Bool) : Value := .tuple #[.agg #[.int .i64 x.1.1, .int .i64 x.1.2], .agg #[.int .i64 x.2.1.1, .int .i64 x.2.1.2], .agg #[.int .i64 x.2.2.1.1, .int .i64 x.2.2.1.2], .bool x.2.2.2]
def JO (a b c d p q r s : Int) (k : Int) : Prop := (1 ≤ k → eqP a b p q = false ∧ eqP a b r s = false) ∧ (2 ≤ k → eqP c d p q = false ∧ eqP c d r s = false)
def JI (x z p q r s : Int) (m : Int) : Prop := (1 ≤ m → eqP x z p q = false) ∧ (2 ≤ m → eqP x z r s = false)

theorem ix_ed0 (x0 x1 x2 x3 x4 x5 x6 x7 : Value) (w : World) : (Instr.index 217 (.agg #[x0, x1, x2, x3, x4, x5, x6, x7]) (.int .i64 0)).run Tryz.prog w = .ok (.agg #[x0, x1, x2, x3]) w := by
  have hu : Tryz.prog.underlying 217 = some (.array 2 151) := by kernel_rfl
  have z := Tryz.sizeOf151
  have a := Tryz.isAgg151
  simp [Instr.index, run_underlying hu, asIntOf, part, go_sem, z, a]
theorem ix_ed1 (x0 x1 x2 x3 x4 x5 x6 x7 : Value) (w : World) : (Instr.index 217 (.agg #[x0, x1, x2, x3, x4, x5, x6, x7]) (.int .i64 1)).run Tryz.prog w = .ok (.agg #[x4, x5, x6, x7]) w := by
  have hu : Tryz.prog.underlying 217 = some (.array 2 151) := by kernel_rfl
  have z := Tryz.sizeOf151
  have a := Tryz.isAgg151
  simp [Instr.index, run_underlying hu, asIntOf, part, go_sem, z, a]
set_option maxRecDepth 20000 in
set_option maxHeartbeats 12800000 in
theorem i_joint (a b c d p q r s : Int) (w : World) : Calls Tryz.prog 171 #[.agg #[.int .i64 a, .int .i64 b, .int .i64 c, .int .i64 d], .agg #[.int .i64 p, .int .i64 q, .int .i64 r, .int .i64 s]] w fun e w' => e = .returned (jointR (jointV a b c d p q r s)) ∧ Ext w w' := by
  have ix0 := ix_ed0
  have ix1 := ix_ed1
  go_enter Tryz.func171, Tryz.ntmps171
  go_wp2
  (refine wp_region_ext (by kernel_rfl) (by kernel_rfl) ?_; (repeat (go_big_quiet_step ((go_at_call 170; exact Calls_ext (i_back _ _ _ _ _))))); refine wpQuiet_nil ?_; intro wq hxwq; obtain ⟨hcwq, hfwq⟩ := hxwq.rules; have hswq := hxwq.size; (try simp at hswq))
  have b0 : Blk wq w.heap.size 151 #[.int .i64 a, .int .i64 b, .int .i64 c, .int .i64 d] := by (repeat (first | with_reducible assumption | ((with_reducible apply Blk.new); solve | simp | rfl) | with_reducible apply Blk.drew | with_reducible apply Blk.drewN | ((with_reducible apply Blk.far'); solve | omega | simp | (simp; omega)) | with_reducible apply Blk.set_ | with_reducible apply Blk.alloc | ((with_reducible apply Blk.ext'); with_reducible assumption) | ((with_reducible apply Blk.but'); (with_reducible assumption); solve | omega | (simp; omega))))
  have b1 : Blk wq (w.heap.size + 1) 151 #[.int .i64 p, .int .i64 q, .int .i64 r, .int .i64 s] := by (repeat (first | with_reducible assumption | ((with_reducible apply Blk.new); solve | simp | rfl) | with_reducible apply Blk.drew | with_reducible apply Blk.drewN | ((with_reducible apply Blk.far'); solve | omega | simp | (simp; omega)) | with_reducible apply Blk.set_ | with_reducible apply Blk.alloc | ((with_reducible apply Blk.ext'); with_reducible assumption) | ((with_reducible apply Blk.but'); (with_reducible assumption); solve | omega | (simp; omega))))
  have b2 : Blk wq (w.heap.size + 1 + 1) 35 #[.int .i64 0, .int .i64 0] := by (repeat (first | with_reducible assumption | ((with_reducible apply Blk.new); solve | simp | rfl) | with_reducible apply Blk.drew | with_reducible apply Blk.drewN | ((with_reducible apply Blk.far'); solve | omega | simp | (simp; omega)) | with_reducible apply Blk.set_ | with_reducible apply Blk.alloc | ((with_reducible apply Blk.ext'); with_reducible assumption) | ((with_reducible apply Blk.but'); (with_reducible assumption); solve | omega | (simp; omega))))
  have b3 : Blk wq (w.heap.size + 1 + 1 + 1) 35 #[.int .i64 0, .int .i64 0] := by (repeat (first | with_reducible assumption | ((with_reducible apply Blk.new); solve | simp | rfl) | with_reducible apply Blk.drew | with_reducible apply Blk.drewN | ((with_reducible apply Blk.far'); solve | omega | simp | (simp; omega)) | with_reducible apply Blk.set_ | with_reducible apply Blk.alloc | ((with_reducible apply Blk.ext'); with_reducible assumption) | ((with_reducible apply Blk.but'); (with_reducible assumption); solve | omega | (simp; omega))))
  have b4 : Blk wq (w.heap.size + 1 + 1 + 1 + 1) 35 #[.int .i64 0, .int .i64 0] := by (repeat (first | with_reducible assumption | ((with_reducible apply Blk.new); solve | simp | rfl) | with_reducible apply Blk.drew | with_reducible apply Blk.drewN | ((with_reducible apply Blk.far'); solve | omega | simp | (simp; omega)) | with_reducible apply Blk.set_ | with_reducible apply Blk.alloc | ((with_reducible apply Blk.ext'); with_reducible assumption) | ((with_reducible apply Blk.but'); (with_reducible assumption); solve | omega | (simp; omega))))
  have hwq : Ext w wq := by (repeat (first | with_reducible exact Ext.refl _ | with_reducible assumption | ((with_reducible apply Src.ext); with_reducible assumption) | with_reducible refine Ext.alloc ?_ _ | with_reducible refine Ext.drew ?_ | with_reducible refine Ext.drewN ?_ _ | ((with_reducible refine Ext.setCell' ?_ ?_ _); solve | omega | simp | (simp; omega)) | (with_reducible refine Ext.trans ?_ (by with_reducible assumption))))
  clear hcwq hfwq hswq hxwq
  go_wp2
  go_loopw [16] (fun i wr => ∃ k : Int, (k = 0 ∨ k = 1 ∨ k = 2) ∧ i = .int .i64 k ∧ Hid (JO a b c d p q r s k) ∧ Blk wr w.heap.size 151 #[.int .i64 a, .int .i64 b, .int .i64 c, .int .i64 d] ∧ Blk wr (w.heap.size + 1) 151 #[.int .i64 p, .int .i64 q, .int .i64 r, .int .i64 s] ∧ Blk wr (w.heap.size + 1 + 1) 35 #[.int .i64 0, .int .i64 0] ∧ Blk wr (w.heap.size + 1 + 1 + 1) 35 #[.int .i64 0, .int .i64 0] ∧ Blk wr (w.heap.size + 1 + 1 + 1 + 1) 35 #[.int .i64 0, .int .i64 0] ∧ Ext w wr) (fun i _ => 2 - (intOf i).toNat)
  case atStart => exact ⟨0, .inl rfl, rfl, ⟨fun h => absurd h (by omega), fun h => absurd h (by omega)⟩, by (repeat (first | with_reducible assumption | ((with_reducible apply Blk.new); solve | simp | rfl) | with_reducible apply Blk.drew | with_reducible apply Blk.drewN | ((with_reducible apply Blk.far'); solve | omega | simp | (simp; omega)) | with_reducible apply Blk.set_ | with_reducible apply Blk.alloc | ((with_reducible apply Blk.ext'); with_reducible assumption) | ((with_reducible apply Blk.but'); (with_reducible assumption); solve | omega | (simp; omega)))), by (repeat (first | with_reducible assumption | ((with_reducible apply Blk.new); solve | simp | rfl) | with_reducible apply Blk.drew | with_reducible apply Blk.drewN | ((with_reducible apply Blk.far'); solve | omega | simp | (simp; omega)) | with_reducible apply Blk.set_ | with_reducible apply Blk.alloc | ((with_reducible apply Blk.ext'); with_reducible assumption) | ((with_reducible apply Blk.but'); (with_reducible assumption); solve | omega | (simp; omega)))), by (repeat (first | with_reducible assumption | ((with_reducible apply Blk.new); solve | simp | rfl) | with_reducible apply Blk.drew | with_reducible apply Blk.drewN | ((with_reducible apply Blk.far'); solve | omega | simp | (simp; omega)) | with_reducible apply Blk.set_ | with_reducible apply Blk.alloc | ((with_reducible apply Blk.ext'); with_reducible assumption) | ((with_reducible apply Blk.but'); (with_reducible assumption); solve | omega | (simp; omega)))), by (repeat (first | with_reducible assumption | ((with_reducible apply Blk.new); solve | simp | rfl) | with_reducible apply Blk.drew | with_reducible apply Blk.drewN | ((with_reducible apply Blk.far'); solve | omega | simp | (simp; omega)) | with_reducible apply Blk.set_ | with_reducible apply Blk.alloc | ((with_reducible apply Blk.ext'); with_reducible assumption) | ((with_reducible apply Blk.but'); (with_reducible assumption); solve | omega | (simp; omega)))), by (repeat (first | with_reducible assumption | ((with_reducible apply Blk.new); solve | simp | rfl) | with_reducible apply Blk.drew | with_reducible apply Blk.drewN | ((with_reducible apply Blk.far'); solve | omega | simp | (simp; omega)) | with_reducible apply Blk.set_ | with_reducible apply Blk.alloc | ((with_reducible apply Blk.ext'); with_reducible assumption) | ((with_reducible apply Blk.but'); (with_reducible assumption); solve | omega | (simp; omega)))), by (repeat (first | with_reducible exact Ext.refl _ | with_reducible assumption | ((with_reducible apply Src.ext); with_reducible assumption) | with_reducible refine Ext.alloc ?_ _ | with_reducible refine Ext.drew ?_ | with_reducible refine Ext.drewN ?_ _ | ((with_reducible refine Ext.setCell' ?_ ?_ _); solve | omega | simp | (simp; omega)) | (with_reducible refine Ext.trans ?_ (by with_reducible assumption))))⟩
  case round =>
    obtain ⟨k, hk, rfl, HJ, r0, r1, r2, r3, r4, hxr⟩ := hrel
    have q0 : wr.cell? ⟨w.heap.size + 1, 0, none⟩ = some (.int .i64 p) := r1.cell 0
    have q1 : wr.cell? ⟨w.heap.size + 1, 1, none⟩ = some (.int .i64 q) := r1.cell 1
    have q2 : wr.cell? ⟨w.heap.size + 1, 2, none⟩ = some (.int .i64 r) := r1.cell 2
    have q3 : wr.cell? ⟨w.heap.size + 1, 3, none⟩ = some (.int .i64 s) := r1.cell 3
    have l0 := r0.lt
    have l1 := r1.lt
    have l4 := r4.lt
    rcases hk with rfl | rfl | rfl
    · go_wp2
      (refine wp_region_ext (by kernel_rfl) (by kernel_rfl) ?_; (repeat (go_big_quiet_step ((go_at_call 170; exact Calls_ext (i_back _ _ _ _ _))))); refine wpQuiet_nil ?_; intro wp hxwp; obtain ⟨hcwp, hfwp⟩ := hxwp.rules; have hswp := hxwp.size; (try simp at hswp))
      have s0 : Blk wp w.heap.size 151 #[.int .i64 a, .int .i64 b, .int .i64 c, .int .i64 d] := by (repeat (first | with_reducible assumption | ((with_reducible apply Blk.new); solve | simp | rfl) | with_reducible apply Blk.drew | with_reducible apply Blk.drewN | ((with_reducible apply Blk.far'); solve | omega | simp | (simp; omega)) | with_reducible apply Blk.set_ | with_reducible apply Blk.alloc | ((with_reducible apply Blk.ext'); with_reducible assumption) | ((with_reducible apply Blk.but'); (with_reducible assumption); solve | omega | (simp; omega))))
      have s1 : Blk wp (w.heap.size + 1) 151 #[.int .i64 p, .int .i64 q, .int .i64 r, .int .i64 s] := by (repeat (first | with_reducible assumption | ((with_reducible apply Blk.new); solve | simp | rfl) | with_reducible apply Blk.drew | with_reducible apply Blk.drewN | ((with_reducible apply Blk.far'); solve | omega | simp | (simp; omega)) | with_reducible apply Blk.set_ | with_reducible apply Blk.alloc | ((with_reducible apply Blk.ext'); with_reducible assumption) | ((with_reducible apply Blk.but'); (with_reducible assumption); solve | omega | (simp; omega))))
      have s2 : Blk wp (w.heap.size + 1 + 1) 35 #[.int .i64 0, .int .i64 0] := by (repeat (first | with_reducible assumption | ((with_reducible apply Blk.new); solve | simp | rfl) | with_reducible apply Blk.drew | with_reducible apply Blk.drewN | ((with_reducible apply Blk.far'); solve | omega | simp | (simp; omega)) | with_reducible apply Blk.set_ | with_reducible apply Blk.alloc | ((with_reducible apply Blk.ext'); with_reducible assumption) | ((with_reducible apply Blk.but'); (with_reducible assumption); solve | omega | (simp; omega))))
      have s3 : Blk wp (w.heap.size + 1 + 1 + 1) 35 #[.int .i64 0, .int .i64 0] := by (repeat (first | with_reducible assumption | ((with_reducible apply Blk.new); solve | simp | rfl) | with_reducible apply Blk.drew | with_reducible apply Blk.drewN | ((with_reducible apply Blk.far'); solve | omega | simp | (simp; omega)) | with_reducible apply Blk.set_ | with_reducible apply Blk.alloc | ((with_reducible apply Blk.ext'); with_reducible assumption) | ((with_reducible apply Blk.but'); (with_reducible assumption); solve | omega | (simp; omega))))
      have s4 : Blk wp (w.heap.size + 1 + 1 + 1 + 1) 35 #[.int .i64 0, .int .i64 0] := by (repeat (first | with_reducible assumption | ((with_reducible apply Blk.new); solve | simp | rfl) | with_reducible apply Blk.drew | with_reducible apply Blk.drewN | ((with_reducible apply Blk.far'); solve | omega | simp | (simp; omega)) | with_reducible apply Blk.set_ | with_reducible apply Blk.alloc | ((with_reducible apply Blk.ext'); with_reducible assumption) | ((with_reducible apply Blk.but'); (with_reducible assumption); solve | omega | (simp; omega))))
      have s9 : Blk wp wr.heap.size 151 #[.int .i64 a, .int .i64 b, .int .i64 c, .int .i64 d] := by (repeat (first | with_reducible assumption | ((with_reducible apply Blk.new); solve | simp | rfl) | with_reducible apply Blk.drew | with_reducible apply Blk.drewN | ((with_reducible apply Blk.far'); solve | omega | simp | (simp; omega)) | with_reducible apply Blk.set_ | with_reducible apply Blk.alloc | ((with_reducible apply Blk.ext'); with_reducible assumption) | ((with_reducible apply Blk.but'); (with_reducible assumption); solve | omega | (simp; omega))))
      have hwp : Ext w wp := by (repeat (first | with_reducible exact Ext.refl _ | with_reducible assumption | ((with_reducible apply Src.ext); with_reducible assumption) | with_reducible refine Ext.alloc ?_ _ | with_reducible refine Ext.drew ?_ | with_reducible refine Ext.drewN ?_ _ | ((with_reducible refine Ext.setCell' ?_ ?_ _); solve | omega | simp | (simp; omega)) | (with_reducible refine Ext.trans ?_ (by with_reducible assumption))))
      clear hcwp hfwp hswp hxwp
      go_wp2
      generalize wr.heap.size = nb at s9 l0 l1 l4 ⊢
      go_loopw [23] (fun i wi => ∃ m : Int, (m = 0 ∨ m = 1 ∨ m = 2) ∧ i = .int .i64 m ∧ Hid (JI a b p q r s m) ∧ Blk wi w.heap.size 151 #[.int .i64 a, .int .i64 b, .int .i64 c, .int .i64 d] ∧ Blk wi (w.heap.size + 1) 151 #[.int .i64 p, .int .i64 q, .int .i64 r, .int .i64 s] ∧ Blk wi (w.heap.size + 1 + 1) 35 #[.int .i64 0, .int .i64 0] ∧ Blk wi (w.heap.size + 1 + 1 + 1) 35 #[.int .i64 0, .int .i64 0] ∧ Blk wi (w.heap.size + 1 + 1 + 1 + 1) 35 #[.int .i64 0, .int .i64 0] ∧ Blk wi nb 151 #[.int .i64 a, .int .i64 b, .int .i64 c, .int .i64 d] ∧ Ext w wi) (fun i _ => 2 - (intOf i).toNat)
      case atStart => exact ⟨0, .inl rfl, rfl, ⟨fun h => absurd h (by omega), fun h => absurd h (by omega)⟩, s0, s1, s2, s3, s4, s9, hwp⟩
      case round =>
        obtain ⟨m, hm, rfl, HI, n0, n1, n2, n3, n4, n9, hxi⟩ := hrel
        have x0 : wr.cell? ⟨nb, 0, none⟩ = some (.int .i64 a) := n9.cell 0
        have x1 : wr.cell? ⟨nb, 1, none⟩ = some (.int .i64 b) := n9.cell 1
        have x2 : wr.cell? ⟨nb, 2, none⟩ = some (.int .i64 c) := n9.cell 2
        have x3 : wr.cell? ⟨nb, 3, none⟩ = some (.int .i64 d) := n9.cell 3
        have zn20 : wr.cell? ⟨w.heap.size + 1 + 1, 0, none⟩ = some (.int .i64 0) := n2.cell 0
        have fn20 := n2.frozen 0
        have zn21 : wr.cell? ⟨w.heap.size + 1 + 1, 1, none⟩ = some (.int .i64 0) := n2.cell 1
        have fn21 := n2.frozen 1
        have zn30 : wr.cell? ⟨w.heap.size + 1 + 1 + 1, 0, none⟩ = some (.int .i64 0) := n3.cell 0
        have fn30 := n3.frozen 0
        have zn31 : wr.cell? ⟨w.heap.size + 1 + 1 + 1, 1, none⟩ = some (.int .i64 0) := n3.cell 1
        have fn31 := n3.frozen 1
        have zn40 : wr.cell? ⟨w.heap.size + 1 + 1 + 1 + 1, 0, none⟩ = some (.int .i64 0) := n4.cell 0
        have fn40 := n4.frozen 0
        have zn41 : wr.cell? ⟨w.heap.size + 1 + 1 + 1 + 1, 1, none⟩ = some (.int .i64 0) := n4.cell 1
        have fn41 := n4.frozen 1
        have k9 := n9.lt
        have k4 := n4.lt
        have k2 := n2.lt
        have k3 := n3.lt
        have m4 : ¬ nb = w.heap.size + 1 + 1 + 1 + 1 := by omega
        have m3 : ¬ nb = w.heap.size + 1 + 1 + 1 := by omega
        have m2 : ¬ nb = w.heap.size + 1 + 1 := by omega
        have o4 : ¬ w.heap.size + 1 + 1 + 1 + 1 = nb := by omega
        have o3 : ¬ w.heap.size + 1 + 1 + 1 = nb := by omega
        have o2 : ¬ w.heap.size + 1 + 1 = nb := by omega
        rcases hm with rfl | rfl | rfl
        · go_wp2
          · go_region
            all_goals go_wp2
            all_goals refine ret_blk3 (b0 := w.heap.size + 1 + 1) (b1 := w.heap.size + 1 + 1 + 1) (b2 := w.heap.size + 1 + 1 + 1 + 1) (t := 35) (v := .tuple #[.agg #[.int .i64 a, .int .i64 b], .agg #[.int .i64 c, .int .i64 d], .agg #[.int .i64 r, .int .i64 s], .bool true]) (Blk.eq (by (repeat (first | with_reducible assumption | ((with_reducible apply Blk.new); solve | simp | rfl) | with_reducible apply Blk.drew | with_reducible apply Blk.drewN | ((with_reducible apply Blk.far'); solve | omega | simp | (simp; omega)) | with_reducible apply Blk.set_ | with_reducible apply Blk.alloc | ((with_reducible apply Blk.ext'); with_reducible assumption) | ((with_reducible apply Blk.but'); (with_reducible assumption); solve | omega | (simp; omega))))) (by rfl)) (Blk.eq (by (repeat (first | with_reducible assumption | ((with_reducible apply Blk.new); solve | simp | rfl) | with_reducible apply Blk.drew | with_reducible apply Blk.drewN | ((with_reducible apply Blk.far'); solve | omega | simp | (simp; omega)) | with_reducible apply Blk.set_ | with_reducible apply Blk.alloc | ((with_reducible apply Blk.ext'); with_reducible assumption) | ((with_reducible apply Blk.but'); (with_reducible assumption); solve | omega | (simp; omega))))) (by rfl)) (Blk.eq (by (repeat (first | with_reducible assumption | ((with_reducible apply Blk.new); solve | simp | rfl) | with_reducible apply Blk.drew | with_reducible apply Blk.drewN | ((with_reducible apply Blk.far'); solve | omega | simp | (simp; omega)) | with_reducible apply Blk.set_ | with_reducible apply Blk.alloc | ((with_reducible apply Blk.ext'); with_reducible assumption) | ((with_reducible apply Blk.but'); (with_reducible assumption); solve | omega | (simp; omega))))) (by rfl)) rfl (by intro W' g0 g1 g2 g3 g4 g5; simp [results, Tryz.results171, go_sem, g0, g1, g2, g3, g4, g5]) ⟨?_, by (repeat (first | with_reducible exact Ext.refl _ | with_reducible assumption | ((with_reducible apply Src.ext); with_reducible assumption) | with_reducible refine Ext.alloc ?_ _ | with_reducible refine Ext.drew ?_ | with_reducible refine Ext.drewN ?_ _ | ((with_reducible refine Ext.setCell' ?_ ?_ _); solve | omega | simp | (simp; omega)) | (with_reducible refine Ext.trans ?_ (by with_reducible assumption))))⟩
            all_goals
              have ht : eqP a b p q = true := by assumption
              simp [jointV, jointR, ht]
          · go_roundw
            case rel => exact ⟨1, .inr (.inl rfl), rfl, ⟨fun _ => by assumption, fun h => absurd h (by omega)⟩, by (repeat (first | with_reducible assumption | ((with_reducible apply Blk.new); solve | simp | rfl) | with_reducible apply Blk.drew | with_reducible apply Blk.drewN | ((with_reducible apply Blk.far'); solve | omega | simp | (simp; omega)) | with_reducible apply Blk.set_ | with_reducible apply Blk.alloc | ((with_reducible apply Blk.ext'); with_reducible assumption) | ((with_reducible apply Blk.but'); (with_reducible assumption); solve | omega | (simp; omega)))), by (repeat (first | with_reducible assumption | ((with_reducible apply Blk.new); solve | simp | rfl) | with_reducible apply Blk.drew | with_reducible apply Blk.drewN | ((with_reducible apply Blk.far'); solve | omega | simp | (simp; omega)) | with_reducible apply Blk.set_ | with_reducible apply Blk.alloc | ((with_reducible apply Blk.ext'); with_reducible assumption) | ((with_reducible apply Blk.but'); (with_reducible assumption); solve | omega | (simp; omega)))), by (repeat (first | with_reducible assumption | ((with_reducible apply Blk.new); solve | simp | rfl) | with_reducible apply Blk.drew | with_reducible apply Blk.drewN | ((with_reducible apply Blk.far'); solve | omega | simp | (simp; omega)) | with_reducible apply Blk.set_ | with_reducible apply Blk.alloc | ((with_reducible apply Blk.ext'); with_reducible assumption) | ((with_reducible apply Blk.but'); (with_reducible assumption); solve | omega | (simp; omega)))), by (repeat (first | with_reducible assumption | ((with_reducible apply Blk.new); solve | simp | rfl) | with_reducible apply Blk.drew | with_reducible apply Blk.drewN | ((with_reducible apply Blk.far'); solve | omega | simp | (simp; omega)) | with_reducible apply Blk.set_ | with_reducible apply Blk.alloc | ((with_reducible apply Blk.ext'); with_reducible assumption) | ((with_reducible apply Blk.but'); (with_reducible assumption); solve | omega | (simp; omega)))), by (repeat (first | with_reducible assumption | ((with_reducible apply Blk.new); solve | simp | rfl) | with_reducible apply Blk.drew | with_reducible apply Blk.drewN | ((with_reducible apply Blk.far'); solve | omega | simp | (simp; omega)) | with_reducible apply Blk.set_ | with_reducible apply Blk.alloc | ((with_reducible apply Blk.ext'); with_reducible assumption) | ((with_reducible apply Blk.but'); (with_reducible assumption); solve | omega | (simp; omega)))), by (repeat (first | with_reducible assumption | ((with_reducible apply Blk.new); solve | simp | rfl) | with_reducible apply Blk.drew | with_reducible apply Blk.drewN | ((with_reducible apply Blk.far'); solve | omega | simp | (simp; omega)) | with_reducible apply Blk.set_ | with_reducible apply Blk.alloc | ((with_reducible apply Blk.ext'); with_reducible assumption) | ((with_reducible apply Blk.but'); (with_reducible assumption); solve | omega | (simp; omega)))), by (repeat (first | with_reducible exact Ext.refl _ | with_reducible assumption | ((with_reducible apply Src.ext); with_reducible assumption) | with_reducible refine Ext.alloc ?_ _ | with_reducible refine Ext.drew ?_ | with_reducible refine Ext.drewN ?_ _ | ((with_reducible refine Ext.setCell' ?_ ?_ _); solve | omega | simp | (simp; omega)) | (with_reducible refine Ext.trans ?_ (by with_reducible assumption))))⟩
            case measure => simp [intOf]
        · go_wp2
          · go_region
            all_goals go_wp2
            all_goals refine ret_blk3 (b0 := w.heap.size + 1 + 1) (b1 := w.heap.size + 1 + 1 + 1) (b2 := w.heap.size + 1 + 1 + 1 + 1) (t := 35) (v := .tuple #[.agg #[.int .i64 a, .int .i64 b], .agg #[.int .i64 c, .int .i64 d], .agg #[.int .i64 p, .int .i64 q], .bool true]) (Blk.eq (by (repeat (first | with_reducible assumption | ((with_reducible apply Blk.new); solve | simp | rfl) | with_reducible apply Blk.drew | with_reducible apply Blk.drewN | ((with_reducible apply Blk.far'); solve | omega | simp | (simp; omega)) | with_reducible apply Blk.set_ | with_reducible apply Blk.alloc | ((with_reducible apply Blk.ext'); with_reducible assumption) | ((with_reducible apply Blk.but'); (with_reducible assumption); solve | omega | (simp; omega))))) (by rfl)) (Blk.eq (by (repeat (first | with_reducible assumption | ((with_reducible apply Blk.new); solve | simp | rfl) | with_reducible apply Blk.drew | with_reducible apply Blk.drewN | ((with_reducible apply Blk.far'); solve | omega | simp | (simp; omega)) | with_reducible apply Blk.set_ | with_reducible apply Blk.alloc | ((with_reducible apply Blk.ext'); with_reducible assumption) | ((with_reducible apply Blk.but'); (with_reducible assumption); solve | omega | (simp; omega))))) (by rfl)) (Blk.eq (by (repeat (first | with_reducible assumption | ((with_reducible apply Blk.new); solve | simp | rfl) | with_reducible apply Blk.drew | with_reducible apply Blk.drewN | ((with_reducible apply Blk.far'); solve | omega | simp | (simp; omega)) | with_reducible apply Blk.set_ | with_reducible apply Blk.alloc | ((with_reducible apply Blk.ext'); with_reducible assumption) | ((with_reducible apply Blk.but'); (with_reducible assumption); solve | omega | (simp; omega))))) (by rfl)) rfl (by intro W' g0 g1 g2 g3 g4 g5; simp [results, Tryz.results171, go_sem, g0, g1, g2, g3, g4, g5]) ⟨?_, by (repeat (first | with_reducible exact Ext.refl _ | with_reducible assumption | ((with_reducible apply Src.ext); with_reducible assumption) | with_reducible refine Ext.alloc ?_ _ | with_reducible refine Ext.drew ?_ | with_reducible refine Ext.drewN ?_ _ | ((with_reducible refine Ext.setCell' ?_ ?_ _); solve | omega | simp | (simp; omega)) | (with_reducible refine Ext.trans ?_ (by with_reducible assumption))))⟩
            all_goals
              have hi := HI.out.1 (by omega)
              have ht : eqP a b r s = true := by assumption
              simp [jointV, jointR, ht, hi]
          · go_roundw
            case rel => exact ⟨2, .inr (.inr rfl), rfl, ⟨fun _ => HI.out.1 (by omega), fun _ => by assumption⟩, by (repeat (first | with_reducible assumption | ((with_reducible apply Blk.new); solve | simp | rfl) | with_reducible apply Blk.drew | with_reducible apply Blk.drewN | ((with_reducible apply Blk.far'); solve | omega | simp | (simp; omega)) | with_reducible apply Blk.set_ | with_reducible apply Blk.alloc | ((with_reducible apply Blk.ext'); with_reducible assumption) | ((with_reducible apply Blk.but'); (with_reducible assumption); solve | omega | (simp; omega)))), by (repeat (first | with_reducible assumption | ((with_reducible apply Blk.new); solve | simp | rfl) | with_reducible apply Blk.drew | with_reducible apply Blk.drewN | ((with_reducible apply Blk.far'); solve | omega | simp | (simp; omega)) | with_reducible apply Blk.set_ | with_reducible apply Blk.alloc | ((with_reducible apply Blk.ext'); with_reducible assumption) | ((with_reducible apply Blk.but'); (with_reducible assumption); solve | omega | (simp; omega)))), by (repeat (first | with_reducible assumption | ((with_reducible apply Blk.new); solve | simp | rfl) | with_reducible apply Blk.drew | with_reducible apply Blk.drewN | ((with_reducible apply Blk.far'); solve | omega | simp | (simp; omega)) | with_reducible apply Blk.set_ | with_reducible apply Blk.alloc | ((with_reducible apply Blk.ext'); with_reducible assumption) | ((with_reducible apply Blk.but'); (with_reducible assumption); solve | omega | (simp; omega)))), by (repeat (first | with_reducible assumption | ((with_reducible apply Blk.new); solve | simp | rfl) | with_reducible apply Blk.drew | with_reducible apply Blk.drewN | ((with_reducible apply Blk.far'); solve | omega | simp | (simp; omega)) | with_reducible apply Blk.set_ | with_reducible apply Blk.alloc | ((with_reducible apply Blk.ext'); with_reducible assumption) | ((with_reducible apply Blk.but'); (with_reducible assumption); solve | omega | (simp; omega)))), by (repeat (first | with_reducible assumption | ((with_reducible apply Blk.new); solve | simp | rfl) | with_reducible apply Blk.drew | with_reducible apply Blk.drewN | ((with_reducible apply Blk.far'); solve | omega | simp | (simp; omega)) | with_reducible apply Blk.set_ | with_reducible apply Blk.alloc | ((with_reducible apply Blk.ext'); with_reducible assumption) | ((with_reducible apply Blk.but'); (with_reducible assumption); solve | omega | (simp; omega)))), by (repeat (first | with_reducible assumption | ((with_reducible apply Blk.new); solve | simp | rfl) | with_reducible apply Blk.drew | with_reducible apply Blk.drewN | ((with_reducible apply Blk.far'); solve | omega | simp | (simp; omega)) | with_reducible apply Blk.set_ | with_reducible apply Blk.alloc | ((with_reducible apply Blk.ext'); with_reducible assumption) | ((with_reducible apply Blk.but'); (with_reducible assumption); solve | omega | (simp; omega)))), by (repeat (first | with_reducible exact Ext.refl _ | with_reducible assumption | ((with_reducible apply Src.ext); with_reducible assumption) | with_reducible refine Ext.alloc ?_ _ | with_reducible refine Ext.drew ?_ | with_reducible refine Ext.drewN ?_ _ | ((with_reducible refine Ext.setCell' ?_ ?_ _); solve | omega | simp | (simp; omega)) | (with_reducible refine Ext.trans ?_ (by with_reducible assumption))))⟩
            case measure => simp [intOf]
        · go_wp2
          go_roundw
          case rel => exact ⟨1, .inr (.inl rfl), rfl, ⟨fun _ => ⟨HI.out.1 (by omega), HI.out.2 (by omega)⟩, fun h => absurd h (by omega)⟩, n0, n1, n2, n3, n4, hxi⟩
          case measure => simp [intOf]
    · go_wp2
      (refine wp_region_ext (by kernel_rfl) (by kernel_rfl) ?_; (repeat (go_big_quiet_step ((go_at_call 170; exact Calls_ext (i_back _ _ _ _ _))))); refine wpQuiet_nil ?_; intro wp hxwp; obtain ⟨hcwp, hfwp⟩ := hxwp.rules; have hswp := hxwp.size; (try simp at hswp))
      have s0 : Blk wp w.heap.size 151 #[.int .i64 a, .int .i64 b, .int .i64 c, .int .i64 d] := by (repeat (first | with_reducible assumption | ((with_reducible apply Blk.new); solve | simp | rfl) | with_reducible apply Blk.drew | with_reducible apply Blk.drewN | ((with_reducible apply Blk.far'); solve | omega | simp | (simp; omega)) | with_reducible apply Blk.set_ | with_reducible apply Blk.alloc | ((with_reducible apply Blk.ext'); with_reducible assumption) | ((with_reducible apply Blk.but'); (with_reducible assumption); solve | omega | (simp; omega))))
      have s1 : Blk wp (w.heap.size + 1) 151 #[.int .i64 p, .int .i64 q, .int .i64 r, .int .i64 s] := by (repeat (first | with_reducible assumption | ((with_reducible apply Blk.new); solve | simp | rfl) | with_reducible apply Blk.drew | with_reducible apply Blk.drewN | ((with_reducible apply Blk.far'); solve | omega | simp | (simp; omega)) | with_reducible apply Blk.set_ | with_reducible apply Blk.alloc | ((with_reducible apply Blk.ext'); with_reducible assumption) | ((with_reducible apply Blk.but'); (with_reducible assumption); solve | omega | (simp; omega))))
      have s2 : Blk wp (w.heap.size + 1 + 1) 35 #[.int .i64 0, .int .i64 0] := by (repeat (first | with_reducible assumption | ((with_reducible apply Blk.new); solve | simp | rfl) | with_reducible apply Blk.drew | with_reducible apply Blk.drewN | ((with_reducible apply Blk.far'); solve | omega | simp | (simp; omega)) | with_reducible apply Blk.set_ | with_reducible apply Blk.alloc | ((with_reducible apply Blk.ext'); with_reducible assumption) | ((with_reducible apply Blk.but'); (with_reducible assumption); solve | omega | (simp; omega))))
      have s3 : Blk wp (w.heap.size + 1 + 1 + 1) 35 #[.int .i64 0, .int .i64 0] := by (repeat (first | with_reducible assumption | ((with_reducible apply Blk.new); solve | simp | rfl) | with_reducible apply Blk.drew | with_reducible apply Blk.drewN | ((with_reducible apply Blk.far'); solve | omega | simp | (simp; omega)) | with_reducible apply Blk.set_ | with_reducible apply Blk.alloc | ((with_reducible apply Blk.ext'); with_reducible assumption) | ((with_reducible apply Blk.but'); (with_reducible assumption); solve | omega | (simp; omega))))
      have s4 : Blk wp (w.heap.size + 1 + 1 + 1 + 1) 35 #[.int .i64 0, .int .i64 0] := by (repeat (first | with_reducible assumption | ((with_reducible apply Blk.new); solve | simp | rfl) | with_reducible apply Blk.drew | with_reducible apply Blk.drewN | ((with_reducible apply Blk.far'); solve | omega | simp | (simp; omega)) | with_reducible apply Blk.set_ | with_reducible apply Blk.alloc | ((with_reducible apply Blk.ext'); with_reducible assumption) | ((with_reducible apply Blk.but'); (with_reducible assumption); solve | omega | (simp; omega))))
      have s9 : Blk wp wr.heap.size 151 #[.int .i64 c, .int .i64 d, .int .i64 a, .int .i64 b] := by (repeat (first | with_reducible assumption | ((with_reducible apply Blk.new); solve | simp | rfl) | with_reducible apply Blk.drew | with_reducible apply Blk.drewN | ((with_reducible apply Blk.far'); solve | omega | simp | (simp; omega)) | with_reducible apply Blk.set_ | with_reducible apply Blk.alloc | ((with_reducible apply Blk.ext'); with_reducible assumption) | ((with_reducible apply Blk.but'); (with_reducible assumption); solve | omega | (simp; omega))))
      have hwp : Ext w wp := by (repeat (first | with_reducible exact Ext.refl _ | with_reducible assumption | ((with_reducible apply Src.ext); with_reducible assumption) | with_reducible refine Ext.alloc ?_ _ | with_reducible refine Ext.drew ?_ | with_reducible refine Ext.drewN ?_ _ | ((with_reducible refine Ext.setCell' ?_ ?_ _); solve | omega | simp | (simp; omega)) | (with_reducible refine Ext.trans ?_ (by with_reducible assumption))))
      clear hcwp hfwp hswp hxwp
      go_wp2
      generalize wr.heap.size = nb at s9 l0 l1 l4 ⊢
      go_loopw [23] (fun i wi => ∃ m : Int, (m = 0 ∨ m = 1 ∨ m = 2) ∧ i = .int .i64 m ∧ Hid (JI c d p q r s m) ∧ Blk wi w.heap.size 151 #[.int .i64 a, .int .i64 b, .int .i64 c, .int .i64 d] ∧ Blk wi (w.heap.size + 1) 151 #[.int .i64 p, .int .i64 q, .int .i64 r, .int .i64 s] ∧ Blk wi (w.heap.size + 1 + 1) 35 #[.int .i64 0, .int .i64 0] ∧ Blk wi (w.heap.size + 1 + 1 + 1) 35 #[.int .i64 0, .int .i64 0] ∧ Blk wi (w.heap.size + 1 + 1 + 1 + 1) 35 #[.int .i64 0, .int .i64 0] ∧ Blk wi nb 151 #[.int .i64 c, .int .i64 d, .int .i64 a, .int .i64 b] ∧ Ext w wi) (fun i _ => 2 - (intOf i).toNat)
      case atStart => exact ⟨0, .inl rfl, rfl, ⟨fun h => absurd h (by omega), fun h => absurd h (by omega)⟩, s0, s1, s2, s3, s4, s9, hwp⟩
      case round =>
        obtain ⟨m, hm, rfl, HI, n0, n1, n2, n3, n4, n9, hxi⟩ := hrel
        have x0 : wr.cell? ⟨nb, 0, none⟩ = some (.int .i64 c) := n9.cell 0
        have x1 : wr.cell? ⟨nb, 1, none⟩ = some (.int .i64 d) := n9.cell 1
        have x2 : wr.cell? ⟨nb, 2, none⟩ = some (.int .i64 a) := n9.cell 2
        have x3 : wr.cell? ⟨nb, 3, none⟩ = some (.int .i64 b) := n9.cell 3
        have zn20 : wr.cell? ⟨w.heap.size + 1 + 1, 0, none⟩ = some (.int .i64 0) := n2.cell 0
        have fn20 := n2.frozen 0
        have zn21 : wr.cell? ⟨w.heap.size + 1 + 1, 1, none⟩ = some (.int .i64 0) := n2.cell 1
        have fn21 := n2.frozen 1
        have zn30 : wr.cell? ⟨w.heap.size + 1 + 1 + 1, 0, none⟩ = some (.int .i64 0) := n3.cell 0
        have fn30 := n3.frozen 0
        have zn31 : wr.cell? ⟨w.heap.size + 1 + 1 + 1, 1, none⟩ = some (.int .i64 0) := n3.cell 1
        have fn31 := n3.frozen 1
        have zn40 : wr.cell? ⟨w.heap.size + 1 + 1 + 1 + 1, 0, none⟩ = some (.int .i64 0) := n4.cell 0
        have fn40 := n4.frozen 0
        have zn41 : wr.cell? ⟨w.heap.size + 1 + 1 + 1 + 1, 1, none⟩ = some (.int .i64 0) := n4.cell 1
        have fn41 := n4.frozen 1
        have k9 := n9.lt
        have k4 := n4.lt
        have k2 := n2.lt
        have k3 := n3.lt
        have m4 : ¬ nb = w.heap.size + 1 + 1 + 1 + 1 := by omega
        have m3 : ¬ nb = w.heap.size + 1 + 1 + 1 := by omega
        have m2 : ¬ nb = w.heap.size + 1 + 1 := by omega
        have o4 : ¬ w.heap.size + 1 + 1 + 1 + 1 = nb := by omega
        have o3 : ¬ w.heap.size + 1 + 1 + 1 = nb := by omega
        have o2 : ¬ w.heap.size + 1 + 1 = nb := by omega
        rcases hm with rfl | rfl | rfl
        · go_wp2
          · go_region
            all_goals go_wp2
            all_goals refine ret_blk3 (b0 := w.heap.size + 1 + 1) (b1 := w.heap.size + 1 + 1 + 1) (b2 := w.heap.size + 1 + 1 + 1 + 1) (t := 35) (v := .tuple #[.agg #[.int .i64 c, .int .i64 d], .agg #[.int .i64 a, .int .i64 b], .agg #[.int .i64 r, .int .i64 s], .bool true]) (Blk.eq (by (repeat (first | with_reducible assumption | ((with_reducible apply Blk.new); solve | simp | rfl) | with_reducible apply Blk.drew | with_reducible apply Blk.drewN | ((with_reducible apply Blk.far'); solve | omega | simp | (simp; omega)) | with_reducible apply Blk.set_ | with_reducible apply Blk.alloc | ((with_reducible apply Blk.ext'); with_reducible assumption) | ((with_reducible apply Blk.but'); (with_reducible assumption); solve | omega | (simp; omega))))) (by rfl)) (Blk.eq (by (repeat (first | with_reducible assumption | ((with_reducible apply Blk.new); solve | simp | rfl) | with_reducible apply Blk.drew | with_reducible apply Blk.drewN | ((with_reducible apply Blk.far'); solve | omega | simp | (simp; omega)) | with_reducible apply Blk.set_ | with_reducible apply Blk.alloc | ((with_reducible apply Blk.ext'); with_reducible assumption) | ((with_reducible apply Blk.but'); (with_reducible assumption); solve | omega | (simp; omega))))) (by rfl)) (Blk.eq (by (repeat (first | with_reducible assumption | ((with_reducible apply Blk.new); solve | simp | rfl) | with_reducible apply Blk.drew | with_reducible apply Blk.drewN | ((with_reducible apply Blk.far'); solve | omega | simp | (simp; omega)) | with_reducible apply Blk.set_ | with_reducible apply Blk.alloc | ((with_reducible apply Blk.ext'); with_reducible assumption) | ((with_reducible apply Blk.but'); (with_reducible assumption); solve | omega | (simp; omega))))) (by rfl)) rfl (by intro W' g0 g1 g2 g3 g4 g5; simp [results, Tryz.results171, go_sem, g0, g1, g2, g3, g4, g5]) ⟨?_, by (repeat (first | with_reducible exact Ext.refl _ | with_reducible assumption | ((with_reducible apply Src.ext); with_reducible assumption) | with_reducible refine Ext.alloc ?_ _ | with_reducible refine Ext.drew ?_ | with_reducible refine Ext.drewN ?_ _ | ((with_reducible refine Ext.setCell' ?_ ?_ _); solve | omega | simp | (simp; omega)) | (with_reducible refine Ext.trans ?_ (by with_reducible assumption))))⟩
            all_goals
              have hj := HJ.out.1 (by omega)
              have ht : eqP c d p q = true := by assumption
              simp [jointV, jointR, ht, hj.1, hj.2]
          · go_roundw
            case rel => exact ⟨1, .inr (.inl rfl), rfl, ⟨fun _ => by assumption, fun h => absurd h (by omega)⟩, by (repeat (first | with_reducible assumption | ((with_reducible apply Blk.new); solve | simp | rfl) | with_reducible apply Blk.drew | with_reducible apply Blk.drewN | ((with_reducible apply Blk.far'); solve | omega | simp | (simp; omega)) | with_reducible apply Blk.set_ | with_reducible apply Blk.alloc | ((with_reducible apply Blk.ext'); with_reducible assumption) | ((with_reducible apply Blk.but'); (with_reducible assumption); solve | omega | (simp; omega)))), by (repeat (first | with_reducible assumption | ((with_reducible apply Blk.new); solve | simp | rfl) | with_reducible apply Blk.drew | with_reducible apply Blk.drewN | ((with_reducible apply Blk.far'); solve | omega | simp | (simp; omega)) | with_reducible apply Blk.set_ | with_reducible apply Blk.alloc | ((with_reducible apply Blk.ext'); with_reducible assumption) | ((with_reducible apply Blk.but'); (with_reducible assumption); solve | omega | (simp; omega)))), by (repeat (first | with_reducible assumption | ((with_reducible apply Blk.new); solve | simp | rfl) | with_reducible apply Blk.drew | with_reducible apply Blk.drewN | ((with_reducible apply Blk.far'); solve | omega | simp | (simp; omega)) | with_reducible apply Blk.set_ | with_reducible apply Blk.alloc | ((with_reducible apply Blk.ext'); with_reducible assumption) | ((with_reducible apply Blk.but'); (with_reducible assumption); solve | omega | (simp; omega)))), by (repeat (first | with_reducible assumption | ((with_reducible apply Blk.new); solve | simp | rfl) | with_reducible apply Blk.drew | with_reducible apply Blk.drewN | ((with_reducible apply Blk.far'); solve | omega | simp | (simp; omega)) | with_reducible apply Blk.set_ | with_reducible apply Blk.alloc | ((with_reducible apply Blk.ext'); with_reducible assumption) | ((with_reducible apply Blk.but'); (with_reducible assumption); solve | omega | (simp; omega)))), by (repeat (first | with_reducible assumption | ((with_reducible apply Blk.new); solve | simp | rfl) | with_reducible apply Blk.drew | with_reducible apply Blk.drewN | ((with_reducible apply Blk.far'); solve | omega | simp | (simp; omega)) | with_reducible apply Blk.set_ | with_reducible apply Blk.alloc | ((with_reducible apply Blk.ext'); with_reducible assumption) | ((with_reducible apply Blk.but'); (with_reducible assumption); solve | omega | (simp; omega)))), by (repeat (first | with_reducible assumption | ((with_reducible apply Blk.new); solve | simp | rfl) | with_reducible apply Blk.drew | with_reducible apply Blk.drewN | ((with_reducible apply Blk.far'); solve | omega | simp | (simp; omega)) | with_reducible apply Blk.set_ | with_reducible apply Blk.alloc | ((with_reducible apply Blk.ext'); with_reducible assumption) | ((with_reducible apply Blk.but'); (with_reducible assumption); solve | omega | (simp; omega)))), by (repeat (first | with_reducible exact Ext.refl _ | with_reducible assumption | ((with_reducible apply Src.ext); with_reducible assumption) | with_reducible refine Ext.alloc ?_ _ | with_reducible refine Ext.drew ?_ | with_reducible refine Ext.drewN ?_ _ | ((with_reducible refine Ext.setCell' ?_ ?_ _); solve | omega | simp | (simp; omega)) | (with_reducible refine Ext.trans ?_ (by with_reducible assumption))))⟩
            case measure => simp [intOf]
        · go_wp2
          · go_region
            all_goals go_wp2
            all_goals refine ret_blk3 (b0 := w.heap.size + 1 + 1) (b1 := w.heap.size + 1 + 1 + 1) (b2 := w.heap.size + 1 + 1 + 1 + 1) (t := 35) (v := .tuple #[.agg #[.int .i64 c, .int .i64 d], .agg #[.int .i64 a, .int .i64 b], .agg #[.int .i64 p, .int .i64 q], .bool true]) (Blk.eq (by (repeat (first | with_reducible assumption | ((with_reducible apply Blk.new); solve | simp | rfl) | with_reducible apply Blk.drew | with_reducible apply Blk.drewN | ((with_reducible apply Blk.far'); solve | omega | simp | (simp; omega)) | with_reducible apply Blk.set_ | with_reducible apply Blk.alloc | ((with_reducible apply Blk.ext'); with_reducible assumption) | ((with_reducible apply Blk.but'); (with_reducible assumption); solve | omega | (simp; omega))))) (by rfl)) (Blk.eq (by (repeat (first | with_reducible assumption | ((with_reducible apply Blk.new); solve | simp | rfl) | with_reducible apply Blk.drew | with_reducible apply Blk.drewN | ((with_reducible apply Blk.far'); solve | omega | simp | (simp; omega)) | with_reducible apply Blk.set_ | with_reducible apply Blk.alloc | ((with_reducible apply Blk.ext'); with_reducible assumption) | ((with_reducible apply Blk.but'); (with_reducible assumption); solve | omega | (simp; omega))))) (by rfl)) (Blk.eq (by (repeat (first | with_reducible assumption | ((with_reducible apply Blk.new); solve | simp | rfl) | with_reducible apply Blk.drew | with_reducible apply Blk.drewN | ((with_reducible apply Blk.far'); solve | omega | simp | (simp; omega)) | with_reducible apply Blk.set_ | with_reducible apply Blk.alloc | ((with_reducible apply Blk.ext'); with_reducible assumption) | ((with_reducible apply Blk.but'); (with_reducible assumption); solve | omega | (simp; omega))))) (by rfl)) rfl (by intro W' g0 g1 g2 g3 g4 g5; simp [results, Tryz.results171, go_sem, g0, g1, g2, g3, g4, g5]) ⟨?_, by (repeat (first | with_reducible exact Ext.refl _ | with_reducible assumption | ((with_reducible apply Src.ext); with_reducible assumption) | with_reducible refine Ext.alloc ?_ _ | with_reducible refine Ext.drew ?_ | with_reducible refine Ext.drewN ?_ _ | ((with_reducible refine Ext.setCell' ?_ ?_ _); solve | omega | simp | (simp; omega)) | (with_reducible refine Ext.trans ?_ (by with_reducible assumption))))⟩
            all_goals
              have hj := HJ.out.1 (by omega)
              have hi := HI.out.1 (by omega)
              have ht : eqP c d r s = true := by assumption
              simp [jointV, jointR, ht, hj.1, hj.2, hi]
          · go_roundw
            case rel => exact ⟨2, .inr (.inr rfl), rfl, ⟨fun _ => HI.out.1 (by omega), fun _ => by assumption⟩, by (repeat (first | with_reducible assumption | ((with_reducible apply Blk.new); solve | simp | rfl) | with_reducible apply Blk.drew | with_reducible apply Blk.drewN | ((with_reducible apply Blk.far'); solve | omega | simp | (simp; omega)) | with_reducible apply Blk.set_ | with_reducible apply Blk.alloc | ((with_reducible apply Blk.ext'); with_reducible assumption) | ((with_reducible apply Blk.but'); (with_reducible assumption); solve | omega | (simp; omega)))), by (repeat (first | with_reducible assumption | ((with_reducible apply Blk.new); solve | simp | rfl) | with_reducible apply Blk.drew | with_reducible apply Blk.drewN | ((with_reducible apply Blk.far'); solve | omega | simp | (simp; omega)) | with_reducible apply Blk.set_ | with_reducible apply Blk.alloc | ((with_reducible apply Blk.ext'); with_reducible assumption) | ((with_reducible apply Blk.but'); (with_reducible assumption); solve | omega | (simp; omega)))), by (repeat (first | with_reducible assumption | ((with_reducible apply Blk.new); solve | simp | rfl) | with_reducible apply Blk.drew | with_reducible apply Blk.drewN | ((with_reducible apply Blk.far'); solve | omega | simp | (simp; omega)) | with_reducible apply Blk.set_ | with_reducible apply Blk.alloc | ((with_reducible apply Blk.ext'); with_reducible assumption) | ((with_reducible apply Blk.but'); (with_reducible assumption); solve | omega | (simp; omega)))), by (repeat (first | with_reducible assumption | ((with_reducible apply Blk.new); solve | simp | rfl) | with_reducible apply Blk.drew | with_reducible apply Blk.drewN | ((with_reducible apply Blk.far'); solve | omega | simp | (simp; omega)) | with_reducible apply Blk.set_ | with_reducible apply Blk.alloc | ((with_reducible apply Blk.ext'); with_reducible assumption) | ((with_reducible apply Blk.but'); (with_reducible assumption); solve | omega | (simp; omega)))), by (repeat (first | with_reducible assumption | ((with_reducible apply Blk.new); solve | simp | rfl) | with_reducible apply Blk.drew | with_reducible apply Blk.drewN | ((with_reducible apply Blk.far'); solve | omega | simp | (simp; omega)) | with_reducible apply Blk.set_ | with_reducible apply Blk.alloc | ((with_reducible apply Blk.ext'); with_reducible assumption) | ((with_reducible apply Blk.but'); (with_reducible assumption); solve | omega | (simp; omega)))), by (repeat (first | with_reducible assumption | ((with_reducible apply Blk.new); solve | simp | rfl) | with_reducible apply Blk.drew | with_reducible apply Blk.drewN | ((with_reducible apply Blk.far'); solve | omega | simp | (simp; omega)) | with_reducible apply Blk.set_ | with_reducible apply Blk.alloc | ((with_reducible apply Blk.ext'); with_reducible assumption) | ((with_reducible apply Blk.but'); (with_reducible assumption); solve | omega | (simp; omega)))), by (repeat (first | with_reducible exact Ext.refl _ | with_reducible assumption | ((with_reducible apply Src.ext); with_reducible assumption) | with_reducible refine Ext.alloc ?_ _ | with_reducible refine Ext.drew ?_ | with_reducible refine Ext.drewN ?_ _ | ((with_reducible refine Ext.setCell' ?_ ?_ _); solve | omega | simp | (simp; omega)) | (with_reducible refine Ext.trans ?_ (by with_reducible assumption))))⟩
            case measure => simp [intOf]
        · go_wp2
          go_roundw
          case rel => exact ⟨2, .inr (.inr rfl), rfl, ⟨fun _ => HJ.out.1 (by omega), fun _ => ⟨HI.out.1 (by omega), HI.out.2 (by omega)⟩⟩, n0, n1, n2, n3, n4, hxi⟩
          case measure => simp [intOf]
    · have n2 := r2
      have n3 := r3
      have n4 := r4
      have zn20 : wr.cell? ⟨w.heap.size + 1 + 1, 0, none⟩ = some (.int .i64 0) := n2.cell 0
      have fn20 := n2.frozen 0
      have zn21 : wr.cell? ⟨w.heap.size + 1 + 1, 1, none⟩ = some (.int .i64 0) := n2.cell 1
      have fn21 := n2.frozen 1
      have zn30 : wr.cell? ⟨w.heap.size + 1 + 1 + 1, 0, none⟩ = some (.int .i64 0) := n3.cell 0
      have fn30 := n3.frozen 0
      have zn31 : wr.cell? ⟨w.heap.size + 1 + 1 + 1, 1, none⟩ = some (.int .i64 0) := n3.cell 1
      have fn31 := n3.frozen 1
      have zn40 : wr.cell? ⟨w.heap.size + 1 + 1 + 1 + 1, 0, none⟩ = some (.int .i64 0) := n4.cell 0
      have fn40 := n4.frozen 0
      have zn41 : wr.cell? ⟨w.heap.size + 1 + 1 + 1 + 1, 1, none⟩ = some (.int .i64 0) := n4.cell 1
      have fn41 := n4.frozen 1
      go_wp2
      refine ret_blk3 (b0 := w.heap.size + 1 + 1) (b1 := w.heap.size + 1 + 1 + 1) (b2 := w.heap.size + 1 + 1 + 1 + 1) (t := 35) (v := .tuple #[.agg #[.int .i64 0, .int .i64 0], .agg #[.int .i64 0, .int .i64 0], .agg #[.int .i64 0, .int .i64 0], .bool false]) (Blk.eq (by (repeat (first | with_reducible assumption | ((with_reducible apply Blk.new); solve | simp | rfl) | with_reducible apply Blk.drew | with_reducible apply Blk.drewN | ((with_reducible apply Blk.far'); solve | omega | simp | (simp; omega)) | with_reducible apply Blk.set_ | with_reducible apply Blk.alloc | ((with_reducible apply Blk.ext'); with_reducible assumption) | ((with_reducible apply Blk.but'); (with_reducible assumption); solve | omega | (simp; omega))))) (by rfl)) (Blk.eq (by (repeat (first | with_reducible assumption | ((with_reducible apply Blk.new); solve | simp | rfl) | with_reducible apply Blk.drew | with_reducible apply Blk.drewN | ((with_reducible apply Blk.far'); solve | omega | simp | (simp; omega)) | with_reducible apply Blk.set_ | with_reducible apply Blk.alloc | ((with_reducible apply Blk.ext'); with_reducible assumption) | ((with_reducible apply Blk.but'); (with_reducible assumption); solve | omega | (simp; omega))))) (by rfl)) (Blk.eq (by (repeat (first | with_reducible assumption | ((with_reducible apply Blk.new); solve | simp | rfl) | with_reducible apply Blk.drew | with_reducible apply Blk.drewN | ((with_reducible apply Blk.far'); solve | omega | simp | (simp; omega)) | with_reducible apply Blk.set_ | with_reducible apply Blk.alloc | ((with_reducible apply Blk.ext'); with_reducible assumption) | ((with_reducible apply Blk.but'); (with_reducible assumption); solve | omega | (simp; omega))))) (by rfl)) rfl (by intro W' g0 g1 g2 g3 g4 g5; simp [results, Tryz.results171, go_sem, g0, g1, g2, g3, g4, g5]) ⟨?_, by (repeat (first | with_reducible exact Ext.refl _ | with_reducible assumption | ((with_reducible apply Src.ext); with_reducible assumption) | with_reducible refine Ext.alloc ?_ _ | with_reducible refine Ext.drew ?_ | with_reducible refine Ext.drewN ?_ _ | ((with_reducible refine Ext.setCell' ?_ ?_ _); solve | omega | simp | (simp; omega)) | (with_reducible refine Ext.trans ?_ (by with_reducible assumption))))⟩
      have h1 := HJ.out.1 (by omega)
      have h2 := HJ.out.2 (by omega)
      simp [jointV, jointR, h1.1, h1.2, h2.1, h2.2]

end Go.Proofs.YtabdffponmmhoaaGreatDoor
namespace Go.Proofs.YtabdffponmmhoaaGreatDoor
open Go.RowKit
attribute [local go_sem] ExtOf.cell ExtOf.frozen

theorem i_joint' {a b c d p q r s j1 j2 j3 j4 j5 j6 : Int} {ok : Bool} (hJ : jointV a b c d p q r s = ((j1, j2), (j3, j4), (j5, j6), ok)) (w : World) : Calls Tryz.prog 171 #[.agg #[.int .i64 a, .int .i64 b, .int .i64 c, .int .i64 d], .agg #[.int .i64 p, .int .i64 q, .int .i64 r, .int .i64 s]] w
    fun e w' => e = .returned (.tuple #[.agg #[.int .i64 j1, .int .i64 j2], .agg #[.int .i64 j3, .int .i64 j4], .agg #[.int .i64 j5, .int .i64 j6], .bool ok]) ∧ Ext w w' := by
  have := i_joint a b c d p q r s w
  rwa [hJ] at this
/-- whether two edges of different rings have only points in common that they may have -/
def fitB (a b c d p q r s : Int) : Bool :=
  if eqEd a b c d r s p q = true then true else if eqEd a b c d p q r s = true then false else
  if (jointV a b c d p q r s).2.2.2 = true then
    !onW (jointV a b c d p q r s).1.1 (jointV a b c d p q r s).1.2 (jointV a b c d p q r s).2.1.1 (jointV a b c d p q r s).2.1.2 (jointV a b c d p q r s).2.2.1.1 (jointV a b c d p q r s).2.2.1.2 &&
    !onW (jointV a b c d p q r s).1.1 (jointV a b c d p q r s).1.2 (jointV a b c d p q r s).2.2.1.1 (jointV a b c d p q r s).2.2.1.2 (jointV a b c d p q r s).2.1.1 (jointV a b c d p q r s).2.1.2
  else !crossW a b c d p q r s
set_option maxRecDepth 20000 in
set_option maxHeartbeats 12800000 in
theorem i_fit (a b c d p q r s : Int) (w : World) : Calls Tryz.prog 134 #[.agg #[.int .i64 a, .int .i64 b, .int .i64 c, .int .i64 d], .agg #[.int .i64 p, .int .i64 q, .int .i64 r, .int .i64 s]] w fun e w' => e = .returned (.bool (fitB a b c d p q r s)) ∧ Ext w w' := by
  rcases hJ : jointV a b c d p q r s with ⟨⟨j1, j2⟩, ⟨j3, j4⟩, ⟨j5, j6⟩, ok⟩
  have HJ := Lib.hid hJ
  have hf : fitB a b c d p q r s = if eqEd a b c d r s p q = true then true else if eqEd a b c d p q r s = true then false else if ok = true then !onW j1 j2 j3 j4 j5 j6 && !onW j1 j2 j5 j6 j3 j4 else !crossW a b c d p q r s := by
    unfold fitB; rw [hJ]
  have HF := Lib.hid hf
  clear hJ hf
  go_enter Tryz.func134, Tryz.ntmps134
  go_wp2
  (refine wp_region_ext (by kernel_rfl) (by kernel_rfl) ?_; (repeat (go_big_quiet_step ((go_at_call 170; exact Calls_ext (i_back _ _ _ _ _))))); refine wpQuiet_nil ?_; intro wq hxwq; obtain ⟨hcwq, hfwq⟩ := hxwq.rules; have hswq := hxwq.size; (try simp at hswq))
  have b0 : Blk wq w.heap.size 151 #[.int .i64 a, .int .i64 b, .int .i64 c, .int .i64 d] := by (repeat (first | with_reducible assumption | ((with_reducible apply Blk.new); solve | simp | rfl) | with_reducible apply Blk.drew | with_reducible apply Blk.drewN | ((with_reducible apply Blk.far'); solve | omega | simp | (simp; omega)) | with_reducible apply Blk.set_ | with_reducible apply Blk.alloc | ((with_reducible apply Blk.ext'); with_reducible assumption) | ((with_reducible apply Blk.but'); (with_reducible assumption); solve | omega | (simp; omega))))
  have b1 : Blk wq (w.heap.size + 1) 151 #[.int .i64 p, .int .i64 q, .int .i64 r, .int .i64 s] := by (repeat (first | with_reducible assumption | ((with_reducible apply Blk.new); solve | simp | rfl) | with_reducible apply Blk.drew | with_reducible apply Blk.drewN | ((with_reducible apply Blk.far'); solve | omega | simp | (simp; omega)) | with_reducible apply Blk.set_ | with_reducible apply Blk.alloc | ((with_reducible apply Blk.ext'); with_reducible assumption) | ((with_reducible apply Blk.but'); (with_reducible assumption); solve | omega | (simp; omega))))
  have hwq : Ext w wq := by (repeat (first | with_reducible exact Ext.refl _ | with_reducible assumption | ((with_reducible apply Src.ext); with_reducible assumption) | with_reducible refine Ext.alloc ?_ _ | with_reducible refine Ext.drew ?_ | with_reducible refine Ext.drewN ?_ _ | ((with_reducible refine Ext.setCell' ?_ ?_ _); solve | omega | simp | (simp; omega)) | (with_reducible refine Ext.trans ?_ (by with_reducible assumption))))
  have x0 : wq.cell? ⟨w.heap.size, 0, none⟩ = some (.int .i64 a) := b0.cell 0
  have x1 : wq.cell? ⟨w.heap.size, 1, none⟩ = some (.int .i64 b) := b0.cell 1
  have x2 : wq.cell? ⟨w.heap.size, 2, none⟩ = some (.int .i64 c) := b0.cell 2
  have x3 : wq.cell? ⟨w.heap.size, 3, none⟩ = some (.int .i64 d) := b0.cell 3
  have y0 : wq.cell? ⟨w.heap.size + 1, 0, none⟩ = some (.int .i64 p) := b1.cell 0
  have y1 : wq.cell? ⟨w.heap.size + 1, 1, none⟩ = some (.int .i64 q) := b1.cell 1
  have y2 : wq.cell? ⟨w.heap.size + 1, 2, none⟩ = some (.int .i64 r) := b1.cell 2
  have y3 : wq.cell? ⟨w.heap.size + 1, 3, none⟩ = some (.int .i64 s) := b1.cell 3
  have l0 := b0.lt
  have l1 := b1.lt
  clear hcwq hfwq hswq hxwq
  have NEQ : ∀ H : Nat, w.heap.size + 1 < H → (¬ w.heap.size = H ∧ ¬ w.heap.size = H + 1 ∧ ¬ w.heap.size = H + 1 + 1 ∧ ¬ w.heap.size + 1 = H ∧ ¬ w.heap.size + 1 = H + 1 ∧ ¬ w.heap.size + 1 = H + 1 + 1) ∧ (¬ H = w.heap.size ∧ ¬ H + 1 = w.heap.size ∧ ¬ H + 1 + 1 = w.heap.size ∧ ¬ H = w.heap.size + 1 ∧ ¬ H + 1 = w.heap.size + 1 ∧ ¬ H + 1 + 1 = w.heap.size + 1) := fun H hH => by omega
  have HNE := Lib.hid NEQ
  clear NEQ
  go_wp2_with (first | ((go_at_call 171; refine (i_joint' HJ.out _).mono ?_; rintro e w3 ⟨rfl, hx3⟩; obtain ⟨hc3, hf3⟩ := hx3.rules; have hs3 := hx3.size; (try simp at hs3); have := (show w.heap.size < w3.heap.size from by omega); have := (show w.heap.size + 1 < w3.heap.size from by omega)); obtain ⟨⟨n1, n2, n3, n4, n5, n6⟩, ⟨m1, m2, m3, m4, m5, m6⟩⟩ := HNE.out w3.heap.size (by omega); have := (show w.heap.size < w3.heap.size + 1 from by omega); have := (show w.heap.size < w3.heap.size + 1 + 1 from by omega); have := (show w.heap.size + 1 < w3.heap.size + 1 from by omega); have := (show w.heap.size + 1 < w3.heap.size + 1 + 1 from by omega)) | (go_at_call 167; refine (i_doCross _ _ _ _ _ _ _ _ _).mono ?_; rintro e w4 ⟨rfl, hx4⟩; obtain ⟨hc4, hf4⟩ := hx4.rules; have hs4 := hx4.size; (try simp at hs4)) | (go_at_call 74; refine (i_isOn _ _ _ _ _ _ _).mono ?_; rintro e w5 ⟨rfl, hx5⟩; obtain ⟨hc5, hf5⟩ := hx5.rules; have hs5 := hx5.size; (try simp at hs5); have := (show w3.heap.size < w5.heap.size from by omega); have := (show w3.heap.size + 1 < w5.heap.size from by omega); have := (show w3.heap.size + 1 + 1 < w5.heap.size from by omega)))
  all_goals go_ret
  all_goals refine ⟨?_, by (repeat (first | with_reducible exact Ext.refl _ | with_reducible assumption | ((with_reducible apply Src.ext); with_reducible assumption) | with_reducible refine Ext.alloc ?_ _ | with_reducible refine Ext.drew ?_ | with_reducible refine Ext.drewN ?_ _ | ((with_reducible refine Ext.setCell' ?_ ?_ _); solve | omega | simp | (simp; omega)) | (with_reducible refine Ext.trans ?_ (by with_reducible assumption))))⟩
  all_goals rw [HF.out]
  all_goals (cases ok <;> simp [*] <;> simp at *)

end Go.Proofs.YtabdffponmmhoaaGreatDoor
namespace Go.Proofs.YtabdffponmmhoaaGreatDoor
open Go.RowKit
attribute [local go_sem] ExtOf.cell ExtOf.frozen

theorem all_no {α : Type} {P : α → Bool} {xs : List α} {d : α} {k : Nat} (hk : k < xs.length) (h : P (xs.getD k d) = false) : false = xs.all P := by
  rw [eq_comm, List.all_eq_false]
  refine ⟨xs.getD k d, ?_, by rw [h]; exact Bool.false_ne_true⟩
  simp [List.getD, hk]
theorem all_yes {α : Type} {P : α → Bool} {xs : List α} {d : α} (h : ∀ j, j < xs.length → P (xs.getD j d) = true) : true = xs.all P := by
  rw [eq_comm, List.all_eq_true]
  intro x hx
  obtain ⟨j, hj, rfl⟩ := List.mem_iff_getElem.1 hx
  have := h j hj
  simpa [List.getD, hj] using this
def edD : Ed := ((0, 0), (0, 0))
def midE (ps : List (Int × Int)) (e : Ed) : Bool := midB ps e.1.1 e.1.2 e.2.1 e.2.2
def fitE (e f : Ed) : Bool := fitB e.1.1 e.1.2 e.2.1 e.2.2 f.1.1 f.1.2 f.2.1 f.2.2
def in2 (pa : List (Int × Int)) (e f : Ed) : Bool := fitE e f && !midE pa f
def in1 (pa pb : List (Int × Int)) (e : Ed) : Bool := !midE pb e && (edL (normI pb)).all (in2 pa e)
/-- whether two rings can be those of a map -/
def fitT (pa pb : List (Int × Int)) : Bool := (edL (normI pa)).all (in1 pa pb)
theorem oks_outI {ps : List (Int × Int)} (h : oks ps = true) : oks (outI ps) = true := by
  unfold oks outI at *
  split
  · rw [List.all_reverse]; exact h
  · exact h
theorem oks_normI {ps : List (Int × Int)} (h : oks ps = true) : oks (normI ps) = true := by
  have := oks_outI h
  unfold normI
  unfold oks at *
  rw [List.all_eq_true] at *
  intro x hx
  rcases List.mem_append.1 hx with hx | hx
  · exact this x (List.mem_of_mem_drop hx)
  · exact this x (List.mem_of_mem_take hx)
theorem edL_len (o : List (Int × Int)) : (edL o).length = o.length := edTo_len o _
theorem edL_at {o : List (Int × Int)} {k : Nat} (hk : k < o.length) : (edL o).getD k edD = edAt o k := by simp [edL, edTo, List.getD, hk]
theorem ed_bd {o : List (Int × Int)} (h : oks o = true) {k : Nat} (hk : k < o.length) {a b c d : Int} (e : edAt o k = ((a, b), (c, d))) : bdP a b ∧ bdP c d := by
  have h1 := oks_at2 h hk
  have h2 := bd_at h ((k : Int) + 1)
  unfold edAt atP at e
  injection e with e1 e2
  injection e2 with e3 e4
  rw [e1] at h1
  rw [e3, e4] at h2
  exact ⟨h1, h2⟩
theorem in2_no1 {pa : List (Int × Int)} {e f : Ed} (h : fitE e f = false) : in2 pa e f = false := by simp [in2, h]
theorem in2_no2 {pa : List (Int × Int)} {e f : Ed} (h : midE pa f = true) : in2 pa e f = false := by simp [in2, h]
theorem in2_yes {pa : List (Int × Int)} {e f : Ed} (h : fitE e f = true) (h' : midE pa f = false) : in2 pa e f = true := by simp [in2, h, h']
theorem in1_no1 {pa pb : List (Int × Int)} {e : Ed} (h : midE pb e = true) : in1 pa pb e = false := by simp [in1, h]
theorem in1_no2 {pa pb : List (Int × Int)} {e : Ed} (h : false = (edL (normI pb)).all (in2 pa e)) : in1 pa pb e = false := by simp [in1, ← h]
theorem in1_yes {pa pb : List (Int × Int)} {e : Ed} (h : midE pb e = false) (h' : true = (edL (normI pb)).all (in2 pa e)) : in1 pa pb e = true := by simp [in1, h, ← h']
theorem upTo_succ {P : Nat → Prop} {k : Nat} (h : ∀ j, j < k → P j) (hk : P k) : ∀ j, j < k + 1 → P j := fun j hj => by
  rcases Nat.lt_or_ge j k with c | c
  · exact h j c
  · obtain rfl : j = k := by omega
    exact hk
set_option maxRecDepth 20000 in
set_option maxHeartbeats 12800000 in
theorem i_fitTogether (A B : Option Addr) (ca cb : Nat) (pa pb : List (Int × Int)) (w : World) (hA : SlAt w 2 encP A pa) (hB : SlAt w 2 encP B pb) (ha0 : 0 < pa.length) (hb0 : 0 < pb.length) (hal : pa.length ≤ 1000) (hbl : pb.length ≤ 1000) (hao : oks pa = true) (hbo : oks pb = true) :
    Calls Tryz.prog 101 #[.slice A pa.length ca, .slice B pb.length cb] w fun e w' => e = .returned (.bool (fitT pa pb)) ∧ Ext w w' := by
  have HAO := Lib.hid hao
  have HBO := Lib.hid hbo
  have HLA := Lib.hid (normI_len pa)
  have HLB := Lib.hid (normI_len pb)
  clear hao hbo
  go_enter Tryz.func101, Tryz.ntmps101
  go_wp2_with fail
  refine (i_edgesOf _ _ pa _ hA ha0 hal HAO.out).mono ?_
  rintro e w1 ⟨v1, rfl, hO1, hx1⟩
  have hs1 := hx1.size
  obtain ⟨A1, c1, rfl, hS1, _, _, _⟩ := hO1.sl len_encE
  have hen : (edL (normI pa)).length = pa.length := by rw [edL_len, HLA.out]
  obtain ⟨n, hn⟩ : ∃ n, n = (edL (normI pa)).length := ⟨_, rfl⟩
  rw [← hn] at hen ⊢
  have HN := Lib.hid hn
  have HEN := Lib.hid hen
  clear hO1 hn
  go_wp2
  go_loopw [12] (fun i wr => ∃ k : Nat, k ≤ n ∧ i = .int .i64 k ∧ Hid (∀ j, j < k → in1 pa pb ((edL (normI pa)).getD j edD) = true) ∧ Ext w1 wr) (fun i _ => n - (intOf i).toNat)
  case atStart => exact ⟨0, by omega, rfl, fun j hj => absurd hj (by omega), by (repeat (first | with_reducible exact Ext.refl _ | with_reducible assumption | ((with_reducible apply Src.ext); with_reducible assumption) | with_reducible refine Ext.alloc ?_ _ | with_reducible refine Ext.drew ?_ | with_reducible refine Ext.drewN ?_ _ | ((with_reducible refine Ext.setCell' ?_ ?_ _); solve | omega | simp | (simp; omega)) | (with_reducible refine Ext.trans ?_ (by with_reducible assumption))))⟩
  case round =>
    obtain ⟨k, hk, rfl, HI, hxr⟩ := hrel
    by_cases hlt : k < n
    · obtain ⟨g, off, a1, a2, a3, a4, rfl, hgr, he, d0, d1, d2, d3⟩ := (hS1.ext hxr).ed (k := k) (by rw [← HN.out]; exact hlt)
      have hkn : k < (normI pa).length := by rw [HLA.out, ← HEN.out]; exact hlt
      have he' : edAt (normI pa) k = ((a1, a2), (a3, a4)) := by rw [← edL_at hkn]; exact he
      have hbd := ed_bd (oks_normI HAO.out) hkn he'
      have HBD := Lib.hid hbd
      have HE := Lib.hid he
      clear he he' hbd hkn
      by_cases hm : midB pb a1 a2 a3 a4 = true
      · have HM : Hid (in1 pa pb ((edL (normI pa)).getD k edD) = false) := Lib.hid (by rw [show (edL (normI pa)).getD k edD = ((a1, a2), (a3, a4)) from HE.out]; exact in1_no1 hm)
        have hc : ∀ W, SlAt W 2 encP B pb → Calls Tryz.prog 133 #[.slice B pb.length cb, .agg #[.int .i64 a1, .int .i64 a2, .int .i64 a3, .int .i64 a4]] W fun e w' => e = .returned (.bool true) ∧ Ext W w' := fun W h => as_bool (i_isMiddleIn _ _ pb _ _ _ _ _ h hb0 hbl HBO.out HBD.out.1 HBD.out.2) hm
        have HC := Lib.hid hc
        clear hm hc
        go_wp2_with fail
        refine (HC.out _ ((hB.ext hx1).ext (by (repeat (first | with_reducible exact Ext.refl _ | with_reducible assumption | ((with_reducible apply Src.ext); with_reducible assumption) | with_reducible refine Ext.alloc ?_ _ | with_reducible refine Ext.drew ?_ | with_reducible refine Ext.drewN ?_ _ | ((with_reducible refine Ext.setCell' ?_ ?_ _); solve | omega | simp | (simp; omega)) | (with_reducible refine Ext.trans ?_ (by with_reducible assumption))))))).mono ?_
        rintro e w2 ⟨rfl, hx2⟩
        go_wp2
        go_ret
        exact ⟨ret_bool (all_no (d := edD) (by rw [← HN.out]; exact hlt) HM.out), by (repeat (first | with_reducible exact Ext.refl _ | with_reducible assumption | ((with_reducible apply Src.ext); with_reducible assumption) | with_reducible refine Ext.alloc ?_ _ | with_reducible refine Ext.drew ?_ | with_reducible refine Ext.drewN ?_ _ | ((with_reducible refine Ext.setCell' ?_ ?_ _); solve | omega | simp | (simp; omega)) | (with_reducible refine Ext.trans ?_ (by with_reducible assumption))))⟩
      · have hm' : midB pb a1 a2 a3 a4 = false := Bool.eq_false_iff.2 hm
        have HM : Hid (midE pb ((edL (normI pa)).getD k edD) = false) := Lib.hid (by rw [show (edL (normI pa)).getD k edD = ((a1, a2), (a3, a4)) from HE.out]; exact hm')
        have hc : ∀ W, SlAt W 2 encP B pb → Calls Tryz.prog 133 #[.slice B pb.length cb, .agg #[.int .i64 a1, .int .i64 a2, .int .i64 a3, .int .i64 a4]] W fun e w' => e = .returned (.bool false) ∧ Ext W w' := fun W h => as_bool (i_isMiddleIn _ _ pb _ _ _ _ _ h hb0 hbl HBO.out HBD.out.1 HBD.out.2) hm'
        have HC := Lib.hid hc
        clear hm hm' hc
        go_wp2_with fail
        refine (HC.out _ ((hB.ext hx1).ext (by (repeat (first | with_reducible exact Ext.refl _ | with_reducible assumption | ((with_reducible apply Src.ext); with_reducible assumption) | with_reducible refine Ext.alloc ?_ _ | with_reducible refine Ext.drew ?_ | with_reducible refine Ext.drewN ?_ _ | ((with_reducible refine Ext.setCell' ?_ ?_ _); solve | omega | simp | (simp; omega)) | (with_reducible refine Ext.trans ?_ (by with_reducible assumption))))))).mono ?_
        rintro e w2 ⟨rfl, hx2⟩
        have b6 : Blk w2 wr.heap.size 151 #[.int .i64 a1, .int .i64 a2, .int .i64 a3, .int .i64 a4] := by (repeat (first | with_reducible assumption | ((with_reducible apply Blk.new); solve | simp | rfl) | with_reducible apply Blk.drew | with_reducible apply Blk.drewN | ((with_reducible apply Blk.far'); solve | omega | simp | (simp; omega)) | with_reducible apply Blk.set_ | with_reducible apply Blk.alloc | ((with_reducible apply Blk.ext'); with_reducible assumption) | ((with_reducible apply Blk.but'); (with_reducible assumption); solve | omega | (simp; omega))))
        have hX2 : Ext w1 w2 := by (repeat (first | with_reducible exact Ext.refl _ | with_reducible assumption | ((with_reducible apply Src.ext); with_reducible assumption) | with_reducible refine Ext.alloc ?_ _ | with_reducible refine Ext.drew ?_ | with_reducible refine Ext.drewN ?_ _ | ((with_reducible refine Ext.setCell' ?_ ?_ _); solve | omega | simp | (simp; omega)) | (with_reducible refine Ext.trans ?_ (by with_reducible assumption))))
        clear hx2 d0 d1 d2 d3 hxr
        go_wp2_with fail
        refine (i_edgesOf _ _ pb _ ((hB.ext hx1).ext hX2) hb0 hbl HBO.out).mono ?_
        rintro e w3 ⟨v3, rfl, hO3, hx3⟩
        obtain ⟨A3, c3, rfl, hS3, _, _, _⟩ := hO3.sl len_encE
        have hfn : (edL (normI pb)).length = pb.length := by rw [edL_len, HLB.out]
        obtain ⟨n', hn'⟩ : ∃ n', n' = (edL (normI pb)).length := ⟨_, rfl⟩
        rw [← hn'] at hfn ⊢
        have HN' := Lib.hid hn'
        have HFN := Lib.hid hfn
        have b63 := b6.ext hx3
        have hX3 := hX2.trans hx3
        clear hO3 hn' b6 hx3 hX2
        go_wp2
        generalize wr.heap.size = nb at b63 ⊢
        have HGR := Lib.hid hgr
        clear hgr
        go_loopw [22] (fun i wi => ∃ m : Nat, m ≤ n' ∧ i = .int .i64 m ∧ Hid (∀ j, j < m → in2 pa ((edL (normI pa)).getD k edD) ((edL (normI pb)).getD j edD) = true) ∧ Blk wi nb 151 #[.int .i64 a1, .int .i64 a2, .int .i64 a3, .int .i64 a4] ∧ Ext w3 wi) (fun i _ => n' - (intOf i).toNat)
        case atStart => exact ⟨0, by omega, rfl, fun j hj => absurd hj (by omega), by (repeat (first | with_reducible assumption | ((with_reducible apply Blk.new); solve | simp | rfl) | with_reducible apply Blk.drew | with_reducible apply Blk.drewN | ((with_reducible apply Blk.far'); solve | omega | simp | (simp; omega)) | with_reducible apply Blk.set_ | with_reducible apply Blk.alloc | ((with_reducible apply Blk.ext'); with_reducible assumption) | ((with_reducible apply Blk.but'); (with_reducible assumption); solve | omega | (simp; omega)))), by (repeat (first | with_reducible exact Ext.refl _ | with_reducible assumption | ((with_reducible apply Src.ext); with_reducible assumption) | with_reducible refine Ext.alloc ?_ _ | with_reducible refine Ext.drew ?_ | with_reducible refine Ext.drewN ?_ _ | ((with_reducible refine Ext.setCell' ?_ ?_ _); solve | omega | simp | (simp; omega)) | (with_reducible refine Ext.trans ?_ (by with_reducible assumption))))⟩
        case round =>
          obtain ⟨m, hm, rfl, HJ, b6, hxi⟩ := hrel
          have x0 : wr.cell? ⟨nb, 0, none⟩ = some (.int .i64 a1) := b6.cell 0
          have x1 : wr.cell? ⟨nb, 1, none⟩ = some (.int .i64 a2) := b6.cell 1
          have x2 : wr.cell? ⟨nb, 2, none⟩ = some (.int .i64 a3) := b6.cell 2
          have x3 : wr.cell? ⟨nb, 3, none⟩ = some (.int .i64 a4) := b6.cell 3
          have l6 := b6.lt
          by_cases hlm : m < n'
          · obtain ⟨g', off', q1, q2, q3, q4, rfl, hgr', hf, f0, f1, f2, f3⟩ := (hS3.ext hxi).ed (k := m) (by rw [← HN'.out]; exact hlm)
            have hmn : m < (normI pb).length := by rw [HLB.out, ← HFN.out]; exact hlm
            have hf' : edAt (normI pb) m = ((q1, q2), (q3, q4)) := by rw [← edL_at hmn]; exact hf
            have hbd2 := ed_bd (oks_normI HBO.out) hmn hf'
            have HBD2 := Lib.hid hbd2
            have HF := Lib.hid hf
            clear hf hf' hbd2 hmn
            by_cases hfit : fitB a1 a2 a3 a4 q1 q2 q3 q4 = true
            · have hfE : fitE ((edL (normI pa)).getD k edD) ((edL (normI pb)).getD m edD) = true := by rw [show (edL (normI pa)).getD k edD = ((a1, a2), (a3, a4)) from HE.out, show (edL (normI pb)).getD m edD = ((q1, q2), (q3, q4)) from HF.out]; exact hfit
              have HFE := Lib.hid hfE
              have hci : ∀ W, Calls Tryz.prog 134 #[.agg #[.int .i64 a1, .int .i64 a2, .int .i64 a3, .int .i64 a4], .agg #[.int .i64 q1, .int .i64 q2, .int .i64 q3, .int .i64 q4]] W fun e w' => e = .returned (.bool true) ∧ Ext W w' := fun W => as_bool (i_fit _ _ _ _ _ _ _ _ _) hfit
              have HCI := Lib.hid hci
              clear hfE hfit hci
              by_cases hmi : midB pa q1 q2 q3 q4 = true
              · have HMI : Hid (in2 pa ((edL (normI pa)).getD k edD) ((edL (normI pb)).getD m edD) = false) := Lib.hid (in2_no2 (by rw [show (edL (normI pb)).getD m edD = ((q1, q2), (q3, q4)) from HF.out]; exact hmi))
                have hcm : ∀ W, SlAt W 2 encP A pa → Calls Tryz.prog 133 #[.slice A pa.length ca, .agg #[.int .i64 q1, .int .i64 q2, .int .i64 q3, .int .i64 q4]] W fun e w' => e = .returned (.bool true) ∧ Ext W w' := fun W h => as_bool (i_isMiddleIn _ _ pa _ _ _ _ _ h ha0 hal HAO.out HBD2.out.1 HBD2.out.2) hmi
                have HCM := Lib.hid hcm
                clear hmi hcm
                go_wp2_with (first | (go_at_call 134; refine (HCI.out _).mono ?_; rintro e w4 ⟨rfl, hx4⟩; obtain ⟨hc4, hf4⟩ := hx4.rules; have hs4 := hx4.size; (try simp at hs4); have := (show wr.heap.size < w4.heap.size from by omega)) | (go_at_call 133; refine (HCM.out _ (((hA.ext hx1).ext hX3).ext (by (repeat (first | with_reducible exact Ext.refl _ | with_reducible assumption | ((with_reducible apply Src.ext); with_reducible assumption) | with_reducible refine Ext.alloc ?_ _ | with_reducible refine Ext.drew ?_ | with_reducible refine Ext.drewN ?_ _ | ((with_reducible refine Ext.setCell' ?_ ?_ _); solve | omega | simp | (simp; omega)) | (with_reducible refine Ext.trans ?_ (by with_reducible assumption))))))).mono ?_; rintro e w5 ⟨rfl, hx5⟩; obtain ⟨hc5, hf5⟩ := hx5.rules; have hs5 := hx5.size; (try simp at hs5)))
                go_ret
                exact ⟨ret_bool (all_no (d := edD) (by rw [← HN.out]; exact hlt) (in1_no2 (all_no (d := edD) (by rw [← HN'.out]; exact hlm) HMI.out))), by (repeat (first | with_reducible exact Ext.refl _ | with_reducible assumption | ((with_reducible apply Src.ext); with_reducible assumption) | with_reducible refine Ext.alloc ?_ _ | with_reducible refine Ext.drew ?_ | with_reducible refine Ext.drewN ?_ _ | ((with_reducible refine Ext.setCell' ?_ ?_ _); solve | omega | simp | (simp; omega)) | (with_reducible refine Ext.trans ?_ (by with_reducible assumption))))⟩
              · have hmi' : midB pa q1 q2 q3 q4 = false := Bool.eq_false_iff.2 hmi
                have HMI : Hid (in2 pa ((edL (normI pa)).getD k edD) ((edL (normI pb)).getD m edD) = true) := Lib.hid (in2_yes HFE.out (by rw [show (edL (normI pb)).getD m edD = ((q1, q2), (q3, q4)) from HF.out]; exact hmi'))
                have hcm : ∀ W, SlAt W 2 encP A pa → Calls Tryz.prog 133 #[.slice A pa.length ca, .agg #[.int .i64 q1, .int .i64 q2, .int .i64 q3, .int .i64 q4]] W fun e w' => e = .returned (.bool false) ∧ Ext W w' := fun W h => as_bool (i_isMiddleIn _ _ pa _ _ _ _ _ h ha0 hal HAO.out HBD2.out.1 HBD2.out.2) hmi'
                have HCM := Lib.hid hcm
                have HJ2 := Lib.hid (upTo_succ HJ.out HMI.out)
                clear hmi hmi' hcm
                go_wp2_with (first | (go_at_call 134; refine (HCI.out _).mono ?_; rintro e w4 ⟨rfl, hx4⟩; obtain ⟨hc4, hf4⟩ := hx4.rules; have hs4 := hx4.size; (try simp at hs4); have := (show wr.heap.size < w4.heap.size from by omega)) | (go_at_call 133; refine (HCM.out _ (((hA.ext hx1).ext hX3).ext (by (repeat (first | with_reducible exact Ext.refl _ | with_reducible assumption | ((with_reducible apply Src.ext); with_reducible assumption) | with_reducible refine Ext.alloc ?_ _ | with_reducible refine Ext.drew ?_ | with_reducible refine Ext.drewN ?_ _ | ((with_reducible refine Ext.setCell' ?_ ?_ _); solve | omega | simp | (simp; omega)) | (with_reducible refine Ext.trans ?_ (by with_reducible assumption))))))).mono ?_; rintro e w5 ⟨rfl, hx5⟩; obtain ⟨hc5, hf5⟩ := hx5.rules; have hs5 := hx5.size; (try simp at hs5)))
                go_roundw
                case rel => exact ⟨m + 1, by omega, by go_num, HJ2, by (repeat (first | with_reducible assumption | ((with_reducible apply Blk.new); solve | simp | rfl) | with_reducible apply Blk.drew | with_reducible apply Blk.drewN | ((with_reducible apply Blk.far'); solve | omega | simp | (simp; omega)) | with_reducible apply Blk.set_ | with_reducible apply Blk.alloc | ((with_reducible apply Blk.ext'); with_reducible assumption) | ((with_reducible apply Blk.but'); (with_reducible assumption); solve | omega | (simp; omega)))), by (repeat (first | with_reducible exact Ext.refl _ | with_reducible assumption | ((with_reducible apply Src.ext); with_reducible assumption) | with_reducible refine Ext.alloc ?_ _ | with_reducible refine Ext.drew ?_ | with_reducible refine Ext.drewN ?_ _ | ((with_reducible refine Ext.setCell' ?_ ?_ _); solve | omega | simp | (simp; omega)) | (with_reducible refine Ext.trans ?_ (by with_reducible assumption))))⟩
                case measure => simp [intOf]; omega
            · have hfit' : fitB a1 a2 a3 a4 q1 q2 q3 q4 = false := Bool.eq_false_iff.2 hfit
              have HMI : Hid (in2 pa ((edL (normI pa)).getD k edD) ((edL (normI pb)).getD m edD) = false) := Lib.hid (in2_no1 (by rw [show (edL (normI pa)).getD k edD = ((a1, a2), (a3, a4)) from HE.out, show (edL (normI pb)).getD m edD = ((q1, q2), (q3, q4)) from HF.out]; exact hfit'))
              have hci : ∀ W, Calls Tryz.prog 134 #[.agg #[.int .i64 a1, .int .i64 a2, .int .i64 a3, .int .i64 a4], .agg #[.int .i64 q1, .int .i64 q2, .int .i64 q3, .int .i64 q4]] W fun e w' => e = .returned (.bool false) ∧ Ext W w' := fun W => as_bool (i_fit _ _ _ _ _ _ _ _ _) hfit'
              have HCI := Lib.hid hci
              clear hfit hfit' hci
              go_wp2_with (first | (go_at_call 134; refine (HCI.out _).mono ?_; rintro e w4 ⟨rfl, hx4⟩; obtain ⟨hc4, hf4⟩ := hx4.rules; have hs4 := hx4.size; (try simp at hs4); have := (show wr.heap.size < w4.heap.size from by omega)))
              go_ret
              exact ⟨ret_bool (all_no (d := edD) (by rw [← HN.out]; exact hlt) (in1_no2 (all_no (d := edD) (by rw [← HN'.out]; exact hlm) HMI.out))), by (repeat (first | with_reducible exact Ext.refl _ | with_reducible assumption | ((with_reducible apply Src.ext); with_reducible assumption) | with_reducible refine Ext.alloc ?_ _ | with_reducible refine Ext.drew ?_ | with_reducible refine Ext.drewN ?_ _ | ((with_reducible refine Ext.setCell' ?_ ?_ _); solve | omega | simp | (simp; omega)) | (with_reducible refine Ext.trans ?_ (by with_reducible assumption))))⟩
          · obtain rfl : m = n' := by omega
            have HI2 := Lib.hid (upTo_succ HI.out (in1_yes HM.out (all_yes (d := edD) (fun j hj => HJ.out j (by rw [HN'.out]; exact hj)))))
            go_wp2
            go_roundw
            case rel => exact ⟨k + 1, by omega, by go_num, HI2, by (repeat (first | with_reducible exact Ext.refl _ | with_reducible assumption | ((with_reducible apply Src.ext); with_reducible assumption) | with_reducible refine Ext.alloc ?_ _ | with_reducible refine Ext.drew ?_ | with_reducible refine Ext.drewN ?_ _ | ((with_reducible refine Ext.setCell' ?_ ?_ _); solve | omega | simp | (simp; omega)) | (with_reducible refine Ext.trans ?_ (by with_reducible assumption))))⟩
            case measure => simp [intOf]; omega
    · obtain rfl : k = n := by omega
      go_wp2
      go_ret
      exact ⟨ret_bool (all_yes (d := edD) (fun j hj => HI.out j (by rw [HN.out]; exact hj))), by (repeat (first | with_reducible exact Ext.refl _ | with_reducible assumption | ((with_reducible apply Src.ext); with_reducible assumption) | with_reducible refine Ext.alloc ?_ _ | with_reducible refine Ext.drew ?_ | with_reducible refine Ext.drewN ?_ _ | ((with_reducible refine Ext.setCell' ?_ ?_ _); solve | omega | simp | (simp; omega)) | (with_reducible refine Ext.trans ?_ (by with_reducible assumption))))⟩

end Go.Proofs.YtabdffponmmhoaaGreatDoor
