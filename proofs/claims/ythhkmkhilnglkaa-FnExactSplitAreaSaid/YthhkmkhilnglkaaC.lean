/- Contracts of the exported functions of points, and the laws on them, walked over the translation. -/
import Derived.Test.YthhkmkhilnglkaaB
import Derived.Test.YthhkmkhilnglkaaE
import Derived.WalkLawsBesides
import Derived.WalkSpells
import Derived.Lib.MinMax
import Derived.Outline
namespace Go.Proofs.Ythhkmkhilnglkaa
open Go.RowKit
attribute [local go_sem] ExtOf.cell ExtOf.frozen


theorem all_false {ps : List (Int × Int)} {k : Nat} (hk : k < ps.length) (h : (!okP ps[k].1 ps[k].2) = true) : (ps.all fun p => okP p.1 p.2) = false := by
  rw [List.all_eq_false]
  exact ⟨ps[k], List.getElem_mem hk, by simpa using h⟩
theorem all_succ {ps : List (Int × Int)} {k : Nat} (hk : k < ps.length) (hal : (ps.take k).all (fun p => okP p.1 p.2) = true) (h : (!okP ps[k].1 ps[k].2) = false) : (ps.take (k + 1)).all (fun p => okP p.1 p.2) = true := by
  rw [List.take_succ_eq_append_getElem hk, List.all_append, hal]
  simpa using h

theorem i_arePoints (A : Option Addr) (c : Nat) (ps : List (Int × Int)) (w : World) (h : SlAt w 2 encP A ps) (hl : ps.length ≤ 1048576) :
    Calls Try.prog 85 #[.slice A ps.length c] w fun e w' => e = .returned (.bool (ps.all fun p => okP p.1 p.2)) ∧ Ext w w' := by
  go_enter Try.func85, Try.ntmps85
  go_wp2
  go_loopw [7] (fun i wr => ∃ k : Nat, k ≤ ps.length ∧ i = .int .i64 k ∧ (ps.take k).all (fun p => okP p.1 p.2) = true ∧ Ext w wr) (fun i _ => ps.length - (intOf i).toNat)
  case atStart => exact ⟨0, Nat.zero_le _, rfl, rfl, Ext.refl _⟩
  case round =>
    obtain ⟨k, hk, rfl, hal, hx⟩ := hrel
    by_cases hlt : k < ps.length
    · obtain ⟨b, off, rfl, hb, h0, h1⟩ := (h.ext hx).pt hlt
      go_wp2_with (first | (go_at_call 81; refine (i_IsPoint _ _ _).mono ?_; rintro e w1 ⟨rfl, hx1⟩; obtain ⟨hc1, hf1⟩ := hx1.rules; have hs1 := hx1.size; (try simp at hs1)))
      · go_ret
        exact ⟨congrArg (fun b => Ending.returned (.bool b)) (all_false (k := k) hlt (by assumption)).symm, by (repeat (first | with_reducible exact Ext.refl _ | with_reducible assumption | ((with_reducible apply Src.ext); with_reducible assumption) | with_reducible refine Ext.alloc ?_ _ | with_reducible refine Ext.drew ?_ | with_reducible refine Ext.drewN ?_ _ | ((with_reducible refine Ext.setCell' ?_ ?_ _); solve | omega | simp | (simp; omega)) | (with_reducible refine Ext.trans ?_ (by with_reducible assumption))))⟩
      · go_roundw
        case rel => exact ⟨k + 1, by omega, by go_num, all_succ hlt hal (by assumption), by (repeat (first | with_reducible exact Ext.refl _ | with_reducible assumption | ((with_reducible apply Src.ext); with_reducible assumption) | with_reducible refine Ext.alloc ?_ _ | with_reducible refine Ext.drew ?_ | with_reducible refine Ext.drewN ?_ _ | ((with_reducible refine Ext.setCell' ?_ ?_ _); solve | omega | simp | (simp; omega)) | (with_reducible refine Ext.trans ?_ (by with_reducible assumption))))⟩
        case measure => simp [intOf]; omega
    · go_wp2
      go_ret
      rw [List.take_of_length_le (by omega)] at hal
      exact ⟨congrArg (fun b => Ending.returned (.bool b)) hal.symm, by (repeat (first | with_reducible exact Ext.refl _ | with_reducible assumption | ((with_reducible apply Src.ext); with_reducible assumption) | with_reducible refine Ext.alloc ?_ _ | with_reducible refine Ext.drew ?_ | with_reducible refine Ext.drewN ?_ _ | ((with_reducible refine Ext.setCell' ?_ ?_ _); solve | omega | simp | (simp; omega)) | (with_reducible refine Ext.trans ?_ (by with_reducible assumption))))⟩

theorem s_arePoints (A : Option Addr) (c : Nat) (ps : List (Int × Int)) (w : World) (h : SlAt w 2 encP A ps) (hl : ps.length ≤ 1048576) :
    Calls Try.prog 87 #[.slice A ps.length c] w fun e w' => e = .returned (.bool (ps.all fun p => okP p.1 p.2)) ∧ Ext w w' := by
  go_enter Try.func87, Try.ntmps87
  go_wp2
  go_loopw [3] (fun i wr => ∃ k : Nat, k ≤ ps.length ∧ i = .int .i64 k ∧ (ps.take k).all (fun p => okP p.1 p.2) = true ∧ Ext w wr) (fun i _ => ps.length - (intOf i).toNat)
  case atStart => exact ⟨0, Nat.zero_le _, rfl, rfl, Ext.refl _⟩
  case round =>
    obtain ⟨k, hk, rfl, hal, hx⟩ := hrel
    by_cases hlt : k < ps.length
    · obtain ⟨b, off, rfl, hb, h0, h1⟩ := (h.ext hx).pt hlt
      go_wp2_with (first | (go_at_call 79; refine (s_IsPoint _ _ _).mono ?_; rintro e w1 ⟨rfl, hx1⟩; obtain ⟨hc1, hf1⟩ := hx1.rules; have hs1 := hx1.size; (try simp at hs1)))
      · go_ret
        exact ⟨congrArg (fun b => Ending.returned (.bool b)) (all_false (k := k) hlt (by assumption)).symm, by (repeat (first | with_reducible exact Ext.refl _ | with_reducible assumption | ((with_reducible apply Src.ext); with_reducible assumption) | with_reducible refine Ext.alloc ?_ _ | with_reducible refine Ext.drew ?_ | with_reducible refine Ext.drewN ?_ _ | ((with_reducible refine Ext.setCell' ?_ ?_ _); solve | omega | simp | (simp; omega)) | (with_reducible refine Ext.trans ?_ (by with_reducible assumption))))⟩
      · go_roundw
        case rel => exact ⟨k + 1, by omega, by go_num, all_succ hlt hal (by assumption), by (repeat (first | with_reducible exact Ext.refl _ | with_reducible assumption | ((with_reducible apply Src.ext); with_reducible assumption) | with_reducible refine Ext.alloc ?_ _ | with_reducible refine Ext.drew ?_ | with_reducible refine Ext.drewN ?_ _ | ((with_reducible refine Ext.setCell' ?_ ?_ _); solve | omega | simp | (simp; omega)) | (with_reducible refine Ext.trans ?_ (by with_reducible assumption))))⟩
        case measure => simp [intOf]; omega
    · go_wp2
      go_ret
      rw [List.take_of_length_le (by omega)] at hal
      exact ⟨congrArg (fun b => Ending.returned (.bool b)) hal.symm, by (repeat (first | with_reducible exact Ext.refl _ | with_reducible assumption | ((with_reducible apply Src.ext); with_reducible assumption) | with_reducible refine Ext.alloc ?_ _ | with_reducible refine Ext.drew ?_ | with_reducible refine Ext.drewN ?_ _ | ((with_reducible refine Ext.setCell' ?_ ?_ _); solve | omega | simp | (simp; omega)) | (with_reducible refine Ext.trans ?_ (by with_reducible assumption))))⟩

def oks (ps : List (Int × Int)) : Bool := ps.all fun p => okP p.1 p.2
def okC (ps : List (Int × Int)) : Int := if oks ps then 0 else 1
def turnR (ax az bx bz cx cz : Int) : Int := if oks [(ax, az), (bx, bz), (cx, cz)] then turnW ax az bx bz cx cz else 0
def onR (ax az bx bz cx cz : Int) : Bool := if oks [(ax, az), (bx, bz), (cx, cz)] then onW ax az bx bz cx cz else false
def sqR (ax az bx bz : Int) : Int := if oks [(ax, az), (bx, bz)] then sqW ax az bx bz else 0
theorem i_arePoints' (b : Nat) (c : Nat) (cs : Array Value) (t : TypeId) (ps : List (Int × Int)) (n : Nat) (w : World) (hb : w.heap[b]? = some (.cells cs t (0, 0))) (hcs : cs.toList = ps.flatMap encP) (hn : n = ps.length) (hl : ps.length ≤ 1048576) :
    Calls Try.prog 85 #[.slice (some ⟨b, 0, none⟩) n c] w fun e w' => e = .returned (.bool (oks ps)) ∧ Ext w w' := by
  subst hn
  exact i_arePoints _ _ _ _ (SlAt.block hb hcs (fun _ => rfl)) hl
theorem s_arePoints' (b : Nat) (c : Nat) (cs : Array Value) (t : TypeId) (ps : List (Int × Int)) (n : Nat) (w : World) (hb : w.heap[b]? = some (.cells cs t (0, 0))) (hcs : cs.toList = ps.flatMap encP) (hn : n = ps.length) (hl : ps.length ≤ 1048576) :
    Calls Try.prog 87 #[.slice (some ⟨b, 0, none⟩) n c] w fun e w' => e = .returned (.bool (oks ps)) ∧ Ext w w' := by
  subst hn
  exact s_arePoints _ _ _ _ (SlAt.block hb hcs (fun _ => rfl)) hl

theorem i_TurnOf (ax az bx bz cx cz : Int) (w : World) : Calls Try.prog 29 #[.agg #[.int .i64 ax, .int .i64 az], .agg #[.int .i64 bx, .int .i64 bz], .agg #[.int .i64 cx, .int .i64 cz]] w
    fun e w' => e = .returned (.tuple #[.int .i64 (turnR ax az bx bz cx cz), .int .i64 (okC [(ax, az), (bx, bz), (cx, cz)])]) ∧ Ext w w' := by
  go_enter Try.func29, Try.ntmps29
  go_wp2_with (first | (go_at_call 85; refine (i_arePoints' _ _ _ _ [(ax, az), (bx, bz), (cx, cz)] _ _ (heap_at (by simp)) (by rfl) (by rfl) (by simp)).mono ?_; rintro e w1 ⟨rfl, hx1⟩; obtain ⟨hc1, hf1⟩ := hx1.rules; have hs1 := hx1.size; (try simp at hs1); have := (show w.heap.size < w1.heap.size from by omega); have := (show w.heap.size + 1 < w1.heap.size from by omega); have := (show w.heap.size + 1 + 1 < w1.heap.size from by omega)) | (go_at_call 86; refine (i_turn _ _ _ _ _ _ _).mono ?_; rintro e w2 ⟨rfl, hx2⟩; obtain ⟨hc2, hf2⟩ := hx2.rules; have hs2 := hx2.size; (try simp at hs2)))
  all_goals go_ret2
  all_goals refine ⟨?_, by (repeat (first | with_reducible exact Ext.refl _ | with_reducible assumption | ((with_reducible apply Src.ext); with_reducible assumption) | with_reducible refine Ext.alloc ?_ _ | with_reducible refine Ext.drew ?_ | with_reducible refine Ext.drewN ?_ _ | ((with_reducible refine Ext.setCell' ?_ ?_ _); solve | omega | simp | (simp; omega)) | (with_reducible refine Ext.trans ?_ (by with_reducible assumption))))⟩
  all_goals (unfold okC turnR; simp_all)

theorem i_IsOn (ax az bx bz cx cz : Int) (w : World) : Calls Try.prog 37 #[.agg #[.int .i64 ax, .int .i64 az], .agg #[.int .i64 bx, .int .i64 bz], .agg #[.int .i64 cx, .int .i64 cz]] w
    fun e w' => e = .returned (.tuple #[.bool (onR ax az bx bz cx cz), .int .i64 (okC [(ax, az), (bx, bz), (cx, cz)])]) ∧ Ext w w' := by
  go_enter Try.func37, Try.ntmps37
  go_wp2_with (first | (go_at_call 85; refine (i_arePoints' _ _ _ _ [(ax, az), (bx, bz), (cx, cz)] _ _ (heap_at (by simp)) (by rfl) (by rfl) (by simp)).mono ?_; rintro e w1 ⟨rfl, hx1⟩; obtain ⟨hc1, hf1⟩ := hx1.rules; have hs1 := hx1.size; (try simp at hs1); have := (show w.heap.size < w1.heap.size from by omega); have := (show w.heap.size + 1 < w1.heap.size from by omega); have := (show w.heap.size + 1 + 1 < w1.heap.size from by omega)) | (go_at_call 95; refine (i_isOn _ _ _ _ _ _ _).mono ?_; rintro e w2 ⟨rfl, hx2⟩; obtain ⟨hc2, hf2⟩ := hx2.rules; have hs2 := hx2.size; (try simp at hs2)))
  all_goals go_ret2
  all_goals refine ⟨?_, by (repeat (first | with_reducible exact Ext.refl _ | with_reducible assumption | ((with_reducible apply Src.ext); with_reducible assumption) | with_reducible refine Ext.alloc ?_ _ | with_reducible refine Ext.drew ?_ | with_reducible refine Ext.drewN ?_ _ | ((with_reducible refine Ext.setCell' ?_ ?_ _); solve | omega | simp | (simp; omega)) | (with_reducible refine Ext.trans ?_ (by with_reducible assumption))))⟩
  all_goals (unfold okC onR; simp_all)

theorem i_SquaredDistance (ax az bx bz : Int) (w : World) : Calls Try.prog 34 #[.agg #[.int .i64 ax, .int .i64 az], .agg #[.int .i64 bx, .int .i64 bz]] w
    fun e w' => e = .returned (.tuple #[.int .i64 (sqR ax az bx bz), .int .i64 (okC [(ax, az), (bx, bz)])]) ∧ Ext w w' := by
  go_enter Try.func34, Try.ntmps34
  go_wp2_with (first | (go_at_call 85; refine (i_arePoints' _ _ _ _ [(ax, az), (bx, bz)] _ _ (heap_at (by simp)) (by rfl) (by rfl) (by simp)).mono ?_; rintro e w1 ⟨rfl, hx1⟩; obtain ⟨hc1, hf1⟩ := hx1.rules; have hs1 := hx1.size; (try simp at hs1); have := (show w.heap.size < w1.heap.size from by omega); have := (show w.heap.size + 1 < w1.heap.size from by omega)) | (go_at_call 92; refine (i_squared _ _ _ _ _).mono ?_; rintro e w2 ⟨rfl, hx2⟩; obtain ⟨hc2, hf2⟩ := hx2.rules; have hs2 := hx2.size; (try simp at hs2)))
  all_goals go_ret2
  all_goals refine ⟨?_, by (repeat (first | with_reducible exact Ext.refl _ | with_reducible assumption | ((with_reducible apply Src.ext); with_reducible assumption) | with_reducible refine Ext.alloc ?_ _ | with_reducible refine Ext.drew ?_ | with_reducible refine Ext.drewN ?_ _ | ((with_reducible refine Ext.setCell' ?_ ?_ _); solve | omega | simp | (simp; omega)) | (with_reducible refine Ext.trans ?_ (by with_reducible assumption))))⟩
  all_goals (unfold okC sqR; simp_all)

theorem s_TurnOf (ax az bx bz cx cz : Int) (w : World) : Calls Try.prog 30 #[.agg #[.int .i64 ax, .int .i64 az], .agg #[.int .i64 bx, .int .i64 bz], .agg #[.int .i64 cx, .int .i64 cz]] w
    fun e w' => e = .returned (.tuple #[.int .i64 (turnR ax az bx bz cx cz), .int .i64 (okC [(ax, az), (bx, bz), (cx, cz)])]) ∧ Ext w w' := by
  go_enter Try.func30, Try.ntmps30
  go_wp2_with (first | (go_at_call 87; refine (s_arePoints' _ _ _ _ [(ax, az), (bx, bz), (cx, cz)] _ _ (heap_at (by simp)) (by rfl) (by rfl) (by simp)).mono ?_; rintro e w1 ⟨rfl, hx1⟩; obtain ⟨hc1, hf1⟩ := hx1.rules; have hs1 := hx1.size; (try simp at hs1); have := (show w.heap.size < w1.heap.size from by omega); have := (show w.heap.size + 1 < w1.heap.size from by omega); have := (show w.heap.size + 1 + 1 < w1.heap.size from by omega)) | (go_at_call 88; refine (s_turn _ _ _ _ _ _ _).mono ?_; rintro e w2 ⟨rfl, hx2⟩; obtain ⟨hc2, hf2⟩ := hx2.rules; have hs2 := hx2.size; (try simp at hs2)))
  all_goals go_ret2
  all_goals refine ⟨?_, by (repeat (first | with_reducible exact Ext.refl _ | with_reducible assumption | ((with_reducible apply Src.ext); with_reducible assumption) | with_reducible refine Ext.alloc ?_ _ | with_reducible refine Ext.drew ?_ | with_reducible refine Ext.drewN ?_ _ | ((with_reducible refine Ext.setCell' ?_ ?_ _); solve | omega | simp | (simp; omega)) | (with_reducible refine Ext.trans ?_ (by with_reducible assumption))))⟩
  all_goals (unfold okC turnR; simp_all)

theorem s_IsOn (ax az bx bz cx cz : Int) (w : World) : Calls Try.prog 38 #[.agg #[.int .i64 ax, .int .i64 az], .agg #[.int .i64 bx, .int .i64 bz], .agg #[.int .i64 cx, .int .i64 cz]] w
    fun e w' => e = .returned (.tuple #[.bool (onR ax az bx bz cx cz), .int .i64 (okC [(ax, az), (bx, bz), (cx, cz)])]) ∧ Ext w w' := by
  go_enter Try.func38, Try.ntmps38
  go_wp2_with (first | (go_at_call 87; refine (s_arePoints' _ _ _ _ [(ax, az), (bx, bz), (cx, cz)] _ _ (heap_at (by simp)) (by rfl) (by rfl) (by simp)).mono ?_; rintro e w1 ⟨rfl, hx1⟩; obtain ⟨hc1, hf1⟩ := hx1.rules; have hs1 := hx1.size; (try simp at hs1); have := (show w.heap.size < w1.heap.size from by omega); have := (show w.heap.size + 1 < w1.heap.size from by omega); have := (show w.heap.size + 1 + 1 < w1.heap.size from by omega)) | (go_at_call 96; refine (s_isOn _ _ _ _ _ _ _).mono ?_; rintro e w2 ⟨rfl, hx2⟩; obtain ⟨hc2, hf2⟩ := hx2.rules; have hs2 := hx2.size; (try simp at hs2)))
  all_goals go_ret2
  all_goals refine ⟨?_, by (repeat (first | with_reducible exact Ext.refl _ | with_reducible assumption | ((with_reducible apply Src.ext); with_reducible assumption) | with_reducible refine Ext.alloc ?_ _ | with_reducible refine Ext.drew ?_ | with_reducible refine Ext.drewN ?_ _ | ((with_reducible refine Ext.setCell' ?_ ?_ _); solve | omega | simp | (simp; omega)) | (with_reducible refine Ext.trans ?_ (by with_reducible assumption))))⟩
  all_goals (unfold okC onR; simp_all)

theorem s_SquaredDistance (ax az bx bz : Int) (w : World) : Calls Try.prog 35 #[.agg #[.int .i64 ax, .int .i64 az], .agg #[.int .i64 bx, .int .i64 bz]] w
    fun e w' => e = .returned (.tuple #[.int .i64 (sqR ax az bx bz), .int .i64 (okC [(ax, az), (bx, bz)])]) ∧ Ext w w' := by
  go_enter Try.func35, Try.ntmps35
  go_wp2_with (first | (go_at_call 87; refine (s_arePoints' _ _ _ _ [(ax, az), (bx, bz)] _ _ (heap_at (by simp)) (by rfl) (by rfl) (by simp)).mono ?_; rintro e w1 ⟨rfl, hx1⟩; obtain ⟨hc1, hf1⟩ := hx1.rules; have hs1 := hx1.size; (try simp at hs1); have := (show w.heap.size < w1.heap.size from by omega); have := (show w.heap.size + 1 < w1.heap.size from by omega)) | (go_at_call 93; refine (s_squared _ _ _ _ _).mono ?_; rintro e w2 ⟨rfl, hx2⟩; obtain ⟨hc2, hf2⟩ := hx2.rules; have hs2 := hx2.size; (try simp at hs2)))
  all_goals go_ret2
  all_goals refine ⟨?_, by (repeat (first | with_reducible exact Ext.refl _ | with_reducible assumption | ((with_reducible apply Src.ext); with_reducible assumption) | with_reducible refine Ext.alloc ?_ _ | with_reducible refine Ext.drew ?_ | with_reducible refine Ext.drewN ?_ _ | ((with_reducible refine Ext.setCell' ?_ ?_ _); solve | omega | simp | (simp; omega)) | (with_reducible refine Ext.trans ?_ (by with_reducible assumption))))⟩
  all_goals (unfold okC sqR; simp_all)

def crossC (ax az bx bz cx cz dx dz : Int) : Int := if oks [(ax, az), (bx, bz), (cx, cz), (dx, dz)] then (if eqP ax az bx bz || eqP cx cz dx dz then 5 else 0) else 1
def dirC (ax az bx bz : Int) : Int := if oks [(ax, az), (bx, bz)] then (if eqP ax az bx bz then 5 else 0) else 1
def crossR (ax az bx bz cx cz dx dz : Int) : Bool := if crossC ax az bx bz cx cz dx dz = 0 then crossW ax az bx bz cx cz dx dz else false
def dirR (ax az bx bz : Int) : Int := if dirC ax az bx bz = 0 then dirZ (bx - ax) (bz - az) else 0
theorem ne_of_eqP {ax az bx bz : Int} (h : eqP ax az bx bz = false) : ¬ (ax = bx ∧ az = bz) := fun e => by rw [eqP_iff.2 e] at h; cases h
theorem oks_two {ax az bx bz : Int} (h : (!oks [(ax, az), (bx, bz)]) = false) : okP ax az = true ∧ okP bx bz = true := by simpa [oks] using h
theorem oks_two' {ax az bx bz : Int} (h : oks [(ax, az), (bx, bz)] = true) : okP ax az = true ∧ okP bx bz = true := by simpa [oks] using h

theorem i_DoCross (ax az bx bz cx cz dx dz : Int) (w : World) : Calls Try.prog 40 #[.agg #[.int .i64 ax, .int .i64 az], .agg #[.int .i64 bx, .int .i64 bz], .agg #[.int .i64 cx, .int .i64 cz], .agg #[.int .i64 dx, .int .i64 dz]] w
    fun e w' => e = .returned (.tuple #[.bool (crossR ax az bx bz cx cz dx dz), .int .i64 (crossC ax az bx bz cx cz dx dz)]) ∧ Ext w w' := by
  go_enter Try.func40, Try.ntmps40
  go_wp2_with (first | (go_at_call 85; refine (i_arePoints' _ _ _ _ [(ax, az), (bx, bz), (cx, cz), (dx, dz)] _ _ (heap_at (by simp)) (by rfl) (by rfl) (by simp)).mono ?_; rintro e w1 ⟨rfl, hx1⟩; obtain ⟨hc1, hf1⟩ := hx1.rules; have hs1 := hx1.size; (try simp at hs1); have := (show w.heap.size < w1.heap.size from by omega); have := (show w.heap.size + 1 < w1.heap.size from by omega); have := (show w.heap.size + 1 + 1 < w1.heap.size from by omega); have := (show w.heap.size + 1 + 1 + 1 < w1.heap.size from by omega)) | (go_at_call 97; refine (i_doCross _ _ _ _ _ _ _ _ _).mono ?_; rintro e w2 ⟨rfl, hx2⟩; obtain ⟨hc2, hf2⟩ := hx2.rules; have hs2 := hx2.size; (try simp at hs2)))
  all_goals go_ret2
  all_goals refine ⟨?_, by (repeat (first | with_reducible exact Ext.refl _ | with_reducible assumption | ((with_reducible apply Src.ext); with_reducible assumption) | with_reducible refine Ext.alloc ?_ _ | with_reducible refine Ext.drew ?_ | with_reducible refine Ext.drewN ?_ _ | ((with_reducible refine Ext.setCell' ?_ ?_ _); solve | omega | simp | (simp; omega)) | (with_reducible refine Ext.trans ?_ (by with_reducible assumption))))⟩
  all_goals (unfold crossR crossC; simp_all)

theorem i_DirectionOf (ax az bx bz : Int) (w : World) : Calls Try.prog 32 #[.agg #[.int .i64 ax, .int .i64 az], .agg #[.int .i64 bx, .int .i64 bz]] w
    fun e w' => e = .returned (.tuple #[.int .i64 (dirR ax az bx bz), .int .i64 (dirC ax az bx bz)]) ∧ Ext w w' := by
  go_enter Try.func32, Try.ntmps32
  go_wp2_with (first | (go_at_call 85; refine (i_arePoints' _ _ _ _ [(ax, az), (bx, bz)] _ _ (heap_at (by simp)) (by rfl) (by rfl) (by simp)).mono ?_; rintro e w1 ⟨rfl, hx1⟩; obtain ⟨hc1, hf1⟩ := hx1.rules; have hs1 := hx1.size; (try simp at hs1); have := (show w.heap.size < w1.heap.size from by omega); have := (show w.heap.size + 1 < w1.heap.size from by omega)) | (go_at_call 90; refine (i_direction _ _ _ _ _ (oks_two (by assumption)).1 (oks_two (by assumption)).2).mono ?_; rintro e w2 ⟨rfl, hx2⟩; obtain ⟨hc2, hf2⟩ := hx2.rules; have hs2 := hx2.size; (try simp at hs2)))
  all_goals go_ret2
  all_goals refine ⟨?_, by (repeat (first | with_reducible exact Ext.refl _ | with_reducible assumption | ((with_reducible apply Src.ext); with_reducible assumption) | with_reducible refine Ext.alloc ?_ _ | with_reducible refine Ext.drew ?_ | with_reducible refine Ext.drewN ?_ _ | ((with_reducible refine Ext.setCell' ?_ ?_ _); solve | omega | simp | (simp; omega)) | (with_reducible refine Ext.trans ?_ (by with_reducible assumption))))⟩
  all_goals (unfold dirR dirC; simp_all)

theorem s_DoCross (ax az bx bz cx cz dx dz : Int) (w : World) : Calls Try.prog 41 #[.agg #[.int .i64 ax, .int .i64 az], .agg #[.int .i64 bx, .int .i64 bz], .agg #[.int .i64 cx, .int .i64 cz], .agg #[.int .i64 dx, .int .i64 dz]] w
    fun e w' => e = .returned (.tuple #[.bool (crossR ax az bx bz cx cz dx dz), .int .i64 (crossC ax az bx bz cx cz dx dz)]) ∧ Ext w w' := by
  go_enter Try.func41, Try.ntmps41
  go_wp2_with (first | (go_at_call 87; refine (s_arePoints' _ _ _ _ [(ax, az), (bx, bz), (cx, cz), (dx, dz)] _ _ (heap_at (by simp)) (by rfl) (by rfl) (by simp)).mono ?_; rintro e w1 ⟨rfl, hx1⟩; obtain ⟨hc1, hf1⟩ := hx1.rules; have hs1 := hx1.size; (try simp at hs1); have := (show w.heap.size < w1.heap.size from by omega); have := (show w.heap.size + 1 < w1.heap.size from by omega); have := (show w.heap.size + 1 + 1 < w1.heap.size from by omega); have := (show w.heap.size + 1 + 1 + 1 < w1.heap.size from by omega)) | (go_at_call 98; refine (s_doCross _ _ _ _ _ _ _ _ _).mono ?_; rintro e w2 ⟨rfl, hx2⟩; obtain ⟨hc2, hf2⟩ := hx2.rules; have hs2 := hx2.size; (try simp at hs2)))
  all_goals go_ret2
  all_goals refine ⟨?_, by (repeat (first | with_reducible exact Ext.refl _ | with_reducible assumption | ((with_reducible apply Src.ext); with_reducible assumption) | with_reducible refine Ext.alloc ?_ _ | with_reducible refine Ext.drew ?_ | with_reducible refine Ext.drewN ?_ _ | ((with_reducible refine Ext.setCell' ?_ ?_ _); solve | omega | simp | (simp; omega)) | (with_reducible refine Ext.trans ?_ (by with_reducible assumption))))⟩
  all_goals (unfold crossR crossC; simp_all)

theorem s_DirectionOf (ax az bx bz : Int) (w : World) : Calls Try.prog 33 #[.agg #[.int .i64 ax, .int .i64 az], .agg #[.int .i64 bx, .int .i64 bz]] w
    fun e w' => e = .returned (.tuple #[.int .i64 (dirR ax az bx bz), .int .i64 (dirC ax az bx bz)]) ∧ Ext w w' := by
  go_enter Try.func33, Try.ntmps33
  go_wp2_with (first | (go_at_call 87; refine (s_arePoints' _ _ _ _ [(ax, az), (bx, bz)] _ _ (heap_at (by simp)) (by rfl) (by rfl) (by simp)).mono ?_; rintro e w1 ⟨rfl, hx1⟩; obtain ⟨hc1, hf1⟩ := hx1.rules; have hs1 := hx1.size; (try simp at hs1); have := (show w.heap.size < w1.heap.size from by omega); have := (show w.heap.size + 1 < w1.heap.size from by omega)) | (go_at_call 91; refine (s_direction _ _ _ _ _ (oks_two (by assumption)).1 (oks_two (by assumption)).2 (ne_of_eqP (by first | assumption | exact Bool.eq_false_iff.2 (by assumption)))).mono ?_; rintro e w2 ⟨rfl, hx2⟩; obtain ⟨hc2, hf2⟩ := hx2.rules; have hs2 := hx2.size; (try simp at hs2)))
  all_goals go_ret2
  all_goals refine ⟨?_, by (repeat (first | with_reducible exact Ext.refl _ | with_reducible assumption | ((with_reducible apply Src.ext); with_reducible assumption) | with_reducible refine Ext.alloc ?_ _ | with_reducible refine Ext.drew ?_ | with_reducible refine Ext.drewN ?_ _ | ((with_reducible refine Ext.setCell' ?_ ?_ _); solve | omega | simp | (simp; omega)) | (with_reducible refine Ext.trans ?_ (by with_reducible assumption))))⟩
  all_goals (unfold dirR dirC; simp_all)
end Go.Proofs.Ythhkmkhilnglkaa
