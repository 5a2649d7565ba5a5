/- Contracts of the rings: areas, borders, walked over the translation. -/
import Derived.Test.YteppjdoggjcdoaaT
import Derived.Test.YteppjdoggjcdoaaW
import Derived.Deep.DeepCutAuto
import Derived.RegionTactic
import Derived.BigRegion
import Derived.WalkLawsBesides
import Derived.WalkSpells
import Derived.Lib.MinMax
import Derived.Outline
namespace Go.Proofs.Yteppjdoggjcdoaa
open Go.RowKit
attribute [local go_sem] ExtOf.cell ExtOf.frozen





theorem oks_bd {ps : List (Int × Int)} (h : oks ps = true) (k : Nat) : (-1000 ≤ (ps.getD k (0, 0)).1 ∧ (ps.getD k (0, 0)).1 ≤ 1000) ∧ -1000 ≤ (ps.getD k (0, 0)).2 ∧ (ps.getD k (0, 0)).2 ≤ 1000 := by
  by_cases hk : k < ps.length
  · have := List.all_eq_true.1 h ps[k] (List.getElem_mem hk)
    simp [okP, inB] at this
    simp [List.getD, hk]
    omega
  · simp [List.getD, List.getElem?_eq_none (Nat.le_of_not_lt hk)]
theorem ptx_bd {ps : List (Int × Int)} (h : oks ps = true) (i : Int) : -1000 ≤ ptx ps i ∧ ptx ps i ≤ 1000 := (oks_bd h _).1
theorem ptz_bd {ps : List (Int × Int)} (h : oks ps = true) (i : Int) : -1000 ≤ ptz ps i ∧ ptz ps i ≤ 1000 := (oks_bd h _).2
theorem mul_bd {x y : Int} (hx : -1000 ≤ x ∧ x ≤ 1000) (hy : -1000 ≤ y ∧ y ≤ 1000) : -1000000 ≤ x * y ∧ x * y ≤ 1000000 := by
  have a := Int.mul_nonneg (show 0 ≤ 1000 - x by omega) (show 0 ≤ 1000 - y by omega)
  have b := Int.mul_nonneg (show 0 ≤ 1000 + x by omega) (show 0 ≤ 1000 + y by omega)
  have c := Int.mul_nonneg (show 0 ≤ 1000 - x by omega) (show 0 ≤ 1000 + y by omega)
  have d := Int.mul_nonneg (show 0 ≤ 1000 + x by omega) (show 0 ≤ 1000 - y by omega)
  simp only [Int.sub_mul, Int.mul_sub, Int.add_mul, Int.mul_add] at a b c d
  omega
/-- the sum over the first k edges, twice the area at the end -/
def areaTo (ps : List (Int × Int)) : Nat → Int
  | 0 => 0
  | k + 1 => areaTo ps k + (ptx ps k * ptz ps (k + 1) - ptz ps k * ptx ps (k + 1))
theorem areaTo_bd {ps : List (Int × Int)} (h : oks ps = true) : ∀ k : Nat, -(2000000 * (k : Int)) ≤ areaTo ps k ∧ areaTo ps k ≤ 2000000 * (k : Int)
  | 0 => by simp [areaTo]
  | k + 1 => by
    have h1 := areaTo_bd h k
    have h2 := mul_bd (ptx_bd h k) (ptz_bd h (k + 1))
    have h3 := mul_bd (ptz_bd h k) (ptx_bd h (k + 1))
    simp only [areaTo]
    omega
def areaZ (ps : List (Int × Int)) : Int := areaTo ps ps.length
set_option maxHeartbeats 800000 in
theorem i_area (A : Option Addr) (c : Nat) (ps : List (Int × Int)) (w : World) (h : SlAt w 2 encP A ps) (h0 : 0 < ps.length) (hl : ps.length ≤ 1000) (ho : oks ps = true) :
    Calls Try.prog 62 #[.slice A ps.length c] w fun e w' => e = .returned (.int .i64 (areaZ ps)) ∧ Ext w w' := by
  obtain ⟨b, off, rfl, hb0⟩ := h.open_ h0
  have HO := Lib.hid ho
  clear ho
  go_enter Try.func62, Try.ntmps62
  go_wp2
  go_loopw [3, 9] (fun s i wr => ∃ k : Nat, k ≤ ps.length ∧ i = .int .i64 k ∧ s = .int .i64 (areaTo ps k) ∧ Ext w wr) (fun _ i _ => ps.length - (intOf i).toNat)
  case atStart => exact ⟨0, Nat.zero_le _, rfl, rfl, by (repeat (first | with_reducible exact Ext.refl _ | with_reducible assumption | ((with_reducible apply Src.ext); with_reducible assumption) | with_reducible refine Ext.alloc ?_ _ | with_reducible refine Ext.drew ?_ | with_reducible refine Ext.drewN ?_ _ | ((with_reducible refine Ext.setCell' ?_ ?_ _); solve | omega | simp | (simp; omega)) | (with_reducible refine Ext.trans ?_ (by with_reducible assumption))))⟩
  case round =>
    obtain ⟨k, hk, rfl, rfl, hx⟩ := hrel
    by_cases hlt : k < ps.length
    · have hS := h.ext hx
      obtain ⟨d0, d1⟩ := hS.ring hlt
      have hbr := Nat.lt_of_lt_of_le hb0 hx.size
      have m1 := mul_bd (ptx_bd HO.out k) (ptz_bd HO.out (k + 1))
      have m2 := mul_bd (ptz_bd HO.out k) (ptx_bd HO.out (k + 1))
      have m3 := areaTo_bd HO.out k
      go_wp2_with (first | (go_at_call 113; refine (i_corner _ _ ps _ _ (hS.ext (by (repeat (first | with_reducible exact Ext.refl _ | with_reducible assumption | ((with_reducible apply Src.ext); with_reducible assumption) | with_reducible refine Ext.alloc ?_ _ | with_reducible refine Ext.drew ?_ | with_reducible refine Ext.drewN ?_ _ | ((with_reducible refine Ext.setCell' ?_ ?_ _); solve | omega | simp | (simp; omega)) | (with_reducible refine Ext.trans ?_ (by with_reducible assumption)))))) h0 (by omega) (by omega) (by omega)).mono ?_; rintro e w1 ⟨rfl, hx1⟩; obtain ⟨hc1, hf1⟩ := hx1.rules; have hs1 := hx1.size; (try simp at hs1); have := (show wr.heap.size < w1.heap.size from by omega)))
      go_roundw
      case rel => exact ⟨k + 1, by omega, by go_num, rfl, by (repeat (first | with_reducible exact Ext.refl _ | with_reducible assumption | ((with_reducible apply Src.ext); with_reducible assumption) | with_reducible refine Ext.alloc ?_ _ | with_reducible refine Ext.drew ?_ | with_reducible refine Ext.drewN ?_ _ | ((with_reducible refine Ext.setCell' ?_ ?_ _); solve | omega | simp | (simp; omega)) | (with_reducible refine Ext.trans ?_ (by with_reducible assumption))))⟩
      case measure => simp [intOf]; omega
    · go_wp2
      go_ret
      obtain rfl : k = ps.length := by omega
      exact ⟨rfl, by (repeat (first | with_reducible exact Ext.refl _ | with_reducible assumption | ((with_reducible apply Src.ext); with_reducible assumption) | with_reducible refine Ext.alloc ?_ _ | with_reducible refine Ext.drew ?_ | with_reducible refine Ext.drewN ?_ _ | ((with_reducible refine Ext.setCell' ?_ ?_ _); solve | omega | simp | (simp; omega)) | (with_reducible refine Ext.trans ?_ (by with_reducible assumption))))⟩
set_option maxHeartbeats 1600000 in
theorem s_area (A : Option Addr) (c : Nat) (ps : List (Int × Int)) (w : World) (h : SlAt w 2 encP A ps) (h0 : 0 < ps.length) (hl : ps.length ≤ 1000) (ho : oks ps = true) :
    Calls Try.prog 64 #[.slice A ps.length c] w fun e w' => e = .returned (.int .i64 (areaZ ps)) ∧ Ext w w' := by
  obtain ⟨b, off, rfl, hb0⟩ := h.open_ h0
  have HO := Lib.hid ho
  clear ho
  go_enter Try.func64, Try.ntmps64
  go_wp2
  go_loopw [3, 4] (fun s i wr => ∃ k : Nat, k ≤ ps.length ∧ i = .int .i64 k ∧ s = .int .i64 (areaTo ps k) ∧ Ext w wr) (fun _ i _ => ps.length - (intOf i).toNat)
  case atStart => exact ⟨0, Nat.zero_le _, rfl, rfl, by (repeat (first | with_reducible exact Ext.refl _ | with_reducible assumption | ((with_reducible apply Src.ext); with_reducible assumption) | with_reducible refine Ext.alloc ?_ _ | with_reducible refine Ext.drew ?_ | with_reducible refine Ext.drewN ?_ _ | ((with_reducible refine Ext.setCell' ?_ ?_ _); solve | omega | simp | (simp; omega)) | (with_reducible refine Ext.trans ?_ (by with_reducible assumption))))⟩
  case round =>
    obtain ⟨k, hk, rfl, rfl, hx⟩ := hrel
    by_cases hlt : k < ps.length
    · have hS := h.ext hx
      obtain ⟨d0, d1⟩ := hS.ring hlt
      have hbr := Nat.lt_of_lt_of_le hb0 hx.size
      have m1 := mul_bd (ptx_bd HO.out k) (ptz_bd HO.out (k + 1))
      have m2 := mul_bd (ptz_bd HO.out k) (ptx_bd HO.out (k + 1))
      have m3 := areaTo_bd HO.out k
      (have := (show b < wr.heap.size + 1 from by omega); have := (show b < wr.heap.size + 1 + 1 from by omega); have := (show b < wr.heap.size + 1 + 1 + 1 from by omega))
      have n1 : ¬ b = wr.heap.size := by omega
      have n2 : ¬ wr.heap.size = b := by omega
      have n3 : ¬ b = wr.heap.size + 1 := by omega
      have n4 : ¬ wr.heap.size + 1 = b := by omega
      have hw1 : IntKind.i64.wrap ((k : Int) + 1) = (k : Int) + 1 := IntWalk.i64_in _ (by omega)
      go_upto_region 5 with (fail)
      go_cut [5, 6] (fun p q wx => ∃ b5 b6 : Nat, p = .pointer (some ⟨b5, 0, none⟩) ∧ q = .pointer (some ⟨b6, 0, none⟩) ∧ Blk wx b5 33 #[.int .i64 (ptx ps k), .int .i64 (ptz ps k)] ∧ Blk wx b6 33 #[.int .i64 (ptx ps (k + 1)), .int .i64 (ptz ps (k + 1))] ∧ Ext wr wx)
      case first =>
        go_region_held3 (fun w' => w'.cell? ⟨b, off + k * 2, none⟩ = some (.int .i64 (ptx ps k)) ∧ w'.cell? ⟨b, off + k * 2 + 1, none⟩ = some (.int .i64 (ptz ps k))) (go_keep) (first | ((go_at_call 70; refine (s_corner _ _ ps _ _ (hS.ext (by (repeat (first | with_reducible exact Ext.refl _ | with_reducible assumption | ((with_reducible apply Src.ext); with_reducible assumption) | with_reducible refine Ext.alloc ?_ _ | with_reducible refine Ext.drew ?_ | with_reducible refine Ext.drewN ?_ _ | ((with_reducible refine Ext.setCell' ?_ ?_ _); solve | omega | simp | (simp; omega)) | (with_reducible refine Ext.trans ?_ (by with_reducible assumption)))))) h0 (by omega) (by omega) (by omega)).mono ?_; rintro e w1 ⟨rfl, hx1⟩; obtain ⟨hc1, hf1⟩ := hx1.rules; have hs1 := hx1.size; (try simp at hs1); have hl1 : ∀ n, n < _ → n < w1.heap.size := fun n h => Nat.lt_of_lt_of_le h hx1.size; have := (show b < w1.heap.size from by omega)); have k0 := (hx1.cell b (off + k * 2) (by simp; omega)).trans (show _ = some (.int .i64 (ptx ps k)) by simp [*]); have k1 := (hx1.cell b (off + k * 2 + 1) (by simp; omega)).trans (show _ = some (.int .i64 (ptz ps k)) by simp [*]); (have := (show b < w1.heap.size + 1 from by omega); have := (show b < w1.heap.size + 1 + 1 from by omega)); have := (show ¬ b = w1.heap.size from by omega); have := (show ¬ w1.heap.size = b from by omega); have := (show ¬ b = w1.heap.size + 1 from by omega); have := (show ¬ w1.heap.size + 1 = b from by omega)))
        all_goals (go_wp2_with fail; go_meet; exact ⟨_, _, rfl, rfl, Blk.eq (by (repeat (first | with_reducible assumption | ((with_reducible apply Blk.new); solve | simp | rfl) | with_reducible apply Blk.drew | with_reducible apply Blk.drewN | ((with_reducible apply Blk.far'); solve | omega | simp | (simp; omega)) | with_reducible apply Blk.set_ | with_reducible apply Blk.alloc | ((with_reducible apply Blk.ext'); with_reducible assumption) | ((with_reducible apply Blk.but'); (with_reducible assumption); solve | omega | (simp; omega))))) (by rfl), Blk.eq (by (repeat (first | with_reducible assumption | ((with_reducible apply Blk.new); solve | simp | rfl) | with_reducible apply Blk.drew | with_reducible apply Blk.drewN | ((with_reducible apply Blk.far'); solve | omega | simp | (simp; omega)) | with_reducible apply Blk.set_ | with_reducible apply Blk.alloc | ((with_reducible apply Blk.ext'); with_reducible assumption) | ((with_reducible apply Blk.but'); (with_reducible assumption); solve | omega | (simp; omega))))) (by rfl), by (repeat (first | with_reducible exact Ext.refl _ | with_reducible assumption | ((with_reducible apply Src.ext); with_reducible assumption) | with_reducible refine Ext.alloc ?_ _ | with_reducible refine Ext.drew ?_ | with_reducible refine Ext.drewN ?_ _ | ((with_reducible refine Ext.setCell' ?_ ?_ _); solve | omega | simp | (simp; omega)) | (with_reducible refine Ext.trans ?_ (by with_reducible assumption))))⟩)
      case rest =>
      obtain ⟨b5, b6, rfl, rfl, B5, B6, hxc⟩ := hcut
      have e0 : wc.cell? ⟨b5, 0, none⟩ = some (.int .i64 (ptx ps k)) := B5.cell 0
      have e1 : wc.cell? ⟨b5, 1, none⟩ = some (.int .i64 (ptz ps k)) := B5.cell 1
      have e2 : wc.cell? ⟨b6, 0, none⟩ = some (.int .i64 (ptx ps (k + 1))) := B6.cell 0
      have e3 : wc.cell? ⟨b6, 1, none⟩ = some (.int .i64 (ptz ps (k + 1))) := B6.cell 1
      have z5 := B5.lt
      have z6 := B6.lt
      go_wp2
      go_roundw
      case rel => exact ⟨k + 1, by omega, by go_num, congrArg (Value.int .i64) (by simp only [areaTo]; omega), by (repeat (first | with_reducible exact Ext.refl _ | with_reducible assumption | ((with_reducible apply Src.ext); with_reducible assumption) | with_reducible refine Ext.alloc ?_ _ | with_reducible refine Ext.drew ?_ | with_reducible refine Ext.drewN ?_ _ | ((with_reducible refine Ext.setCell' ?_ ?_ _); solve | omega | simp | (simp; omega)) | (with_reducible refine Ext.trans ?_ (by with_reducible assumption))))⟩
      case measure => simp [intOf]; omega
    · go_wp2
      go_ret
      obtain rfl : k = ps.length := by omega
      exact ⟨rfl, by (repeat (first | with_reducible exact Ext.refl _ | with_reducible assumption | ((with_reducible apply Src.ext); with_reducible assumption) | with_reducible refine Ext.alloc ?_ _ | with_reducible refine Ext.drew ?_ | with_reducible refine Ext.drewN ?_ _ | ((with_reducible refine Ext.setCell' ?_ ?_ _); solve | omega | simp | (simp; omega)) | (with_reducible refine Ext.trans ?_ (by with_reducible assumption))))⟩
end Go.Proofs.Yteppjdoggjcdoaa
