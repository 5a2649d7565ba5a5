/- Contracts of edges among edges, walked over the translation. -/
import Derived.Test.YteppjdoggjcdoaaMZ
import Derived.Deep.RegionHeld3
import Derived.Deep.DeepCutAuto
import Derived.RegionTactic
import Derived.BigRegion
import Derived.WalkLawsBesides
import Derived.WalkSpells
import Derived.Lib.MinMax
import Derived.Outline
namespace Go.Proofs.Yteppjdoggjcdoaa
open Go.RowKit
attribute [local go_sem] ExtOf.cell ExtOf.frozen

theorem eqEd_comm (a b c d p q r s : Int) : eqEd a b c d p q r s = eqEd p q r s a b c d := by unfold eqEd; rw [eqP_comm a b, eqP_comm c d]
/-- whether an edge is among others -/
def hasE (es : List Ed) (p q r s : Int) : Bool := es.any fun e => eqEd e.1.1 e.1.2 e.2.1 e.2.2 p q r s
set_option maxHeartbeats 3200000 in
theorem s_l17Has (A : Option Addr) (n c : Nat) (es : List Ed) (p q r s : Int) (w : World) (h : SlAt w 4 encE A es) (hn : n = es.length) (hl : n ≤ 1048576) :
    Calls Try.prog 80 #[.slice A n c, .agg #[.int .i64 p, .int .i64 q, .int .i64 r, .int .i64 s]] w fun e w' => e = .returned (.bool (hasE es p q r s)) ∧ Ext w w' := by
  have HN := Lib.hid hn
  have hx0 : Ext w (w.alloc (.cells #[.int .i64 p, .int .i64 q, .int .i64 r, .int .i64 s] 58)) := (Ext.refl _).alloc _
  clear hn
  go_enter Try.func80, Try.ntmps80
  go_wp2
  go_loopw [5] (fun i wr => ∃ k : Nat, k ≤ n ∧ i = .int .i64 k ∧ Hid (∀ j, j < k → eqEd (es.getD j edD).1.1 (es.getD j edD).1.2 (es.getD j edD).2.1 (es.getD j edD).2.2 p q r s = false) ∧ Blk wr w.heap.size 58 #[.int .i64 p, .int .i64 q, .int .i64 r, .int .i64 s] ∧ Ext w wr) (fun i _ => n - (intOf i).toNat)
  case atStart => exact ⟨0, by omega, rfl, fun j hj => absurd hj (by omega), Blk.new rfl, by (repeat (first | with_reducible exact Ext.refl _ | with_reducible assumption | ((with_reducible apply Src.ext); with_reducible assumption) | with_reducible refine Ext.alloc ?_ _ | with_reducible refine Ext.drew ?_ | with_reducible refine Ext.drewN ?_ _ | ((with_reducible refine Ext.setCell' ?_ ?_ _); solve | omega | simp | (simp; omega)) | (with_reducible refine Ext.trans ?_ (by with_reducible assumption))))⟩
  case round =>
    obtain ⟨k, hk, rfl, HJ, hB, hx⟩ := hrel
    have z0 : wr.cell? ⟨w.heap.size, 0, none⟩ = some (.int .i64 p) := hB.cell 0
    have z1 : wr.cell? ⟨w.heap.size, 1, none⟩ = some (.int .i64 q) := hB.cell 1
    have z2 : wr.cell? ⟨w.heap.size, 2, none⟩ = some (.int .i64 r) := hB.cell 2
    have z3 : wr.cell? ⟨w.heap.size, 3, none⟩ = some (.int .i64 s) := hB.cell 3
    have hBl := hB.lt
    by_cases hlt : k < n
    · have hkn : k < es.length := by rw [← HN.out]; exact hlt
      obtain ⟨b, off, a1, a2, a3, a4, rfl, hb, he, d0, d1, d2, d3⟩ := (h.ext hx).ed hkn
      have HE := Lib.hid he
      clear he
      go_wp2
      (refine wp_region_ext (by kernel_rfl) (by kernel_rfl) ?_; (repeat (go_big_quiet_step (fail))); refine wpQuiet_nil ?_; intro wq hxwq; obtain ⟨hcwq, hfwq⟩ := hxwq.rules; have hswq := hxwq.size; (try simp at hswq))
      go_wp2
      · have ht : eqEd a1 a2 a3 a4 p q r s = true := by assumption
        go_ret
        refine ⟨ret_bool (any_yes (P := fun e : Ed => eqEd e.1.1 e.1.2 e.2.1 e.2.2 p q r s) (d := edD) hkn ?_), by (repeat (first | with_reducible exact Ext.refl _ | with_reducible assumption | ((with_reducible apply Src.ext); with_reducible assumption) | with_reducible refine Ext.alloc ?_ _ | with_reducible refine Ext.drew ?_ | with_reducible refine Ext.drewN ?_ _ | ((with_reducible refine Ext.setCell' ?_ ?_ _); solve | omega | simp | (simp; omega)) | (with_reducible refine Ext.trans ?_ (by with_reducible assumption))))⟩
        rw [show es.getD k edD = ((a1, a2), (a3, a4)) from HE.out]
        exact ht
      · have ht : eqEd a1 a2 a3 a4 p q r s = false := by assumption
        go_roundw
        case rel => exact ⟨k + 1, by omega, by go_num, upTo_succ HJ.out (by rw [show es.getD k edD = ((a1, a2), (a3, a4)) from HE.out]; exact ht), by (repeat (first | with_reducible assumption | ((with_reducible apply Blk.new); solve | simp | rfl) | with_reducible apply Blk.drew | with_reducible apply Blk.drewN | ((with_reducible apply Blk.far'); solve | omega | simp | (simp; omega)) | with_reducible apply Blk.set_ | with_reducible apply Blk.alloc | ((with_reducible apply Blk.ext'); with_reducible assumption) | ((with_reducible apply Blk.but'); (with_reducible assumption); solve | omega | (simp; omega)))), by (repeat (first | with_reducible exact Ext.refl _ | with_reducible assumption | ((with_reducible apply Src.ext); with_reducible assumption) | with_reducible refine Ext.alloc ?_ _ | with_reducible refine Ext.drew ?_ | with_reducible refine Ext.drewN ?_ _ | ((with_reducible refine Ext.setCell' ?_ ?_ _); solve | omega | simp | (simp; omega)) | (with_reducible refine Ext.trans ?_ (by with_reducible assumption))))⟩
        case measure => simp [intOf]; omega
    · obtain rfl : k = n := by omega
      go_wp2
      go_ret
      exact ⟨ret_bool (any_no (P := fun e : Ed => eqEd e.1.1 e.1.2 e.2.1 e.2.2 p q r s) (d := edD) (fun j hj => HJ.out j (by rw [HN.out]; exact hj))), by (repeat (first | with_reducible exact Ext.refl _ | with_reducible assumption | ((with_reducible apply Src.ext); with_reducible assumption) | with_reducible refine Ext.alloc ?_ _ | with_reducible refine Ext.drew ?_ | with_reducible refine Ext.drewN ?_ _ | ((with_reducible refine Ext.setCell' ?_ ?_ _); solve | omega | simp | (simp; omega)) | (with_reducible refine Ext.trans ?_ (by with_reducible assumption))))⟩
set_option maxHeartbeats 3200000 in
theorem i_IndexE (A : Option Addr) (n c : Nat) (es : List Ed) (p q r s : Int) (w : World) (h : SlAt w 4 encE A es) (hn : n = es.length) (hl : n ≤ 1048576) :
    Calls Try.prog 128 #[.slice A n c, .agg #[.int .i64 p, .int .i64 q, .int .i64 r, .int .i64 s]] w fun e w' => ∃ i : Int, e = .returned (.int .i64 i) ∧ decide (0 ≤ i) = hasE es p q r s ∧ Ext w w' := by
  have HN := Lib.hid hn
  clear hn
  go_enter Try.func128, Try.ntmps128
  go_wp2
  go_loopw [8] (fun i wr => ∃ k : Nat, k ≤ n ∧ i = .int .i64 k ∧ Hid (∀ j, j < k → eqEd (es.getD j edD).1.1 (es.getD j edD).1.2 (es.getD j edD).2.1 (es.getD j edD).2.2 p q r s = false) ∧ Blk wr w.heap.size 58 #[.int .i64 p, .int .i64 q, .int .i64 r, .int .i64 s] ∧ Ext w wr) (fun i _ => n - (intOf i).toNat)
  case atStart => exact ⟨0, by omega, rfl, fun j hj => absurd hj (by omega), Blk.new rfl, by (repeat (first | with_reducible exact Ext.refl _ | with_reducible assumption | ((with_reducible apply Src.ext); with_reducible assumption) | with_reducible refine Ext.alloc ?_ _ | with_reducible refine Ext.drew ?_ | with_reducible refine Ext.drewN ?_ _ | ((with_reducible refine Ext.setCell' ?_ ?_ _); solve | omega | simp | (simp; omega)) | (with_reducible refine Ext.trans ?_ (by with_reducible assumption))))⟩
  case round =>
    obtain ⟨k, hk, rfl, HJ, hB, hx⟩ := hrel
    have z0 : wr.cell? ⟨w.heap.size, 0, none⟩ = some (.int .i64 p) := hB.cell 0
    have z1 : wr.cell? ⟨w.heap.size, 1, none⟩ = some (.int .i64 q) := hB.cell 1
    have z2 : wr.cell? ⟨w.heap.size, 2, none⟩ = some (.int .i64 r) := hB.cell 2
    have z3 : wr.cell? ⟨w.heap.size, 3, none⟩ = some (.int .i64 s) := hB.cell 3
    have hBl := hB.lt
    by_cases hlt : k < n
    · have hkn : k < es.length := by rw [← HN.out]; exact hlt
      obtain ⟨b, off, a1, a2, a3, a4, rfl, hb, he, d0, d1, d2, d3⟩ := (h.ext hx).ed hkn
      have HE := Lib.hid he
      clear he
      go_wp2
      (refine wp_region_ext (by kernel_rfl) (by kernel_rfl) ?_; (repeat (go_big_quiet_step (fail))); refine wpQuiet_nil ?_; intro wq hxwq; obtain ⟨hcwq, hfwq⟩ := hxwq.rules; have hswq := hxwq.size; (try simp at hswq))
      go_wp2
      · have ht : eqEd p q r s a1 a2 a3 a4 = true := by assumption
        go_ret
        refine ⟨_, rfl, ?_, by (repeat (first | with_reducible exact Ext.refl _ | with_reducible assumption | ((with_reducible apply Src.ext); with_reducible assumption) | with_reducible refine Ext.alloc ?_ _ | with_reducible refine Ext.drew ?_ | with_reducible refine Ext.drewN ?_ _ | ((with_reducible refine Ext.setCell' ?_ ?_ _); solve | omega | simp | (simp; omega)) | (with_reducible refine Ext.trans ?_ (by with_reducible assumption))))⟩
        rw [decide_eq_true (by omega)]
        refine any_yes (P := fun e : Ed => eqEd e.1.1 e.1.2 e.2.1 e.2.2 p q r s) (d := edD) hkn ?_
        rw [show es.getD k edD = ((a1, a2), (a3, a4)) from HE.out, eqEd_comm]
        exact ht
      · have ht : eqEd p q r s a1 a2 a3 a4 = false := by assumption
        go_roundw
        case rel => exact ⟨k + 1, by omega, by go_num, upTo_succ HJ.out (by rw [show es.getD k edD = ((a1, a2), (a3, a4)) from HE.out, eqEd_comm]; exact ht), by (repeat (first | with_reducible assumption | ((with_reducible apply Blk.new); solve | simp | rfl) | with_reducible apply Blk.drew | with_reducible apply Blk.drewN | ((with_reducible apply Blk.far'); solve | omega | simp | (simp; omega)) | with_reducible apply Blk.set_ | with_reducible apply Blk.alloc | ((with_reducible apply Blk.ext'); with_reducible assumption) | ((with_reducible apply Blk.but'); (with_reducible assumption); solve | omega | (simp; omega)))), by (repeat (first | with_reducible exact Ext.refl _ | with_reducible assumption | ((with_reducible apply Src.ext); with_reducible assumption) | with_reducible refine Ext.alloc ?_ _ | with_reducible refine Ext.drew ?_ | with_reducible refine Ext.drewN ?_ _ | ((with_reducible refine Ext.setCell' ?_ ?_ _); solve | omega | simp | (simp; omega)) | (with_reducible refine Ext.trans ?_ (by with_reducible assumption))))⟩
        case measure => simp [intOf]; omega
    · obtain rfl : k = n := by omega
      go_wp2
      go_ret
      exact ⟨-1, rfl, any_no (P := fun e : Ed => eqEd e.1.1 e.1.2 e.2.1 e.2.2 p q r s) (d := edD) (fun j hj => HJ.out j (by rw [HN.out]; exact hj)), by (repeat (first | with_reducible exact Ext.refl _ | with_reducible assumption | ((with_reducible apply Src.ext); with_reducible assumption) | with_reducible refine Ext.alloc ?_ _ | with_reducible refine Ext.drew ?_ | with_reducible refine Ext.drewN ?_ _ | ((with_reducible refine Ext.setCell' ?_ ?_ _); solve | omega | simp | (simp; omega)) | (with_reducible refine Ext.trans ?_ (by with_reducible assumption))))⟩
theorem i_ContainsE (A : Option Addr) (n c : Nat) (es : List Ed) (p q r s : Int) (w : World) (h : SlAt w 4 encE A es) (hn : n = es.length) (hl : n ≤ 1048576) :
    Calls Try.prog 96 #[.slice A n c, .agg #[.int .i64 p, .int .i64 q, .int .i64 r, .int .i64 s]] w fun e w' => e = .returned (.bool (hasE es p q r s)) ∧ Ext w w' := by
  have h1 := h.ext (by (repeat (first | with_reducible exact Ext.refl _ | with_reducible assumption | ((with_reducible apply Src.ext); with_reducible assumption) | with_reducible refine Ext.alloc ?_ _ | with_reducible refine Ext.drew ?_ | with_reducible refine Ext.drewN ?_ _ | ((with_reducible refine Ext.setCell' ?_ ?_ _); solve | omega | simp | (simp; omega)) | (with_reducible refine Ext.trans ?_ (by with_reducible assumption)))) : Ext w (w.alloc (.cells #[.int .i64 p, .int .i64 q, .int .i64 r, .int .i64 s] 58)))
  have HN := Lib.hid hn
  clear hn
  go_enter Try.func96, Try.ntmps96
  go_wp2_with fail
  refine (i_IndexE A n c es p q r s _ h1 HN.out hl).mono ?_
  rintro e w1 ⟨i, rfl, hi, hx1⟩
  have HI := Lib.hid hi
  clear hi
  go_wp2
  go_ret
  exact ⟨ret_bool HI.out, by (repeat (first | with_reducible exact Ext.refl _ | with_reducible assumption | ((with_reducible apply Src.ext); with_reducible assumption) | with_reducible refine Ext.alloc ?_ _ | with_reducible refine Ext.drew ?_ | with_reducible refine Ext.drewN ?_ _ | ((with_reducible refine Ext.setCell' ?_ ?_ _); solve | omega | simp | (simp; omega)) | (with_reducible refine Ext.trans ?_ (by with_reducible assumption))))⟩

end Go.Proofs.Yteppjdoggjcdoaa
