/- Contracts of the what every law over a list of points uses: its copy, its size, equality, walked over the translation. -/
import Derived.Test.YteppjdoggjcdoaaC
import Derived.WalkLawsBesides
import Derived.WalkSpells
import Derived.Lib.MinMax
import Derived.Outline
namespace Go.Proofs.Yteppjdoggjcdoaa
open Go.RowKit
attribute [local go_sem] ExtOf.cell ExtOf.frozen



theorem info_pt : (Try.prog.info? 33).map (fun i => (i.zero, i.size, i.bytes)) = some (some (.agg #[.int .i64 0, .int .i64 0]), 2, 16) := by kernel_rfl
theorem len_encP : ∀ p, (encP p).length = 2 := fun _ => rfl
/-- a copy of a list of points -/
theorem l_toPointS (A : Option Addr) (c : Nat) (ps : List (Int × Int)) (w : World) (h : SlAt w 2 encP A ps) (hl : ps.length ≤ 1048576) :
    Calls Try.prog 82 #[.slice A ps.length c] w fun e w' => ∃ cs, e = .returned (.slice (some ⟨w.heap.size, 0, none⟩) ps.length ps.length) ∧ Blk w' w.heap.size 33 cs ∧ cs.toList = ps.flatMap encP ∧ Ext w w' := by
  obtain ⟨i0, hi, hz0, hz1, hz2⟩ := info_parts info_pt
  have hmk : ∀ u : World, (Instr.makeSlice 24 (.int .i64 (ps.length : Int)) (.int .i64 (ps.length : Int))).run Try.prog u =
      .ok (.slice (some ⟨u.heap.size, 0, none⟩) ps.length ps.length) (u.alloc (.cells (madeCells #[.int .i64 0, .int .i64 0] (ps.length * 2)) 33)) := fun u => by
    have h := run_make (P := Try.prog) u 24 33 i0 (.agg #[.int .i64 0, .int .i64 0]) Try.underlying24 hi hz0 .i64 .i64 (ps.length : Int) (ps.length : Int) (by omega) (Int.le_refl _) (by rw [hz2]; omega) (by omega)
    simpa [hz1, Value.cells] using h
  go_enter Try.func82, Try.ntmps82
  go_wp2
  go_loopw [4] (fun i wr => ∃ (k : Nat) (cs : Array Value), k ≤ ps.length ∧ i = .int .i64 k ∧ Blk wr w.heap.size 33 cs ∧ Filled 2 encP ps k cs ∧ Ext w wr) (fun i _ => ps.length - (intOf i).toNat)
  case atStart => exact ⟨0, _, Nat.zero_le _, rfl, Blk.new rfl, Filled.start (by simp [madeCells]), by (repeat (first | with_reducible exact Ext.refl _ | with_reducible assumption | ((with_reducible apply Src.ext); with_reducible assumption) | with_reducible refine Ext.alloc ?_ _ | with_reducible refine Ext.drew ?_ | with_reducible refine Ext.drewN ?_ _ | ((with_reducible refine Ext.setCell' ?_ ?_ _); solve | omega | simp | (simp; omega)) | (with_reducible refine Ext.trans ?_ (by with_reducible assumption))))⟩
  case round =>
    obtain ⟨k, cs, hk, rfl, hB, hF, hx⟩ := hrel
    by_cases hlt : k < ps.length
    · obtain ⟨b, off, rfl, hb, h0, h1⟩ := (h.ext hx).pt hlt
      obtain ⟨u0, hu0⟩ := hF.at_ (j := k * 2) (by omega)
      obtain ⟨u1, hu1⟩ := hF.at_ (j := k * 2 + 1) (by omega)
      have c0 := (hB.cell (k * 2)).trans hu0
      have c1 := (hB.cell (k * 2 + 1)).trans hu1
      have f0 := hB.frozen (k * 2)
      have f1 := hB.frozen (k * 2 + 1)
      have hBl := hB.lt
      clear hu0 hu1
      go_wp2_with (first | (go_at_call 119; refine (l_toPoint _ _ _).mono ?_; rintro e w1 ⟨rfl, hx1⟩; obtain ⟨hc1, hf1⟩ := hx1.rules; have hs1 := hx1.size; (try simp at hs1); have := (show w.heap.size < w1.heap.size from by omega)))
      go_roundw
      case rel => exact ⟨k + 1, _, by omega, by go_num, ((hB.ext hx1).set_ _ _).set_ _ _, hF.step2 len_encP (List.getElem?_eq_getElem hlt) rfl, by (repeat (first | with_reducible exact Ext.refl _ | with_reducible assumption | ((with_reducible apply Src.ext); with_reducible assumption) | with_reducible refine Ext.alloc ?_ _ | with_reducible refine Ext.drew ?_ | with_reducible refine Ext.drewN ?_ _ | ((with_reducible refine Ext.setCell' ?_ ?_ _); solve | omega | simp | (simp; omega)) | (with_reducible refine Ext.trans ?_ (by with_reducible assumption))))⟩
      case measure => simp [intOf]; omega
    · go_wp2
      go_ret
      obtain rfl : k = ps.length := by omega
      exact ⟨cs, rfl, hB, hF.done len_encP, hx⟩
theorem ret_bool {a b : Bool} (h : a = b) : Ending.returned (.bool a) = .returned (.bool b) := by rw [h]
def eqPs (ps qs : List (Int × Int)) : Bool := decide (ps = qs)
theorem eqPs_false {ps qs : List (Int × Int)} {k : Nat} {h1 : k < ps.length} {h2 : k < qs.length} (h : (!eqP ps[k].1 ps[k].2 qs[k].1 qs[k].2) = true) : eqPs ps qs = false := by
  unfold eqPs
  rw [decide_eq_false_iff_not]
  rintro rfl
  simp [eqP] at h
theorem eqPs_len {ps qs : List (Int × Int)} (h : ¬ ps.length = qs.length) : eqPs ps qs = false := by
  unfold eqPs
  rw [decide_eq_false_iff_not]
  rintro rfl
  exact h rfl
theorem eqPs_succ {ps qs : List (Int × Int)} {k : Nat} {h1 : k < ps.length} {h2 : k < qs.length} (h : ps.take k = qs.take k) (he : (!eqP ps[k].1 ps[k].2 qs[k].1 qs[k].2) = false) : ps.take (k + 1) = qs.take (k + 1) := by
  have e : ps[k] = qs[k] := by simpa [eqP, Prod.ext_iff] using he
  rw [List.take_succ_eq_append_getElem h1, List.take_succ_eq_append_getElem h2, h, e]
theorem eqPs_end {ps qs : List (Int × Int)} {k : Nat} (h1 : ps.length ≤ k) (hn : ps.length = qs.length) (h : ps.take k = qs.take k) : eqPs ps qs = true := by
  rw [List.take_of_length_le h1, List.take_of_length_le (by omega)] at h
  simp [eqPs, h]
theorem l_eqPoint (ax az bx bz : Int) (w : World) : Calls Try.prog 87 #[.agg #[.int .i64 ax, .int .i64 az], .agg #[.int .i64 bx, .int .i64 bz]] w
    fun e w' => e = .returned (.bool (eqP ax az bx bz)) ∧ Ext w w' := by
  go_enter Try.func87, Try.ntmps87
  go_wp2
  all_goals go_ret
  all_goals refine ⟨?_, by (repeat (first | with_reducible exact Ext.refl _ | with_reducible assumption | ((with_reducible apply Src.ext); with_reducible assumption) | with_reducible refine Ext.alloc ?_ _ | with_reducible refine Ext.drew ?_ | with_reducible refine Ext.drewN ?_ _ | ((with_reducible refine Ext.setCell' ?_ ?_ _); solve | omega | simp | (simp; omega)) | (with_reducible refine Ext.trans ?_ (by with_reducible assumption))))⟩
  all_goals simp_all [eqP]
theorem l_eqPointS (A A' : Option Addr) (c c' : Nat) (ps qs : List (Int × Int)) (w : World) (h : SlAt w 2 encP A ps) (h' : SlAt w 2 encP A' qs) (hl : ps.length ≤ 1048576) :
    Calls Try.prog 29 #[.slice A ps.length c, .slice A' qs.length c'] w fun e w' => e = .returned (.bool (eqPs ps qs)) ∧ Ext w w' := by
  by_cases hn : ps.length = qs.length
  · have hn1 : (((ps.length : Nat) : Int) != (qs.length : Int)) = false := by simp [hn]
    have HN := Lib.hid hn
    clear hn
    go_enter Try.func29, Try.ntmps29
    go_wp2
    go_loopw [5] (fun i wr => ∃ k : Nat, k ≤ ps.length ∧ i = .int .i64 k ∧ ps.take k = qs.take k ∧ Ext w wr) (fun i _ => ps.length - (intOf i).toNat)
    case atStart => exact ⟨0, Nat.zero_le _, rfl, rfl, by (repeat (first | with_reducible exact Ext.refl _ | with_reducible assumption | ((with_reducible apply Src.ext); with_reducible assumption) | with_reducible refine Ext.alloc ?_ _ | with_reducible refine Ext.drew ?_ | with_reducible refine Ext.drewN ?_ _ | ((with_reducible refine Ext.setCell' ?_ ?_ _); solve | omega | simp | (simp; omega)) | (with_reducible refine Ext.trans ?_ (by with_reducible assumption))))⟩
    case round =>
      obtain ⟨k, hk, rfl, htk, hx⟩ := hrel
      have HT := Lib.hid htk
      clear htk
      by_cases hlt : k < ps.length
      · have hlt' : k < qs.length := by have := HN.out; omega
        obtain ⟨b, off, rfl, hb, h0, h1⟩ := (h.ext hx).pt hlt
        obtain ⟨b', off', rfl, hb', h0', h1'⟩ := (h'.ext hx).pt hlt'
        go_wp2
        (refine wp_region_ext (by kernel_rfl) (by kernel_rfl) ?_; (repeat (go_big_quiet_step ((go_at_call 87; exact Calls_ext (l_eqPoint _ _ _ _ _))))); refine wpQuiet_nil ?_; intro wq hxwq; obtain ⟨hcwq, hfwq⟩ := hxwq.rules; have hswq := hxwq.size; (try simp at hswq))
        go_wp2
        · go_ret
          exact ⟨ret_bool (eqPs_false (by assumption)).symm, by (repeat (first | with_reducible exact Ext.refl _ | with_reducible assumption | ((with_reducible apply Src.ext); with_reducible assumption) | with_reducible refine Ext.alloc ?_ _ | with_reducible refine Ext.drew ?_ | with_reducible refine Ext.drewN ?_ _ | ((with_reducible refine Ext.setCell' ?_ ?_ _); solve | omega | simp | (simp; omega)) | (with_reducible refine Ext.trans ?_ (by with_reducible assumption))))⟩
        · go_roundw
          case rel => exact ⟨k + 1, by omega, by go_num, eqPs_succ HT.out (by assumption), by (repeat (first | with_reducible exact Ext.refl _ | with_reducible assumption | ((with_reducible apply Src.ext); with_reducible assumption) | with_reducible refine Ext.alloc ?_ _ | with_reducible refine Ext.drew ?_ | with_reducible refine Ext.drewN ?_ _ | ((with_reducible refine Ext.setCell' ?_ ?_ _); solve | omega | simp | (simp; omega)) | (with_reducible refine Ext.trans ?_ (by with_reducible assumption))))⟩
          case measure => simp [intOf]; omega
      · go_wp2
        go_ret
        exact ⟨ret_bool (eqPs_end (by omega) HN.out HT.out).symm, by (repeat (first | with_reducible exact Ext.refl _ | with_reducible assumption | ((with_reducible apply Src.ext); with_reducible assumption) | with_reducible refine Ext.alloc ?_ _ | with_reducible refine Ext.drew ?_ | with_reducible refine Ext.drewN ?_ _ | ((with_reducible refine Ext.setCell' ?_ ?_ _); solve | omega | simp | (simp; omega)) | (with_reducible refine Ext.trans ?_ (by with_reducible assumption))))⟩
  · have hn1 : (((ps.length : Nat) : Int) != (qs.length : Int)) = true := by simp; omega
    have HN := Lib.hid hn
    clear hn
    go_enter Try.func29, Try.ntmps29
    go_wp2
    go_ret
    exact ⟨ret_bool (eqPs_len HN.out).symm, by (repeat (first | with_reducible exact Ext.refl _ | with_reducible assumption | ((with_reducible apply Src.ext); with_reducible assumption) | with_reducible refine Ext.alloc ?_ _ | with_reducible refine Ext.drew ?_ | with_reducible refine Ext.drewN ?_ _ | ((with_reducible refine Ext.setCell' ?_ ?_ _); solve | omega | simp | (simp; omega)) | (with_reducible refine Ext.trans ?_ (by with_reducible assumption))))⟩
/-- what is left of a size -/
def szR (left n : Int) : Int := if left - n < 0 then -1 else left - n
theorem l_szPointS (A : Option Addr) (n c : Nat) (left : Int) (w : World) (hn : n ≤ 140737488351232) (h0 : 0 ≤ left) (h1 : left ≤ 1048576) : Calls Try.prog 76 #[.slice A n c, .int .i64 left] w
    fun e w' => e = .returned (.int .i64 (szR left n)) ∧ w = w' := by
  go_enter Try.func76, Try.ntmps76
  go_wp2
  all_goals go_ret
  all_goals refine ⟨ret_int ?_, rfl⟩
  all_goals (unfold szR; first | rw [if_pos (by omega)] | rw [if_neg (by omega)])
end Go.Proofs.Yteppjdoggjcdoaa
