/- The owners at a point: of the implementation and of the reference, walked over the translation. -/
import Derived.Test.YtabdffponmmhoaaGreatDoorV4
import Derived.Test.YtabdffponmmhoaaGreatDoorG
import Derived.Test.YtabdffponmmhoaaGreatDoorOH
import Derived.Deep.RegionHeld3
import Derived.Deep.DeepCutAuto
import Derived.RegionTactic
import Derived.BigRegion
import Derived.WalkLawsBesides
import Derived.WalkSpells
import Derived.Lib.MinMax
import Derived.Outline
import Derived.Deep.OwnRows
namespace Go.Proofs.YtabdffponmmhoaaGreatDoor
open Go.RowKit
attribute [local go_sem] ExtOf.cell ExtOf.frozen

/-- ring k holds the point strictly inside -/
def inR (L : List (List (Int × Int))) (x z : Int) (k : Nat) : Bool := decide (0 < sideZ (L.getD k []) x z)
/-- the owner that view i tells for the last of the first n rings that hold the point -/
def atO (L : List (List (Int × Int))) (V : List (List UInt8 × List (List UInt8))) (x z : Int) (i : Nat) : Nat → List UInt8
  | 0 => []
  | n + 1 => if inR L x z n = true then ownL V i n else atO L V x z i n
theorem atO_yes {L : List (List (Int × Int))} {V : List (List UInt8 × List (List UInt8))} {x z : Int} {i n : Nat} (h : inR L x z n = true) : atO L V x z i (n + 1) = ownL V i n := by rw [atO, if_pos h]
theorem atO_no {L : List (List (Int × Int))} {V : List (List UInt8 × List (List UInt8))} {x z : Int} {i n : Nat} (h : inR L x z n = false) : atO L V x z i (n + 1) = atO L V x z i n := by rw [atO, if_neg (by rw [h]; exact Bool.false_ne_true)]
theorem atO_none {L : List (List (Int × Int))} {V : List (List UInt8 × List (List UInt8))} {x z : Int} {i : Nat} : ∀ n, (∀ q, q < n → inR L x z q = false) → atO L V x z i n = []
  | 0, _ => rfl
  | n + 1, h => by rw [atO_no (h n (by omega))]; exact atO_none n fun q hq => h q (by omega)
theorem atO_hit {L : List (List (Int × Int))} {V : List (List UInt8 × List (List UInt8))} {x z : Int} {i k : Nat} (hM : MapP L) (hp : bdP x z) (hk : inR L x z k = true) (hkl : k < L.length) : ∀ n, n ≤ L.length → k < n → atO L V x z i n = ownL V i k
  | 0, _, h => absurd h (by omega)
  | n + 1, hn, h => by
    cases hb : inR L x z n with
    | true => rw [atO_yes hb, map_one hM hp (show n < _ by omega) hkl (of_decide_eq_true hb) (of_decide_eq_true hk)]
    | false =>
      rw [atO_no hb]
      have : k ≠ n := fun e => by rw [e, hb] at hk; cases hk
      exact atO_hit hM hp hk hkl n (by omega) (by omega)
/-- the owners at a point, for the first m views -/
def atTo (L : List (List (Int × Int))) (V : List (List UInt8 × List (List UInt8))) (x z : Int) (m : Nat) : List (List UInt8) := (List.range m).map fun i => atO L V x z i L.length
theorem atTo_succ (L : List (List (Int × Int))) (V : List (List UInt8 × List (List UInt8))) (x z : Int) (m : Nat) : atTo L V x z (m + 1) = atTo L V x z m ++ [atO L V x z m L.length] := by
  unfold atTo
  rw [List.range_succ, List.map_append]; rfl
theorem atTo_len (L : List (List (Int × Int))) (V : List (List UInt8 × List (List UInt8))) (x z : Int) (m : Nat) : (atTo L V x z m).length = m := by simp [atTo]
noncomputable def atR (L : List (List (Int × Int))) (V : List (List UInt8 × List (List UInt8))) (x z : Int) : List (List UInt8) := if (viB L V && okP x z) = true then atTo L V x z V.length else []
noncomputable def atC (L : List (List (Int × Int))) (V : List (List UInt8 × List (List UInt8))) (x z : Int) : Int := if (viB L V && okP x z) = true then 0 else 1
theorem viB_fourV {L : List (List (Int × Int))} {V : List (List UInt8 × List (List UInt8))} (h : viB L V = true) : V.length ≤ 4 := by
  have h1 := (viB_map h).2.1
  simp [inB] at h1
  omega
theorem atR_len (L : List (List (Int × Int))) (V : List (List UInt8 × List (List UInt8))) (x z : Int) : (atR L V x z).length ≤ 6 := by
  unfold atR
  split
  · rename_i h
    rw [atTo_len]
    have := viB_fourV (Bool.and_eq_true_iff.1 h).1
    omega
  · simp
theorem atR_no {L : List (List (Int × Int))} {V : List (List UInt8 × List (List UInt8))} {x z : Int} (h : (viB L V && okP x z) = false) : atR L V x z = [] ∧ atC L V x z = 1 := by
  unfold atR atC
  rw [h]
  exact ⟨rfl, rfl⟩
theorem atR_yes {L : List (List (Int × Int))} {V : List (List UInt8 × List (List UInt8))} {x z : Int} (h : (viB L V && okP x z) = true) : atR L V x z = atTo L V x z V.length ∧ atC L V x z = 0 := by
  unfold atR atC
  rw [h]
  exact ⟨rfl, rfl⟩
/-- a row of n texts of which the first k are told -/
def atN (f : Nat → List UInt8) (n k : Nat) : List (List UInt8) := (List.range n).map fun i => if i < k then f i else []
theorem atN_len (f : Nat → List UInt8) (n k : Nat) : (atN f n k).length = n := by simp [atN]
theorem flat_encS (L : List (List UInt8)) : L.flatMap encS = L.map fun x => .string (tx x) := by
  induction L with
  | nil => rfl
  | cons a t ih => rw [List.flatMap_cons, ih]; rfl
/-- the row's cells -/
def stA (L : List (List UInt8)) : Array Value := (L.map fun x => Value.string (tx x)).toArray
theorem stA_size (L : List (List UInt8)) : (stA L).size = L.length := by simp [stA]
theorem stA_flat (L : List (List UInt8)) : (stA L).toList = L.flatMap encS := by rw [flat_encS]; rfl
theorem atN_zero (f : Nat → List UInt8) (n : Nat) : madeCells #[.string ⟨#[]⟩] n = stA (atN f n 0) := by
  apply Array.ext'
  rw [toList_madeCells_one]
  unfold stA atN
  apply List.ext_getElem
  · simp
  · intro i h1 h2
    simp
    rfl
theorem atN_full (f : Nat → List UInt8) (n : Nat) : atN f n n = (List.range n).map f := by
  unfold atN
  apply List.map_congr_left
  intro i hi
  rw [if_pos (List.mem_range.1 hi)]
theorem atN_set (f : Nat → List UInt8) {n k : Nat} (_ : k < n) : (stA (atN f n k)).setIfInBounds k (.string (tx (f k))) = stA (atN f n (k + 1)) := by
  apply Array.ext'
  rw [Array.toList_setIfInBounds]
  unfold stA
  apply List.ext_getElem
  · simp [atN]
  · intro i h1 h2
    simp only [List.getElem_set, List.getElem_map, atN, List.getElem_range]
    by_cases hik : k = i
    · subst hik
      rw [if_pos rfl, if_pos (by omega)]
    · rw [if_neg hik]
      by_cases h3 : i < k
      · rw [if_pos h3, if_pos (by omega)]
      · rw [if_neg h3, if_neg (by omega)]
theorem atN_same (f : Nat → List UInt8) {n k : Nat} (h : f k = []) : atN f n (k + 1) = atN f n k := by
  unfold atN
  apply List.map_congr_left
  intro i _
  by_cases hik : i = k
  · subst hik
    rw [if_pos (by omega), if_neg (by omega), h]
  · by_cases h3 : i < k
    · rw [if_pos h3, if_pos (by omega)]
    · rw [if_neg h3, if_neg (by omega)]
set_option maxRecDepth 20000 in
set_option maxHeartbeats 12800000 in
theorem s_OwnersAt (A A' : Option Addr) (c c' : Nat) (rs : List Rg) (vs : List Vw) (x z : Int) (w : World) (h : SlAt w 1 encR A rs) (hr : Rings w rs) (hl : rs.length ≤ 1048576) (h' : SlAt w 2 encV A' vs) (hv : Views w vs) (hl' : vs.length ≤ 1048576) :
    Calls Tryz.prog 7 #[.slice A rs.length c, .slice A' vs.length c', .agg #[.int .i64 x, .int .i64 z]] w fun e w' => ∃ v, e = .returned (.tuple #[v, .int .i64 (atC (psOf rs) (voOf vs) x z)]) ∧ OwS w' w.heap.size v (atR (psOf rs) (voOf vs) x z) ∧ Ext w w' := by
  have HC := Lib.hid (fun W (hW : Ext w W) => s_AreViews A A' c c' rs vs W (h.ext hW) (hr.ext hW) hl (h'.ext hW) (hv.ext hW) hl')
  have HI := Lib.hid (fun W => s_IsPoint x z W)
  cases hvb : viB (psOf rs) (voOf vs) with
  | false =>
    obtain ⟨e1, e2⟩ := atR_no (x := x) (z := z) (L := psOf rs) (V := voOf vs) (by rw [hvb]; rfl)
    rw [e1, e2]
    rw [hvb] at HC
    clear hvb e1 e2 h hr h' hv HI
    go_enter Tryz.func7, Tryz.ntmps7
    (go_wp2_with fail; refine (HC.out _ (by (repeat (first | with_reducible exact Ext.refl _ | with_reducible assumption | ((with_reducible apply Src.ext); with_reducible assumption) | with_reducible refine Ext.alloc ?_ _ | with_reducible refine Ext.drew ?_ | with_reducible refine Ext.drewN ?_ _ | ((with_reducible refine Ext.setCell' ?_ ?_ _); solve | omega | simp | (simp; omega)) | (with_reducible refine Ext.trans ?_ (by with_reducible assumption)))))).mono ?_; rintro e w1 ⟨rfl, hx1⟩; obtain ⟨hc1, hf1⟩ := hx1.rules; have hs1 := hx1.size; (try simp at hs1); have := (show w.heap.size < w1.heap.size from by omega))
    go_wp2
    go_ret2
    exact ⟨_, rfl, Own.nil _ _, by (repeat (first | with_reducible exact Ext.refl _ | with_reducible assumption | ((with_reducible apply Src.ext); with_reducible assumption) | with_reducible refine Ext.alloc ?_ _ | with_reducible refine Ext.drew ?_ | with_reducible refine Ext.drewN ?_ _ | ((with_reducible refine Ext.setCell' ?_ ?_ _); solve | omega | simp | (simp; omega)) | (with_reducible refine Ext.trans ?_ (by with_reducible assumption))))⟩
  | true =>
    cases hpb : okP x z with
    | false =>
      obtain ⟨e1, e2⟩ := atR_no (x := x) (z := z) (L := psOf rs) (V := voOf vs) (by rw [hvb, hpb]; rfl)
      rw [e1, e2]
      rw [hvb] at HC
      rw [hpb] at HI
      clear hvb hpb e1 e2 h hr h' hv
      go_enter Tryz.func7, Tryz.ntmps7
      (go_wp2_with fail; refine (HC.out _ (by (repeat (first | with_reducible exact Ext.refl _ | with_reducible assumption | ((with_reducible apply Src.ext); with_reducible assumption) | with_reducible refine Ext.alloc ?_ _ | with_reducible refine Ext.drew ?_ | with_reducible refine Ext.drewN ?_ _ | ((with_reducible refine Ext.setCell' ?_ ?_ _); solve | omega | simp | (simp; omega)) | (with_reducible refine Ext.trans ?_ (by with_reducible assumption)))))).mono ?_; rintro e w1 ⟨rfl, hx1⟩; obtain ⟨hc1, hf1⟩ := hx1.rules; have hs1 := hx1.size; (try simp at hs1); have := (show w.heap.size < w1.heap.size from by omega))
      (go_wp2_with fail; refine (HI.out _).mono ?_; rintro e w2 ⟨rfl, hx2⟩; obtain ⟨hc2, hf2⟩ := hx2.rules; have hs2 := hx2.size; (try simp at hs2); have := (show w.heap.size < w2.heap.size from by omega))
      go_wp2
      go_ret2
      exact ⟨_, rfl, Own.nil _ _, by (repeat (first | with_reducible exact Ext.refl _ | with_reducible assumption | ((with_reducible apply Src.ext); with_reducible assumption) | with_reducible refine Ext.alloc ?_ _ | with_reducible refine Ext.drew ?_ | with_reducible refine Ext.drewN ?_ _ | ((with_reducible refine Ext.setCell' ?_ ?_ _); solve | omega | simp | (simp; omega)) | (with_reducible refine Ext.trans ?_ (by with_reducible assumption))))⟩
    | true =>
      obtain ⟨e1, e2⟩ := atR_yes (x := x) (z := z) (L := psOf rs) (V := voOf vs) (by rw [hvb, hpb]; rfl)
      rw [e1, e2, voOf_len]
      have h6 := (viB_map hvb).1.1
      rw [psOf_len] at h6
      have hv4 : vs.length ≤ 4 := viB_four hvb
      have HM := Lib.hid (viB_map hvb).1
      have HPB := Lib.hid (bdP_of hpb)
      have HLN : Hid (∀ k, k < rs.length → ∀ i, i < vs.length → k < (vs.getD i vwD).2.2.2.length) := Lib.hid fun k hk i hi => by rw [viB_len hvb hi]; exact hk
      have HS : Hid (∀ k, k < rs.length → ∀ W, Ext w W → Calls Tryz.prog 31 #[.slice (rs.getD k rgD).1 (rs.getD k rgD).2.2.length (rs.getD k rgD).2.1, .agg #[.int .i64 x, .int .i64 z]] W fun e w' => e = .returned (.int .i64 (sideZ (rs.getD k rgD).2.2 x z)) ∧ Ext W w') := Lib.hid fun k hk W hx => by
        have hring := ring_facts (HM.out.2.1 k (by rw [psOf_len]; exact hk))
        rw [psOf_at hk] at hring
        exact s_side _ _ _ x z W ((hr _ (rg_mem hk)).1.ext hx) hring.1 (by omega) hring.2.2 hpb
      rw [hvb] at HC
      rw [hpb] at HI
      clear hvb hpb e1 e2 HPB HM hr
      go_enter Tryz.func7, Tryz.ntmps7
      (go_wp2_with fail; refine (HC.out _ (by (repeat (first | with_reducible exact Ext.refl _ | with_reducible assumption | ((with_reducible apply Src.ext); with_reducible assumption) | with_reducible refine Ext.alloc ?_ _ | with_reducible refine Ext.drew ?_ | with_reducible refine Ext.drewN ?_ _ | ((with_reducible refine Ext.setCell' ?_ ?_ _); solve | omega | simp | (simp; omega)) | (with_reducible refine Ext.trans ?_ (by with_reducible assumption)))))).mono ?_; rintro e w1 ⟨rfl, hx1⟩; obtain ⟨hc1, hf1⟩ := hx1.rules; have hs1 := hx1.size; (try simp at hs1); have := (show w.heap.size < w1.heap.size from by omega))
      (go_wp2_with fail; refine (HI.out _).mono ?_; rintro e w2 ⟨rfl, hx2⟩; obtain ⟨hc2, hf2⟩ := hx2.rules; have hs2 := hx2.size; (try simp at hs2); have := (show w.heap.size < w2.heap.size from by omega))
      go_wp2
      clear HC HI
      go_loopw [8, 9] (fun v i wr => ∃ k : Nat, k ≤ vs.length ∧ i = .int .i64 k ∧ Hid (OwS wr (w.heap.size + 1) v (atTo (psOf rs) (voOf vs) x z k)) ∧ Ext (w.alloc (.cells #[.int .i64 x, .int .i64 z] 35)) wr) (fun _ i _ => vs.length - (intOf i).toNat)
      case atStart => exact ⟨0, by omega, rfl, Lib.hid (World.ownsRow_made (base := w.heap.size + 1) (e := 9) (size := 1) w2 #[] 0 (by omega) (Nat.zero_le _) rfl : OwS _ (w.heap.size + 1) _ (atTo (psOf rs) (voOf vs) x z 0)), by (repeat (first | with_reducible exact Ext.refl _ | with_reducible assumption | ((with_reducible apply Src.ext); with_reducible assumption) | with_reducible refine Ext.alloc ?_ _ | with_reducible refine Ext.drew ?_ | with_reducible refine Ext.drewN ?_ _ | ((with_reducible refine Ext.setCell' ?_ ?_ _); solve | omega | simp | (simp; omega)) | (with_reducible refine Ext.trans ?_ (by with_reducible assumption))))⟩
      case round =>
        obtain ⟨k, hk, rfl, HV, hxr⟩ := hrel
        obtain ⟨w5, rfl⟩ : ∃ x, x = wr := ⟨wr, rfl⟩
        have hcl : (atTo (psOf rs) (voOf vs) x z k).length ≤ k := by rw [atTo_len]; exact Nat.le_refl _
        have hsr := hxr.size
        (try simp at hsr)
        by_cases hlt : k < vs.length
        · have hsu := atTo_succ (psOf rs) (voOf vs) x z k
          rw [psOf_len] at hsu
          have HS1 := Lib.hid hsu
          clear hsu
          go_wp2
          go_loopw [10, 11] (fun ov iv wi => ∃ m : Nat, m ≤ rs.length ∧ iv = .int .i64 m ∧ ov = .string (tx (atO (psOf rs) (voOf vs) x z k m)) ∧ Ext w5 wi) (fun _ iv _ => rs.length - (intOf iv).toNat)
          case atStart => exact ⟨0, by omega, rfl, rfl, by (repeat (first | with_reducible exact Ext.refl _ | with_reducible assumption | ((with_reducible apply Src.ext); with_reducible assumption) | with_reducible refine Ext.alloc ?_ _ | with_reducible refine Ext.drew ?_ | with_reducible refine Ext.drewN ?_ _ | ((with_reducible refine Ext.setCell' ?_ ?_ _); solve | omega | simp | (simp; omega)) | (with_reducible refine Ext.trans ?_ (by with_reducible assumption))))⟩
          case round =>
            obtain ⟨m, hm, rfl, rfl, hxi⟩ := hrel
            have hX0 : Ext (w.alloc (.cells #[.int .i64 x, .int .i64 z] 35)) wr := hxr.trans hxi
            have hX : Ext w wr := ((Ext.refl w).alloc _).trans hX0
            have q0 : wr.cell? ⟨w.heap.size, 0, none⟩ = some (.int .i64 x) := by
              have hB : Blk (w.alloc (.cells #[.int .i64 x, .int .i64 z] 35)) w.heap.size 35 #[.int .i64 x, .int .i64 z] := Blk.new rfl
              exact (hB.ext hX0).cell 0
            have q1 : wr.cell? ⟨w.heap.size, 1, none⟩ = some (.int .i64 z) := by
              have hB : Blk (w.alloc (.cells #[.int .i64 x, .int .i64 z] 35)) w.heap.size 35 #[.int .i64 x, .int .i64 z] := Blk.new rfl
              exact (hB.ext hX0).cell 1
            by_cases hmt : m < rs.length
            · obtain ⟨b, off, rfl, hb⟩ := h.openR (by omega)
              have hc0 := (h.ext hX).rg' hmt
              obtain ⟨b2, off2, rfl, hb2, d0, d1⟩ := (h'.ext hX).vw hlt
              have hki := HLN.out m hmt k hlt
              obtain ⟨b3, off3, hA3, hb3, f0⟩ := ((hv.ext hX) _ (vw_mem hlt)).1.st hki
              rw [hA3] at d1
              have hbr : b < wr.heap.size := Nat.lt_of_lt_of_le hb hX.size
              have hpw : w.heap.size < wr.heap.size := by have := hX0.size; simp at this; omega
              have hside := HS.out m hmt
              have hin : inR (psOf rs) x z m = decide (0 < sideZ (rs.getD m rgD).2.2 x z) := by unfold inR; rw [psOf_at hmt]
              have hat := ownL_at (vs := vs) (i := k) (k := m) hlt
              obtain ⟨sd, hsd⟩ : ∃ s, s = sideZ (rs.getD m rgD).2.2 x z := ⟨_, rfl⟩
              rw [← hsd] at hside hin
              obtain ⟨tk, htk⟩ : ∃ t, t = tx ((vs.getD k vwD).2.2.2.getD m []) := ⟨_, rfl⟩
              rw [← htk] at f0
              by_cases hpos : 0 < sd
              · have hA : tk = tx (atO (psOf rs) (voOf vs) x z k (m + 1)) := by rw [atO_yes (by rw [hin]; exact decide_eq_true hpos), hat]; exact htk
                have HTK := Lib.hid hA
                have HCC := Lib.hid hside
                clear hsd htk hin hat hside hA hA3
                generalize rs.getD m rgD = r at *
                generalize vs.getD k vwD = v at *
                go_wp2
                (refine wp_region_ext (by kernel_rfl) (by kernel_rfl) ?_; (repeat (go_big_quiet_step ((go_at_call 31; exact Calls_ext (HCC.out _ (hX.trans (ExtOf.ext _))))))); refine wpQuiet_nil ?_; intro wq hxwq; obtain ⟨hcwq, hfwq⟩ := hxwq.rules; have hswq := hxwq.size; (try simp at hswq))
                go_wp2
                go_roundw
                case rel => exact ⟨m + 1, by omega, by go_num, by rw [HTK.out], by (repeat (first | with_reducible exact Ext.refl _ | with_reducible assumption | ((with_reducible apply Src.ext); with_reducible assumption) | with_reducible refine Ext.alloc ?_ _ | with_reducible refine Ext.drew ?_ | with_reducible refine Ext.drewN ?_ _ | ((with_reducible refine Ext.setCell' ?_ ?_ _); solve | omega | simp | (simp; omega)) | (with_reducible refine Ext.trans ?_ (by with_reducible assumption))))⟩
                case measure => simp [intOf]; omega
              · have hA : atO (psOf rs) (voOf vs) x z k (m + 1) = atO (psOf rs) (voOf vs) x z k m := atO_no (by rw [hin]; exact decide_eq_false hpos)
                have HTK := Lib.hid hA
                have HCC := Lib.hid hside
                clear hsd htk hin hat hside hA hA3 d0 d1 f0
                generalize rs.getD m rgD = r at *
                go_wp2
                (refine wp_region_ext (by kernel_rfl) (by kernel_rfl) ?_; (repeat (go_big_quiet_step ((go_at_call 31; exact Calls_ext (HCC.out _ (hX.trans (ExtOf.ext _))))))); refine wpQuiet_nil ?_; intro wq hxwq; obtain ⟨hcwq, hfwq⟩ := hxwq.rules; have hswq := hxwq.size; (try simp at hswq))
                go_wp2
                go_roundw
                case rel => exact ⟨m + 1, by omega, by go_num, by rw [HTK.out], by (repeat (first | with_reducible exact Ext.refl _ | with_reducible assumption | ((with_reducible apply Src.ext); with_reducible assumption) | with_reducible refine Ext.alloc ?_ _ | with_reducible refine Ext.drew ?_ | with_reducible refine Ext.drewN ?_ _ | ((with_reducible refine Ext.setCell' ?_ ?_ _); solve | omega | simp | (simp; omega)) | (with_reducible refine Ext.trans ?_ (by with_reducible assumption))))⟩
                case measure => simp [intOf]; omega
            · obtain rfl : m = rs.length := by omega
              have hsi := hxi.size
              go_wp2_with (at_builtin; refine wpList_append_sl elS len_encS one_encS rfl _ _ rfl rfl (HV.out.ext (by (repeat (first | with_reducible exact Ext.refl _ | with_reducible assumption | ((with_reducible apply Src.ext); with_reducible assumption) | with_reducible refine Ext.alloc ?_ _ | with_reducible refine Ext.drew ?_ | with_reducible refine Ext.drewN ?_ _ | ((with_reducible refine Ext.setCell' ?_ ?_ _); solve | omega | simp | (simp; omega)) | (with_reducible refine Ext.trans ?_ (by with_reducible assumption)))))) (xs := [atO (psOf rs) (voOf vs) x z k rs.length]) rfl (blk_s1 (by (repeat (first | with_reducible assumption | ((with_reducible apply Blk.new); solve | simp | rfl) | with_reducible apply Blk.drew | with_reducible apply Blk.drewN | ((with_reducible apply Blk.far'); solve | omega | simp | (simp; omega)) | with_reducible apply Blk.set_ | with_reducible apply Blk.alloc | ((with_reducible apply Blk.ext'); with_reducible assumption) | ((with_reducible apply Blk.but'); (with_reducible assumption); solve | omega | (simp; omega)))))) (by simp; unfold maxLen; omega) (by simp; omega) (by first | omega | (simp; omega)) ?_)
              intro v' w7 hown hgrow _
              rw [← HS1.out] at hown
              have HV2 := Lib.hid hown
              have hx7 : Ext (w.alloc (.cells #[.int .i64 x, .int .i64 z] 35)) w7 := by
                refine Ext.grown ?_ hgrow (fun q hq => by have := (HV.out.row q hq).1; simp; omega)
                (repeat (first | with_reducible exact Ext.refl _ | with_reducible assumption | ((with_reducible apply Src.ext); with_reducible assumption) | with_reducible refine Ext.alloc ?_ _ | with_reducible refine Ext.drew ?_ | with_reducible refine Ext.drewN ?_ _ | ((with_reducible refine Ext.setCell' ?_ ?_ _); solve | omega | simp | (simp; omega)) | (with_reducible refine Ext.trans ?_ (by with_reducible assumption))))
              clear hown hgrow
              go_wp2
              go_roundw
              case rel => exact ⟨k + 1, by omega, by go_num, HV2, hx7⟩
              case measure => simp [intOf]; omega
        · obtain rfl : k = vs.length := by omega
          go_wp2
          go_ret2
          exact ⟨_, rfl, HV.out.less (by omega), ((Ext.refl w).alloc _).trans hxr⟩
theorem i_inRing (r : Rg) (x z : Int) (nb : Nat) (w : World) (h0 : w.cell? ⟨nb, 0, none⟩ = some (.int .i64 x)) (h1 : w.cell? ⟨nb, 1, none⟩ = some (.int .i64 z)) (h : SlAt w 2 encP r.1 r.2.2) (hg : ringB r.2.2 = true) :
    Calls Tryz.prog 37 #[.slice r.1 r.2.2.length r.2.1, .pointer (some ⟨nb, 0, none⟩)] w fun e w' => e = .returned (.bool (decide (0 < sideZ r.2.2 x z))) ∧ Ext w w' := by
  obtain ⟨A, c, ps⟩ := r
  simp only at h hg ⊢
  obtain ⟨a0, al, ao⟩ := ring_facts hg
  have HS := Lib.hid (i_side A c ps x z w h a0 (by omega))
  clear hg ao
  generalize sideZ ps x z = sd at *
  go_enter Tryz.func37, Tryz.ntmps37
  (go_wp2_with fail; refine (HS.out).mono ?_; rintro e w1 ⟨rfl, hx1⟩; obtain ⟨hc1, hf1⟩ := hx1.rules; have hs1 := hx1.size; (try simp at hs1))
  by_cases hp : 0 < sd
  · have hd := decide_eq_true hp
    go_wp2
    go_ret
    exact ⟨ret_bool hd.symm, by (repeat (first | with_reducible exact Ext.refl _ | with_reducible assumption | ((with_reducible apply Src.ext); with_reducible assumption) | with_reducible refine Ext.alloc ?_ _ | with_reducible refine Ext.drew ?_ | with_reducible refine Ext.drewN ?_ _ | ((with_reducible refine Ext.setCell' ?_ ?_ _); solve | omega | simp | (simp; omega)) | (with_reducible refine Ext.trans ?_ (by with_reducible assumption))))⟩
  · have hd := decide_eq_false hp
    go_wp2
    go_ret
    exact ⟨ret_bool hd.symm, by (repeat (first | with_reducible exact Ext.refl _ | with_reducible assumption | ((with_reducible apply Src.ext); with_reducible assumption) | with_reducible refine Ext.alloc ?_ _ | with_reducible refine Ext.drew ?_ | with_reducible refine Ext.drewN ?_ _ | ((with_reducible refine Ext.setCell' ?_ ?_ _); solve | omega | simp | (simp; omega)) | (with_reducible refine Ext.trans ?_ (by with_reducible assumption))))⟩
theorem en_at (args : Array Value) (w : World) : (callFunc 37 args).run Tryz.prog w = .ok (.enter 37 args) w := enters_isSome Tryz.func37 (by kernel_rfl) (by kernel_rfl) args w
theorem idxF_two (p : Rg → Bool) (rs : List Rg) : (∃ k : Nat, k < rs.length ∧ idxF p rs = k ∧ p (rs.getD k rgD) = true) ∨ (idxF p rs = -1 ∧ ∀ j, j < rs.length → p (rs.getD j rgD) = false) := by
  unfold idxF
  rcases h : rs.findIdx? p with _ | k
  · right
    refine ⟨rfl, fun j hj => ?_⟩
    rw [List.findIdx?_eq_none_iff] at h
    exact h _ (rg_mem hj)
  · left
    rw [List.findIdx?_eq_some_iff_getElem] at h
    obtain ⟨hk, hp, _⟩ := h
    exact ⟨k, hk, rfl, by simpa [List.getD, hk] using hp⟩
set_option maxRecDepth 20000 in
set_option maxHeartbeats 12800000 in
theorem i_OwnersAt (A A' : Option Addr) (c c' : Nat) (rs : List Rg) (vs : List Vw) (x z : Int) (w : World) (h : SlAt w 1 encR A rs) (hr : Rings w rs) (hl : rs.length ≤ 1048576) (hc : rs.length ≤ c) (h' : SlAt w 2 encV A' vs) (hv : Views w vs) (hl' : vs.length ≤ 1048576) :
    Calls Tryz.prog 11 #[.slice A rs.length c, .slice A' vs.length c', .agg #[.int .i64 x, .int .i64 z]] w fun e w' => ∃ v, e = .returned (.tuple #[v, .int .i64 (atC (psOf rs) (voOf vs) x z)]) ∧ OwS w' w.heap.size v (atR (psOf rs) (voOf vs) x z) ∧ Ext w w' := by
  have HC := Lib.hid (fun W (hW : Ext w W) => i_AreViews A A' c c' rs vs W (h.ext hW) (hr.ext hW) hl hc (h'.ext hW) (hv.ext hW) hl')
  have HI := Lib.hid (fun W => i_IsPoint x z W)
  cases hvb : viB (psOf rs) (voOf vs) with
  | false =>
    obtain ⟨e1, e2⟩ := atR_no (x := x) (z := z) (L := psOf rs) (V := voOf vs) (by rw [hvb]; rfl)
    rw [e1, e2]
    rw [hvb] at HC
    clear hvb e1 e2 h hr h' hv HI
    go_enter Tryz.func11, Tryz.ntmps11
    (go_wp2_with fail; refine (HC.out _ (by (repeat (first | with_reducible exact Ext.refl _ | with_reducible assumption | ((with_reducible apply Src.ext); with_reducible assumption) | with_reducible refine Ext.alloc ?_ _ | with_reducible refine Ext.drew ?_ | with_reducible refine Ext.drewN ?_ _ | ((with_reducible refine Ext.setCell' ?_ ?_ _); solve | omega | simp | (simp; omega)) | (with_reducible refine Ext.trans ?_ (by with_reducible assumption)))))).mono ?_; rintro e w1 ⟨rfl, hx1⟩; obtain ⟨hc1, hf1⟩ := hx1.rules; have hs1 := hx1.size; (try simp at hs1); have := (show w.heap.size < w1.heap.size from by omega))
    go_wp2
    go_ret2
    exact ⟨_, rfl, Own.nil _ _, by (repeat (first | with_reducible exact Ext.refl _ | with_reducible assumption | ((with_reducible apply Src.ext); with_reducible assumption) | with_reducible refine Ext.alloc ?_ _ | with_reducible refine Ext.drew ?_ | with_reducible refine Ext.drewN ?_ _ | ((with_reducible refine Ext.setCell' ?_ ?_ _); solve | omega | simp | (simp; omega)) | (with_reducible refine Ext.trans ?_ (by with_reducible assumption))))⟩
  | true =>
    cases hpb : okP x z with
    | false =>
      obtain ⟨e1, e2⟩ := atR_no (x := x) (z := z) (L := psOf rs) (V := voOf vs) (by rw [hvb, hpb]; rfl)
      rw [e1, e2]
      rw [hvb] at HC
      rw [hpb] at HI
      clear hvb hpb e1 e2 h hr h' hv
      go_enter Tryz.func11, Tryz.ntmps11
      (go_wp2_with fail; refine (HC.out _ (by (repeat (first | with_reducible exact Ext.refl _ | with_reducible assumption | ((with_reducible apply Src.ext); with_reducible assumption) | with_reducible refine Ext.alloc ?_ _ | with_reducible refine Ext.drew ?_ | with_reducible refine Ext.drewN ?_ _ | ((with_reducible refine Ext.setCell' ?_ ?_ _); solve | omega | simp | (simp; omega)) | (with_reducible refine Ext.trans ?_ (by with_reducible assumption)))))).mono ?_; rintro e w1 ⟨rfl, hx1⟩; obtain ⟨hc1, hf1⟩ := hx1.rules; have hs1 := hx1.size; (try simp at hs1); have := (show w.heap.size < w1.heap.size from by omega))
      (go_wp2_with fail; refine (HI.out _).mono ?_; rintro e w2 ⟨rfl, hx2⟩; obtain ⟨hc2, hf2⟩ := hx2.rules; have hs2 := hx2.size; (try simp at hs2); have := (show w.heap.size < w2.heap.size from by omega))
      go_wp2
      go_ret2
      exact ⟨_, rfl, Own.nil _ _, by (repeat (first | with_reducible exact Ext.refl _ | with_reducible assumption | ((with_reducible apply Src.ext); with_reducible assumption) | with_reducible refine Ext.alloc ?_ _ | with_reducible refine Ext.drew ?_ | with_reducible refine Ext.drewN ?_ _ | ((with_reducible refine Ext.setCell' ?_ ?_ _); solve | omega | simp | (simp; omega)) | (with_reducible refine Ext.trans ?_ (by with_reducible assumption))))⟩
    | true =>
      obtain ⟨e1, e2⟩ := atR_yes (x := x) (z := z) (L := psOf rs) (V := voOf vs) (by rw [hvb, hpb]; rfl)
      rw [e1, e2, voOf_len]
      have h6 := (viB_map hvb).1.1
      rw [psOf_len] at h6
      have hv4 : vs.length ≤ 4 := viB_four hvb
      have HM := Lib.hid (viB_map hvb).1
      have HPB := Lib.hid (bdP_of hpb)
      have HLN : Hid (∀ k, k < rs.length → ∀ i, i < vs.length → k < (vs.getD i vwD).2.2.2.length) := Lib.hid fun k hk i hi => by rw [viB_len hvb hi]; exact hk
      have HF : Hid (∀ W, Ext (w.alloc (.cells #[.int .i64 x, .int .i64 z] 35)) W → Calls Tryz.prog 36 #[.slice A rs.length c, .func (.func 37) #[] #[.pointer (some ⟨w.heap.size, 0, none⟩)]] W fun e w' => e = .returned (.int .i64 (idxF (fun r => decide (0 < sideZ r.2.2 x z)) rs)) ∧ Ext W w') := Lib.hid fun W hW => by
        have hX : Ext w W := ((Ext.refl w).alloc _).trans hW
        refine i_IndexFuncR (fun r => decide (0 < sideZ r.2.2 x z)) _ #[.pointer (some ⟨w.heap.size, 0, none⟩)] en_at A rs.length c rs W (h.ext hX) rfl hl (fun r hm W' hx => ?_)
        have hB : Blk (w.alloc (.cells #[.int .i64 x, .int .i64 z] 35)) w.heap.size 35 #[.int .i64 x, .int .i64 z] := Blk.new rfl
        have hB' := (hB.ext hW).ext hx
        obtain ⟨j, hj, rfl⟩ := List.mem_iff_getElem.1 hm
        have hring := HM.out.2.1 j (by rw [psOf_len]; exact hj)
        rw [psOf_at hj, show rs.getD j rgD = rs[j] by simp [List.getD, hj]] at hring
        exact i_inRing _ x z w.heap.size W' (hB'.cell 0) (hB'.cell 1) ((hr _ hm).1.ext (hX.trans hx)) hring
      rw [hvb] at HC
      rw [hpb] at HI
      clear e1 e2
      have hmk := run_make_row' (P := Tryz.prog) 28 9 (.string ⟨#[]⟩) 16 Tryz.underlying28 (by kernel_rfl) rfl .i64 .i64 vs.length (by omega) (by omega)
      rcases idxF_two (fun r => decide (0 < sideZ r.2.2 x z)) rs with ⟨k, hk, hki, hkp⟩ | ⟨hki, hkp⟩
      · rw [hki] at HF
        have hown : ∀ i, atO (psOf rs) (voOf vs) x z i rs.length = ownL (voOf vs) i k := fun i => by
          have := atO_hit (V := voOf vs) (i := i) HM.out HPB.out (k := k) (by unfold inR; rw [psOf_at hk]; exact hkp) (by rw [psOf_len]; exact hk) (psOf rs).length (Nat.le_refl _) (by rw [psOf_len]; exact hk)
          rwa [psOf_len] at this
        have HO := Lib.hid hown
        have HLK := Lib.hid (HLN.out k hk)
        have HATO : Hid (atTo (psOf rs) (voOf vs) x z vs.length = atN (fun i => atO (psOf rs) (voOf vs) x z i rs.length) vs.length vs.length) := Lib.hid (by rw [atN_full]; unfold atTo; rw [psOf_len])
        rw [HATO.out]
        have HE : Hid (∀ i, (fun i => atO (psOf rs) (voOf vs) x z i rs.length) i = ownL (voOf vs) i k) := Lib.hid hown
        generalize (fun i => atO (psOf rs) (voOf vs) x z i rs.length) = f at *
        clear hvb hpb HPB HM hr hki hkp hown HO HATO HLN
        go_enter Tryz.func11, Tryz.ntmps11
        (go_wp2_with fail; refine (HC.out _ (by (repeat (first | with_reducible exact Ext.refl _ | with_reducible assumption | ((with_reducible apply Src.ext); with_reducible assumption) | with_reducible refine Ext.alloc ?_ _ | with_reducible refine Ext.drew ?_ | with_reducible refine Ext.drewN ?_ _ | ((with_reducible refine Ext.setCell' ?_ ?_ _); solve | omega | simp | (simp; omega)) | (with_reducible refine Ext.trans ?_ (by with_reducible assumption)))))).mono ?_; rintro e w1 ⟨rfl, hx1⟩; obtain ⟨hc1, hf1⟩ := hx1.rules; have hs1 := hx1.size; (try simp at hs1); have := (show w.heap.size < w1.heap.size from by omega))
        (go_wp2_with fail; refine (HI.out _).mono ?_; rintro e w2 ⟨rfl, hx2⟩; obtain ⟨hc2, hf2⟩ := hx2.rules; have hs2 := hx2.size; (try simp at hs2); have := (show w.heap.size < w2.heap.size from by omega))
        (go_wp2_with fail; refine (HF.out _ (by (repeat (first | with_reducible exact Ext.refl _ | with_reducible assumption | ((with_reducible apply Src.ext); with_reducible assumption) | with_reducible refine Ext.alloc ?_ _ | with_reducible refine Ext.drew ?_ | with_reducible refine Ext.drewN ?_ _ | ((with_reducible refine Ext.setCell' ?_ ?_ _); solve | omega | simp | (simp; omega)) | (with_reducible refine Ext.trans ?_ (by with_reducible assumption)))))).mono ?_; rintro e w3 ⟨rfl, hx3⟩; obtain ⟨hc3, hf3⟩ := hx3.rules; have hs3 := hx3.size; (try simp at hs3); have := (show w.heap.size < w3.heap.size from by omega))
        go_wp2
        clear HC HI HF
        go_loopw [29] (fun iv wr => ∃ q : Nat, q ≤ vs.length ∧ iv = .int .i64 q ∧ Blk wr w3.heap.size 9 (stA (atN f vs.length q)) ∧ Ext w3 wr) (fun iv _ => vs.length - (intOf iv).toNat)
        case atStart => exact ⟨0, by omega, rfl, Blk.eq (by (repeat (first | with_reducible assumption | ((with_reducible apply Blk.new); solve | simp | rfl) | with_reducible apply Blk.drew | with_reducible apply Blk.drewN | ((with_reducible apply Blk.far'); solve | omega | simp | (simp; omega)) | with_reducible apply Blk.set_ | with_reducible apply Blk.alloc | ((with_reducible apply Blk.ext'); with_reducible assumption) | ((with_reducible apply Blk.but'); (with_reducible assumption); solve | omega | (simp; omega))))) (atN_zero _ _), by (repeat (first | with_reducible exact Ext.refl _ | with_reducible assumption | ((with_reducible apply Src.ext); with_reducible assumption) | with_reducible refine Ext.alloc ?_ _ | with_reducible refine Ext.drew ?_ | with_reducible refine Ext.drewN ?_ _ | ((with_reducible refine Ext.setCell' ?_ ?_ _); solve | omega | simp | (simp; omega)) | (with_reducible refine Ext.trans ?_ (by with_reducible assumption))))⟩
        case round =>
          obtain ⟨q, hq, rfl, hB, hxr⟩ := hrel
          have hX : Ext w wr := by (repeat (first | with_reducible exact Ext.refl _ | with_reducible assumption | ((with_reducible apply Src.ext); with_reducible assumption) | with_reducible refine Ext.alloc ?_ _ | with_reducible refine Ext.drew ?_ | with_reducible refine Ext.drewN ?_ _ | ((with_reducible refine Ext.setCell' ?_ ?_ _); solve | omega | simp | (simp; omega)) | (with_reducible refine Ext.trans ?_ (by with_reducible assumption))))
          have hgr := hB.lt
          by_cases hlt : q < vs.length
          · obtain ⟨b2, off2, rfl, hb2, d0, d1⟩ := (h'.ext hX).vw hlt
            have hkl := HLK.out q hlt
            obtain ⟨b3, off3, hA3, hb3, f0⟩ := ((hv.ext hX) _ (vw_mem hlt)).1.st hkl
            rw [hA3] at d1
            obtain ⟨u0, hu0⟩ : ∃ u, (stA (atN f vs.length q))[q]? = some u := ⟨_, Array.getElem?_eq_getElem (by rw [stA_size, atN_len]; exact hlt)⟩
            rw [← hB.cell] at hu0
            have g0 := hB.frozen q
            have hset := atN_set f hlt
            rw [HE.out q, ownL_at hlt] at hset
            generalize tx ((vs.getD q vwD).2.2.2.getD k []) = tk at *
            have HSET := Lib.hid hset
            clear hset
            obtain ⟨v, hve⟩ : ∃ v, v = vs.getD q vwD := ⟨_, rfl⟩
            rw [← hve] at d0 d1 hkl hA3
            clear hve hA3
            go_wp2
            go_roundw
            case rel => exact ⟨q + 1, by omega, by go_num, Blk.eq (by (repeat (first | with_reducible assumption | ((with_reducible apply Blk.new); solve | simp | rfl) | with_reducible apply Blk.drew | with_reducible apply Blk.drewN | ((with_reducible apply Blk.far'); solve | omega | simp | (simp; omega)) | with_reducible apply Blk.set_ | with_reducible apply Blk.alloc | ((with_reducible apply Blk.ext'); with_reducible assumption) | ((with_reducible apply Blk.but'); (with_reducible assumption); solve | omega | (simp; omega))))) HSET.out, by (repeat (first | with_reducible exact Ext.refl _ | with_reducible assumption | ((with_reducible apply Src.ext); with_reducible assumption) | with_reducible refine Ext.alloc ?_ _ | with_reducible refine Ext.drew ?_ | with_reducible refine Ext.drewN ?_ _ | ((with_reducible refine Ext.setCell' ?_ ?_ _); solve | omega | simp | (simp; omega)) | (with_reducible refine Ext.trans ?_ (by with_reducible assumption))))⟩
            case measure => simp [intOf]; omega
          · obtain rfl : q = vs.length := by omega
            have hlen := atN_len f vs.length vs.length
            have HR := Lib.hid (Own.of_blk (base := w.heap.size) (xs := atN f vs.length vs.length) hB len_encS (stA_flat _) (by omega) (by rw [hlen]; unfold maxLen; omega))
            rw [hlen] at HR
            go_wp2
            go_ret2
            exact ⟨_, rfl, HR.out, by (repeat (first | with_reducible exact Ext.refl _ | with_reducible assumption | ((with_reducible apply Src.ext); with_reducible assumption) | with_reducible refine Ext.alloc ?_ _ | with_reducible refine Ext.drew ?_ | with_reducible refine Ext.drewN ?_ _ | ((with_reducible refine Ext.setCell' ?_ ?_ _); solve | omega | simp | (simp; omega)) | (with_reducible refine Ext.trans ?_ (by with_reducible assumption))))⟩
      · rw [hki] at HF
        have hnone : ∀ i, atO (psOf rs) (voOf vs) x z i rs.length = [] := fun i => atO_none rs.length fun q hq => by unfold inR; rw [psOf_at hq]; exact hkp q hq
        have HATO : Hid (atTo (psOf rs) (voOf vs) x z vs.length = atN (fun _ => []) vs.length 0) := Lib.hid (by unfold atTo atN; rw [psOf_len]; exact List.map_congr_left fun i _ => by rw [hnone i]; rfl)
        rw [HATO.out]
        clear hvb hpb HPB HM hr hki hkp hnone HATO HLN
        go_enter Tryz.func11, Tryz.ntmps11
        (go_wp2_with fail; refine (HC.out _ (by (repeat (first | with_reducible exact Ext.refl _ | with_reducible assumption | ((with_reducible apply Src.ext); with_reducible assumption) | with_reducible refine Ext.alloc ?_ _ | with_reducible refine Ext.drew ?_ | with_reducible refine Ext.drewN ?_ _ | ((with_reducible refine Ext.setCell' ?_ ?_ _); solve | omega | simp | (simp; omega)) | (with_reducible refine Ext.trans ?_ (by with_reducible assumption)))))).mono ?_; rintro e w1 ⟨rfl, hx1⟩; obtain ⟨hc1, hf1⟩ := hx1.rules; have hs1 := hx1.size; (try simp at hs1); have := (show w.heap.size < w1.heap.size from by omega))
        (go_wp2_with fail; refine (HI.out _).mono ?_; rintro e w2 ⟨rfl, hx2⟩; obtain ⟨hc2, hf2⟩ := hx2.rules; have hs2 := hx2.size; (try simp at hs2); have := (show w.heap.size < w2.heap.size from by omega))
        (go_wp2_with fail; refine (HF.out _ (by (repeat (first | with_reducible exact Ext.refl _ | with_reducible assumption | ((with_reducible apply Src.ext); with_reducible assumption) | with_reducible refine Ext.alloc ?_ _ | with_reducible refine Ext.drew ?_ | with_reducible refine Ext.drewN ?_ _ | ((with_reducible refine Ext.setCell' ?_ ?_ _); solve | omega | simp | (simp; omega)) | (with_reducible refine Ext.trans ?_ (by with_reducible assumption)))))).mono ?_; rintro e w3 ⟨rfl, hx3⟩; obtain ⟨hc3, hf3⟩ := hx3.rules; have hs3 := hx3.size; (try simp at hs3); have := (show w.heap.size < w3.heap.size from by omega))
        go_wp2
        clear HC HI HF
        go_loopw [29] (fun iv wr => ∃ q : Nat, q ≤ vs.length ∧ iv = .int .i64 q ∧ Blk wr w3.heap.size 9 (stA (atN (fun _ => []) vs.length 0)) ∧ Ext w3 wr) (fun iv _ => vs.length - (intOf iv).toNat)
        case atStart => exact ⟨0, by omega, rfl, Blk.eq (by (repeat (first | with_reducible assumption | ((with_reducible apply Blk.new); solve | simp | rfl) | with_reducible apply Blk.drew | with_reducible apply Blk.drewN | ((with_reducible apply Blk.far'); solve | omega | simp | (simp; omega)) | with_reducible apply Blk.set_ | with_reducible apply Blk.alloc | ((with_reducible apply Blk.ext'); with_reducible assumption) | ((with_reducible apply Blk.but'); (with_reducible assumption); solve | omega | (simp; omega))))) (atN_zero _ _), by (repeat (first | with_reducible exact Ext.refl _ | with_reducible assumption | ((with_reducible apply Src.ext); with_reducible assumption) | with_reducible refine Ext.alloc ?_ _ | with_reducible refine Ext.drew ?_ | with_reducible refine Ext.drewN ?_ _ | ((with_reducible refine Ext.setCell' ?_ ?_ _); solve | omega | simp | (simp; omega)) | (with_reducible refine Ext.trans ?_ (by with_reducible assumption))))⟩
        case round =>
          obtain ⟨q, hq, rfl, hB, hxr⟩ := hrel
          have hX : Ext w wr := by (repeat (first | with_reducible exact Ext.refl _ | with_reducible assumption | ((with_reducible apply Src.ext); with_reducible assumption) | with_reducible refine Ext.alloc ?_ _ | with_reducible refine Ext.drew ?_ | with_reducible refine Ext.drewN ?_ _ | ((with_reducible refine Ext.setCell' ?_ ?_ _); solve | omega | simp | (simp; omega)) | (with_reducible refine Ext.trans ?_ (by with_reducible assumption))))
          have hgr := hB.lt
          by_cases hlt : q < vs.length
          · obtain ⟨b2, off2, rfl, hb2, d0, d1⟩ := (h'.ext hX).vw hlt
            generalize vs.getD q vwD = v at *
            go_wp2
            go_roundw
            case rel => exact ⟨q + 1, by omega, by go_num, by (repeat (first | with_reducible assumption | ((with_reducible apply Blk.new); solve | simp | rfl) | with_reducible apply Blk.drew | with_reducible apply Blk.drewN | ((with_reducible apply Blk.far'); solve | omega | simp | (simp; omega)) | with_reducible apply Blk.set_ | with_reducible apply Blk.alloc | ((with_reducible apply Blk.ext'); with_reducible assumption) | ((with_reducible apply Blk.but'); (with_reducible assumption); solve | omega | (simp; omega)))), by (repeat (first | with_reducible exact Ext.refl _ | with_reducible assumption | ((with_reducible apply Src.ext); with_reducible assumption) | with_reducible refine Ext.alloc ?_ _ | with_reducible refine Ext.drew ?_ | with_reducible refine Ext.drewN ?_ _ | ((with_reducible refine Ext.setCell' ?_ ?_ _); solve | omega | simp | (simp; omega)) | (with_reducible refine Ext.trans ?_ (by with_reducible assumption))))⟩
            case measure => simp [intOf]; omega
          · obtain rfl : q = vs.length := by omega
            have hlen := atN_len (fun _ => []) vs.length 0
            have HR := Lib.hid (Own.of_blk (base := w.heap.size) (xs := atN (fun _ => []) vs.length 0) hB len_encS (stA_flat _) (by omega) (by rw [hlen]; unfold maxLen; omega))
            rw [hlen] at HR
            go_wp2
            go_ret2
            exact ⟨_, rfl, HR.out, by (repeat (first | with_reducible exact Ext.refl _ | with_reducible assumption | ((with_reducible apply Src.ext); with_reducible assumption) | with_reducible refine Ext.alloc ?_ _ | with_reducible refine Ext.drew ?_ | with_reducible refine Ext.drewN ?_ _ | ((with_reducible refine Ext.setCell' ?_ ?_ _); solve | omega | simp | (simp; omega)) | (with_reducible refine Ext.trans ?_ (by with_reducible assumption))))⟩
end Go.Proofs.YtabdffponmmhoaaGreatDoor
