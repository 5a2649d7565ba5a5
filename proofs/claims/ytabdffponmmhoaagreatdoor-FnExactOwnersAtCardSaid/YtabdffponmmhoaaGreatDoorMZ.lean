/- Contracts of the maps: IsMap of the reference, walked over the translation. Plain laws of maps: both ways of testing rings give one answer. Contracts of the maps: IsMap, walked over the translation. -/
import Derived.Test.YtabdffponmmhoaaGreatDoorMY
import Derived.Deep.RegionHeld3
import Derived.Deep.DeepCutAuto
import Derived.RegionTactic
import Derived.BigRegion
import Derived.WalkLawsBesides
import Derived.WalkSpells
import Derived.Lib.MinMax
import Derived.Outline
namespace Go.Proofs.YtabdffponmmhoaaGreatDoor
open Go.RowKit
attribute [local go_sem] ExtOf.cell ExtOf.frozen

def psOf (rs : List Rg) : List (List (Int × Int)) := rs.map fun r => r.2.2
theorem psOf_len (rs : List Rg) : (psOf rs).length = rs.length := by simp [psOf]
theorem psOf_at {rs : List Rg} {k : Nat} (hk : k < rs.length) : (psOf rs).getD k [] = (rs.getD k rgD).2.2 := by simp [psOf, List.getD, hk]
/-- what makes a list of rings a map -/
def MapP (L : List (List (Int × Int))) : Prop := L.length ≤ 6 ∧ (∀ i, i < L.length → ringB (L.getD i []) = true) ∧ ∀ i j, j < i → i < L.length → apartS (L.getD j []) (L.getD i []) = true
open Classical in
noncomputable def mapB (L : List (List (Int × Int))) : Bool := decide (MapP L)
theorem mapB_iff {L : List (List (Int × Int))} : mapB L = true ↔ MapP L := by simp [mapB]
theorem mapB_no {L : List (List (Int × Int))} (h : ¬ MapP L) : false = mapB L := by simp [mapB, h]
theorem mapB_yes {L : List (List (Int × Int))} (h : MapP L) : true = mapB L := by simp [mapB, h]
set_option maxRecDepth 20000 in
set_option maxHeartbeats 12800000 in
theorem s_IsMap (A : Option Addr) (c : Nat) (rs : List Rg) (w : World) (h : SlAt w 1 encR A rs) (hr : Rings w rs) (hl : rs.length ≤ 1048576) :
    Calls Tryz.prog 63 #[.slice A rs.length c] w fun e w' => e = .returned (.bool (mapB (psOf rs))) ∧ Ext w w' := by
  by_cases h6 : rs.length ≤ 6
  · have H6 := Lib.hid h6
    go_enter Tryz.func63, Tryz.ntmps63
    go_wp2
    go_loopw [3] (fun i wr => ∃ k : Nat, k ≤ rs.length ∧ i = .int .i64 k ∧ Hid (∀ i, i < k → ringB (rs.getD i rgD).2.2 = true) ∧ Hid (∀ i, i < k → ∀ j, j < i → apartS (rs.getD j rgD).2.2 (rs.getD i rgD).2.2 = true) ∧ Ext w wr) (fun i _ => rs.length - (intOf i).toNat)
    case atStart => exact ⟨0, by omega, rfl, fun j hj => absurd hj (by omega), fun j hj => absurd hj (by omega), by (repeat (first | with_reducible exact Ext.refl _ | with_reducible assumption | ((with_reducible apply Src.ext); with_reducible assumption) | with_reducible refine Ext.alloc ?_ _ | with_reducible refine Ext.drew ?_ | with_reducible refine Ext.drewN ?_ _ | ((with_reducible refine Ext.setCell' ?_ ?_ _); solve | omega | simp | (simp; omega)) | (with_reducible refine Ext.trans ?_ (by with_reducible assumption))))⟩
    case round =>
      obtain ⟨k, hk, rfl, HR, HF, hxr⟩ := hrel
      by_cases hlt : k < rs.length
      · obtain ⟨b, off, rfl, hb⟩ := h.openR (by omega)
        have hc0 := (h.ext hxr).rg' hlt
        have hrk := hr _ (rg_mem hlt)
        by_cases hring : ringB (rs.getD k rgD).2.2 = true
        · have HR2 := Lib.hid (upTo_succ HR.out hring)
          have hcc : ∀ W, Ext w W → Calls Tryz.prog 93 #[.slice (rs.getD k rgD).1 (rs.getD k rgD).2.2.length (rs.getD k rgD).2.1] W fun e w' => e = .returned (.bool true) ∧ Ext W w' := fun W hx => as_bool (s_IsRing _ _ _ _ (hrk.1.ext hx) hrk.2.2) hring
          have HC := Lib.hid hcc
          have HRK := Lib.hid hring
          have HK := Lib.hid hrk
          obtain ⟨r, hre⟩ : ∃ r, r = rs.getD k rgD := ⟨_, rfl⟩
          rw [← hre] at hc0 HC HRK HK
          have HRE := Lib.hid hre
          clear hcc hring hrk hre
          go_wp2_with fail
          refine (HC.out _ (by (repeat (first | with_reducible exact Ext.refl _ | with_reducible assumption | ((with_reducible apply Src.ext); with_reducible assumption) | with_reducible refine Ext.alloc ?_ _ | with_reducible refine Ext.drew ?_ | with_reducible refine Ext.drewN ?_ _ | ((with_reducible refine Ext.setCell' ?_ ?_ _); solve | omega | simp | (simp; omega)) | (with_reducible refine Ext.trans ?_ (by with_reducible assumption)))))).mono ?_
          rintro e w1 ⟨rfl, hx1⟩
          have hX1 : Ext w w1 := by (repeat (first | with_reducible exact Ext.refl _ | with_reducible assumption | ((with_reducible apply Src.ext); with_reducible assumption) | with_reducible refine Ext.alloc ?_ _ | with_reducible refine Ext.drew ?_ | with_reducible refine Ext.drewN ?_ _ | ((with_reducible refine Ext.setCell' ?_ ?_ _); solve | omega | simp | (simp; omega)) | (with_reducible refine Ext.trans ?_ (by with_reducible assumption))))
          clear hx1 hxr
          go_wp2
          go_loopw [4] (fun i wi => ∃ m : Nat, m ≤ k ∧ i = .int .i64 m ∧ Hid (∀ j, j < m → apartS (rs.getD j rgD).2.2 r.2.2 = true) ∧ Ext w wi) (fun i _ => k - (intOf i).toNat)
          case atStart => exact ⟨0, by omega, rfl, fun j hj => absurd hj (by omega), hX1⟩
          case round =>
            obtain ⟨m, hm, rfl, HJ, hxi⟩ := hrel
            have hci := (h.ext hxi).rg' hlt
            rw [← HRE.out] at hci
            have hbr : b < wr.heap.size := Nat.lt_of_lt_of_le hb hxi.size
            by_cases hlm : m < k
            · have hmr : m < rs.length := by omega
              have hcj := (h.ext hxi).rg' hmr
              have hrm := hr _ (rg_mem hmr)
              have hringm := HR.out m hlm
              have hfa := ring_facts HRK.out
              have hfb := ring_facts hringm
              by_cases hap : apartS (rs.getD m rgD).2.2 r.2.2 = true
              · have HJ2 := Lib.hid (upTo_succ HJ.out hap)
                have hcc : ∀ W, Ext w W → Calls Tryz.prog 94 #[.slice (rs.getD m rgD).1 (rs.getD m rgD).2.2.length (rs.getD m rgD).2.1, .slice r.1 r.2.2.length r.2.1] W fun e w' => e = .returned (.bool true) ∧ Ext W w' := fun W hx => as_bool (s_l17Apart _ _ _ _ _ _ _ (hrm.1.ext hx) (HK.out.1.ext hx) hfb.1 hfa.1 (by omega) (by omega) hfb.2.2 hfa.2.2) hap
                have HCC := Lib.hid hcc
                clear hcc hap hrm hringm hfa hfb
                obtain ⟨q, hqe⟩ : ∃ q, q = rs.getD m rgD := ⟨_, rfl⟩
                rw [← hqe] at hcj HCC
                clear hqe
                go_wp2
                (refine wp_region_ext (by kernel_rfl) (by kernel_rfl) ?_; (repeat (go_big_quiet_step ((go_at_call 94; exact Calls_ext (HCC.out _ (hxi.trans (ExtOf.ext _))))))); refine wpQuiet_nil ?_; intro wq hxwq; obtain ⟨hcwq, hfwq⟩ := hxwq.rules; have hswq := hxwq.size; (try simp at hswq))
                go_wp2
                go_roundw
                case rel => exact ⟨m + 1, by omega, by go_num, HJ2, by (repeat (first | with_reducible exact Ext.refl _ | with_reducible assumption | ((with_reducible apply Src.ext); with_reducible assumption) | with_reducible refine Ext.alloc ?_ _ | with_reducible refine Ext.drew ?_ | with_reducible refine Ext.drewN ?_ _ | ((with_reducible refine Ext.setCell' ?_ ?_ _); solve | omega | simp | (simp; omega)) | (with_reducible refine Ext.trans ?_ (by with_reducible assumption))))⟩
                case measure => simp [intOf]; omega
              · have hap' : apartS (rs.getD m rgD).2.2 r.2.2 = false := Bool.eq_false_iff.2 hap
                have HNO : Hid (¬ MapP (psOf rs)) := Lib.hid (fun hM => by
                  have := hM.2.2 k m hlm (by rw [psOf_len]; exact hlt)
                  rw [psOf_at hmr, psOf_at hlt, ← HRE.out, hap'] at this
                  cases this)
                have hcc : ∀ W, Ext w W → Calls Tryz.prog 94 #[.slice (rs.getD m rgD).1 (rs.getD m rgD).2.2.length (rs.getD m rgD).2.1, .slice r.1 r.2.2.length r.2.1] W fun e w' => e = .returned (.bool false) ∧ Ext W w' := fun W hx => as_bool (s_l17Apart _ _ _ _ _ _ _ (hrm.1.ext hx) (HK.out.1.ext hx) hfb.1 hfa.1 (by omega) (by omega) hfb.2.2 hfa.2.2) hap'
                have HCC := Lib.hid hcc
                clear hcc hap hap' hrm hringm hfa hfb
                obtain ⟨q, hqe⟩ : ∃ q, q = rs.getD m rgD := ⟨_, rfl⟩
                rw [← hqe] at hcj HCC
                clear hqe
                go_wp2
                (refine wp_region_ext (by kernel_rfl) (by kernel_rfl) ?_; (repeat (go_big_quiet_step ((go_at_call 94; exact Calls_ext (HCC.out _ (hxi.trans (ExtOf.ext _))))))); refine wpQuiet_nil ?_; intro wq hxwq; obtain ⟨hcwq, hfwq⟩ := hxwq.rules; have hswq := hxwq.size; (try simp at hswq))
                go_wp2
                go_ret
                exact ⟨ret_bool (mapB_no HNO.out), by (repeat (first | with_reducible exact Ext.refl _ | with_reducible assumption | ((with_reducible apply Src.ext); with_reducible assumption) | with_reducible refine Ext.alloc ?_ _ | with_reducible refine Ext.drew ?_ | with_reducible refine Ext.drewN ?_ _ | ((with_reducible refine Ext.setCell' ?_ ?_ _); solve | omega | simp | (simp; omega)) | (with_reducible refine Ext.trans ?_ (by with_reducible assumption))))⟩
            · obtain rfl : m = k := by omega
              have HF2 := Lib.hid (upTo_succ HF.out (show ∀ j, j < m → apartS (rs.getD j rgD).2.2 (rs.getD m rgD).2.2 = true from by rw [← HRE.out]; exact HJ.out))
              go_wp2
              go_roundw
              case rel => exact ⟨m + 1, by omega, by go_num, HR2, HF2, by (repeat (first | with_reducible exact Ext.refl _ | with_reducible assumption | ((with_reducible apply Src.ext); with_reducible assumption) | with_reducible refine Ext.alloc ?_ _ | with_reducible refine Ext.drew ?_ | with_reducible refine Ext.drewN ?_ _ | ((with_reducible refine Ext.setCell' ?_ ?_ _); solve | omega | simp | (simp; omega)) | (with_reducible refine Ext.trans ?_ (by with_reducible assumption))))⟩
              case measure => simp [intOf]; omega
        · have hring' : ringB (rs.getD k rgD).2.2 = false := Bool.eq_false_iff.2 hring
          have HNO : Hid (¬ MapP (psOf rs)) := Lib.hid (fun hM => by
            have := hM.2.1 k (by rw [psOf_len]; exact hlt)
            rw [psOf_at hlt, hring'] at this
            cases this)
          have hcc : ∀ W, Ext w W → Calls Tryz.prog 93 #[.slice (rs.getD k rgD).1 (rs.getD k rgD).2.2.length (rs.getD k rgD).2.1] W fun e w' => e = .returned (.bool false) ∧ Ext W w' := fun W hx => as_bool (s_IsRing _ _ _ _ (hrk.1.ext hx) hrk.2.2) hring'
          have HC := Lib.hid hcc
          obtain ⟨r, hre⟩ : ∃ r, r = rs.getD k rgD := ⟨_, rfl⟩
          rw [← hre] at hc0 HC
          clear hcc hring hring' hrk hre
          go_wp2_with fail
          refine (HC.out _ (by (repeat (first | with_reducible exact Ext.refl _ | with_reducible assumption | ((with_reducible apply Src.ext); with_reducible assumption) | with_reducible refine Ext.alloc ?_ _ | with_reducible refine Ext.drew ?_ | with_reducible refine Ext.drewN ?_ _ | ((with_reducible refine Ext.setCell' ?_ ?_ _); solve | omega | simp | (simp; omega)) | (with_reducible refine Ext.trans ?_ (by with_reducible assumption)))))).mono ?_
          rintro e w1 ⟨rfl, hx1⟩
          go_wp2
          go_ret
          exact ⟨ret_bool (mapB_no HNO.out), by (repeat (first | with_reducible exact Ext.refl _ | with_reducible assumption | ((with_reducible apply Src.ext); with_reducible assumption) | with_reducible refine Ext.alloc ?_ _ | with_reducible refine Ext.drew ?_ | with_reducible refine Ext.drewN ?_ _ | ((with_reducible refine Ext.setCell' ?_ ?_ _); solve | omega | simp | (simp; omega)) | (with_reducible refine Ext.trans ?_ (by with_reducible assumption))))⟩
      · obtain rfl : k = rs.length := by omega
        have HYES : Hid (MapP (psOf rs)) := Lib.hid ⟨by rw [psOf_len]; exact H6.out, fun i hi => by rw [psOf_len] at hi; rw [psOf_at hi]; exact HR.out i hi, fun i j hj hi => by rw [psOf_len] at hi; rw [psOf_at hi, psOf_at (by omega)]; exact HF.out i hi j hj⟩
        go_wp2
        go_ret
        exact ⟨ret_bool (mapB_yes HYES.out), by (repeat (first | with_reducible exact Ext.refl _ | with_reducible assumption | ((with_reducible apply Src.ext); with_reducible assumption) | with_reducible refine Ext.alloc ?_ _ | with_reducible refine Ext.drew ?_ | with_reducible refine Ext.drewN ?_ _ | ((with_reducible refine Ext.setCell' ?_ ?_ _); solve | omega | simp | (simp; omega)) | (with_reducible refine Ext.trans ?_ (by with_reducible assumption))))⟩
  · have HNO : Hid (¬ MapP (psOf rs)) := Lib.hid (fun hM => h6 (by have := hM.1; rwa [psOf_len] at this))
    go_enter Tryz.func63, Tryz.ntmps63
    go_wp2
    go_ret
    exact ⟨ret_bool (mapB_no HNO.out), by (repeat (first | with_reducible exact Ext.refl _ | with_reducible assumption | ((with_reducible apply Src.ext); with_reducible assumption) | with_reducible refine Ext.alloc ?_ _ | with_reducible refine Ext.drew ?_ | with_reducible refine Ext.drewN ?_ _ | ((with_reducible refine Ext.setCell' ?_ ?_ _); solve | omega | simp | (simp; omega)) | (with_reducible refine Ext.trans ?_ (by with_reducible assumption))))⟩

end Go.Proofs.YtabdffponmmhoaaGreatDoor
namespace Go.Proofs.YtabdffponmmhoaaGreatDoor
open Go.RowKit

theorem eqP_comm (a b c d : Int) : eqP a b c d = eqP c d a b := by
  rw [Bool.eq_iff_iff, eqP_iff, eqP_iff]; omega
theorem turn_first (a b c d : Int) : turnW a b c d a b = 0 := by simp [turnW, wrap64]
theorem turn_last (a b c d : Int) : turnW a b c d c d = 0 := by unfold turnW; rw [Int.mul_comm, Int.sub_self]; simp [wrap64]
theorem on_first (a b c d : Int) : onW a b c d a b = true := by simp [onW, inB, turn_first]; omega
theorem on_last (a b c d : Int) : onW a b c d c d = true := by simp [onW, inB, turn_last]; omega
theorem on_swap {a b c d x z : Int} (h1 : bdP a b) (h2 : bdP c d) (h3 : bdP x z) : onW c d a b x z = onW a b c d x z := by
  unfold bdP at h1 h2 h3
  unfold onW
  rw [turnW_swap (by omega) (by omega) (by omega) (by omega) (by omega) (by omega), Int.min_comm c a, Int.max_comm c a, Int.min_comm d b, Int.max_comm d b]
  congr 2
  rw [Bool.eq_iff_iff, beq_iff_eq, beq_iff_eq]; omega
theorem cross_comm (a b c d p q r s : Int) : crossW a b c d p q r s = crossW p q r s a b c d := by
  unfold crossW
  cases onW a b c d p q <;> cases onW a b c d r s <;> cases onW p q r s a b <;> cases onW p q r s c d <;> simp [Bool.and_comm]
/-- two edges fit just where they may touch -/
theorem fit_touch {a b c d p q r s : Int} (h1 : bdP a b) (h2 : bdP c d) (h3 : bdP p q) (h4 : bdP r s) (n1 : eqP a b c d = false) (n2 : eqP p q r s = false) : fitB a b c d p q r s = touchB p q r s a b c d := by
  have c1 : eqP a b p q = true → crossW p q r s a b c d = true := fun e => by
    obtain ⟨rfl, rfl⟩ := eqP_iff.1 e
    simp [crossW, on_first]
  have c2 : eqP a b r s = true → crossW p q r s a b c d = true := fun e => by
    obtain ⟨rfl, rfl⟩ := eqP_iff.1 e
    simp [crossW, on_last]
  have c3 : eqP c d p q = true → crossW p q r s a b c d = true := fun e => by
    obtain ⟨rfl, rfl⟩ := eqP_iff.1 e
    simp [crossW, on_first]
  have c4 : eqP c d r s = true → crossW p q r s a b c d = true := fun e => by
    obtain ⟨rfl, rfl⟩ := eqP_iff.1 e
    simp [crossW, on_last]
  unfold fitB touchB jointV eqEd touchC
  simp only []
  rw [eqP_comm p q a b, eqP_comm p q c d, eqP_comm r s a b, eqP_comm r s c d, cross_comm a b c d p q r s, show eqP p q p q = true from eqP_iff.2 ⟨rfl, rfl⟩, n2]
  rcases e1 : eqP a b p q with _ | _ <;> rcases e2 : eqP a b r s with _ | _ <;> rcases e3 : eqP c d p q with _ | _ <;> rcases e4 : eqP c d r s with _ | _
  · cases crossW p q r s a b c d <;> simp
  · obtain ⟨rfl, rfl⟩ := eqP_iff.1 e4
    rw [c4 e4]
    simp
    rw [on_swap h1 h2 h3, on_swap h3 h2 h1, Bool.and_comm]
  · obtain ⟨rfl, rfl⟩ := eqP_iff.1 e3
    rw [c3 e3]
    simp
    rw [on_swap h1 h2 h4, Bool.and_comm]
  · obtain ⟨rfl, rfl⟩ := eqP_iff.1 e3
    rw [e4] at n2
    cases n2
  · obtain ⟨rfl, rfl⟩ := eqP_iff.1 e2
    rw [c2 e2]
    simp
    rw [on_swap h3 h1 h2, Bool.and_comm]
  · obtain ⟨rfl, rfl⟩ := eqP_iff.1 e2
    rw [eqP_comm, n1] at e4
    cases e4
  · simp
  · obtain ⟨rfl, rfl⟩ := eqP_iff.1 e3
    rw [e4] at n2
    cases n2
  · obtain ⟨rfl, rfl⟩ := eqP_iff.1 e1
    rw [c1 e1]
    simp [Bool.and_comm]
  · rw [c1 e1]
    simp
  · obtain ⟨rfl, rfl⟩ := eqP_iff.1 e1
    rw [eqP_comm, n1] at e3
    cases e3
  · obtain ⟨rfl, rfl⟩ := eqP_iff.1 e1
    rw [eqP_comm, n1] at e3
    cases e3
  · obtain ⟨rfl, rfl⟩ := eqP_iff.1 e1
    rw [e2] at n2
    cases n2
  · obtain ⟨rfl, rfl⟩ := eqP_iff.1 e1
    rw [e2] at n2
    cases n2
  · obtain ⟨rfl, rfl⟩ := eqP_iff.1 e1
    rw [e2] at n2
    cases n2
  · obtain ⟨rfl, rfl⟩ := eqP_iff.1 e1
    rw [e2] at n2
    cases n2
def flipEd (e : Ed) : Ed := (e.2, e.1)
theorem mid_flip (ps : List (Int × Int)) (e : Ed) : midE ps (flipEd e) = midE ps e := by
  unfold midE midB flipEd
  rw [Int.add_comm e.2.1, Int.add_comm e.2.2]
/-- an edge, by its index -/
theorem edAt_eq {o : List (Int × Int)} {k : Nat} (hk : k < o.length) : edAt o k = ((ptx o (k : Int), ptz o (k : Int)), (ptx o ((k + 1 : Nat) : Int), ptz o ((k + 1 : Nat) : Int))) := by
  unfold edAt atP
  rw [ptx_lt hk, ptz_lt hk]; rfl
theorem pt_mod (o : List (Int × Int)) (k : Nat) : (ptx o (k : Int), ptz o (k : Int)) = (ptx o ((k % o.length : Nat) : Int), ptz o ((k % o.length : Nat) : Int)) := by
  rw [ptxz_nat, ptxz_nat, Nat.mod_mod]
theorem edAt_mod {o : List (Int × Int)} (h0 : 0 < o.length) (k : Nat) : ((ptx o (k : Int), ptz o (k : Int)), (ptx o ((k + 1 : Nat) : Int), ptz o ((k + 1 : Nat) : Int))) = edAt o (k % o.length) := by
  have hm := Nat.mod_lt k h0
  rw [edAt_eq hm, pt_mod o k, pt_mod o (k + 1), pt_mod o (k % o.length + 1), Nat.mod_add_mod]
theorem ns_pt {ps : List (Int × Int)} (h0 : 0 < ps.length) (i : Nat) (hi : i ≤ ps.length) : (ptx (normS ps) (i : Int), ptz (normS ps) (i : Int)) = nsAt ps (minTo ps ps.length) i := by
  have hm := minTo_lt h0 (Nat.le_refl ps.length)
  rw [ptxz_nat, normS_len]
  rcases Nat.lt_or_ge i ps.length with c | c
  · rw [Nat.mod_eq_of_lt c]
    exact map_range_getD _ c
  · obtain rfl : i = ps.length := by omega
    rw [Nat.mod_self, show (normS ps).getD 0 (0, 0) = nsAt ps (minTo ps ps.length) 0 from map_range_getD _ h0]
    unfold nsAt
    split
    · rw [show ((minTo ps ps.length : Int) + ((0 : Nat) : Int)) = ((minTo ps ps.length : Nat) : Int) by omega, show ((minTo ps ps.length : Int) + (ps.length : Int)) = ((minTo ps ps.length + ps.length : Nat) : Int) by omega, pt_mod ps (minTo ps ps.length + ps.length), Nat.add_mod_right, ← pt_mod]
    · rw [show ((minTo ps ps.length : Int) + (ps.length : Int) - ((0 : Nat) : Int)) = ((minTo ps ps.length + ps.length : Nat) : Int) by omega, show ((minTo ps ps.length : Int) + (ps.length : Int) - (ps.length : Int)) = ((minTo ps ps.length : Nat) : Int) by omega, pt_mod ps (minTo ps ps.length + ps.length), Nat.add_mod_right, ← pt_mod]
/-- the edges of the normal ring are those of the ring, all of them turned or none -/
theorem ns_edge {ps : List (Int × Int)} (h0 : 0 < ps.length) {i : Nat} (hi : i < ps.length) :
    edAt (normS ps) i = if 0 < areaZ ps then edAt ps ((minTo ps ps.length + i) % ps.length) else flipEd (edAt ps ((minTo ps ps.length + ps.length - i - 1) % ps.length)) := by
  have hm := minTo_lt h0 (Nat.le_refl ps.length)
  have e1 := ns_pt h0 i (by omega)
  have e2 := ns_pt h0 (i + 1) (by omega)
  rw [edAt_eq (by rw [normS_len]; exact hi), e1, e2]
  unfold nsAt
  split
  · rw [← edAt_mod h0, show ((minTo ps ps.length : Int) + (i : Int)) = ((minTo ps ps.length + i : Nat) : Int) by omega, show ((minTo ps ps.length : Int) + ((i + 1 : Nat) : Int)) = ((minTo ps ps.length + i + 1 : Nat) : Int) by omega]
  · rw [← edAt_mod h0, show ((minTo ps ps.length : Int) + (ps.length : Int) - (i : Int)) = ((minTo ps ps.length + ps.length - i - 1 + 1 : Nat) : Int) by omega, show ((minTo ps ps.length : Int) + (ps.length : Int) - ((i + 1 : Nat) : Int)) = ((minTo ps ps.length + ps.length - i - 1 : Nat) : Int) by omega]
    rfl
theorem edge_fwd {ps : List (Int × Int)} (h0 : 0 < ps.length) {i : Nat} (hi : i < ps.length) : ∃ j, j < ps.length ∧ (edAt (normS ps) i = edAt ps j ∨ edAt (normS ps) i = flipEd (edAt ps j)) := by
  rw [ns_edge h0 hi]
  split
  · exact ⟨_, Nat.mod_lt _ h0, .inl rfl⟩
  · exact ⟨_, Nat.mod_lt _ h0, .inr rfl⟩
theorem edge_bwd {ps : List (Int × Int)} (h0 : 0 < ps.length) {j : Nat} (hj : j < ps.length) : ∃ i, i < ps.length ∧ (edAt (normS ps) i = edAt ps j ∨ edAt (normS ps) i = flipEd (edAt ps j)) := by
  have hm := minTo_lt h0 (Nat.le_refl ps.length)
  by_cases c : 0 < areaZ ps
  · refine ⟨(j + ps.length - minTo ps ps.length) % ps.length, Nat.mod_lt _ h0, ?_⟩
    rw [ns_edge h0 (Nat.mod_lt _ h0), if_pos c, Nat.add_mod_mod, show minTo ps ps.length + (j + ps.length - minTo ps ps.length) = j + ps.length by omega, Nat.add_mod_right, Nat.mod_eq_of_lt hj]
    exact .inl rfl
  · by_cases c' : j < minTo ps ps.length
    · refine ⟨minTo ps ps.length - 1 - j, by omega, ?_⟩
      rw [ns_edge h0 (by omega), if_neg c, show minTo ps ps.length + ps.length - (minTo ps ps.length - 1 - j) - 1 = j + ps.length by omega, Nat.add_mod_right, Nat.mod_eq_of_lt hj]
      exact .inr rfl
    · refine ⟨minTo ps ps.length + ps.length - 1 - j, by omega, ?_⟩
      rw [ns_edge h0 (by omega), if_neg c, show minTo ps ps.length + ps.length - (minTo ps ps.length + ps.length - 1 - j) - 1 = j by omega, Nat.mod_eq_of_lt hj]
      exact .inr rfl
/-- an edge is within bounds and is no point -/
def goodEd (e : Ed) : Prop := bdP e.1.1 e.1.2 ∧ bdP e.2.1 e.2.2 ∧ eqP e.1.1 e.1.2 e.2.1 e.2.2 = false
theorem goodEd.flip {e : Ed} (h : goodEd e) : goodEd (flipEd e) := ⟨h.2.1, h.1, by have := h.2.2; rw [eqP_comm] at this; exact this⟩
theorem RingP.ed {ps : List (Int × Int)} (h : RingP ps) {k : Nat} (hk : k < ps.length) : goodEd (edAt ps k) := by
  have h3 := h.1
  refine ⟨by rw [edAt_eq hk]; exact bd_at h.2.2.1 _, by rw [edAt_eq hk]; exact bd_at h.2.2.1 _, ?_⟩
  rw [edAt_eq hk]
  rw [← Bool.not_eq_true, eqP_iff]
  intro e
  have hd := h.2.2.2.2.1
  rcases Nat.lt_or_ge (k + 1) ps.length with c | c
  · exact hd (k + 1) k (by omega) c ⟨e.1.symm, e.2.symm⟩
  · have e0 : k + 1 = ps.length + 0 := by omega
    rw [e0] at e
    simp only [ptx_round, ptz_round] at e
    exact hd k 0 (by omega) hk e
theorem RingP.nsEd {ps : List (Int × Int)} (h : RingP ps) {k : Nat} (hk : k < ps.length) : goodEd (edAt (normS ps) k) := by
  obtain ⟨j, hj, e | e⟩ := edge_fwd (by omega) hk
  · rw [e]; exact h.ed hj
  · rw [e]; exact (h.ed hj).flip
theorem mem_edL {o : List (Int × Int)} {e : Ed} : e ∈ edL o ↔ ∃ k, k < o.length ∧ edAt o k = e := by
  unfold edL edTo
  simp [List.mem_map, List.mem_range]
theorem mids_same {ps : List (Int × Int)} (h0 : 0 < ps.length) (qs : List (Int × Int)) : (∀ e ∈ edL (normS ps), midE qs e = false) ↔ (edL ps).any (midE qs) = false := by
  rw [List.any_eq_false]
  constructor
  · intro h e he
    obtain ⟨k, hk, rfl⟩ := mem_edL.1 he
    obtain ⟨i, hi, e | e⟩ := edge_bwd h0 hk
    · have := h _ (mem_edL.2 ⟨i, by rw [normS_len]; exact hi, rfl⟩)
      rw [e] at this
      simp [this]
    · have := h _ (mem_edL.2 ⟨i, by rw [normS_len]; exact hi, rfl⟩)
      rw [e, mid_flip] at this
      simp [this]
  · intro h e he
    obtain ⟨k, hk, rfl⟩ := mem_edL.1 he
    rw [normS_len] at hk
    obtain ⟨i, hi, e | e⟩ := edge_fwd h0 hk
    · have := h _ (mem_edL.2 ⟨i, hi, rfl⟩)
      rw [e]
      simpa using this
    · have := h _ (mem_edL.2 ⟨i, hi, rfl⟩)
      rw [e, mid_flip]
      simpa using this
/-- the program's test is the reference's -/
theorem fit_apart {pa pb : List (Int × Int)} (ha : RingP pa) (hb : RingP pb) : fitT pa pb = apartS pb pa := by
  have a0 : 0 < pa.length := by have := ha.1; omega
  have b0 : 0 < pb.length := by have := hb.1; omega
  have ma := mids_same a0 pb
  have mb := mids_same b0 pa
  have touch : ∀ e ∈ edL (normS pa), ∀ f ∈ edL (normS pb), fitE e f = touchE f e := fun e he f hf => by
    obtain ⟨k, hk, rfl⟩ := mem_edL.1 he
    obtain ⟨m, hm, rfl⟩ := mem_edL.1 hf
    rw [normS_len] at hk hm
    have g1 := ha.nsEd hk
    have g2 := hb.nsEd hm
    exact fit_touch g1.1 g1.2.1 g2.1 g2.2.1 g1.2.2 g2.2.2
  rw [Bool.eq_iff_iff]
  unfold fitT apartS in1 in2
  rw [norm_same ha, norm_same hb]
  simp only [List.all_eq_true, Bool.and_eq_true, Bool.not_eq_true']
  rw [← ma, ← mb]
  constructor
  · intro h
    refine ⟨⟨fun f hf e he => ?_, fun f hf => ?_⟩, fun e he => (h e he).1⟩
    · rw [← touch e he f hf]; exact ((h e he).2 f hf).1
    · have he : edAt (normS pa) 0 ∈ edL (normS pa) := mem_edL.2 ⟨0, by rw [normS_len]; exact a0, rfl⟩
      exact ((h _ he).2 f hf).2
  · rintro ⟨⟨h1, h2⟩, h3⟩ e he
    refine ⟨h3 e he, fun f hf => ⟨?_, h2 f hf⟩⟩
    rw [touch e he f hf]; exact h1 f hf e he
end Go.Proofs.YtabdffponmmhoaaGreatDoor
namespace Go.Proofs.YtabdffponmmhoaaGreatDoor
open Go.RowKit
attribute [local go_sem] ExtOf.cell ExtOf.frozen

theorem enters_isSome {P : Program} {f : FuncId} {fn : Func} (hf : P.funcs[f]? = some fn) (hname : (fn.name == "runtime.NumGoroutine") = false) (hb : fn.body.isSome = true) (args : Array Value) (w : World) : (callFunc f args).run P w = .ok (.enter f args) w := by
  have h1 : fn.name ≠ "runtime.NumGoroutine" := by simpa using hname
  obtain ⟨c, hc⟩ := Option.isSome_iff_exists.1 hb
  simp [callFunc, hf, h1, hc, mark]
theorem en_ring (args : Array Value) (w : World) : (callFunc 98 args).run Tryz.prog w = .ok (.enter 98 args) w := enters_isSome Tryz.func98 (by kernel_rfl) (by kernel_rfl) args w
theorem en_fit (args : Array Value) (w : World) : (callFunc 100 args).run Tryz.prog w = .ok (.enter 100 args) w := enters_isSome Tryz.func100 (by kernel_rfl) (by kernel_rfl) args w
theorem i_anyBad (A : Option Addr) (c : Nat) (rs : List Rg) (w : World) (h : SlAt w 1 encR A rs) (hr : Rings w rs) (hl : rs.length ≤ 1048576) :
    Calls Tryz.prog 97 #[.slice A rs.length c, .func (.func 98) #[] #[]] w fun e w' => e = .returned (.bool (rs.any fun r => !ringB r.2.2)) ∧ Ext w w' :=
  i_ContainsFuncR (fun r => !ringB r.2.2) _ #[] en_ring A rs.length c rs w h rfl hl (fun r hm W hx => i_notRing r W ((hr r hm).1.ext hx) (hr r hm).2.1 (hr r hm).2.2)
theorem i_anyMeet (A : Option Addr) (n c nb : Nat) (rs : List Rg) (r0 : Rg) (w : World) (h : SlAt w 1 encR A rs) (hr : Rings w rs) (hn : n = rs.length) (hl : n ≤ 1048576) (hv : ∀ r ∈ rs, ringB r.2.2 = true) (hv0 : ringB r0.2.2 = true) (h0 : SlAt w 2 encP r0.1 r0.2.2)
    (hb : nb < w.heap.size) (hc : w.cell? ⟨nb, 0, none⟩ = some (.slice r0.1 r0.2.2.length r0.2.1)) :
    Calls Tryz.prog 97 #[.slice A n c, .func (.func 100) #[] #[.pointer (some ⟨nb, 0, none⟩)]] w fun e w' => e = .returned (.bool (rs.any fun r => !fitT r0.2.2 r.2.2)) ∧ Ext w w' :=
  i_ContainsFuncR (fun r => !fitT r0.2.2 r.2.2) _ #[.pointer (some ⟨nb, 0, none⟩)] en_fit A n c rs w h hn hl (fun r hm W hx => i_notFit r0 r nb W ((hx.cell nb 0 hb).trans hc) (h0.ext hx) ((hr r hm).1.ext hx) hv0 (hv r hm))
theorem psOf_mem {rs : List Rg} (h : ∀ i, i < rs.length → ringB (rs.getD i rgD).2.2 = true) : ∀ r ∈ rs, ringB r.2.2 = true := fun r hr => by
  obtain ⟨j, hj, rfl⟩ := List.mem_iff_getElem.1 hr
  have := h j hj
  simpa [List.getD, hj] using this
set_option maxRecDepth 20000 in
set_option maxHeartbeats 12800000 in
theorem i_IsMap (A : Option Addr) (c : Nat) (rs : List Rg) (w : World) (h : SlAt w 1 encR A rs) (hr : Rings w rs) (hl : rs.length ≤ 1048576) (hc : rs.length ≤ c) :
    Calls Tryz.prog 72 #[.slice A rs.length c] w fun e w' => e = .returned (.bool (mapB (psOf rs))) ∧ Ext w w' := by
  by_cases h6 : rs.length ≤ 6
  · have H6 := Lib.hid h6
    by_cases hbad : (rs.any fun r => !ringB r.2.2) = true
    · have HNO : Hid (¬ MapP (psOf rs)) := Lib.hid (fun hM => by
        obtain ⟨r, hm, hx⟩ := List.any_eq_true.1 hbad
        obtain ⟨j, hj, rfl⟩ := List.mem_iff_getElem.1 hm
        have := hM.2.1 j (by rw [psOf_len]; exact hj)
        rw [psOf_at hj, show rs.getD j rgD = rs[j] by simp [List.getD, hj]] at this
        rw [this] at hx
        cases hx)
      have hcall : ∀ W, Ext w W → Calls Tryz.prog 97 #[.slice A rs.length c, .func (.func 98) #[] #[]] W fun e w' => e = .returned (.bool true) ∧ Ext W w' := fun W hx => as_bool (i_anyBad A c rs W (h.ext hx) (hr.ext hx) hl) hbad
      have HC := Lib.hid hcall
      clear hbad hcall
      go_enter Tryz.func72, Tryz.ntmps72
      go_wp2_with fail
      refine (HC.out _ (Ext.refl _)).mono ?_
      rintro e w1 ⟨rfl, hx1⟩
      go_wp2
      go_ret
      exact ⟨ret_bool (mapB_no HNO.out), hx1⟩
    · have hbad' : (rs.any fun r => !ringB r.2.2) = false := Bool.eq_false_iff.2 hbad
      have hall : ∀ i, i < rs.length → ringB (rs.getD i rgD).2.2 = true := fun i hi => by
        have := List.any_eq_false.1 hbad' _ (rg_mem hi)
        simpa using this
      have HALL := Lib.hid hall
      have hcall : ∀ W, Ext w W → Calls Tryz.prog 97 #[.slice A rs.length c, .func (.func 98) #[] #[]] W fun e w' => e = .returned (.bool false) ∧ Ext W w' := fun W hx => as_bool (i_anyBad A c rs W (h.ext hx) (hr.ext hx) hl) hbad'
      have HC := Lib.hid hcall
      clear hbad hbad' hcall hall
      go_enter Tryz.func72, Tryz.ntmps72
      go_wp2_with fail
      refine (HC.out _ (Ext.refl _)).mono ?_
      rintro e w1 ⟨rfl, hx1⟩
      go_wp2
      go_loopw [14] (fun i wr => ∃ k : Nat, k ≤ rs.length ∧ i = .int .i64 k ∧ Hid (∀ i, i < k → ∀ j, j < i → fitT (rs.getD i rgD).2.2 (rs.getD j rgD).2.2 = true) ∧ Ext w wr) (fun i _ => rs.length - (intOf i).toNat)
      case atStart => exact ⟨0, by omega, rfl, fun j hj => absurd hj (by omega), hx1⟩
      case round =>
        obtain ⟨k, hk, rfl, HF, hxr⟩ := hrel
        by_cases hlt : k < rs.length
        · obtain ⟨b, off, rfl, hb⟩ := h.openR (by omega)
          have hbr : b < wr.heap.size := Nat.lt_of_lt_of_le hb hxr.size
          have hc0 := (h.ext hxr).rg' hlt
          have hrk := (hr.ext hxr) _ (rg_mem hlt)
          have hring := HALL.out k hlt
          have hv : ∀ q ∈ rs.take k, ringB q.2.2 = true := fun q hq => psOf_mem HALL.out q (List.mem_of_mem_take hq)
          have hkc : k < c := by omega
          have hkl : k = (rs.take k).length := by rw [List.length_take]; omega
          have hcall : ∀ W, Ext wr W → W.cell? ⟨wr.heap.size, 0, none⟩ = some (.slice (rs.getD k rgD).1 (rs.getD k rgD).2.2.length (rs.getD k rgD).2.1) → wr.heap.size < W.heap.size →
              Calls Tryz.prog 97 #[.slice (some ⟨b, off, none⟩) k c, .func (.func 100) #[] #[.pointer (some ⟨wr.heap.size, 0, none⟩)]] W fun e w' => e = .returned (.bool ((rs.take k).any fun q => !fitT (rs.getD k rgD).2.2 q.2.2)) ∧ Ext W w' := fun W hx hcell hsz =>
            i_anyMeet _ k c wr.heap.size (rs.take k) (rs.getD k rgD) W (((h.ext hxr).ext hx).take k) (((hr.ext hxr).ext hx).take k) hkl (by omega) hv hring (hrk.1.ext hx) hsz hcell
          rcases hq : ((rs.take k).any fun q => !fitT (rs.getD k rgD).2.2 q.2.2) with _ | _
          · have hF1 : ∀ j, j < k → fitT (rs.getD k rgD).2.2 (rs.getD j rgD).2.2 = true := fun j hj => by
              have hjl : j < rs.length := by omega
              have := List.any_eq_false.1 hq (rs.getD j rgD) (by
                rw [List.mem_take_iff_getElem]
                exact ⟨j, by omega, by simp [List.getD, hjl]⟩)
              simpa using this
            have HF2 := Lib.hid (upTo_succ HF.out hF1)
            rw [hq] at hcall
            have HC := Lib.hid hcall
            clear hq hcall hrk hring hv hkl hF1
            obtain ⟨r, hre⟩ : ∃ r, r = rs.getD k rgD := ⟨_, rfl⟩
            rw [← hre] at hc0 HC
            clear hre
            go_wp2_with fail
            refine (HC.out _ (by (repeat (first | with_reducible exact Ext.refl _ | with_reducible assumption | ((with_reducible apply Src.ext); with_reducible assumption) | with_reducible refine Ext.alloc ?_ _ | with_reducible refine Ext.drew ?_ | with_reducible refine Ext.drewN ?_ _ | ((with_reducible refine Ext.setCell' ?_ ?_ _); solve | omega | simp | (simp; omega)) | (with_reducible refine Ext.trans ?_ (by with_reducible assumption))))) (by first | exact (Blk.new rfl : Blk _ wr.heap.size 63 #[.slice r.1 r.2.2.length r.2.1]).cell 0 | simp) (by simp)).mono ?_
            rintro e w2 ⟨rfl, hx2⟩
            go_wp2
            go_roundw
            case rel => exact ⟨k + 1, by omega, by go_num, HF2, by (repeat (first | with_reducible exact Ext.refl _ | with_reducible assumption | ((with_reducible apply Src.ext); with_reducible assumption) | with_reducible refine Ext.alloc ?_ _ | with_reducible refine Ext.drew ?_ | with_reducible refine Ext.drewN ?_ _ | ((with_reducible refine Ext.setCell' ?_ ?_ _); solve | omega | simp | (simp; omega)) | (with_reducible refine Ext.trans ?_ (by with_reducible assumption))))⟩
            case measure => simp [intOf]; omega
          · have HNO : Hid (¬ MapP (psOf rs)) := Lib.hid (fun hM => by
              obtain ⟨q, hm, hx⟩ := List.any_eq_true.1 hq
              rw [List.mem_take_iff_getElem] at hm
              obtain ⟨j, hj, rfl⟩ := hm
              have hjk : j < k := by omega
              have hjl : j < rs.length := by omega
              have h1 := hM.2.2 k j hjk (by rw [psOf_len]; exact hlt)
              rw [psOf_at hlt, psOf_at hjl, ← fit_apart (ringB_iff.1 (HALL.out k hlt)) (ringB_iff.1 (HALL.out j hjl)), show rs.getD j rgD = rs[j] by simp [List.getD, hjl]] at h1
              rw [h1] at hx
              cases hx)
            rw [hq] at hcall
            have HC := Lib.hid hcall
            clear hq hcall hrk hring hv hkl
            obtain ⟨r, hre⟩ : ∃ r, r = rs.getD k rgD := ⟨_, rfl⟩
            rw [← hre] at hc0 HC
            clear hre
            go_wp2_with fail
            refine (HC.out _ (by (repeat (first | with_reducible exact Ext.refl _ | with_reducible assumption | ((with_reducible apply Src.ext); with_reducible assumption) | with_reducible refine Ext.alloc ?_ _ | with_reducible refine Ext.drew ?_ | with_reducible refine Ext.drewN ?_ _ | ((with_reducible refine Ext.setCell' ?_ ?_ _); solve | omega | simp | (simp; omega)) | (with_reducible refine Ext.trans ?_ (by with_reducible assumption))))) (by first | exact (Blk.new rfl : Blk _ wr.heap.size 63 #[.slice r.1 r.2.2.length r.2.1]).cell 0 | simp) (by simp)).mono ?_
            rintro e w2 ⟨rfl, hx2⟩
            go_wp2
            go_ret
            exact ⟨ret_bool (mapB_no HNO.out), by (repeat (first | with_reducible exact Ext.refl _ | with_reducible assumption | ((with_reducible apply Src.ext); with_reducible assumption) | with_reducible refine Ext.alloc ?_ _ | with_reducible refine Ext.drew ?_ | with_reducible refine Ext.drewN ?_ _ | ((with_reducible refine Ext.setCell' ?_ ?_ _); solve | omega | simp | (simp; omega)) | (with_reducible refine Ext.trans ?_ (by with_reducible assumption))))⟩
        · obtain rfl : k = rs.length := by omega
          have HYES : Hid (MapP (psOf rs)) := Lib.hid ⟨by rw [psOf_len]; exact H6.out, fun i hi => by rw [psOf_len] at hi; rw [psOf_at hi]; exact HALL.out i hi, fun i j hj hi => by
            rw [psOf_len] at hi
            have hjl : j < rs.length := by omega
            rw [psOf_at hi, psOf_at hjl, ← fit_apart (ringB_iff.1 (HALL.out i hi)) (ringB_iff.1 (HALL.out j hjl))]
            exact HF.out i hi j hj⟩
          go_wp2
          go_ret
          exact ⟨ret_bool (mapB_yes HYES.out), by (repeat (first | with_reducible exact Ext.refl _ | with_reducible assumption | ((with_reducible apply Src.ext); with_reducible assumption) | with_reducible refine Ext.alloc ?_ _ | with_reducible refine Ext.drew ?_ | with_reducible refine Ext.drewN ?_ _ | ((with_reducible refine Ext.setCell' ?_ ?_ _); solve | omega | simp | (simp; omega)) | (with_reducible refine Ext.trans ?_ (by with_reducible assumption))))⟩
  · have HNO : Hid (¬ MapP (psOf rs)) := Lib.hid (fun hM => h6 (by have := hM.1; rwa [psOf_len] at this))
    go_enter Tryz.func72, Tryz.ntmps72
    go_wp2
    go_ret
    exact ⟨ret_bool (mapB_no HNO.out), by (repeat (first | with_reducible exact Ext.refl _ | with_reducible assumption | ((with_reducible apply Src.ext); with_reducible assumption) | with_reducible refine Ext.alloc ?_ _ | with_reducible refine Ext.drew ?_ | with_reducible refine Ext.drewN ?_ _ | ((with_reducible refine Ext.setCell' ?_ ?_ _); solve | omega | simp | (simp; omega)) | (with_reducible refine Ext.trans ?_ (by with_reducible assumption))))⟩

end Go.Proofs.YtabdffponmmhoaaGreatDoor
