/- Contracts of EdgesOf and its law, walked over the translation. -/
import Derived.Test.YtmpdnlnacblmlaaEB
import Derived.Deep.RegionHeld3
import Derived.Deep.DeepCutAuto
import Derived.RegionTactic
import Derived.BigRegion
import Derived.WalkLawsBesides
import Derived.WalkSpells
import Derived.Lib.MinMax
import Derived.Outline
namespace Go.Proofs.Ytmpdnlnacblmlaa
open Go.RowKit
attribute [local go_sem] ExtOf.cell ExtOf.frozen

open Classical in
/-- what EdgesOf returns -/
noncomputable def eoP (ps : List (Int × Int)) : List Ed := if ringB ps = true then edL (normS ps) else []
theorem eoP_len (ps : List (Int × Int)) : (eoP ps).length ≤ ps.length := by unfold eoP edL; split <;> simp [edTo_len, normS_len]

set_option maxHeartbeats 1600000 in
theorem i_EdgesOf (A : Option Addr) (c : Nat) (ps : List (Int × Int)) (w : World) (h : SlAt w 2 encP A ps) (hl : ps.length ≤ 1048576) (hc : ps.length ≤ c) :
    Calls Try.prog 32 #[.slice A ps.length c] w fun e w' => ∃ v, e = .returned (.tuple #[v, .int .i64 (ringC ps)]) ∧ OwE w' w.heap.size v (eoP ps) ∧ Ext w w' := by
  by_cases hr : ringB ps = true
  · have hnr : edL (normI ps) = eoP ps := by unfold eoP; rw [if_pos hr, norm_same (ringB_iff.1 hr)]
    rw [ringC_yes hr, ← hnr]
    have hrb : ∀ W, SlAt W 2 encP A ps → Calls Try.prog 60 #[.slice A ps.length c] W fun e w' => e = .returned (.bool true) ∧ Ext W w' := fun W h => as_bool (i_IsRing _ _ ps _ h hl hc) hr
    have HRB := Lib.hid hrb
    obtain ⟨h0, hl12, ho⟩ := ring_facts hr
    have HO := Lib.hid ho
    clear hrb hr ho hnr
    go_enter Try.func32, Try.ntmps32
    (go_wp2_with fail; refine (HRB.out _ h).mono ?_; rintro e w1 ⟨rfl, hx1⟩; obtain ⟨hc1, hf1⟩ := hx1.rules; have hs1 := hx1.size; (try simp at hs1))
    go_wp2_with fail
    refine (i_edgesOf _ _ ps _ (h.ext (by (repeat (first | with_reducible exact Ext.refl _ | with_reducible assumption | ((with_reducible apply Src.ext); with_reducible assumption) | with_reducible refine Ext.alloc ?_ _ | with_reducible refine Ext.drew ?_ | with_reducible refine Ext.drewN ?_ _ | ((with_reducible refine Ext.setCell' ?_ ?_ _); solve | omega | simp | (simp; omega)) | (with_reducible refine Ext.trans ?_ (by with_reducible assumption)))))) h0 (by omega) HO.out).mono ?_
    rintro e w2 ⟨v, rfl, hO, hx2⟩
    have HV := Lib.hid (hO.less hs1)
    clear hO
    go_wp2
    go_ret2
    exact ⟨v, rfl, HV.out, by (repeat (first | with_reducible exact Ext.refl _ | with_reducible assumption | ((with_reducible apply Src.ext); with_reducible assumption) | with_reducible refine Ext.alloc ?_ _ | with_reducible refine Ext.drew ?_ | with_reducible refine Ext.drewN ?_ _ | ((with_reducible refine Ext.setCell' ?_ ?_ _); solve | omega | simp | (simp; omega)) | (with_reducible refine Ext.trans ?_ (by with_reducible assumption))))⟩
  · have hr' : ringB ps = false := Bool.eq_false_iff.2 hr
    rw [ringC_no hr', show eoP ps = [] by unfold eoP; rw [if_neg hr]]
    have hrb : ∀ W, SlAt W 2 encP A ps → Calls Try.prog 60 #[.slice A ps.length c] W fun e w' => e = .returned (.bool false) ∧ Ext W w' := fun W h => as_bool (i_IsRing _ _ ps _ h hl hc) hr'
    have HRB := Lib.hid hrb
    clear hrb hr hr'
    go_enter Try.func32, Try.ntmps32
    (go_wp2_with fail; refine (HRB.out _ h).mono ?_; rintro e w1 ⟨rfl, hx1⟩; obtain ⟨hc1, hf1⟩ := hx1.rules; have hs1 := hx1.size; (try simp at hs1))
    go_wp2
    go_ret2
    exact ⟨_, rfl, Own.nil _ _, by (repeat (first | with_reducible exact Ext.refl _ | with_reducible assumption | ((with_reducible apply Src.ext); with_reducible assumption) | with_reducible refine Ext.alloc ?_ _ | with_reducible refine Ext.drew ?_ | with_reducible refine Ext.drewN ?_ _ | ((with_reducible refine Ext.setCell' ?_ ?_ _); solve | omega | simp | (simp; omega)) | (with_reducible refine Ext.trans ?_ (by with_reducible assumption))))⟩

set_option maxHeartbeats 1600000 in
theorem s_EdgesOf (A : Option Addr) (c : Nat) (ps : List (Int × Int)) (w : World) (h : SlAt w 2 encP A ps) (hl : ps.length ≤ 1048576) :
    Calls Try.prog 33 #[.slice A ps.length c] w fun e w' => ∃ v, e = .returned (.tuple #[v, .int .i64 (ringC ps)]) ∧ OwE w' w.heap.size v (eoP ps) ∧ Ext w w' := by
  by_cases hr : ringB ps = true
  · have hnr : edL (normS ps) = eoP ps := by unfold eoP; rw [if_pos hr]
    rw [ringC_yes hr, ← hnr]
    have hrb : ∀ W, SlAt W 2 encP A ps → Calls Try.prog 71 #[.slice A ps.length c] W fun e w' => e = .returned (.bool true) ∧ Ext W w' := fun W h => as_bool (s_IsRing _ _ ps _ h hl) hr
    have HRB := Lib.hid hrb
    obtain ⟨h0, hl12, ho⟩ := ring_facts hr
    have HO := Lib.hid ho
    clear hrb hr ho hnr
    go_enter Try.func33, Try.ntmps33
    (go_wp2_with fail; refine (HRB.out _ h).mono ?_; rintro e w1 ⟨rfl, hx1⟩; obtain ⟨hc1, hf1⟩ := hx1.rules; have hs1 := hx1.size; (try simp at hs1))
    go_wp2_with fail
    refine (s_l17Edges _ _ ps _ (h.ext (by (repeat (first | with_reducible exact Ext.refl _ | with_reducible assumption | ((with_reducible apply Src.ext); with_reducible assumption) | with_reducible refine Ext.alloc ?_ _ | with_reducible refine Ext.drew ?_ | with_reducible refine Ext.drewN ?_ _ | ((with_reducible refine Ext.setCell' ?_ ?_ _); solve | omega | simp | (simp; omega)) | (with_reducible refine Ext.trans ?_ (by with_reducible assumption)))))) h0 (by omega) HO.out).mono ?_
    rintro e w2 ⟨v, rfl, hO, hx2⟩
    have HV := Lib.hid (hO.less hs1)
    clear hO
    go_wp2
    go_ret2
    exact ⟨v, rfl, HV.out, by (repeat (first | with_reducible exact Ext.refl _ | with_reducible assumption | ((with_reducible apply Src.ext); with_reducible assumption) | with_reducible refine Ext.alloc ?_ _ | with_reducible refine Ext.drew ?_ | with_reducible refine Ext.drewN ?_ _ | ((with_reducible refine Ext.setCell' ?_ ?_ _); solve | omega | simp | (simp; omega)) | (with_reducible refine Ext.trans ?_ (by with_reducible assumption))))⟩
  · have hr' : ringB ps = false := Bool.eq_false_iff.2 hr
    rw [ringC_no hr', show eoP ps = [] by unfold eoP; rw [if_neg hr]]
    have hrb : ∀ W, SlAt W 2 encP A ps → Calls Try.prog 71 #[.slice A ps.length c] W fun e w' => e = .returned (.bool false) ∧ Ext W w' := fun W h => as_bool (s_IsRing _ _ ps _ h hl) hr'
    have HRB := Lib.hid hrb
    clear hrb hr hr'
    go_enter Try.func33, Try.ntmps33
    (go_wp2_with fail; refine (HRB.out _ h).mono ?_; rintro e w1 ⟨rfl, hx1⟩; obtain ⟨hc1, hf1⟩ := hx1.rules; have hs1 := hx1.size; (try simp at hs1))
    go_wp2
    go_ret2
    exact ⟨_, rfl, Own.nil _ _, by (repeat (first | with_reducible exact Ext.refl _ | with_reducible assumption | ((with_reducible apply Src.ext); with_reducible assumption) | with_reducible refine Ext.alloc ?_ _ | with_reducible refine Ext.drew ?_ | with_reducible refine Ext.drewN ?_ _ | ((with_reducible refine Ext.setCell' ?_ ?_ _); solve | omega | simp | (simp; omega)) | (with_reducible refine Ext.trans ?_ (by with_reducible assumption))))⟩


end Go.Proofs.Ytmpdnlnacblmlaa
