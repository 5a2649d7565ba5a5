/- Contracts of the rings: the exported functions, walked over the translation. -/
import Derived.Test.YteppjdoggjcdoaaV
import Derived.Test.YteppjdoggjcdoaaW
import Derived.Deep.DeepCutAuto
import Derived.RegionTactic
import Derived.BigRegion
import Derived.WalkLawsBesides
import Derived.WalkSpells
import Derived.Lib.MinMax
import Derived.Outline
namespace Go.Proofs.Yteppjdoggjcdoaa
open Go.RowKit
attribute [local go_sem] ExtOf.cell ExtOf.frozen






noncomputable def ringC (ps : List (Int × Int)) : Int := if ringB ps = true then 0 else 1
theorem ringC_yes {ps : List (Int × Int)} (h : ringB ps = true) : ringC ps = 0 := by simp [ringC, h]
theorem ringC_no {ps : List (Int × Int)} (h : ringB ps = false) : ringC ps = 1 := by simp [ringC, h]
def ifI (b : Bool) (x : Int) : Int := if b = true then x else 0
def ifB (b : Bool) (x : Bool) : Bool := b && x
theorem ring_facts {ps : List (Int × Int)} (h : ringB ps = true) : 0 < ps.length ∧ ps.length ≤ 12 ∧ oks ps = true := by
  have := ringB_iff.1 h
  exact ⟨by have := this.1; omega, this.2.1, this.2.2.1⟩
def areaA (ps : List (Int × Int)) : Int := ((areaZ ps).natAbs : Int)
theorem areaA_bd {ps : List (Int × Int)} (h : ringB ps = true) : 0 ≤ areaA ps ∧ areaA ps ≤ 24000000 ∧ -24000000 ≤ areaZ ps ∧ areaZ ps ≤ 24000000 := by
  obtain ⟨h0, h1, h2⟩ := ring_facts h
  have := areaTo_bd h2 ps.length
  unfold areaA areaZ
  omega
theorem borderZ_bd {ps : List (Int × Int)} (h : ringB ps = true) : 0 ≤ borderZ ps ∧ borderZ ps ≤ 48000 := by
  obtain ⟨h0, h1, h2⟩ := ring_facts h
  have := borderTo_bd h2 ps.length
  unfold borderZ
  omega
def insideZ (ps : List (Int × Int)) : Int := wrap64 ((areaA ps - borderZ ps).tdiv 2 + 1)
/-- all turns have the sign of the first -/
def ConvP (ps : List (Int × Int)) : Prop := ∀ k : Nat, k < ps.length → sgn (turnI ps k) = sgn (turnI ps ((0 : Nat) : Int))
open Classical in
noncomputable def convB (ps : List (Int × Int)) : Bool := decide (ConvP ps)

set_option maxHeartbeats 800000 in
theorem i_TwiceArea (A : Option Addr) (c : Nat) (ps : List (Int × Int)) (w : World) (h : SlAt w 2 encP A ps) (hl : ps.length ≤ 1048576) (hc : ps.length ≤ c) :
    Calls Try.prog 11 #[.slice A ps.length c] w fun e w' => e = .returned (.tuple #[.int .i64 (ifI (ringB ps) (areaA ps)), .int .i64 (ringC ps)]) ∧ Ext w w' := by
  by_cases hr : ringB ps = true
  · rw [ringC_yes hr, show ifI (ringB ps) (areaA ps) = areaA ps from by simp [ifI, hr]]
    have hrb : ∀ W, SlAt W 2 encP A ps → Calls Try.prog 57 #[.slice A ps.length c] W fun e w' => e = .returned (.bool true) ∧ Ext W w' := fun W h => as_bool (i_IsRing _ _ ps _ h hl hc) hr
    have HRB := Lib.hid hrb
    obtain ⟨h0, hl12, ho⟩ := ring_facts hr
    have hbd := areaA_bd hr
    have hbb := borderZ_bd hr
    have HR := Lib.hid hr
    have HO := Lib.hid ho
    clear hrb hr ho
    go_enter Try.func11, Try.ntmps11
    (go_wp2_with fail; refine (HRB.out _ h).mono ?_; rintro e w1 ⟨rfl, hx1⟩; obtain ⟨hc1, hf1⟩ := hx1.rules; have hs1 := hx1.size; (try simp at hs1))
    (go_wp2_with fail; refine (i_area _ _ ps _ (h.ext (by (repeat (first | with_reducible exact Ext.refl _ | with_reducible assumption | ((with_reducible apply Src.ext); with_reducible assumption) | with_reducible refine Ext.alloc ?_ _ | with_reducible refine Ext.drew ?_ | with_reducible refine Ext.drewN ?_ _ | ((with_reducible refine Ext.setCell' ?_ ?_ _); solve | omega | simp | (simp; omega)) | (with_reducible refine Ext.trans ?_ (by with_reducible assumption)))))) h0 (by omega) HO.out).mono ?_; rintro e w2 ⟨rfl, hx2⟩; obtain ⟨hc2, hf2⟩ := hx2.rules; have hs2 := hx2.size; (try simp at hs2))
    (go_wp2_with fail; refine (i_absN _ _ (by omega) (by omega)).mono ?_; rintro e w' ⟨rfl, rfl⟩)
    go_wp2
    go_ret2
    exact ⟨rfl, by (repeat (first | with_reducible exact Ext.refl _ | with_reducible assumption | ((with_reducible apply Src.ext); with_reducible assumption) | with_reducible refine Ext.alloc ?_ _ | with_reducible refine Ext.drew ?_ | with_reducible refine Ext.drewN ?_ _ | ((with_reducible refine Ext.setCell' ?_ ?_ _); solve | omega | simp | (simp; omega)) | (with_reducible refine Ext.trans ?_ (by with_reducible assumption))))⟩
  · have hr' : ringB ps = false := Bool.eq_false_iff.2 hr
    rw [ringC_no hr', show ifI (ringB ps) (areaA ps) = 0 from by simp [ifI, hr']]
    have hrb : ∀ W, SlAt W 2 encP A ps → Calls Try.prog 57 #[.slice A ps.length c] W fun e w' => e = .returned (.bool false) ∧ Ext W w' := fun W h => as_bool (i_IsRing _ _ ps _ h hl hc) hr'
    have HRB := Lib.hid hrb
    clear hrb hr hr'
    go_enter Try.func11, Try.ntmps11
    (go_wp2_with fail; refine (HRB.out _ h).mono ?_; rintro e w1 ⟨rfl, hx1⟩; obtain ⟨hc1, hf1⟩ := hx1.rules; have hs1 := hx1.size; (try simp at hs1))
    go_wp2
    go_ret2
    exact ⟨rfl, by (repeat (first | with_reducible exact Ext.refl _ | with_reducible assumption | ((with_reducible apply Src.ext); with_reducible assumption) | with_reducible refine Ext.alloc ?_ _ | with_reducible refine Ext.drew ?_ | with_reducible refine Ext.drewN ?_ _ | ((with_reducible refine Ext.setCell' ?_ ?_ _); solve | omega | simp | (simp; omega)) | (with_reducible refine Ext.trans ?_ (by with_reducible assumption))))⟩

set_option maxHeartbeats 800000 in
theorem i_IsCounterclockwise (A : Option Addr) (c : Nat) (ps : List (Int × Int)) (w : World) (h : SlAt w 2 encP A ps) (hl : ps.length ≤ 1048576) (hc : ps.length ≤ c) :
    Calls Try.prog 17 #[.slice A ps.length c] w fun e w' => e = .returned (.tuple #[.bool (ifB (ringB ps) (decide (0 < areaZ ps))), .int .i64 (ringC ps)]) ∧ Ext w w' := by
  by_cases hr : ringB ps = true
  · rw [ringC_yes hr, show ifB (ringB ps) (decide (0 < areaZ ps)) = decide (0 < areaZ ps) from by simp [ifB, hr]]
    have hrb : ∀ W, SlAt W 2 encP A ps → Calls Try.prog 57 #[.slice A ps.length c] W fun e w' => e = .returned (.bool true) ∧ Ext W w' := fun W h => as_bool (i_IsRing _ _ ps _ h hl hc) hr
    have HRB := Lib.hid hrb
    obtain ⟨h0, hl12, ho⟩ := ring_facts hr
    have hbd := areaA_bd hr
    have hbb := borderZ_bd hr
    have HR := Lib.hid hr
    have HO := Lib.hid ho
    clear hrb hr ho
    go_enter Try.func17, Try.ntmps17
    (go_wp2_with fail; refine (HRB.out _ h).mono ?_; rintro e w1 ⟨rfl, hx1⟩; obtain ⟨hc1, hf1⟩ := hx1.rules; have hs1 := hx1.size; (try simp at hs1))
    (go_wp2_with fail; refine (i_area _ _ ps _ (h.ext (by (repeat (first | with_reducible exact Ext.refl _ | with_reducible assumption | ((with_reducible apply Src.ext); with_reducible assumption) | with_reducible refine Ext.alloc ?_ _ | with_reducible refine Ext.drew ?_ | with_reducible refine Ext.drewN ?_ _ | ((with_reducible refine Ext.setCell' ?_ ?_ _); solve | omega | simp | (simp; omega)) | (with_reducible refine Ext.trans ?_ (by with_reducible assumption)))))) h0 (by omega) HO.out).mono ?_; rintro e w2 ⟨rfl, hx2⟩; obtain ⟨hc2, hf2⟩ := hx2.rules; have hs2 := hx2.size; (try simp at hs2))
    go_wp2
    go_ret2
    exact ⟨rfl, by (repeat (first | with_reducible exact Ext.refl _ | with_reducible assumption | ((with_reducible apply Src.ext); with_reducible assumption) | with_reducible refine Ext.alloc ?_ _ | with_reducible refine Ext.drew ?_ | with_reducible refine Ext.drewN ?_ _ | ((with_reducible refine Ext.setCell' ?_ ?_ _); solve | omega | simp | (simp; omega)) | (with_reducible refine Ext.trans ?_ (by with_reducible assumption))))⟩
  · have hr' : ringB ps = false := Bool.eq_false_iff.2 hr
    rw [ringC_no hr', show ifB (ringB ps) (decide (0 < areaZ ps)) = false from by simp [ifB, hr']]
    have hrb : ∀ W, SlAt W 2 encP A ps → Calls Try.prog 57 #[.slice A ps.length c] W fun e w' => e = .returned (.bool false) ∧ Ext W w' := fun W h => as_bool (i_IsRing _ _ ps _ h hl hc) hr'
    have HRB := Lib.hid hrb
    clear hrb hr hr'
    go_enter Try.func17, Try.ntmps17
    (go_wp2_with fail; refine (HRB.out _ h).mono ?_; rintro e w1 ⟨rfl, hx1⟩; obtain ⟨hc1, hf1⟩ := hx1.rules; have hs1 := hx1.size; (try simp at hs1))
    go_wp2
    go_ret2
    exact ⟨rfl, by (repeat (first | with_reducible exact Ext.refl _ | with_reducible assumption | ((with_reducible apply Src.ext); with_reducible assumption) | with_reducible refine Ext.alloc ?_ _ | with_reducible refine Ext.drew ?_ | with_reducible refine Ext.drewN ?_ _ | ((with_reducible refine Ext.setCell' ?_ ?_ _); solve | omega | simp | (simp; omega)) | (with_reducible refine Ext.trans ?_ (by with_reducible assumption))))⟩

set_option maxHeartbeats 800000 in
theorem i_CountOnBorder (A : Option Addr) (c : Nat) (ps : List (Int × Int)) (w : World) (h : SlAt w 2 encP A ps) (hl : ps.length ≤ 1048576) (hc : ps.length ≤ c) :
    Calls Try.prog 13 #[.slice A ps.length c] w fun e w' => e = .returned (.tuple #[.int .i64 (ifI (ringB ps) (borderZ ps)), .int .i64 (ringC ps)]) ∧ Ext w w' := by
  by_cases hr : ringB ps = true
  · rw [ringC_yes hr, show ifI (ringB ps) (borderZ ps) = borderZ ps from by simp [ifI, hr]]
    have hrb : ∀ W, SlAt W 2 encP A ps → Calls Try.prog 57 #[.slice A ps.length c] W fun e w' => e = .returned (.bool true) ∧ Ext W w' := fun W h => as_bool (i_IsRing _ _ ps _ h hl hc) hr
    have HRB := Lib.hid hrb
    obtain ⟨h0, hl12, ho⟩ := ring_facts hr
    have hbd := areaA_bd hr
    have hbb := borderZ_bd hr
    have HR := Lib.hid hr
    have HO := Lib.hid ho
    clear hrb hr ho
    go_enter Try.func13, Try.ntmps13
    (go_wp2_with fail; refine (HRB.out _ h).mono ?_; rintro e w1 ⟨rfl, hx1⟩; obtain ⟨hc1, hf1⟩ := hx1.rules; have hs1 := hx1.size; (try simp at hs1))
    (go_wp2_with fail; refine (i_onBorder _ _ ps _ (h.ext (by (repeat (first | with_reducible exact Ext.refl _ | with_reducible assumption | ((with_reducible apply Src.ext); with_reducible assumption) | with_reducible refine Ext.alloc ?_ _ | with_reducible refine Ext.drew ?_ | with_reducible refine Ext.drewN ?_ _ | ((with_reducible refine Ext.setCell' ?_ ?_ _); solve | omega | simp | (simp; omega)) | (with_reducible refine Ext.trans ?_ (by with_reducible assumption)))))) h0 (by omega) HO.out).mono ?_; rintro e w2 ⟨rfl, hx2⟩; obtain ⟨hc2, hf2⟩ := hx2.rules; have hs2 := hx2.size; (try simp at hs2))
    go_wp2
    go_ret2
    exact ⟨rfl, by (repeat (first | with_reducible exact Ext.refl _ | with_reducible assumption | ((with_reducible apply Src.ext); with_reducible assumption) | with_reducible refine Ext.alloc ?_ _ | with_reducible refine Ext.drew ?_ | with_reducible refine Ext.drewN ?_ _ | ((with_reducible refine Ext.setCell' ?_ ?_ _); solve | omega | simp | (simp; omega)) | (with_reducible refine Ext.trans ?_ (by with_reducible assumption))))⟩
  · have hr' : ringB ps = false := Bool.eq_false_iff.2 hr
    rw [ringC_no hr', show ifI (ringB ps) (borderZ ps) = 0 from by simp [ifI, hr']]
    have hrb : ∀ W, SlAt W 2 encP A ps → Calls Try.prog 57 #[.slice A ps.length c] W fun e w' => e = .returned (.bool false) ∧ Ext W w' := fun W h => as_bool (i_IsRing _ _ ps _ h hl hc) hr'
    have HRB := Lib.hid hrb
    clear hrb hr hr'
    go_enter Try.func13, Try.ntmps13
    (go_wp2_with fail; refine (HRB.out _ h).mono ?_; rintro e w1 ⟨rfl, hx1⟩; obtain ⟨hc1, hf1⟩ := hx1.rules; have hs1 := hx1.size; (try simp at hs1))
    go_wp2
    go_ret2
    exact ⟨rfl, by (repeat (first | with_reducible exact Ext.refl _ | with_reducible assumption | ((with_reducible apply Src.ext); with_reducible assumption) | with_reducible refine Ext.alloc ?_ _ | with_reducible refine Ext.drew ?_ | with_reducible refine Ext.drewN ?_ _ | ((with_reducible refine Ext.setCell' ?_ ?_ _); solve | omega | simp | (simp; omega)) | (with_reducible refine Ext.trans ?_ (by with_reducible assumption))))⟩

set_option maxHeartbeats 800000 in
theorem i_CountInside (A : Option Addr) (c : Nat) (ps : List (Int × Int)) (w : World) (h : SlAt w 2 encP A ps) (hl : ps.length ≤ 1048576) (hc : ps.length ≤ c) :
    Calls Try.prog 15 #[.slice A ps.length c] w fun e w' => e = .returned (.tuple #[.int .i64 (ifI (ringB ps) (insideZ ps)), .int .i64 (ringC ps)]) ∧ Ext w w' := by
  by_cases hr : ringB ps = true
  · rw [ringC_yes hr, show ifI (ringB ps) (insideZ ps) = insideZ ps from by simp [ifI, hr]]
    have hrb : ∀ W, SlAt W 2 encP A ps → Calls Try.prog 57 #[.slice A ps.length c] W fun e w' => e = .returned (.bool true) ∧ Ext W w' := fun W h => as_bool (i_IsRing _ _ ps _ h hl hc) hr
    have HRB := Lib.hid hrb
    obtain ⟨h0, hl12, ho⟩ := ring_facts hr
    have hbd := areaA_bd hr
    have hbb := borderZ_bd hr
    have HR := Lib.hid hr
    have HO := Lib.hid ho
    clear hrb hr ho
    go_enter Try.func15, Try.ntmps15
    (go_wp2_with fail; refine (HRB.out _ h).mono ?_; rintro e w1 ⟨rfl, hx1⟩; obtain ⟨hc1, hf1⟩ := hx1.rules; have hs1 := hx1.size; (try simp at hs1))
    (go_wp2_with fail; refine (i_area _ _ ps _ (h.ext (by (repeat (first | with_reducible exact Ext.refl _ | with_reducible assumption | ((with_reducible apply Src.ext); with_reducible assumption) | with_reducible refine Ext.alloc ?_ _ | with_reducible refine Ext.drew ?_ | with_reducible refine Ext.drewN ?_ _ | ((with_reducible refine Ext.setCell' ?_ ?_ _); solve | omega | simp | (simp; omega)) | (with_reducible refine Ext.trans ?_ (by with_reducible assumption)))))) h0 (by omega) HO.out).mono ?_; rintro e w2 ⟨rfl, hx2⟩; obtain ⟨hc2, hf2⟩ := hx2.rules; have hs2 := hx2.size; (try simp at hs2))
    (go_wp2_with fail; refine (i_absN _ _ (by omega) (by omega)).mono ?_; rintro e w' ⟨rfl, rfl⟩)
    have hbd : (0 ≤ ((areaZ ps).natAbs : Int) ∧ ((areaZ ps).natAbs : Int) ≤ 24000000) := ⟨hbd.1, hbd.2.1⟩
    (go_wp2_with fail; refine (i_onBorder _ _ ps _ (h.ext (by (repeat (first | with_reducible exact Ext.refl _ | with_reducible assumption | ((with_reducible apply Src.ext); with_reducible assumption) | with_reducible refine Ext.alloc ?_ _ | with_reducible refine Ext.drew ?_ | with_reducible refine Ext.drewN ?_ _ | ((with_reducible refine Ext.setCell' ?_ ?_ _); solve | omega | simp | (simp; omega)) | (with_reducible refine Ext.trans ?_ (by with_reducible assumption)))))) h0 (by omega) HO.out).mono ?_; rintro e w3 ⟨rfl, hx3⟩; obtain ⟨hc3, hf3⟩ := hx3.rules; have hs3 := hx3.size; (try simp at hs3))
    go_wp2
    go_ret2
    exact ⟨rfl, by (repeat (first | with_reducible exact Ext.refl _ | with_reducible assumption | ((with_reducible apply Src.ext); with_reducible assumption) | with_reducible refine Ext.alloc ?_ _ | with_reducible refine Ext.drew ?_ | with_reducible refine Ext.drewN ?_ _ | ((with_reducible refine Ext.setCell' ?_ ?_ _); solve | omega | simp | (simp; omega)) | (with_reducible refine Ext.trans ?_ (by with_reducible assumption))))⟩
  · have hr' : ringB ps = false := Bool.eq_false_iff.2 hr
    rw [ringC_no hr', show ifI (ringB ps) (insideZ ps) = 0 from by simp [ifI, hr']]
    have hrb : ∀ W, SlAt W 2 encP A ps → Calls Try.prog 57 #[.slice A ps.length c] W fun e w' => e = .returned (.bool false) ∧ Ext W w' := fun W h => as_bool (i_IsRing _ _ ps _ h hl hc) hr'
    have HRB := Lib.hid hrb
    clear hrb hr hr'
    go_enter Try.func15, Try.ntmps15
    (go_wp2_with fail; refine (HRB.out _ h).mono ?_; rintro e w1 ⟨rfl, hx1⟩; obtain ⟨hc1, hf1⟩ := hx1.rules; have hs1 := hx1.size; (try simp at hs1))
    go_wp2
    go_ret2
    exact ⟨rfl, by (repeat (first | with_reducible exact Ext.refl _ | with_reducible assumption | ((with_reducible apply Src.ext); with_reducible assumption) | with_reducible refine Ext.alloc ?_ _ | with_reducible refine Ext.drew ?_ | with_reducible refine Ext.drewN ?_ _ | ((with_reducible refine Ext.setCell' ?_ ?_ _); solve | omega | simp | (simp; omega)) | (with_reducible refine Ext.trans ?_ (by with_reducible assumption))))⟩

set_option maxHeartbeats 800000 in
theorem s_TwiceArea (A : Option Addr) (c : Nat) (ps : List (Int × Int)) (w : World) (h : SlAt w 2 encP A ps) (hl : ps.length ≤ 1048576) :
    Calls Try.prog 12 #[.slice A ps.length c] w fun e w' => e = .returned (.tuple #[.int .i64 (ifI (ringB ps) (areaA ps)), .int .i64 (ringC ps)]) ∧ Ext w w' := by
  by_cases hr : ringB ps = true
  · rw [ringC_yes hr, show ifI (ringB ps) (areaA ps) = areaA ps from by simp [ifI, hr]]
    have hrb : ∀ W, SlAt W 2 encP A ps → Calls Try.prog 59 #[.slice A ps.length c] W fun e w' => e = .returned (.bool true) ∧ Ext W w' := fun W h => as_bool (s_IsRing _ _ ps _ h hl) hr
    have HRB := Lib.hid hrb
    obtain ⟨h0, hl12, ho⟩ := ring_facts hr
    have hbd := areaA_bd hr
    have hbb := borderZ_bd hr
    have HR := Lib.hid hr
    have HO := Lib.hid ho
    clear hrb hr ho
    go_enter Try.func12, Try.ntmps12
    (go_wp2_with fail; refine (HRB.out _ h).mono ?_; rintro e w1 ⟨rfl, hx1⟩; obtain ⟨hc1, hf1⟩ := hx1.rules; have hs1 := hx1.size; (try simp at hs1))
    (go_wp2_with fail; refine (s_area _ _ ps _ (h.ext (by (repeat (first | with_reducible exact Ext.refl _ | with_reducible assumption | ((with_reducible apply Src.ext); with_reducible assumption) | with_reducible refine Ext.alloc ?_ _ | with_reducible refine Ext.drew ?_ | with_reducible refine Ext.drewN ?_ _ | ((with_reducible refine Ext.setCell' ?_ ?_ _); solve | omega | simp | (simp; omega)) | (with_reducible refine Ext.trans ?_ (by with_reducible assumption)))))) h0 (by omega) HO.out).mono ?_; rintro e w2 ⟨rfl, hx2⟩; obtain ⟨hc2, hf2⟩ := hx2.rules; have hs2 := hx2.size; (try simp at hs2))
    (go_wp2_with fail; refine (s_absN _ _ (by omega) (by omega)).mono ?_; rintro e w' ⟨rfl, rfl⟩)
    go_wp2
    go_ret2
    exact ⟨rfl, by (repeat (first | with_reducible exact Ext.refl _ | with_reducible assumption | ((with_reducible apply Src.ext); with_reducible assumption) | with_reducible refine Ext.alloc ?_ _ | with_reducible refine Ext.drew ?_ | with_reducible refine Ext.drewN ?_ _ | ((with_reducible refine Ext.setCell' ?_ ?_ _); solve | omega | simp | (simp; omega)) | (with_reducible refine Ext.trans ?_ (by with_reducible assumption))))⟩
  · have hr' : ringB ps = false := Bool.eq_false_iff.2 hr
    rw [ringC_no hr', show ifI (ringB ps) (areaA ps) = 0 from by simp [ifI, hr']]
    have hrb : ∀ W, SlAt W 2 encP A ps → Calls Try.prog 59 #[.slice A ps.length c] W fun e w' => e = .returned (.bool false) ∧ Ext W w' := fun W h => as_bool (s_IsRing _ _ ps _ h hl) hr'
    have HRB := Lib.hid hrb
    clear hrb hr hr'
    go_enter Try.func12, Try.ntmps12
    (go_wp2_with fail; refine (HRB.out _ h).mono ?_; rintro e w1 ⟨rfl, hx1⟩; obtain ⟨hc1, hf1⟩ := hx1.rules; have hs1 := hx1.size; (try simp at hs1))
    go_wp2
    go_ret2
    exact ⟨rfl, by (repeat (first | with_reducible exact Ext.refl _ | with_reducible assumption | ((with_reducible apply Src.ext); with_reducible assumption) | with_reducible refine Ext.alloc ?_ _ | with_reducible refine Ext.drew ?_ | with_reducible refine Ext.drewN ?_ _ | ((with_reducible refine Ext.setCell' ?_ ?_ _); solve | omega | simp | (simp; omega)) | (with_reducible refine Ext.trans ?_ (by with_reducible assumption))))⟩

set_option maxHeartbeats 800000 in
theorem s_IsCounterclockwise (A : Option Addr) (c : Nat) (ps : List (Int × Int)) (w : World) (h : SlAt w 2 encP A ps) (hl : ps.length ≤ 1048576) :
    Calls Try.prog 18 #[.slice A ps.length c] w fun e w' => e = .returned (.tuple #[.bool (ifB (ringB ps) (decide (0 < areaZ ps))), .int .i64 (ringC ps)]) ∧ Ext w w' := by
  by_cases hr : ringB ps = true
  · rw [ringC_yes hr, show ifB (ringB ps) (decide (0 < areaZ ps)) = decide (0 < areaZ ps) from by simp [ifB, hr]]
    have hrb : ∀ W, SlAt W 2 encP A ps → Calls Try.prog 59 #[.slice A ps.length c] W fun e w' => e = .returned (.bool true) ∧ Ext W w' := fun W h => as_bool (s_IsRing _ _ ps _ h hl) hr
    have HRB := Lib.hid hrb
    obtain ⟨h0, hl12, ho⟩ := ring_facts hr
    have hbd := areaA_bd hr
    have hbb := borderZ_bd hr
    have HR := Lib.hid hr
    have HO := Lib.hid ho
    clear hrb hr ho
    go_enter Try.func18, Try.ntmps18
    (go_wp2_with fail; refine (HRB.out _ h).mono ?_; rintro e w1 ⟨rfl, hx1⟩; obtain ⟨hc1, hf1⟩ := hx1.rules; have hs1 := hx1.size; (try simp at hs1))
    (go_wp2_with fail; refine (s_area _ _ ps _ (h.ext (by (repeat (first | with_reducible exact Ext.refl _ | with_reducible assumption | ((with_reducible apply Src.ext); with_reducible assumption) | with_reducible refine Ext.alloc ?_ _ | with_reducible refine Ext.drew ?_ | with_reducible refine Ext.drewN ?_ _ | ((with_reducible refine Ext.setCell' ?_ ?_ _); solve | omega | simp | (simp; omega)) | (with_reducible refine Ext.trans ?_ (by with_reducible assumption)))))) h0 (by omega) HO.out).mono ?_; rintro e w2 ⟨rfl, hx2⟩; obtain ⟨hc2, hf2⟩ := hx2.rules; have hs2 := hx2.size; (try simp at hs2))
    go_wp2
    go_ret2
    exact ⟨rfl, by (repeat (first | with_reducible exact Ext.refl _ | with_reducible assumption | ((with_reducible apply Src.ext); with_reducible assumption) | with_reducible refine Ext.alloc ?_ _ | with_reducible refine Ext.drew ?_ | with_reducible refine Ext.drewN ?_ _ | ((with_reducible refine Ext.setCell' ?_ ?_ _); solve | omega | simp | (simp; omega)) | (with_reducible refine Ext.trans ?_ (by with_reducible assumption))))⟩
  · have hr' : ringB ps = false := Bool.eq_false_iff.2 hr
    rw [ringC_no hr', show ifB (ringB ps) (decide (0 < areaZ ps)) = false from by simp [ifB, hr']]
    have hrb : ∀ W, SlAt W 2 encP A ps → Calls Try.prog 59 #[.slice A ps.length c] W fun e w' => e = .returned (.bool false) ∧ Ext W w' := fun W h => as_bool (s_IsRing _ _ ps _ h hl) hr'
    have HRB := Lib.hid hrb
    clear hrb hr hr'
    go_enter Try.func18, Try.ntmps18
    (go_wp2_with fail; refine (HRB.out _ h).mono ?_; rintro e w1 ⟨rfl, hx1⟩; obtain ⟨hc1, hf1⟩ := hx1.rules; have hs1 := hx1.size; (try simp at hs1))
    go_wp2
    go_ret2
    exact ⟨rfl, by (repeat (first | with_reducible exact Ext.refl _ | with_reducible assumption | ((with_reducible apply Src.ext); with_reducible assumption) | with_reducible refine Ext.alloc ?_ _ | with_reducible refine Ext.drew ?_ | with_reducible refine Ext.drewN ?_ _ | ((with_reducible refine Ext.setCell' ?_ ?_ _); solve | omega | simp | (simp; omega)) | (with_reducible refine Ext.trans ?_ (by with_reducible assumption))))⟩

set_option maxHeartbeats 800000 in
theorem s_CountOnBorder (A : Option Addr) (c : Nat) (ps : List (Int × Int)) (w : World) (h : SlAt w 2 encP A ps) (hl : ps.length ≤ 1048576) :
    Calls Try.prog 14 #[.slice A ps.length c] w fun e w' => e = .returned (.tuple #[.int .i64 (ifI (ringB ps) (borderZ ps)), .int .i64 (ringC ps)]) ∧ Ext w w' := by
  by_cases hr : ringB ps = true
  · rw [ringC_yes hr, show ifI (ringB ps) (borderZ ps) = borderZ ps from by simp [ifI, hr]]
    have hrb : ∀ W, SlAt W 2 encP A ps → Calls Try.prog 59 #[.slice A ps.length c] W fun e w' => e = .returned (.bool true) ∧ Ext W w' := fun W h => as_bool (s_IsRing _ _ ps _ h hl) hr
    have HRB := Lib.hid hrb
    obtain ⟨h0, hl12, ho⟩ := ring_facts hr
    have hbd := areaA_bd hr
    have hbb := borderZ_bd hr
    have HR := Lib.hid hr
    have HO := Lib.hid ho
    clear hrb hr ho
    go_enter Try.func14, Try.ntmps14
    (go_wp2_with fail; refine (HRB.out _ h).mono ?_; rintro e w1 ⟨rfl, hx1⟩; obtain ⟨hc1, hf1⟩ := hx1.rules; have hs1 := hx1.size; (try simp at hs1))
    (go_wp2_with fail; refine (s_l16Border _ _ ps _ (h.ext (by (repeat (first | with_reducible exact Ext.refl _ | with_reducible assumption | ((with_reducible apply Src.ext); with_reducible assumption) | with_reducible refine Ext.alloc ?_ _ | with_reducible refine Ext.drew ?_ | with_reducible refine Ext.drewN ?_ _ | ((with_reducible refine Ext.setCell' ?_ ?_ _); solve | omega | simp | (simp; omega)) | (with_reducible refine Ext.trans ?_ (by with_reducible assumption)))))) h0 (by omega) HO.out).mono ?_; rintro e w2 ⟨rfl, hx2⟩; obtain ⟨hc2, hf2⟩ := hx2.rules; have hs2 := hx2.size; (try simp at hs2))
    go_wp2
    go_ret2
    exact ⟨rfl, by (repeat (first | with_reducible exact Ext.refl _ | with_reducible assumption | ((with_reducible apply Src.ext); with_reducible assumption) | with_reducible refine Ext.alloc ?_ _ | with_reducible refine Ext.drew ?_ | with_reducible refine Ext.drewN ?_ _ | ((with_reducible refine Ext.setCell' ?_ ?_ _); solve | omega | simp | (simp; omega)) | (with_reducible refine Ext.trans ?_ (by with_reducible assumption))))⟩
  · have hr' : ringB ps = false := Bool.eq_false_iff.2 hr
    rw [ringC_no hr', show ifI (ringB ps) (borderZ ps) = 0 from by simp [ifI, hr']]
    have hrb : ∀ W, SlAt W 2 encP A ps → Calls Try.prog 59 #[.slice A ps.length c] W fun e w' => e = .returned (.bool false) ∧ Ext W w' := fun W h => as_bool (s_IsRing _ _ ps _ h hl) hr'
    have HRB := Lib.hid hrb
    clear hrb hr hr'
    go_enter Try.func14, Try.ntmps14
    (go_wp2_with fail; refine (HRB.out _ h).mono ?_; rintro e w1 ⟨rfl, hx1⟩; obtain ⟨hc1, hf1⟩ := hx1.rules; have hs1 := hx1.size; (try simp at hs1))
    go_wp2
    go_ret2
    exact ⟨rfl, by (repeat (first | with_reducible exact Ext.refl _ | with_reducible assumption | ((with_reducible apply Src.ext); with_reducible assumption) | with_reducible refine Ext.alloc ?_ _ | with_reducible refine Ext.drew ?_ | with_reducible refine Ext.drewN ?_ _ | ((with_reducible refine Ext.setCell' ?_ ?_ _); solve | omega | simp | (simp; omega)) | (with_reducible refine Ext.trans ?_ (by with_reducible assumption))))⟩

set_option maxHeartbeats 800000 in
theorem s_CountInside (A : Option Addr) (c : Nat) (ps : List (Int × Int)) (w : World) (h : SlAt w 2 encP A ps) (hl : ps.length ≤ 1048576) :
    Calls Try.prog 16 #[.slice A ps.length c] w fun e w' => e = .returned (.tuple #[.int .i64 (ifI (ringB ps) (insideZ ps)), .int .i64 (ringC ps)]) ∧ Ext w w' := by
  by_cases hr : ringB ps = true
  · rw [ringC_yes hr, show ifI (ringB ps) (insideZ ps) = insideZ ps from by simp [ifI, hr]]
    have hrb : ∀ W, SlAt W 2 encP A ps → Calls Try.prog 59 #[.slice A ps.length c] W fun e w' => e = .returned (.bool true) ∧ Ext W w' := fun W h => as_bool (s_IsRing _ _ ps _ h hl) hr
    have HRB := Lib.hid hrb
    obtain ⟨h0, hl12, ho⟩ := ring_facts hr
    have hbd := areaA_bd hr
    have hbb := borderZ_bd hr
    have HR := Lib.hid hr
    have HO := Lib.hid ho
    clear hrb hr ho
    go_enter Try.func16, Try.ntmps16
    (go_wp2_with fail; refine (HRB.out _ h).mono ?_; rintro e w1 ⟨rfl, hx1⟩; obtain ⟨hc1, hf1⟩ := hx1.rules; have hs1 := hx1.size; (try simp at hs1))
    (go_wp2_with fail; refine (s_area _ _ ps _ (h.ext (by (repeat (first | with_reducible exact Ext.refl _ | with_reducible assumption | ((with_reducible apply Src.ext); with_reducible assumption) | with_reducible refine Ext.alloc ?_ _ | with_reducible refine Ext.drew ?_ | with_reducible refine Ext.drewN ?_ _ | ((with_reducible refine Ext.setCell' ?_ ?_ _); solve | omega | simp | (simp; omega)) | (with_reducible refine Ext.trans ?_ (by with_reducible assumption)))))) h0 (by omega) HO.out).mono ?_; rintro e w2 ⟨rfl, hx2⟩; obtain ⟨hc2, hf2⟩ := hx2.rules; have hs2 := hx2.size; (try simp at hs2))
    (go_wp2_with fail; refine (s_absN _ _ (by omega) (by omega)).mono ?_; rintro e w' ⟨rfl, rfl⟩)
    have hbd : (0 ≤ ((areaZ ps).natAbs : Int) ∧ ((areaZ ps).natAbs : Int) ≤ 24000000) := ⟨hbd.1, hbd.2.1⟩
    (go_wp2_with fail; refine (s_l16Border _ _ ps _ (h.ext (by (repeat (first | with_reducible exact Ext.refl _ | with_reducible assumption | ((with_reducible apply Src.ext); with_reducible assumption) | with_reducible refine Ext.alloc ?_ _ | with_reducible refine Ext.drew ?_ | with_reducible refine Ext.drewN ?_ _ | ((with_reducible refine Ext.setCell' ?_ ?_ _); solve | omega | simp | (simp; omega)) | (with_reducible refine Ext.trans ?_ (by with_reducible assumption)))))) h0 (by omega) HO.out).mono ?_; rintro e w3 ⟨rfl, hx3⟩; obtain ⟨hc3, hf3⟩ := hx3.rules; have hs3 := hx3.size; (try simp at hs3))
    go_wp2
    go_ret2
    exact ⟨rfl, by (repeat (first | with_reducible exact Ext.refl _ | with_reducible assumption | ((with_reducible apply Src.ext); with_reducible assumption) | with_reducible refine Ext.alloc ?_ _ | with_reducible refine Ext.drew ?_ | with_reducible refine Ext.drewN ?_ _ | ((with_reducible refine Ext.setCell' ?_ ?_ _); solve | omega | simp | (simp; omega)) | (with_reducible refine Ext.trans ?_ (by with_reducible assumption))))⟩
  · have hr' : ringB ps = false := Bool.eq_false_iff.2 hr
    rw [ringC_no hr', show ifI (ringB ps) (insideZ ps) = 0 from by simp [ifI, hr']]
    have hrb : ∀ W, SlAt W 2 encP A ps → Calls Try.prog 59 #[.slice A ps.length c] W fun e w' => e = .returned (.bool false) ∧ Ext W w' := fun W h => as_bool (s_IsRing _ _ ps _ h hl) hr'
    have HRB := Lib.hid hrb
    clear hrb hr hr'
    go_enter Try.func16, Try.ntmps16
    (go_wp2_with fail; refine (HRB.out _ h).mono ?_; rintro e w1 ⟨rfl, hx1⟩; obtain ⟨hc1, hf1⟩ := hx1.rules; have hs1 := hx1.size; (try simp at hs1))
    go_wp2
    go_ret2
    exact ⟨rfl, by (repeat (first | with_reducible exact Ext.refl _ | with_reducible assumption | ((with_reducible apply Src.ext); with_reducible assumption) | with_reducible refine Ext.alloc ?_ _ | with_reducible refine Ext.drew ?_ | with_reducible refine Ext.drewN ?_ _ | ((with_reducible refine Ext.setCell' ?_ ?_ _); solve | omega | simp | (simp; omega)) | (with_reducible refine Ext.trans ?_ (by with_reducible assumption))))⟩

theorem convB_iff {ps : List (Int × Int)} : convB ps = true ↔ ConvP ps := by simp [convB]
theorem ConvP_no {ps : List (Int × Int)} {k : Nat} (hk : k < ps.length) (h : (sgn (turnI ps k) != sgn (turnI ps ((0 : Nat) : Int))) = true) : false = convB ps := by
  refine (Bool.eq_false_iff.2 fun hc => ?_).symm
  rw [convB_iff.1 hc k hk] at h
  simp at h
theorem ConvP_succ {ps : List (Int × Int)} {k : Nat} (hc : ∀ j : Nat, j < k → sgn (turnI ps j) = sgn (turnI ps ((0 : Nat) : Int))) (h : (sgn (turnI ps k) != sgn (turnI ps ((0 : Nat) : Int))) = false) : ∀ j : Nat, j < k + 1 → sgn (turnI ps j) = sgn (turnI ps ((0 : Nat) : Int)) := fun j hj => by
  rcases Nat.lt_or_ge j k with h1 | h1
  · exact hc j h1
  · obtain rfl : j = k := by omega
    simpa using h
theorem ConvP_yes {ps : List (Int × Int)} (hc : ∀ j : Nat, j < ps.length → sgn (turnI ps j) = sgn (turnI ps ((0 : Nat) : Int))) : true = convB ps := by
  exact (convB_iff.2 hc).symm
/-- some corner among the first k turns to the left; some one does not -/
def Lefts (ps : List (Int × Int)) (k : Nat) (l r : Bool) : Prop := (l = true ↔ ∃ j : Nat, j < k ∧ 0 < turnI ps j) ∧ (r = true ↔ ∃ j : Nat, j < k ∧ ¬ 0 < turnI ps j)
theorem Lefts.left {ps : List (Int × Int)} {k : Nat} {l r : Bool} (h : Lefts ps k l r) (ht : 0 < turnI ps k) : Lefts ps (k + 1) true r := by
  refine ⟨⟨fun _ => ⟨k, by omega, ht⟩, fun _ => rfl⟩, h.2.trans ⟨fun ⟨j, hj, e⟩ => ⟨j, by omega, e⟩, fun ⟨j, hj, e⟩ => ⟨j, ?_, e⟩⟩⟩
  rcases Nat.lt_or_ge j k with h1 | h1
  · exact h1
  · exact absurd (by rw [show j = k by omega]; exact ht) e
theorem Lefts.right {ps : List (Int × Int)} {k : Nat} {l r : Bool} (h : Lefts ps k l r) (ht : ¬ 0 < turnI ps k) : Lefts ps (k + 1) l true := by
  refine ⟨h.1.trans ⟨fun ⟨j, hj, e⟩ => ⟨j, by omega, e⟩, fun ⟨j, hj, e⟩ => ⟨j, ?_, e⟩⟩, ⟨fun _ => ⟨k, by omega, ht⟩, fun _ => rfl⟩⟩
  rcases Nat.lt_or_ge j k with h1 | h1
  · exact h1
  · exact absurd e (by rw [show j = k by omega]; exact ht)
theorem Lefts.conv {ps : List (Int × Int)} {l r : Bool} (h : Lefts ps ps.length l r) (hr : ringB ps = true) : (l != r) = convB ps := by
  have hp := ringB_iff.1 hr
  have ht : ∀ i : Nat, i < ps.length → turnI ps i ≠ 0 := hp.2.2.2.1
  have h0 : 0 < ps.length := (ring_facts hr).1
  have hz := ht 0 h0
  rw [Bool.eq_iff_iff]
  rw [convB_iff, bne_iff_ne]
  constructor
  · intro hne k hk
    have hk0 := ht k hk
    rcases Int.lt_trichotomy (turnI ps k) 0 with a | a | a
    · rcases Int.lt_trichotomy (turnI ps ((0 : Nat) : Int)) 0 with b | b | b
      · unfold sgn; omega
      · exact absurd b hz
      · exact absurd ((h.1.2 ⟨0, h0, b⟩).trans (h.2.2 ⟨k, hk, by omega⟩).symm) hne
    · exact absurd a hk0
    · rcases Int.lt_trichotomy (turnI ps ((0 : Nat) : Int)) 0 with b | b | b
      · exact absurd ((h.1.2 ⟨k, hk, a⟩).trans (h.2.2 ⟨0, h0, by omega⟩).symm) hne
      · exact absurd b hz
      · unfold sgn; omega
  · intro hc hlr
    rcases Int.lt_trichotomy (turnI ps ((0 : Nat) : Int)) 0 with b | b | b
    · have hrt : r = true := h.2.2 ⟨0, h0, by omega⟩
      rw [hrt] at hlr
      obtain ⟨j, hj, e⟩ := h.1.1 hlr
      have := hc j hj
      unfold sgn at this
      omega
    · exact absurd b hz
    · have hlt : l = true := h.1.2 ⟨0, h0, b⟩
      rw [hlt] at hlr
      obtain ⟨j, hj, e⟩ := h.2.1 hlr.symm
      have := hc j hj
      have := ht j hj
      unfold sgn at *
      omega

set_option maxHeartbeats 800000 in
theorem i_IsConvex (A : Option Addr) (c : Nat) (ps : List (Int × Int)) (w : World) (h : SlAt w 2 encP A ps) (hl : ps.length ≤ 1048576) (hc : ps.length ≤ c) :
    Calls Try.prog 19 #[.slice A ps.length c] w fun e w' => e = .returned (.tuple #[.bool (ifB (ringB ps) (convB ps)), .int .i64 (ringC ps)]) ∧ Ext w w' := by
  by_cases hr : ringB ps = true
  · rw [ringC_yes hr, show ifB (ringB ps) (convB ps) = convB ps from by simp [ifB, hr]]
    have hrb : ∀ W, SlAt W 2 encP A ps → Calls Try.prog 57 #[.slice A ps.length c] W fun e w' => e = .returned (.bool true) ∧ Ext W w' := fun W h => as_bool (i_IsRing _ _ ps _ h hl hc) hr
    have HRB := Lib.hid hrb
    obtain ⟨h0, hl12, ho⟩ := ring_facts hr
    have hbd := areaA_bd hr
    have hbb := borderZ_bd hr
    have HR := Lib.hid hr
    have HO := Lib.hid ho
    clear hrb hr ho
    go_enter Try.func19, Try.ntmps19
    (go_wp2_with fail; refine (HRB.out _ h).mono ?_; rintro e w1 ⟨rfl, hx1⟩; obtain ⟨hc1, hf1⟩ := hx1.rules; have hs1 := hx1.size; (try simp at hs1))
    go_wp2
    go_loopw [10] (fun i wr => ∃ k : Nat, k ≤ ps.length ∧ i = .int .i64 k ∧ Hid (∀ j : Nat, j < k → sgn (turnI ps j) = sgn (turnI ps ((0 : Nat) : Int))) ∧ Ext w wr) (fun i _ => ps.length - (intOf i).toNat)
    case atStart => exact ⟨0, Nat.zero_le _, rfl, fun j hj => absurd hj (by omega), by (repeat (first | with_reducible exact Ext.refl _ | with_reducible assumption | ((with_reducible apply Src.ext); with_reducible assumption) | with_reducible refine Ext.alloc ?_ _ | with_reducible refine Ext.drew ?_ | with_reducible refine Ext.drewN ?_ _ | ((with_reducible refine Ext.setCell' ?_ ?_ _); solve | omega | simp | (simp; omega)) | (with_reducible refine Ext.trans ?_ (by with_reducible assumption))))⟩
    case round =>
      obtain ⟨k, hk, rfl, HT, hx⟩ := hrel
      by_cases hlt : k < ps.length
      · have hS := h.ext hx
        have k0 : (((0 : Nat) : Int)) = 0 := rfl
        go_wp2_with fail
        refine (i_turnAt _ _ ps k _ hS hlt hl).mono ?_
        rintro e w2 ⟨rfl, hx2⟩
        (go_wp2_with fail; refine (i_sign _ _).mono ?_; rintro e w' ⟨rfl, rfl⟩)
        go_wp2_with fail
        refine (i_turnAt _ _ ps 0 _ (h.ext (by (repeat (first | with_reducible exact Ext.refl _ | with_reducible assumption | ((with_reducible apply Src.ext); with_reducible assumption) | with_reducible refine Ext.alloc ?_ _ | with_reducible refine Ext.drew ?_ | with_reducible refine Ext.drewN ?_ _ | ((with_reducible refine Ext.setCell' ?_ ?_ _); solve | omega | simp | (simp; omega)) | (with_reducible refine Ext.trans ?_ (by with_reducible assumption)))))) h0 hl).mono ?_
        rintro e w3 ⟨rfl, hx3⟩
        (go_wp2_with fail; refine (i_sign _ _).mono ?_; rintro e w' ⟨rfl, rfl⟩)
        go_wp2
        · go_ret2
          exact ⟨by rw [← ConvP_no hlt (by assumption)]; rfl, by (repeat (first | with_reducible exact Ext.refl _ | with_reducible assumption | ((with_reducible apply Src.ext); with_reducible assumption) | with_reducible refine Ext.alloc ?_ _ | with_reducible refine Ext.drew ?_ | with_reducible refine Ext.drewN ?_ _ | ((with_reducible refine Ext.setCell' ?_ ?_ _); solve | omega | simp | (simp; omega)) | (with_reducible refine Ext.trans ?_ (by with_reducible assumption))))⟩
        · go_roundw
          case rel => exact ⟨k + 1, by omega, by go_num, ConvP_succ HT.out (by assumption), by (repeat (first | with_reducible exact Ext.refl _ | with_reducible assumption | ((with_reducible apply Src.ext); with_reducible assumption) | with_reducible refine Ext.alloc ?_ _ | with_reducible refine Ext.drew ?_ | with_reducible refine Ext.drewN ?_ _ | ((with_reducible refine Ext.setCell' ?_ ?_ _); solve | omega | simp | (simp; omega)) | (with_reducible refine Ext.trans ?_ (by with_reducible assumption))))⟩
          case measure => simp [intOf]; omega
      · go_wp2
        go_ret2
        obtain rfl : k = ps.length := by omega
        exact ⟨by rw [← ConvP_yes HT.out]; rfl, by (repeat (first | with_reducible exact Ext.refl _ | with_reducible assumption | ((with_reducible apply Src.ext); with_reducible assumption) | with_reducible refine Ext.alloc ?_ _ | with_reducible refine Ext.drew ?_ | with_reducible refine Ext.drewN ?_ _ | ((with_reducible refine Ext.setCell' ?_ ?_ _); solve | omega | simp | (simp; omega)) | (with_reducible refine Ext.trans ?_ (by with_reducible assumption))))⟩
  · have hr' : ringB ps = false := Bool.eq_false_iff.2 hr
    rw [ringC_no hr', show ifB (ringB ps) (convB ps) = false from by simp [ifB, hr']]
    have hrb : ∀ W, SlAt W 2 encP A ps → Calls Try.prog 57 #[.slice A ps.length c] W fun e w' => e = .returned (.bool false) ∧ Ext W w' := fun W h => as_bool (i_IsRing _ _ ps _ h hl hc) hr'
    have HRB := Lib.hid hrb
    clear hrb hr hr'
    go_enter Try.func19, Try.ntmps19
    (go_wp2_with fail; refine (HRB.out _ h).mono ?_; rintro e w1 ⟨rfl, hx1⟩; obtain ⟨hc1, hf1⟩ := hx1.rules; have hs1 := hx1.size; (try simp at hs1))
    go_wp2
    go_ret2
    exact ⟨rfl, by (repeat (first | with_reducible exact Ext.refl _ | with_reducible assumption | ((with_reducible apply Src.ext); with_reducible assumption) | with_reducible refine Ext.alloc ?_ _ | with_reducible refine Ext.drew ?_ | with_reducible refine Ext.drewN ?_ _ | ((with_reducible refine Ext.setCell' ?_ ?_ _); solve | omega | simp | (simp; omega)) | (with_reducible refine Ext.trans ?_ (by with_reducible assumption))))⟩

set_option maxHeartbeats 800000 in
theorem s_IsConvex (A : Option Addr) (c : Nat) (ps : List (Int × Int)) (w : World) (h : SlAt w 2 encP A ps) (hl : ps.length ≤ 1048576) :
    Calls Try.prog 20 #[.slice A ps.length c] w fun e w' => e = .returned (.tuple #[.bool (ifB (ringB ps) (convB ps)), .int .i64 (ringC ps)]) ∧ Ext w w' := by
  by_cases hr : ringB ps = true
  · rw [ringC_yes hr, show ifB (ringB ps) (convB ps) = convB ps from by simp [ifB, hr]]
    have hrb : ∀ W, SlAt W 2 encP A ps → Calls Try.prog 59 #[.slice A ps.length c] W fun e w' => e = .returned (.bool true) ∧ Ext W w' := fun W h => as_bool (s_IsRing _ _ ps _ h hl) hr
    have HRB := Lib.hid hrb
    obtain ⟨h0, hl12, ho⟩ := ring_facts hr
    have hbd := areaA_bd hr
    have hbb := borderZ_bd hr
    have HR := Lib.hid hr
    have HO := Lib.hid ho
    clear hrb hr ho
    go_enter Try.func20, Try.ntmps20
    (go_wp2_with fail; refine (HRB.out _ h).mono ?_; rintro e w1 ⟨rfl, hx1⟩; obtain ⟨hc1, hf1⟩ := hx1.rules; have hs1 := hx1.size; (try simp at hs1))
    obtain ⟨b, off, rfl, hb0⟩ := h.open_ h0
    go_wp2
    go_loopw [4, 5, 6] (fun l r i wr => ∃ (k : Nat) (u v : Bool), k ≤ ps.length ∧ i = .int .i64 k ∧ l = .bool u ∧ r = .bool v ∧ Hid (Lefts ps k u v) ∧ Ext w wr) (fun _ _ i _ => ps.length - (intOf i).toNat)
    case atStart => exact ⟨0, false, false, Nat.zero_le _, rfl, rfl, rfl, ⟨⟨(fun h => by cases h), (fun ⟨j, hj, _⟩ => by omega)⟩, ⟨(fun h => by cases h), (fun ⟨j, hj, _⟩ => by omega)⟩⟩, by (repeat (first | with_reducible exact Ext.refl _ | with_reducible assumption | ((with_reducible apply Src.ext); with_reducible assumption) | with_reducible refine Ext.alloc ?_ _ | with_reducible refine Ext.drew ?_ | with_reducible refine Ext.drewN ?_ _ | ((with_reducible refine Ext.setCell' ?_ ?_ _); solve | omega | simp | (simp; omega)) | (with_reducible refine Ext.trans ?_ (by with_reducible assumption))))⟩
    case round =>
      obtain ⟨k, u, v, hk, rfl, rfl, rfl, HT, hx⟩ := hrel
      by_cases hlt : k < ps.length
      · have hS := h.ext hx
        obtain ⟨d0, d1⟩ := hS.ring hlt
        have hbr := Nat.lt_of_lt_of_le hb0 hx.size
        by_cases ht : 0 < turnI ps k
        · have HT1 := Lib.hid (HT.out.left ht)
          have ht' : 0 < turnW (ptx ps k) (ptz ps k) (ptx ps (k + 1)) (ptz ps (k + 1)) (ptx ps (k + 2)) (ptz ps (k + 2)) := ht
          go_wp2
          (refine wp_region_ext (by kernel_rfl) (by kernel_rfl) ?_; (repeat (go_big_quiet_step (first | (go_at_call 70; exact Calls_ext (s_corner _ _ ps _ _ (hS.ext (ExtOf.ext _)) (by omega) hl (by omega) (by omega))) | (go_at_call 69; exact Calls_ext (s_turn _ _ _ _ _ _ _))))); refine wpQuiet_nil ?_; intro wq hxwq; obtain ⟨hcwq, hfwq⟩ := hxwq.rules; have hswq := hxwq.size; (try simp at hswq))
          go_wp2
          go_roundw
          case rel => exact ⟨k + 1, true, v, by omega, by go_num, rfl, rfl, HT1, by (repeat (first | with_reducible exact Ext.refl _ | with_reducible assumption | ((with_reducible apply Src.ext); with_reducible assumption) | with_reducible refine Ext.alloc ?_ _ | with_reducible refine Ext.drew ?_ | with_reducible refine Ext.drewN ?_ _ | ((with_reducible refine Ext.setCell' ?_ ?_ _); solve | omega | simp | (simp; omega)) | (with_reducible refine Ext.trans ?_ (by with_reducible assumption))))⟩
          case measure => simp [intOf]; omega
        · have HT1 := Lib.hid (HT.out.right ht)
          have ht' : ¬ 0 < turnW (ptx ps k) (ptz ps k) (ptx ps (k + 1)) (ptz ps (k + 1)) (ptx ps (k + 2)) (ptz ps (k + 2)) := ht
          go_wp2
          (refine wp_region_ext (by kernel_rfl) (by kernel_rfl) ?_; (repeat (go_big_quiet_step (first | (go_at_call 70; exact Calls_ext (s_corner _ _ ps _ _ (hS.ext (ExtOf.ext _)) (by omega) hl (by omega) (by omega))) | (go_at_call 69; exact Calls_ext (s_turn _ _ _ _ _ _ _))))); refine wpQuiet_nil ?_; intro wq hxwq; obtain ⟨hcwq, hfwq⟩ := hxwq.rules; have hswq := hxwq.size; (try simp at hswq))
          go_wp2
          go_roundw
          case rel => exact ⟨k + 1, u, true, by omega, by go_num, rfl, rfl, HT1, by (repeat (first | with_reducible exact Ext.refl _ | with_reducible assumption | ((with_reducible apply Src.ext); with_reducible assumption) | with_reducible refine Ext.alloc ?_ _ | with_reducible refine Ext.drew ?_ | with_reducible refine Ext.drewN ?_ _ | ((with_reducible refine Ext.setCell' ?_ ?_ _); solve | omega | simp | (simp; omega)) | (with_reducible refine Ext.trans ?_ (by with_reducible assumption))))⟩
          case measure => simp [intOf]; omega
      · obtain rfl : k = ps.length := by omega
        have hcv := HT.out.conv HR.out
        have HCV := Lib.hid hcv
        clear hcv
        go_wp2
        go_ret2
        exact ⟨by rw [← HCV.out]; rfl, by (repeat (first | with_reducible exact Ext.refl _ | with_reducible assumption | ((with_reducible apply Src.ext); with_reducible assumption) | with_reducible refine Ext.alloc ?_ _ | with_reducible refine Ext.drew ?_ | with_reducible refine Ext.drewN ?_ _ | ((with_reducible refine Ext.setCell' ?_ ?_ _); solve | omega | simp | (simp; omega)) | (with_reducible refine Ext.trans ?_ (by with_reducible assumption))))⟩
  · have hr' : ringB ps = false := Bool.eq_false_iff.2 hr
    rw [ringC_no hr', show ifB (ringB ps) (convB ps) = false from by simp [ifB, hr']]
    have hrb : ∀ W, SlAt W 2 encP A ps → Calls Try.prog 59 #[.slice A ps.length c] W fun e w' => e = .returned (.bool false) ∧ Ext W w' := fun W h => as_bool (s_IsRing _ _ ps _ h hl) hr'
    have HRB := Lib.hid hrb
    clear hrb hr hr'
    go_enter Try.func20, Try.ntmps20
    (go_wp2_with fail; refine (HRB.out _ h).mono ?_; rintro e w1 ⟨rfl, hx1⟩; obtain ⟨hc1, hf1⟩ := hx1.rules; have hs1 := hx1.size; (try simp at hs1))
    go_wp2
    go_ret2
    exact ⟨rfl, by (repeat (first | with_reducible exact Ext.refl _ | with_reducible assumption | ((with_reducible apply Src.ext); with_reducible assumption) | with_reducible refine Ext.alloc ?_ _ | with_reducible refine Ext.drew ?_ | with_reducible refine Ext.drewN ?_ _ | ((with_reducible refine Ext.setCell' ?_ ?_ _); solve | omega | simp | (simp; omega)) | (with_reducible refine Ext.trans ?_ (by with_reducible assumption))))⟩
end Go.Proofs.Yteppjdoggjcdoaa
