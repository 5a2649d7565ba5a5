/- Contracts of the splitting of an area, walked over the translation. -/
import Derived.Test.YthhkmkhilnglkaaSB
import Derived.Deep.RegionHeld3
import Derived.Deep.DeepCutAuto
import Derived.RegionTactic
import Derived.BigRegion
import Derived.WalkLawsBesides
import Derived.WalkSpells
import Derived.Lib.MinMax
import Derived.Outline
namespace Go.Proofs.Ythhkmkhilnglkaa
open Go.RowKit
attribute [local go_sem] ExtOf.cell ExtOf.frozen

set_option maxHeartbeats 3200000 in
theorem i_Split_no (A : Option Addr) (c : Nat) (ps : List (Int × Int)) (a b : Int) (w : World) (h : SlAt w 2 encP A ps) (hl : ps.length ≤ 1048576) (hc : ps.length ≤ c) (hr : ringB ps = false) :
    Calls Try.prog 64 #[.slice A ps.length c, .int .i64 a, .int .i64 b] w fun e w' => ∃ v1 v2 m, e = .returned (.tuple #[v1, v2, .int .i64 (saC ps a b)]) ∧ OwP w' w.heap.size v1 (sa1 ps a b) ∧ OwP w' m v2 (sa2 ps a b) ∧ (∀ q, v1.ownBlock = some q → q < m) ∧ w.heap.size ≤ m ∧ Ext w w' := by
    have hrb : ∀ W, SlAt W 2 encP A ps → Calls Try.prog 73 #[.slice A ps.length c] W fun e w' => e = .returned (.bool false) ∧ Ext W w' := fun W h => as_bool (i_IsRing _ _ ps _ h hl hc) hr
    have HRB := Lib.hid hrb
    have hsc : saC ps a b = 1 := by unfold saC; rw [hr]; rfl
    have HSC := Lib.hid hsc
    clear hrb hsc
    go_enter Try.func64, Try.ntmps64
    (go_wp2_with fail; refine (HRB.out _ h).mono ?_; rintro e w1 ⟨rfl, hx1⟩; obtain ⟨hc1, hf1⟩ := hx1.rules; have hs1 := hx1.size; (try simp at hs1))
    go_wp2
    go_ret3
    refine ⟨_, _, w.heap.size, by rw [HSC.out]; rfl, ?_, ?_, ?_, Nat.le_refl _, by (repeat (first | with_reducible exact Ext.refl _ | with_reducible assumption | ((with_reducible apply Src.ext); with_reducible assumption) | with_reducible refine Ext.alloc ?_ _ | with_reducible refine Ext.drew ?_ | with_reducible refine Ext.drewN ?_ _ | ((with_reducible refine Ext.setCell' ?_ ?_ _); solve | omega | simp | (simp; omega)) | (with_reducible refine Ext.trans ?_ (by with_reducible assumption))))⟩
    · rw [show sa1 ps a b = [] by unfold sa1; rw [HSC.out]; rfl]; exact Own.nil _ _
    · rw [show sa2 ps a b = [] by unfold sa2; rw [HSC.out]; rfl]; exact Own.nil _ _
    · intro q hq; cases hq

set_option maxHeartbeats 3200000 in
theorem i_Split_range (A : Option Addr) (c : Nat) (ps : List (Int × Int)) (a b : Int) (w : World) (h : SlAt w 2 encP A ps) (hl : ps.length ≤ 1048576) (hc : ps.length ≤ c) (hr : ringB ps = true) (hi : ¬ inR ps.length a b) :
    Calls Try.prog 64 #[.slice A ps.length c, .int .i64 a, .int .i64 b] w fun e w' => ∃ v1 v2 m, e = .returned (.tuple #[v1, v2, .int .i64 (saC ps a b)]) ∧ OwP w' w.heap.size v1 (sa1 ps a b) ∧ OwP w' m v2 (sa2 ps a b) ∧ (∀ q, v1.ownBlock = some q → q < m) ∧ w.heap.size ≤ m ∧ Ext w w' := by
    have hrb : ∀ W, SlAt W 2 encP A ps → Calls Try.prog 73 #[.slice A ps.length c] W fun e w' => e = .returned (.bool true) ∧ Ext W w' := fun W h => as_bool (i_IsRing _ _ ps _ h hl hc) hr
    have HRB := Lib.hid hrb
    have hsc : saC ps a b = 2 := by unfold saC; rw [if_pos hr, if_neg hi]
    have HSC := Lib.hid hsc
    unfold inR at hi
    have h12 := (ring_facts hr).2.1
    clear hrb hsc

    by_cases hb : inB b 0 ((ps.length : Int) - 1) = true
    · have ha : inB a 0 (b - 1) = false := by simp [inB] at hb ⊢; omega
      have hb0 : 0 ≤ b ∧ b ≤ 12 := by simp [inB] at hb; omega
      go_enter Try.func64, Try.ntmps64
      (go_wp2_with fail; refine (HRB.out _ h).mono ?_; rintro e w1 ⟨rfl, hx1⟩; obtain ⟨hc1, hf1⟩ := hx1.rules; have hs1 := hx1.size; (try simp at hs1))
      go_wp2_with (first | (go_at_call 114; refine (i_length _ _ _ _ (by omega)).mono ?_; rintro e w' ⟨rfl, rfl⟩) | (go_at_call 113; refine (within_any _ _ _ _).mono ?_; rintro e w' ⟨rfl, rfl⟩; first | rw [hb] | rw [ha]))
      go_wp2
      go_ret3
      refine ⟨_, _, w.heap.size, by rw [HSC.out]; rfl, ?_, ?_, ?_, Nat.le_refl _, by (repeat (first | with_reducible exact Ext.refl _ | with_reducible assumption | ((with_reducible apply Src.ext); with_reducible assumption) | with_reducible refine Ext.alloc ?_ _ | with_reducible refine Ext.drew ?_ | with_reducible refine Ext.drewN ?_ _ | ((with_reducible refine Ext.setCell' ?_ ?_ _); solve | omega | simp | (simp; omega)) | (with_reducible refine Ext.trans ?_ (by with_reducible assumption))))⟩
      · rw [show sa1 ps a b = [] by unfold sa1; rw [HSC.out]; rfl]; exact Own.nil _ _
      · rw [show sa2 ps a b = [] by unfold sa2; rw [HSC.out]; rfl]; exact Own.nil _ _
      · intro q hq; cases hq
    · have hb' : inB b 0 ((ps.length : Int) - 1) = false := Bool.eq_false_iff.2 hb
      clear hb
      go_enter Try.func64, Try.ntmps64
      (go_wp2_with fail; refine (HRB.out _ h).mono ?_; rintro e w1 ⟨rfl, hx1⟩; obtain ⟨hc1, hf1⟩ := hx1.rules; have hs1 := hx1.size; (try simp at hs1))
      go_wp2_with (first | (go_at_call 114; refine (i_length _ _ _ _ (by omega)).mono ?_; rintro e w' ⟨rfl, rfl⟩) | (go_at_call 113; refine (within_any _ _ _ _).mono ?_; rintro e w' ⟨rfl, rfl⟩; rw [hb']))
      go_wp2
      go_ret3
      refine ⟨_, _, w.heap.size, by rw [HSC.out]; rfl, ?_, ?_, ?_, Nat.le_refl _, by (repeat (first | with_reducible exact Ext.refl _ | with_reducible assumption | ((with_reducible apply Src.ext); with_reducible assumption) | with_reducible refine Ext.alloc ?_ _ | with_reducible refine Ext.drew ?_ | with_reducible refine Ext.drewN ?_ _ | ((with_reducible refine Ext.setCell' ?_ ?_ _); solve | omega | simp | (simp; omega)) | (with_reducible refine Ext.trans ?_ (by with_reducible assumption))))⟩
      · rw [show sa1 ps a b = [] by unfold sa1; rw [HSC.out]; rfl]; exact Own.nil _ _
      · rw [show sa2 ps a b = [] by unfold sa2; rw [HSC.out]; rfl]; exact Own.nil _ _
      · intro q hq; cases hq

set_option maxHeartbeats 3200000 in
theorem s_Split_no (A : Option Addr) (c : Nat) (ps : List (Int × Int)) (a b : Int) (w : World) (h : SlAt w 2 encP A ps) (hl : ps.length ≤ 1048576) (hr : ringB ps = false) :
    Calls Try.prog 63 #[.slice A ps.length c, .int .i64 a, .int .i64 b] w fun e w' => ∃ v1 v2 m, e = .returned (.tuple #[v1, v2, .int .i64 (saC ps a b)]) ∧ OwP w' w.heap.size v1 (sa1 ps a b) ∧ OwP w' m v2 (sa2 ps a b) ∧ (∀ q, v1.ownBlock = some q → q < m) ∧ w.heap.size ≤ m ∧ Ext w w' := by
    have hrb : ∀ W, SlAt W 2 encP A ps → Calls Try.prog 70 #[.slice A ps.length c] W fun e w' => e = .returned (.bool false) ∧ Ext W w' := fun W h => as_bool (s_IsRing _ _ ps _ h hl) hr
    have HRB := Lib.hid hrb
    have hsc : saC ps a b = 1 := by unfold saC; rw [hr]; rfl
    have HSC := Lib.hid hsc
    clear hrb hsc
    go_enter Try.func63, Try.ntmps63
    (go_wp2_with fail; refine (HRB.out _ h).mono ?_; rintro e w1 ⟨rfl, hx1⟩; obtain ⟨hc1, hf1⟩ := hx1.rules; have hs1 := hx1.size; (try simp at hs1))
    go_wp2
    go_ret3
    refine ⟨_, _, w.heap.size, by rw [HSC.out]; rfl, ?_, ?_, ?_, Nat.le_refl _, by (repeat (first | with_reducible exact Ext.refl _ | with_reducible assumption | ((with_reducible apply Src.ext); with_reducible assumption) | with_reducible refine Ext.alloc ?_ _ | with_reducible refine Ext.drew ?_ | with_reducible refine Ext.drewN ?_ _ | ((with_reducible refine Ext.setCell' ?_ ?_ _); solve | omega | simp | (simp; omega)) | (with_reducible refine Ext.trans ?_ (by with_reducible assumption))))⟩
    · rw [show sa1 ps a b = [] by unfold sa1; rw [HSC.out]; rfl]; exact Own.nil _ _
    · rw [show sa2 ps a b = [] by unfold sa2; rw [HSC.out]; rfl]; exact Own.nil _ _
    · intro q hq; cases hq

set_option maxHeartbeats 3200000 in
theorem s_Split_range (A : Option Addr) (c : Nat) (ps : List (Int × Int)) (a b : Int) (w : World) (h : SlAt w 2 encP A ps) (hl : ps.length ≤ 1048576) (hr : ringB ps = true) (hi : ¬ inR ps.length a b) :
    Calls Try.prog 63 #[.slice A ps.length c, .int .i64 a, .int .i64 b] w fun e w' => ∃ v1 v2 m, e = .returned (.tuple #[v1, v2, .int .i64 (saC ps a b)]) ∧ OwP w' w.heap.size v1 (sa1 ps a b) ∧ OwP w' m v2 (sa2 ps a b) ∧ (∀ q, v1.ownBlock = some q → q < m) ∧ w.heap.size ≤ m ∧ Ext w w' := by
    have hrb : ∀ W, SlAt W 2 encP A ps → Calls Try.prog 70 #[.slice A ps.length c] W fun e w' => e = .returned (.bool true) ∧ Ext W w' := fun W h => as_bool (s_IsRing _ _ ps _ h hl) hr
    have HRB := Lib.hid hrb
    have hsc : saC ps a b = 2 := by unfold saC; rw [if_pos hr, if_neg hi]
    have HSC := Lib.hid hsc
    unfold inR at hi
    have h12 := (ring_facts hr).2.1
    clear hrb hsc

    rcases (show a < 0 ∨ (0 ≤ a ∧ b ≤ a) ∨ (0 ≤ a ∧ a < b ∧ (ps.length : Int) ≤ b) by omega) with h1 | h1 | h1
    all_goals
      go_enter Try.func63, Try.ntmps63
      (go_wp2_with fail; refine (HRB.out _ h).mono ?_; rintro e w1 ⟨rfl, hx1⟩; obtain ⟨hc1, hf1⟩ := hx1.rules; have hs1 := hx1.size; (try simp at hs1))
      go_wp2
      go_ret3
      refine ⟨_, _, w.heap.size, by rw [HSC.out]; rfl, ?_, ?_, ?_, Nat.le_refl _, by (repeat (first | with_reducible exact Ext.refl _ | with_reducible assumption | ((with_reducible apply Src.ext); with_reducible assumption) | with_reducible refine Ext.alloc ?_ _ | with_reducible refine Ext.drew ?_ | with_reducible refine Ext.drewN ?_ _ | ((with_reducible refine Ext.setCell' ?_ ?_ _); solve | omega | simp | (simp; omega)) | (with_reducible refine Ext.trans ?_ (by with_reducible assumption))))⟩
      · rw [show sa1 ps a b = [] by unfold sa1; rw [HSC.out]; rfl]; exact Own.nil _ _
      · rw [show sa2 ps a b = [] by unfold sa2; rw [HSC.out]; rfl]; exact Own.nil _ _
      · intro q hq; cases hq

theorem i_SplitArea (A : Option Addr) (c : Nat) (ps : List (Int × Int)) (a b : Int) (w : World) (h : SlAt w 2 encP A ps) (hl : ps.length ≤ 1048576) (hc : ps.length ≤ c) :
    Calls Try.prog 64 #[.slice A ps.length c, .int .i64 a, .int .i64 b] w fun e w' => ∃ v1 v2 m, e = .returned (.tuple #[v1, v2, .int .i64 (saC ps a b)]) ∧ OwP w' w.heap.size v1 (sa1 ps a b) ∧ OwP w' m v2 (sa2 ps a b) ∧ (∀ q, v1.ownBlock = some q → q < m) ∧ w.heap.size ≤ m ∧ Ext w w' := by
  by_cases hr : ringB ps = true
  · by_cases hi : inR ps.length a b
    · obtain ⟨h1, h2, h3⟩ := hi
      obtain ⟨x, rfl⟩ : ∃ n : Nat, a = n := ⟨a.toNat, by omega⟩
      obtain ⟨y, rfl⟩ : ∃ n : Nat, b = n := ⟨b.toNat, by omega⟩
      exact i_Split_go A c ps x y w h hl hc hr (by omega) (by omega)
    · exact i_Split_range A c ps a b w h hl hc hr hi
  · exact i_Split_no A c ps a b w h hl hc (Bool.eq_false_iff.2 hr)

end Go.Proofs.Ythhkmkhilnglkaa
