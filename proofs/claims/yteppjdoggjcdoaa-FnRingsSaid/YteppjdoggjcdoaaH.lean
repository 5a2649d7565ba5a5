/- Contracts of the rings: SideOf and its law, walked over the translation. -/
import Derived.Test.YteppjdoggjcdoaaY
import Derived.Test.YteppjdoggjcdoaaG
import Derived.Deep.RegionHeld3
import Derived.Test.YteppjdoggjcdoaaW
import Derived.Deep.DeepCutAuto
import Derived.RegionTactic
import Derived.BigRegion
import Derived.WalkLawsBesides
import Derived.WalkSpells
import Derived.Lib.MinMax
import Derived.Outline
namespace Go.Proofs.Yteppjdoggjcdoaa
open Go.RowKit
attribute [local go_sem] ExtOf.cell ExtOf.frozen







noncomputable def sideB (ps : List (Int × Int)) (x z : Int) : Bool := ringB ps && okP x z
noncomputable def sideC (ps : List (Int × Int)) (x z : Int) : Int := if sideB ps x z = true then 0 else 1
theorem sideC_yes {ps : List (Int × Int)} {x z : Int} (h : sideB ps x z = true) : sideC ps x z = 0 := by simp [sideC, h]
theorem sideC_no {ps : List (Int × Int)} {x z : Int} (h : sideB ps x z = false) : sideC ps x z = 1 := by simp [sideC, h]

set_option maxHeartbeats 1600000 in
theorem i_SideOf (A : Option Addr) (c : Nat) (ps : List (Int × Int)) (x z : Int) (w : World) (h : SlAt w 2 encP A ps) (hl : ps.length ≤ 1048576) (hc : ps.length ≤ c) :
    Calls Try.prog 22 #[.slice A ps.length c, .agg #[.int .i64 x, .int .i64 z]] w fun e w' => e = .returned (.tuple #[.int .i64 (ifI (sideB ps x z) (sideZ ps x z)), .int .i64 (sideC ps x z)]) ∧ Ext w w' := by
  have h1 := h.ext (show Ext w (w.alloc (.cells #[.int .i64 x, .int .i64 z] 33)) by (repeat (first | with_reducible exact Ext.refl _ | with_reducible assumption | ((with_reducible apply Src.ext); with_reducible assumption) | with_reducible refine Ext.alloc ?_ _ | with_reducible refine Ext.drew ?_ | with_reducible refine Ext.drewN ?_ _ | ((with_reducible refine Ext.setCell' ?_ ?_ _); solve | omega | simp | (simp; omega)) | (with_reducible refine Ext.trans ?_ (by with_reducible assumption)))))
  by_cases hr : ringB ps = true
  · by_cases hp : okP x z = true
    · have hs : sideB ps x z = true := by simp [sideB, hr, hp]
      rw [sideC_yes hs, show ifI (sideB ps x z) (sideZ ps x z) = sideZ ps x z from by simp [ifI, hs]]
      have hrb : ∀ W, SlAt W 2 encP A ps → Calls Try.prog 57 #[.slice A ps.length c] W fun e w' => e = .returned (.bool true) ∧ Ext W w' := fun W h => as_bool (i_IsRing _ _ ps _ h hl hc) hr
      have hpb : ∀ W, Calls Try.prog 72 #[.agg #[.int .i64 x, .int .i64 z]] W fun e w' => e = .returned (.bool true) ∧ Ext W w' := fun W => as_bool (i_IsPoint _ _ _) hp
      obtain ⟨h0, hl12, ho⟩ := ring_facts hr
      have HO := Lib.hid ho
      have HP := Lib.hid hp
      have HRB := Lib.hid hrb
      have HPB := Lib.hid hpb
      clear hrb hpb hr hp hs ho
      go_enter Try.func22, Try.ntmps22
      go_wp2_with (first | (go_at_call 57; refine (HRB.out _ (h1.ext (by (repeat (first | with_reducible exact Ext.refl _ | with_reducible assumption | ((with_reducible apply Src.ext); with_reducible assumption) | with_reducible refine Ext.alloc ?_ _ | with_reducible refine Ext.drew ?_ | with_reducible refine Ext.drewN ?_ _ | ((with_reducible refine Ext.setCell' ?_ ?_ _); solve | omega | simp | (simp; omega)) | (with_reducible refine Ext.trans ?_ (by with_reducible assumption))))))).mono ?_; rintro e w1 ⟨rfl, hx1⟩; obtain ⟨hc1, hf1⟩ := hx1.rules; have hs1 := hx1.size; (try simp at hs1); have := (show w.heap.size < w1.heap.size from by omega)) | (go_at_call 72; refine (HPB.out _).mono ?_; rintro e w2 ⟨rfl, hx2⟩; obtain ⟨hc2, hf2⟩ := hx2.rules; have hs2 := hx2.size; (try simp at hs2); have := (show w.heap.size < w2.heap.size from by omega)) | (go_at_call 73; refine (i_side _ _ ps _ _ _ (h1.ext (by (repeat (first | with_reducible exact Ext.refl _ | with_reducible assumption | ((with_reducible apply Src.ext); with_reducible assumption) | with_reducible refine Ext.alloc ?_ _ | with_reducible refine Ext.drew ?_ | with_reducible refine Ext.drewN ?_ _ | ((with_reducible refine Ext.setCell' ?_ ?_ _); solve | omega | simp | (simp; omega)) | (with_reducible refine Ext.trans ?_ (by with_reducible assumption)))))) h0 (by omega)).mono ?_; rintro e w3 ⟨rfl, hx3⟩; obtain ⟨hc3, hf3⟩ := hx3.rules; have hs3 := hx3.size; (try simp at hs3); have := (show w.heap.size < w3.heap.size from by omega)))
      go_ret2
      exact ⟨rfl, by (repeat (first | with_reducible exact Ext.refl _ | with_reducible assumption | ((with_reducible apply Src.ext); with_reducible assumption) | with_reducible refine Ext.alloc ?_ _ | with_reducible refine Ext.drew ?_ | with_reducible refine Ext.drewN ?_ _ | ((with_reducible refine Ext.setCell' ?_ ?_ _); solve | omega | simp | (simp; omega)) | (with_reducible refine Ext.trans ?_ (by with_reducible assumption))))⟩
    · have hp := Bool.eq_false_iff.2 hp
      have hs : sideB ps x z = false := by simp [sideB, hp]
      rw [sideC_no hs, show ifI (sideB ps x z) (sideZ ps x z) = 0 from by simp [ifI, hs]]
      have hrb : ∀ W, SlAt W 2 encP A ps → Calls Try.prog 57 #[.slice A ps.length c] W fun e w' => e = .returned (.bool true) ∧ Ext W w' := fun W h => as_bool (i_IsRing _ _ ps _ h hl hc) hr
      have hpb : ∀ W, Calls Try.prog 72 #[.agg #[.int .i64 x, .int .i64 z]] W fun e w' => e = .returned (.bool false) ∧ Ext W w' := fun W => as_bool (i_IsPoint _ _ _) hp
      have HRB := Lib.hid hrb
      have HPB := Lib.hid hpb
      clear hrb hpb hr hp hs
      go_enter Try.func22, Try.ntmps22
      go_wp2_with (first | (go_at_call 57; refine (HRB.out _ (h1.ext (by (repeat (first | with_reducible exact Ext.refl _ | with_reducible assumption | ((with_reducible apply Src.ext); with_reducible assumption) | with_reducible refine Ext.alloc ?_ _ | with_reducible refine Ext.drew ?_ | with_reducible refine Ext.drewN ?_ _ | ((with_reducible refine Ext.setCell' ?_ ?_ _); solve | omega | simp | (simp; omega)) | (with_reducible refine Ext.trans ?_ (by with_reducible assumption))))))).mono ?_; rintro e w1 ⟨rfl, hx1⟩; obtain ⟨hc1, hf1⟩ := hx1.rules; have hs1 := hx1.size; (try simp at hs1); have := (show w.heap.size < w1.heap.size from by omega)) | (go_at_call 72; refine (HPB.out _).mono ?_; rintro e w2 ⟨rfl, hx2⟩; obtain ⟨hc2, hf2⟩ := hx2.rules; have hs2 := hx2.size; (try simp at hs2); have := (show w.heap.size < w2.heap.size from by omega)) | (go_at_call 73; refine (i_side _ _ ps _ _ _ (h1.ext (by (repeat (first | with_reducible exact Ext.refl _ | with_reducible assumption | ((with_reducible apply Src.ext); with_reducible assumption) | with_reducible refine Ext.alloc ?_ _ | with_reducible refine Ext.drew ?_ | with_reducible refine Ext.drewN ?_ _ | ((with_reducible refine Ext.setCell' ?_ ?_ _); solve | omega | simp | (simp; omega)) | (with_reducible refine Ext.trans ?_ (by with_reducible assumption)))))) h0 (by omega)).mono ?_; rintro e w3 ⟨rfl, hx3⟩; obtain ⟨hc3, hf3⟩ := hx3.rules; have hs3 := hx3.size; (try simp at hs3); have := (show w.heap.size < w3.heap.size from by omega)))
      go_ret2
      exact ⟨rfl, by (repeat (first | with_reducible exact Ext.refl _ | with_reducible assumption | ((with_reducible apply Src.ext); with_reducible assumption) | with_reducible refine Ext.alloc ?_ _ | with_reducible refine Ext.drew ?_ | with_reducible refine Ext.drewN ?_ _ | ((with_reducible refine Ext.setCell' ?_ ?_ _); solve | omega | simp | (simp; omega)) | (with_reducible refine Ext.trans ?_ (by with_reducible assumption))))⟩
  · have hr := Bool.eq_false_iff.2 hr
    have hs : sideB ps x z = false := by simp [sideB, hr]
    rw [sideC_no hs, show ifI (sideB ps x z) (sideZ ps x z) = 0 from by simp [ifI, hs]]
    have hrb : ∀ W, SlAt W 2 encP A ps → Calls Try.prog 57 #[.slice A ps.length c] W fun e w' => e = .returned (.bool false) ∧ Ext W w' := fun W h => as_bool (i_IsRing _ _ ps _ h hl hc) hr
    have HRB := Lib.hid hrb
    clear hrb hr hs
    go_enter Try.func22, Try.ntmps22
    go_wp2_with (first | (go_at_call 57; refine (HRB.out _ (h1.ext (by (repeat (first | with_reducible exact Ext.refl _ | with_reducible assumption | ((with_reducible apply Src.ext); with_reducible assumption) | with_reducible refine Ext.alloc ?_ _ | with_reducible refine Ext.drew ?_ | with_reducible refine Ext.drewN ?_ _ | ((with_reducible refine Ext.setCell' ?_ ?_ _); solve | omega | simp | (simp; omega)) | (with_reducible refine Ext.trans ?_ (by with_reducible assumption))))))).mono ?_; rintro e w1 ⟨rfl, hx1⟩; obtain ⟨hc1, hf1⟩ := hx1.rules; have hs1 := hx1.size; (try simp at hs1); have := (show w.heap.size < w1.heap.size from by omega)) | (go_at_call 72; refine (HPB.out _).mono ?_; rintro e w2 ⟨rfl, hx2⟩; obtain ⟨hc2, hf2⟩ := hx2.rules; have hs2 := hx2.size; (try simp at hs2); have := (show w.heap.size < w2.heap.size from by omega)) | (go_at_call 73; refine (i_side _ _ ps _ _ _ (h1.ext (by (repeat (first | with_reducible exact Ext.refl _ | with_reducible assumption | ((with_reducible apply Src.ext); with_reducible assumption) | with_reducible refine Ext.alloc ?_ _ | with_reducible refine Ext.drew ?_ | with_reducible refine Ext.drewN ?_ _ | ((with_reducible refine Ext.setCell' ?_ ?_ _); solve | omega | simp | (simp; omega)) | (with_reducible refine Ext.trans ?_ (by with_reducible assumption)))))) h0 (by omega)).mono ?_; rintro e w3 ⟨rfl, hx3⟩; obtain ⟨hc3, hf3⟩ := hx3.rules; have hs3 := hx3.size; (try simp at hs3); have := (show w.heap.size < w3.heap.size from by omega)))
    go_ret2
    exact ⟨rfl, by (repeat (first | with_reducible exact Ext.refl _ | with_reducible assumption | ((with_reducible apply Src.ext); with_reducible assumption) | with_reducible refine Ext.alloc ?_ _ | with_reducible refine Ext.drew ?_ | with_reducible refine Ext.drewN ?_ _ | ((with_reducible refine Ext.setCell' ?_ ?_ _); solve | omega | simp | (simp; omega)) | (with_reducible refine Ext.trans ?_ (by with_reducible assumption))))⟩

set_option maxHeartbeats 1600000 in
theorem s_SideOf (A : Option Addr) (c : Nat) (ps : List (Int × Int)) (x z : Int) (w : World) (h : SlAt w 2 encP A ps) (hl : ps.length ≤ 1048576) :
    Calls Try.prog 23 #[.slice A ps.length c, .agg #[.int .i64 x, .int .i64 z]] w fun e w' => e = .returned (.tuple #[.int .i64 (ifI (sideB ps x z) (sideZ ps x z)), .int .i64 (sideC ps x z)]) ∧ Ext w w' := by
  have h1 := h.ext (show Ext w (w.alloc (.cells #[.int .i64 x, .int .i64 z] 33)) by (repeat (first | with_reducible exact Ext.refl _ | with_reducible assumption | ((with_reducible apply Src.ext); with_reducible assumption) | with_reducible refine Ext.alloc ?_ _ | with_reducible refine Ext.drew ?_ | with_reducible refine Ext.drewN ?_ _ | ((with_reducible refine Ext.setCell' ?_ ?_ _); solve | omega | simp | (simp; omega)) | (with_reducible refine Ext.trans ?_ (by with_reducible assumption)))))
  by_cases hr : ringB ps = true
  · by_cases hp : okP x z = true
    · have hs : sideB ps x z = true := by simp [sideB, hr, hp]
      rw [sideC_yes hs, show ifI (sideB ps x z) (sideZ ps x z) = sideZ ps x z from by simp [ifI, hs]]
      have hrb : ∀ W, SlAt W 2 encP A ps → Calls Try.prog 59 #[.slice A ps.length c] W fun e w' => e = .returned (.bool true) ∧ Ext W w' := fun W h => as_bool (s_IsRing _ _ ps _ h hl) hr
      have hpb : ∀ W, Calls Try.prog 74 #[.agg #[.int .i64 x, .int .i64 z]] W fun e w' => e = .returned (.bool true) ∧ Ext W w' := fun W => as_bool (s_IsPoint _ _ _) hp
      obtain ⟨h0, hl12, ho⟩ := ring_facts hr
      have HO := Lib.hid ho
      have HP := Lib.hid hp
      have HRB := Lib.hid hrb
      have HPB := Lib.hid hpb
      clear hrb hpb hr hp hs ho
      go_enter Try.func23, Try.ntmps23
      go_wp2_with (first | (go_at_call 59; refine (HRB.out _ (h1.ext (by (repeat (first | with_reducible exact Ext.refl _ | with_reducible assumption | ((with_reducible apply Src.ext); with_reducible assumption) | with_reducible refine Ext.alloc ?_ _ | with_reducible refine Ext.drew ?_ | with_reducible refine Ext.drewN ?_ _ | ((with_reducible refine Ext.setCell' ?_ ?_ _); solve | omega | simp | (simp; omega)) | (with_reducible refine Ext.trans ?_ (by with_reducible assumption))))))).mono ?_; rintro e w1 ⟨rfl, hx1⟩; obtain ⟨hc1, hf1⟩ := hx1.rules; have hs1 := hx1.size; (try simp at hs1); have := (show w.heap.size < w1.heap.size from by omega)) | (go_at_call 74; refine (HPB.out _).mono ?_; rintro e w2 ⟨rfl, hx2⟩; obtain ⟨hc2, hf2⟩ := hx2.rules; have hs2 := hx2.size; (try simp at hs2); have := (show w.heap.size < w2.heap.size from by omega)) | (go_at_call 75; refine (s_side _ _ ps _ _ _ (h1.ext (by (repeat (first | with_reducible exact Ext.refl _ | with_reducible assumption | ((with_reducible apply Src.ext); with_reducible assumption) | with_reducible refine Ext.alloc ?_ _ | with_reducible refine Ext.drew ?_ | with_reducible refine Ext.drewN ?_ _ | ((with_reducible refine Ext.setCell' ?_ ?_ _); solve | omega | simp | (simp; omega)) | (with_reducible refine Ext.trans ?_ (by with_reducible assumption)))))) h0 (by omega) HO.out HP.out).mono ?_; rintro e w3 ⟨rfl, hx3⟩; obtain ⟨hc3, hf3⟩ := hx3.rules; have hs3 := hx3.size; (try simp at hs3); have := (show w.heap.size < w3.heap.size from by omega)))
      go_ret2
      exact ⟨rfl, by (repeat (first | with_reducible exact Ext.refl _ | with_reducible assumption | ((with_reducible apply Src.ext); with_reducible assumption) | with_reducible refine Ext.alloc ?_ _ | with_reducible refine Ext.drew ?_ | with_reducible refine Ext.drewN ?_ _ | ((with_reducible refine Ext.setCell' ?_ ?_ _); solve | omega | simp | (simp; omega)) | (with_reducible refine Ext.trans ?_ (by with_reducible assumption))))⟩
    · have hp := Bool.eq_false_iff.2 hp
      have hs : sideB ps x z = false := by simp [sideB, hp]
      rw [sideC_no hs, show ifI (sideB ps x z) (sideZ ps x z) = 0 from by simp [ifI, hs]]
      have hrb : ∀ W, SlAt W 2 encP A ps → Calls Try.prog 59 #[.slice A ps.length c] W fun e w' => e = .returned (.bool true) ∧ Ext W w' := fun W h => as_bool (s_IsRing _ _ ps _ h hl) hr
      have hpb : ∀ W, Calls Try.prog 74 #[.agg #[.int .i64 x, .int .i64 z]] W fun e w' => e = .returned (.bool false) ∧ Ext W w' := fun W => as_bool (s_IsPoint _ _ _) hp
      have HRB := Lib.hid hrb
      have HPB := Lib.hid hpb
      clear hrb hpb hr hp hs
      go_enter Try.func23, Try.ntmps23
      go_wp2_with (first | (go_at_call 59; refine (HRB.out _ (h1.ext (by (repeat (first | with_reducible exact Ext.refl _ | with_reducible assumption | ((with_reducible apply Src.ext); with_reducible assumption) | with_reducible refine Ext.alloc ?_ _ | with_reducible refine Ext.drew ?_ | with_reducible refine Ext.drewN ?_ _ | ((with_reducible refine Ext.setCell' ?_ ?_ _); solve | omega | simp | (simp; omega)) | (with_reducible refine Ext.trans ?_ (by with_reducible assumption))))))).mono ?_; rintro e w1 ⟨rfl, hx1⟩; obtain ⟨hc1, hf1⟩ := hx1.rules; have hs1 := hx1.size; (try simp at hs1); have := (show w.heap.size < w1.heap.size from by omega)) | (go_at_call 74; refine (HPB.out _).mono ?_; rintro e w2 ⟨rfl, hx2⟩; obtain ⟨hc2, hf2⟩ := hx2.rules; have hs2 := hx2.size; (try simp at hs2); have := (show w.heap.size < w2.heap.size from by omega)) | (go_at_call 75; refine (s_side _ _ ps _ _ _ (h1.ext (by (repeat (first | with_reducible exact Ext.refl _ | with_reducible assumption | ((with_reducible apply Src.ext); with_reducible assumption) | with_reducible refine Ext.alloc ?_ _ | with_reducible refine Ext.drew ?_ | with_reducible refine Ext.drewN ?_ _ | ((with_reducible refine Ext.setCell' ?_ ?_ _); solve | omega | simp | (simp; omega)) | (with_reducible refine Ext.trans ?_ (by with_reducible assumption)))))) h0 (by omega) HO.out HP.out).mono ?_; rintro e w3 ⟨rfl, hx3⟩; obtain ⟨hc3, hf3⟩ := hx3.rules; have hs3 := hx3.size; (try simp at hs3); have := (show w.heap.size < w3.heap.size from by omega)))
      go_ret2
      exact ⟨rfl, by (repeat (first | with_reducible exact Ext.refl _ | with_reducible assumption | ((with_reducible apply Src.ext); with_reducible assumption) | with_reducible refine Ext.alloc ?_ _ | with_reducible refine Ext.drew ?_ | with_reducible refine Ext.drewN ?_ _ | ((with_reducible refine Ext.setCell' ?_ ?_ _); solve | omega | simp | (simp; omega)) | (with_reducible refine Ext.trans ?_ (by with_reducible assumption))))⟩
  · have hr := Bool.eq_false_iff.2 hr
    have hs : sideB ps x z = false := by simp [sideB, hr]
    rw [sideC_no hs, show ifI (sideB ps x z) (sideZ ps x z) = 0 from by simp [ifI, hs]]
    have hrb : ∀ W, SlAt W 2 encP A ps → Calls Try.prog 59 #[.slice A ps.length c] W fun e w' => e = .returned (.bool false) ∧ Ext W w' := fun W h => as_bool (s_IsRing _ _ ps _ h hl) hr
    have HRB := Lib.hid hrb
    clear hrb hr hs
    go_enter Try.func23, Try.ntmps23
    go_wp2_with (first | (go_at_call 59; refine (HRB.out _ (h1.ext (by (repeat (first | with_reducible exact Ext.refl _ | with_reducible assumption | ((with_reducible apply Src.ext); with_reducible assumption) | with_reducible refine Ext.alloc ?_ _ | with_reducible refine Ext.drew ?_ | with_reducible refine Ext.drewN ?_ _ | ((with_reducible refine Ext.setCell' ?_ ?_ _); solve | omega | simp | (simp; omega)) | (with_reducible refine Ext.trans ?_ (by with_reducible assumption))))))).mono ?_; rintro e w1 ⟨rfl, hx1⟩; obtain ⟨hc1, hf1⟩ := hx1.rules; have hs1 := hx1.size; (try simp at hs1); have := (show w.heap.size < w1.heap.size from by omega)) | (go_at_call 74; refine (HPB.out _).mono ?_; rintro e w2 ⟨rfl, hx2⟩; obtain ⟨hc2, hf2⟩ := hx2.rules; have hs2 := hx2.size; (try simp at hs2); have := (show w.heap.size < w2.heap.size from by omega)) | (go_at_call 75; refine (s_side _ _ ps _ _ _ (h1.ext (by (repeat (first | with_reducible exact Ext.refl _ | with_reducible assumption | ((with_reducible apply Src.ext); with_reducible assumption) | with_reducible refine Ext.alloc ?_ _ | with_reducible refine Ext.drew ?_ | with_reducible refine Ext.drewN ?_ _ | ((with_reducible refine Ext.setCell' ?_ ?_ _); solve | omega | simp | (simp; omega)) | (with_reducible refine Ext.trans ?_ (by with_reducible assumption)))))) h0 (by omega) HO.out HP.out).mono ?_; rintro e w3 ⟨rfl, hx3⟩; obtain ⟨hc3, hf3⟩ := hx3.rules; have hs3 := hx3.size; (try simp at hs3); have := (show w.heap.size < w3.heap.size from by omega)))
    go_ret2
    exact ⟨rfl, by (repeat (first | with_reducible exact Ext.refl _ | with_reducible assumption | ((with_reducible apply Src.ext); with_reducible assumption) | with_reducible refine Ext.alloc ?_ _ | with_reducible refine Ext.drew ?_ | with_reducible refine Ext.drewN ?_ _ | ((with_reducible refine Ext.setCell' ?_ ?_ _); solve | omega | simp | (simp; omega)) | (with_reducible refine Ext.trans ?_ (by with_reducible assumption))))⟩


end Go.Proofs.Yteppjdoggjcdoaa
