/- Contracts of the rings: SideOf and its law, walked over the translation. -/
import Derived.Test.YthhkmkhilnglkaaY
import Derived.Test.YthhkmkhilnglkaaG
import Derived.Deep.RegionHeld3
import Derived.Test.YthhkmkhilnglkaaW
import Derived.Deep.DeepCutAuto
import Derived.RegionTactic
import Derived.BigRegion
import Derived.WalkLawsBesides
import Derived.WalkSpells
import Derived.Lib.MinMax
import Derived.Outline
namespace Go.Proofs.Ythhkmkhilnglkaa
open Go.RowKit
attribute [local go_sem] ExtOf.cell ExtOf.frozen







noncomputable def sideB (ps : List (Int × Int)) (x z : Int) : Bool := ringB ps && okP x z
noncomputable def sideC (ps : List (Int × Int)) (x z : Int) : Int := if sideB ps x z = true then 0 else 1
theorem sideC_yes {ps : List (Int × Int)} {x z : Int} (h : sideB ps x z = true) : sideC ps x z = 0 := by simp [sideC, h]
theorem sideC_no {ps : List (Int × Int)} {x z : Int} (h : sideB ps x z = false) : sideC ps x z = 1 := by simp [sideC, h]

set_option maxHeartbeats 1600000 in
theorem i_SideOf (A : Option Addr) (c : Nat) (ps : List (Int × Int)) (x z : Int) (w : World) (h : SlAt w 2 encP A ps) (hl : ps.length ≤ 1048576) (hc : ps.length ≤ c) :
    Calls Try.prog 24 #[.slice A ps.length c, .agg #[.int .i64 x, .int .i64 z]] w fun e w' => e = .returned (.tuple #[.int .i64 (ifI (sideB ps x z) (sideZ ps x z)), .int .i64 (sideC ps x z)]) ∧ Ext w w' := by
  have h1 := h.ext (show Ext w (w.alloc (.cells #[.int .i64 x, .int .i64 z] 33)) by (repeat (first | with_reducible exact Ext.refl _ | with_reducible assumption | with_reducible refine Ext.alloc ?_ _ | with_reducible refine Ext.drew ?_ | with_reducible refine Ext.drewN ?_ _ | ((with_reducible refine Ext.setCell' ?_ ?_ _); solve | omega | simp | (simp; omega)) | (with_reducible refine Ext.trans ?_ (by with_reducible assumption)))))
  by_cases hr : ringB ps = true
  · by_cases hp : okP x z = true
    · have hs : sideB ps x z = true := by simp [sideB, hr, hp]
      rw [sideC_yes hs, show ifI (sideB ps x z) (sideZ ps x z) = sideZ ps x z from by simp [ifI, hs]]
      have hrb : ∀ W, SlAt W 2 encP A ps → Calls Try.prog 73 #[.slice A ps.length c] W fun e w' => e = .returned (.bool true) ∧ Ext W w' := fun W h => as_bool (i_IsRing _ _ ps _ h hl hc) hr
      have hpb : ∀ W, Calls Try.prog 81 #[.agg #[.int .i64 x, .int .i64 z]] W fun e w' => e = .returned (.bool true) ∧ Ext W w' := fun W => as_bool (i_IsPoint _ _ _) hp
      obtain ⟨h0, hl12, ho⟩ := ring_facts hr
      have HO := Lib.hid ho
      have HP := Lib.hid hp
      have HRB := Lib.hid hrb
      have HPB := Lib.hid hpb
      clear hrb hpb hr hp hs ho
      go_enter Try.func24, Try.ntmps24
      go_wp2_with (first | (go_at_call 73; refine (HRB.out _ (h1.ext (by (repeat (first | with_reducible exact Ext.refl _ | with_reducible assumption | with_reducible refine Ext.alloc ?_ _ | with_reducible refine Ext.drew ?_ | with_reducible refine Ext.drewN ?_ _ | ((with_reducible refine Ext.setCell' ?_ ?_ _); solve | omega | simp | (simp; omega)) | (with_reducible refine Ext.trans ?_ (by with_reducible assumption))))))).mono ?_; rintro e w1 ⟨rfl, hx1⟩; obtain ⟨hc1, hf1⟩ := hx1.rules; have hs1 := hx1.size; (try simp at hs1); have := (show w.heap.size < w1.heap.size from by omega)) | (go_at_call 81; refine (HPB.out _).mono ?_; rintro e w2 ⟨rfl, hx2⟩; obtain ⟨hc2, hf2⟩ := hx2.rules; have hs2 := hx2.size; (try simp at hs2); have := (show w.heap.size < w2.heap.size from by omega)) | (go_at_call 82; refine (i_side _ _ ps _ _ _ (h1.ext (by (repeat (first | with_reducible exact Ext.refl _ | with_reducible assumption | with_reducible refine Ext.alloc ?_ _ | with_reducible refine Ext.drew ?_ | with_reducible refine Ext.drewN ?_ _ | ((with_reducible refine Ext.setCell' ?_ ?_ _); solve | omega | simp | (simp; omega)) | (with_reducible refine Ext.trans ?_ (by with_reducible assumption)))))) h0 (by omega)).mono ?_; rintro e w3 ⟨rfl, hx3⟩; obtain ⟨hc3, hf3⟩ := hx3.rules; have hs3 := hx3.size; (try simp at hs3); have := (show w.heap.size < w3.heap.size from by omega)))
      go_ret2
      exact ⟨rfl, by (repeat (first | with_reducible exact Ext.refl _ | with_reducible assumption | with_reducible refine Ext.alloc ?_ _ | with_reducible refine Ext.drew ?_ | with_reducible refine Ext.drewN ?_ _ | ((with_reducible refine Ext.setCell' ?_ ?_ _); solve | omega | simp | (simp; omega)) | (with_reducible refine Ext.trans ?_ (by with_reducible assumption))))⟩
    · have hp := Bool.eq_false_iff.2 hp
      have hs : sideB ps x z = false := by simp [sideB, hp]
      rw [sideC_no hs, show ifI (sideB ps x z) (sideZ ps x z) = 0 from by simp [ifI, hs]]
      have hrb : ∀ W, SlAt W 2 encP A ps → Calls Try.prog 73 #[.slice A ps.length c] W fun e w' => e = .returned (.bool true) ∧ Ext W w' := fun W h => as_bool (i_IsRing _ _ ps _ h hl hc) hr
      have hpb : ∀ W, Calls Try.prog 81 #[.agg #[.int .i64 x, .int .i64 z]] W fun e w' => e = .returned (.bool false) ∧ Ext W w' := fun W => as_bool (i_IsPoint _ _ _) hp
      have HRB := Lib.hid hrb
      have HPB := Lib.hid hpb
      clear hrb hpb hr hp hs
      go_enter Try.func24, Try.ntmps24
      go_wp2_with (first | (go_at_call 73; refine (HRB.out _ (h1.ext (by (repeat (first | with_reducible exact Ext.refl _ | with_reducible assumption | with_reducible refine Ext.alloc ?_ _ | with_reducible refine Ext.drew ?_ | with_reducible refine Ext.drewN ?_ _ | ((with_reducible refine Ext.setCell' ?_ ?_ _); solve | omega | simp | (simp; omega)) | (with_reducible refine Ext.trans ?_ (by with_reducible assumption))))))).mono ?_; rintro e w1 ⟨rfl, hx1⟩; obtain ⟨hc1, hf1⟩ := hx1.rules; have hs1 := hx1.size; (try simp at hs1); have := (show w.heap.size < w1.heap.size from by omega)) | (go_at_call 81; refine (HPB.out _).mono ?_; rintro e w2 ⟨rfl, hx2⟩; obtain ⟨hc2, hf2⟩ := hx2.rules; have hs2 := hx2.size; (try simp at hs2); have := (show w.heap.size < w2.heap.size from by omega)) | (go_at_call 82; refine (i_side _ _ ps _ _ _ (h1.ext (by (repeat (first | with_reducible exact Ext.refl _ | with_reducible assumption | with_reducible refine Ext.alloc ?_ _ | with_reducible refine Ext.drew ?_ | with_reducible refine Ext.drewN ?_ _ | ((with_reducible refine Ext.setCell' ?_ ?_ _); solve | omega | simp | (simp; omega)) | (with_reducible refine Ext.trans ?_ (by with_reducible assumption)))))) h0 (by omega)).mono ?_; rintro e w3 ⟨rfl, hx3⟩; obtain ⟨hc3, hf3⟩ := hx3.rules; have hs3 := hx3.size; (try simp at hs3); have := (show w.heap.size < w3.heap.size from by omega)))
      go_ret2
      exact ⟨rfl, by (repeat (first | with_reducible exact Ext.refl _ | with_reducible assumption | with_reducible refine Ext.alloc ?_ _ | with_reducible refine Ext.drew ?_ | with_reducible refine Ext.drewN ?_ _ | ((with_reducible refine Ext.setCell' ?_ ?_ _); solve | omega | simp | (simp; omega)) | (with_reducible refine Ext.trans ?_ (by with_reducible assumption))))⟩
  · have hr := Bool.eq_false_iff.2 hr
    have hs : sideB ps x z = false := by simp [sideB, hr]
    rw [sideC_no hs, show ifI (sideB ps x z) (sideZ ps x z) = 0 from by simp [ifI, hs]]
    have hrb : ∀ W, SlAt W 2 encP A ps → Calls Try.prog 73 #[.slice A ps.length c] W fun e w' => e = .returned (.bool false) ∧ Ext W w' := fun W h => as_bool (i_IsRing _ _ ps _ h hl hc) hr
    have HRB := Lib.hid hrb
    clear hrb hr hs
    go_enter Try.func24, Try.ntmps24
    go_wp2_with (first | (go_at_call 73; refine (HRB.out _ (h1.ext (by (repeat (first | with_reducible exact Ext.refl _ | with_reducible assumption | with_reducible refine Ext.alloc ?_ _ | with_reducible refine Ext.drew ?_ | with_reducible refine Ext.drewN ?_ _ | ((with_reducible refine Ext.setCell' ?_ ?_ _); solve | omega | simp | (simp; omega)) | (with_reducible refine Ext.trans ?_ (by with_reducible assumption))))))).mono ?_; rintro e w1 ⟨rfl, hx1⟩; obtain ⟨hc1, hf1⟩ := hx1.rules; have hs1 := hx1.size; (try simp at hs1); have := (show w.heap.size < w1.heap.size from by omega)) | (go_at_call 81; refine (HPB.out _).mono ?_; rintro e w2 ⟨rfl, hx2⟩; obtain ⟨hc2, hf2⟩ := hx2.rules; have hs2 := hx2.size; (try simp at hs2); have := (show w.heap.size < w2.heap.size from by omega)) | (go_at_call 82; refine (i_side _ _ ps _ _ _ (h1.ext (by (repeat (first | with_reducible exact Ext.refl _ | with_reducible assumption | with_reducible refine Ext.alloc ?_ _ | with_reducible refine Ext.drew ?_ | with_reducible refine Ext.drewN ?_ _ | ((with_reducible refine Ext.setCell' ?_ ?_ _); solve | omega | simp | (simp; omega)) | (with_reducible refine Ext.trans ?_ (by with_reducible assumption)))))) h0 (by omega)).mono ?_; rintro e w3 ⟨rfl, hx3⟩; obtain ⟨hc3, hf3⟩ := hx3.rules; have hs3 := hx3.size; (try simp at hs3); have := (show w.heap.size < w3.heap.size from by omega)))
    go_ret2
    exact ⟨rfl, by (repeat (first | with_reducible exact Ext.refl _ | with_reducible assumption | with_reducible refine Ext.alloc ?_ _ | with_reducible refine Ext.drew ?_ | with_reducible refine Ext.drewN ?_ _ | ((with_reducible refine Ext.setCell' ?_ ?_ _); solve | omega | simp | (simp; omega)) | (with_reducible refine Ext.trans ?_ (by with_reducible assumption))))⟩

set_option maxHeartbeats 1600000 in
theorem s_SideOf (A : Option Addr) (c : Nat) (ps : List (Int × Int)) (x z : Int) (w : World) (h : SlAt w 2 encP A ps) (hl : ps.length ≤ 1048576) :
    Calls Try.prog 22 #[.slice A ps.length c, .agg #[.int .i64 x, .int .i64 z]] w fun e w' => e = .returned (.tuple #[.int .i64 (ifI (sideB ps x z) (sideZ ps x z)), .int .i64 (sideC ps x z)]) ∧ Ext w w' := by
  have h1 := h.ext (show Ext w (w.alloc (.cells #[.int .i64 x, .int .i64 z] 33)) by (repeat (first | with_reducible exact Ext.refl _ | with_reducible assumption | with_reducible refine Ext.alloc ?_ _ | with_reducible refine Ext.drew ?_ | with_reducible refine Ext.drewN ?_ _ | ((with_reducible refine Ext.setCell' ?_ ?_ _); solve | omega | simp | (simp; omega)) | (with_reducible refine Ext.trans ?_ (by with_reducible assumption)))))
  by_cases hr : ringB ps = true
  · by_cases hp : okP x z = true
    · have hs : sideB ps x z = true := by simp [sideB, hr, hp]
      rw [sideC_yes hs, show ifI (sideB ps x z) (sideZ ps x z) = sideZ ps x z from by simp [ifI, hs]]
      have hrb : ∀ W, SlAt W 2 encP A ps → Calls Try.prog 70 #[.slice A ps.length c] W fun e w' => e = .returned (.bool true) ∧ Ext W w' := fun W h => as_bool (s_IsRing _ _ ps _ h hl) hr
      have hpb : ∀ W, Calls Try.prog 79 #[.agg #[.int .i64 x, .int .i64 z]] W fun e w' => e = .returned (.bool true) ∧ Ext W w' := fun W => as_bool (s_IsPoint _ _ _) hp
      obtain ⟨h0, hl12, ho⟩ := ring_facts hr
      have HO := Lib.hid ho
      have HP := Lib.hid hp
      have HRB := Lib.hid hrb
      have HPB := Lib.hid hpb
      clear hrb hpb hr hp hs ho
      go_enter Try.func22, Try.ntmps22
      go_wp2_with (first | (go_at_call 70; refine (HRB.out _ (h1.ext (by (repeat (first | with_reducible exact Ext.refl _ | with_reducible assumption | with_reducible refine Ext.alloc ?_ _ | with_reducible refine Ext.drew ?_ | with_reducible refine Ext.drewN ?_ _ | ((with_reducible refine Ext.setCell' ?_ ?_ _); solve | omega | simp | (simp; omega)) | (with_reducible refine Ext.trans ?_ (by with_reducible assumption))))))).mono ?_; rintro e w1 ⟨rfl, hx1⟩; obtain ⟨hc1, hf1⟩ := hx1.rules; have hs1 := hx1.size; (try simp at hs1); have := (show w.heap.size < w1.heap.size from by omega)) | (go_at_call 79; refine (HPB.out _).mono ?_; rintro e w2 ⟨rfl, hx2⟩; obtain ⟨hc2, hf2⟩ := hx2.rules; have hs2 := hx2.size; (try simp at hs2); have := (show w.heap.size < w2.heap.size from by omega)) | (go_at_call 80; refine (s_side _ _ ps _ _ _ (h1.ext (by (repeat (first | with_reducible exact Ext.refl _ | with_reducible assumption | with_reducible refine Ext.alloc ?_ _ | with_reducible refine Ext.drew ?_ | with_reducible refine Ext.drewN ?_ _ | ((with_reducible refine Ext.setCell' ?_ ?_ _); solve | omega | simp | (simp; omega)) | (with_reducible refine Ext.trans ?_ (by with_reducible assumption)))))) h0 (by omega) HO.out HP.out).mono ?_; rintro e w3 ⟨rfl, hx3⟩; obtain ⟨hc3, hf3⟩ := hx3.rules; have hs3 := hx3.size; (try simp at hs3); have := (show w.heap.size < w3.heap.size from by omega)))
      go_ret2
      exact ⟨rfl, by (repeat (first | with_reducible exact Ext.refl _ | with_reducible assumption | with_reducible refine Ext.alloc ?_ _ | with_reducible refine Ext.drew ?_ | with_reducible refine Ext.drewN ?_ _ | ((with_reducible refine Ext.setCell' ?_ ?_ _); solve | omega | simp | (simp; omega)) | (with_reducible refine Ext.trans ?_ (by with_reducible assumption))))⟩
    · have hp := Bool.eq_false_iff.2 hp
      have hs : sideB ps x z = false := by simp [sideB, hp]
      rw [sideC_no hs, show ifI (sideB ps x z) (sideZ ps x z) = 0 from by simp [ifI, hs]]
      have hrb : ∀ W, SlAt W 2 encP A ps → Calls Try.prog 70 #[.slice A ps.length c] W fun e w' => e = .returned (.bool true) ∧ Ext W w' := fun W h => as_bool (s_IsRing _ _ ps _ h hl) hr
      have hpb : ∀ W, Calls Try.prog 79 #[.agg #[.int .i64 x, .int .i64 z]] W fun e w' => e = .returned (.bool false) ∧ Ext W w' := fun W => as_bool (s_IsPoint _ _ _) hp
      have HRB := Lib.hid hrb
      have HPB := Lib.hid hpb
      clear hrb hpb hr hp hs
      go_enter Try.func22, Try.ntmps22
      go_wp2_with (first | (go_at_call 70; refine (HRB.out _ (h1.ext (by (repeat (first | with_reducible exact Ext.refl _ | with_reducible assumption | with_reducible refine Ext.alloc ?_ _ | with_reducible refine Ext.drew ?_ | with_reducible refine Ext.drewN ?_ _ | ((with_reducible refine Ext.setCell' ?_ ?_ _); solve | omega | simp | (simp; omega)) | (with_reducible refine Ext.trans ?_ (by with_reducible assumption))))))).mono ?_; rintro e w1 ⟨rfl, hx1⟩; obtain ⟨hc1, hf1⟩ := hx1.rules; have hs1 := hx1.size; (try simp at hs1); have := (show w.heap.size < w1.heap.size from by omega)) | (go_at_call 79; refine (HPB.out _).mono ?_; rintro e w2 ⟨rfl, hx2⟩; obtain ⟨hc2, hf2⟩ := hx2.rules; have hs2 := hx2.size; (try simp at hs2); have := (show w.heap.size < w2.heap.size from by omega)) | (go_at_call 80; refine (s_side _ _ ps _ _ _ (h1.ext (by (repeat (first | with_reducible exact Ext.refl _ | with_reducible assumption | with_reducible refine Ext.alloc ?_ _ | with_reducible refine Ext.drew ?_ | with_reducible refine Ext.drewN ?_ _ | ((with_reducible refine Ext.setCell' ?_ ?_ _); solve | omega | simp | (simp; omega)) | (with_reducible refine Ext.trans ?_ (by with_reducible assumption)))))) h0 (by omega) HO.out HP.out).mono ?_; rintro e w3 ⟨rfl, hx3⟩; obtain ⟨hc3, hf3⟩ := hx3.rules; have hs3 := hx3.size; (try simp at hs3); have := (show w.heap.size < w3.heap.size from by omega)))
      go_ret2
      exact ⟨rfl, by (repeat (first | with_reducible exact Ext.refl _ | with_reducible assumption | with_reducible refine Ext.alloc ?_ _ | with_reducible refine Ext.drew ?_ | with_reducible refine Ext.drewN ?_ _ | ((with_reducible refine Ext.setCell' ?_ ?_ _); solve | omega | simp | (simp; omega)) | (with_reducible refine Ext.trans ?_ (by with_reducible assumption))))⟩
  · have hr := Bool.eq_false_iff.2 hr
    have hs : sideB ps x z = false := by simp [sideB, hr]
    rw [sideC_no hs, show ifI (sideB ps x z) (sideZ ps x z) = 0 from by simp [ifI, hs]]
    have hrb : ∀ W, SlAt W 2 encP A ps → Calls Try.prog 70 #[.slice A ps.length c] W fun e w' => e = .returned (.bool false) ∧ Ext W w' := fun W h => as_bool (s_IsRing _ _ ps _ h hl) hr
    have HRB := Lib.hid hrb
    clear hrb hr hs
    go_enter Try.func22, Try.ntmps22
    go_wp2_with (first | (go_at_call 70; refine (HRB.out _ (h1.ext (by (repeat (first | with_reducible exact Ext.refl _ | with_reducible assumption | with_reducible refine Ext.alloc ?_ _ | with_reducible refine Ext.drew ?_ | with_reducible refine Ext.drewN ?_ _ | ((with_reducible refine Ext.setCell' ?_ ?_ _); solve | omega | simp | (simp; omega)) | (with_reducible refine Ext.trans ?_ (by with_reducible assumption))))))).mono ?_; rintro e w1 ⟨rfl, hx1⟩; obtain ⟨hc1, hf1⟩ := hx1.rules; have hs1 := hx1.size; (try simp at hs1); have := (show w.heap.size < w1.heap.size from by omega)) | (go_at_call 79; refine (HPB.out _).mono ?_; rintro e w2 ⟨rfl, hx2⟩; obtain ⟨hc2, hf2⟩ := hx2.rules; have hs2 := hx2.size; (try simp at hs2); have := (show w.heap.size < w2.heap.size from by omega)) | (go_at_call 80; refine (s_side _ _ ps _ _ _ (h1.ext (by (repeat (first | with_reducible exact Ext.refl _ | with_reducible assumption | with_reducible refine Ext.alloc ?_ _ | with_reducible refine Ext.drew ?_ | with_reducible refine Ext.drewN ?_ _ | ((with_reducible refine Ext.setCell' ?_ ?_ _); solve | omega | simp | (simp; omega)) | (with_reducible refine Ext.trans ?_ (by with_reducible assumption)))))) h0 (by omega) HO.out HP.out).mono ?_; rintro e w3 ⟨rfl, hx3⟩; obtain ⟨hc3, hf3⟩ := hx3.rules; have hs3 := hx3.size; (try simp at hs3); have := (show w.heap.size < w3.heap.size from by omega)))
    go_ret2
    exact ⟨rfl, by (repeat (first | with_reducible exact Ext.refl _ | with_reducible assumption | with_reducible refine Ext.alloc ?_ _ | with_reducible refine Ext.drew ?_ | with_reducible refine Ext.drewN ?_ _ | ((with_reducible refine Ext.setCell' ?_ ?_ _); solve | omega | simp | (simp; omega)) | (with_reducible refine Ext.trans ?_ (by with_reducible assumption))))⟩

set_option maxHeartbeats 1600000 in
theorem fnExactSideOf_walk (A : Option Addr) (c : Nat) (ps : List (Int × Int)) (px pz : Int) (w : World) (h : SlAt w 2 encP A ps) (hn : ps.length ≤ 140737488351232) :
    Calls Try.prog 5 #[.slice A ps.length c, .agg #[.int .i64 px, .int .i64 pz]] w fun e w' => e = .returned (.bool true) ∧ Ext w w' := by
  by_cases hl : ps.length ≤ 1048576
  · have hs0 : szR 1048576 ps.length = 1048576 - ps.length := by unfold szR; rw [if_neg (by omega)]
    have hsz := fun w => l_szPointS A ps.length c 1048576 w hn (by omega) (by omega)
    rw [hs0] at hsz
    have HZ := Lib.hid hsz
    clear hs0 hsz
    go_enter Try.func5, Try.ntmps5
    (go_wp2_with fail; refine (HZ.out _).mono ?_; rintro e w' ⟨rfl, rfl⟩)
    go_wp2
    go_region_held3 (fun w' => w'.cell? ⟨w.heap.size, 0, none⟩ = some (.int .i64 px) ∧ w'.cell? ⟨w.heap.size, 1, none⟩ = some (.int .i64 pz)) (go_keep) (first | (go_at_call 17; refine (l_toPointS _ _ ps _ (h.ext (by (repeat (first | with_reducible exact Ext.refl _ | with_reducible assumption | with_reducible refine Ext.alloc ?_ _ | with_reducible refine Ext.drew ?_ | with_reducible refine Ext.drewN ?_ _ | ((with_reducible refine Ext.setCell' ?_ ?_ _); solve | omega | simp | (simp; omega)) | (with_reducible refine Ext.trans ?_ (by with_reducible assumption)))))) hl).mono ?_; rintro e w1 ⟨cs1, rfl, hB1, hcs1, hx1⟩; (try simp at hB1); obtain ⟨hc1, hf1⟩ := hx1.rules; have hs1 := hx1.size; (try simp at hs1); have hlt1 := hB1.lt; have hl1 : ∀ n, n < _ → n < w1.heap.size := fun n h => Nat.lt_of_lt_of_le h hx1.size; have := (show w.heap.size < w1.heap.size from by omega)) | (go_at_call 23; refine (l_toPoint _ _ _).mono ?_; rintro e w2 ⟨rfl, hx2⟩; obtain ⟨hc2, hf2⟩ := hx2.rules; have hs2 := hx2.size; (try simp at hs2); have hl2 : ∀ n, n < _ → n < w2.heap.size := fun n h => Nat.lt_of_lt_of_le h hx2.size; have := (show w.heap.size < w2.heap.size from by omega); have := (show w.heap.size + 1 < w2.heap.size from by omega)) | (go_at_call 22; refine (s_SideOf _ _ ps _ _ _ (Blk.sl (by (repeat (first | with_reducible assumption | ((with_reducible apply Blk.new); solve | simp | rfl) | with_reducible apply Blk.drew | ((with_reducible apply Blk.far'); solve | omega | simp | (simp; omega)) | with_reducible apply Blk.set_ | with_reducible apply Blk.alloc | ((with_reducible apply Blk.ext'); with_reducible assumption)))) hcs1 len_encP) hl).mono ?_; rintro e w3 ⟨rfl, hx3⟩; obtain ⟨hc3, hf3⟩ := hx3.rules; have hs3 := hx3.size; (try simp at hs3); have hl3 : ∀ n, n < _ → n < w3.heap.size := fun n h => Nat.lt_of_lt_of_le h hx3.size; have := (show w.heap.size < w3.heap.size from by omega)))
    (go_wp2_with fail; refine (l_toPointS _ _ ps _ (h.ext (by (repeat (first | with_reducible exact Ext.refl _ | with_reducible assumption | with_reducible refine Ext.alloc ?_ _ | with_reducible refine Ext.drew ?_ | with_reducible refine Ext.drewN ?_ _ | ((with_reducible refine Ext.setCell' ?_ ?_ _); solve | omega | simp | (simp; omega)) | (with_reducible refine Ext.trans ?_ (by with_reducible assumption)))))) hl).mono ?_; rintro e w4 ⟨cs4, rfl, hB4, hcs4, hx4⟩; (try simp at hB4); obtain ⟨hc4, hf4⟩ := hx4.rules; have hs4 := hx4.size; (try simp at hs4); have hlt4 := hB4.lt; have := (show w.heap.size < w4.heap.size from by omega); have := (show w3.heap.size < w4.heap.size from by omega))
    (go_wp2_with fail; refine (l_toPoint _ _ _).mono ?_; rintro e w5 ⟨rfl, hx5⟩; obtain ⟨hc5, hf5⟩ := hx5.rules; have hs5 := hx5.size; (try simp at hs5); have := (show w.heap.size < w5.heap.size from by omega); have := (show w3.heap.size < w5.heap.size from by omega))
    (go_wp2_with fail; refine (i_SideOf _ _ ps _ _ _ (Blk.sl (by (repeat (first | with_reducible assumption | ((with_reducible apply Blk.new); solve | simp | rfl) | with_reducible apply Blk.drew | ((with_reducible apply Blk.far'); solve | omega | simp | (simp; omega)) | with_reducible apply Blk.set_ | with_reducible apply Blk.alloc | ((with_reducible apply Blk.ext'); with_reducible assumption)))) hcs4 len_encP) hl (Nat.le_refl _)).mono ?_; rintro e w6 ⟨rfl, hx6⟩; obtain ⟨hc6, hf6⟩ := hx6.rules; have hs6 := hx6.size; (try simp at hs6); have := (show w3.heap.size < w6.heap.size from by omega))
    (go_wp2_with fail; refine (l_toPointS _ _ ps _ (h.ext (by (repeat (first | with_reducible exact Ext.refl _ | with_reducible assumption | with_reducible refine Ext.alloc ?_ _ | with_reducible refine Ext.drew ?_ | with_reducible refine Ext.drewN ?_ _ | ((with_reducible refine Ext.setCell' ?_ ?_ _); solve | omega | simp | (simp; omega)) | (with_reducible refine Ext.trans ?_ (by with_reducible assumption)))))) hl).mono ?_; rintro e w7 ⟨cs7, rfl, hB7, hcs7, hx7⟩; (try simp at hB7); obtain ⟨hc7, hf7⟩ := hx7.rules; have hs7 := hx7.size; (try simp at hs7); have hlt7 := hB7.lt; have := (show w3.heap.size < w7.heap.size from by omega); have := (show w6.heap.size < w7.heap.size from by omega))
    (go_wp2_with fail; refine (l_eqPointS_self _ _ _ _ ps _ (Blk.sl (by (repeat (first | with_reducible assumption | ((with_reducible apply Blk.new); solve | simp | rfl) | with_reducible apply Blk.drew | ((with_reducible apply Blk.far'); solve | omega | simp | (simp; omega)) | with_reducible apply Blk.set_ | with_reducible apply Blk.alloc | ((with_reducible apply Blk.ext'); with_reducible assumption)))) hcs4 len_encP) (Blk.sl (by (repeat (first | with_reducible assumption | ((with_reducible apply Blk.new); solve | simp | rfl) | with_reducible apply Blk.drew | ((with_reducible apply Blk.far'); solve | omega | simp | (simp; omega)) | with_reducible apply Blk.set_ | with_reducible apply Blk.alloc | ((with_reducible apply Blk.ext'); with_reducible assumption)))) hcs7 len_encP) hl).mono ?_; rintro e w8 ⟨rfl, hx8⟩; obtain ⟨hc8, hf8⟩ := hx8.rules; have hs8 := hx8.size; (try simp at hs8))
    go_wp2
    go_ret
    exact ⟨rfl, by (repeat (first | with_reducible exact Ext.refl _ | with_reducible assumption | with_reducible refine Ext.alloc ?_ _ | with_reducible refine Ext.drew ?_ | with_reducible refine Ext.drewN ?_ _ | ((with_reducible refine Ext.setCell' ?_ ?_ _); solve | omega | simp | (simp; omega)) | (with_reducible refine Ext.trans ?_ (by with_reducible assumption))))⟩
  · have hs0 : szR 1048576 ps.length = -1 := by unfold szR; rw [if_pos (by omega)]
    have hsz := fun w => l_szPointS A ps.length c 1048576 w hn (by omega) (by omega)
    rw [hs0] at hsz
    have HZ := Lib.hid hsz
    clear hs0 hsz
    go_enter Try.func5, Try.ntmps5
    (go_wp2_with fail; refine (HZ.out _).mono ?_; rintro e w' ⟨rfl, rfl⟩)
    go_wp2
    go_ret
    exact ⟨rfl, by (repeat (first | with_reducible exact Ext.refl _ | with_reducible assumption | with_reducible refine Ext.alloc ?_ _ | with_reducible refine Ext.drew ?_ | with_reducible refine Ext.drewN ?_ _ | ((with_reducible refine Ext.setCell' ?_ ?_ _); solve | omega | simp | (simp; omega)) | (with_reducible refine Ext.trans ?_ (by with_reducible assumption))))⟩
end Go.Proofs.Ythhkmkhilnglkaa
