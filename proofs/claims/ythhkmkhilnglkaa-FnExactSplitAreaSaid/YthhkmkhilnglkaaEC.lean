/- Contracts of EdgesOf and its law, walked over the translation. -/
import Derived.Test.YthhkmkhilnglkaaEB
import Derived.Deep.RegionHeld3
import Derived.Deep.DeepCutAuto
import Derived.RegionTactic
import Derived.BigRegion
import Derived.WalkLawsBesides
import Derived.WalkSpells
import Derived.Lib.MinMax
import Derived.Outline
namespace Go.Proofs.Ythhkmkhilnglkaa
open Go.RowKit
attribute [local go_sem] ExtOf.cell ExtOf.frozen

open Classical in
/-- what EdgesOf returns -/
noncomputable def eoP (ps : List (Int × Int)) : List Ed := if ringB ps = true then edL (normS ps) else []
theorem eoP_len (ps : List (Int × Int)) : (eoP ps).length ≤ ps.length := by unfold eoP edL; split <;> simp [edTo_len, normS_len]

set_option maxHeartbeats 1600000 in
theorem i_EdgesOf (A : Option Addr) (c : Nat) (ps : List (Int × Int)) (w : World) (h : SlAt w 2 encP A ps) (hl : ps.length ≤ 1048576) (hc : ps.length ≤ c) :
    Calls Try.prog 47 #[.slice A ps.length c] w fun e w' => ∃ v, e = .returned (.tuple #[v, .int .i64 (ringC ps)]) ∧ OwE w' w.heap.size v (eoP ps) ∧ Ext w w' := by
  by_cases hr : ringB ps = true
  · have hnr : edL (normI ps) = eoP ps := by unfold eoP; rw [if_pos hr, norm_same (ringB_iff.1 hr)]
    rw [ringC_yes hr, ← hnr]
    have hrb : ∀ W, SlAt W 2 encP A ps → Calls Try.prog 73 #[.slice A ps.length c] W fun e w' => e = .returned (.bool true) ∧ Ext W w' := fun W h => as_bool (i_IsRing _ _ ps _ h hl hc) hr
    have HRB := Lib.hid hrb
    obtain ⟨h0, hl12, ho⟩ := ring_facts hr
    have HO := Lib.hid ho
    clear hrb hr ho hnr
    go_enter Try.func47, Try.ntmps47
    (go_wp2_with fail; refine (HRB.out _ h).mono ?_; rintro e w1 ⟨rfl, hx1⟩; obtain ⟨hc1, hf1⟩ := hx1.rules; have hs1 := hx1.size; (try simp at hs1))
    go_wp2_with fail
    refine (i_edgesOf _ _ ps _ (h.ext (by (repeat (first | with_reducible exact Ext.refl _ | with_reducible assumption | ((with_reducible apply Src.ext); with_reducible assumption) | with_reducible refine Ext.alloc ?_ _ | with_reducible refine Ext.drew ?_ | with_reducible refine Ext.drewN ?_ _ | ((with_reducible refine Ext.setCell' ?_ ?_ _); solve | omega | simp | (simp; omega)) | (with_reducible refine Ext.trans ?_ (by with_reducible assumption)))))) h0 (by omega) HO.out).mono ?_
    rintro e w2 ⟨v, rfl, hO, hx2⟩
    have HV := Lib.hid (hO.less hs1)
    clear hO
    go_wp2
    go_ret2
    exact ⟨v, rfl, HV.out, by (repeat (first | with_reducible exact Ext.refl _ | with_reducible assumption | ((with_reducible apply Src.ext); with_reducible assumption) | with_reducible refine Ext.alloc ?_ _ | with_reducible refine Ext.drew ?_ | with_reducible refine Ext.drewN ?_ _ | ((with_reducible refine Ext.setCell' ?_ ?_ _); solve | omega | simp | (simp; omega)) | (with_reducible refine Ext.trans ?_ (by with_reducible assumption))))⟩
  · have hr' : ringB ps = false := Bool.eq_false_iff.2 hr
    rw [ringC_no hr', show eoP ps = [] by unfold eoP; rw [if_neg hr]]
    have hrb : ∀ W, SlAt W 2 encP A ps → Calls Try.prog 73 #[.slice A ps.length c] W fun e w' => e = .returned (.bool false) ∧ Ext W w' := fun W h => as_bool (i_IsRing _ _ ps _ h hl hc) hr'
    have HRB := Lib.hid hrb
    clear hrb hr hr'
    go_enter Try.func47, Try.ntmps47
    (go_wp2_with fail; refine (HRB.out _ h).mono ?_; rintro e w1 ⟨rfl, hx1⟩; obtain ⟨hc1, hf1⟩ := hx1.rules; have hs1 := hx1.size; (try simp at hs1))
    go_wp2
    go_ret2
    exact ⟨_, rfl, Own.nil _ _, by (repeat (first | with_reducible exact Ext.refl _ | with_reducible assumption | ((with_reducible apply Src.ext); with_reducible assumption) | with_reducible refine Ext.alloc ?_ _ | with_reducible refine Ext.drew ?_ | with_reducible refine Ext.drewN ?_ _ | ((with_reducible refine Ext.setCell' ?_ ?_ _); solve | omega | simp | (simp; omega)) | (with_reducible refine Ext.trans ?_ (by with_reducible assumption))))⟩

set_option maxHeartbeats 1600000 in
theorem s_EdgesOf (A : Option Addr) (c : Nat) (ps : List (Int × Int)) (w : World) (h : SlAt w 2 encP A ps) (hl : ps.length ≤ 1048576) :
    Calls Try.prog 46 #[.slice A ps.length c] w fun e w' => ∃ v, e = .returned (.tuple #[v, .int .i64 (ringC ps)]) ∧ OwE w' w.heap.size v (eoP ps) ∧ Ext w w' := by
  by_cases hr : ringB ps = true
  · have hnr : edL (normS ps) = eoP ps := by unfold eoP; rw [if_pos hr]
    rw [ringC_yes hr, ← hnr]
    have hrb : ∀ W, SlAt W 2 encP A ps → Calls Try.prog 70 #[.slice A ps.length c] W fun e w' => e = .returned (.bool true) ∧ Ext W w' := fun W h => as_bool (s_IsRing _ _ ps _ h hl) hr
    have HRB := Lib.hid hrb
    obtain ⟨h0, hl12, ho⟩ := ring_facts hr
    have HO := Lib.hid ho
    clear hrb hr ho hnr
    go_enter Try.func46, Try.ntmps46
    (go_wp2_with fail; refine (HRB.out _ h).mono ?_; rintro e w1 ⟨rfl, hx1⟩; obtain ⟨hc1, hf1⟩ := hx1.rules; have hs1 := hx1.size; (try simp at hs1))
    go_wp2_with fail
    refine (s_l17Edges _ _ ps _ (h.ext (by (repeat (first | with_reducible exact Ext.refl _ | with_reducible assumption | ((with_reducible apply Src.ext); with_reducible assumption) | with_reducible refine Ext.alloc ?_ _ | with_reducible refine Ext.drew ?_ | with_reducible refine Ext.drewN ?_ _ | ((with_reducible refine Ext.setCell' ?_ ?_ _); solve | omega | simp | (simp; omega)) | (with_reducible refine Ext.trans ?_ (by with_reducible assumption)))))) h0 (by omega) HO.out).mono ?_
    rintro e w2 ⟨v, rfl, hO, hx2⟩
    have HV := Lib.hid (hO.less hs1)
    clear hO
    go_wp2
    go_ret2
    exact ⟨v, rfl, HV.out, by (repeat (first | with_reducible exact Ext.refl _ | with_reducible assumption | ((with_reducible apply Src.ext); with_reducible assumption) | with_reducible refine Ext.alloc ?_ _ | with_reducible refine Ext.drew ?_ | with_reducible refine Ext.drewN ?_ _ | ((with_reducible refine Ext.setCell' ?_ ?_ _); solve | omega | simp | (simp; omega)) | (with_reducible refine Ext.trans ?_ (by with_reducible assumption))))⟩
  · have hr' : ringB ps = false := Bool.eq_false_iff.2 hr
    rw [ringC_no hr', show eoP ps = [] by unfold eoP; rw [if_neg hr]]
    have hrb : ∀ W, SlAt W 2 encP A ps → Calls Try.prog 70 #[.slice A ps.length c] W fun e w' => e = .returned (.bool false) ∧ Ext W w' := fun W h => as_bool (s_IsRing _ _ ps _ h hl) hr'
    have HRB := Lib.hid hrb
    clear hrb hr hr'
    go_enter Try.func46, Try.ntmps46
    (go_wp2_with fail; refine (HRB.out _ h).mono ?_; rintro e w1 ⟨rfl, hx1⟩; obtain ⟨hc1, hf1⟩ := hx1.rules; have hs1 := hx1.size; (try simp at hs1))
    go_wp2
    go_ret2
    exact ⟨_, rfl, Own.nil _ _, by (repeat (first | with_reducible exact Ext.refl _ | with_reducible assumption | ((with_reducible apply Src.ext); with_reducible assumption) | with_reducible refine Ext.alloc ?_ _ | with_reducible refine Ext.drew ?_ | with_reducible refine Ext.drewN ?_ _ | ((with_reducible refine Ext.setCell' ?_ ?_ _); solve | omega | simp | (simp; omega)) | (with_reducible refine Ext.trans ?_ (by with_reducible assumption))))⟩

set_option maxHeartbeats 6400000 in
theorem fnExactEdgesOf_walk (A : Option Addr) (c : Nat) (ps : List (Int × Int)) (w : World) (h : SlAt w 2 encP A ps) (hn : ps.length ≤ 140737488351232) :
    Calls Try.prog 9 #[.slice A ps.length c] w fun e w' => e = .returned (.bool true) ∧ Ext w w' := by
  by_cases hl : ps.length ≤ 1048576
  · have hs0 : szR 1048576 ps.length = 1048576 - ps.length := by unfold szR; rw [if_neg (by omega)]
    have hsz := l_szPointS A ps.length c 1048576 w hn (by omega) (by omega)
    rw [hs0] at hsz
    have HZ := Lib.hid hsz
    have hnl := eoP_len ps
    obtain ⟨m, hm⟩ : ∃ m, m = (eoP ps).length := ⟨_, rfl⟩
    have HM := Lib.hid hm
    have hml : m ≤ 1048576 := by omega
    have hm0 : ¬ ((1 : Int) + 4 * (m : Int) < 0) := by omega
    have hm1 : ((1 : Int) + 4 * (m : Int) != 1 + 4 * (m : Int)) = false := by simp
    have hz0 : ¬ ((1 : Int) + 2 * (ps.length : Int) < 0) := by omega
    have hcc : (ringC ps != ringC ps) = false := by simp
    clear hs0 hsz hm hnl
    go_enter Try.func9, Try.ntmps9
    (go_wp2_with fail; refine (HZ.out).mono ?_; rintro e w' ⟨rfl, rfl⟩)
    (go_wp2_with fail; refine (l_toPointS _ _ ps _ (h.ext (by (repeat (first | with_reducible exact Ext.refl _ | with_reducible assumption | ((with_reducible apply Src.ext); with_reducible assumption) | with_reducible refine Ext.alloc ?_ _ | with_reducible refine Ext.drew ?_ | with_reducible refine Ext.drewN ?_ _ | ((with_reducible refine Ext.setCell' ?_ ?_ _); solve | omega | simp | (simp; omega)) | (with_reducible refine Ext.trans ?_ (by with_reducible assumption)))))) hl).mono ?_; rintro e w1 ⟨cs1, rfl, hB1, hcs1, hx1⟩; (try simp at hB1); obtain ⟨hc1, hf1⟩ := hx1.rules; have hs1 := hx1.size; (try simp at hs1); have hlt1 := hB1.lt; have := (show w.heap.size < w1.heap.size from by omega))
    go_wp2_with fail
    refine (s_EdgesOf _ _ ps _ (Blk.sl (by (repeat (first | with_reducible assumption | ((with_reducible apply Blk.new); solve | simp | rfl) | with_reducible apply Blk.drew | with_reducible apply Blk.drewN | ((with_reducible apply Blk.far'); solve | omega | simp | (simp; omega)) | with_reducible apply Blk.set_ | with_reducible apply Blk.alloc | ((with_reducible apply Blk.ext'); with_reducible assumption) | ((with_reducible apply Blk.but'); (with_reducible assumption); solve | omega | (simp; omega))))) hcs1 len_encP) hl).mono ?_
    rintro e w2 ⟨v2, rfl, hO2, hx2⟩
    have hs2 := hx2.size
    (try simp at hs2)
    obtain ⟨A2, c2, rfl, hS2, _, _, hA2⟩ := hO2.sl len_encE
    rw [← HM.out]
    clear hO2
    (go_wp2_with fail; refine (l_toPointS _ _ ps _ (h.ext (by (repeat (first | with_reducible exact Ext.refl _ | with_reducible assumption | ((with_reducible apply Src.ext); with_reducible assumption) | with_reducible refine Ext.alloc ?_ _ | with_reducible refine Ext.drew ?_ | with_reducible refine Ext.drewN ?_ _ | ((with_reducible refine Ext.setCell' ?_ ?_ _); solve | omega | simp | (simp; omega)) | (with_reducible refine Ext.trans ?_ (by with_reducible assumption)))))) hl).mono ?_; rintro e w3 ⟨cs3, rfl, hB3, hcs3, hx3⟩; (try simp at hB3); obtain ⟨hc3, hf3⟩ := hx3.rules; have hs3 := hx3.size; (try simp at hs3); have hlt3 := hB3.lt; have := (show w2.heap.size < w3.heap.size from by omega))
    go_wp2_with fail
    refine (i_EdgesOf _ _ ps _ (Blk.sl (by (repeat (first | with_reducible assumption | ((with_reducible apply Blk.new); solve | simp | rfl) | with_reducible apply Blk.drew | with_reducible apply Blk.drewN | ((with_reducible apply Blk.far'); solve | omega | simp | (simp; omega)) | with_reducible apply Blk.set_ | with_reducible apply Blk.alloc | ((with_reducible apply Blk.ext'); with_reducible assumption) | ((with_reducible apply Blk.but'); (with_reducible assumption); solve | omega | (simp; omega))))) hcs3 len_encP) hl (Nat.le_refl _)).mono ?_
    rintro e w4 ⟨v4, rfl, hO4, hx4⟩
    have hs4 := hx4.size
    (try simp at hs4)
    have HO4 := Lib.hid hO4
    obtain ⟨A4, c4, rfl, hS4, _, _, hA4⟩ := hO4.sl len_encE
    rw [← HM.out] at HO4 ⊢
    clear hO4
    (go_wp2_with fail; refine (l_eqE A4 A2 m c4 c2 (eoP ps) _ hS4 (hS2.ext (by (repeat (first | with_reducible exact Ext.refl _ | with_reducible assumption | ((with_reducible apply Src.ext); with_reducible assumption) | with_reducible refine Ext.alloc ?_ _ | with_reducible refine Ext.drew ?_ | with_reducible refine Ext.drewN ?_ _ | ((with_reducible refine Ext.setCell' ?_ ?_ _); solve | omega | simp | (simp; omega)) | (with_reducible refine Ext.trans ?_ (by with_reducible assumption)))))) HM.out hml).mono ?_; rintro e w5 ⟨rfl, hx5⟩; obtain ⟨hc5, hf5⟩ := hx5.rules; have hs5 := hx5.size; (try simp at hs5); have := (show w2.heap.size < w5.heap.size from by omega))
    (go_wp2_with fail; refine (l_toPointS _ _ ps _ (h.ext (by (repeat (first | with_reducible exact Ext.refl _ | with_reducible assumption | ((with_reducible apply Src.ext); with_reducible assumption) | with_reducible refine Ext.alloc ?_ _ | with_reducible refine Ext.drew ?_ | with_reducible refine Ext.drewN ?_ _ | ((with_reducible refine Ext.setCell' ?_ ?_ _); solve | omega | simp | (simp; omega)) | (with_reducible refine Ext.trans ?_ (by with_reducible assumption)))))) hl).mono ?_; rintro e w6 ⟨cs6, rfl, hB6, hcs6, hx6⟩; (try simp at hB6); obtain ⟨hc6, hf6⟩ := hx6.rules; have hs6 := hx6.size; (try simp at hs6); have hlt6 := hB6.lt; have := (show w2.heap.size < w6.heap.size from by omega))
    (go_wp2_with fail; refine (l_eqP _ _ _ _ _ ps _ (Blk.sl (g := w2.heap.size) (by (repeat (first | with_reducible assumption | ((with_reducible apply Blk.new); solve | simp | rfl) | with_reducible apply Blk.drew | with_reducible apply Blk.drewN | ((with_reducible apply Blk.far'); solve | omega | simp | (simp; omega)) | with_reducible apply Blk.set_ | with_reducible apply Blk.alloc | ((with_reducible apply Blk.ext'); with_reducible assumption) | ((with_reducible apply Blk.but'); (with_reducible assumption); solve | omega | (simp; omega))))) hcs3 len_encP) (Blk.sl (by (repeat (first | with_reducible assumption | ((with_reducible apply Blk.new); solve | simp | rfl) | with_reducible apply Blk.drew | with_reducible apply Blk.drewN | ((with_reducible apply Blk.far'); solve | omega | simp | (simp; omega)) | with_reducible apply Blk.set_ | with_reducible apply Blk.alloc | ((with_reducible apply Blk.ext'); with_reducible assumption) | ((with_reducible apply Blk.but'); (with_reducible assumption); solve | omega | (simp; omega))))) hcs6 len_encP) rfl hl).mono ?_; rintro e w7 ⟨rfl, hx7⟩; obtain ⟨hc7, hf7⟩ := hx7.rules; have hs7 := hx7.size; (try simp at hs7))
    have hOx : OwP w7 w2.heap.size (.slice (some ⟨w2.heap.size, 0, none⟩) ps.length ps.length) ps := Own.of_blk (by (repeat (first | with_reducible assumption | ((with_reducible apply Blk.new); solve | simp | rfl) | with_reducible apply Blk.drew | with_reducible apply Blk.drewN | ((with_reducible apply Blk.far'); solve | omega | simp | (simp; omega)) | with_reducible apply Blk.set_ | with_reducible apply Blk.alloc | ((with_reducible apply Blk.ext'); with_reducible assumption) | ((with_reducible apply Blk.but'); (with_reducible assumption); solve | omega | (simp; omega))))) len_encP hcs3 (Nat.le_refl _) (by unfold maxLen; omega)
    have hX4 : Ext w4 w7 := by (repeat (first | with_reducible exact Ext.refl _ | with_reducible assumption | ((with_reducible apply Src.ext); with_reducible assumption) | with_reducible refine Ext.alloc ?_ _ | with_reducible refine Ext.drew ?_ | with_reducible refine Ext.drewN ?_ _ | ((with_reducible refine Ext.setCell' ?_ ?_ _); solve | omega | simp | (simp; omega)) | (with_reducible refine Ext.trans ?_ (by with_reducible assumption))))
    have hX2 : Ext w2 w7 := by clear hX4; (repeat (first | with_reducible exact Ext.refl _ | with_reducible assumption | ((with_reducible apply Src.ext); with_reducible assumption) | with_reducible refine Ext.alloc ?_ _ | with_reducible refine Ext.drew ?_ | with_reducible refine Ext.drewN ?_ _ | ((with_reducible refine Ext.setCell' ?_ ?_ _); solve | omega | simp | (simp; omega)) | (with_reducible refine Ext.trans ?_ (by with_reducible assumption))))
    have hX7 : Ext w w7 := by clear hX4 hX2; (repeat (first | with_reducible exact Ext.refl _ | with_reducible assumption | ((with_reducible apply Src.ext); with_reducible assumption) | with_reducible refine Ext.alloc ?_ _ | with_reducible refine Ext.drew ?_ | with_reducible refine Ext.drewN ?_ _ | ((with_reducible refine Ext.setCell' ?_ ?_ _); solve | omega | simp | (simp; omega)) | (with_reducible refine Ext.trans ?_ (by with_reducible assumption))))
    have hs12 : w.heap.size ≤ w2.heap.size := Ext.size (by (repeat (first | with_reducible exact Ext.refl _ | with_reducible assumption | ((with_reducible apply Src.ext); with_reducible assumption) | with_reducible refine Ext.alloc ?_ _ | with_reducible refine Ext.drew ?_ | with_reducible refine Ext.drewN ?_ _ | ((with_reducible refine Ext.setCell' ?_ ?_ _); solve | omega | simp | (simp; omega)) | (with_reducible refine Ext.trans ?_ (by with_reducible assumption)))))
    have h23 : w2.heap.size < w4.heap.size := by omega
    have hS2' : SlAt w7 4 encE A2 (eoP ps) := hS2.ext hX2
    have hS4' := hS4.ext hX4
    have HO7 := Lib.hid (HO4.out.ext hX4)
    clear hS2 hS4 HO4
    go_wp2_with fail
    refine (l_markPointS _ _ ps 1 _ hOx hl (by omega) (by omega)).mono ?_
    rintro e w8 ⟨rfl, hO8, hg8⟩
    have hX8 : Ext w w8 := hX7.grown hg8 (by rintro q hq; simp [Value.ownBlock] at hq; omega)
    have hS28 := hS2'.grown hg8 (by intro q hq; have := hA2 q hq; simp [Value.ownBlock]; omega)
    have hS48 := hS4'.grown hg8 (by intro q hq; have := hA4 q hq; simp [Value.ownBlock]; omega)
    have HO8 := Lib.hid (HO7.out.kept hg8 (by
      rcases hv : (Value.slice A4 m c4).ownBlock with _ | q
      · exact .inl rfl
      · refine .inr ?_
        have := HO7.out.row q hv
        simp [Value.ownBlock]; omega))
    have hsz8 := hg8.size
    clear hg8 hS2' hS4' HO7 hO8 hOx
    (go_wp2_with fail; refine (l_eqE A4 A2 m c4 c2 (eoP ps) _ hS48 hS28 HM.out hml).mono ?_; rintro e w9 ⟨rfl, hx9⟩; obtain ⟨hc9, hf9⟩ := hx9.rules; have hs9 := hx9.size; (try simp at hs9))
    have HO9 := Lib.hid (HO8.out.ext hx9)
    have hS29 := hS28.ext hx9
    have hX9 := hX8.trans hx9
    clear HO8 hS28 hS48
    go_wp2_with fail
    refine (l_markE _ _ _ m 1 _ HO9.out HM.out hml (by omega) (by omega)).mono ?_
    rintro e w10 ⟨rfl, hO10, hg10⟩
    have hX10 : Ext w w10 := hX9.grown hg10 (fun q hq => by have := (HO9.out.row q hq).1; omega)
    have hS210 := hS29.grown hg10 (by intro q hq he; have := hA2 q hq; have := (HO9.out.row _ he.symm).1; omega)
    obtain ⟨_, _, e', hS410, _⟩ := hO10.sl len_encE
    injection e' with ea eb ec
    subst ea
    have hsz10 := hg10.size
    clear hg10 hS29 HO9 eb ec
    (go_wp2_with fail; refine (l_heldE _ m _ 1 _ hS410 hml (by omega) (by omega)).mono ?_; rintro e w' ⟨rfl, rfl⟩)
    (go_wp2_with fail; refine (l_toPointS _ _ ps _ (h.ext (by (repeat (first | with_reducible exact Ext.refl _ | with_reducible assumption | ((with_reducible apply Src.ext); with_reducible assumption) | with_reducible refine Ext.alloc ?_ _ | with_reducible refine Ext.drew ?_ | with_reducible refine Ext.drewN ?_ _ | ((with_reducible refine Ext.setCell' ?_ ?_ _); solve | omega | simp | (simp; omega)) | (with_reducible refine Ext.trans ?_ (by with_reducible assumption)))))) hl).mono ?_; rintro e w11 ⟨cs11, rfl, hB11, hcs11, hx11⟩; (try simp at hB11); obtain ⟨hc11, hf11⟩ := hx11.rules; have hs11 := hx11.size; (try simp at hs11); have hlt11 := hB11.lt; have := (show w2.heap.size < w11.heap.size from by omega))
    go_wp2_with fail
    refine (i_EdgesOf _ _ ps _ (Blk.sl (by (repeat (first | with_reducible assumption | ((with_reducible apply Blk.new); solve | simp | rfl) | with_reducible apply Blk.drew | with_reducible apply Blk.drewN | ((with_reducible apply Blk.far'); solve | omega | simp | (simp; omega)) | with_reducible apply Blk.set_ | with_reducible apply Blk.alloc | ((with_reducible apply Blk.ext'); with_reducible assumption) | ((with_reducible apply Blk.but'); (with_reducible assumption); solve | omega | (simp; omega))))) hcs11 len_encP) hl (Nat.le_refl _)).mono ?_
    rintro e w12 ⟨v12, rfl, hO12, hx12⟩
    obtain ⟨A12, c12, rfl, hS12, _, _, hA12⟩ := hO12.sl len_encE
    rw [← HM.out]
    clear hO12
    (go_wp2_with fail; refine (l_eqE A12 A2 m c12 c2 (eoP ps) _ hS12 ((hS210.ext hx11).ext hx12) HM.out hml).mono ?_; rintro e w13 ⟨rfl, hx13⟩; obtain ⟨hc13, hf13⟩ := hx13.rules; have hs13 := hx13.size; (try simp at hs13))
    (go_wp2_with fail; refine (l_heldE _ m _ 1 _ (((hS410.ext hx11).ext hx12).ext hx13) hml (by omega) (by omega)).mono ?_; rintro e w' ⟨rfl, rfl⟩)
    go_wp2
    go_ret
    exact ⟨rfl, ((hX10.trans hx11).trans hx12).trans hx13⟩
  · have hs0 : szR 1048576 ps.length = -1 := by unfold szR; rw [if_pos (by omega)]
    have hsz := l_szPointS A ps.length c 1048576 w hn (by omega) (by omega)
    rw [hs0] at hsz
    have HZ := Lib.hid hsz
    clear hs0 hsz
    go_enter Try.func9, Try.ntmps9
    (go_wp2_with fail; refine (HZ.out).mono ?_; rintro e w' ⟨rfl, rfl⟩)
    go_wp2
    go_ret
    exact ⟨rfl, by (repeat (first | with_reducible exact Ext.refl _ | with_reducible assumption | ((with_reducible apply Src.ext); with_reducible assumption) | with_reducible refine Ext.alloc ?_ _ | with_reducible refine Ext.drew ?_ | with_reducible refine Ext.drewN ?_ _ | ((with_reducible refine Ext.setCell' ?_ ?_ _); solve | omega | simp | (simp; omega)) | (with_reducible refine Ext.trans ?_ (by with_reducible assumption))))⟩

end Go.Proofs.Ythhkmkhilnglkaa
