/- The law of the texts of changes, walked over the translation. -/
import Derived.Test.YtabdffponmmhoaaGreatDoorDO
import Derived.Test.YtabdffponmmhoaaGreatDoorHW
import Derived.Test.YtabdffponmmhoaaGreatDoorTR
import Derived.Test.YtabdffponmmhoaaGreatDoorHQ
import Derived.Deep.RegionHeld3
import Derived.Deep.DeepCutAuto
import Derived.RegionTactic
import Derived.BigRegion
import Derived.WalkLawsBesides
import Derived.WalkSpells
import Derived.Lib.MinMax
import Derived.Outline
namespace Go.Proofs.YtabdffponmmhoaaGreatDoor
open Go.RowKit
attribute [local go_sem] ExtOf.cell ExtOf.frozen

theorem chC_zero {y k : Int} {co ot la te : ByteArray} (h : chB y k co ot la te = true) : chC y k co ot la te = 0 := by unfold chC; rw [if_pos h]
theorem chC_one {y k : Int} {co ot la te : ByteArray} (h : chB y k co ot la te = false) : chC y k co ot la te = 1 := by unfold chC; rw [h]; rfl
theorem chB_of {y k : Int} {co ot la te : ByteArray} (h : chC y k co ot la te = 0) : chB y k co ot la te = true := by
  cases e : chB y k co ot la te with
  | true => rfl
  | false => rw [chC_one e] at h; cases h
theorem rcC_two (l : List UInt8) : rcC l = 0 ∨ rcC l = 6 := by
  unfold rcC
  split
  · left; rfl
  · right; rfl
theorem dtB_le (s : ByteArray) : s.size ≤ (dtB s).size := by
  unfold dtB
  split
  · rename_i h
    have h1 : s.toList.length = 0 := by rw [List.isEmpty_iff.1 h]; rfl
    rw [ByteArray.toList_eq, size_list] at h1
    omega
  · exact Nat.le_refl _
theorem chT_parts {y k : Int} {co ot la te : ByteArray} (h : chB y k co ot la te = true) {n : Nat} (hn : (chR y k co ot la te).length ≤ n) : co.size ≤ n ∧ ot.size ≤ n ∧ la.size ≤ n ∧ te.size ≤ n := by
  unfold chR at hn
  rw [if_pos h] at hn
  have e := congrArg ByteArray.size (chT_tx y k co ot la te)
  rw [tx_size] at e
  simp only [ByteArray.size_append, tx_size] at e
  have a2 := dtB_le ot
  have a3 := dtB_le la
  have a4 := dtB_le te
  exact ⟨by omega, by omega, by omega, by omega⟩
theorem chR_small {y k : Int} {co ot la te : ByteArray} (hy : Num y) (hk : Num k) (h1 : co.size ≤ 60) (h2 : ot.size ≤ 60) (h3 : la.size ≤ 60) (h4 : te.size ≤ 60) : (chR y k co ot la te).length ≤ 400 := by
  unfold chR
  split
  · exact chT_small hy hk h1 h2 h3 h4
  · exact Nat.zero_le _
set_option maxRecDepth 20000 in
set_option maxHeartbeats 25600000 in
theorem fnChangeTexts_walk (A : Option Addr) (c : Nat) (bs : List Int) (w : World) (h : SlAt w 1 encB A bs) (hb : ∀ b ∈ bs, 0 ≤ b ∧ b ≤ 255) (hL : Ld w) :
    Calls Tryz.prog 4 #[.slice A bs.length c] w fun e w' => e = .returned (.bool true) ∧ Ext w w' := by
  by_cases hl : bs.length ≤ 4096
  · have hbg : ∀ W, Calls Tryz.prog 19 #[.slice A bs.length c] W fun e w' => e = .returned (.bool false) ∧ W = w' := fun W => by
      have := l_bigQ A c bs.length W
      rwa [decide_eq_false (by omega)] at this
    have HG := Lib.hid hbg
    have HD1 := Lib.hid (fun W (hW : Ext w W) => s_DrawChangeText A c bs W (h.ext hW) hb hl)
    have HD2 := Lib.hid (fun W (hW : Ext w W) => s_DrawReadChange A c bs W (h.ext hW) hb hl)
    have HL := Lib.hid hL
    obtain ⟨nn, hnn⟩ : ∃ n, n = bs.length := ⟨_, rfl⟩
    rw [← hnn] at HG HD1 HD2 ⊢
    clear hbg hl hnn h hb hL
    go_enter Tryz.func4, Tryz.ntmps4
    (go_wp2_with fail; refine (HG.out _).mono ?_; rintro e w' ⟨rfl, rfl⟩)
    go_wp2_with fail
    refine (HD1.out _ (by (repeat (first | with_reducible exact Ext.refl _ | with_reducible assumption | ((with_reducible apply Src.ext); with_reducible assumption) | with_reducible refine Ext.alloc ?_ _ | with_reducible refine Ext.drew ?_ | with_reducible refine Ext.drewN ?_ _ | ((with_reducible refine Ext.setCell' ?_ ?_ _); solve | omega | simp | (simp; omega)) | (with_reducible refine Ext.trans ?_ (by with_reducible assumption)))))).mono ?_
    rintro e w1 ⟨y, k, co, ot, la, te, rfl, hok, hx1⟩
    obtain ⟨hc1, hf1⟩ := hx1.rules
    have hs1 := hx1.size
    (try simp at hs1)
    have f1 : Num y := by have := hok.1; unfold Num; omega
    have f2 : Num k := by have := hok.2.1; unfold Num; omega
    have b1 : (tx co).size ≤ 60 := by rw [tx_size]; have := hok.2.2.1; omega
    have b2 : (tx ot).size ≤ 60 := by rw [tx_size]; have := hok.2.2.2.1; omega
    have b3 : (tx la).size ≤ 60 := by rw [tx_size]; have := hok.2.2.2.2.1; omega
    have b4 : (tx te).size ≤ 60 := by rw [tx_size]; have := hok.2.2.2.2.2; omega
    clear hok HD1
    generalize tx co = sc at *
    generalize tx ot = so at *
    generalize tx la = sl at *
    generalize tx te = st at *
    cases hq : chB y k sc so sl st with
    | true =>
      have HI : Hid (∀ W, Ld W → Calls Tryz.prog 26 #[.agg #[.int .i64 y, .int .i64 k, .string sc, .string so, .string sl, .string st]] W fun e w' => e = .returned (.bool true) ∧ Ext W w') := Lib.hid fun W hW => by have := i_IsChange y k sc so sl st W (by omega) (by omega) (by omega) (by omega) hW.mx; rwa [hq] at this
      have hc := chC_zero hq
      have HA : Hid (∀ W, Ld W → Calls Tryz.prog 21 #[.agg #[.int .i64 y, .int .i64 k, .string sc, .string so, .string sl, .string st]] W fun e w' => e = .returned (.tuple #[.string (tx (chR y k sc so sl st)), .int .i64 0]) ∧ Ext W w') := Lib.hid fun W hW => by have := i_ChangeText y k sc so sl st W (by omega) (by omega) (by omega) (by omega) hW.mx hW.tab; rwa [hc] at this
      have HB2 : Hid (∀ W, Calls Tryz.prog 22 #[.agg #[.int .i64 y, .int .i64 k, .string sc, .string so, .string sl, .string st]] W fun e w' => e = .returned (.tuple #[.string (tx (chR y k sc so sl st)), .int .i64 0]) ∧ Ext W w') := Lib.hid fun W => by have := s_ChangeText y k sc so sl st W (by omega) (by omega) (by omega) (by omega); rwa [hc] at this
      have hsz := chR_small f1 f2 b1 b2 b3 b4
      have HR : Hid (∀ W, Ld W → Calls Tryz.prog 24 #[.string (tx (chR y k sc so sl st))] W fun e w' => e = .returned (.tuple #[.agg #[.int .i64 y, .int .i64 k, .string sc, .string so, .string sl, .string st], .int .i64 0]) ∧ Ext W w') := Lib.hid fun W hW => by
        obtain ⟨r1, r2⟩ := rc_back hc
        have := i_ReadChange (tx (chR y k sc so sl st)) W (by rw [tx_size]; omega) hW
        rwa [tx_list, r1, r2] at this
      clear hq hc b1 b2 b3 b4 f1 f2 hsz
      generalize tx (chR y k sc so sl st) = a at *
      (go_wp2_with fail; refine (HA.out _ (HL.out.ext (by (repeat (first | with_reducible exact Ext.refl _ | with_reducible assumption | ((with_reducible apply Src.ext); with_reducible assumption) | with_reducible refine Ext.alloc ?_ _ | with_reducible refine Ext.drew ?_ | with_reducible refine Ext.drewN ?_ _ | ((with_reducible refine Ext.setCell' ?_ ?_ _); solve | omega | simp | (simp; omega)) | (with_reducible refine Ext.trans ?_ (by with_reducible assumption))))))).mono ?_; rintro e w2 ⟨rfl, hx2⟩; obtain ⟨hc2, hf2⟩ := hx2.rules; have hs2 := hx2.size; (try simp at hs2); have := (show w1.heap.size < w2.heap.size from by omega))
      (go_wp2_with fail; refine (HB2.out _).mono ?_; rintro e w3 ⟨rfl, hx3⟩; obtain ⟨hc3, hf3⟩ := hx3.rules; have hs3 := hx3.size; (try simp at hs3); have := (show w1.heap.size < w3.heap.size from by omega))
      go_wp2_with fail
      refine (HD2.out _ (by (repeat (first | with_reducible exact Ext.refl _ | with_reducible assumption | ((with_reducible apply Src.ext); with_reducible assumption) | with_reducible refine Ext.alloc ?_ _ | with_reducible refine Ext.drew ?_ | with_reducible refine Ext.drewN ?_ _ | ((with_reducible refine Ext.setCell' ?_ ?_ _); solve | omega | simp | (simp; omega)) | (with_reducible refine Ext.trans ?_ (by with_reducible assumption)))))).mono ?_
      rintro e w4 ⟨t, rfl, ht, hx4⟩
      obtain ⟨hc4, hf4⟩ := hx4.rules
      have hs4 := hx4.size
      (try simp at hs4)
      have := (show w1.heap.size < w4.heap.size from by omega)
      have ht2 : t.size ≤ 1048576 := by omega
      rcases rcC_two t.data.toList with hr | hr
      · have HC : Hid (∀ W, Ld W → Calls Tryz.prog 24 #[.string t] W fun e w' => e = .returned (.tuple #[.agg #[.int .i64 (rcR t.data.toList).y, .int .i64 (rcR t.data.toList).k, .string (rcR t.data.toList).co, .string (rcR t.data.toList).ot, .string (rcR t.data.toList).la, .string (rcR t.data.toList).te], .int .i64 0]) ∧ Ext W w') := Lib.hid fun W hW => by have := i_ReadChange t W ht2 hW; rwa [hr] at this
        have HD : Hid (∀ W, Calls Tryz.prog 25 #[.string t] W fun e w' => e = .returned (.tuple #[.agg #[.int .i64 (rcR t.data.toList).y, .int .i64 (rcR t.data.toList).k, .string (rcR t.data.toList).co, .string (rcR t.data.toList).ot, .string (rcR t.data.toList).la, .string (rcR t.data.toList).te], .int .i64 0]) ∧ Ext W w') := Lib.hid fun W => by have := s_ReadChange t W ht2; rwa [hr] at this
        have HE : Hid (∀ W, Ld W → Calls Tryz.prog 21 #[.agg #[.int .i64 (rcR t.data.toList).y, .int .i64 (rcR t.data.toList).k, .string (rcR t.data.toList).co, .string (rcR t.data.toList).ot, .string (rcR t.data.toList).la, .string (rcR t.data.toList).te]] W fun e w' => e = .returned (.tuple #[.string t, .int .i64 0]) ∧ Ext W w') := Lib.hid fun W hW => by
          obtain ⟨e1, e2⟩ := rc_again hr
          have hp := chT_parts (chB_of e1) (n := 401) (by rw [e2]; have := size_list t; omega)
          have := i_ChangeText (rcR t.data.toList).y (rcR t.data.toList).k (rcR t.data.toList).co (rcR t.data.toList).ot (rcR t.data.toList).la (rcR t.data.toList).te W (by have := hp.1; omega) (by have := hp.2.1; omega) (by have := hp.2.2.1; omega) (by have := hp.2.2.2; omega) hW.mx hW.tab
          rwa [e1, e2, ← eq_tx (show t.data.toList = t.data.toList from rfl)] at this
        clear hr ht ht2
        generalize rcR t.data.toList = p at *
        obtain ⟨y2, k2, c2, o2, l2, t2⟩ := p
        simp only at HC HD HE
        (go_wp2_with fail; refine (HC.out _ (HL.out.ext (by (repeat (first | with_reducible exact Ext.refl _ | with_reducible assumption | ((with_reducible apply Src.ext); with_reducible assumption) | with_reducible refine Ext.alloc ?_ _ | with_reducible refine Ext.drew ?_ | with_reducible refine Ext.drewN ?_ _ | ((with_reducible refine Ext.setCell' ?_ ?_ _); solve | omega | simp | (simp; omega)) | (with_reducible refine Ext.trans ?_ (by with_reducible assumption))))))).mono ?_; rintro e w5 ⟨rfl, hx5⟩; obtain ⟨hc5, hf5⟩ := hx5.rules; have hs5 := hx5.size; (try simp at hs5); have := (show w1.heap.size < w5.heap.size from by omega))
        (go_wp2_with fail; refine (HD.out _).mono ?_; rintro e w6 ⟨rfl, hx6⟩; obtain ⟨hc6, hf6⟩ := hx6.rules; have hs6 := hx6.size; (try simp at hs6); have := (show w1.heap.size < w6.heap.size from by omega); have := (show w5.heap.size < w6.heap.size from by omega))
        (go_wp2_with fail; refine (HI.out _ (HL.out.ext (by (repeat (first | with_reducible exact Ext.refl _ | with_reducible assumption | ((with_reducible apply Src.ext); with_reducible assumption) | with_reducible refine Ext.alloc ?_ _ | with_reducible refine Ext.drew ?_ | with_reducible refine Ext.drewN ?_ _ | ((with_reducible refine Ext.setCell' ?_ ?_ _); solve | omega | simp | (simp; omega)) | (with_reducible refine Ext.trans ?_ (by with_reducible assumption))))))).mono ?_; rintro e w7 ⟨rfl, hx7⟩; obtain ⟨hc7, hf7⟩ := hx7.rules; have hs7 := hx7.size; (try simp at hs7); have := (show w1.heap.size < w7.heap.size from by omega); have := (show w5.heap.size < w7.heap.size from by omega); have := (show w6.heap.size < w7.heap.size from by omega))
        (go_wp2_with fail; refine (HE.out _ (HL.out.ext (by (repeat (first | with_reducible exact Ext.refl _ | with_reducible assumption | ((with_reducible apply Src.ext); with_reducible assumption) | with_reducible refine Ext.alloc ?_ _ | with_reducible refine Ext.drew ?_ | with_reducible refine Ext.drewN ?_ _ | ((with_reducible refine Ext.setCell' ?_ ?_ _); solve | omega | simp | (simp; omega)) | (with_reducible refine Ext.trans ?_ (by with_reducible assumption))))))).mono ?_; rintro e w8 ⟨rfl, hx8⟩; obtain ⟨hc8, hf8⟩ := hx8.rules; have hs8 := hx8.size; (try simp at hs8); have := (show w1.heap.size < w8.heap.size from by omega); have := (show w5.heap.size < w8.heap.size from by omega); have := (show w6.heap.size < w8.heap.size from by omega))
        (go_wp2_with fail; refine (HR.out _ (HL.out.ext (by (repeat (first | with_reducible exact Ext.refl _ | with_reducible assumption | ((with_reducible apply Src.ext); with_reducible assumption) | with_reducible refine Ext.alloc ?_ _ | with_reducible refine Ext.drew ?_ | with_reducible refine Ext.drewN ?_ _ | ((with_reducible refine Ext.setCell' ?_ ?_ _); solve | omega | simp | (simp; omega)) | (with_reducible refine Ext.trans ?_ (by with_reducible assumption))))))).mono ?_; rintro e w9 ⟨rfl, hx9⟩; obtain ⟨hc9, hf9⟩ := hx9.rules; have hs9 := hx9.size; (try simp at hs9); have := (show w1.heap.size < w9.heap.size from by omega))
        go_wp2
        go_ret
        exact ⟨ret_bool' (by simp), by (repeat (first | with_reducible exact Ext.refl _ | with_reducible assumption | ((with_reducible apply Src.ext); with_reducible assumption) | with_reducible refine Ext.alloc ?_ _ | with_reducible refine Ext.drew ?_ | with_reducible refine Ext.drewN ?_ _ | ((with_reducible refine Ext.setCell' ?_ ?_ _); solve | omega | simp | (simp; omega)) | (with_reducible refine Ext.trans ?_ (by with_reducible assumption))))⟩
      · have HC : Hid (∀ W, Ld W → Calls Tryz.prog 24 #[.string t] W fun e w' => e = .returned (.tuple #[.agg #[.int .i64 (rcR t.data.toList).y, .int .i64 (rcR t.data.toList).k, .string (rcR t.data.toList).co, .string (rcR t.data.toList).ot, .string (rcR t.data.toList).la, .string (rcR t.data.toList).te], .int .i64 6]) ∧ Ext W w') := Lib.hid fun W hW => by have := i_ReadChange t W ht2 hW; rwa [hr] at this
        have HD : Hid (∀ W, Calls Tryz.prog 25 #[.string t] W fun e w' => e = .returned (.tuple #[.agg #[.int .i64 (rcR t.data.toList).y, .int .i64 (rcR t.data.toList).k, .string (rcR t.data.toList).co, .string (rcR t.data.toList).ot, .string (rcR t.data.toList).la, .string (rcR t.data.toList).te], .int .i64 6]) ∧ Ext W w') := Lib.hid fun W => by have := s_ReadChange t W ht2; rwa [hr] at this
        clear hr ht ht2
        generalize rcR t.data.toList = p at *
        obtain ⟨y2, k2, c2, o2, l2, t2⟩ := p
        simp only at HC HD
        (go_wp2_with fail; refine (HC.out _ (HL.out.ext (by (repeat (first | with_reducible exact Ext.refl _ | with_reducible assumption | ((with_reducible apply Src.ext); with_reducible assumption) | with_reducible refine Ext.alloc ?_ _ | with_reducible refine Ext.drew ?_ | with_reducible refine Ext.drewN ?_ _ | ((with_reducible refine Ext.setCell' ?_ ?_ _); solve | omega | simp | (simp; omega)) | (with_reducible refine Ext.trans ?_ (by with_reducible assumption))))))).mono ?_; rintro e w5 ⟨rfl, hx5⟩; obtain ⟨hc5, hf5⟩ := hx5.rules; have hs5 := hx5.size; (try simp at hs5); have := (show w1.heap.size < w5.heap.size from by omega))
        (go_wp2_with fail; refine (HD.out _).mono ?_; rintro e w6 ⟨rfl, hx6⟩; obtain ⟨hc6, hf6⟩ := hx6.rules; have hs6 := hx6.size; (try simp at hs6); have := (show w1.heap.size < w6.heap.size from by omega); have := (show w5.heap.size < w6.heap.size from by omega))
        (go_wp2_with fail; refine (HI.out _ (HL.out.ext (by (repeat (first | with_reducible exact Ext.refl _ | with_reducible assumption | ((with_reducible apply Src.ext); with_reducible assumption) | with_reducible refine Ext.alloc ?_ _ | with_reducible refine Ext.drew ?_ | with_reducible refine Ext.drewN ?_ _ | ((with_reducible refine Ext.setCell' ?_ ?_ _); solve | omega | simp | (simp; omega)) | (with_reducible refine Ext.trans ?_ (by with_reducible assumption))))))).mono ?_; rintro e w7 ⟨rfl, hx7⟩; obtain ⟨hc7, hf7⟩ := hx7.rules; have hs7 := hx7.size; (try simp at hs7); have := (show w1.heap.size < w7.heap.size from by omega); have := (show w5.heap.size < w7.heap.size from by omega); have := (show w6.heap.size < w7.heap.size from by omega))
        (go_wp2_with fail; refine (HR.out _ (HL.out.ext (by (repeat (first | with_reducible exact Ext.refl _ | with_reducible assumption | ((with_reducible apply Src.ext); with_reducible assumption) | with_reducible refine Ext.alloc ?_ _ | with_reducible refine Ext.drew ?_ | with_reducible refine Ext.drewN ?_ _ | ((with_reducible refine Ext.setCell' ?_ ?_ _); solve | omega | simp | (simp; omega)) | (with_reducible refine Ext.trans ?_ (by with_reducible assumption))))))).mono ?_; rintro e w9 ⟨rfl, hx9⟩; obtain ⟨hc9, hf9⟩ := hx9.rules; have hs9 := hx9.size; (try simp at hs9); have := (show w1.heap.size < w9.heap.size from by omega))
        go_wp2
        go_ret
        exact ⟨ret_bool' (by simp), by (repeat (first | with_reducible exact Ext.refl _ | with_reducible assumption | ((with_reducible apply Src.ext); with_reducible assumption) | with_reducible refine Ext.alloc ?_ _ | with_reducible refine Ext.drew ?_ | with_reducible refine Ext.drewN ?_ _ | ((with_reducible refine Ext.setCell' ?_ ?_ _); solve | omega | simp | (simp; omega)) | (with_reducible refine Ext.trans ?_ (by with_reducible assumption))))⟩
    | false =>
      have HI : Hid (∀ W, Ld W → Calls Tryz.prog 26 #[.agg #[.int .i64 y, .int .i64 k, .string sc, .string so, .string sl, .string st]] W fun e w' => e = .returned (.bool false) ∧ Ext W w') := Lib.hid fun W hW => by have := i_IsChange y k sc so sl st W (by omega) (by omega) (by omega) (by omega) hW.mx; rwa [hq] at this
      have hc := chC_one hq
      have HA : Hid (∀ W, Ld W → Calls Tryz.prog 21 #[.agg #[.int .i64 y, .int .i64 k, .string sc, .string so, .string sl, .string st]] W fun e w' => e = .returned (.tuple #[.string (tx (chR y k sc so sl st)), .int .i64 1]) ∧ Ext W w') := Lib.hid fun W hW => by have := i_ChangeText y k sc so sl st W (by omega) (by omega) (by omega) (by omega) hW.mx hW.tab; rwa [hc] at this
      have HB2 : Hid (∀ W, Calls Tryz.prog 22 #[.agg #[.int .i64 y, .int .i64 k, .string sc, .string so, .string sl, .string st]] W fun e w' => e = .returned (.tuple #[.string (tx (chR y k sc so sl st)), .int .i64 1]) ∧ Ext W w') := Lib.hid fun W => by have := s_ChangeText y k sc so sl st W (by omega) (by omega) (by omega) (by omega); rwa [hc] at this
      clear hq hc b1 b2 b3 b4 f1 f2
      generalize tx (chR y k sc so sl st) = a at *
      (go_wp2_with fail; refine (HA.out _ (HL.out.ext (by (repeat (first | with_reducible exact Ext.refl _ | with_reducible assumption | ((with_reducible apply Src.ext); with_reducible assumption) | with_reducible refine Ext.alloc ?_ _ | with_reducible refine Ext.drew ?_ | with_reducible refine Ext.drewN ?_ _ | ((with_reducible refine Ext.setCell' ?_ ?_ _); solve | omega | simp | (simp; omega)) | (with_reducible refine Ext.trans ?_ (by with_reducible assumption))))))).mono ?_; rintro e w2 ⟨rfl, hx2⟩; obtain ⟨hc2, hf2⟩ := hx2.rules; have hs2 := hx2.size; (try simp at hs2); have := (show w1.heap.size < w2.heap.size from by omega))
      (go_wp2_with fail; refine (HB2.out _).mono ?_; rintro e w3 ⟨rfl, hx3⟩; obtain ⟨hc3, hf3⟩ := hx3.rules; have hs3 := hx3.size; (try simp at hs3); have := (show w1.heap.size < w3.heap.size from by omega))
      go_wp2_with fail
      refine (HD2.out _ (by (repeat (first | with_reducible exact Ext.refl _ | with_reducible assumption | ((with_reducible apply Src.ext); with_reducible assumption) | with_reducible refine Ext.alloc ?_ _ | with_reducible refine Ext.drew ?_ | with_reducible refine Ext.drewN ?_ _ | ((with_reducible refine Ext.setCell' ?_ ?_ _); solve | omega | simp | (simp; omega)) | (with_reducible refine Ext.trans ?_ (by with_reducible assumption)))))).mono ?_
      rintro e w4 ⟨t, rfl, ht, hx4⟩
      obtain ⟨hc4, hf4⟩ := hx4.rules
      have hs4 := hx4.size
      (try simp at hs4)
      have := (show w1.heap.size < w4.heap.size from by omega)
      have ht2 : t.size ≤ 1048576 := by omega
      rcases rcC_two t.data.toList with hr | hr
      · have HC : Hid (∀ W, Ld W → Calls Tryz.prog 24 #[.string t] W fun e w' => e = .returned (.tuple #[.agg #[.int .i64 (rcR t.data.toList).y, .int .i64 (rcR t.data.toList).k, .string (rcR t.data.toList).co, .string (rcR t.data.toList).ot, .string (rcR t.data.toList).la, .string (rcR t.data.toList).te], .int .i64 0]) ∧ Ext W w') := Lib.hid fun W hW => by have := i_ReadChange t W ht2 hW; rwa [hr] at this
        have HD : Hid (∀ W, Calls Tryz.prog 25 #[.string t] W fun e w' => e = .returned (.tuple #[.agg #[.int .i64 (rcR t.data.toList).y, .int .i64 (rcR t.data.toList).k, .string (rcR t.data.toList).co, .string (rcR t.data.toList).ot, .string (rcR t.data.toList).la, .string (rcR t.data.toList).te], .int .i64 0]) ∧ Ext W w') := Lib.hid fun W => by have := s_ReadChange t W ht2; rwa [hr] at this
        have HE : Hid (∀ W, Ld W → Calls Tryz.prog 21 #[.agg #[.int .i64 (rcR t.data.toList).y, .int .i64 (rcR t.data.toList).k, .string (rcR t.data.toList).co, .string (rcR t.data.toList).ot, .string (rcR t.data.toList).la, .string (rcR t.data.toList).te]] W fun e w' => e = .returned (.tuple #[.string t, .int .i64 0]) ∧ Ext W w') := Lib.hid fun W hW => by
          obtain ⟨e1, e2⟩ := rc_again hr
          have hp := chT_parts (chB_of e1) (n := 401) (by rw [e2]; have := size_list t; omega)
          have := i_ChangeText (rcR t.data.toList).y (rcR t.data.toList).k (rcR t.data.toList).co (rcR t.data.toList).ot (rcR t.data.toList).la (rcR t.data.toList).te W (by have := hp.1; omega) (by have := hp.2.1; omega) (by have := hp.2.2.1; omega) (by have := hp.2.2.2; omega) hW.mx hW.tab
          rwa [e1, e2, ← eq_tx (show t.data.toList = t.data.toList from rfl)] at this
        clear hr ht ht2
        generalize rcR t.data.toList = p at *
        obtain ⟨y2, k2, c2, o2, l2, t2⟩ := p
        simp only at HC HD HE
        (go_wp2_with fail; refine (HC.out _ (HL.out.ext (by (repeat (first | with_reducible exact Ext.refl _ | with_reducible assumption | ((with_reducible apply Src.ext); with_reducible assumption) | with_reducible refine Ext.alloc ?_ _ | with_reducible refine Ext.drew ?_ | with_reducible refine Ext.drewN ?_ _ | ((with_reducible refine Ext.setCell' ?_ ?_ _); solve | omega | simp | (simp; omega)) | (with_reducible refine Ext.trans ?_ (by with_reducible assumption))))))).mono ?_; rintro e w5 ⟨rfl, hx5⟩; obtain ⟨hc5, hf5⟩ := hx5.rules; have hs5 := hx5.size; (try simp at hs5); have := (show w1.heap.size < w5.heap.size from by omega))
        (go_wp2_with fail; refine (HD.out _).mono ?_; rintro e w6 ⟨rfl, hx6⟩; obtain ⟨hc6, hf6⟩ := hx6.rules; have hs6 := hx6.size; (try simp at hs6); have := (show w1.heap.size < w6.heap.size from by omega); have := (show w5.heap.size < w6.heap.size from by omega))
        (go_wp2_with fail; refine (HI.out _ (HL.out.ext (by (repeat (first | with_reducible exact Ext.refl _ | with_reducible assumption | ((with_reducible apply Src.ext); with_reducible assumption) | with_reducible refine Ext.alloc ?_ _ | with_reducible refine Ext.drew ?_ | with_reducible refine Ext.drewN ?_ _ | ((with_reducible refine Ext.setCell' ?_ ?_ _); solve | omega | simp | (simp; omega)) | (with_reducible refine Ext.trans ?_ (by with_reducible assumption))))))).mono ?_; rintro e w7 ⟨rfl, hx7⟩; obtain ⟨hc7, hf7⟩ := hx7.rules; have hs7 := hx7.size; (try simp at hs7); have := (show w1.heap.size < w7.heap.size from by omega); have := (show w5.heap.size < w7.heap.size from by omega); have := (show w6.heap.size < w7.heap.size from by omega))
        (go_wp2_with fail; refine (HE.out _ (HL.out.ext (by (repeat (first | with_reducible exact Ext.refl _ | with_reducible assumption | ((with_reducible apply Src.ext); with_reducible assumption) | with_reducible refine Ext.alloc ?_ _ | with_reducible refine Ext.drew ?_ | with_reducible refine Ext.drewN ?_ _ | ((with_reducible refine Ext.setCell' ?_ ?_ _); solve | omega | simp | (simp; omega)) | (with_reducible refine Ext.trans ?_ (by with_reducible assumption))))))).mono ?_; rintro e w8 ⟨rfl, hx8⟩; obtain ⟨hc8, hf8⟩ := hx8.rules; have hs8 := hx8.size; (try simp at hs8); have := (show w1.heap.size < w8.heap.size from by omega); have := (show w5.heap.size < w8.heap.size from by omega); have := (show w6.heap.size < w8.heap.size from by omega))
        go_wp2
        go_ret
        exact ⟨ret_bool' (by simp), by (repeat (first | with_reducible exact Ext.refl _ | with_reducible assumption | ((with_reducible apply Src.ext); with_reducible assumption) | with_reducible refine Ext.alloc ?_ _ | with_reducible refine Ext.drew ?_ | with_reducible refine Ext.drewN ?_ _ | ((with_reducible refine Ext.setCell' ?_ ?_ _); solve | omega | simp | (simp; omega)) | (with_reducible refine Ext.trans ?_ (by with_reducible assumption))))⟩
      · have HC : Hid (∀ W, Ld W → Calls Tryz.prog 24 #[.string t] W fun e w' => e = .returned (.tuple #[.agg #[.int .i64 (rcR t.data.toList).y, .int .i64 (rcR t.data.toList).k, .string (rcR t.data.toList).co, .string (rcR t.data.toList).ot, .string (rcR t.data.toList).la, .string (rcR t.data.toList).te], .int .i64 6]) ∧ Ext W w') := Lib.hid fun W hW => by have := i_ReadChange t W ht2 hW; rwa [hr] at this
        have HD : Hid (∀ W, Calls Tryz.prog 25 #[.string t] W fun e w' => e = .returned (.tuple #[.agg #[.int .i64 (rcR t.data.toList).y, .int .i64 (rcR t.data.toList).k, .string (rcR t.data.toList).co, .string (rcR t.data.toList).ot, .string (rcR t.data.toList).la, .string (rcR t.data.toList).te], .int .i64 6]) ∧ Ext W w') := Lib.hid fun W => by have := s_ReadChange t W ht2; rwa [hr] at this
        clear hr ht ht2
        generalize rcR t.data.toList = p at *
        obtain ⟨y2, k2, c2, o2, l2, t2⟩ := p
        simp only at HC HD
        (go_wp2_with fail; refine (HC.out _ (HL.out.ext (by (repeat (first | with_reducible exact Ext.refl _ | with_reducible assumption | ((with_reducible apply Src.ext); with_reducible assumption) | with_reducible refine Ext.alloc ?_ _ | with_reducible refine Ext.drew ?_ | with_reducible refine Ext.drewN ?_ _ | ((with_reducible refine Ext.setCell' ?_ ?_ _); solve | omega | simp | (simp; omega)) | (with_reducible refine Ext.trans ?_ (by with_reducible assumption))))))).mono ?_; rintro e w5 ⟨rfl, hx5⟩; obtain ⟨hc5, hf5⟩ := hx5.rules; have hs5 := hx5.size; (try simp at hs5); have := (show w1.heap.size < w5.heap.size from by omega))
        (go_wp2_with fail; refine (HD.out _).mono ?_; rintro e w6 ⟨rfl, hx6⟩; obtain ⟨hc6, hf6⟩ := hx6.rules; have hs6 := hx6.size; (try simp at hs6); have := (show w1.heap.size < w6.heap.size from by omega); have := (show w5.heap.size < w6.heap.size from by omega))
        (go_wp2_with fail; refine (HI.out _ (HL.out.ext (by (repeat (first | with_reducible exact Ext.refl _ | with_reducible assumption | ((with_reducible apply Src.ext); with_reducible assumption) | with_reducible refine Ext.alloc ?_ _ | with_reducible refine Ext.drew ?_ | with_reducible refine Ext.drewN ?_ _ | ((with_reducible refine Ext.setCell' ?_ ?_ _); solve | omega | simp | (simp; omega)) | (with_reducible refine Ext.trans ?_ (by with_reducible assumption))))))).mono ?_; rintro e w7 ⟨rfl, hx7⟩; obtain ⟨hc7, hf7⟩ := hx7.rules; have hs7 := hx7.size; (try simp at hs7); have := (show w1.heap.size < w7.heap.size from by omega); have := (show w5.heap.size < w7.heap.size from by omega); have := (show w6.heap.size < w7.heap.size from by omega))
        go_wp2
        go_ret
        exact ⟨ret_bool' (by simp), by (repeat (first | with_reducible exact Ext.refl _ | with_reducible assumption | ((with_reducible apply Src.ext); with_reducible assumption) | with_reducible refine Ext.alloc ?_ _ | with_reducible refine Ext.drew ?_ | with_reducible refine Ext.drewN ?_ _ | ((with_reducible refine Ext.setCell' ?_ ?_ _); solve | omega | simp | (simp; omega)) | (with_reducible refine Ext.trans ?_ (by with_reducible assumption))))⟩
  · have hbg : ∀ W, Calls Tryz.prog 19 #[.slice A bs.length c] W fun e w' => e = .returned (.bool true) ∧ W = w' := fun W => by
      have := l_bigQ A c bs.length W
      rwa [decide_eq_true (by omega)] at this
    have HG := Lib.hid hbg
    clear hbg hl h hb hL
    generalize bs.length = nn at *
    go_enter Tryz.func4, Tryz.ntmps4
    (go_wp2_with fail; refine (HG.out _).mono ?_; rintro e w' ⟨rfl, rfl⟩)
    go_wp2
    go_ret
    exact ⟨rfl, by (repeat (first | with_reducible exact Ext.refl _ | with_reducible assumption | ((with_reducible apply Src.ext); with_reducible assumption) | with_reducible refine Ext.alloc ?_ _ | with_reducible refine Ext.drew ?_ | with_reducible refine Ext.drewN ?_ _ | ((with_reducible refine Ext.setCell' ?_ ?_ _); solve | omega | simp | (simp; omega)) | (with_reducible refine Ext.trans ?_ (by with_reducible assumption))))⟩
end Go.Proofs.YtabdffponmmhoaaGreatDoor
