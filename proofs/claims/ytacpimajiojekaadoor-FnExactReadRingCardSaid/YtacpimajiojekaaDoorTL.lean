/- The law of the points of texts, walked over the translation. -/
import Derived.Test.YtacpimajiojekaaDoorTJ
import Derived.Test.YtacpimajiojekaaDoorAP
import Derived.Deep.RegionHeld3
import Derived.Deep.DeepCutAuto
import Derived.RegionTactic
import Derived.BigRegion
import Derived.WalkLawsBesides
import Derived.WalkSpells
import Derived.Lib.MinMax
import Derived.Outline
namespace Go.Proofs.YtacpimajiojekaaDoor
open Go.RowKit
attribute [local go_sem] ExtOf.cell ExtOf.frozen

open Go.PlainAid
theorem l_bigT (A : Option Addr) (c : Nat) (n : Nat) (w : World) : Calls Tryd.prog 21 #[.slice A n c] w fun e w' => e = .returned (.bool (decide (4096 < n))) ∧ w = w' := by
  go_enter Tryd.func21, Tryd.ntmps21
  go_wp2
  go_ret
  exact ⟨ret_bool' (by simp; try omega), rfl⟩
theorem rdP_some {l : List UInt8} {x z : Int} (h : rdP l = some (x, z)) : okP x z = true ∧ l = ptT x z := by
  unfold rdP at h
  split at h
  · rename_i hx
    have e := Option.some.inj h
    have hs := hx.choose_spec
    rw [e] at hs
    exact hs
  · cases h
theorem rd_of {l : List UInt8} {r : Option (Int × Int)} (hr : rdP l = r) : rdX l = (r.getD (0, 0)).1 ∧ rdZ l = (r.getD (0, 0)).2 ∧ rdC l = if r.isSome then 0 else 6 := by unfold rdX rdZ rdC; rw [hr]; exact ⟨rfl, rfl, rfl⟩
theorem i_PointText_yes {x z : Int} (h : okP x z = true) (W : World) (hT : Tab W) : Calls Tryd.prog 12 #[.agg #[.int .i64 x, .int .i64 z]] W fun e w' => e = .returned (.tuple #[.string (tx (ptT x z)), .int .i64 0]) ∧ Ext W w' := by
  have := i_PointText x z W hT
  unfold ptR ptC at this
  rwa [if_pos h, if_pos h] at this
theorem i_PointText_no {x z : Int} (h : okP x z = false) (W : World) (hT : Tab W) : Calls Tryd.prog 12 #[.agg #[.int .i64 x, .int .i64 z]] W fun e w' => e = .returned (.tuple #[.string (tx []), .int .i64 1]) ∧ Ext W w' := by
  have := i_PointText x z W hT
  unfold ptR ptC at this
  rwa [if_neg (by simp [h]), if_neg (by simp [h])] at this
theorem s_PointText_yes {x z : Int} (h : okP x z = true) (W : World) : Calls Tryd.prog 10 #[.agg #[.int .i64 x, .int .i64 z]] W fun e w' => e = .returned (.tuple #[.string (tx (ptT x z)), .int .i64 0]) ∧ Ext W w' := by
  have := s_PointText x z W
  unfold ptR ptC at this
  rwa [if_pos h, if_pos h] at this
theorem s_PointText_no {x z : Int} (h : okP x z = false) (W : World) : Calls Tryd.prog 10 #[.agg #[.int .i64 x, .int .i64 z]] W fun e w' => e = .returned (.tuple #[.string (tx []), .int .i64 1]) ∧ Ext W w' := by
  have := s_PointText x z W
  unfold ptR ptC at this
  rwa [if_neg (by simp [h]), if_neg (by simp [h])] at this
theorem i_ReadPoint_yes {t : ByteArray} {x z : Int} (h : rdP t.data.toList = some (x, z)) (ht : t.size ≤ 1048576) (W : World) (hL : Ld W) : Calls Tryd.prog 19 #[.string t] W fun e w' => e = .returned (.tuple #[.agg #[.int .i64 x, .int .i64 z], .int .i64 0]) ∧ Ext W w' := by
  have := i_ReadPoint t W ht hL
  obtain ⟨e1, e2, e3⟩ := rd_of h
  rw [e1, e2, e3] at this
  exact this
theorem i_ReadPoint_no {t : ByteArray} (h : rdP t.data.toList = none) (ht : t.size ≤ 1048576) (W : World) (hL : Ld W) : Calls Tryd.prog 19 #[.string t] W fun e w' => e = .returned (.tuple #[.agg #[.int .i64 0, .int .i64 0], .int .i64 6]) ∧ Ext W w' := by
  have := i_ReadPoint t W ht hL
  obtain ⟨e1, e2, e3⟩ := rd_of h
  rw [e1, e2, e3] at this
  exact this
theorem s_ReadPoint_yes {t : ByteArray} {x z : Int} (h : rdP t.data.toList = some (x, z)) (ht : t.size ≤ 1048576) (W : World) : Calls Tryd.prog 18 #[.string t] W fun e w' => e = .returned (.tuple #[.agg #[.int .i64 x, .int .i64 z], .int .i64 0]) ∧ Ext W w' := by
  have := s_ReadPoint t W ht
  obtain ⟨e1, e2, e3⟩ := rd_of h
  rw [e1, e2, e3] at this
  exact this
theorem s_ReadPoint_no {t : ByteArray} (h : rdP t.data.toList = none) (ht : t.size ≤ 1048576) (W : World) : Calls Tryd.prog 18 #[.string t] W fun e w' => e = .returned (.tuple #[.agg #[.int .i64 0, .int .i64 0], .int .i64 6]) ∧ Ext W w' := by
  have := s_ReadPoint t W ht
  obtain ⟨e1, e2, e3⟩ := rd_of h
  rw [e1, e2, e3] at this
  exact this

set_option maxRecDepth 20000 in
set_option maxHeartbeats 12800000 in
theorem fnPointTexts_walk (A : Option Addr) (c : Nat) (bs : List Int) (w : World) (h : SlAt w 1 encB A bs) (hb : ∀ b ∈ bs, 0 ≤ b ∧ b ≤ 255) (hL : Ld w) :
    Calls Tryd.prog 6 #[.slice A bs.length c] w fun e w' => e = .returned (.bool true) ∧ Ext w w' := by
  have HB := Lib.hid hb
  have HT := Lib.hid hL
  clear hb hL
  by_cases hl : bs.length ≤ 4096
  · have hbg : ∀ W, Calls Tryd.prog 21 #[.slice A bs.length c] W fun e w' => e = .returned (.bool false) ∧ W = w' := fun W => by
      have := l_bigT A c bs.length W
      rwa [decide_eq_false (by omega)] at this
    have HG := Lib.hid hbg
    have HL := Lib.hid hl
    clear hbg hl
    go_enter Tryd.func6, Tryd.ntmps6
    (go_wp2_with fail; refine (HG.out _).mono ?_; rintro e w' ⟨rfl, rfl⟩)
    go_wp2_with fail
    refine (s_DrawPointText _ _ bs _ (h.ext (by (repeat (first | with_reducible exact Ext.refl _ | with_reducible assumption | ((with_reducible apply Src.ext); with_reducible assumption) | with_reducible refine Ext.alloc ?_ _ | with_reducible refine Ext.drew ?_ | with_reducible refine Ext.drewN ?_ _ | ((with_reducible refine Ext.setCell' ?_ ?_ _); solve | omega | simp | (simp; omega)) | (with_reducible refine Ext.trans ?_ (by with_reducible assumption)))))) HB.out HL.out).mono ?_
    rintro e w1 ⟨x, z, rfl, hx1⟩
    obtain ⟨hc1, hf1⟩ := hx1.rules
    have hs1 := hx1.size
    (try simp at hs1)
    have HI := Lib.hid fun W => i_IsPoint x z W
    cases ho : okP x z with
    | true =>
      rw [ho] at HI
      have HA := Lib.hid fun W hT => i_PointText_yes ho W hT
      have HB2 := Lib.hid fun W => s_PointText_yes ho W
      have HR := Lib.hid fun W hL => i_ReadPoint_yes (t := tx (ptT x z)) (rdP_yes ho (tx_list _)) (by have := okP_num ho; have := ptT_tx_size this.1 this.2; omega) W hL
      generalize tx (ptT x z) = a at *
      clear ho
      (go_wp2_with fail; refine (HA.out _ (HT.out.tab.ext (by (repeat (first | with_reducible exact Ext.refl _ | with_reducible assumption | ((with_reducible apply Src.ext); with_reducible assumption) | with_reducible refine Ext.alloc ?_ _ | with_reducible refine Ext.drew ?_ | with_reducible refine Ext.drewN ?_ _ | ((with_reducible refine Ext.setCell' ?_ ?_ _); solve | omega | simp | (simp; omega)) | (with_reducible refine Ext.trans ?_ (by with_reducible assumption))))))).mono ?_; rintro e w2 ⟨rfl, hx2⟩; obtain ⟨hc2, hf2⟩ := hx2.rules; have hs2 := hx2.size; (try simp at hs2); have := (show w1.heap.size < w2.heap.size from by omega))
      (go_wp2_with fail; refine (HB2.out _).mono ?_; rintro e w3 ⟨rfl, hx3⟩; obtain ⟨hc3, hf3⟩ := hx3.rules; have hs3 := hx3.size; (try simp at hs3); have := (show w1.heap.size < w3.heap.size from by omega))
      go_wp2_with fail
      refine (s_DrawReadPoint _ _ bs _ (h.ext (by (repeat (first | with_reducible exact Ext.refl _ | with_reducible assumption | ((with_reducible apply Src.ext); with_reducible assumption) | with_reducible refine Ext.alloc ?_ _ | with_reducible refine Ext.drew ?_ | with_reducible refine Ext.drewN ?_ _ | ((with_reducible refine Ext.setCell' ?_ ?_ _); solve | omega | simp | (simp; omega)) | (with_reducible refine Ext.trans ?_ (by with_reducible assumption)))))) HB.out HL.out).mono ?_
      rintro e w4 ⟨t, rfl, ht, hx4⟩
      obtain ⟨hc4, hf4⟩ := hx4.rules
      have hs4 := hx4.size
      (try simp at hs4)
      have := (show w1.heap.size < w4.heap.size from by omega)
      have ht2 : t.size ≤ 1048576 := by omega
      rcases hr : rdP t.data.toList with _ | ⟨x2, z2⟩
      · have HC := Lib.hid fun W hL => i_ReadPoint_no hr ht2 W hL
        have HD := Lib.hid fun W => s_ReadPoint_no hr ht2 W
        clear hr ht ht2
        (go_wp2_with fail; refine (HC.out _ (HT.out.ext (by (repeat (first | with_reducible exact Ext.refl _ | with_reducible assumption | ((with_reducible apply Src.ext); with_reducible assumption) | with_reducible refine Ext.alloc ?_ _ | with_reducible refine Ext.drew ?_ | with_reducible refine Ext.drewN ?_ _ | ((with_reducible refine Ext.setCell' ?_ ?_ _); solve | omega | simp | (simp; omega)) | (with_reducible refine Ext.trans ?_ (by with_reducible assumption))))))).mono ?_; rintro e w5 ⟨rfl, hx5⟩; obtain ⟨hc5, hf5⟩ := hx5.rules; have hs5 := hx5.size; (try simp at hs5); have := (show w1.heap.size < w5.heap.size from by omega))
        (go_wp2_with fail; refine (HD.out _).mono ?_; rintro e w6 ⟨rfl, hx6⟩; obtain ⟨hc6, hf6⟩ := hx6.rules; have hs6 := hx6.size; (try simp at hs6); have := (show w1.heap.size < w6.heap.size from by omega); have := (show w5.heap.size < w6.heap.size from by omega))
        (go_wp2_with fail; refine (HI.out _).mono ?_; rintro e w7 ⟨rfl, hx7⟩; obtain ⟨hc7, hf7⟩ := hx7.rules; have hs7 := hx7.size; (try simp at hs7); have := (show w1.heap.size < w7.heap.size from by omega); have := (show w5.heap.size < w7.heap.size from by omega); have := (show w6.heap.size < w7.heap.size from by omega))
        (go_wp2_with fail; refine (HR.out _ (HT.out.ext (by (repeat (first | with_reducible exact Ext.refl _ | with_reducible assumption | ((with_reducible apply Src.ext); with_reducible assumption) | with_reducible refine Ext.alloc ?_ _ | with_reducible refine Ext.drew ?_ | with_reducible refine Ext.drewN ?_ _ | ((with_reducible refine Ext.setCell' ?_ ?_ _); solve | omega | simp | (simp; omega)) | (with_reducible refine Ext.trans ?_ (by with_reducible assumption))))))).mono ?_; rintro e w9 ⟨rfl, hx9⟩; obtain ⟨hc9, hf9⟩ := hx9.rules; have hs9 := hx9.size; (try simp at hs9); have := (show w1.heap.size < w9.heap.size from by omega))
        go_wp2
        go_ret
        exact ⟨ret_bool' (by simp [eqP]), by (repeat (first | with_reducible exact Ext.refl _ | with_reducible assumption | ((with_reducible apply Src.ext); with_reducible assumption) | with_reducible refine Ext.alloc ?_ _ | with_reducible refine Ext.drew ?_ | with_reducible refine Ext.drewN ?_ _ | ((with_reducible refine Ext.setCell' ?_ ?_ _); solve | omega | simp | (simp; omega)) | (with_reducible refine Ext.trans ?_ (by with_reducible assumption))))⟩
      · have HC := Lib.hid fun W hL => i_ReadPoint_yes hr ht2 W hL
        have HD := Lib.hid fun W => s_ReadPoint_yes hr ht2 W
        obtain ⟨ho2, he2⟩ := rdP_some hr
        have HE := Lib.hid fun W hT => i_PointText_yes ho2 W hT
        rw [← eq_tx he2] at HE
        clear ho2 he2
        clear hr ht ht2
        have hq2 : eqP x2 z2 x2 z2 = true := by simp [eqP]
        (go_wp2_with fail; refine (HC.out _ (HT.out.ext (by (repeat (first | with_reducible exact Ext.refl _ | with_reducible assumption | ((with_reducible apply Src.ext); with_reducible assumption) | with_reducible refine Ext.alloc ?_ _ | with_reducible refine Ext.drew ?_ | with_reducible refine Ext.drewN ?_ _ | ((with_reducible refine Ext.setCell' ?_ ?_ _); solve | omega | simp | (simp; omega)) | (with_reducible refine Ext.trans ?_ (by with_reducible assumption))))))).mono ?_; rintro e w5 ⟨rfl, hx5⟩; obtain ⟨hc5, hf5⟩ := hx5.rules; have hs5 := hx5.size; (try simp at hs5); have := (show w1.heap.size < w5.heap.size from by omega))
        (go_wp2_with fail; refine (HD.out _).mono ?_; rintro e w6 ⟨rfl, hx6⟩; obtain ⟨hc6, hf6⟩ := hx6.rules; have hs6 := hx6.size; (try simp at hs6); have := (show w1.heap.size < w6.heap.size from by omega); have := (show w5.heap.size < w6.heap.size from by omega))
        (go_wp2_with fail; refine (HI.out _).mono ?_; rintro e w7 ⟨rfl, hx7⟩; obtain ⟨hc7, hf7⟩ := hx7.rules; have hs7 := hx7.size; (try simp at hs7); have := (show w1.heap.size < w7.heap.size from by omega); have := (show w5.heap.size < w7.heap.size from by omega); have := (show w6.heap.size < w7.heap.size from by omega))
        (go_wp2_with fail; refine (HE.out _ (HT.out.tab.ext (by (repeat (first | with_reducible exact Ext.refl _ | with_reducible assumption | ((with_reducible apply Src.ext); with_reducible assumption) | with_reducible refine Ext.alloc ?_ _ | with_reducible refine Ext.drew ?_ | with_reducible refine Ext.drewN ?_ _ | ((with_reducible refine Ext.setCell' ?_ ?_ _); solve | omega | simp | (simp; omega)) | (with_reducible refine Ext.trans ?_ (by with_reducible assumption))))))).mono ?_; rintro e w8 ⟨rfl, hx8⟩; obtain ⟨hc8, hf8⟩ := hx8.rules; have hs8 := hx8.size; (try simp at hs8); have := (show w1.heap.size < w8.heap.size from by omega); have := (show w5.heap.size < w8.heap.size from by omega); have := (show w6.heap.size < w8.heap.size from by omega))
        (go_wp2_with fail; refine (HR.out _ (HT.out.ext (by (repeat (first | with_reducible exact Ext.refl _ | with_reducible assumption | ((with_reducible apply Src.ext); with_reducible assumption) | with_reducible refine Ext.alloc ?_ _ | with_reducible refine Ext.drew ?_ | with_reducible refine Ext.drewN ?_ _ | ((with_reducible refine Ext.setCell' ?_ ?_ _); solve | omega | simp | (simp; omega)) | (with_reducible refine Ext.trans ?_ (by with_reducible assumption))))))).mono ?_; rintro e w9 ⟨rfl, hx9⟩; obtain ⟨hc9, hf9⟩ := hx9.rules; have hs9 := hx9.size; (try simp at hs9); have := (show w1.heap.size < w9.heap.size from by omega))
        go_wp2
        go_ret
        exact ⟨ret_bool' (by simp [eqP]), by (repeat (first | with_reducible exact Ext.refl _ | with_reducible assumption | ((with_reducible apply Src.ext); with_reducible assumption) | with_reducible refine Ext.alloc ?_ _ | with_reducible refine Ext.drew ?_ | with_reducible refine Ext.drewN ?_ _ | ((with_reducible refine Ext.setCell' ?_ ?_ _); solve | omega | simp | (simp; omega)) | (with_reducible refine Ext.trans ?_ (by with_reducible assumption))))⟩
    | false =>
      rw [ho] at HI
      have HA := Lib.hid fun W hT => i_PointText_no ho W hT
      have HB2 := Lib.hid fun W => s_PointText_no ho W
      generalize tx [] = a at *
      clear ho
      (go_wp2_with fail; refine (HA.out _ (HT.out.tab.ext (by (repeat (first | with_reducible exact Ext.refl _ | with_reducible assumption | ((with_reducible apply Src.ext); with_reducible assumption) | with_reducible refine Ext.alloc ?_ _ | with_reducible refine Ext.drew ?_ | with_reducible refine Ext.drewN ?_ _ | ((with_reducible refine Ext.setCell' ?_ ?_ _); solve | omega | simp | (simp; omega)) | (with_reducible refine Ext.trans ?_ (by with_reducible assumption))))))).mono ?_; rintro e w2 ⟨rfl, hx2⟩; obtain ⟨hc2, hf2⟩ := hx2.rules; have hs2 := hx2.size; (try simp at hs2); have := (show w1.heap.size < w2.heap.size from by omega))
      (go_wp2_with fail; refine (HB2.out _).mono ?_; rintro e w3 ⟨rfl, hx3⟩; obtain ⟨hc3, hf3⟩ := hx3.rules; have hs3 := hx3.size; (try simp at hs3); have := (show w1.heap.size < w3.heap.size from by omega))
      go_wp2_with fail
      refine (s_DrawReadPoint _ _ bs _ (h.ext (by (repeat (first | with_reducible exact Ext.refl _ | with_reducible assumption | ((with_reducible apply Src.ext); with_reducible assumption) | with_reducible refine Ext.alloc ?_ _ | with_reducible refine Ext.drew ?_ | with_reducible refine Ext.drewN ?_ _ | ((with_reducible refine Ext.setCell' ?_ ?_ _); solve | omega | simp | (simp; omega)) | (with_reducible refine Ext.trans ?_ (by with_reducible assumption)))))) HB.out HL.out).mono ?_
      rintro e w4 ⟨t, rfl, ht, hx4⟩
      obtain ⟨hc4, hf4⟩ := hx4.rules
      have hs4 := hx4.size
      (try simp at hs4)
      have := (show w1.heap.size < w4.heap.size from by omega)
      have ht2 : t.size ≤ 1048576 := by omega
      rcases hr : rdP t.data.toList with _ | ⟨x2, z2⟩
      · have HC := Lib.hid fun W hL => i_ReadPoint_no hr ht2 W hL
        have HD := Lib.hid fun W => s_ReadPoint_no hr ht2 W
        clear hr ht ht2
        (go_wp2_with fail; refine (HC.out _ (HT.out.ext (by (repeat (first | with_reducible exact Ext.refl _ | with_reducible assumption | ((with_reducible apply Src.ext); with_reducible assumption) | with_reducible refine Ext.alloc ?_ _ | with_reducible refine Ext.drew ?_ | with_reducible refine Ext.drewN ?_ _ | ((with_reducible refine Ext.setCell' ?_ ?_ _); solve | omega | simp | (simp; omega)) | (with_reducible refine Ext.trans ?_ (by with_reducible assumption))))))).mono ?_; rintro e w5 ⟨rfl, hx5⟩; obtain ⟨hc5, hf5⟩ := hx5.rules; have hs5 := hx5.size; (try simp at hs5); have := (show w1.heap.size < w5.heap.size from by omega))
        (go_wp2_with fail; refine (HD.out _).mono ?_; rintro e w6 ⟨rfl, hx6⟩; obtain ⟨hc6, hf6⟩ := hx6.rules; have hs6 := hx6.size; (try simp at hs6); have := (show w1.heap.size < w6.heap.size from by omega); have := (show w5.heap.size < w6.heap.size from by omega))
        (go_wp2_with fail; refine (HI.out _).mono ?_; rintro e w7 ⟨rfl, hx7⟩; obtain ⟨hc7, hf7⟩ := hx7.rules; have hs7 := hx7.size; (try simp at hs7); have := (show w1.heap.size < w7.heap.size from by omega); have := (show w5.heap.size < w7.heap.size from by omega); have := (show w6.heap.size < w7.heap.size from by omega))
        go_wp2
        go_ret
        exact ⟨rfl, by (repeat (first | with_reducible exact Ext.refl _ | with_reducible assumption | ((with_reducible apply Src.ext); with_reducible assumption) | with_reducible refine Ext.alloc ?_ _ | with_reducible refine Ext.drew ?_ | with_reducible refine Ext.drewN ?_ _ | ((with_reducible refine Ext.setCell' ?_ ?_ _); solve | omega | simp | (simp; omega)) | (with_reducible refine Ext.trans ?_ (by with_reducible assumption))))⟩
      · have HC := Lib.hid fun W hL => i_ReadPoint_yes hr ht2 W hL
        have HD := Lib.hid fun W => s_ReadPoint_yes hr ht2 W
        obtain ⟨ho2, he2⟩ := rdP_some hr
        have HE := Lib.hid fun W hT => i_PointText_yes ho2 W hT
        rw [← eq_tx he2] at HE
        clear ho2 he2
        clear hr ht ht2
        have hq2 : eqP x2 z2 x2 z2 = true := by simp [eqP]
        (go_wp2_with fail; refine (HC.out _ (HT.out.ext (by (repeat (first | with_reducible exact Ext.refl _ | with_reducible assumption | ((with_reducible apply Src.ext); with_reducible assumption) | with_reducible refine Ext.alloc ?_ _ | with_reducible refine Ext.drew ?_ | with_reducible refine Ext.drewN ?_ _ | ((with_reducible refine Ext.setCell' ?_ ?_ _); solve | omega | simp | (simp; omega)) | (with_reducible refine Ext.trans ?_ (by with_reducible assumption))))))).mono ?_; rintro e w5 ⟨rfl, hx5⟩; obtain ⟨hc5, hf5⟩ := hx5.rules; have hs5 := hx5.size; (try simp at hs5); have := (show w1.heap.size < w5.heap.size from by omega))
        (go_wp2_with fail; refine (HD.out _).mono ?_; rintro e w6 ⟨rfl, hx6⟩; obtain ⟨hc6, hf6⟩ := hx6.rules; have hs6 := hx6.size; (try simp at hs6); have := (show w1.heap.size < w6.heap.size from by omega); have := (show w5.heap.size < w6.heap.size from by omega))
        (go_wp2_with fail; refine (HI.out _).mono ?_; rintro e w7 ⟨rfl, hx7⟩; obtain ⟨hc7, hf7⟩ := hx7.rules; have hs7 := hx7.size; (try simp at hs7); have := (show w1.heap.size < w7.heap.size from by omega); have := (show w5.heap.size < w7.heap.size from by omega); have := (show w6.heap.size < w7.heap.size from by omega))
        (go_wp2_with fail; refine (HE.out _ (HT.out.tab.ext (by (repeat (first | with_reducible exact Ext.refl _ | with_reducible assumption | ((with_reducible apply Src.ext); with_reducible assumption) | with_reducible refine Ext.alloc ?_ _ | with_reducible refine Ext.drew ?_ | with_reducible refine Ext.drewN ?_ _ | ((with_reducible refine Ext.setCell' ?_ ?_ _); solve | omega | simp | (simp; omega)) | (with_reducible refine Ext.trans ?_ (by with_reducible assumption))))))).mono ?_; rintro e w8 ⟨rfl, hx8⟩; obtain ⟨hc8, hf8⟩ := hx8.rules; have hs8 := hx8.size; (try simp at hs8); have := (show w1.heap.size < w8.heap.size from by omega); have := (show w5.heap.size < w8.heap.size from by omega); have := (show w6.heap.size < w8.heap.size from by omega))
        go_wp2
        go_ret
        exact ⟨rfl, by (repeat (first | with_reducible exact Ext.refl _ | with_reducible assumption | ((with_reducible apply Src.ext); with_reducible assumption) | with_reducible refine Ext.alloc ?_ _ | with_reducible refine Ext.drew ?_ | with_reducible refine Ext.drewN ?_ _ | ((with_reducible refine Ext.setCell' ?_ ?_ _); solve | omega | simp | (simp; omega)) | (with_reducible refine Ext.trans ?_ (by with_reducible assumption))))⟩
  · have hbg : ∀ W, Calls Tryd.prog 21 #[.slice A bs.length c] W fun e w' => e = .returned (.bool true) ∧ W = w' := fun W => by
      have := l_bigT A c bs.length W
      rwa [decide_eq_true (by omega)] at this
    have HG := Lib.hid hbg
    clear hbg
    go_enter Tryd.func6, Tryd.ntmps6
    (go_wp2_with fail; refine (HG.out _).mono ?_; rintro e w' ⟨rfl, rfl⟩)
    go_wp2
    go_ret
    exact ⟨rfl, by (repeat (first | with_reducible exact Ext.refl _ | with_reducible assumption | ((with_reducible apply Src.ext); with_reducible assumption) | with_reducible refine Ext.alloc ?_ _ | with_reducible refine Ext.drew ?_ | with_reducible refine Ext.drewN ?_ _ | ((with_reducible refine Ext.setCell' ?_ ?_ _); solve | omega | simp | (simp; omega)) | (with_reducible refine Ext.trans ?_ (by with_reducible assumption))))⟩

end Go.Proofs.YtacpimajiojekaaDoor
