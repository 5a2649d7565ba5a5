/- The law of meetings, walked over the translation. -/
import Derived.Test.YtncccigbiefnkaaGreatDoorH5
import Derived.Test.YtncccigbiefnkaaGreatDoorDE
import Derived.Test.YtncccigbiefnkaaGreatDoorRS
import Derived.Test.YtncccigbiefnkaaGreatDoorRO
import Derived.Test.YtncccigbiefnkaaGreatDoorW8
import Derived.Test.YtncccigbiefnkaaGreatDoorU4
import Derived.Test.YtncccigbiefnkaaGreatDoorW7
namespace Go.Proofs.YtncccigbiefnkaaGreatDoor
open Go.RowKit
attribute [local go_sem] ExtOf.cell ExtOf.frozen

theorem yiV_len12 (L : List Lk) (a b : List UInt8) : (yiV L a b).length ≤ 12 := by
  by_cases h : yiC L a b = 0
  · rw [yiV_ok h]
    have := (yiC_zero h).2.2.2
    omega
  · rw [yiV_no h]
    exact Nat.zero_le _
theorem LnksOk.end_ {L : List Lk} (h : LnksOk L) (x : List UInt8) (z : Int) : Links (endR L x z) := by
  unfold endR
  split
  · intro j
    rcases Nat.lt_or_ge j (endTo L x z L.length).length with hj | hj
    · rw [lk_at hj]
      obtain ⟨l, hl, e, _⟩ := endTo_mem (List.getElem_mem hj)
      rw [e, cutK_child, cutK_parent]
      have := h l hl
      exact ⟨by have := this.1; omega, by have := this.2.1; omega⟩
    · rw [List.getD_eq_getElem?_getD, List.getElem?_eq_none hj]
      simp [lkD]
  · intro j
    simp [lkD]
theorem wayF_len (L : List Lk) (x : List UInt8) (y : Int) (hl : L.length ≤ 21) : (wayR L x y).length ≤ 1000 := by
  unfold wayR
  split
  · obtain ⟨_, _, h⟩ := wayU_ne L x y
    omega
  · simp

set_option maxRecDepth 20000 in
set_option maxHeartbeats 51200000 in
theorem fnMeetings_walk (A : Option Addr) (c : Nat) (bs : List Int) (w : World) (h : SlAt w 1 encB A bs) (hb : ∀ b ∈ bs, 0 ≤ b ∧ b ≤ 255) :
    Calls Tryz.prog 3 #[.slice A bs.length c] w fun e w' => e = .returned (.bool true) ∧ Ext w w' := by
  have HB := Lib.hid hb
  clear hb
  by_cases hl : bs.length ≤ 4096
  · have hbg : ∀ W, Calls Tryz.prog 7 #[.slice A bs.length c] W fun e w' => e = .returned (.bool false) ∧ W = w' := fun W => by
      have := l_bigQ A c bs.length W
      rwa [decide_eq_false (by omega)] at this
    have HG := Lib.hid hbg
    have HL := Lib.hid hl
    clear hbg hl
    have HS0 := Lib.hid h
    clear h
    obtain ⟨nn, hnn⟩ : ∃ n, n = bs.length := ⟨_, rfl⟩
    have HDY : Hid (∀ W, Ext w W → Calls Tryz.prog 8 #[.slice A nn c] W fun e w' => ∃ (A' : Option Addr) (c' : Nat) (L : List Lk) (a b : List UInt8), e = .returned (.tuple #[.slice A' L.length c', .string (tx a), .string (tx b)]) ∧ SlAt w' 4 encK A' L ∧ L.length ≤ c' ∧ (L.length ≤ 21 ∧ LnksOk L) ∧ (a.length ≤ 4 ∧ b.length ≤ 17) ∧ Ext W w') := Lib.hid (fun W hW => by rw [hnn]; exact s_DrawYearsInside A c bs W (HS0.out.ext hW) HB.out HL.out)
    have HDM : Hid (∀ W, Ext w W → Calls Tryz.prog 11 #[.slice A nn c] W fun e w' => ∃ (A' : Option Addr) (c' : Nat) (L : List Lk) (a b : List UInt8) (y : Int), e = .returned (.tuple #[.slice A' L.length c', .string (tx a), .string (tx b), .int .i64 y]) ∧ SlAt w' 4 encK A' L ∧ L.length ≤ c' ∧ (L.length ≤ 21 ∧ LnksOk L) ∧ (a.length ≤ 17 ∧ b.length ≤ 4) ∧ (-4000 ≤ y ∧ y ≤ 4000) ∧ Ext W w') := Lib.hid (fun W hW => by rw [hnn]; exact s_DrawMeetingIn A c bs W (HS0.out.ext hW) HB.out HL.out)
    have HDE : Hid (∀ W, Ext w W → Calls Tryz.prog 14 #[.slice A nn c] W fun e w' => ∃ (A' : Option Addr) (c' : Nat) (L : List Lk) (t : List UInt8) (y : Int), e = .returned (.tuple #[.slice A' L.length c', .string (tx t), .int .i64 y]) ∧ SlAt w' 4 encK A' L ∧ L.length ≤ c' ∧ (L.length ≤ 21 ∧ LnksOk L) ∧ (t.length ≤ 17 ∧ -4000 ≤ y ∧ y ≤ 4000) ∧ Ext W w') := Lib.hid (fun W hW => by rw [hnn]; exact s_DrawEndLinks A c bs W (HS0.out.ext hW) HB.out HL.out)
    have HRO : Hid (∀ W, Ext w W → Calls Tryz.prog 22 #[.slice A nn c, .int .u64 1201] W fun e w' => ∃ g, e = .returned (.pointer (some ⟨g, 0, none⟩)) ∧ Dic W A c bs g w') := Lib.hid (fun W hW => by rw [hnn]; exact l_roll A c bs 1201 W (HS0.out.ext hW) HB.out HL.out)
    rw [← hnn] at HG ⊢
    clear hnn HS0 HB HL
    go_enter Tryz.func3, Tryz.ntmps3
    (go_wp2_with fail; refine (HG.out _).mono ?_; rintro e w' ⟨rfl, rfl⟩)
    go_wp2_with fail
    refine (HDY.out _ (by (repeat (first | with_reducible exact Ext.refl _ | with_reducible assumption | ((with_reducible apply Src.ext); with_reducible assumption) | with_reducible refine Ext.alloc ?_ _ | with_reducible refine Ext.drew ?_ | with_reducible refine Ext.drewN ?_ _ | ((with_reducible refine Ext.setCell' ?_ ?_ _); solve | omega | simp | (simp; omega)) | (with_reducible refine Ext.trans ?_ (by with_reducible assumption)))))).mono ?_
    rintro e w1 ⟨A1, c1, L1, ta, tb, rfl, hS1, hc1, ⟨hl1, hk1⟩, ⟨hta, htb⟩, hx1⟩
    have HYI := Lib.hid fun W (hW : Ext w1 W) => i_YearsInside A1 L1.length c1 L1 ta tb W (hS1.ext hW) rfl (by omega) hc1 hk1.links (by omega) (by omega)
    have HYS := Lib.hid fun W (hW : Ext w1 W) => s_YearsInside A1 L1.length c1 L1 ta tb W (hS1.ext hW) rfl (by omega) hk1.links (by omega) (by omega)
    have HYL := Lib.hid (yi_law (L := L1) (a := ta) (b := tb))
    have HWU : Hid (yiC L1 ta tb = 0 → ∀ W (y : Int), Ext w1 W → -3000 ≤ y → y ≤ 3000 → Calls Tryz.prog 25 #[.slice A1 L1.length c1, .string (tx ta), .int .i64 y] W fun e w' => ∃ v, e = .returned (.tuple #[v, .int .i64 0]) ∧ OwS w' W.heap.size v (wayR L1 ta y) ∧ Ext W w') := Lib.hid (fun hz W y hW y1 y2 => by
      have := i_WayUp A1 L1.length c1 L1 ta y W (hS1.ext hW) rfl (by omega) hc1 hk1.links (by omega)
      rwa [((yi_law hz).2 y y1 y2).1] at this)
    have HWN := Lib.hid (fun y => wayF_len L1 ta y hl1)
    have HYN := Lib.hid (yiV_len12 L1 ta tb)
    obtain ⟨n1, hn1⟩ : ∃ n1, n1 = L1.length := ⟨_, rfl⟩
    rw [← hn1] at HYI HYS HWU ⊢
    generalize yiC L1 ta tb = cy at *
    generalize yiV L1 ta tb = S at *
    generalize wayR L1 ta = WF at *
    clear hn1 hS1 hc1 hl1 hk1 hta htb
    obtain ⟨ny, hny⟩ : ∃ ny, ny = S.length := ⟨_, rfl⟩
    rw [← hny] at HYN
    have HNY := Lib.hid hny
    clear hny
    obtain ⟨sa, hsa⟩ : ∃ s, s = tx ta := ⟨_, rfl⟩
    obtain ⟨sb, hsb⟩ : ∃ s, s = tx tb := ⟨_, rfl⟩
    rw [← hsa] at HYI HYS HWU ⊢
    rw [← hsb] at HYI HYS ⊢
    have HSB := Lib.hid hsb
    clear hsa hsb
    go_wp2_with fail
    refine (HYI.out _ (by (repeat (first | with_reducible exact Ext.refl _ | with_reducible assumption | ((with_reducible apply Src.ext); with_reducible assumption) | with_reducible refine Ext.alloc ?_ _ | with_reducible refine Ext.drew ?_ | with_reducible refine Ext.drewN ?_ _ | ((with_reducible refine Ext.setCell' ?_ ?_ _); solve | omega | simp | (simp; omega)) | (with_reducible refine Ext.trans ?_ (by with_reducible assumption)))))).mono ?_
    rintro e w2 ⟨v2, rfl, hO2, hx2⟩
    obtain ⟨A2, c2, rfl, hS2, -, -, -⟩ := hO2.sl len_encSn
    rw [← HNY.out]
    have HS2 := Lib.hid hS2
    clear hO2 hS2
    go_wp2_with fail
    refine (HYS.out _ (by (repeat (first | with_reducible exact Ext.refl _ | with_reducible assumption | ((with_reducible apply Src.ext); with_reducible assumption) | with_reducible refine Ext.alloc ?_ _ | with_reducible refine Ext.drew ?_ | with_reducible refine Ext.drewN ?_ _ | ((with_reducible refine Ext.setCell' ?_ ?_ _); solve | omega | simp | (simp; omega)) | (with_reducible refine Ext.trans ?_ (by with_reducible assumption)))))).mono ?_
    rintro e w3 ⟨v3, rfl, hO3, hx3⟩
    obtain ⟨A3, c3, rfl, hS3, -, -, -⟩ := hO3.sl len_encSn
    rw [← HNY.out]
    have HS3 := Lib.hid hS3
    clear hO3 hS3
    go_wp2_with fail
    refine (HDM.out _ (by (repeat (first | with_reducible exact Ext.refl _ | with_reducible assumption | ((with_reducible apply Src.ext); with_reducible assumption) | with_reducible refine Ext.alloc ?_ _ | with_reducible refine Ext.drew ?_ | with_reducible refine Ext.drewN ?_ _ | ((with_reducible refine Ext.setCell' ?_ ?_ _); solve | omega | simp | (simp; omega)) | (with_reducible refine Ext.trans ?_ (by with_reducible assumption)))))).mono ?_
    rintro e w4 ⟨A4, c4, L4, t4, u4, y4, rfl, hS4, hc4, ⟨hl4, hk4⟩, ⟨ht4, hu4⟩, hy4, hx4⟩
    have HMI := Lib.hid fun W (hW : Ext w4 W) => i_MeetingIn A4 L4.length c4 L4 t4 u4 y4 W (hS4.ext hW) rfl (by omega) hc4 hk4.links (by omega) (by omega)
    have HMS := Lib.hid fun W (hW : Ext w4 W) => s_MeetingIn A4 L4.length c4 L4 t4 u4 y4 W (hS4.ext hW) rfl (by omega) hk4.links (by omega) (by omega)
    have HMB : Hid (mtC L4 t4 u4 y4 = 0 → ∀ W, Ext w4 W → Calls Tryz.prog 12 #[.slice A4 L4.length c4, .string (tx u4), .string (tx t4), .int .i64 y4] W fun e w' => e = .returned (.tuple #[.string (tx (mtV L4 t4 u4 y4)), .int .i64 0]) ∧ Ext W w') := Lib.hid (fun hz W hW => by
      have := i_MeetingIn A4 L4.length c4 L4 u4 t4 y4 W (hS4.ext hW) rfl (by omega) hc4 hk4.links (by omega) (by omega)
      rwa [(mt_law hz).1, (mt_law hz).2] at this)
    obtain ⟨n4, hn4⟩ : ∃ n4, n4 = L4.length := ⟨_, rfl⟩
    rw [← hn4] at HMI HMS HMB ⊢
    generalize mtC L4 t4 u4 y4 = mc at *
    generalize mtV L4 t4 u4 y4 = mv at *
    generalize tx mv = sm at *
    generalize tx t4 = st4 at *
    generalize tx u4 = su4 at *
    clear hn4 hS4 hc4 hl4 hk4 ht4 hu4 hy4
    (go_wp2_with fail; refine (HMI.out _ (by (repeat (first | with_reducible exact Ext.refl _ | with_reducible assumption | ((with_reducible apply Src.ext); with_reducible assumption) | with_reducible refine Ext.alloc ?_ _ | with_reducible refine Ext.drew ?_ | with_reducible refine Ext.drewN ?_ _ | ((with_reducible refine Ext.setCell' ?_ ?_ _); solve | omega | simp | (simp; omega)) | (with_reducible refine Ext.trans ?_ (by with_reducible assumption)))))).mono ?_; rintro e w5 ⟨rfl, hx5⟩; obtain ⟨hc5, hf5⟩ := hx5.rules; have hs5 := hx5.size; (try simp at hs5))
    (go_wp2_with fail; refine (HMS.out _ (by (repeat (first | with_reducible exact Ext.refl _ | with_reducible assumption | ((with_reducible apply Src.ext); with_reducible assumption) | with_reducible refine Ext.alloc ?_ _ | with_reducible refine Ext.drew ?_ | with_reducible refine Ext.drewN ?_ _ | ((with_reducible refine Ext.setCell' ?_ ?_ _); solve | omega | simp | (simp; omega)) | (with_reducible refine Ext.trans ?_ (by with_reducible assumption)))))).mono ?_; rintro e w6 ⟨rfl, hx6⟩; obtain ⟨hc6, hf6⟩ := hx6.rules; have hs6 := hx6.size; (try simp at hs6))
    go_wp2_with fail
    refine (HDE.out _ (by (repeat (first | with_reducible exact Ext.refl _ | with_reducible assumption | ((with_reducible apply Src.ext); with_reducible assumption) | with_reducible refine Ext.alloc ?_ _ | with_reducible refine Ext.drew ?_ | with_reducible refine Ext.drewN ?_ _ | ((with_reducible refine Ext.setCell' ?_ ?_ _); solve | omega | simp | (simp; omega)) | (with_reducible refine Ext.trans ?_ (by with_reducible assumption)))))).mono ?_
    rintro e w7 ⟨A7, c7, L7, t7, y7, rfl, hS7, hc7, ⟨hl7, hk7⟩, ⟨ht7, hy7⟩, hx7⟩
    have HEI := Lib.hid fun W (hW : Ext w7 W) => i_EndLinks A7 L7.length c7 L7 t7 y7 W (hS7.ext hW) rfl (by omega) hc7 hk7.links (by omega)
    have HES := Lib.hid fun W (hW : Ext w7 W) => s_EndLinks A7 L7.length c7 L7 t7 y7 W (hS7.ext hW) rfl (by omega) hk7.links (by omega)
    have HEN := Lib.hid (endR_len L7 t7 y7 hl7)
    have HII : Hid (lkC L7 [t7] y7 = 0 → ∀ A' n' c' W, SlAt W 4 encK A' (endR L7 t7 y7) → n' = (endR L7 t7 y7).length → n' ≤ c' → Calls Tryz.prog 19 #[.slice A' n' c', .string (tx t7), .int .i64 y7] W fun e w' => (∃ A9 c9, e = .returned (.tuple #[.slice A9 0 c9, .int .i64 0])) ∧ Ext W w') := Lib.hid (fun hz A' n' c' W hS hn hc => by
      have hlen := endR_len L7 t7 y7 hl7
      obtain ⟨k1, k2, k3, k4⟩ := end_law hz
      have := i_InsideIn A' n' c' (endR L7 t7 y7) t7 y7 W hS hn (by omega) hc (hk7.end_ t7 y7) (by omega)
      rw [k2, k3] at this
      refine this.mono ?_
      rintro e w' ⟨v, rfl, hO, hx⟩
      obtain ⟨A9, c9, rfl, _⟩ := hO.sl len_encS
      exact ⟨⟨A9, c9, rfl⟩, hx⟩)
    have HPI : Hid (lkC L7 [t7] y7 = 0 → ∀ A' n' c' W, SlAt W 4 encK A' (endR L7 t7 y7) → n' = (endR L7 t7 y7).length → n' ≤ c' → Calls Tryz.prog 20 #[.slice A' n' c', .string (tx t7), .int .i64 y7] W fun e w' => (∃ s, e = .returned (.tuple #[.string s, .int .i64 4])) ∧ Ext W w') := Lib.hid (fun hz A' n' c' W hS hn hc => by
      have hlen := endR_len L7 t7 y7 hl7
      obtain ⟨k1, k2, k3, k4⟩ := end_law hz
      have := i_ParentIn A' n' c' (endR L7 t7 y7) t7 y7 W hS hn (by omega) hc (hk7.end_ t7 y7) (by omega)
      rw [k4] at this
      exact this.mono fun e w' ⟨h1, h2⟩ => ⟨⟨_, h1⟩, h2⟩)
    have HAL : Hid (lkC L7 [t7] y7 = 0 → ∀ A' n' c' W, SlAt W 4 encK A' (endR L7 t7 y7) → n' = (endR L7 t7 y7).length → n' ≤ c' → Calls Tryz.prog 21 #[.slice A' n' c'] W fun e w' => e = .returned (.bool true) ∧ Ext W w') := Lib.hid (fun hz A' n' c' W hS hn hc => by
      have hlen := endR_len L7 t7 y7 hl7
      obtain ⟨k1, k2, k3, k4⟩ := end_law hz
      have := i_AreLinks A' n' c' (endR L7 t7 y7) W hS hn (by omega) hc (hk7.end_ t7 y7)
      rwa [k1] at this)
    obtain ⟨n7, hn7⟩ : ∃ n7, n7 = L7.length := ⟨_, rfl⟩
    rw [← hn7] at HEI HES ⊢
    generalize lkC L7 [t7] y7 = ec at *
    generalize endR L7 t7 y7 = es at *
    generalize tx t7 = st7 at *
    clear hn7 hS7 hc7 hl7 hk7 ht7 hy7
    obtain ⟨ne, hne⟩ : ∃ ne, ne = es.length := ⟨_, rfl⟩
    rw [← hne] at HEN HII HPI HAL
    have HNE := Lib.hid hne
    clear hne
    go_wp2_with fail
    refine (HEI.out _ (by (repeat (first | with_reducible exact Ext.refl _ | with_reducible assumption | ((with_reducible apply Src.ext); with_reducible assumption) | with_reducible refine Ext.alloc ?_ _ | with_reducible refine Ext.drew ?_ | with_reducible refine Ext.drewN ?_ _ | ((with_reducible refine Ext.setCell' ?_ ?_ _); solve | omega | simp | (simp; omega)) | (with_reducible refine Ext.trans ?_ (by with_reducible assumption)))))).mono ?_
    rintro e w8 ⟨v8, rfl, hO8, hx8⟩
    obtain ⟨A8, c8, rfl, hS8, hc8, -, -⟩ := hO8.sl len_encK
    rw [← HNE.out] at hc8 ⊢
    have HS8 := Lib.hid hS8
    have HC8 := Lib.hid hc8
    clear hO8 hS8 hc8
    go_wp2_with fail
    refine (HES.out _ (by (repeat (first | with_reducible exact Ext.refl _ | with_reducible assumption | ((with_reducible apply Src.ext); with_reducible assumption) | with_reducible refine Ext.alloc ?_ _ | with_reducible refine Ext.drew ?_ | with_reducible refine Ext.drewN ?_ _ | ((with_reducible refine Ext.setCell' ?_ ?_ _); solve | omega | simp | (simp; omega)) | (with_reducible refine Ext.trans ?_ (by with_reducible assumption)))))).mono ?_
    rintro e w9 ⟨v9, rfl, hO9, hx9⟩
    obtain ⟨A9, c9, rfl, hS9, -, -, -⟩ := hO9.sl len_encK
    rw [← HNE.out]
    have HS9 := Lib.hid hS9
    clear hO9 hS9
    have HX1 : Hid (Ext w w1) := Lib.hid hx1
    have HX1E : Hid (Ext w1 w9) := Lib.hid (by (repeat (first | with_reducible exact Ext.refl _ | with_reducible assumption | ((with_reducible apply Src.ext); with_reducible assumption) | with_reducible refine Ext.alloc ?_ _ | with_reducible refine Ext.drew ?_ | with_reducible refine Ext.drewN ?_ _ | ((with_reducible refine Ext.setCell' ?_ ?_ _); solve | omega | simp | (simp; omega)) | (with_reducible refine Ext.trans ?_ (by with_reducible assumption)))))
    have HX2E : Hid (Ext w2 w9) := Lib.hid (by (repeat (first | with_reducible exact Ext.refl _ | with_reducible assumption | ((with_reducible apply Src.ext); with_reducible assumption) | with_reducible refine Ext.alloc ?_ _ | with_reducible refine Ext.drew ?_ | with_reducible refine Ext.drewN ?_ _ | ((with_reducible refine Ext.setCell' ?_ ?_ _); solve | omega | simp | (simp; omega)) | (with_reducible refine Ext.trans ?_ (by with_reducible assumption)))))
    have HX3E : Hid (Ext w3 w9) := Lib.hid (by (repeat (first | with_reducible exact Ext.refl _ | with_reducible assumption | ((with_reducible apply Src.ext); with_reducible assumption) | with_reducible refine Ext.alloc ?_ _ | with_reducible refine Ext.drew ?_ | with_reducible refine Ext.drewN ?_ _ | ((with_reducible refine Ext.setCell' ?_ ?_ _); solve | omega | simp | (simp; omega)) | (with_reducible refine Ext.trans ?_ (by with_reducible assumption)))))
    have HX4E : Hid (Ext w4 w9) := Lib.hid (by (repeat (first | with_reducible exact Ext.refl _ | with_reducible assumption | ((with_reducible apply Src.ext); with_reducible assumption) | with_reducible refine Ext.alloc ?_ _ | with_reducible refine Ext.drew ?_ | with_reducible refine Ext.drewN ?_ _ | ((with_reducible refine Ext.setCell' ?_ ?_ _); solve | omega | simp | (simp; omega)) | (with_reducible refine Ext.trans ?_ (by with_reducible assumption)))))
    have HX8E : Hid (Ext w8 w9) := Lib.hid (by (repeat (first | with_reducible exact Ext.refl _ | with_reducible assumption | ((with_reducible apply Src.ext); with_reducible assumption) | with_reducible refine Ext.alloc ?_ _ | with_reducible refine Ext.drew ?_ | with_reducible refine Ext.drewN ?_ _ | ((with_reducible refine Ext.setCell' ?_ ?_ _); solve | omega | simp | (simp; omega)) | (with_reducible refine Ext.trans ?_ (by with_reducible assumption)))))
    clear hx1 hx2 hx3 hx4 hx5 hx6 hx7 hx8 hx9 hc5 hf5 hs5 hc6 hf6 hs6 HDY HDM HDE HYI HYS HMI HMS HEI HES
    have e1 : (cy != cy) = false := by simp
    have e2 : (mc != mc) = false := by simp
    have e3 : (ec != ec) = false := by simp
    have e4 : (sm.toList == sm.toList) = true := by simp
    have HYNn : ny ≤ 1048576 := by have := HYN.out; omega
    have HENn : ne ≤ 1048576 := by have := HEN.out; omega
    (go_wp2_with fail; refine (l_likeSpans A2 A3 ny c2 ny c3 S _ (HS2.out.ext (HX2E.out.trans (by (repeat (first | with_reducible exact Ext.refl _ | with_reducible assumption | ((with_reducible apply Src.ext); with_reducible assumption) | with_reducible refine Ext.alloc ?_ _ | with_reducible refine Ext.drew ?_ | with_reducible refine Ext.drewN ?_ _ | ((with_reducible refine Ext.setCell' ?_ ?_ _); solve | omega | simp | (simp; omega)) | (with_reducible refine Ext.trans ?_ (by with_reducible assumption))))))) (HS3.out.ext (HX3E.out.trans (by (repeat (first | with_reducible exact Ext.refl _ | with_reducible assumption | ((with_reducible apply Src.ext); with_reducible assumption) | with_reducible refine Ext.alloc ?_ _ | with_reducible refine Ext.drew ?_ | with_reducible refine Ext.drewN ?_ _ | ((with_reducible refine Ext.setCell' ?_ ?_ _); solve | omega | simp | (simp; omega)) | (with_reducible refine Ext.trans ?_ (by with_reducible assumption))))))) HNY.out HNY.out HYNn).mono ?_; rintro e w10 ⟨rfl, hx10⟩; obtain ⟨hc10, hf10⟩ := hx10.rules; have hs10 := hx10.size; (try simp at hs10))
    (go_wp2_with fail; refine (l_likeLinks A8 A9 ne c8 ne c9 es _ (HS8.out.ext (HX8E.out.trans (by (repeat (first | with_reducible exact Ext.refl _ | with_reducible assumption | ((with_reducible apply Src.ext); with_reducible assumption) | with_reducible refine Ext.alloc ?_ _ | with_reducible refine Ext.drew ?_ | with_reducible refine Ext.drewN ?_ _ | ((with_reducible refine Ext.setCell' ?_ ?_ _); solve | omega | simp | (simp; omega)) | (with_reducible refine Ext.trans ?_ (by with_reducible assumption))))))) (HS9.out.ext (by (repeat (first | with_reducible exact Ext.refl _ | with_reducible assumption | ((with_reducible apply Src.ext); with_reducible assumption) | with_reducible refine Ext.alloc ?_ _ | with_reducible refine Ext.drew ?_ | with_reducible refine Ext.drewN ?_ _ | ((with_reducible refine Ext.setCell' ?_ ?_ _); solve | omega | simp | (simp; omega)) | (with_reducible refine Ext.trans ?_ (by with_reducible assumption)))))) HNE.out HNE.out HENn).mono ?_; rintro e w11 ⟨rfl, hx11⟩; obtain ⟨hc11, hf11⟩ := hx11.rules; have hs11 := hx11.size; (try simp at hs11))
    have HXA : Hid (Ext w9 w11) := Lib.hid (by (repeat (first | with_reducible exact Ext.refl _ | with_reducible assumption | ((with_reducible apply Src.ext); with_reducible assumption) | with_reducible refine Ext.alloc ?_ _ | with_reducible refine Ext.drew ?_ | with_reducible refine Ext.drewN ?_ _ | ((with_reducible refine Ext.setCell' ?_ ?_ _); solve | omega | simp | (simp; omega)) | (with_reducible refine Ext.trans ?_ (by with_reducible assumption)))))
    have HS2Z := Lib.hid (fun W (hW : Ext w9 W) => HS2.out.ext (HX2E.out.trans hW))
    have HHY : Hid (cy = 0 → ∀ W (y : Int), Ext w9 W → Calls Tryz.prog 24 #[.slice A2 ny c2, .int .i64 y] W fun e w' => e = .returned (.tuple #[.bool (hasY S y), .int .i64 0]) ∧ Ext W w') := Lib.hid (fun hz W y hW => i_HasYear A2 ny c2 S y W (HS2Z.out W hW) HNY.out (HYL.out hz).1)
    have HHT : Hid (cy = 0 → ∀ W (y : Int) A' c' n', -3000 ≤ y → y ≤ 3000 → SlAt W 1 encS A' (WF y) → n' = (WF y).length → Calls Tryz.prog 26 #[.slice A' n' c', .string sb] W fun e w' => e = .returned (.bool (hasY S y)) ∧ Ext W w') := Lib.hid (fun hz W y A' c' n' y1 y2 hS hn => by
      have hlen := HWN.out y
      have := l_hasText A' n' c' (WF y) tb W hS hn (by omega)
      rw [← ((HYL.out hz).2 y y1 y2).2, ← HSB.out] at this
      exact this)
    clear hx10 hx11 hc10 hf10 hs10 hc11 hf11 hs11 HS2 HS3 HS9 HS2Z HYL HSB HX2E HX3E
    by_cases hec : ec = 0
    · have HII1 := Lib.hid (HII.out hec)
      have HPI1 := Lib.hid (HPI.out hec)
      have HAL1 := Lib.hid (HAL.out hec)
      have eec : (ec == 0) = true := by rw [hec]; rfl
      clear hec HII HPI HAL
      go_wp2_with fail
      refine (HII1.out A8 ne c8 _ (HS8.out.ext (HX8E.out.trans (HXA.out.trans (by (repeat (first | with_reducible exact Ext.refl _ | with_reducible assumption | ((with_reducible apply Src.ext); with_reducible assumption) | with_reducible refine Ext.alloc ?_ _ | with_reducible refine Ext.drew ?_ | with_reducible refine Ext.drewN ?_ _ | ((with_reducible refine Ext.setCell' ?_ ?_ _); solve | omega | simp | (simp; omega)) | (with_reducible refine Ext.trans ?_ (by with_reducible assumption)))))))) rfl HC8.out).mono ?_
      rintro e w12 ⟨⟨A12, c12, rfl⟩, hx12⟩
      have HXB : Hid (Ext w9 w12) := Lib.hid (HXA.out.trans (by (repeat (first | with_reducible exact Ext.refl _ | with_reducible assumption | ((with_reducible apply Src.ext); with_reducible assumption) | with_reducible refine Ext.alloc ?_ _ | with_reducible refine Ext.drew ?_ | with_reducible refine Ext.drewN ?_ _ | ((with_reducible refine Ext.setCell' ?_ ?_ _); solve | omega | simp | (simp; omega)) | (with_reducible refine Ext.trans ?_ (by with_reducible assumption))))))
      clear hx12
      go_wp2_with fail
      refine (HPI1.out A8 ne c8 _ (HS8.out.ext (HX8E.out.trans (HXB.out.trans (by (repeat (first | with_reducible exact Ext.refl _ | with_reducible assumption | ((with_reducible apply Src.ext); with_reducible assumption) | with_reducible refine Ext.alloc ?_ _ | with_reducible refine Ext.drew ?_ | with_reducible refine Ext.drewN ?_ _ | ((with_reducible refine Ext.setCell' ?_ ?_ _); solve | omega | simp | (simp; omega)) | (with_reducible refine Ext.trans ?_ (by with_reducible assumption)))))))) rfl HC8.out).mono ?_
      rintro e w13 ⟨⟨s13, rfl⟩, hx13⟩
      have HXC0 : Hid (Ext w9 w13) := Lib.hid (HXB.out.trans (by (repeat (first | with_reducible exact Ext.refl _ | with_reducible assumption | ((with_reducible apply Src.ext); with_reducible assumption) | with_reducible refine Ext.alloc ?_ _ | with_reducible refine Ext.drew ?_ | with_reducible refine Ext.drewN ?_ _ | ((with_reducible refine Ext.setCell' ?_ ?_ _); solve | omega | simp | (simp; omega)) | (with_reducible refine Ext.trans ?_ (by with_reducible assumption))))))
      clear hx13
      go_wp2_with fail
      refine (HAL1.out A8 ne c8 _ (HS8.out.ext (HX8E.out.trans (HXC0.out.trans (by (repeat (first | with_reducible exact Ext.refl _ | with_reducible assumption | ((with_reducible apply Src.ext); with_reducible assumption) | with_reducible refine Ext.alloc ?_ _ | with_reducible refine Ext.drew ?_ | with_reducible refine Ext.drewN ?_ _ | ((with_reducible refine Ext.setCell' ?_ ?_ _); solve | omega | simp | (simp; omega)) | (with_reducible refine Ext.trans ?_ (by with_reducible assumption)))))))) rfl HC8.out).mono ?_
      rintro e w14 ⟨rfl, hx14⟩
      have HXC : Hid (Ext w9 w14) := Lib.hid (HXC0.out.trans (by (repeat (first | with_reducible exact Ext.refl _ | with_reducible assumption | ((with_reducible apply Src.ext); with_reducible assumption) | with_reducible refine Ext.alloc ?_ _ | with_reducible refine Ext.drew ?_ | with_reducible refine Ext.drewN ?_ _ | ((with_reducible refine Ext.setCell' ?_ ?_ _); solve | omega | simp | (simp; omega)) | (with_reducible refine Ext.trans ?_ (by with_reducible assumption))))))
      clear hx14
      by_cases hmc : mc = 0
      · have HMB1 := Lib.hid (HMB.out hmc)
        have emc : (mc == 0) = true := by rw [hmc]; rfl
        clear hmc HMB
        go_wp2_with fail
        refine (HMB1.out _ (HX4E.out.trans (HXC.out.trans (by (repeat (first | with_reducible exact Ext.refl _ | with_reducible assumption | ((with_reducible apply Src.ext); with_reducible assumption) | with_reducible refine Ext.alloc ?_ _ | with_reducible refine Ext.drew ?_ | with_reducible refine Ext.drewN ?_ _ | ((with_reducible refine Ext.setCell' ?_ ?_ _); solve | omega | simp | (simp; omega)) | (with_reducible refine Ext.trans ?_ (by with_reducible assumption)))))))).mono ?_
        rintro e w16 ⟨rfl, hx16⟩
        have HXD : Hid (Ext w9 w16) := Lib.hid (HXC.out.trans (by (repeat (first | with_reducible exact Ext.refl _ | with_reducible assumption | ((with_reducible apply Src.ext); with_reducible assumption) | with_reducible refine Ext.alloc ?_ _ | with_reducible refine Ext.drew ?_ | with_reducible refine Ext.drewN ?_ _ | ((with_reducible refine Ext.setCell' ?_ ?_ _); solve | omega | simp | (simp; omega)) | (with_reducible refine Ext.trans ?_ (by with_reducible assumption))))))
        clear hx16
        by_cases hcy : cy = 0
        · have HHY1 := Lib.hid (HHY.out hcy)
          have HWU1 := Lib.hid (HWU.out hcy)
          have HHT1 := Lib.hid (HHT.out hcy)
          have ecy : (cy != 0) = false := by rw [hcy]; rfl
          clear hcy HHY HWU HHT
          go_wp2_with fail
          refine (HRO.out _ (HX1.out.trans (HX1E.out.trans (HXD.out.trans (by (repeat (first | with_reducible exact Ext.refl _ | with_reducible assumption | ((with_reducible apply Src.ext); with_reducible assumption) | with_reducible refine Ext.alloc ?_ _ | with_reducible refine Ext.drew ?_ | with_reducible refine Ext.drewN ?_ _ | ((with_reducible refine Ext.setCell' ?_ ?_ _); solve | omega | simp | (simp; omega)) | (with_reducible refine Ext.trans ?_ (by with_reducible assumption))))))))).mono ?_
          rintro e w20 ⟨g, rfl, hD⟩
          obtain ⟨a20, hxa, hda⟩ : ∃ a, Ext w9 a ∧ Dic a A c bs g w20 := ⟨_, HXD.out.trans (by (repeat (first | with_reducible exact Ext.refl _ | with_reducible assumption | ((with_reducible apply Src.ext); with_reducible assumption) | with_reducible refine Ext.alloc ?_ _ | with_reducible refine Ext.drew ?_ | with_reducible refine Ext.drewN ?_ _ | ((with_reducible refine Ext.setCell' ?_ ?_ _); solve | omega | simp | (simp; omega)) | (with_reducible refine Ext.trans ?_ (by with_reducible assumption))))), hD⟩
          have HD := Lib.hid hda
          have HXa := Lib.hid hxa
          clear hD hxa hda
          go_wp2
          go_loopw [32] (fun i wr => ∃ k : Nat, k ≤ 6 ∧ i = .int .i64 k ∧ Hid (Dic a20 A c bs g wr)) (fun i _ => 6 - (intOf i).toNat)
          case atStart => exact ⟨0, by omega, rfl, HD⟩
          case round =>
            obtain ⟨k, hk, rfl, HDr⟩ := hrel
            obtain ⟨w30, rfl⟩ : ∃ x, x = wr := ⟨wr, rfl⟩
            by_cases hlt : k < 6
            · go_wp2_with fail
              refine (l_below 1200 _ HDr.out (by omega) (by omega)).mono ?_
              rintro e w31 ⟨x, rfl, ⟨x0, x1⟩, hD1, -⟩
              have HD1 := Lib.hid hD1
              have HX31 : Hid (Ext w9 w31) := Lib.hid (HXa.out.trans hD1.ext)
              clear hD1
              obtain ⟨y, hw1, y1, y2⟩ : ∃ y, IntKind.i64.wrap (1000 + x) = y ∧ -3000 ≤ y ∧ y ≤ 3000 := ⟨1000 + x, IntWalk.i64_in _ (by omega), by omega, by omega⟩
              clear x0 x1
              go_wp2_with fail
              refine (HHY1.out _ y (HX31.out.trans (by (repeat (first | with_reducible exact Ext.refl _ | with_reducible assumption | ((with_reducible apply Src.ext); with_reducible assumption) | with_reducible refine Ext.alloc ?_ _ | with_reducible refine Ext.drew ?_ | with_reducible refine Ext.drewN ?_ _ | ((with_reducible refine Ext.setCell' ?_ ?_ _); solve | omega | simp | (simp; omega)) | (with_reducible refine Ext.trans ?_ (by with_reducible assumption))))))).mono ?_
              rintro e w32 ⟨rfl, hx32⟩
              have HX32 : Hid (Ext w31 w32) := Lib.hid (by (repeat (first | with_reducible exact Ext.refl _ | with_reducible assumption | ((with_reducible apply Src.ext); with_reducible assumption) | with_reducible refine Ext.alloc ?_ _ | with_reducible refine Ext.drew ?_ | with_reducible refine Ext.drewN ?_ _ | ((with_reducible refine Ext.setCell' ?_ ?_ _); solve | omega | simp | (simp; omega)) | (with_reducible refine Ext.trans ?_ (by with_reducible assumption)))))
              clear hx32
              go_wp2_with fail
              refine (HWU1.out _ y (HX1E.out.trans (HX31.out.trans (HX32.out.trans (by (repeat (first | with_reducible exact Ext.refl _ | with_reducible assumption | ((with_reducible apply Src.ext); with_reducible assumption) | with_reducible refine Ext.alloc ?_ _ | with_reducible refine Ext.drew ?_ | with_reducible refine Ext.drewN ?_ _ | ((with_reducible refine Ext.setCell' ?_ ?_ _); solve | omega | simp | (simp; omega)) | (with_reducible refine Ext.trans ?_ (by with_reducible assumption)))))))) y1 y2).mono ?_
              rintro e w33 ⟨v33, rfl, hO33, hx33⟩
              obtain ⟨A33, c33, rfl, hS33, -, -, -⟩ := hO33.sl len_encS
              have HS33 := Lib.hid hS33
              have HX33 : Hid (Ext w31 w33) := Lib.hid (HX32.out.trans hx33)
              obtain ⟨n33, hn33⟩ : ∃ n, n = (WF y).length := ⟨_, rfl⟩
              rw [← hn33]
              have HN33 := Lib.hid hn33
              clear hO33 hS33 hx33 hn33
              obtain ⟨hh, hhe⟩ : ∃ b, b = hasY S y := ⟨_, rfl⟩
              rw [← hhe]
              have ehh : (hh != hh) = false := by simp
              have HHT2 : Hid (∀ W, Ext w33 W → Calls Tryz.prog 26 #[.slice A33 n33 c33, .string sb] W fun e w' => e = .returned (.bool hh) ∧ Ext W w') := Lib.hid (fun W hW => by
                have := HHT1.out W y A33 c33 n33 y1 y2 (HS33.out.ext hW) HN33.out
                rwa [← hhe] at this)
              clear hhe hw1 y1 y2
              go_wp2_with fail
              refine (HHT2.out _ (by (repeat (first | with_reducible exact Ext.refl _ | with_reducible assumption | ((with_reducible apply Src.ext); with_reducible assumption) | with_reducible refine Ext.alloc ?_ _ | with_reducible refine Ext.drew ?_ | with_reducible refine Ext.drewN ?_ _ | ((with_reducible refine Ext.setCell' ?_ ?_ _); solve | omega | simp | (simp; omega)) | (with_reducible refine Ext.trans ?_ (by with_reducible assumption)))))).mono ?_
              rintro e w34 ⟨rfl, hx34⟩
              have HD4 : Hid (Dic a20 A c bs g w34) := Lib.hid (HD1.out.on (HX33.out.trans (by (repeat (first | with_reducible exact Ext.refl _ | with_reducible assumption | ((with_reducible apply Src.ext); with_reducible assumption) | with_reducible refine Ext.alloc ?_ _ | with_reducible refine Ext.drew ?_ | with_reducible refine Ext.drewN ?_ _ | ((with_reducible refine Ext.setCell' ?_ ?_ _); solve | omega | simp | (simp; omega)) | (with_reducible refine Ext.trans ?_ (by with_reducible assumption)))))))
              go_wp2
              go_roundw
              case rel => exact ⟨k + 1, by omega, by go_num, HD4⟩
              case measure => simp [intOf]; omega
            · go_wp2
              go_ret
              exact ⟨rfl, HX1.out.trans (HX1E.out.trans (HXa.out.trans (HDr.out.ext.trans (by (repeat (first | with_reducible exact Ext.refl _ | with_reducible assumption | ((with_reducible apply Src.ext); with_reducible assumption) | with_reducible refine Ext.alloc ?_ _ | with_reducible refine Ext.drew ?_ | with_reducible refine Ext.drewN ?_ _ | ((with_reducible refine Ext.setCell' ?_ ?_ _); solve | omega | simp | (simp; omega)) | (with_reducible refine Ext.trans ?_ (by with_reducible assumption))))))))⟩
        · have ecy : (cy != 0) = true := by simpa using hcy
          clear HHY HWU HHT HRO
          go_wp2
          go_ret
          exact ⟨rfl, HX1.out.trans (HX1E.out.trans (HXD.out.trans (by (repeat (first | with_reducible exact Ext.refl _ | with_reducible assumption | ((with_reducible apply Src.ext); with_reducible assumption) | with_reducible refine Ext.alloc ?_ _ | with_reducible refine Ext.drew ?_ | with_reducible refine Ext.drewN ?_ _ | ((with_reducible refine Ext.setCell' ?_ ?_ _); solve | omega | simp | (simp; omega)) | (with_reducible refine Ext.trans ?_ (by with_reducible assumption)))))))⟩
      · have emc : (mc == 0) = false := beq_eq_false_iff_ne.2 hmc
        clear HMB
        have HXD := HXC
        by_cases hcy : cy = 0
        · have HHY1 := Lib.hid (HHY.out hcy)
          have HWU1 := Lib.hid (HWU.out hcy)
          have HHT1 := Lib.hid (HHT.out hcy)
          have ecy : (cy != 0) = false := by rw [hcy]; rfl
          clear hcy HHY HWU HHT
          go_wp2_with fail
          refine (HRO.out _ (HX1.out.trans (HX1E.out.trans (HXD.out.trans (by (repeat (first | with_reducible exact Ext.refl _ | with_reducible assumption | ((with_reducible apply Src.ext); with_reducible assumption) | with_reducible refine Ext.alloc ?_ _ | with_reducible refine Ext.drew ?_ | with_reducible refine Ext.drewN ?_ _ | ((with_reducible refine Ext.setCell' ?_ ?_ _); solve | omega | simp | (simp; omega)) | (with_reducible refine Ext.trans ?_ (by with_reducible assumption))))))))).mono ?_
          rintro e w20 ⟨g, rfl, hD⟩
          obtain ⟨a20, hxa, hda⟩ : ∃ a, Ext w9 a ∧ Dic a A c bs g w20 := ⟨_, HXD.out.trans (by (repeat (first | with_reducible exact Ext.refl _ | with_reducible assumption | ((with_reducible apply Src.ext); with_reducible assumption) | with_reducible refine Ext.alloc ?_ _ | with_reducible refine Ext.drew ?_ | with_reducible refine Ext.drewN ?_ _ | ((with_reducible refine Ext.setCell' ?_ ?_ _); solve | omega | simp | (simp; omega)) | (with_reducible refine Ext.trans ?_ (by with_reducible assumption))))), hD⟩
          have HD := Lib.hid hda
          have HXa := Lib.hid hxa
          clear hD hxa hda
          go_wp2
          go_loopw [32] (fun i wr => ∃ k : Nat, k ≤ 6 ∧ i = .int .i64 k ∧ Hid (Dic a20 A c bs g wr)) (fun i _ => 6 - (intOf i).toNat)
          case atStart => exact ⟨0, by omega, rfl, HD⟩
          case round =>
            obtain ⟨k, hk, rfl, HDr⟩ := hrel
            obtain ⟨w30, rfl⟩ : ∃ x, x = wr := ⟨wr, rfl⟩
            by_cases hlt : k < 6
            · go_wp2_with fail
              refine (l_below 1200 _ HDr.out (by omega) (by omega)).mono ?_
              rintro e w31 ⟨x, rfl, ⟨x0, x1⟩, hD1, -⟩
              have HD1 := Lib.hid hD1
              have HX31 : Hid (Ext w9 w31) := Lib.hid (HXa.out.trans hD1.ext)
              clear hD1
              obtain ⟨y, hw1, y1, y2⟩ : ∃ y, IntKind.i64.wrap (1000 + x) = y ∧ -3000 ≤ y ∧ y ≤ 3000 := ⟨1000 + x, IntWalk.i64_in _ (by omega), by omega, by omega⟩
              clear x0 x1
              go_wp2_with fail
              refine (HHY1.out _ y (HX31.out.trans (by (repeat (first | with_reducible exact Ext.refl _ | with_reducible assumption | ((with_reducible apply Src.ext); with_reducible assumption) | with_reducible refine Ext.alloc ?_ _ | with_reducible refine Ext.drew ?_ | with_reducible refine Ext.drewN ?_ _ | ((with_reducible refine Ext.setCell' ?_ ?_ _); solve | omega | simp | (simp; omega)) | (with_reducible refine Ext.trans ?_ (by with_reducible assumption))))))).mono ?_
              rintro e w32 ⟨rfl, hx32⟩
              have HX32 : Hid (Ext w31 w32) := Lib.hid (by (repeat (first | with_reducible exact Ext.refl _ | with_reducible assumption | ((with_reducible apply Src.ext); with_reducible assumption) | with_reducible refine Ext.alloc ?_ _ | with_reducible refine Ext.drew ?_ | with_reducible refine Ext.drewN ?_ _ | ((with_reducible refine Ext.setCell' ?_ ?_ _); solve | omega | simp | (simp; omega)) | (with_reducible refine Ext.trans ?_ (by with_reducible assumption)))))
              clear hx32
              go_wp2_with fail
              refine (HWU1.out _ y (HX1E.out.trans (HX31.out.trans (HX32.out.trans (by (repeat (first | with_reducible exact Ext.refl _ | with_reducible assumption | ((with_reducible apply Src.ext); with_reducible assumption) | with_reducible refine Ext.alloc ?_ _ | with_reducible refine Ext.drew ?_ | with_reducible refine Ext.drewN ?_ _ | ((with_reducible refine Ext.setCell' ?_ ?_ _); solve | omega | simp | (simp; omega)) | (with_reducible refine Ext.trans ?_ (by with_reducible assumption)))))))) y1 y2).mono ?_
              rintro e w33 ⟨v33, rfl, hO33, hx33⟩
              obtain ⟨A33, c33, rfl, hS33, -, -, -⟩ := hO33.sl len_encS
              have HS33 := Lib.hid hS33
              have HX33 : Hid (Ext w31 w33) := Lib.hid (HX32.out.trans hx33)
              obtain ⟨n33, hn33⟩ : ∃ n, n = (WF y).length := ⟨_, rfl⟩
              rw [← hn33]
              have HN33 := Lib.hid hn33
              clear hO33 hS33 hx33 hn33
              obtain ⟨hh, hhe⟩ : ∃ b, b = hasY S y := ⟨_, rfl⟩
              rw [← hhe]
              have ehh : (hh != hh) = false := by simp
              have HHT2 : Hid (∀ W, Ext w33 W → Calls Tryz.prog 26 #[.slice A33 n33 c33, .string sb] W fun e w' => e = .returned (.bool hh) ∧ Ext W w') := Lib.hid (fun W hW => by
                have := HHT1.out W y A33 c33 n33 y1 y2 (HS33.out.ext hW) HN33.out
                rwa [← hhe] at this)
              clear hhe hw1 y1 y2
              go_wp2_with fail
              refine (HHT2.out _ (by (repeat (first | with_reducible exact Ext.refl _ | with_reducible assumption | ((with_reducible apply Src.ext); with_reducible assumption) | with_reducible refine Ext.alloc ?_ _ | with_reducible refine Ext.drew ?_ | with_reducible refine Ext.drewN ?_ _ | ((with_reducible refine Ext.setCell' ?_ ?_ _); solve | omega | simp | (simp; omega)) | (with_reducible refine Ext.trans ?_ (by with_reducible assumption)))))).mono ?_
              rintro e w34 ⟨rfl, hx34⟩
              have HD4 : Hid (Dic a20 A c bs g w34) := Lib.hid (HD1.out.on (HX33.out.trans (by (repeat (first | with_reducible exact Ext.refl _ | with_reducible assumption | ((with_reducible apply Src.ext); with_reducible assumption) | with_reducible refine Ext.alloc ?_ _ | with_reducible refine Ext.drew ?_ | with_reducible refine Ext.drewN ?_ _ | ((with_reducible refine Ext.setCell' ?_ ?_ _); solve | omega | simp | (simp; omega)) | (with_reducible refine Ext.trans ?_ (by with_reducible assumption)))))))
              go_wp2
              go_roundw
              case rel => exact ⟨k + 1, by omega, by go_num, HD4⟩
              case measure => simp [intOf]; omega
            · go_wp2
              go_ret
              exact ⟨rfl, HX1.out.trans (HX1E.out.trans (HXa.out.trans (HDr.out.ext.trans (by (repeat (first | with_reducible exact Ext.refl _ | with_reducible assumption | ((with_reducible apply Src.ext); with_reducible assumption) | with_reducible refine Ext.alloc ?_ _ | with_reducible refine Ext.drew ?_ | with_reducible refine Ext.drewN ?_ _ | ((with_reducible refine Ext.setCell' ?_ ?_ _); solve | omega | simp | (simp; omega)) | (with_reducible refine Ext.trans ?_ (by with_reducible assumption))))))))⟩
        · have ecy : (cy != 0) = true := by simpa using hcy
          clear HHY HWU HHT HRO
          go_wp2
          go_ret
          exact ⟨rfl, HX1.out.trans (HX1E.out.trans (HXD.out.trans (by (repeat (first | with_reducible exact Ext.refl _ | with_reducible assumption | ((with_reducible apply Src.ext); with_reducible assumption) | with_reducible refine Ext.alloc ?_ _ | with_reducible refine Ext.drew ?_ | with_reducible refine Ext.drewN ?_ _ | ((with_reducible refine Ext.setCell' ?_ ?_ _); solve | omega | simp | (simp; omega)) | (with_reducible refine Ext.trans ?_ (by with_reducible assumption)))))))⟩
    · have eec : (ec == 0) = false := beq_eq_false_iff_ne.2 hec
      clear HII HPI HAL
      have HXC := HXA
      by_cases hmc : mc = 0
      · have HMB1 := Lib.hid (HMB.out hmc)
        have emc : (mc == 0) = true := by rw [hmc]; rfl
        clear hmc HMB
        go_wp2_with fail
        refine (HMB1.out _ (HX4E.out.trans (HXC.out.trans (by (repeat (first | with_reducible exact Ext.refl _ | with_reducible assumption | ((with_reducible apply Src.ext); with_reducible assumption) | with_reducible refine Ext.alloc ?_ _ | with_reducible refine Ext.drew ?_ | with_reducible refine Ext.drewN ?_ _ | ((with_reducible refine Ext.setCell' ?_ ?_ _); solve | omega | simp | (simp; omega)) | (with_reducible refine Ext.trans ?_ (by with_reducible assumption)))))))).mono ?_
        rintro e w16 ⟨rfl, hx16⟩
        have HXD : Hid (Ext w9 w16) := Lib.hid (HXC.out.trans (by (repeat (first | with_reducible exact Ext.refl _ | with_reducible assumption | ((with_reducible apply Src.ext); with_reducible assumption) | with_reducible refine Ext.alloc ?_ _ | with_reducible refine Ext.drew ?_ | with_reducible refine Ext.drewN ?_ _ | ((with_reducible refine Ext.setCell' ?_ ?_ _); solve | omega | simp | (simp; omega)) | (with_reducible refine Ext.trans ?_ (by with_reducible assumption))))))
        clear hx16
        by_cases hcy : cy = 0
        · have HHY1 := Lib.hid (HHY.out hcy)
          have HWU1 := Lib.hid (HWU.out hcy)
          have HHT1 := Lib.hid (HHT.out hcy)
          have ecy : (cy != 0) = false := by rw [hcy]; rfl
          clear hcy HHY HWU HHT
          go_wp2_with fail
          refine (HRO.out _ (HX1.out.trans (HX1E.out.trans (HXD.out.trans (by (repeat (first | with_reducible exact Ext.refl _ | with_reducible assumption | ((with_reducible apply Src.ext); with_reducible assumption) | with_reducible refine Ext.alloc ?_ _ | with_reducible refine Ext.drew ?_ | with_reducible refine Ext.drewN ?_ _ | ((with_reducible refine Ext.setCell' ?_ ?_ _); solve | omega | simp | (simp; omega)) | (with_reducible refine Ext.trans ?_ (by with_reducible assumption))))))))).mono ?_
          rintro e w20 ⟨g, rfl, hD⟩
          obtain ⟨a20, hxa, hda⟩ : ∃ a, Ext w9 a ∧ Dic a A c bs g w20 := ⟨_, HXD.out.trans (by (repeat (first | with_reducible exact Ext.refl _ | with_reducible assumption | ((with_reducible apply Src.ext); with_reducible assumption) | with_reducible refine Ext.alloc ?_ _ | with_reducible refine Ext.drew ?_ | with_reducible refine Ext.drewN ?_ _ | ((with_reducible refine Ext.setCell' ?_ ?_ _); solve | omega | simp | (simp; omega)) | (with_reducible refine Ext.trans ?_ (by with_reducible assumption))))), hD⟩
          have HD := Lib.hid hda
          have HXa := Lib.hid hxa
          clear hD hxa hda
          go_wp2
          go_loopw [32] (fun i wr => ∃ k : Nat, k ≤ 6 ∧ i = .int .i64 k ∧ Hid (Dic a20 A c bs g wr)) (fun i _ => 6 - (intOf i).toNat)
          case atStart => exact ⟨0, by omega, rfl, HD⟩
          case round =>
            obtain ⟨k, hk, rfl, HDr⟩ := hrel
            obtain ⟨w30, rfl⟩ : ∃ x, x = wr := ⟨wr, rfl⟩
            by_cases hlt : k < 6
            · go_wp2_with fail
              refine (l_below 1200 _ HDr.out (by omega) (by omega)).mono ?_
              rintro e w31 ⟨x, rfl, ⟨x0, x1⟩, hD1, -⟩
              have HD1 := Lib.hid hD1
              have HX31 : Hid (Ext w9 w31) := Lib.hid (HXa.out.trans hD1.ext)
              clear hD1
              obtain ⟨y, hw1, y1, y2⟩ : ∃ y, IntKind.i64.wrap (1000 + x) = y ∧ -3000 ≤ y ∧ y ≤ 3000 := ⟨1000 + x, IntWalk.i64_in _ (by omega), by omega, by omega⟩
              clear x0 x1
              go_wp2_with fail
              refine (HHY1.out _ y (HX31.out.trans (by (repeat (first | with_reducible exact Ext.refl _ | with_reducible assumption | ((with_reducible apply Src.ext); with_reducible assumption) | with_reducible refine Ext.alloc ?_ _ | with_reducible refine Ext.drew ?_ | with_reducible refine Ext.drewN ?_ _ | ((with_reducible refine Ext.setCell' ?_ ?_ _); solve | omega | simp | (simp; omega)) | (with_reducible refine Ext.trans ?_ (by with_reducible assumption))))))).mono ?_
              rintro e w32 ⟨rfl, hx32⟩
              have HX32 : Hid (Ext w31 w32) := Lib.hid (by (repeat (first | with_reducible exact Ext.refl _ | with_reducible assumption | ((with_reducible apply Src.ext); with_reducible assumption) | with_reducible refine Ext.alloc ?_ _ | with_reducible refine Ext.drew ?_ | with_reducible refine Ext.drewN ?_ _ | ((with_reducible refine Ext.setCell' ?_ ?_ _); solve | omega | simp | (simp; omega)) | (with_reducible refine Ext.trans ?_ (by with_reducible assumption)))))
              clear hx32
              go_wp2_with fail
              refine (HWU1.out _ y (HX1E.out.trans (HX31.out.trans (HX32.out.trans (by (repeat (first | with_reducible exact Ext.refl _ | with_reducible assumption | ((with_reducible apply Src.ext); with_reducible assumption) | with_reducible refine Ext.alloc ?_ _ | with_reducible refine Ext.drew ?_ | with_reducible refine Ext.drewN ?_ _ | ((with_reducible refine Ext.setCell' ?_ ?_ _); solve | omega | simp | (simp; omega)) | (with_reducible refine Ext.trans ?_ (by with_reducible assumption)))))))) y1 y2).mono ?_
              rintro e w33 ⟨v33, rfl, hO33, hx33⟩
              obtain ⟨A33, c33, rfl, hS33, -, -, -⟩ := hO33.sl len_encS
              have HS33 := Lib.hid hS33
              have HX33 : Hid (Ext w31 w33) := Lib.hid (HX32.out.trans hx33)
              obtain ⟨n33, hn33⟩ : ∃ n, n = (WF y).length := ⟨_, rfl⟩
              rw [← hn33]
              have HN33 := Lib.hid hn33
              clear hO33 hS33 hx33 hn33
              obtain ⟨hh, hhe⟩ : ∃ b, b = hasY S y := ⟨_, rfl⟩
              rw [← hhe]
              have ehh : (hh != hh) = false := by simp
              have HHT2 : Hid (∀ W, Ext w33 W → Calls Tryz.prog 26 #[.slice A33 n33 c33, .string sb] W fun e w' => e = .returned (.bool hh) ∧ Ext W w') := Lib.hid (fun W hW => by
                have := HHT1.out W y A33 c33 n33 y1 y2 (HS33.out.ext hW) HN33.out
                rwa [← hhe] at this)
              clear hhe hw1 y1 y2
              go_wp2_with fail
              refine (HHT2.out _ (by (repeat (first | with_reducible exact Ext.refl _ | with_reducible assumption | ((with_reducible apply Src.ext); with_reducible assumption) | with_reducible refine Ext.alloc ?_ _ | with_reducible refine Ext.drew ?_ | with_reducible refine Ext.drewN ?_ _ | ((with_reducible refine Ext.setCell' ?_ ?_ _); solve | omega | simp | (simp; omega)) | (with_reducible refine Ext.trans ?_ (by with_reducible assumption)))))).mono ?_
              rintro e w34 ⟨rfl, hx34⟩
              have HD4 : Hid (Dic a20 A c bs g w34) := Lib.hid (HD1.out.on (HX33.out.trans (by (repeat (first | with_reducible exact Ext.refl _ | with_reducible assumption | ((with_reducible apply Src.ext); with_reducible assumption) | with_reducible refine Ext.alloc ?_ _ | with_reducible refine Ext.drew ?_ | with_reducible refine Ext.drewN ?_ _ | ((with_reducible refine Ext.setCell' ?_ ?_ _); solve | omega | simp | (simp; omega)) | (with_reducible refine Ext.trans ?_ (by with_reducible assumption)))))))
              go_wp2
              go_roundw
              case rel => exact ⟨k + 1, by omega, by go_num, HD4⟩
              case measure => simp [intOf]; omega
            · go_wp2
              go_ret
              exact ⟨rfl, HX1.out.trans (HX1E.out.trans (HXa.out.trans (HDr.out.ext.trans (by (repeat (first | with_reducible exact Ext.refl _ | with_reducible assumption | ((with_reducible apply Src.ext); with_reducible assumption) | with_reducible refine Ext.alloc ?_ _ | with_reducible refine Ext.drew ?_ | with_reducible refine Ext.drewN ?_ _ | ((with_reducible refine Ext.setCell' ?_ ?_ _); solve | omega | simp | (simp; omega)) | (with_reducible refine Ext.trans ?_ (by with_reducible assumption))))))))⟩
        · have ecy : (cy != 0) = true := by simpa using hcy
          clear HHY HWU HHT HRO
          go_wp2
          go_ret
          exact ⟨rfl, HX1.out.trans (HX1E.out.trans (HXD.out.trans (by (repeat (first | with_reducible exact Ext.refl _ | with_reducible assumption | ((with_reducible apply Src.ext); with_reducible assumption) | with_reducible refine Ext.alloc ?_ _ | with_reducible refine Ext.drew ?_ | with_reducible refine Ext.drewN ?_ _ | ((with_reducible refine Ext.setCell' ?_ ?_ _); solve | omega | simp | (simp; omega)) | (with_reducible refine Ext.trans ?_ (by with_reducible assumption)))))))⟩
      · have emc : (mc == 0) = false := beq_eq_false_iff_ne.2 hmc
        clear HMB
        have HXD := HXC
        by_cases hcy : cy = 0
        · have HHY1 := Lib.hid (HHY.out hcy)
          have HWU1 := Lib.hid (HWU.out hcy)
          have HHT1 := Lib.hid (HHT.out hcy)
          have ecy : (cy != 0) = false := by rw [hcy]; rfl
          clear hcy HHY HWU HHT
          go_wp2_with fail
          refine (HRO.out _ (HX1.out.trans (HX1E.out.trans (HXD.out.trans (by (repeat (first | with_reducible exact Ext.refl _ | with_reducible assumption | ((with_reducible apply Src.ext); with_reducible assumption) | with_reducible refine Ext.alloc ?_ _ | with_reducible refine Ext.drew ?_ | with_reducible refine Ext.drewN ?_ _ | ((with_reducible refine Ext.setCell' ?_ ?_ _); solve | omega | simp | (simp; omega)) | (with_reducible refine Ext.trans ?_ (by with_reducible assumption))))))))).mono ?_
          rintro e w20 ⟨g, rfl, hD⟩
          obtain ⟨a20, hxa, hda⟩ : ∃ a, Ext w9 a ∧ Dic a A c bs g w20 := ⟨_, HXD.out.trans (by (repeat (first | with_reducible exact Ext.refl _ | with_reducible assumption | ((with_reducible apply Src.ext); with_reducible assumption) | with_reducible refine Ext.alloc ?_ _ | with_reducible refine Ext.drew ?_ | with_reducible refine Ext.drewN ?_ _ | ((with_reducible refine Ext.setCell' ?_ ?_ _); solve | omega | simp | (simp; omega)) | (with_reducible refine Ext.trans ?_ (by with_reducible assumption))))), hD⟩
          have HD := Lib.hid hda
          have HXa := Lib.hid hxa
          clear hD hxa hda
          go_wp2
          go_loopw [32] (fun i wr => ∃ k : Nat, k ≤ 6 ∧ i = .int .i64 k ∧ Hid (Dic a20 A c bs g wr)) (fun i _ => 6 - (intOf i).toNat)
          case atStart => exact ⟨0, by omega, rfl, HD⟩
          case round =>
            obtain ⟨k, hk, rfl, HDr⟩ := hrel
            obtain ⟨w30, rfl⟩ : ∃ x, x = wr := ⟨wr, rfl⟩
            by_cases hlt : k < 6
            · go_wp2_with fail
              refine (l_below 1200 _ HDr.out (by omega) (by omega)).mono ?_
              rintro e w31 ⟨x, rfl, ⟨x0, x1⟩, hD1, -⟩
              have HD1 := Lib.hid hD1
              have HX31 : Hid (Ext w9 w31) := Lib.hid (HXa.out.trans hD1.ext)
              clear hD1
              obtain ⟨y, hw1, y1, y2⟩ : ∃ y, IntKind.i64.wrap (1000 + x) = y ∧ -3000 ≤ y ∧ y ≤ 3000 := ⟨1000 + x, IntWalk.i64_in _ (by omega), by omega, by omega⟩
              clear x0 x1
              go_wp2_with fail
              refine (HHY1.out _ y (HX31.out.trans (by (repeat (first | with_reducible exact Ext.refl _ | with_reducible assumption | ((with_reducible apply Src.ext); with_reducible assumption) | with_reducible refine Ext.alloc ?_ _ | with_reducible refine Ext.drew ?_ | with_reducible refine Ext.drewN ?_ _ | ((with_reducible refine Ext.setCell' ?_ ?_ _); solve | omega | simp | (simp; omega)) | (with_reducible refine Ext.trans ?_ (by with_reducible assumption))))))).mono ?_
              rintro e w32 ⟨rfl, hx32⟩
              have HX32 : Hid (Ext w31 w32) := Lib.hid (by (repeat (first | with_reducible exact Ext.refl _ | with_reducible assumption | ((with_reducible apply Src.ext); with_reducible assumption) | with_reducible refine Ext.alloc ?_ _ | with_reducible refine Ext.drew ?_ | with_reducible refine Ext.drewN ?_ _ | ((with_reducible refine Ext.setCell' ?_ ?_ _); solve | omega | simp | (simp; omega)) | (with_reducible refine Ext.trans ?_ (by with_reducible assumption)))))
              clear hx32
              go_wp2_with fail
              refine (HWU1.out _ y (HX1E.out.trans (HX31.out.trans (HX32.out.trans (by (repeat (first | with_reducible exact Ext.refl _ | with_reducible assumption | ((with_reducible apply Src.ext); with_reducible assumption) | with_reducible refine Ext.alloc ?_ _ | with_reducible refine Ext.drew ?_ | with_reducible refine Ext.drewN ?_ _ | ((with_reducible refine Ext.setCell' ?_ ?_ _); solve | omega | simp | (simp; omega)) | (with_reducible refine Ext.trans ?_ (by with_reducible assumption)))))))) y1 y2).mono ?_
              rintro e w33 ⟨v33, rfl, hO33, hx33⟩
              obtain ⟨A33, c33, rfl, hS33, -, -, -⟩ := hO33.sl len_encS
              have HS33 := Lib.hid hS33
              have HX33 : Hid (Ext w31 w33) := Lib.hid (HX32.out.trans hx33)
              obtain ⟨n33, hn33⟩ : ∃ n, n = (WF y).length := ⟨_, rfl⟩
              rw [← hn33]
              have HN33 := Lib.hid hn33
              clear hO33 hS33 hx33 hn33
              obtain ⟨hh, hhe⟩ : ∃ b, b = hasY S y := ⟨_, rfl⟩
              rw [← hhe]
              have ehh : (hh != hh) = false := by simp
              have HHT2 : Hid (∀ W, Ext w33 W → Calls Tryz.prog 26 #[.slice A33 n33 c33, .string sb] W fun e w' => e = .returned (.bool hh) ∧ Ext W w') := Lib.hid (fun W hW => by
                have := HHT1.out W y A33 c33 n33 y1 y2 (HS33.out.ext hW) HN33.out
                rwa [← hhe] at this)
              clear hhe hw1 y1 y2
              go_wp2_with fail
              refine (HHT2.out _ (by (repeat (first | with_reducible exact Ext.refl _ | with_reducible assumption | ((with_reducible apply Src.ext); with_reducible assumption) | with_reducible refine Ext.alloc ?_ _ | with_reducible refine Ext.drew ?_ | with_reducible refine Ext.drewN ?_ _ | ((with_reducible refine Ext.setCell' ?_ ?_ _); solve | omega | simp | (simp; omega)) | (with_reducible refine Ext.trans ?_ (by with_reducible assumption)))))).mono ?_
              rintro e w34 ⟨rfl, hx34⟩
              have HD4 : Hid (Dic a20 A c bs g w34) := Lib.hid (HD1.out.on (HX33.out.trans (by (repeat (first | with_reducible exact Ext.refl _ | with_reducible assumption | ((with_reducible apply Src.ext); with_reducible assumption) | with_reducible refine Ext.alloc ?_ _ | with_reducible refine Ext.drew ?_ | with_reducible refine Ext.drewN ?_ _ | ((with_reducible refine Ext.setCell' ?_ ?_ _); solve | omega | simp | (simp; omega)) | (with_reducible refine Ext.trans ?_ (by with_reducible assumption)))))))
              go_wp2
              go_roundw
              case rel => exact ⟨k + 1, by omega, by go_num, HD4⟩
              case measure => simp [intOf]; omega
            · go_wp2
              go_ret
              exact ⟨rfl, HX1.out.trans (HX1E.out.trans (HXa.out.trans (HDr.out.ext.trans (by (repeat (first | with_reducible exact Ext.refl _ | with_reducible assumption | ((with_reducible apply Src.ext); with_reducible assumption) | with_reducible refine Ext.alloc ?_ _ | with_reducible refine Ext.drew ?_ | with_reducible refine Ext.drewN ?_ _ | ((with_reducible refine Ext.setCell' ?_ ?_ _); solve | omega | simp | (simp; omega)) | (with_reducible refine Ext.trans ?_ (by with_reducible assumption))))))))⟩
        · have ecy : (cy != 0) = true := by simpa using hcy
          clear HHY HWU HHT HRO
          go_wp2
          go_ret
          exact ⟨rfl, HX1.out.trans (HX1E.out.trans (HXD.out.trans (by (repeat (first | with_reducible exact Ext.refl _ | with_reducible assumption | ((with_reducible apply Src.ext); with_reducible assumption) | with_reducible refine Ext.alloc ?_ _ | with_reducible refine Ext.drew ?_ | with_reducible refine Ext.drewN ?_ _ | ((with_reducible refine Ext.setCell' ?_ ?_ _); solve | omega | simp | (simp; omega)) | (with_reducible refine Ext.trans ?_ (by with_reducible assumption)))))))⟩
  · have hbg : ∀ W, Calls Tryz.prog 7 #[.slice A bs.length c] W fun e w' => e = .returned (.bool true) ∧ W = w' := fun W => by
      have := l_bigQ A c bs.length W
      rwa [decide_eq_true (by omega)] at this
    have HG := Lib.hid hbg
    clear hbg
    go_enter Tryz.func3, Tryz.ntmps3
    (go_wp2_with fail; refine (HG.out _).mono ?_; rintro e w' ⟨rfl, rfl⟩)
    go_wp2
    go_ret
    exact ⟨rfl, by (repeat (first | with_reducible exact Ext.refl _ | with_reducible assumption | ((with_reducible apply Src.ext); with_reducible assumption) | with_reducible refine Ext.alloc ?_ _ | with_reducible refine Ext.drew ?_ | with_reducible refine Ext.drewN ?_ _ | ((with_reducible refine Ext.setCell' ?_ ?_ _); solve | omega | simp | (simp; omega)) | (with_reducible refine Ext.trans ?_ (by with_reducible assumption))))⟩
end Go.Proofs.YtncccigbiefnkaaGreatDoor
