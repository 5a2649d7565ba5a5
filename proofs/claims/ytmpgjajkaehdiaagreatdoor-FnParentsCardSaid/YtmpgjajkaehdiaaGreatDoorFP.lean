/- The law of parents, walked over the translation. -/
import Derived.Test.YtmpgjajkaehdiaaGreatDoorHR
import Derived.Test.YtmpgjajkaehdiaaGreatDoorHQ
import Derived.Test.YtmpgjajkaehdiaaGreatDoorWQ
import Derived.Test.YtmpgjajkaehdiaaGreatDoorDY
namespace Go.Proofs.YtmpgjajkaehdiaaGreatDoor
open Go.RowKit
attribute [local go_sem] ExtOf.cell ExtOf.frozen

theorem insR_len (L : List Lk) (x : List UInt8) (y : Int) (hl : L.length ≤ 21) : (insR L x y).length ≤ 1000 := by
  unfold insR
  split
  · have h1 := List.length_filter_le (insB L x y) (plaA L)
    have h2 := pla_len L
    omega
  · simp
theorem chiR_len (L : List Lk) (x : List UInt8) (y : Int) (hl : L.length ≤ 21) : (chiR L x y).length ≤ 1000 := by
  unfold chiR
  split
  · have h1 := List.length_filter_le (chiB L x y) (plaA L)
    have h2 := pla_len L
    omega
  · simp
theorem rootR_len (L : List Lk) (y : Int) (hl : L.length ≤ 21) : (rootR L y).length ≤ 1000 := by
  unfold rootR
  split
  · rw [← insL_sort]
    have h1 := insL_len ((L.filter (rtB L y)).map fun l => l.2.1)
    have h2 := List.length_filter_le (rtB L y) L
    rw [List.length_map] at h1
    omega
  · simp
theorem wayR_len (L : List Lk) (x : List UInt8) (y : Int) (hl : L.length ≤ 21) : (wayR L x y).length ≤ 1000 := by
  unfold wayR
  split
  · obtain ⟨_, _, h⟩ := wayU_ne L x y
    omega
  · simp
theorem addR_len (L : List Lk) (l : Lk) (hl : L.length ≤ 21) : (addR L l).length ≤ 1000 := by
  unfold addR
  split
  · rw [List.length_append, List.length_singleton]; omega
  · simp
theorem SlAt.stX {w : World} {A : Option Addr} {xs : List (List UInt8)} (h : SlAt w 1 encS A xs) {k : Nat} (hk : k < xs.length) : ∃ b off, A = some ⟨b, off, none⟩ ∧ b < w.heap.size ∧ w.cell? ⟨b, off + k, none⟩ = some (.string (tx (xs.getD k []))) := h.st hk
theorem OwK.linksR {L : List Lk} {l : Lk} (h : LnksOk L) (hl : LnkOk l) : Links (addR L l) := by
  unfold addR
  split
  · exact (h.snoc hl).links
  · exact fun j => by simp [List.getD, lkD]

set_option maxRecDepth 20000 in
set_option maxHeartbeats 51200000 in
theorem fnParents_walk (A : Option Addr) (c : Nat) (bs : List Int) (w : World) (h : SlAt w 1 encB A bs) (hb : ∀ b ∈ bs, 0 ≤ b ∧ b ≤ 255) :
    Calls Tryz.prog 4 #[.slice A bs.length c] w fun e w' => e = .returned (.bool true) ∧ Ext w w' := by
  have HB := Lib.hid hb
  clear hb
  by_cases hl : bs.length ≤ 4096
  · have hbg : ∀ W, Calls Tryz.prog 6 #[.slice A bs.length c] W fun e w' => e = .returned (.bool false) ∧ W = w' := fun W => by
      have := l_bigQ A c bs.length W
      rwa [decide_eq_false (by omega)] at this
    have HG := Lib.hid hbg
    have HL := Lib.hid hl
    clear hbg hl
    have HS0 := Lib.hid h
    clear h
    obtain ⟨nn, hnn⟩ : ∃ n, n = bs.length := ⟨_, rfl⟩
    have HDW : Hid (∀ W, Ext w W → Calls Tryz.prog 26 #[.slice A nn c] W fun e w' => ∃ (A' : Option Addr) (c' : Nat) (L : List Lk) (t : List UInt8) (y : Int), e = .returned (.tuple #[.slice A' L.length c', .string (tx t), .int .i64 y]) ∧ SlAt w' 4 encK A' L ∧ L.length ≤ c' ∧ (L.length ≤ 21 ∧ LnksOk L) ∧ (t.length ≤ 17 ∧ -4000 ≤ y ∧ y ≤ 4000) ∧ Ext W w') := Lib.hid (fun W hW => by rw [hnn]; exact s_DrawWayUp A c bs W (HS0.out.ext hW) HB.out HL.out)
    have HDC : Hid (∀ W, Ext w W → Calls Tryz.prog 29 #[.slice A nn c] W fun e w' => ∃ (A' : Option Addr) (c' : Nat) (L : List Lk) (t : List UInt8) (y : Int), e = .returned (.tuple #[.slice A' L.length c', .string (tx t), .int .i64 y]) ∧ SlAt w' 4 encK A' L ∧ L.length ≤ c' ∧ (L.length ≤ 21 ∧ LnksOk L) ∧ (t.length ≤ 17 ∧ -4000 ≤ y ∧ y ≤ 4000) ∧ Ext W w') := Lib.hid (fun W hW => by rw [hnn]; exact s_DrawChildrenIn A c bs W (HS0.out.ext hW) HB.out HL.out)
    have HDR : Hid (∀ W, Ext w W → Calls Tryz.prog 33 #[.slice A nn c] W fun e w' => ∃ (A' : Option Addr) (c' : Nat) (L : List Lk) (y : Int), e = .returned (.tuple #[.slice A' L.length c', .int .i64 y]) ∧ SlAt w' 4 encK A' L ∧ L.length ≤ c' ∧ (L.length ≤ 21 ∧ LnksOk L) ∧ (-4000 ≤ y ∧ y ≤ 4000) ∧ Ext W w') := Lib.hid (fun W hW => by rw [hnn]; exact s_DrawRootsIn A c bs W (HS0.out.ext hW) HB.out HL.out)
    have HDA : Hid (∀ W, Ext w W → Calls Tryz.prog 36 #[.slice A nn c] W fun e w' => ∃ (A' : Option Addr) (c' : Nat) (L : List Lk) (l : Lk), e = .returned (.tuple #[.slice A' L.length c', .agg #[.string (tx l.1), .string (tx l.2.1), .int .i64 l.2.2.1, .int .i64 l.2.2.2]]) ∧ SlAt w' 4 encK A' L ∧ L.length ≤ c' ∧ (L.length ≤ 21 ∧ LnksOk L) ∧ LnkOk l ∧ Ext W w') := Lib.hid (fun W hW => by rw [hnn]; exact s_DrawAddLink A c bs W (HS0.out.ext hW) HB.out HL.out)
    rw [← hnn] at HG ⊢
    clear hnn HS0 HB HL
    go_enter Tryz.func4, Tryz.ntmps4
    (go_wp2_with fail; refine (HG.out _).mono ?_; rintro e w' ⟨rfl, rfl⟩)
    go_wp2_with fail
    refine (HDW.out _ (by (repeat (first | with_reducible exact Ext.refl _ | with_reducible assumption | ((with_reducible apply Src.ext); with_reducible assumption) | with_reducible refine Ext.alloc ?_ _ | with_reducible refine Ext.drew ?_ | with_reducible refine Ext.drewN ?_ _ | ((with_reducible refine Ext.setCell' ?_ ?_ _); solve | omega | simp | (simp; omega)) | (with_reducible refine Ext.trans ?_ (by with_reducible assumption)))))).mono ?_
    rintro e w1 ⟨A1, c1, L1, t1, y1, rfl, hS1, hc1, ⟨hl1, hk1⟩, ⟨ht1, hy1⟩, hx1⟩
    have HWI := Lib.hid fun W (hW : Ext w1 W) => i_WayUp A1 L1.length c1 L1 t1 y1 W (hS1.ext hW) rfl (by omega) hc1 hk1.links (by omega)
    have HWS := Lib.hid fun W (hW : Ext w1 W) => s_WayUp A1 L1.length c1 L1 t1 y1 W (hS1.ext hW) rfl (by omega) hk1.links (by omega)
    have HPI := Lib.hid fun W (hW : Ext w1 W) => i_ParentIn A1 L1.length c1 L1 t1 y1 W (hS1.ext hW) rfl (by omega) hc1 hk1.links (by omega)
    have HPS := Lib.hid fun W (hW : Ext w1 W) => s_ParentIn A1 L1.length c1 L1 t1 y1 W (hS1.ext hW) rfl (by omega) hk1.links (by omega)
    have HPL : Hid (lkC L1 [t1] y1 = 0 → ∀ W, Ext w1 W → Calls Tryz.prog 19 #[.slice A1 L1.length c1, .string (tx ((wayR L1 t1 y1).getD ((wayR L1 t1 y1).length - 1) [])), .int .i64 y1] W fun e w' => (∃ s, e = .returned (.tuple #[.string s, .int .i64 4])) ∧ Ext W w') := Lib.hid (fun hz W hW => by
      have hR : wayR L1 t1 y1 = (wayU L1 t1 y1).1 := by unfold wayR; rw [if_pos hz]
      rw [hR]
      have h4 := last_law hz
      have hln : ((wayU L1 t1 y1).1.getD ((wayU L1 t1 y1).1.length - 1) []).length ≤ 1048576 := by
        by_cases hq : smL ((wayU L1 t1 y1).1.getD ((wayU L1 t1 y1).1.length - 1) []) 1 16 = true
        · simp [smL, inB] at hq ⊢
          omega
        · exfalso
          have : parC L1 ((wayU L1 t1 y1).1.getD ((wayU L1 t1 y1).1.length - 1) []) y1 = 1 := by
            rw [(parC_bad (by rw [lkC_words (by simpa using hq)]; decide)).1, lkC_words (by simpa using hq)]
          rw [this] at h4
          cases h4
      have := i_ParentIn A1 L1.length c1 L1 ((wayU L1 t1 y1).1.getD ((wayU L1 t1 y1).1.length - 1) []) y1 W (hS1.ext hW) rfl (by omega) hc1 hk1.links hln
      rw [h4] at this
      exact this.mono fun e w' ⟨h1, h2⟩ => ⟨⟨_, h1⟩, h2⟩)
    have HUP : Hid (lkC L1 [t1] y1 = 0 → 0 < (wayR L1 t1 y1).length ∧ (wayR L1 t1 y1).getD 0 [] = t1 ∧ (parC L1 t1 y1 = 0 ∨ parC L1 t1 y1 = 4) ∧ (parC L1 t1 y1 = 0 → 1 < (wayR L1 t1 y1).length ∧ (wayR L1 t1 y1).getD 1 [] = parV L1 t1 y1) ∧ (¬ parC L1 t1 y1 = 0 → ¬ 1 < (wayR L1 t1 y1).length)) := Lib.hid (fun hz => by
      have hR : wayR L1 t1 y1 = (wayU L1 t1 y1).1 := by unfold wayR; rw [if_pos hz]
      obtain ⟨u1, u2, u3, u4⟩ := up_law hz
      rw [hR]
      refine ⟨u1, u2, ?_⟩
      cases hp : (par L1 t1 y1).isSome with
      | true =>
        rw [hp] at u3 u4
        have := parC_some hz hp
        exact ⟨.inl this.1, fun _ => ⟨of_decide_eq_true u3, by rw [this.2]; exact u4 rfl⟩, fun e => absurd this.1 e⟩
      | false =>
        rw [hp] at u3
        have := parC_none hz hp
        exact ⟨.inr this.1, fun e => (by rw [this.1] at e; cases e), fun _ => of_decide_eq_false u3⟩)
    have HWL := Lib.hid (wayR_len L1 t1 y1 hl1)
    obtain ⟨n1, hn1⟩ : ∃ n1, n1 = L1.length := ⟨_, rfl⟩
    rw [← hn1] at HWI HWS HPI HPS HPL ⊢
    generalize lkC L1 [t1] y1 = wc at *
    generalize wayR L1 t1 y1 = ws at *
    generalize parC L1 t1 y1 = pc at *
    generalize parV L1 t1 y1 = pv at *
    clear hn1 hS1 hc1 hl1 hk1 ht1 hy1
    obtain ⟨nw, hnw⟩ : ∃ nw, nw = ws.length := ⟨_, rfl⟩
    rw [← hnw] at HWL HUP HPL
    have HNW := Lib.hid hnw
    clear hnw
    go_wp2_with fail
    refine (HWI.out _ (by (repeat (first | with_reducible exact Ext.refl _ | with_reducible assumption | ((with_reducible apply Src.ext); with_reducible assumption) | with_reducible refine Ext.alloc ?_ _ | with_reducible refine Ext.drew ?_ | with_reducible refine Ext.drewN ?_ _ | ((with_reducible refine Ext.setCell' ?_ ?_ _); solve | omega | simp | (simp; omega)) | (with_reducible refine Ext.trans ?_ (by with_reducible assumption)))))).mono ?_
    rintro e w2 ⟨v2, rfl, hO2, hx2⟩
    obtain ⟨A2, c2, rfl, hS2, -, -, -⟩ := hO2.sl len_encS
    rw [← HNW.out]
    have HS2 := Lib.hid hS2
    clear hO2 hS2
    go_wp2_with fail
    refine (HWS.out _ (by (repeat (first | with_reducible exact Ext.refl _ | with_reducible assumption | ((with_reducible apply Src.ext); with_reducible assumption) | with_reducible refine Ext.alloc ?_ _ | with_reducible refine Ext.drew ?_ | with_reducible refine Ext.drewN ?_ _ | ((with_reducible refine Ext.setCell' ?_ ?_ _); solve | omega | simp | (simp; omega)) | (with_reducible refine Ext.trans ?_ (by with_reducible assumption)))))).mono ?_
    rintro e w3 ⟨v3, rfl, hO3, hx3⟩
    obtain ⟨A3, c3, rfl, hS3, -, -, -⟩ := hO3.sl len_encS
    rw [← HNW.out]
    have HS3 := Lib.hid hS3
    clear hO3 hS3
    (go_wp2_with fail; refine (HPI.out _ (by (repeat (first | with_reducible exact Ext.refl _ | with_reducible assumption | ((with_reducible apply Src.ext); with_reducible assumption) | with_reducible refine Ext.alloc ?_ _ | with_reducible refine Ext.drew ?_ | with_reducible refine Ext.drewN ?_ _ | ((with_reducible refine Ext.setCell' ?_ ?_ _); solve | omega | simp | (simp; omega)) | (with_reducible refine Ext.trans ?_ (by with_reducible assumption)))))).mono ?_; rintro e w4 ⟨rfl, hx4⟩; obtain ⟨hc4, hf4⟩ := hx4.rules; have hs4 := hx4.size; (try simp at hs4))
    (go_wp2_with fail; refine (HPS.out _ (by (repeat (first | with_reducible exact Ext.refl _ | with_reducible assumption | ((with_reducible apply Src.ext); with_reducible assumption) | with_reducible refine Ext.alloc ?_ _ | with_reducible refine Ext.drew ?_ | with_reducible refine Ext.drewN ?_ _ | ((with_reducible refine Ext.setCell' ?_ ?_ _); solve | omega | simp | (simp; omega)) | (with_reducible refine Ext.trans ?_ (by with_reducible assumption)))))).mono ?_; rintro e w5 ⟨rfl, hx5⟩; obtain ⟨hc5, hf5⟩ := hx5.rules; have hs5 := hx5.size; (try simp at hs5))
    go_wp2_with fail
    refine (HDC.out _ (by (repeat (first | with_reducible exact Ext.refl _ | with_reducible assumption | ((with_reducible apply Src.ext); with_reducible assumption) | with_reducible refine Ext.alloc ?_ _ | with_reducible refine Ext.drew ?_ | with_reducible refine Ext.drewN ?_ _ | ((with_reducible refine Ext.setCell' ?_ ?_ _); solve | omega | simp | (simp; omega)) | (with_reducible refine Ext.trans ?_ (by with_reducible assumption)))))).mono ?_
    rintro e w6 ⟨A6, c6, L6, t6, y6, rfl, hS6, hc6, ⟨hl6, hk6⟩, ⟨ht6, hy6⟩, hx6⟩
    have HCI := Lib.hid fun W (hW : Ext w6 W) => i_ChildrenIn A6 L6.length c6 L6 t6 y6 W (hS6.ext hW) rfl (by omega) hc6 hk6.links (by omega)
    have HCS := Lib.hid fun W (hW : Ext w6 W) => s_ChildrenIn A6 L6.length c6 L6 t6 y6 W (hS6.ext hW) rfl (by omega) hk6.links (by omega)
    have HII := Lib.hid fun W (hW : Ext w6 W) => i_InsideIn A6 L6.length c6 L6 t6 y6 W (hS6.ext hW) rfl (by omega) hc6 hk6.links (by omega)
    have HIS := Lib.hid fun W (hW : Ext w6 W) => s_InsideIn A6 L6.length c6 L6 t6 y6 W (hS6.ext hW) rfl (by omega) hk6.links (by omega)
    have HCH : Hid (lkC L6 [t6] y6 = 0 → ∀ z ∈ chiR L6 t6 y6, z ∈ insR L6 t6 y6) := Lib.hid (fun hz z hm => chi_in hz hm)
    have HSO : Hid (t6 ∉ insR L6 t6 y6) := Lib.hid self_out
    have HCL := Lib.hid (chiR_len L6 t6 y6 hl6)
    have HIL := Lib.hid (insR_len L6 t6 y6 hl6)
    obtain ⟨n6, hn6⟩ : ∃ n6, n6 = L6.length := ⟨_, rfl⟩
    rw [← hn6] at HCI HCS HII HIS ⊢
    generalize lkC L6 [t6] y6 = kc at *
    generalize chiR L6 t6 y6 = ks at *
    generalize insR L6 t6 y6 = is at *
    clear hn6 hS6 hc6 hl6 hk6 ht6 hy6
    obtain ⟨nk, hnk⟩ : ∃ nk, nk = ks.length := ⟨_, rfl⟩
    obtain ⟨ni, hni⟩ : ∃ ni, ni = is.length := ⟨_, rfl⟩
    rw [← hnk] at HCL
    rw [← hni] at HIL
    have HNK := Lib.hid hnk
    have HNI := Lib.hid hni
    clear hnk hni
    go_wp2_with fail
    refine (HCI.out _ (by (repeat (first | with_reducible exact Ext.refl _ | with_reducible assumption | ((with_reducible apply Src.ext); with_reducible assumption) | with_reducible refine Ext.alloc ?_ _ | with_reducible refine Ext.drew ?_ | with_reducible refine Ext.drewN ?_ _ | ((with_reducible refine Ext.setCell' ?_ ?_ _); solve | omega | simp | (simp; omega)) | (with_reducible refine Ext.trans ?_ (by with_reducible assumption)))))).mono ?_
    rintro e w7 ⟨v7, rfl, hO7, hx7⟩
    obtain ⟨A7, c7, rfl, hS7, -, -, -⟩ := hO7.sl len_encS
    rw [← HNK.out]
    have HS7 := Lib.hid hS7
    clear hO7 hS7
    go_wp2_with fail
    refine (HCS.out _ (by (repeat (first | with_reducible exact Ext.refl _ | with_reducible assumption | ((with_reducible apply Src.ext); with_reducible assumption) | with_reducible refine Ext.alloc ?_ _ | with_reducible refine Ext.drew ?_ | with_reducible refine Ext.drewN ?_ _ | ((with_reducible refine Ext.setCell' ?_ ?_ _); solve | omega | simp | (simp; omega)) | (with_reducible refine Ext.trans ?_ (by with_reducible assumption)))))).mono ?_
    rintro e w8 ⟨v8, rfl, hO8, hx8⟩
    obtain ⟨A8, c8, rfl, hS8, -, -, -⟩ := hO8.sl len_encS
    rw [← HNK.out]
    have HS8 := Lib.hid hS8
    clear hO8 hS8
    go_wp2_with fail
    refine (HII.out _ (by (repeat (first | with_reducible exact Ext.refl _ | with_reducible assumption | ((with_reducible apply Src.ext); with_reducible assumption) | with_reducible refine Ext.alloc ?_ _ | with_reducible refine Ext.drew ?_ | with_reducible refine Ext.drewN ?_ _ | ((with_reducible refine Ext.setCell' ?_ ?_ _); solve | omega | simp | (simp; omega)) | (with_reducible refine Ext.trans ?_ (by with_reducible assumption)))))).mono ?_
    rintro e w9 ⟨v9, rfl, hO9, hx9⟩
    obtain ⟨A9, c9, rfl, hS9, -, -, -⟩ := hO9.sl len_encS
    rw [← HNI.out]
    have HS9 := Lib.hid hS9
    clear hO9 hS9
    go_wp2_with fail
    refine (HIS.out _ (by (repeat (first | with_reducible exact Ext.refl _ | with_reducible assumption | ((with_reducible apply Src.ext); with_reducible assumption) | with_reducible refine Ext.alloc ?_ _ | with_reducible refine Ext.drew ?_ | with_reducible refine Ext.drewN ?_ _ | ((with_reducible refine Ext.setCell' ?_ ?_ _); solve | omega | simp | (simp; omega)) | (with_reducible refine Ext.trans ?_ (by with_reducible assumption)))))).mono ?_
    rintro e w10 ⟨v10, rfl, hO10, hx10⟩
    obtain ⟨A10, c10, rfl, hS10, -, -, -⟩ := hO10.sl len_encS
    rw [← HNI.out]
    have HS10 := Lib.hid hS10
    clear hO10 hS10
    go_wp2_with fail
    refine (HDR.out _ (by (repeat (first | with_reducible exact Ext.refl _ | with_reducible assumption | ((with_reducible apply Src.ext); with_reducible assumption) | with_reducible refine Ext.alloc ?_ _ | with_reducible refine Ext.drew ?_ | with_reducible refine Ext.drewN ?_ _ | ((with_reducible refine Ext.setCell' ?_ ?_ _); solve | omega | simp | (simp; omega)) | (with_reducible refine Ext.trans ?_ (by with_reducible assumption)))))).mono ?_
    rintro e w11 ⟨A11, c11, L11, y11, rfl, hS11, hc11, ⟨hl11, hk11⟩, hy11, hx11⟩
    have HRI := Lib.hid fun W (hW : Ext w11 W) => i_RootsIn A11 L11.length c11 L11 y11 W (hS11.ext hW) rfl (by omega) hc11 hk11.links
    have HRS := Lib.hid fun W (hW : Ext w11 W) => s_RootsIn A11 L11.length c11 L11 y11 W (hS11.ext hW) rfl (by omega) hk11.links
    have HAI := Lib.hid fun W (hW : Ext w11 W) => i_AreLinks A11 L11.length c11 L11 W (hS11.ext hW) rfl (by omega) hc11 hk11.links
    have HAS := Lib.hid fun W (hW : Ext w11 W) => s_AreLinks A11 L11.length c11 L11 W (hS11.ext hW) rfl (by omega) hk11.links
    have HRL := Lib.hid (rootR_len L11 y11 hl11)
    obtain ⟨n11, hn11⟩ : ∃ n11, n11 = L11.length := ⟨_, rfl⟩
    rw [← hn11] at HRI HRS HAI HAS ⊢
    generalize lkC L11 [] y11 = rc at *
    generalize rootR L11 y11 = rs at *
    generalize lksB L11 = lb at *
    clear hn11 hS11 hc11 hl11 hk11 hy11
    obtain ⟨nr, hnr⟩ : ∃ nr, nr = rs.length := ⟨_, rfl⟩
    rw [← hnr] at HRL
    have HNR := Lib.hid hnr
    clear hnr
    go_wp2_with fail
    refine (HRI.out _ (by (repeat (first | with_reducible exact Ext.refl _ | with_reducible assumption | ((with_reducible apply Src.ext); with_reducible assumption) | with_reducible refine Ext.alloc ?_ _ | with_reducible refine Ext.drew ?_ | with_reducible refine Ext.drewN ?_ _ | ((with_reducible refine Ext.setCell' ?_ ?_ _); solve | omega | simp | (simp; omega)) | (with_reducible refine Ext.trans ?_ (by with_reducible assumption)))))).mono ?_
    rintro e w12 ⟨v12, rfl, hO12, hx12⟩
    obtain ⟨A12, c12, rfl, hS12, -, -, -⟩ := hO12.sl len_encS
    rw [← HNR.out]
    have HS12 := Lib.hid hS12
    clear hO12 hS12
    go_wp2_with fail
    refine (HRS.out _ (by (repeat (first | with_reducible exact Ext.refl _ | with_reducible assumption | ((with_reducible apply Src.ext); with_reducible assumption) | with_reducible refine Ext.alloc ?_ _ | with_reducible refine Ext.drew ?_ | with_reducible refine Ext.drewN ?_ _ | ((with_reducible refine Ext.setCell' ?_ ?_ _); solve | omega | simp | (simp; omega)) | (with_reducible refine Ext.trans ?_ (by with_reducible assumption)))))).mono ?_
    rintro e w13 ⟨v13, rfl, hO13, hx13⟩
    obtain ⟨A13, c13, rfl, hS13, -, -, -⟩ := hO13.sl len_encS
    rw [← HNR.out]
    have HS13 := Lib.hid hS13
    clear hO13 hS13
    go_wp2_with fail
    refine (HDA.out _ (by (repeat (first | with_reducible exact Ext.refl _ | with_reducible assumption | ((with_reducible apply Src.ext); with_reducible assumption) | with_reducible refine Ext.alloc ?_ _ | with_reducible refine Ext.drew ?_ | with_reducible refine Ext.drewN ?_ _ | ((with_reducible refine Ext.setCell' ?_ ?_ _); solve | omega | simp | (simp; omega)) | (with_reducible refine Ext.trans ?_ (by with_reducible assumption)))))).mono ?_
    rintro e w14 ⟨A14, c14, L14, l, rfl, hS14, hc14, ⟨hl14, hk14⟩, hlo, hx14⟩
    have HDI := Lib.hid fun W (hW : Ext w14 W) => i_AddLink A14 L14.length c14 L14 l W (hS14.ext hW) rfl (by omega) hc14 hk14.links (by have := hlo.1; omega) (by have := hlo.2.1; omega)
    have HDS := Lib.hid fun W (hW : Ext w14 W) => s_AddLinkC A14 L14.length c14 L14 l W (hS14.ext hW) rfl (by omega) hk14.links (by have := hlo.1; omega) (by have := hlo.2.1; omega)
    have HDL := Lib.hid (addR_len L14 l hl14)
    have HDP : Hid (addC L14 l = 0 → ∀ A' n' c' W, SlAt W 4 encK A' (addR L14 l) → n' = (addR L14 l).length → n' ≤ c' → Calls Tryz.prog 19 #[.slice A' n' c', .string (tx l.1), .int .i64 l.2.2.1] W fun e w' => e = .returned (.tuple #[.string (tx l.2.1), .int .i64 0]) ∧ Ext W w') := Lib.hid (fun hz A' n' c' W hS hn hc => by
      have hR : addR L14 l = L14 ++ [l] := by unfold addR; rw [if_pos hz]
      have hlen := addR_len L14 l hl14
      have := i_ParentIn A' n' c' (addR L14 l) l.1 l.2.2.1 W hS hn (by omega) hc (OwK.linksR hk14 hlo) (by have := hlo.1; omega)
      rw [hR, (add_law hz).1, (add_law hz).2] at this
      exact this)
    obtain ⟨n14, hn14⟩ : ∃ n14, n14 = L14.length := ⟨_, rfl⟩
    rw [← hn14] at HDI HDS ⊢
    generalize addC L14 l = ac at *
    generalize addR L14 l = ms at *
    generalize tx l.1 = lc at *
    generalize tx l.2.1 = lp at *
    generalize l.2.2.1 = lf at *
    generalize l.2.2.2 = lt at *
    clear hn14 hS14 hc14 hl14 hk14 hlo
    obtain ⟨nm, hnm⟩ : ∃ nm, nm = ms.length := ⟨_, rfl⟩
    rw [← hnm] at HDL HDP
    have HNM := Lib.hid hnm
    clear hnm
    have HX13 : Hid (Ext w w1) := Lib.hid hx1
    have HX1E : Hid (Ext w1 w14) := Lib.hid (by (repeat (first | with_reducible exact Ext.refl _ | with_reducible assumption | ((with_reducible apply Src.ext); with_reducible assumption) | with_reducible refine Ext.alloc ?_ _ | with_reducible refine Ext.drew ?_ | with_reducible refine Ext.drewN ?_ _ | ((with_reducible refine Ext.setCell' ?_ ?_ _); solve | omega | simp | (simp; omega)) | (with_reducible refine Ext.trans ?_ (by with_reducible assumption)))))
    have HX2E : Hid (Ext w2 w14) := Lib.hid (by (repeat (first | with_reducible exact Ext.refl _ | with_reducible assumption | ((with_reducible apply Src.ext); with_reducible assumption) | with_reducible refine Ext.alloc ?_ _ | with_reducible refine Ext.drew ?_ | with_reducible refine Ext.drewN ?_ _ | ((with_reducible refine Ext.setCell' ?_ ?_ _); solve | omega | simp | (simp; omega)) | (with_reducible refine Ext.trans ?_ (by with_reducible assumption)))))
    have HX3E : Hid (Ext w3 w14) := Lib.hid (by (repeat (first | with_reducible exact Ext.refl _ | with_reducible assumption | ((with_reducible apply Src.ext); with_reducible assumption) | with_reducible refine Ext.alloc ?_ _ | with_reducible refine Ext.drew ?_ | with_reducible refine Ext.drewN ?_ _ | ((with_reducible refine Ext.setCell' ?_ ?_ _); solve | omega | simp | (simp; omega)) | (with_reducible refine Ext.trans ?_ (by with_reducible assumption)))))
    have HX7E : Hid (Ext w7 w14) := Lib.hid (by (repeat (first | with_reducible exact Ext.refl _ | with_reducible assumption | ((with_reducible apply Src.ext); with_reducible assumption) | with_reducible refine Ext.alloc ?_ _ | with_reducible refine Ext.drew ?_ | with_reducible refine Ext.drewN ?_ _ | ((with_reducible refine Ext.setCell' ?_ ?_ _); solve | omega | simp | (simp; omega)) | (with_reducible refine Ext.trans ?_ (by with_reducible assumption)))))
    have HX8E : Hid (Ext w8 w14) := Lib.hid (by (repeat (first | with_reducible exact Ext.refl _ | with_reducible assumption | ((with_reducible apply Src.ext); with_reducible assumption) | with_reducible refine Ext.alloc ?_ _ | with_reducible refine Ext.drew ?_ | with_reducible refine Ext.drewN ?_ _ | ((with_reducible refine Ext.setCell' ?_ ?_ _); solve | omega | simp | (simp; omega)) | (with_reducible refine Ext.trans ?_ (by with_reducible assumption)))))
    have HX9E : Hid (Ext w9 w14) := Lib.hid (by (repeat (first | with_reducible exact Ext.refl _ | with_reducible assumption | ((with_reducible apply Src.ext); with_reducible assumption) | with_reducible refine Ext.alloc ?_ _ | with_reducible refine Ext.drew ?_ | with_reducible refine Ext.drewN ?_ _ | ((with_reducible refine Ext.setCell' ?_ ?_ _); solve | omega | simp | (simp; omega)) | (with_reducible refine Ext.trans ?_ (by with_reducible assumption)))))
    have HXAE : Hid (Ext w10 w14) := Lib.hid (by (repeat (first | with_reducible exact Ext.refl _ | with_reducible assumption | ((with_reducible apply Src.ext); with_reducible assumption) | with_reducible refine Ext.alloc ?_ _ | with_reducible refine Ext.drew ?_ | with_reducible refine Ext.drewN ?_ _ | ((with_reducible refine Ext.setCell' ?_ ?_ _); solve | omega | simp | (simp; omega)) | (with_reducible refine Ext.trans ?_ (by with_reducible assumption)))))
    have HXBE : Hid (Ext w11 w14) := Lib.hid (by (repeat (first | with_reducible exact Ext.refl _ | with_reducible assumption | ((with_reducible apply Src.ext); with_reducible assumption) | with_reducible refine Ext.alloc ?_ _ | with_reducible refine Ext.drew ?_ | with_reducible refine Ext.drewN ?_ _ | ((with_reducible refine Ext.setCell' ?_ ?_ _); solve | omega | simp | (simp; omega)) | (with_reducible refine Ext.trans ?_ (by with_reducible assumption)))))
    have HXCE : Hid (Ext w12 w14) := Lib.hid (by (repeat (first | with_reducible exact Ext.refl _ | with_reducible assumption | ((with_reducible apply Src.ext); with_reducible assumption) | with_reducible refine Ext.alloc ?_ _ | with_reducible refine Ext.drew ?_ | with_reducible refine Ext.drewN ?_ _ | ((with_reducible refine Ext.setCell' ?_ ?_ _); solve | omega | simp | (simp; omega)) | (with_reducible refine Ext.trans ?_ (by with_reducible assumption)))))
    have HXDE : Hid (Ext w13 w14) := Lib.hid (by (repeat (first | with_reducible exact Ext.refl _ | with_reducible assumption | ((with_reducible apply Src.ext); with_reducible assumption) | with_reducible refine Ext.alloc ?_ _ | with_reducible refine Ext.drew ?_ | with_reducible refine Ext.drewN ?_ _ | ((with_reducible refine Ext.setCell' ?_ ?_ _); solve | omega | simp | (simp; omega)) | (with_reducible refine Ext.trans ?_ (by with_reducible assumption)))))
    clear hx1 hx2 hx3 hx4 hx5 hx6 hx7 hx8 hx9 hx10 hx11 hx12 hx13 hx14 hc4 hf4 hc5 hf5 HDW HDC HDR HDA HWI HWS HPI HPS HCI HCS HII HIS HRI HRS
    go_wp2_with fail
    refine (HDI.out _ (by (repeat (first | with_reducible exact Ext.refl _ | with_reducible assumption | ((with_reducible apply Src.ext); with_reducible assumption) | with_reducible refine Ext.alloc ?_ _ | with_reducible refine Ext.drew ?_ | with_reducible refine Ext.drewN ?_ _ | ((with_reducible refine Ext.setCell' ?_ ?_ _); solve | omega | simp | (simp; omega)) | (with_reducible refine Ext.trans ?_ (by with_reducible assumption)))))).mono ?_
    rintro e w15 ⟨v15, rfl, hO15, hx15⟩
    obtain ⟨A15, c15, rfl, hS15, hc15, -, -⟩ := hO15.sl len_encK
    obtain ⟨hr15, hf15⟩ := hx15.rules
    have hs15 := hx15.size
    (try simp at hs15)
    have := (show w14.heap.size < w15.heap.size from by omega)
    rw [← HNM.out] at hc15 ⊢
    have HS15 := Lib.hid hS15
    have HC15 := Lib.hid hc15
    clear hO15 hS15 hc15
    go_wp2_with fail
    refine (HDS.out _ (by (repeat (first | with_reducible exact Ext.refl _ | with_reducible assumption | ((with_reducible apply Src.ext); with_reducible assumption) | with_reducible refine Ext.alloc ?_ _ | with_reducible refine Ext.drew ?_ | with_reducible refine Ext.drewN ?_ _ | ((with_reducible refine Ext.setCell' ?_ ?_ _); solve | omega | simp | (simp; omega)) | (with_reducible refine Ext.trans ?_ (by with_reducible assumption)))))).mono ?_
    rintro e w16 ⟨v16, rfl, hO16, hx16⟩
    obtain ⟨A16, c16, rfl, hS16, -, -, -⟩ := hO16.sl len_encK
    obtain ⟨hr16, hf16⟩ := hx16.rules
    have hs16 := hx16.size
    have := (show w14.heap.size < w16.heap.size from by omega)
    rw [← HNM.out]
    have HS16 := Lib.hid hS16
    clear hO16 hS16
    have e1 : (wc != wc) = false := by simp
    have e2 : (pc != pc) = false := by simp
    have e3 : (kc != kc) = false := by simp
    have e4 : (rc != rc) = false := by simp
    have e5 : (ac != ac) = false := by simp
    have e6 : (lb != lb) = false := by simp
    obtain ⟨spv, hspv⟩ : ∃ s, s = tx pv := ⟨_, rfl⟩
    rw [← hspv]
    have HSPV := Lib.hid hspv
    clear hspv
    have e7 : (spv.toList == spv.toList) = true := by simp
    have e8 : (lp.toList == lp.toList) = true := by simp
    have e9 : ((tx t1).toList == (tx t1).toList) = true := by simp
    obtain ⟨st1, hst1⟩ : ∃ s, s = tx t1 := ⟨_, rfl⟩
    rw [← hst1] at e9 ⊢
    have HST1 := Lib.hid hst1
    clear hst1
    have HWLn : nw ≤ 1048576 := by have := HWL.out; omega
    have HCLn : nk ≤ 1048576 := by have := HCL.out; omega
    have HILn : ni ≤ 1048576 := by have := HIL.out; omega
    have HRLn : nr ≤ 1048576 := by have := HRL.out; omega
    have HDLn : nm ≤ 1048576 := by have := HDL.out; omega
    (go_wp2_with fail; refine (l_likeTexts A2 A3 nw c2 nw c3 ws _ (HS2.out.ext (HX2E.out.trans (by (repeat (first | with_reducible exact Ext.refl _ | with_reducible assumption | ((with_reducible apply Src.ext); with_reducible assumption) | with_reducible refine Ext.alloc ?_ _ | with_reducible refine Ext.drew ?_ | with_reducible refine Ext.drewN ?_ _ | ((with_reducible refine Ext.setCell' ?_ ?_ _); solve | omega | simp | (simp; omega)) | (with_reducible refine Ext.trans ?_ (by with_reducible assumption))))))) (HS3.out.ext (HX3E.out.trans (by (repeat (first | with_reducible exact Ext.refl _ | with_reducible assumption | ((with_reducible apply Src.ext); with_reducible assumption) | with_reducible refine Ext.alloc ?_ _ | with_reducible refine Ext.drew ?_ | with_reducible refine Ext.drewN ?_ _ | ((with_reducible refine Ext.setCell' ?_ ?_ _); solve | omega | simp | (simp; omega)) | (with_reducible refine Ext.trans ?_ (by with_reducible assumption))))))) HNW.out HNW.out HWLn).mono ?_; rintro e w17 ⟨rfl, hx17⟩; obtain ⟨hc17, hf17⟩ := hx17.rules; have hs17 := hx17.size; (try simp at hs17))
    (go_wp2_with fail; refine (l_likeTexts A7 A8 nk c7 nk c8 ks _ (HS7.out.ext (HX7E.out.trans (by (repeat (first | with_reducible exact Ext.refl _ | with_reducible assumption | ((with_reducible apply Src.ext); with_reducible assumption) | with_reducible refine Ext.alloc ?_ _ | with_reducible refine Ext.drew ?_ | with_reducible refine Ext.drewN ?_ _ | ((with_reducible refine Ext.setCell' ?_ ?_ _); solve | omega | simp | (simp; omega)) | (with_reducible refine Ext.trans ?_ (by with_reducible assumption))))))) (HS8.out.ext (HX8E.out.trans (by (repeat (first | with_reducible exact Ext.refl _ | with_reducible assumption | ((with_reducible apply Src.ext); with_reducible assumption) | with_reducible refine Ext.alloc ?_ _ | with_reducible refine Ext.drew ?_ | with_reducible refine Ext.drewN ?_ _ | ((with_reducible refine Ext.setCell' ?_ ?_ _); solve | omega | simp | (simp; omega)) | (with_reducible refine Ext.trans ?_ (by with_reducible assumption))))))) HNK.out HNK.out HCLn).mono ?_; rintro e w18 ⟨rfl, hx18⟩; obtain ⟨hc18, hf18⟩ := hx18.rules; have hs18 := hx18.size; (try simp at hs18))
    (go_wp2_with fail; refine (l_likeTexts A9 A10 ni c9 ni c10 is _ (HS9.out.ext (HX9E.out.trans (by (repeat (first | with_reducible exact Ext.refl _ | with_reducible assumption | ((with_reducible apply Src.ext); with_reducible assumption) | with_reducible refine Ext.alloc ?_ _ | with_reducible refine Ext.drew ?_ | with_reducible refine Ext.drewN ?_ _ | ((with_reducible refine Ext.setCell' ?_ ?_ _); solve | omega | simp | (simp; omega)) | (with_reducible refine Ext.trans ?_ (by with_reducible assumption))))))) (HS10.out.ext (HXAE.out.trans (by (repeat (first | with_reducible exact Ext.refl _ | with_reducible assumption | ((with_reducible apply Src.ext); with_reducible assumption) | with_reducible refine Ext.alloc ?_ _ | with_reducible refine Ext.drew ?_ | with_reducible refine Ext.drewN ?_ _ | ((with_reducible refine Ext.setCell' ?_ ?_ _); solve | omega | simp | (simp; omega)) | (with_reducible refine Ext.trans ?_ (by with_reducible assumption))))))) HNI.out HNI.out HILn).mono ?_; rintro e w19 ⟨rfl, hx19⟩; obtain ⟨hc19, hf19⟩ := hx19.rules; have hs19 := hx19.size; (try simp at hs19))
    (go_wp2_with fail; refine (l_likeTexts A12 A13 nr c12 nr c13 rs _ (HS12.out.ext (HXCE.out.trans (by (repeat (first | with_reducible exact Ext.refl _ | with_reducible assumption | ((with_reducible apply Src.ext); with_reducible assumption) | with_reducible refine Ext.alloc ?_ _ | with_reducible refine Ext.drew ?_ | with_reducible refine Ext.drewN ?_ _ | ((with_reducible refine Ext.setCell' ?_ ?_ _); solve | omega | simp | (simp; omega)) | (with_reducible refine Ext.trans ?_ (by with_reducible assumption))))))) (HS13.out.ext (HXDE.out.trans (by (repeat (first | with_reducible exact Ext.refl _ | with_reducible assumption | ((with_reducible apply Src.ext); with_reducible assumption) | with_reducible refine Ext.alloc ?_ _ | with_reducible refine Ext.drew ?_ | with_reducible refine Ext.drewN ?_ _ | ((with_reducible refine Ext.setCell' ?_ ?_ _); solve | omega | simp | (simp; omega)) | (with_reducible refine Ext.trans ?_ (by with_reducible assumption))))))) HNR.out HNR.out HRLn).mono ?_; rintro e w20 ⟨rfl, hx20⟩; obtain ⟨hc20, hf20⟩ := hx20.rules; have hs20 := hx20.size; (try simp at hs20))
    (go_wp2_with fail; refine (l_likeLinks A15 A16 nm c15 nm c16 ms _ (HS15.out.ext (by (repeat (first | with_reducible exact Ext.refl _ | with_reducible assumption | ((with_reducible apply Src.ext); with_reducible assumption) | with_reducible refine Ext.alloc ?_ _ | with_reducible refine Ext.drew ?_ | with_reducible refine Ext.drewN ?_ _ | ((with_reducible refine Ext.setCell' ?_ ?_ _); solve | omega | simp | (simp; omega)) | (with_reducible refine Ext.trans ?_ (by with_reducible assumption)))))) (HS16.out.ext (by (repeat (first | with_reducible exact Ext.refl _ | with_reducible assumption | ((with_reducible apply Src.ext); with_reducible assumption) | with_reducible refine Ext.alloc ?_ _ | with_reducible refine Ext.drew ?_ | with_reducible refine Ext.drewN ?_ _ | ((with_reducible refine Ext.setCell' ?_ ?_ _); solve | omega | simp | (simp; omega)) | (with_reducible refine Ext.trans ?_ (by with_reducible assumption)))))) HNM.out HNM.out HDLn).mono ?_; rintro e w21 ⟨rfl, hx21⟩; obtain ⟨hc21, hf21⟩ := hx21.rules; have hs21 := hx21.size; (try simp at hs21))
    (go_wp2_with fail; refine (HAI.out _ (HXBE.out.trans (by (repeat (first | with_reducible exact Ext.refl _ | with_reducible assumption | ((with_reducible apply Src.ext); with_reducible assumption) | with_reducible refine Ext.alloc ?_ _ | with_reducible refine Ext.drew ?_ | with_reducible refine Ext.drewN ?_ _ | ((with_reducible refine Ext.setCell' ?_ ?_ _); solve | omega | simp | (simp; omega)) | (with_reducible refine Ext.trans ?_ (by with_reducible assumption))))))).mono ?_; rintro e w22 ⟨rfl, hx22⟩; obtain ⟨hc22, hf22⟩ := hx22.rules; have hs22 := hx22.size; (try simp at hs22))
    (go_wp2_with fail; refine (HAS.out _ (HXBE.out.trans (by (repeat (first | with_reducible exact Ext.refl _ | with_reducible assumption | ((with_reducible apply Src.ext); with_reducible assumption) | with_reducible refine Ext.alloc ?_ _ | with_reducible refine Ext.drew ?_ | with_reducible refine Ext.drewN ?_ _ | ((with_reducible refine Ext.setCell' ?_ ?_ _); solve | omega | simp | (simp; omega)) | (with_reducible refine Ext.trans ?_ (by with_reducible assumption))))))).mono ?_; rintro e w23 ⟨rfl, hx23⟩; obtain ⟨hc23, hf23⟩ := hx23.rules; have hs23 := hx23.size; (try simp at hs23); have := (show w14.heap.size < w23.heap.size from by omega))
    have HXE : Hid (Ext w14 w23) := Lib.hid (by (repeat (first | with_reducible exact Ext.refl _ | with_reducible assumption | ((with_reducible apply Src.ext); with_reducible assumption) | with_reducible refine Ext.alloc ?_ _ | with_reducible refine Ext.drew ?_ | with_reducible refine Ext.drewN ?_ _ | ((with_reducible refine Ext.setCell' ?_ ?_ _); solve | omega | simp | (simp; omega)) | (with_reducible refine Ext.trans ?_ (by with_reducible assumption)))))
    have B23 : Blk w23 w14.heap.size 57 #[.string lc, .string lp, .int .i64 lf, .int .i64 lt] := Blk.eq (by (repeat (first | with_reducible assumption | ((with_reducible apply Blk.new); solve | simp | rfl) | with_reducible apply Blk.drew | with_reducible apply Blk.drewN | ((with_reducible apply Blk.far'); solve | omega | simp | (simp; omega)) | with_reducible apply Blk.set_ | with_reducible apply Blk.alloc | ((with_reducible apply Blk.ext'); with_reducible assumption) | ((with_reducible apply Blk.but'); (with_reducible assumption); solve | omega | (simp; omega))))) (by rfl)
    have b0 : w23.cell? ⟨w14.heap.size, 0, none⟩ = some (.string lc) := B23.cell 0
    have b1 : w23.cell? ⟨w14.heap.size, 1, none⟩ = some (.string lp) := B23.cell 1
    have b2 : w23.cell? ⟨w14.heap.size, 2, none⟩ = some (.int .i64 lf) := B23.cell 2
    have b3 : w23.cell? ⟨w14.heap.size, 3, none⟩ = some (.int .i64 lt) := B23.cell 3
    have hbl23 := B23.lt
    have HB23 := Lib.hid B23
    have HX15 : Hid (Ext w15 w23) := Lib.hid (by (repeat (first | with_reducible exact Ext.refl _ | with_reducible assumption | ((with_reducible apply Src.ext); with_reducible assumption) | with_reducible refine Ext.alloc ?_ _ | with_reducible refine Ext.drew ?_ | with_reducible refine Ext.drewN ?_ _ | ((with_reducible refine Ext.setCell' ?_ ?_ _); solve | omega | simp | (simp; omega)) | (with_reducible refine Ext.trans ?_ (by with_reducible assumption)))))
    have HHT : Hid (kc = 0 → ∀ k, k < nk → ∀ W, Ext w14 W → Calls Tryz.prog 25 #[.slice A9 ni c9, .string (tx (ks.getD k []))] W fun e w' => e = .returned (.bool true) ∧ Ext W w') := Lib.hid (fun hz k hk W hW => by
      have hm : ks.getD k [] ∈ ks := by have : k < ks.length := (by rw [← HNK.out]; exact hk); simp [List.getD, this]
      have := l_hasText A9 ni c9 is (ks.getD k []) W (HS9.out.ext (HX9E.out.trans hW)) HNI.out HILn
      rwa [decide_eq_true (HCH.out hz _ hm)] at this)
    have HHS : Hid (∀ W, Ext w14 W → Calls Tryz.prog 25 #[.slice A9 ni c9, .string (tx t6)] W fun e w' => e = .returned (.bool false) ∧ Ext W w') := Lib.hid (fun W hW => by
      have := l_hasText A9 ni c9 is t6 W (HS9.out.ext (HX9E.out.trans hW)) HNI.out HILn
      rwa [decide_eq_false HSO.out] at this)
    clear B23 hx15 hx16 hx17 hx18 hx19 hx20 hx21 hx22 hx23 hr15 hf15 hr16 hf16 hc17 hf17 hc18 hf18 hc19 hf19 hc20 hf20 hc21 hf21 hc22 hf22 hc23 hf23 HAI HAS HDI HDS HS3 HS8 HS10 HS12 HS13 HS16
    by_cases hac : ac = 0
    · have HDP1 := Lib.hid (HDP.out hac)
      have eac : (ac == 0) = true := by rw [hac]; rfl
      clear hac HDP
      go_wp2_with fail
      refine (HDP1.out A15 nm c15 _ (HS15.out.ext (HX15.out.trans (by (repeat (first | with_reducible exact Ext.refl _ | with_reducible assumption | ((with_reducible apply Src.ext); with_reducible assumption) | with_reducible refine Ext.alloc ?_ _ | with_reducible refine Ext.drew ?_ | with_reducible refine Ext.drewN ?_ _ | ((with_reducible refine Ext.setCell' ?_ ?_ _); solve | omega | simp | (simp; omega)) | (with_reducible refine Ext.trans ?_ (by with_reducible assumption))))))) rfl HC15.out).mono ?_
      rintro e w24 ⟨rfl, hx24⟩
      have hs24 := hx24.size
      have hbl24 : w14.heap.size < w24.heap.size := by omega
      have a1 : w24.cell? ⟨w14.heap.size, 1, none⟩ = some (.string lp) := (HB23.out.ext hx24).cell 1
      have HXb : Hid (Ext w14 w24) := Lib.hid (HXE.out.trans hx24)
      clear hx24 b0 b1 b2 b3
      by_cases hkc : kc = 0
      · have ekc : (kc == 0) = true := by rw [hkc]; rfl
        have HHT1 := Lib.hid (HHT.out hkc)
        clear hkc HHT
        go_wp2
        go_loopw [39] (fun i wr => ∃ k : Nat, k ≤ nk ∧ i = .int .i64 k ∧ Ext w24 wr) (fun i _ => nk - (intOf i).toNat)
        case atStart => exact ⟨0, by omega, rfl, by (repeat (first | with_reducible exact Ext.refl _ | with_reducible assumption | ((with_reducible apply Src.ext); with_reducible assumption) | with_reducible refine Ext.alloc ?_ _ | with_reducible refine Ext.drew ?_ | with_reducible refine Ext.drewN ?_ _ | ((with_reducible refine Ext.setCell' ?_ ?_ _); solve | omega | simp | (simp; omega)) | (with_reducible refine Ext.trans ?_ (by with_reducible assumption))))⟩
        case round =>
          obtain ⟨k, hk, rfl, hxr⟩ := hrel
          obtain ⟨w30, rfl⟩ : ∃ x, x = wr := ⟨wr, rfl⟩
          by_cases hlt : k < nk
          · obtain ⟨b, off, rfl, hbl, d0⟩ := (HS7.out.ext (HX7E.out.trans (HXb.out.trans hxr))).stX (k := k) (by rw [← HNK.out]; exact hlt)
            have HHK := Lib.hid (HHT1.out k hlt)
            generalize tx (ks.getD k []) = sk at *
            go_wp2_with fail
            refine (HHK.out _ (HXb.out.trans (by (repeat (first | with_reducible exact Ext.refl _ | with_reducible assumption | ((with_reducible apply Src.ext); with_reducible assumption) | with_reducible refine Ext.alloc ?_ _ | with_reducible refine Ext.drew ?_ | with_reducible refine Ext.drewN ?_ _ | ((with_reducible refine Ext.setCell' ?_ ?_ _); solve | omega | simp | (simp; omega)) | (with_reducible refine Ext.trans ?_ (by with_reducible assumption))))))).mono ?_
            rintro e w31 ⟨rfl, hx31⟩
            go_wp2
            go_roundw
            case rel => exact ⟨k + 1, by omega, by go_num, by (repeat (first | with_reducible exact Ext.refl _ | with_reducible assumption | ((with_reducible apply Src.ext); with_reducible assumption) | with_reducible refine Ext.alloc ?_ _ | with_reducible refine Ext.drew ?_ | with_reducible refine Ext.drewN ?_ _ | ((with_reducible refine Ext.setCell' ?_ ?_ _); solve | omega | simp | (simp; omega)) | (with_reducible refine Ext.trans ?_ (by with_reducible assumption))))⟩
            case measure => simp [intOf]; omega
          · go_wp2_with fail
            refine (HHS.out _ (HXb.out.trans (by (repeat (first | with_reducible exact Ext.refl _ | with_reducible assumption | ((with_reducible apply Src.ext); with_reducible assumption) | with_reducible refine Ext.alloc ?_ _ | with_reducible refine Ext.drew ?_ | with_reducible refine Ext.drewN ?_ _ | ((with_reducible refine Ext.setCell' ?_ ?_ _); solve | omega | simp | (simp; omega)) | (with_reducible refine Ext.trans ?_ (by with_reducible assumption))))))).mono ?_
            rintro e w32 ⟨rfl, hx32⟩
            have HXc : Hid (Ext w14 w32) := Lib.hid (HXb.out.trans (by (repeat (first | with_reducible exact Ext.refl _ | with_reducible assumption | ((with_reducible apply Src.ext); with_reducible assumption) | with_reducible refine Ext.alloc ?_ _ | with_reducible refine Ext.drew ?_ | with_reducible refine Ext.drewN ?_ _ | ((with_reducible refine Ext.setCell' ?_ ?_ _); solve | omega | simp | (simp; omega)) | (with_reducible refine Ext.trans ?_ (by with_reducible assumption))))))
            clear hx32 hxr HHT1 HHS
            by_cases hwc : wc = 0
            · obtain ⟨u1, u2, u3, u4, u5⟩ := HUP.out hwc
              have HPL1 := Lib.hid (HPL.out hwc)
              have ewc : (wc != 0) = false := by rw [hwc]; rfl
              obtain ⟨b, off, hA, hbl, d0⟩ := (HS2.out.ext (HX2E.out.trans HXc.out)).stX (k := 0) (by rw [← HNW.out]; exact u1)
              obtain ⟨b', off', hA', -, d2⟩ := (HS2.out.ext (HX2E.out.trans HXc.out)).stX (k := nw - 1) (by rw [← HNW.out]; omega)
              have hd1 : pc = 0 → w32.cell? ⟨b, off + 1, none⟩ = some (.string spv) := fun hp => by
                obtain ⟨b9, off9, hA9, -, d9⟩ := (HS2.out.ext (HX2E.out.trans HXc.out)).stX (k := 1) (by rw [← HNW.out]; exact (u4 hp).1)
                rw [hA] at hA9
                injection hA9 with hA9
                injection hA9 with q1 q2
                subst q1 q2
                rw [d9, (u4 hp).2, HSPV.out]
              rw [hA] at hA'
              injection hA' with hA'
              injection hA' with q1 q2
              subst q1 q2
              subst hA
              rw [u2, ← HST1.out] at d0
              simp only [Nat.add_zero] at d0
              generalize tx (ws.getD (nw - 1) []) = sl at d2 HPL1
              have hnw0 : (0 : Int) < (nw : Int) := by omega
              have hnw1 : IntKind.i64.wrap ((nw : Int) - 1) = ((nw - 1 : Nat) : Int) := by rw [IntWalk.i64_in _ (by omega)]; omega
              have hnw2 : ((nw - 1 : Nat) : Int) < (nw : Int) := by omega
              have hnw3 : (0 : Int) ≤ ((nw - 1 : Nat) : Int) := by omega
              have HPL2 : Hid (∀ W, Ext w32 W → Calls Tryz.prog 19 #[.slice A1 n1 c1, .string sl, .int .i64 y1] W fun e w' => (∃ s, e = .returned (.tuple #[.string s, .int .i64 4])) ∧ Ext W w') := Lib.hid (fun W hW => HPL1.out W (HX1E.out.trans (HXc.out.trans hW)))
              have HKB : Hid (∀ W, Ext w32 W → W.cell? ⟨b, off + 1, none⟩ = w32.cell? ⟨b, off + 1, none⟩) := Lib.hid (fun W hW => hW.cell _ _ hbl)
              clear HPL1 hwc u2
              rcases u3 with hp | hp
              · have hgt : (1 : Int) < (nw : Int) := by have := (u4 hp).1; omega
                have hgn : 1 < nw := (u4 hp).1
                have d1 := hd1 hp
                subst hp
                clear hd1 u4 u5
                have c0 : ((0 : Int) == 0) = true := rfl
                go_wp2_with fail
                refine (HPL2.out _ (by (repeat (first | with_reducible exact Ext.refl _ | with_reducible assumption | ((with_reducible apply Src.ext); with_reducible assumption) | with_reducible refine Ext.alloc ?_ _ | with_reducible refine Ext.drew ?_ | with_reducible refine Ext.drewN ?_ _ | ((with_reducible refine Ext.setCell' ?_ ?_ _); solve | omega | simp | (simp; omega)) | (with_reducible refine Ext.trans ?_ (by with_reducible assumption)))))).mono ?_
                rintro e w40 ⟨⟨s9, rfl⟩, hx40⟩
                obtain ⟨hc40, hf40⟩ := hx40.rules
                have hs40 := hx40.size
                have d1' : w40.cell? ⟨b, off + 1, none⟩ = some (.string spv) := (HKB.out _ hx40).trans d1
                go_wp2
                go_ret
                exact ⟨rfl, HX13.out.trans (HX1E.out.trans (HXc.out.trans (by (repeat (first | with_reducible exact Ext.refl _ | with_reducible assumption | ((with_reducible apply Src.ext); with_reducible assumption) | with_reducible refine Ext.alloc ?_ _ | with_reducible refine Ext.drew ?_ | with_reducible refine Ext.drewN ?_ _ | ((with_reducible refine Ext.setCell' ?_ ?_ _); solve | omega | simp | (simp; omega)) | (with_reducible refine Ext.trans ?_ (by with_reducible assumption)))))))⟩
              · have hgt : ¬ (1 : Int) < (nw : Int) := by have := u5 (by rw [hp]; decide); omega
                have hgn : ¬ 1 < nw := u5 (by rw [hp]; decide)
                subst hp
                clear hd1 u4 u5
                have c0 : ((4 : Int) == 0) = false := rfl
                go_wp2_with fail
                refine (HPL2.out _ (by (repeat (first | with_reducible exact Ext.refl _ | with_reducible assumption | ((with_reducible apply Src.ext); with_reducible assumption) | with_reducible refine Ext.alloc ?_ _ | with_reducible refine Ext.drew ?_ | with_reducible refine Ext.drewN ?_ _ | ((with_reducible refine Ext.setCell' ?_ ?_ _); solve | omega | simp | (simp; omega)) | (with_reducible refine Ext.trans ?_ (by with_reducible assumption)))))).mono ?_
                rintro e w40 ⟨⟨s9, rfl⟩, hx40⟩
                go_wp2
                go_ret
                exact ⟨rfl, HX13.out.trans (HX1E.out.trans (HXc.out.trans (by (repeat (first | with_reducible exact Ext.refl _ | with_reducible assumption | ((with_reducible apply Src.ext); with_reducible assumption) | with_reducible refine Ext.alloc ?_ _ | with_reducible refine Ext.drew ?_ | with_reducible refine Ext.drewN ?_ _ | ((with_reducible refine Ext.setCell' ?_ ?_ _); solve | omega | simp | (simp; omega)) | (with_reducible refine Ext.trans ?_ (by with_reducible assumption)))))))⟩
            · have ewc : (wc != 0) = true := by simpa using hwc
              clear HPL HUP
              go_wp2
              go_ret
              exact ⟨rfl, HX13.out.trans (HX1E.out.trans (HXc.out.trans (by (repeat (first | with_reducible exact Ext.refl _ | with_reducible assumption | ((with_reducible apply Src.ext); with_reducible assumption) | with_reducible refine Ext.alloc ?_ _ | with_reducible refine Ext.drew ?_ | with_reducible refine Ext.drewN ?_ _ | ((with_reducible refine Ext.setCell' ?_ ?_ _); solve | omega | simp | (simp; omega)) | (with_reducible refine Ext.trans ?_ (by with_reducible assumption)))))))⟩
      · have ekc : (kc == 0) = false := beq_eq_false_iff_ne.2 hkc
        have HXc := HXb
        clear HHT HHS
        by_cases hwc : wc = 0
        · obtain ⟨u1, u2, u3, u4, u5⟩ := HUP.out hwc
          have HPL1 := Lib.hid (HPL.out hwc)
          have ewc : (wc != 0) = false := by rw [hwc]; rfl
          obtain ⟨b, off, hA, hbl, d0⟩ := (HS2.out.ext (HX2E.out.trans HXc.out)).stX (k := 0) (by rw [← HNW.out]; exact u1)
          obtain ⟨b', off', hA', -, d2⟩ := (HS2.out.ext (HX2E.out.trans HXc.out)).stX (k := nw - 1) (by rw [← HNW.out]; omega)
          have hd1 : pc = 0 → w24.cell? ⟨b, off + 1, none⟩ = some (.string spv) := fun hp => by
            obtain ⟨b9, off9, hA9, -, d9⟩ := (HS2.out.ext (HX2E.out.trans HXc.out)).stX (k := 1) (by rw [← HNW.out]; exact (u4 hp).1)
            rw [hA] at hA9
            injection hA9 with hA9
            injection hA9 with q1 q2
            subst q1 q2
            rw [d9, (u4 hp).2, HSPV.out]
          rw [hA] at hA'
          injection hA' with hA'
          injection hA' with q1 q2
          subst q1 q2
          subst hA
          rw [u2, ← HST1.out] at d0
          simp only [Nat.add_zero] at d0
          generalize tx (ws.getD (nw - 1) []) = sl at d2 HPL1
          have hnw0 : (0 : Int) < (nw : Int) := by omega
          have hnw1 : IntKind.i64.wrap ((nw : Int) - 1) = ((nw - 1 : Nat) : Int) := by rw [IntWalk.i64_in _ (by omega)]; omega
          have hnw2 : ((nw - 1 : Nat) : Int) < (nw : Int) := by omega
          have hnw3 : (0 : Int) ≤ ((nw - 1 : Nat) : Int) := by omega
          have HPL2 : Hid (∀ W, Ext w24 W → Calls Tryz.prog 19 #[.slice A1 n1 c1, .string sl, .int .i64 y1] W fun e w' => (∃ s, e = .returned (.tuple #[.string s, .int .i64 4])) ∧ Ext W w') := Lib.hid (fun W hW => HPL1.out W (HX1E.out.trans (HXc.out.trans hW)))
          have HKB : Hid (∀ W, Ext w24 W → W.cell? ⟨b, off + 1, none⟩ = w24.cell? ⟨b, off + 1, none⟩) := Lib.hid (fun W hW => hW.cell _ _ hbl)
          clear HPL1 hwc u2
          rcases u3 with hp | hp
          · have hgt : (1 : Int) < (nw : Int) := by have := (u4 hp).1; omega
            have hgn : 1 < nw := (u4 hp).1
            have d1 := hd1 hp
            subst hp
            clear hd1 u4 u5
            have c0 : ((0 : Int) == 0) = true := rfl
            go_wp2_with fail
            refine (HPL2.out _ (by (repeat (first | with_reducible exact Ext.refl _ | with_reducible assumption | ((with_reducible apply Src.ext); with_reducible assumption) | with_reducible refine Ext.alloc ?_ _ | with_reducible refine Ext.drew ?_ | with_reducible refine Ext.drewN ?_ _ | ((with_reducible refine Ext.setCell' ?_ ?_ _); solve | omega | simp | (simp; omega)) | (with_reducible refine Ext.trans ?_ (by with_reducible assumption)))))).mono ?_
            rintro e w40 ⟨⟨s9, rfl⟩, hx40⟩
            obtain ⟨hc40, hf40⟩ := hx40.rules
            have hs40 := hx40.size
            have d1' : w40.cell? ⟨b, off + 1, none⟩ = some (.string spv) := (HKB.out _ hx40).trans d1
            go_wp2
            go_ret
            exact ⟨rfl, HX13.out.trans (HX1E.out.trans (HXc.out.trans (by (repeat (first | with_reducible exact Ext.refl _ | with_reducible assumption | ((with_reducible apply Src.ext); with_reducible assumption) | with_reducible refine Ext.alloc ?_ _ | with_reducible refine Ext.drew ?_ | with_reducible refine Ext.drewN ?_ _ | ((with_reducible refine Ext.setCell' ?_ ?_ _); solve | omega | simp | (simp; omega)) | (with_reducible refine Ext.trans ?_ (by with_reducible assumption)))))))⟩
          · have hgt : ¬ (1 : Int) < (nw : Int) := by have := u5 (by rw [hp]; decide); omega
            have hgn : ¬ 1 < nw := u5 (by rw [hp]; decide)
            subst hp
            clear hd1 u4 u5
            have c0 : ((4 : Int) == 0) = false := rfl
            go_wp2_with fail
            refine (HPL2.out _ (by (repeat (first | with_reducible exact Ext.refl _ | with_reducible assumption | ((with_reducible apply Src.ext); with_reducible assumption) | with_reducible refine Ext.alloc ?_ _ | with_reducible refine Ext.drew ?_ | with_reducible refine Ext.drewN ?_ _ | ((with_reducible refine Ext.setCell' ?_ ?_ _); solve | omega | simp | (simp; omega)) | (with_reducible refine Ext.trans ?_ (by with_reducible assumption)))))).mono ?_
            rintro e w40 ⟨⟨s9, rfl⟩, hx40⟩
            go_wp2
            go_ret
            exact ⟨rfl, HX13.out.trans (HX1E.out.trans (HXc.out.trans (by (repeat (first | with_reducible exact Ext.refl _ | with_reducible assumption | ((with_reducible apply Src.ext); with_reducible assumption) | with_reducible refine Ext.alloc ?_ _ | with_reducible refine Ext.drew ?_ | with_reducible refine Ext.drewN ?_ _ | ((with_reducible refine Ext.setCell' ?_ ?_ _); solve | omega | simp | (simp; omega)) | (with_reducible refine Ext.trans ?_ (by with_reducible assumption)))))))⟩
        · have ewc : (wc != 0) = true := by simpa using hwc
          clear HPL HUP
          go_wp2
          go_ret
          exact ⟨rfl, HX13.out.trans (HX1E.out.trans (HXc.out.trans (by (repeat (first | with_reducible exact Ext.refl _ | with_reducible assumption | ((with_reducible apply Src.ext); with_reducible assumption) | with_reducible refine Ext.alloc ?_ _ | with_reducible refine Ext.drew ?_ | with_reducible refine Ext.drewN ?_ _ | ((with_reducible refine Ext.setCell' ?_ ?_ _); solve | omega | simp | (simp; omega)) | (with_reducible refine Ext.trans ?_ (by with_reducible assumption)))))))⟩
    · have eac : (ac == 0) = false := beq_eq_false_iff_ne.2 hac
      have HXb := HXE
      clear hac HDP b0 b1 b2 b3
      by_cases hkc : kc = 0
      · have ekc : (kc == 0) = true := by rw [hkc]; rfl
        have HHT1 := Lib.hid (HHT.out hkc)
        clear hkc HHT
        go_wp2
        go_loopw [39] (fun i wr => ∃ k : Nat, k ≤ nk ∧ i = .int .i64 k ∧ Ext w23 wr) (fun i _ => nk - (intOf i).toNat)
        case atStart => exact ⟨0, by omega, rfl, by (repeat (first | with_reducible exact Ext.refl _ | with_reducible assumption | ((with_reducible apply Src.ext); with_reducible assumption) | with_reducible refine Ext.alloc ?_ _ | with_reducible refine Ext.drew ?_ | with_reducible refine Ext.drewN ?_ _ | ((with_reducible refine Ext.setCell' ?_ ?_ _); solve | omega | simp | (simp; omega)) | (with_reducible refine Ext.trans ?_ (by with_reducible assumption))))⟩
        case round =>
          obtain ⟨k, hk, rfl, hxr⟩ := hrel
          obtain ⟨w30, rfl⟩ : ∃ x, x = wr := ⟨wr, rfl⟩
          by_cases hlt : k < nk
          · obtain ⟨b, off, rfl, hbl, d0⟩ := (HS7.out.ext (HX7E.out.trans (HXb.out.trans hxr))).stX (k := k) (by rw [← HNK.out]; exact hlt)
            have HHK := Lib.hid (HHT1.out k hlt)
            generalize tx (ks.getD k []) = sk at *
            go_wp2_with fail
            refine (HHK.out _ (HXb.out.trans (by (repeat (first | with_reducible exact Ext.refl _ | with_reducible assumption | ((with_reducible apply Src.ext); with_reducible assumption) | with_reducible refine Ext.alloc ?_ _ | with_reducible refine Ext.drew ?_ | with_reducible refine Ext.drewN ?_ _ | ((with_reducible refine Ext.setCell' ?_ ?_ _); solve | omega | simp | (simp; omega)) | (with_reducible refine Ext.trans ?_ (by with_reducible assumption))))))).mono ?_
            rintro e w31 ⟨rfl, hx31⟩
            go_wp2
            go_roundw
            case rel => exact ⟨k + 1, by omega, by go_num, by (repeat (first | with_reducible exact Ext.refl _ | with_reducible assumption | ((with_reducible apply Src.ext); with_reducible assumption) | with_reducible refine Ext.alloc ?_ _ | with_reducible refine Ext.drew ?_ | with_reducible refine Ext.drewN ?_ _ | ((with_reducible refine Ext.setCell' ?_ ?_ _); solve | omega | simp | (simp; omega)) | (with_reducible refine Ext.trans ?_ (by with_reducible assumption))))⟩
            case measure => simp [intOf]; omega
          · go_wp2_with fail
            refine (HHS.out _ (HXb.out.trans (by (repeat (first | with_reducible exact Ext.refl _ | with_reducible assumption | ((with_reducible apply Src.ext); with_reducible assumption) | with_reducible refine Ext.alloc ?_ _ | with_reducible refine Ext.drew ?_ | with_reducible refine Ext.drewN ?_ _ | ((with_reducible refine Ext.setCell' ?_ ?_ _); solve | omega | simp | (simp; omega)) | (with_reducible refine Ext.trans ?_ (by with_reducible assumption))))))).mono ?_
            rintro e w32 ⟨rfl, hx32⟩
            have HXc : Hid (Ext w14 w32) := Lib.hid (HXb.out.trans (by (repeat (first | with_reducible exact Ext.refl _ | with_reducible assumption | ((with_reducible apply Src.ext); with_reducible assumption) | with_reducible refine Ext.alloc ?_ _ | with_reducible refine Ext.drew ?_ | with_reducible refine Ext.drewN ?_ _ | ((with_reducible refine Ext.setCell' ?_ ?_ _); solve | omega | simp | (simp; omega)) | (with_reducible refine Ext.trans ?_ (by with_reducible assumption))))))
            clear hx32 hxr HHT1 HHS
            by_cases hwc : wc = 0
            · obtain ⟨u1, u2, u3, u4, u5⟩ := HUP.out hwc
              have HPL1 := Lib.hid (HPL.out hwc)
              have ewc : (wc != 0) = false := by rw [hwc]; rfl
              obtain ⟨b, off, hA, hbl, d0⟩ := (HS2.out.ext (HX2E.out.trans HXc.out)).stX (k := 0) (by rw [← HNW.out]; exact u1)
              obtain ⟨b', off', hA', -, d2⟩ := (HS2.out.ext (HX2E.out.trans HXc.out)).stX (k := nw - 1) (by rw [← HNW.out]; omega)
              have hd1 : pc = 0 → w32.cell? ⟨b, off + 1, none⟩ = some (.string spv) := fun hp => by
                obtain ⟨b9, off9, hA9, -, d9⟩ := (HS2.out.ext (HX2E.out.trans HXc.out)).stX (k := 1) (by rw [← HNW.out]; exact (u4 hp).1)
                rw [hA] at hA9
                injection hA9 with hA9
                injection hA9 with q1 q2
                subst q1 q2
                rw [d9, (u4 hp).2, HSPV.out]
              rw [hA] at hA'
              injection hA' with hA'
              injection hA' with q1 q2
              subst q1 q2
              subst hA
              rw [u2, ← HST1.out] at d0
              simp only [Nat.add_zero] at d0
              generalize tx (ws.getD (nw - 1) []) = sl at d2 HPL1
              have hnw0 : (0 : Int) < (nw : Int) := by omega
              have hnw1 : IntKind.i64.wrap ((nw : Int) - 1) = ((nw - 1 : Nat) : Int) := by rw [IntWalk.i64_in _ (by omega)]; omega
              have hnw2 : ((nw - 1 : Nat) : Int) < (nw : Int) := by omega
              have hnw3 : (0 : Int) ≤ ((nw - 1 : Nat) : Int) := by omega
              have HPL2 : Hid (∀ W, Ext w32 W → Calls Tryz.prog 19 #[.slice A1 n1 c1, .string sl, .int .i64 y1] W fun e w' => (∃ s, e = .returned (.tuple #[.string s, .int .i64 4])) ∧ Ext W w') := Lib.hid (fun W hW => HPL1.out W (HX1E.out.trans (HXc.out.trans hW)))
              have HKB : Hid (∀ W, Ext w32 W → W.cell? ⟨b, off + 1, none⟩ = w32.cell? ⟨b, off + 1, none⟩) := Lib.hid (fun W hW => hW.cell _ _ hbl)
              clear HPL1 hwc u2
              rcases u3 with hp | hp
              · have hgt : (1 : Int) < (nw : Int) := by have := (u4 hp).1; omega
                have hgn : 1 < nw := (u4 hp).1
                have d1 := hd1 hp
                subst hp
                clear hd1 u4 u5
                have c0 : ((0 : Int) == 0) = true := rfl
                go_wp2_with fail
                refine (HPL2.out _ (by (repeat (first | with_reducible exact Ext.refl _ | with_reducible assumption | ((with_reducible apply Src.ext); with_reducible assumption) | with_reducible refine Ext.alloc ?_ _ | with_reducible refine Ext.drew ?_ | with_reducible refine Ext.drewN ?_ _ | ((with_reducible refine Ext.setCell' ?_ ?_ _); solve | omega | simp | (simp; omega)) | (with_reducible refine Ext.trans ?_ (by with_reducible assumption)))))).mono ?_
                rintro e w40 ⟨⟨s9, rfl⟩, hx40⟩
                obtain ⟨hc40, hf40⟩ := hx40.rules
                have hs40 := hx40.size
                have d1' : w40.cell? ⟨b, off + 1, none⟩ = some (.string spv) := (HKB.out _ hx40).trans d1
                go_wp2
                go_ret
                exact ⟨rfl, HX13.out.trans (HX1E.out.trans (HXc.out.trans (by (repeat (first | with_reducible exact Ext.refl _ | with_reducible assumption | ((with_reducible apply Src.ext); with_reducible assumption) | with_reducible refine Ext.alloc ?_ _ | with_reducible refine Ext.drew ?_ | with_reducible refine Ext.drewN ?_ _ | ((with_reducible refine Ext.setCell' ?_ ?_ _); solve | omega | simp | (simp; omega)) | (with_reducible refine Ext.trans ?_ (by with_reducible assumption)))))))⟩
              · have hgt : ¬ (1 : Int) < (nw : Int) := by have := u5 (by rw [hp]; decide); omega
                have hgn : ¬ 1 < nw := u5 (by rw [hp]; decide)
                subst hp
                clear hd1 u4 u5
                have c0 : ((4 : Int) == 0) = false := rfl
                go_wp2_with fail
                refine (HPL2.out _ (by (repeat (first | with_reducible exact Ext.refl _ | with_reducible assumption | ((with_reducible apply Src.ext); with_reducible assumption) | with_reducible refine Ext.alloc ?_ _ | with_reducible refine Ext.drew ?_ | with_reducible refine Ext.drewN ?_ _ | ((with_reducible refine Ext.setCell' ?_ ?_ _); solve | omega | simp | (simp; omega)) | (with_reducible refine Ext.trans ?_ (by with_reducible assumption)))))).mono ?_
                rintro e w40 ⟨⟨s9, rfl⟩, hx40⟩
                go_wp2
                go_ret
                exact ⟨rfl, HX13.out.trans (HX1E.out.trans (HXc.out.trans (by (repeat (first | with_reducible exact Ext.refl _ | with_reducible assumption | ((with_reducible apply Src.ext); with_reducible assumption) | with_reducible refine Ext.alloc ?_ _ | with_reducible refine Ext.drew ?_ | with_reducible refine Ext.drewN ?_ _ | ((with_reducible refine Ext.setCell' ?_ ?_ _); solve | omega | simp | (simp; omega)) | (with_reducible refine Ext.trans ?_ (by with_reducible assumption)))))))⟩
            · have ewc : (wc != 0) = true := by simpa using hwc
              clear HPL HUP
              go_wp2
              go_ret
              exact ⟨rfl, HX13.out.trans (HX1E.out.trans (HXc.out.trans (by (repeat (first | with_reducible exact Ext.refl _ | with_reducible assumption | ((with_reducible apply Src.ext); with_reducible assumption) | with_reducible refine Ext.alloc ?_ _ | with_reducible refine Ext.drew ?_ | with_reducible refine Ext.drewN ?_ _ | ((with_reducible refine Ext.setCell' ?_ ?_ _); solve | omega | simp | (simp; omega)) | (with_reducible refine Ext.trans ?_ (by with_reducible assumption)))))))⟩
      · have ekc : (kc == 0) = false := beq_eq_false_iff_ne.2 hkc
        have HXc := HXb
        clear HHT HHS
        by_cases hwc : wc = 0
        · obtain ⟨u1, u2, u3, u4, u5⟩ := HUP.out hwc
          have HPL1 := Lib.hid (HPL.out hwc)
          have ewc : (wc != 0) = false := by rw [hwc]; rfl
          obtain ⟨b, off, hA, hbl, d0⟩ := (HS2.out.ext (HX2E.out.trans HXc.out)).stX (k := 0) (by rw [← HNW.out]; exact u1)
          obtain ⟨b', off', hA', -, d2⟩ := (HS2.out.ext (HX2E.out.trans HXc.out)).stX (k := nw - 1) (by rw [← HNW.out]; omega)
          have hd1 : pc = 0 → w23.cell? ⟨b, off + 1, none⟩ = some (.string spv) := fun hp => by
            obtain ⟨b9, off9, hA9, -, d9⟩ := (HS2.out.ext (HX2E.out.trans HXc.out)).stX (k := 1) (by rw [← HNW.out]; exact (u4 hp).1)
            rw [hA] at hA9
            injection hA9 with hA9
            injection hA9 with q1 q2
            subst q1 q2
            rw [d9, (u4 hp).2, HSPV.out]
          rw [hA] at hA'
          injection hA' with hA'
          injection hA' with q1 q2
          subst q1 q2
          subst hA
          rw [u2, ← HST1.out] at d0
          simp only [Nat.add_zero] at d0
          generalize tx (ws.getD (nw - 1) []) = sl at d2 HPL1
          have hnw0 : (0 : Int) < (nw : Int) := by omega
          have hnw1 : IntKind.i64.wrap ((nw : Int) - 1) = ((nw - 1 : Nat) : Int) := by rw [IntWalk.i64_in _ (by omega)]; omega
          have hnw2 : ((nw - 1 : Nat) : Int) < (nw : Int) := by omega
          have hnw3 : (0 : Int) ≤ ((nw - 1 : Nat) : Int) := by omega
          have HPL2 : Hid (∀ W, Ext w23 W → Calls Tryz.prog 19 #[.slice A1 n1 c1, .string sl, .int .i64 y1] W fun e w' => (∃ s, e = .returned (.tuple #[.string s, .int .i64 4])) ∧ Ext W w') := Lib.hid (fun W hW => HPL1.out W (HX1E.out.trans (HXc.out.trans hW)))
          have HKB : Hid (∀ W, Ext w23 W → W.cell? ⟨b, off + 1, none⟩ = w23.cell? ⟨b, off + 1, none⟩) := Lib.hid (fun W hW => hW.cell _ _ hbl)
          clear HPL1 hwc u2
          rcases u3 with hp | hp
          · have hgt : (1 : Int) < (nw : Int) := by have := (u4 hp).1; omega
            have hgn : 1 < nw := (u4 hp).1
            have d1 := hd1 hp
            subst hp
            clear hd1 u4 u5
            have c0 : ((0 : Int) == 0) = true := rfl
            go_wp2_with fail
            refine (HPL2.out _ (by (repeat (first | with_reducible exact Ext.refl _ | with_reducible assumption | ((with_reducible apply Src.ext); with_reducible assumption) | with_reducible refine Ext.alloc ?_ _ | with_reducible refine Ext.drew ?_ | with_reducible refine Ext.drewN ?_ _ | ((with_reducible refine Ext.setCell' ?_ ?_ _); solve | omega | simp | (simp; omega)) | (with_reducible refine Ext.trans ?_ (by with_reducible assumption)))))).mono ?_
            rintro e w40 ⟨⟨s9, rfl⟩, hx40⟩
            obtain ⟨hc40, hf40⟩ := hx40.rules
            have hs40 := hx40.size
            have d1' : w40.cell? ⟨b, off + 1, none⟩ = some (.string spv) := (HKB.out _ hx40).trans d1
            go_wp2
            go_ret
            exact ⟨rfl, HX13.out.trans (HX1E.out.trans (HXc.out.trans (by (repeat (first | with_reducible exact Ext.refl _ | with_reducible assumption | ((with_reducible apply Src.ext); with_reducible assumption) | with_reducible refine Ext.alloc ?_ _ | with_reducible refine Ext.drew ?_ | with_reducible refine Ext.drewN ?_ _ | ((with_reducible refine Ext.setCell' ?_ ?_ _); solve | omega | simp | (simp; omega)) | (with_reducible refine Ext.trans ?_ (by with_reducible assumption)))))))⟩
          · have hgt : ¬ (1 : Int) < (nw : Int) := by have := u5 (by rw [hp]; decide); omega
            have hgn : ¬ 1 < nw := u5 (by rw [hp]; decide)
            subst hp
            clear hd1 u4 u5
            have c0 : ((4 : Int) == 0) = false := rfl
            go_wp2_with fail
            refine (HPL2.out _ (by (repeat (first | with_reducible exact Ext.refl _ | with_reducible assumption | ((with_reducible apply Src.ext); with_reducible assumption) | with_reducible refine Ext.alloc ?_ _ | with_reducible refine Ext.drew ?_ | with_reducible refine Ext.drewN ?_ _ | ((with_reducible refine Ext.setCell' ?_ ?_ _); solve | omega | simp | (simp; omega)) | (with_reducible refine Ext.trans ?_ (by with_reducible assumption)))))).mono ?_
            rintro e w40 ⟨⟨s9, rfl⟩, hx40⟩
            go_wp2
            go_ret
            exact ⟨rfl, HX13.out.trans (HX1E.out.trans (HXc.out.trans (by (repeat (first | with_reducible exact Ext.refl _ | with_reducible assumption | ((with_reducible apply Src.ext); with_reducible assumption) | with_reducible refine Ext.alloc ?_ _ | with_reducible refine Ext.drew ?_ | with_reducible refine Ext.drewN ?_ _ | ((with_reducible refine Ext.setCell' ?_ ?_ _); solve | omega | simp | (simp; omega)) | (with_reducible refine Ext.trans ?_ (by with_reducible assumption)))))))⟩
        · have ewc : (wc != 0) = true := by simpa using hwc
          clear HPL HUP
          go_wp2
          go_ret
          exact ⟨rfl, HX13.out.trans (HX1E.out.trans (HXc.out.trans (by (repeat (first | with_reducible exact Ext.refl _ | with_reducible assumption | ((with_reducible apply Src.ext); with_reducible assumption) | with_reducible refine Ext.alloc ?_ _ | with_reducible refine Ext.drew ?_ | with_reducible refine Ext.drewN ?_ _ | ((with_reducible refine Ext.setCell' ?_ ?_ _); solve | omega | simp | (simp; omega)) | (with_reducible refine Ext.trans ?_ (by with_reducible assumption)))))))⟩
  · have hbg : ∀ W, Calls Tryz.prog 6 #[.slice A bs.length c] W fun e w' => e = .returned (.bool true) ∧ W = w' := fun W => by
      have := l_bigQ A c bs.length W
      rwa [decide_eq_true (by omega)] at this
    have HG := Lib.hid hbg
    clear hbg
    go_enter Tryz.func4, Tryz.ntmps4
    (go_wp2_with fail; refine (HG.out _).mono ?_; rintro e w' ⟨rfl, rfl⟩)
    go_wp2
    go_ret
    exact ⟨rfl, by (repeat (first | with_reducible exact Ext.refl _ | with_reducible assumption | ((with_reducible apply Src.ext); with_reducible assumption) | with_reducible refine Ext.alloc ?_ _ | with_reducible refine Ext.drew ?_ | with_reducible refine Ext.drewN ?_ _ | ((with_reducible refine Ext.setCell' ?_ ?_ _); solve | omega | simp | (simp; omega)) | (with_reducible refine Ext.trans ?_ (by with_reducible assumption))))⟩
end Go.Proofs.YtmpgjajkaehdiaaGreatDoor
