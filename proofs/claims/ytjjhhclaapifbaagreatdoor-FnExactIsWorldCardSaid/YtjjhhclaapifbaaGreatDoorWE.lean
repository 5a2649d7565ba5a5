/- Lists of links, as the specification sees them. -/
import Derived.Test.YtjjhhclaapifbaaGreatDoorWD
import Derived.Deep.RegionHeld3
import Derived.Deep.DeepCutAuto
import Derived.RegionTactic
import Derived.BigRegion
import Derived.WalkLawsBesides
import Derived.WalkSpells
import Derived.Lib.MinMax
import Derived.Outline
namespace Go.Proofs.YtjjhhclaapifbaaGreatDoor
open Go.RowKit
attribute [local go_sem] ExtOf.cell ExtOf.frozen

def liB (L : List Lk) (q j : Nat) : Bool := (L.getD q lkD).1 == (L.getD j lkD).1 && meetB (L.getD q lkD).2.2.1 (L.getD q lkD).2.2.2 (L.getD j lkD).2.2.1 (L.getD j lkD).2.2.2
def okK (L : List Lk) (j : Nat) : Prop := lkB (L.getD j lkD) = true ∧ ∀ q, q < j → liB L q j = false
/-- links as described, but for circles -/
def LkP (L : List Lk) : Prop := (∀ j, j < L.length → okK L j) ∧ L.length ≤ 20
/-- links as described -/
def LksP (L : List Lk) : Prop := LkP L ∧ ∀ i, i < L.length → ∀ k, k < L.length → (wayU L (L.getD k lkD).1 (L.getD i lkD).2.2.1).2 = false
open Classical in
noncomputable def lksB (L : List Lk) : Bool := decide (LksP L)
open Classical in
theorem lksB_iff {L : List Lk} : lksB L = true ↔ LksP L := by unfold lksB; exact decide_eq_true_iff
open Classical in
theorem lksB_no {L : List Lk} (h : ¬ LksP L) : lksB L = false := by unfold lksB; exact decide_eq_false h
theorem LkP.alone {L : List Lk} (h : LkP L) : AloneL L := fun i j hj hi => (h.1 i hi).2 j hj
theorem LksP.flat {L : List Lk} (h : LksP L) : FlatL L := fun l hl m hm => by
  obtain ⟨i, hi, rfl⟩ := List.mem_iff_getElem.1 hl
  obtain ⟨k, hk, rfl⟩ := List.mem_iff_getElem.1 hm
  have := h.2 i hi k hk
  simpa [List.getD, hi, hk] using this
/-- in links as described no way comes back, in any year -/
theorem LksP.way {L : List Lk} (h : LksP L) (c : List UInt8) (y : Int) : (wayU L c y).2 = false := flat_any h.1.alone h.flat c y
theorem smL_ne {s : List UInt8} {hi : Int} (h : smL s 1 hi = true) : s ≠ [] := by
  intro e
  rw [e] at h
  simp [smL, inB] at h
theorem LkP.told {L : List Lk} (h : ∀ j, j < L.length → okK L j) : Told L := fun l hl => by
  obtain ⟨i, hi, rfl⟩ := List.mem_iff_getElem.1 hl
  have := (h i hi).1
  simp only [List.getD, List.getElem?_eq_getElem hi, Option.getD_some, lkB, Bool.and_eq_true] at this
  exact smL_ne this.1.1.2
theorem lkB_child {l : Lk} (h : lkB l = true) : l.1 ≠ [] := by
  simp only [lkB, Bool.and_eq_true] at h
  exact smL_ne h.1.1.1

set_option maxRecDepth 20000 in
set_option maxHeartbeats 12800000 in
theorem s_AreLinks (A : Option Addr) (n c : Nat) (L : List Lk) (w : World) (h : SlAt w 4 encK A L) (hn : n = L.length) (hl : L.length ≤ 1048576) (hg : Links L) :
    Calls Tryz.prog 55 #[.slice A n c] w fun e w' => e = .returned (.bool (lksB L)) ∧ Ext w w' := by
  have HN := Lib.hid hn
  have hn2 : n ≤ 1048576 := by omega
  clear hn
  go_enter Tryz.func55, Tryz.ntmps55
  go_wp2
  go_loopw [3] (fun i wr => ∃ k : Nat, k ≤ n ∧ i = .int .i64 k ∧ Hid (∀ j, j < k → okK L j) ∧ Ext w wr) (fun i _ => n - (intOf i).toNat)
  case atStart => exact ⟨0, by omega, rfl, fun j hj => absurd hj (by omega), by (repeat (first | with_reducible exact Ext.refl _ | with_reducible assumption | ((with_reducible apply Src.ext); with_reducible assumption) | with_reducible refine Ext.alloc ?_ _ | with_reducible refine Ext.drew ?_ | with_reducible refine Ext.drewN ?_ _ | ((with_reducible refine Ext.setCell' ?_ ?_ _); solve | omega | simp | (simp; omega)) | (with_reducible refine Ext.trans ?_ (by with_reducible assumption))))⟩
  case round =>
    obtain ⟨k, hk, rfl, HJ, hxr⟩ := hrel
    obtain ⟨w5, rfl⟩ : ∃ x, x = wr := ⟨wr, rfl⟩
    by_cases hlt : k < n
    · have hkl : k < L.length := by have := HN.out; omega
      obtain ⟨b, off, rfl, hb, d0, d1, d2, d3⟩ := (h.ext hxr).lk hkl
      have HS := Lib.hid h
      have hgk := hg k
      obtain ⟨v, hve⟩ : ∃ v, v = L.getD k lkD := ⟨_, rfl⟩
      rw [← hve] at d0 d1 d2 d3 hgk
      have HV := Lib.hid hve
      obtain ⟨vc, vp, va, vb⟩ := v
      simp only at d0 d1 d2 d3
      have HC : Hid (∀ W, Calls Tryz.prog 111 #[.agg #[.string (tx vc), .string (tx vp), .int .i64 va, .int .i64 vb]] W fun e w' => e = .returned (.bool (lkB (L.getD k lkD))) ∧ Ext W w') := Lib.hid (fun W => by
        have := s_l12Is (tx vc) (tx vp) va vb W (by rw [tx_size]; exact hgk.1) (by rw [tx_size]; exact hgk.2)
        rw [smB_tx, smB_tx, tx_toL, tx_toL] at this
        rw [← HV.out]
        exact this)
      have HVC := Lib.hid (tx_toL vc)
      generalize tx vc = sc at *
      generalize tx vp = sp at *
      clear hve hgk h
      cases hq : lkB (L.getD k lkD) with
      | false =>
        have HNO : Hid (lksB L = false) := Lib.hid (lksB_no fun hM => by rw [(hM.1.1 k hkl).1] at hq; cases hq)
        rw [hq] at HC
        clear hq hkl
        (go_wp2_with fail; refine (HC.out _).mono ?_; rintro e w1 ⟨rfl, hx1⟩; obtain ⟨hc1, hf1⟩ := hx1.rules; have hs1 := hx1.size; (try simp at hs1); have := (show b < w1.heap.size from by omega))
        go_wp2
        go_ret
        exact ⟨ret_bool HNO.out.symm, by (repeat (first | with_reducible exact Ext.refl _ | with_reducible assumption | ((with_reducible apply Src.ext); with_reducible assumption) | with_reducible refine Ext.alloc ?_ _ | with_reducible refine Ext.drew ?_ | with_reducible refine Ext.drewN ?_ _ | ((with_reducible refine Ext.setCell' ?_ ?_ _); solve | omega | simp | (simp; omega)) | (with_reducible refine Ext.trans ?_ (by with_reducible assumption))))⟩
      | true =>
        rw [hq] at HC
        have HQ := Lib.hid hq
        have HKL := Lib.hid hkl
        clear hq hkl
        (go_wp2_with fail; refine (HC.out _).mono ?_; rintro e w1 ⟨rfl, hx1⟩; obtain ⟨hc1, hf1⟩ := hx1.rules; have hs1 := hx1.size; (try simp at hs1); have := (show b < w1.heap.size from by omega))
        go_wp2
        go_loopw [4] (fun i wi => ∃ j : Nat, j ≤ k ∧ i = .int .i64 j ∧ Hid (∀ q, q < j → liB L q k = false) ∧ Ext w5 wi) (fun i _ => k - (intOf i).toNat)
        case atStart => exact ⟨0, by omega, rfl, fun q hq => absurd hq (by omega), by (repeat (first | with_reducible exact Ext.refl _ | with_reducible assumption | ((with_reducible apply Src.ext); with_reducible assumption) | with_reducible refine Ext.alloc ?_ _ | with_reducible refine Ext.drew ?_ | with_reducible refine Ext.drewN ?_ _ | ((with_reducible refine Ext.setCell' ?_ ?_ _); solve | omega | simp | (simp; omega)) | (with_reducible refine Ext.trans ?_ (by with_reducible assumption))))⟩
        case round =>
          obtain ⟨j, hj, rfl, HO, hxi⟩ := hrel
          have hxw := hxr.trans hxi
          have hbi : b < wr.heap.size := Nat.lt_of_lt_of_le hb hxi.size
          by_cases hjk : j < k
          · have hjl : j < L.length := by have := HKL.out; omega
            obtain ⟨e0, e1, e2, e3⟩ := (HS.out.ext hxw).lk' hjl
            have f0 := (hxi.cell _ _ hb).trans d0
            have f2 := (hxi.cell _ _ hb).trans d2
            have f3 := (hxi.cell _ _ hb).trans d3
            obtain ⟨u, hue⟩ : ∃ u, u = L.getD j lkD := ⟨_, rfl⟩
            rw [← hue] at e0 e1 e2 e3
            have HU := Lib.hid hue
            obtain ⟨uc, up, ua, ub⟩ := u
            simp only at e0 e1 e2 e3
            have htu := tx_toL uc
            have HCL : Hid (liB L j k = ((tx uc).toList == sc.toList && meetB ua ub va vb)) := Lib.hid (by unfold liB; rw [← HV.out, ← HU.out, htu, HVC.out])
            have HNO : Hid (liB L j k = true → lksB L = false) := Lib.hid (fun e => lksB_no fun hM => by rw [(hM.1.1 k HKL.out).2 j hjk] at e; cases e)
            generalize tx uc = su at *
            generalize tx up = sv at *
            clear hue htu d0 d1 d2 d3 hb
            have HM := Lib.hid (fun W => s_l02Meet ua ub va vb W)
            cases hA : (su.toList == sc.toList) with
            | false =>
              have HO2 := Lib.hid (upTo1 HO.out (show liB L j k = false by rw [HCL.out, hA]; rfl))
              go_wp2
              (refine wp_region_ext (by kernel_rfl) (by kernel_rfl) ?_; (repeat (go_big_quiet_step (fail))); refine wpQuiet_nil ?_; intro wq hxwq; obtain ⟨hcwq, hfwq⟩ := hxwq.rules; have hswq := hxwq.size; (try simp at hswq))
              go_wp2
              go_roundw
              case rel => exact ⟨j + 1, by omega, by go_num, HO2, by (repeat (first | with_reducible exact Ext.refl _ | with_reducible assumption | ((with_reducible apply Src.ext); with_reducible assumption) | with_reducible refine Ext.alloc ?_ _ | with_reducible refine Ext.drew ?_ | with_reducible refine Ext.drewN ?_ _ | ((with_reducible refine Ext.setCell' ?_ ?_ _); solve | omega | simp | (simp; omega)) | (with_reducible refine Ext.trans ?_ (by with_reducible assumption))))⟩
              case measure => simp [intOf]; omega
            | true =>
              cases hD : meetB ua ub va vb with
              | false =>
                have HO2 := Lib.hid (upTo1 HO.out (show liB L j k = false by rw [HCL.out, hA, hD]; rfl))
                rw [hD] at HM
                clear hD
                go_wp2
                (refine wp_region_ext (by kernel_rfl) (by kernel_rfl) ?_; (repeat (go_big_quiet_step ((go_at_call 112; exact Calls_ext (HM.out _))))); refine wpQuiet_nil ?_; intro wq hxwq; obtain ⟨hcwq, hfwq⟩ := hxwq.rules; have hswq := hxwq.size; (try simp at hswq))
                go_wp2
                go_roundw
                case rel => exact ⟨j + 1, by omega, by go_num, HO2, by (repeat (first | with_reducible exact Ext.refl _ | with_reducible assumption | ((with_reducible apply Src.ext); with_reducible assumption) | with_reducible refine Ext.alloc ?_ _ | with_reducible refine Ext.drew ?_ | with_reducible refine Ext.drewN ?_ _ | ((with_reducible refine Ext.setCell' ?_ ?_ _); solve | omega | simp | (simp; omega)) | (with_reducible refine Ext.trans ?_ (by with_reducible assumption))))⟩
                case measure => simp [intOf]; omega
              | true =>
                have HNO2 := Lib.hid (HNO.out (by rw [HCL.out, hA, hD]; rfl))
                rw [hD] at HM
                clear hD
                go_wp2
                (refine wp_region_ext (by kernel_rfl) (by kernel_rfl) ?_; (repeat (go_big_quiet_step ((go_at_call 112; exact Calls_ext (HM.out _))))); refine wpQuiet_nil ?_; intro wq hxwq; obtain ⟨hcwq, hfwq⟩ := hxwq.rules; have hswq := hxwq.size; (try simp at hswq))
                go_wp2
                go_ret
                exact ⟨ret_bool HNO2.out.symm, hxr.trans (by (repeat (first | with_reducible exact Ext.refl _ | with_reducible assumption | ((with_reducible apply Src.ext); with_reducible assumption) | with_reducible refine Ext.alloc ?_ _ | with_reducible refine Ext.drew ?_ | with_reducible refine Ext.drewN ?_ _ | ((with_reducible refine Ext.setCell' ?_ ?_ _); solve | omega | simp | (simp; omega)) | (with_reducible refine Ext.trans ?_ (by with_reducible assumption)))))⟩
          · obtain rfl : j = k := by omega
            have HJ2 := Lib.hid (upTo1 HJ.out (show okK L j from ⟨HQ.out, HO.out⟩))
            clear d0 d1 d2 d3
            go_wp2
            go_roundw
            case rel => exact ⟨j + 1, by omega, by go_num, HJ2, by (repeat (first | with_reducible exact Ext.refl _ | with_reducible assumption | ((with_reducible apply Src.ext); with_reducible assumption) | with_reducible refine Ext.alloc ?_ _ | with_reducible refine Ext.drew ?_ | with_reducible refine Ext.drewN ?_ _ | ((with_reducible refine Ext.setCell' ?_ ?_ _); solve | omega | simp | (simp; omega)) | (with_reducible refine Ext.trans ?_ (by with_reducible assumption))))⟩
            case measure => simp [intOf]; omega
    · obtain rfl : k = n := by omega
      by_cases h20 : k ≤ 20
      · have hgt : decide ((20 : Int) < (k : Int)) = false := decide_eq_false (by omega)
        have HP : Hid (LkP L) := Lib.hid ⟨fun j hj => HJ.out j (by have := HN.out; omega), by have := HN.out; omega⟩
        have HT := Lib.hid (LkP.told HP.out.1)
        have HS := Lib.hid h
        clear h hg
        go_wp2
        go_loopw [5] (fun i wr => ∃ a : Nat, a ≤ k ∧ i = .int .i64 a ∧ Hid (∀ q, q < a → ∀ m, m < k → (wayU L (L.getD m lkD).1 (L.getD q lkD).2.2.1).2 = false) ∧ Ext w wr) (fun i _ => k - (intOf i).toNat)
        case atStart => exact ⟨0, by omega, rfl, fun j hj => absurd hj (by omega), by (repeat (first | with_reducible exact Ext.refl _ | with_reducible assumption | ((with_reducible apply Src.ext); with_reducible assumption) | with_reducible refine Ext.alloc ?_ _ | with_reducible refine Ext.drew ?_ | with_reducible refine Ext.drewN ?_ _ | ((with_reducible refine Ext.setCell' ?_ ?_ _); solve | omega | simp | (simp; omega)) | (with_reducible refine Ext.trans ?_ (by with_reducible assumption))))⟩
        case round =>
          obtain ⟨a, ha, rfl, HA, hxa⟩ := hrel
          obtain ⟨w6, rfl⟩ : ∃ x, x = wr := ⟨wr, rfl⟩
          by_cases hak : a < k
          · have hal : a < L.length := by have := HN.out; omega
            obtain ⟨b, off, rfl, hb, d0, d1, d2, d3⟩ := (HS.out.ext hxa).lk hal
            clear d0 d1 d3
            obtain ⟨ya, hya⟩ : ∃ ya, ya = (L.getD a lkD).2.2.1 := ⟨_, rfl⟩
            rw [← hya] at d2
            have HYA := Lib.hid hya
            clear hya
            go_wp2
            go_loopw [6] (fun i wi => ∃ j : Nat, j ≤ k ∧ i = .int .i64 j ∧ Hid (∀ m, m < j → (wayU L (L.getD m lkD).1 ya).2 = false) ∧ Ext w6 wi) (fun i _ => k - (intOf i).toNat)
            case atStart => exact ⟨0, by omega, rfl, fun q hq => absurd hq (by omega), by (repeat (first | with_reducible exact Ext.refl _ | with_reducible assumption | ((with_reducible apply Src.ext); with_reducible assumption) | with_reducible refine Ext.alloc ?_ _ | with_reducible refine Ext.drew ?_ | with_reducible refine Ext.drewN ?_ _ | ((with_reducible refine Ext.setCell' ?_ ?_ _); solve | omega | simp | (simp; omega)) | (with_reducible refine Ext.trans ?_ (by with_reducible assumption))))⟩
            case round =>
              obtain ⟨j, hj, rfl, HO, hxi⟩ := hrel
              have hxw := hxa.trans hxi
              have hbi : b < wr.heap.size := Nat.lt_of_lt_of_le hb hxi.size
              by_cases hjk : j < k
              · have hjl : j < L.length := by have := HN.out; omega
                obtain ⟨e0, _, _, _⟩ := (HS.out.ext hxw).lk' hjl
                have f2 := (hxi.cell _ _ hb).trans d2
                have hne := lkB_child (HP.out.1 j hjl).1
                obtain ⟨uc, huc⟩ : ∃ uc, uc = (L.getD j lkD).1 := ⟨_, rfl⟩
                rw [← huc] at e0 hne
                have HUC := Lib.hid huc
                have HW := Lib.hid (fun W hW => s_l12Way (some ⟨b, off, none⟩) k c L uc ya W hW HN.out hn2 HT.out hne)
                clear d2 hb huc hne
                cases hw : (wayU L uc ya).2 with
                | true =>
                  have HW2 : Hid (∀ W, SlAt W 4 encK (some ⟨b, off, none⟩) L → Calls Tryz.prog 92 #[.slice (some ⟨b, off, none⟩) k c, .string (tx uc), .int .i64 ya] W fun e w' => e = .returned (.tuple #[.slice none 0 0, .bool false]) ∧ Ext W w') := Lib.hid (fun W hW => (HW.out W hW).mono (by
                    rintro e w' ⟨hr, hx⟩
                    rcases hr with ⟨_, e⟩ | ⟨e, _⟩
                    · exact ⟨e, hx⟩
                    · rw [hw] at e; cases e))
                  have HNO : Hid (lksB L = false) := Lib.hid (lksB_no fun hM => by
                    have := hM.2 a hal j hjl
                    rw [← HUC.out, ← HYA.out, hw] at this
                    cases this)
                  clear hw HW hal hjl
                  generalize tx uc = su at *
                  go_wp2
                  go_region_held3 (fun w' => w'.cell? ⟨b, off + j * 4, none⟩ = some (.string su) ∧ w'.cell? ⟨b, off + a * 4 + 2, none⟩ = some (.int .i64 ya)) (first | go_keep | exact ⟨(hx7.cell b (off + j * 4) hbi).trans e0, (hx7.cell b (off + a * 4 + 2) hbi).trans f2⟩) ((go_at_call 92; refine (HW2.out _ (HS.out.ext (by (repeat (first | with_reducible exact Ext.refl _ | with_reducible assumption | ((with_reducible apply Src.ext); with_reducible assumption) | with_reducible refine Ext.alloc ?_ _ | with_reducible refine Ext.drew ?_ | with_reducible refine Ext.drewN ?_ _ | ((with_reducible refine Ext.setCell' ?_ ?_ _); solve | omega | simp | (simp; omega)) | (with_reducible refine Ext.trans ?_ (by with_reducible assumption))))))).mono ?_; rintro e w7 ⟨rfl, hx7⟩; obtain ⟨hc7, hf7⟩ := hx7.rules; have hs7 := hx7.size; (try simp at hs7)))
                  go_wp2
                  go_ret
                  exact ⟨ret_bool HNO.out.symm, by (repeat (first | with_reducible exact Ext.refl _ | with_reducible assumption | ((with_reducible apply Src.ext); with_reducible assumption) | with_reducible refine Ext.alloc ?_ _ | with_reducible refine Ext.drew ?_ | with_reducible refine Ext.drewN ?_ _ | ((with_reducible refine Ext.setCell' ?_ ?_ _); solve | omega | simp | (simp; omega)) | (with_reducible refine Ext.trans ?_ (by with_reducible assumption))))⟩
                | false =>
                  have HW2 : Hid (∀ W, SlAt W 4 encK (some ⟨b, off, none⟩) L → Calls Tryz.prog 92 #[.slice (some ⟨b, off, none⟩) k c, .string (tx uc), .int .i64 ya] W fun e w' => (∃ v, e = .returned (.tuple #[v, .bool true])) ∧ Ext W w') := Lib.hid (fun W hW => (HW.out W hW).mono (by
                    rintro e w' ⟨hr, hx⟩
                    rcases hr with ⟨e, _⟩ | ⟨_, v, e, _⟩
                    · rw [hw] at e; cases e
                    · exact ⟨⟨v, e⟩, hx⟩))
                  have HO2 := Lib.hid (upTo1 HO.out (show (wayU L (L.getD j lkD).1 ya).2 = false by rw [← HUC.out]; exact hw))
                  clear hw HW hal hjl
                  generalize tx uc = su at *
                  go_wp2
                  go_region_held3 (fun w' => w'.cell? ⟨b, off + j * 4, none⟩ = some (.string su) ∧ w'.cell? ⟨b, off + a * 4 + 2, none⟩ = some (.int .i64 ya)) (first | go_keep | exact ⟨(hx7.cell b (off + j * 4) hbi).trans e0, (hx7.cell b (off + a * 4 + 2) hbi).trans f2⟩) ((go_at_call 92; refine (HW2.out _ (HS.out.ext (by (repeat (first | with_reducible exact Ext.refl _ | with_reducible assumption | ((with_reducible apply Src.ext); with_reducible assumption) | with_reducible refine Ext.alloc ?_ _ | with_reducible refine Ext.drew ?_ | with_reducible refine Ext.drewN ?_ _ | ((with_reducible refine Ext.setCell' ?_ ?_ _); solve | omega | simp | (simp; omega)) | (with_reducible refine Ext.trans ?_ (by with_reducible assumption))))))).mono ?_; rintro e w7 ⟨⟨v7, rfl⟩, hx7⟩; obtain ⟨hc7, hf7⟩ := hx7.rules; have hs7 := hx7.size; (try simp at hs7)))
                  go_wp2
                  go_roundw
                  case rel => exact ⟨j + 1, by omega, by go_num, HO2, by (repeat (first | with_reducible exact Ext.refl _ | with_reducible assumption | ((with_reducible apply Src.ext); with_reducible assumption) | with_reducible refine Ext.alloc ?_ _ | with_reducible refine Ext.drew ?_ | with_reducible refine Ext.drewN ?_ _ | ((with_reducible refine Ext.setCell' ?_ ?_ _); solve | omega | simp | (simp; omega)) | (with_reducible refine Ext.trans ?_ (by with_reducible assumption))))⟩
                  case measure => simp [intOf]; omega
              · obtain rfl : j = k := by omega
                have HA2 : Hid (∀ q, q < a + 1 → ∀ m, m < j → (wayU L (L.getD m lkD).1 (L.getD q lkD).2.2.1).2 = false) := Lib.hid (upTo1 HA.out (by rw [← HYA.out]; exact HO.out))
                clear d2
                go_wp2
                go_roundw
                case rel => exact ⟨a + 1, by omega, by go_num, HA2, by (repeat (first | with_reducible exact Ext.refl _ | with_reducible assumption | ((with_reducible apply Src.ext); with_reducible assumption) | with_reducible refine Ext.alloc ?_ _ | with_reducible refine Ext.drew ?_ | with_reducible refine Ext.drewN ?_ _ | ((with_reducible refine Ext.setCell' ?_ ?_ _); solve | omega | simp | (simp; omega)) | (with_reducible refine Ext.trans ?_ (by with_reducible assumption))))⟩
                case measure => simp [intOf]; omega
          · obtain rfl : a = k := by omega
            have HR : Hid (lksB L = true) := Lib.hid (lksB_iff.2 ⟨HP.out, fun i hi m hm => HA.out i (by have := HN.out; omega) m (by have := HN.out; omega)⟩)
            go_wp2
            go_ret
            exact ⟨ret_bool HR.out.symm, by (repeat (first | with_reducible exact Ext.refl _ | with_reducible assumption | ((with_reducible apply Src.ext); with_reducible assumption) | with_reducible refine Ext.alloc ?_ _ | with_reducible refine Ext.drew ?_ | with_reducible refine Ext.drewN ?_ _ | ((with_reducible refine Ext.setCell' ?_ ?_ _); solve | omega | simp | (simp; omega)) | (with_reducible refine Ext.trans ?_ (by with_reducible assumption))))⟩
      · have hgt : decide ((20 : Int) < (k : Int)) = true := decide_eq_true (by omega)
        have HNO : Hid (lksB L = false) := Lib.hid (lksB_no fun hM => by have := hM.1.2; have := HN.out; omega)
        clear h20
        go_wp2
        go_ret
        exact ⟨ret_bool HNO.out.symm, by (repeat (first | with_reducible exact Ext.refl _ | with_reducible assumption | ((with_reducible apply Src.ext); with_reducible assumption) | with_reducible refine Ext.alloc ?_ _ | with_reducible refine Ext.drew ?_ | with_reducible refine Ext.drewN ?_ _ | ((with_reducible refine Ext.setCell' ?_ ?_ _); solve | omega | simp | (simp; omega)) | (with_reducible refine Ext.trans ?_ (by with_reducible assumption))))⟩
end Go.Proofs.YtjjhhclaapifbaaGreatDoor
