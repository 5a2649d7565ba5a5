/- What appears, moves and lies inside between years, as the specification tells it; the number of places inside. -/
import Derived.Test.YtapfokfbdmcokaaGreatDoorYK
import Derived.Deep.RegionHeld3
import Derived.Deep.DeepCutAuto
import Derived.RegionTactic
import Derived.BigRegion
import Derived.WalkLawsBesides
import Derived.WalkSpells
import Derived.Lib.MinMax
import Derived.Outline
namespace Go.Proofs.YtapfokfbdmcokaaGreatDoor
open Go.RowKit
attribute [local go_sem] ExtOf.cell ExtOf.frozen

section
variable {w : World} {A A' : Option Addr} {n c m c' : Nat} {ps : List Pl} {L : List Lk}
set_option maxRecDepth 20000 in
set_option maxHeartbeats 12800000 in
theorem s_AppearedBetweenW (a b : Int) (h : WIn w A A' n c m c' ps L) :
    Calls Tryz.prog 13 #[.agg #[.slice A n c, .slice A' m c'], .int .i64 a, .int .i64 b] w fun e w' => ∃ v, e = .returned (.tuple #[v, .int .i64 (wyC (psD ps) L true [a, b])]) ∧ OwS w' w.heap.size v (appR (psD ps) L a b) ∧ Ext w w' := by
  have HC := Lib.hid (fun W (hW : Ext w W) => s_l14Years (w := W) a b (h.ext hW))
  have hlm : m ≤ 1048576 := by rw [h.hm]; exact h.hl'
  have HPA := Lib.hid (fun x z W (hW : Ext w W) => s_l12Parent A' m c' L x z W (h.sk.ext hW) h.hm hlm)
  have HS := Lib.hid h.sq
  have HN := Lib.hid h.hn
  by_cases hz : wyC (psD ps) L true [a, b] = 0
  · have h10 := wdB_len (wyC_zero hz).1
    rw [psD_len, ← h.hn] at h10
    have hfin : cdsTo (appB a b) (psD ps) n = appR (psD ps) L a b := by unfold appR; rw [if_pos hz, h.hn, ← psD_len, cdsTo_all]
    have HFIN := Lib.hid hfin
    rw [hz] at HC ⊢
    clear hfin hz h
    go_enter Tryz.func13, Tryz.ntmps13
    go_wp2_with fail
    refine (HC.out _ (by (repeat (first | with_reducible exact Ext.refl _ | with_reducible assumption | ((with_reducible apply Src.ext); with_reducible assumption) | with_reducible refine Ext.alloc ?_ _ | with_reducible refine Ext.drew ?_ | with_reducible refine Ext.drewN ?_ _ | ((with_reducible refine Ext.setCell' ?_ ?_ _); solve | omega | simp | (simp; omega)) | (with_reducible refine Ext.trans ?_ (by with_reducible assumption)))))).mono ?_
    rintro e w1 ⟨rfl, hx1⟩
    obtain ⟨hc1, hf1⟩ := hx1.rules
    have hs1 := hx1.size
    (try simp at hs1)
    have B3 : Blk w1 w.heap.size 33 #[.slice A n c, .slice A' m c'] := Blk.eq (by (repeat (first | with_reducible assumption | ((with_reducible apply Blk.new); solve | simp | rfl) | with_reducible apply Blk.drew | with_reducible apply Blk.drewN | ((with_reducible apply Blk.far'); solve | omega | simp | (simp; omega)) | with_reducible apply Blk.set_ | with_reducible apply Blk.alloc | ((with_reducible apply Blk.ext'); with_reducible assumption) | ((with_reducible apply Blk.but'); (with_reducible assumption); solve | omega | (simp; omega))))) (by rfl)
    have hX1 : Ext w w1 := by clear B3; (repeat (first | with_reducible exact Ext.refl _ | with_reducible assumption | ((with_reducible apply Src.ext); with_reducible assumption) | with_reducible refine Ext.alloc ?_ _ | with_reducible refine Ext.drew ?_ | with_reducible refine Ext.drewN ?_ _ | ((with_reducible refine Ext.setCell' ?_ ?_ _); solve | omega | simp | (simp; omega)) | (with_reducible refine Ext.trans ?_ (by with_reducible assumption))))
    have z3 := B3.lt
    clear hc1 hf1 hx1
    go_wp2
    go_loopw [9, 10] (fun v i wr => ∃ k : Nat, k ≤ n ∧ i = .int .i64 k ∧ Hid (OwS wr (w.heap.size + 1) v (cdsTo (appB a b) (psD ps) k)) ∧ Blk wr w.heap.size 33 #[.slice A n c, .slice A' m c'] ∧ Ext w wr) (fun _ i _ => n - (intOf i).toNat)
    case atStart => exact ⟨0, by omega, rfl, Lib.hid (Own.of_blk (g := w1.heap.size) (cs := #[]) (xs := []) (by (repeat (first | with_reducible assumption | ((with_reducible apply Blk.new); solve | simp | rfl) | with_reducible apply Blk.drew | with_reducible apply Blk.drewN | ((with_reducible apply Blk.far'); solve | omega | simp | (simp; omega)) | with_reducible apply Blk.set_ | with_reducible apply Blk.alloc | ((with_reducible apply Blk.ext'); with_reducible assumption) | ((with_reducible apply Blk.but'); (with_reducible assumption); solve | omega | (simp; omega))))) len_encS rfl (by omega) (by simp)), by (repeat (first | with_reducible assumption | ((with_reducible apply Blk.new); solve | simp | rfl) | with_reducible apply Blk.drew | with_reducible apply Blk.drewN | ((with_reducible apply Blk.far'); solve | omega | simp | (simp; omega)) | with_reducible apply Blk.set_ | with_reducible apply Blk.alloc | ((with_reducible apply Blk.ext'); with_reducible assumption) | ((with_reducible apply Blk.but'); (with_reducible assumption); solve | omega | (simp; omega)))), by (repeat (first | with_reducible exact Ext.refl _ | with_reducible assumption | ((with_reducible apply Src.ext); with_reducible assumption) | with_reducible refine Ext.alloc ?_ _ | with_reducible refine Ext.drew ?_ | with_reducible refine Ext.drewN ?_ _ | ((with_reducible refine Ext.setCell' ?_ ?_ _); solve | omega | simp | (simp; omega)) | (with_reducible refine Ext.trans ?_ (by with_reducible assumption))))⟩
    case round =>
      obtain ⟨k, hk, rfl, HV, hB, hxr⟩ := hrel
      obtain ⟨w5, rfl⟩ : ∃ x, x = wr := ⟨wr, rfl⟩
      have hBl := hB.lt
      have HB := Lib.hid hB
      have y0 : w5.cell? ⟨w.heap.size, 0, none⟩ = some (.slice A n c) := hB.cell 0
      have y1 : w5.cell? ⟨w.heap.size, 1, none⟩ = some (.slice A' m c') := hB.cell 1
      clear hB
      by_cases hlt : k < n
      · have hkr : k < ps.length := by rw [← HN.out]; exact hlt
        obtain ⟨b9, off, rfl, hb, d0, d1, d2, d3, d4⟩ := (HS.out.ext hxr).pl hkr
        have hsucc := cdsTo_succ (p := (appB a b)) (D := psD ps) (k := k) (by rw [psD_len]; exact hkr)
        rw [psD_at hkr] at hsucc
        have hln := cdsTo_len ((appB a b)) (psD ps) k
        obtain ⟨q1, hq1⟩ : ∃ q, exB (pdOf (ps.getD k plD)) a = q := ⟨_, rfl⟩
        obtain ⟨q2, hq2⟩ : ∃ q, exB (pdOf (ps.getD k plD)) b = q := ⟨_, rfl⟩
        have hHH : Hid (∀ z q, (z = a ∧ q = q1) ∨ (z = b ∧ q = q2) → ∀ W, Calls Tryz.prog 52 #[.agg #[.string (tx (ps.getD k plD).1), .int .i64 (ps.getD k plD).2.1, .int .i64 (ps.getD k plD).2.2.1, .int .i64 (ps.getD k plD).2.2.2.1, .slice (ps.getD k plD).2.2.2.2.1 (ps.getD k plD).2.2.2.2.2.2.length (ps.getD k plD).2.2.2.2.2.1], .int .i64 z] W fun e w' => e = .returned (.bool q) ∧ Ext W w') := Lib.hid (fun z q hz W => by
          rcases hz with ⟨rfl, rfl⟩ | ⟨rfl, rfl⟩
          · rw [← hq1]; exact s_l11Exists _ _ W
          · rw [← hq2]; exact s_l11Exists _ _ W)
        have HH := hHH
        clear hHH
        have hmov : appB a b (pdOf (ps.getD k plD)) = (q2 && !q1) := by unfold appB; rw [hq1, hq2]
        clear hq1 hq2
        cases q1 with
        | true =>
          have hmov2 : appB a b (pdOf (ps.getD k plD)) = false := by rw [hmov]; simp
          clear hmov
          have hmov := hmov2
          clear hmov2
          have HSU : Hid (cdsTo (appB a b) (psD ps) (k + 1) = cdsTo (appB a b) (psD ps) k) := Lib.hid (by rw [hsucc, hmov]; simp)
          clear hsucc hmov hln
          generalize ps.getD k plD = l at *
          generalize tx l.1 = s0 at *
          generalize l.2.1 = s1 at *
          generalize l.2.2.1 = s2 at *
          generalize l.2.2.2.1 = s3 at *
          generalize l.2.2.2.2.1 = s4 at *
          generalize l.2.2.2.2.2.2.length = s5 at *
          generalize l.2.2.2.2.2.1 = s6 at *
          (go_wp2_with fail; refine (HH.out _ _ (by first | exact .inl ⟨rfl, rfl⟩ | exact .inr ⟨rfl, rfl⟩) _).mono ?_; rintro e w1 ⟨rfl, hx1⟩; obtain ⟨hc1, hf1⟩ := hx1.rules; have hs1 := hx1.size; (try simp at hs1); have := (show w.heap.size < w1.heap.size from by omega))
          go_wp2
          go_roundw
          case rel => exact ⟨k + 1, by omega, by go_num, Lib.hid (by rw [HSU.out]; exact HV.out.ext (by (repeat (first | with_reducible exact Ext.refl _ | with_reducible assumption | ((with_reducible apply Src.ext); with_reducible assumption) | with_reducible refine Ext.alloc ?_ _ | with_reducible refine Ext.drew ?_ | with_reducible refine Ext.drewN ?_ _ | ((with_reducible refine Ext.setCell' ?_ ?_ _); solve | omega | simp | (simp; omega)) | (with_reducible refine Ext.trans ?_ (by with_reducible assumption)))))), HB.out.ext (by (repeat (first | with_reducible exact Ext.refl _ | with_reducible assumption | ((with_reducible apply Src.ext); with_reducible assumption) | with_reducible refine Ext.alloc ?_ _ | with_reducible refine Ext.drew ?_ | with_reducible refine Ext.drewN ?_ _ | ((with_reducible refine Ext.setCell' ?_ ?_ _); solve | omega | simp | (simp; omega)) | (with_reducible refine Ext.trans ?_ (by with_reducible assumption))))), by (repeat (first | with_reducible exact Ext.refl _ | with_reducible assumption | ((with_reducible apply Src.ext); with_reducible assumption) | with_reducible refine Ext.alloc ?_ _ | with_reducible refine Ext.drew ?_ | with_reducible refine Ext.drewN ?_ _ | ((with_reducible refine Ext.setCell' ?_ ?_ _); solve | omega | simp | (simp; omega)) | (with_reducible refine Ext.trans ?_ (by with_reducible assumption))))⟩
          case measure => simp [intOf]; omega
        | false =>
          cases q2 with
          | false =>
            have HSU : Hid (cdsTo (appB a b) (psD ps) (k + 1) = cdsTo (appB a b) (psD ps) k) := Lib.hid (by rw [hsucc, hmov]; simp)
            clear hsucc hmov hln
            generalize ps.getD k plD = l at *
            generalize tx l.1 = s0 at *
            generalize l.2.1 = s1 at *
            generalize l.2.2.1 = s2 at *
            generalize l.2.2.2.1 = s3 at *
            generalize l.2.2.2.2.1 = s4 at *
            generalize l.2.2.2.2.2.2.length = s5 at *
            generalize l.2.2.2.2.2.1 = s6 at *
            (go_wp2_with fail; refine (HH.out _ _ (by first | exact .inl ⟨rfl, rfl⟩ | exact .inr ⟨rfl, rfl⟩) _).mono ?_; rintro e w1 ⟨rfl, hx1⟩; obtain ⟨hc1, hf1⟩ := hx1.rules; have hs1 := hx1.size; (try simp at hs1); have := (show w.heap.size < w1.heap.size from by omega); have := (show b9 < w1.heap.size from by omega))
            (go_wp2_with fail; refine (HH.out _ _ (by first | exact .inr ⟨rfl, rfl⟩ | exact .inl ⟨rfl, rfl⟩) _).mono ?_; rintro e w2 ⟨rfl, hx2⟩; obtain ⟨hc2, hf2⟩ := hx2.rules; have hs2 := hx2.size; (try simp at hs2); have := (show w.heap.size < w2.heap.size from by omega))
            go_wp2
            go_roundw
            case rel => exact ⟨k + 1, by omega, by go_num, Lib.hid (by rw [HSU.out]; exact HV.out.ext (by (repeat (first | with_reducible exact Ext.refl _ | with_reducible assumption | ((with_reducible apply Src.ext); with_reducible assumption) | with_reducible refine Ext.alloc ?_ _ | with_reducible refine Ext.drew ?_ | with_reducible refine Ext.drewN ?_ _ | ((with_reducible refine Ext.setCell' ?_ ?_ _); solve | omega | simp | (simp; omega)) | (with_reducible refine Ext.trans ?_ (by with_reducible assumption)))))), HB.out.ext (by (repeat (first | with_reducible exact Ext.refl _ | with_reducible assumption | ((with_reducible apply Src.ext); with_reducible assumption) | with_reducible refine Ext.alloc ?_ _ | with_reducible refine Ext.drew ?_ | with_reducible refine Ext.drewN ?_ _ | ((with_reducible refine Ext.setCell' ?_ ?_ _); solve | omega | simp | (simp; omega)) | (with_reducible refine Ext.trans ?_ (by with_reducible assumption))))), by (repeat (first | with_reducible exact Ext.refl _ | with_reducible assumption | ((with_reducible apply Src.ext); with_reducible assumption) | with_reducible refine Ext.alloc ?_ _ | with_reducible refine Ext.drew ?_ | with_reducible refine Ext.drewN ?_ _ | ((with_reducible refine Ext.setCell' ?_ ?_ _); solve | omega | simp | (simp; omega)) | (with_reducible refine Ext.trans ?_ (by with_reducible assumption))))⟩
            case measure => simp [intOf]; omega
          | true =>
            have HSU : Hid (cdsTo (appB a b) (psD ps) (k + 1) = cdsTo (appB a b) (psD ps) k ++ [(ps.getD k plD).1]) := Lib.hid (by rw [hsucc, hmov]; simp; rfl)
            have HBL := Lib.hid (fun (W : World) (g : Nat) (hB : Blk W g 9 #[.string (tx (ps.getD k plD).1)]) => blk_s1c hB)
            have HLN : Hid ((cdsTo (appB a b) (psD ps) k).length ≤ 1000) := Lib.hid (by omega)
            clear hsucc hmov hln
            generalize ps.getD k plD = l at *
            generalize tx l.1 = s0 at *
            generalize l.2.1 = s1 at *
            generalize l.2.2.1 = s2 at *
            generalize l.2.2.2.1 = s3 at *
            generalize l.2.2.2.2.1 = s4 at *
            generalize l.2.2.2.2.2.2.length = s5 at *
            generalize l.2.2.2.2.2.1 = s6 at *
            have hsr := hxr.size
            (go_wp2_with fail; refine (HH.out _ _ (by first | exact .inl ⟨rfl, rfl⟩ | exact .inr ⟨rfl, rfl⟩) _).mono ?_; rintro e w1 ⟨rfl, hx1⟩; obtain ⟨hc1, hf1⟩ := hx1.rules; have hs1 := hx1.size; (try simp at hs1); have := (show w.heap.size < w1.heap.size from by omega); have := (show b9 < w1.heap.size from by omega))
            (go_wp2_with fail; refine (HH.out _ _ (by first | exact .inr ⟨rfl, rfl⟩ | exact .inl ⟨rfl, rfl⟩) _).mono ?_; rintro e w2 ⟨rfl, hx2⟩; obtain ⟨hc2, hf2⟩ := hx2.rules; have hs2 := hx2.size; (try simp at hs2); have := (show w.heap.size < w2.heap.size from by omega); have := (show b9 < w2.heap.size from by omega))
            have HV1 : Hid (OwS w2 (w.heap.size + 1) _ (cdsTo (appB a b) (psD ps) k)) := Lib.hid (HV.out.ext (by (repeat (first | with_reducible exact Ext.refl _ | with_reducible assumption | ((with_reducible apply Src.ext); with_reducible assumption) | with_reducible refine Ext.alloc ?_ _ | with_reducible refine Ext.drew ?_ | with_reducible refine Ext.drewN ?_ _ | ((with_reducible refine Ext.setCell' ?_ ?_ _); solve | omega | simp | (simp; omega)) | (with_reducible refine Ext.trans ?_ (by with_reducible assumption))))))
            go_wp2_with (at_builtin; refine wpList_append_sl elS len_encS one_encS rfl _ _ rfl rfl (HV1.out.ext (by (repeat (first | with_reducible exact Ext.refl _ | with_reducible assumption | ((with_reducible apply Src.ext); with_reducible assumption) | with_reducible refine Ext.alloc ?_ _ | with_reducible refine Ext.drew ?_ | with_reducible refine Ext.drewN ?_ _ | ((with_reducible refine Ext.setCell' ?_ ?_ _); solve | omega | simp | (simp; omega)) | (with_reducible refine Ext.trans ?_ (by with_reducible assumption)))))) (xs := [l.1]) rfl (HBL.out _ _ (by (repeat (first | with_reducible assumption | ((with_reducible apply Blk.new); solve | simp | rfl) | with_reducible apply Blk.drew | with_reducible apply Blk.drewN | ((with_reducible apply Blk.far'); solve | omega | simp | (simp; omega)) | with_reducible apply Blk.set_ | with_reducible apply Blk.alloc | ((with_reducible apply Blk.ext'); with_reducible assumption) | ((with_reducible apply Blk.but'); (with_reducible assumption); solve | omega | (simp; omega)))))) (by have := HLN.out; simp; unfold maxLen; omega) (by have := HLN.out; simp; omega) (by first | omega | (simp; omega)) ?_)
            intro v' w6 hown hgrow _
            have HV2 := Lib.hid hown
            have hx6 : Ext w w6 := by
              refine Ext.grown ?_ hgrow (fun q hq => Nat.le_of_succ_le (HV.out.row q hq).1)
              (repeat (first | with_reducible exact Ext.refl _ | with_reducible assumption | ((with_reducible apply Src.ext); with_reducible assumption) | with_reducible refine Ext.alloc ?_ _ | with_reducible refine Ext.drew ?_ | with_reducible refine Ext.drewN ?_ _ | ((with_reducible refine Ext.setCell' ?_ ?_ _); solve | omega | simp | (simp; omega)) | (with_reducible refine Ext.trans ?_ (by with_reducible assumption))))
            have HB6 := Lib.hid (blk_keptE hgrow (HB.out.ext (by (repeat (first | with_reducible exact Ext.refl _ | with_reducible assumption | ((with_reducible apply Src.ext); with_reducible assumption) | with_reducible refine Ext.alloc ?_ _ | with_reducible refine Ext.drew ?_ | with_reducible refine Ext.drewN ?_ _ | ((with_reducible refine Ext.setCell' ?_ ?_ _); solve | omega | simp | (simp; omega)) | (with_reducible refine Ext.trans ?_ (by with_reducible assumption)))))) (fun e => by have := (HV.out.row _ e.symm).1; omega))
            clear hown hgrow
            go_wp2
            go_roundw
            case rel => exact ⟨k + 1, by omega, by go_num, Lib.hid (by rw [HSU.out]; exact HV2.out), HB6.out, hx6⟩
            case measure => simp [intOf]; omega
      · obtain rfl : k = n := by omega
        have HO : Hid (OwS w5 (w.heap.size + 1) _ (appR (psD ps) L a b)) := Lib.hid (by rw [← HFIN.out]; exact HV.out)
        go_wp2
        go_ret2
        exact ⟨_, rfl, (HO.out.ext (by (repeat (first | with_reducible exact Ext.refl _ | with_reducible assumption | ((with_reducible apply Src.ext); with_reducible assumption) | with_reducible refine Ext.alloc ?_ _ | with_reducible refine Ext.drew ?_ | with_reducible refine Ext.drewN ?_ _ | ((with_reducible refine Ext.setCell' ?_ ?_ _); solve | omega | simp | (simp; omega)) | (with_reducible refine Ext.trans ?_ (by with_reducible assumption)))))).less (Nat.le_succ _), by (repeat (first | with_reducible exact Ext.refl _ | with_reducible assumption | ((with_reducible apply Src.ext); with_reducible assumption) | with_reducible refine Ext.alloc ?_ _ | with_reducible refine Ext.drew ?_ | with_reducible refine Ext.drewN ?_ _ | ((with_reducible refine Ext.setCell' ?_ ?_ _); solve | omega | simp | (simp; omega)) | (with_reducible refine Ext.trans ?_ (by with_reducible assumption))))⟩
  · have hR : appR (psD ps) L a b = [] := by unfold appR; rw [if_neg hz]
    rw [hR]
    generalize wyC (psD ps) L true [a, b] = cd at *
    have hcd : (cd != 0) = true := by simpa using hz
    clear h hR
    go_enter Tryz.func13, Tryz.ntmps13
    go_wp2_with fail
    refine (HC.out _ (by (repeat (first | with_reducible exact Ext.refl _ | with_reducible assumption | ((with_reducible apply Src.ext); with_reducible assumption) | with_reducible refine Ext.alloc ?_ _ | with_reducible refine Ext.drew ?_ | with_reducible refine Ext.drewN ?_ _ | ((with_reducible refine Ext.setCell' ?_ ?_ _); solve | omega | simp | (simp; omega)) | (with_reducible refine Ext.trans ?_ (by with_reducible assumption)))))).mono ?_
    rintro e w1 ⟨rfl, hx1⟩
    go_wp2
    go_ret2
    exact ⟨_, rfl, Own.nil _ _, by (repeat (first | with_reducible exact Ext.refl _ | with_reducible assumption | ((with_reducible apply Src.ext); with_reducible assumption) | with_reducible refine Ext.alloc ?_ _ | with_reducible refine Ext.drew ?_ | with_reducible refine Ext.drewN ?_ _ | ((with_reducible refine Ext.setCell' ?_ ?_ _); solve | omega | simp | (simp; omega)) | (with_reducible refine Ext.trans ?_ (by with_reducible assumption))))⟩
set_option maxRecDepth 20000 in
set_option maxHeartbeats 12800000 in
theorem s_MovedBetweenW (a b : Int) (h : WIn w A A' n c m c' ps L) :
    Calls Tryz.prog 21 #[.agg #[.slice A n c, .slice A' m c'], .int .i64 a, .int .i64 b] w fun e w' => ∃ v, e = .returned (.tuple #[v, .int .i64 (wyC (psD ps) L true [a, b])]) ∧ OwS w' w.heap.size v (movR (psD ps) L a b) ∧ Ext w w' := by
  have HC := Lib.hid (fun W (hW : Ext w W) => s_l14Years (w := W) a b (h.ext hW))
  have hlm : m ≤ 1048576 := by rw [h.hm]; exact h.hl'
  have HPA := Lib.hid (fun x z W (hW : Ext w W) => s_l12Parent A' m c' L x z W (h.sk.ext hW) h.hm hlm)
  have HS := Lib.hid h.sq
  have HN := Lib.hid h.hn
  by_cases hz : wyC (psD ps) L true [a, b] = 0
  · have h10 := wdB_len (wyC_zero hz).1
    rw [psD_len, ← h.hn] at h10
    have hfin : cdsTo (movB L a b) (psD ps) n = movR (psD ps) L a b := by unfold movR; rw [if_pos hz, h.hn, ← psD_len, cdsTo_all]
    have HFIN := Lib.hid hfin
    rw [hz] at HC ⊢
    clear hfin hz h
    go_enter Tryz.func21, Tryz.ntmps21
    go_wp2_with fail
    refine (HC.out _ (by (repeat (first | with_reducible exact Ext.refl _ | with_reducible assumption | ((with_reducible apply Src.ext); with_reducible assumption) | with_reducible refine Ext.alloc ?_ _ | with_reducible refine Ext.drew ?_ | with_reducible refine Ext.drewN ?_ _ | ((with_reducible refine Ext.setCell' ?_ ?_ _); solve | omega | simp | (simp; omega)) | (with_reducible refine Ext.trans ?_ (by with_reducible assumption)))))).mono ?_
    rintro e w1 ⟨rfl, hx1⟩
    obtain ⟨hc1, hf1⟩ := hx1.rules
    have hs1 := hx1.size
    (try simp at hs1)
    have B3 : Blk w1 w.heap.size 33 #[.slice A n c, .slice A' m c'] := Blk.eq (by (repeat (first | with_reducible assumption | ((with_reducible apply Blk.new); solve | simp | rfl) | with_reducible apply Blk.drew | with_reducible apply Blk.drewN | ((with_reducible apply Blk.far'); solve | omega | simp | (simp; omega)) | with_reducible apply Blk.set_ | with_reducible apply Blk.alloc | ((with_reducible apply Blk.ext'); with_reducible assumption) | ((with_reducible apply Blk.but'); (with_reducible assumption); solve | omega | (simp; omega))))) (by rfl)
    have hX1 : Ext w w1 := by clear B3; (repeat (first | with_reducible exact Ext.refl _ | with_reducible assumption | ((with_reducible apply Src.ext); with_reducible assumption) | with_reducible refine Ext.alloc ?_ _ | with_reducible refine Ext.drew ?_ | with_reducible refine Ext.drewN ?_ _ | ((with_reducible refine Ext.setCell' ?_ ?_ _); solve | omega | simp | (simp; omega)) | (with_reducible refine Ext.trans ?_ (by with_reducible assumption))))
    have z3 := B3.lt
    clear hc1 hf1 hx1
    go_wp2
    go_loopw [9, 10] (fun v i wr => ∃ k : Nat, k ≤ n ∧ i = .int .i64 k ∧ Hid (OwS wr (w.heap.size + 1) v (cdsTo (movB L a b) (psD ps) k)) ∧ Blk wr w.heap.size 33 #[.slice A n c, .slice A' m c'] ∧ Ext w wr) (fun _ i _ => n - (intOf i).toNat)
    case atStart => exact ⟨0, by omega, rfl, Lib.hid (Own.of_blk (g := w1.heap.size) (cs := #[]) (xs := []) (by (repeat (first | with_reducible assumption | ((with_reducible apply Blk.new); solve | simp | rfl) | with_reducible apply Blk.drew | with_reducible apply Blk.drewN | ((with_reducible apply Blk.far'); solve | omega | simp | (simp; omega)) | with_reducible apply Blk.set_ | with_reducible apply Blk.alloc | ((with_reducible apply Blk.ext'); with_reducible assumption) | ((with_reducible apply Blk.but'); (with_reducible assumption); solve | omega | (simp; omega))))) len_encS rfl (by omega) (by simp)), by (repeat (first | with_reducible assumption | ((with_reducible apply Blk.new); solve | simp | rfl) | with_reducible apply Blk.drew | with_reducible apply Blk.drewN | ((with_reducible apply Blk.far'); solve | omega | simp | (simp; omega)) | with_reducible apply Blk.set_ | with_reducible apply Blk.alloc | ((with_reducible apply Blk.ext'); with_reducible assumption) | ((with_reducible apply Blk.but'); (with_reducible assumption); solve | omega | (simp; omega)))), by (repeat (first | with_reducible exact Ext.refl _ | with_reducible assumption | ((with_reducible apply Src.ext); with_reducible assumption) | with_reducible refine Ext.alloc ?_ _ | with_reducible refine Ext.drew ?_ | with_reducible refine Ext.drewN ?_ _ | ((with_reducible refine Ext.setCell' ?_ ?_ _); solve | omega | simp | (simp; omega)) | (with_reducible refine Ext.trans ?_ (by with_reducible assumption))))⟩
    case round =>
      obtain ⟨k, hk, rfl, HV, hB, hxr⟩ := hrel
      obtain ⟨w5, rfl⟩ : ∃ x, x = wr := ⟨wr, rfl⟩
      have hBl := hB.lt
      have HB := Lib.hid hB
      have y0 : w5.cell? ⟨w.heap.size, 0, none⟩ = some (.slice A n c) := hB.cell 0
      have y1 : w5.cell? ⟨w.heap.size, 1, none⟩ = some (.slice A' m c') := hB.cell 1
      clear hB
      by_cases hlt : k < n
      · have hkr : k < ps.length := by rw [← HN.out]; exact hlt
        obtain ⟨b9, off, rfl, hb, d0, d1, d2, d3, d4⟩ := (HS.out.ext hxr).pl hkr
        have hsucc := cdsTo_succ (p := (movB L a b)) (D := psD ps) (k := k) (by rw [psD_len]; exact hkr)
        rw [psD_at hkr] at hsucc
        have hln := cdsTo_len ((movB L a b)) (psD ps) k
        obtain ⟨q1, hq1⟩ : ∃ q, exB (pdOf (ps.getD k plD)) a = q := ⟨_, rfl⟩
        obtain ⟨q2, hq2⟩ : ∃ q, exB (pdOf (ps.getD k plD)) b = q := ⟨_, rfl⟩
        have hHH : Hid (∀ z q, (z = a ∧ q = q1) ∨ (z = b ∧ q = q2) → ∀ W, Calls Tryz.prog 52 #[.agg #[.string (tx (ps.getD k plD).1), .int .i64 (ps.getD k plD).2.1, .int .i64 (ps.getD k plD).2.2.1, .int .i64 (ps.getD k plD).2.2.2.1, .slice (ps.getD k plD).2.2.2.2.1 (ps.getD k plD).2.2.2.2.2.2.length (ps.getD k plD).2.2.2.2.2.1], .int .i64 z] W fun e w' => e = .returned (.bool q) ∧ Ext W w') := Lib.hid (fun z q hz W => by
          rcases hz with ⟨rfl, rfl⟩ | ⟨rfl, rfl⟩
          · rw [← hq1]; exact s_l11Exists _ _ W
          · rw [← hq2]; exact s_l11Exists _ _ W)
        have HH := hHH
        clear hHH
        obtain ⟨pa, hpa⟩ : ∃ pa, parT L (ps.getD k plD).1 a = pa := ⟨_, rfl⟩
        obtain ⟨pb, hpb⟩ : ∃ pb, parT L (ps.getD k plD).1 b = pb := ⟨_, rfl⟩
        have HP : Hid (∀ z (s : ByteArray), (z = a ∧ s = tx pa) ∨ (z = b ∧ s = tx pb) → ∀ W, Ext w W → Calls Tryz.prog 61 #[.slice A' m c', .string (tx (ps.getD k plD).1), .int .i64 z] W fun e w' => e = .returned (.string s) ∧ Ext W w') := Lib.hid (fun z s hz W hW => by
          rcases hz with ⟨rfl, rfl⟩ | ⟨rfl, rfl⟩
          · rw [← hpa]; exact HPA.out _ _ W hW
          · rw [← hpb]; exact HPA.out _ _ W hW)
        have hmov : movB L a b (pdOf (ps.getD k plD)) = (q1 && (q2 && !((tx pa).toList == (tx pb).toList))) := by
          rw [tx_toL, tx_toL, ← hpa, ← hpb, ← hq1, ← hq2]; rfl
        clear hq1 hq2 hpa hpb
        generalize tx pa = sa at *
        generalize tx pb = sb at *
        cases q1 with
        | false =>
          have HSU : Hid (cdsTo (movB L a b) (psD ps) (k + 1) = cdsTo (movB L a b) (psD ps) k) := Lib.hid (by rw [hsucc, hmov]; simp)
          clear hsucc hmov hln
          generalize ps.getD k plD = l at *
          generalize tx l.1 = s0 at *
          generalize l.2.1 = s1 at *
          generalize l.2.2.1 = s2 at *
          generalize l.2.2.2.1 = s3 at *
          generalize l.2.2.2.2.1 = s4 at *
          generalize l.2.2.2.2.2.2.length = s5 at *
          generalize l.2.2.2.2.2.1 = s6 at *
          go_wp2
          (refine wp_region_ext (by kernel_rfl) (by kernel_rfl) ?_; (repeat (go_big_quiet_step ((first | (go_at_call 52; exact Calls_ext (HH.out _ _ (by first | exact .inl ⟨rfl, rfl⟩ | exact .inr ⟨rfl, rfl⟩) _)) | (go_at_call 61; exact Calls_ext (HP.out _ _ (by first | exact .inl ⟨rfl, rfl⟩ | exact .inr ⟨rfl, rfl⟩) _ (hxr.trans (Ext.trans (by (repeat (first | with_reducible exact Ext.refl _ | with_reducible assumption | ((with_reducible apply Src.ext); with_reducible assumption) | with_reducible refine Ext.alloc ?_ _ | with_reducible refine Ext.drew ?_ | with_reducible refine Ext.drewN ?_ _ | ((with_reducible refine Ext.setCell' ?_ ?_ _); solve | omega | simp | (simp; omega)) | (with_reducible refine Ext.trans ?_ (by with_reducible assumption))))) (ExtOf.ext _))))))))); refine wpQuiet_nil ?_; intro wq hxwq; obtain ⟨hcwq, hfwq⟩ := hxwq.rules; have hswq := hxwq.size; (try simp at hswq))
          go_wp2
          have z1 := (show w5.heap.size < wq.heap.size from by omega)
          have z2 := (show w.heap.size < wq.heap.size from by omega)
          go_wp2
          go_roundw
          case rel => exact ⟨k + 1, by omega, by go_num, Lib.hid (by rw [HSU.out]; exact HV.out.ext (by (repeat (first | with_reducible exact Ext.refl _ | with_reducible assumption | ((with_reducible apply Src.ext); with_reducible assumption) | with_reducible refine Ext.alloc ?_ _ | with_reducible refine Ext.drew ?_ | with_reducible refine Ext.drewN ?_ _ | ((with_reducible refine Ext.setCell' ?_ ?_ _); solve | omega | simp | (simp; omega)) | (with_reducible refine Ext.trans ?_ (by with_reducible assumption)))))), HB.out.ext (by (repeat (first | with_reducible exact Ext.refl _ | with_reducible assumption | ((with_reducible apply Src.ext); with_reducible assumption) | with_reducible refine Ext.alloc ?_ _ | with_reducible refine Ext.drew ?_ | with_reducible refine Ext.drewN ?_ _ | ((with_reducible refine Ext.setCell' ?_ ?_ _); solve | omega | simp | (simp; omega)) | (with_reducible refine Ext.trans ?_ (by with_reducible assumption))))), by (repeat (first | with_reducible exact Ext.refl _ | with_reducible assumption | ((with_reducible apply Src.ext); with_reducible assumption) | with_reducible refine Ext.alloc ?_ _ | with_reducible refine Ext.drew ?_ | with_reducible refine Ext.drewN ?_ _ | ((with_reducible refine Ext.setCell' ?_ ?_ _); solve | omega | simp | (simp; omega)) | (with_reducible refine Ext.trans ?_ (by with_reducible assumption))))⟩
          case measure => simp [intOf]; omega
        | true =>
          cases q2 with
          | false =>
            have HSU : Hid (cdsTo (movB L a b) (psD ps) (k + 1) = cdsTo (movB L a b) (psD ps) k) := Lib.hid (by rw [hsucc, hmov]; simp)
            clear hsucc hmov hln
            generalize ps.getD k plD = l at *
            generalize tx l.1 = s0 at *
            generalize l.2.1 = s1 at *
            generalize l.2.2.1 = s2 at *
            generalize l.2.2.2.1 = s3 at *
            generalize l.2.2.2.2.1 = s4 at *
            generalize l.2.2.2.2.2.2.length = s5 at *
            generalize l.2.2.2.2.2.1 = s6 at *
            go_wp2
            (refine wp_region_ext (by kernel_rfl) (by kernel_rfl) ?_; (repeat (go_big_quiet_step ((first | (go_at_call 52; exact Calls_ext (HH.out _ _ (by first | exact .inl ⟨rfl, rfl⟩ | exact .inr ⟨rfl, rfl⟩) _)) | (go_at_call 61; exact Calls_ext (HP.out _ _ (by first | exact .inl ⟨rfl, rfl⟩ | exact .inr ⟨rfl, rfl⟩) _ (hxr.trans (Ext.trans (by (repeat (first | with_reducible exact Ext.refl _ | with_reducible assumption | ((with_reducible apply Src.ext); with_reducible assumption) | with_reducible refine Ext.alloc ?_ _ | with_reducible refine Ext.drew ?_ | with_reducible refine Ext.drewN ?_ _ | ((with_reducible refine Ext.setCell' ?_ ?_ _); solve | omega | simp | (simp; omega)) | (with_reducible refine Ext.trans ?_ (by with_reducible assumption))))) (ExtOf.ext _))))))))); refine wpQuiet_nil ?_; intro wq hxwq; obtain ⟨hcwq, hfwq⟩ := hxwq.rules; have hswq := hxwq.size; (try simp at hswq))
            go_wp2
            have z1 := (show w5.heap.size < wq.heap.size from by omega)
            have z2 := (show w.heap.size < wq.heap.size from by omega)
            go_wp2
            go_roundw
            case rel => exact ⟨k + 1, by omega, by go_num, Lib.hid (by rw [HSU.out]; exact HV.out.ext (by (repeat (first | with_reducible exact Ext.refl _ | with_reducible assumption | ((with_reducible apply Src.ext); with_reducible assumption) | with_reducible refine Ext.alloc ?_ _ | with_reducible refine Ext.drew ?_ | with_reducible refine Ext.drewN ?_ _ | ((with_reducible refine Ext.setCell' ?_ ?_ _); solve | omega | simp | (simp; omega)) | (with_reducible refine Ext.trans ?_ (by with_reducible assumption)))))), HB.out.ext (by (repeat (first | with_reducible exact Ext.refl _ | with_reducible assumption | ((with_reducible apply Src.ext); with_reducible assumption) | with_reducible refine Ext.alloc ?_ _ | with_reducible refine Ext.drew ?_ | with_reducible refine Ext.drewN ?_ _ | ((with_reducible refine Ext.setCell' ?_ ?_ _); solve | omega | simp | (simp; omega)) | (with_reducible refine Ext.trans ?_ (by with_reducible assumption))))), by (repeat (first | with_reducible exact Ext.refl _ | with_reducible assumption | ((with_reducible apply Src.ext); with_reducible assumption) | with_reducible refine Ext.alloc ?_ _ | with_reducible refine Ext.drew ?_ | with_reducible refine Ext.drewN ?_ _ | ((with_reducible refine Ext.setCell' ?_ ?_ _); solve | omega | simp | (simp; omega)) | (with_reducible refine Ext.trans ?_ (by with_reducible assumption))))⟩
            case measure => simp [intOf]; omega
          | true =>
            cases he : (sa.toList == sb.toList) with
            | true =>
              rw [he] at hmov
              have hne : (!(sa.toList == sb.toList)) = false := by rw [he]; rfl
              have HSU : Hid (cdsTo (movB L a b) (psD ps) (k + 1) = cdsTo (movB L a b) (psD ps) k) := Lib.hid (by rw [hsucc, hmov]; simp)
              clear hsucc hmov hln
              generalize ps.getD k plD = l at *
              generalize tx l.1 = s0 at *
              generalize l.2.1 = s1 at *
              generalize l.2.2.1 = s2 at *
              generalize l.2.2.2.1 = s3 at *
              generalize l.2.2.2.2.1 = s4 at *
              generalize l.2.2.2.2.2.2.length = s5 at *
              generalize l.2.2.2.2.2.1 = s6 at *
              go_wp2
              (refine wp_region_ext (by kernel_rfl) (by kernel_rfl) ?_; (repeat (go_big_quiet_step ((first | (go_at_call 52; exact Calls_ext (HH.out _ _ (by first | exact .inl ⟨rfl, rfl⟩ | exact .inr ⟨rfl, rfl⟩) _)) | (go_at_call 61; exact Calls_ext (HP.out _ _ (by first | exact .inl ⟨rfl, rfl⟩ | exact .inr ⟨rfl, rfl⟩) _ (hxr.trans (Ext.trans (by (repeat (first | with_reducible exact Ext.refl _ | with_reducible assumption | ((with_reducible apply Src.ext); with_reducible assumption) | with_reducible refine Ext.alloc ?_ _ | with_reducible refine Ext.drew ?_ | with_reducible refine Ext.drewN ?_ _ | ((with_reducible refine Ext.setCell' ?_ ?_ _); solve | omega | simp | (simp; omega)) | (with_reducible refine Ext.trans ?_ (by with_reducible assumption))))) (ExtOf.ext _))))))))); refine wpQuiet_nil ?_; intro wq hxwq; obtain ⟨hcwq, hfwq⟩ := hxwq.rules; have hswq := hxwq.size; (try simp at hswq))
              go_wp2
              have z1 := (show w5.heap.size < wq.heap.size from by omega)
              have z2 := (show w.heap.size < wq.heap.size from by omega)
              go_wp2
              go_roundw
              case rel => exact ⟨k + 1, by omega, by go_num, Lib.hid (by rw [HSU.out]; exact HV.out.ext (by (repeat (first | with_reducible exact Ext.refl _ | with_reducible assumption | ((with_reducible apply Src.ext); with_reducible assumption) | with_reducible refine Ext.alloc ?_ _ | with_reducible refine Ext.drew ?_ | with_reducible refine Ext.drewN ?_ _ | ((with_reducible refine Ext.setCell' ?_ ?_ _); solve | omega | simp | (simp; omega)) | (with_reducible refine Ext.trans ?_ (by with_reducible assumption)))))), HB.out.ext (by (repeat (first | with_reducible exact Ext.refl _ | with_reducible assumption | ((with_reducible apply Src.ext); with_reducible assumption) | with_reducible refine Ext.alloc ?_ _ | with_reducible refine Ext.drew ?_ | with_reducible refine Ext.drewN ?_ _ | ((with_reducible refine Ext.setCell' ?_ ?_ _); solve | omega | simp | (simp; omega)) | (with_reducible refine Ext.trans ?_ (by with_reducible assumption))))), by (repeat (first | with_reducible exact Ext.refl _ | with_reducible assumption | ((with_reducible apply Src.ext); with_reducible assumption) | with_reducible refine Ext.alloc ?_ _ | with_reducible refine Ext.drew ?_ | with_reducible refine Ext.drewN ?_ _ | ((with_reducible refine Ext.setCell' ?_ ?_ _); solve | omega | simp | (simp; omega)) | (with_reducible refine Ext.trans ?_ (by with_reducible assumption))))⟩
              case measure => simp [intOf]; omega
            | false =>
              rw [he] at hmov
              have hne : (!(sa.toList == sb.toList)) = true := by rw [he]; rfl
              have HSU : Hid (cdsTo (movB L a b) (psD ps) (k + 1) = cdsTo (movB L a b) (psD ps) k ++ [(ps.getD k plD).1]) := Lib.hid (by rw [hsucc, hmov]; simp; rfl)
              have HBL := Lib.hid (fun (W : World) (g : Nat) (hB : Blk W g 9 #[.string (tx (ps.getD k plD).1)]) => blk_s1c hB)
              have HLN : Hid ((cdsTo (movB L a b) (psD ps) k).length ≤ 1000) := Lib.hid (by omega)
              clear hsucc hmov hln
              generalize ps.getD k plD = l at *
              generalize tx l.1 = s0 at *
              generalize l.2.1 = s1 at *
              generalize l.2.2.1 = s2 at *
              generalize l.2.2.2.1 = s3 at *
              generalize l.2.2.2.2.1 = s4 at *
              generalize l.2.2.2.2.2.2.length = s5 at *
              generalize l.2.2.2.2.2.1 = s6 at *
              have hsr := hxr.size
              go_wp2
              (refine wp_region_ext (by kernel_rfl) (by kernel_rfl) ?_; (repeat (go_big_quiet_step ((first | (go_at_call 52; exact Calls_ext (HH.out _ _ (by first | exact .inl ⟨rfl, rfl⟩ | exact .inr ⟨rfl, rfl⟩) _)) | (go_at_call 61; exact Calls_ext (HP.out _ _ (by first | exact .inl ⟨rfl, rfl⟩ | exact .inr ⟨rfl, rfl⟩) _ (hxr.trans (Ext.trans (by (repeat (first | with_reducible exact Ext.refl _ | with_reducible assumption | ((with_reducible apply Src.ext); with_reducible assumption) | with_reducible refine Ext.alloc ?_ _ | with_reducible refine Ext.drew ?_ | with_reducible refine Ext.drewN ?_ _ | ((with_reducible refine Ext.setCell' ?_ ?_ _); solve | omega | simp | (simp; omega)) | (with_reducible refine Ext.trans ?_ (by with_reducible assumption))))) (ExtOf.ext _))))))))); refine wpQuiet_nil ?_; intro wq hxwq; obtain ⟨hcwq, hfwq⟩ := hxwq.rules; have hswq := hxwq.size; (try simp at hswq))
              have z1 := (show w5.heap.size < wq.heap.size from by omega)
              have z2 := (show w.heap.size < wq.heap.size from by omega)
              have HV1 : Hid (OwS wq (w.heap.size + 1) _ (cdsTo (movB L a b) (psD ps) k)) := Lib.hid (HV.out.ext (by (repeat (first | with_reducible exact Ext.refl _ | with_reducible assumption | ((with_reducible apply Src.ext); with_reducible assumption) | with_reducible refine Ext.alloc ?_ _ | with_reducible refine Ext.drew ?_ | with_reducible refine Ext.drewN ?_ _ | ((with_reducible refine Ext.setCell' ?_ ?_ _); solve | omega | simp | (simp; omega)) | (with_reducible refine Ext.trans ?_ (by with_reducible assumption))))))
              go_wp2_with (at_builtin; refine wpList_append_sl elS len_encS one_encS rfl _ _ rfl rfl (HV1.out.ext (by (repeat (first | with_reducible exact Ext.refl _ | with_reducible assumption | ((with_reducible apply Src.ext); with_reducible assumption) | with_reducible refine Ext.alloc ?_ _ | with_reducible refine Ext.drew ?_ | with_reducible refine Ext.drewN ?_ _ | ((with_reducible refine Ext.setCell' ?_ ?_ _); solve | omega | simp | (simp; omega)) | (with_reducible refine Ext.trans ?_ (by with_reducible assumption)))))) (xs := [l.1]) rfl (HBL.out _ _ (by (repeat (first | with_reducible assumption | ((with_reducible apply Blk.new); solve | simp | rfl) | with_reducible apply Blk.drew | with_reducible apply Blk.drewN | ((with_reducible apply Blk.far'); solve | omega | simp | (simp; omega)) | with_reducible apply Blk.set_ | with_reducible apply Blk.alloc | ((with_reducible apply Blk.ext'); with_reducible assumption) | ((with_reducible apply Blk.but'); (with_reducible assumption); solve | omega | (simp; omega)))))) (by have := HLN.out; simp; unfold maxLen; omega) (by have := HLN.out; simp; omega) (by first | omega | (simp; omega)) ?_)
              intro v' w6 hown hgrow _
              have HV2 := Lib.hid hown
              have hx6 : Ext w w6 := by
                refine Ext.grown ?_ hgrow (fun q hq => Nat.le_of_succ_le (HV.out.row q hq).1)
                (repeat (first | with_reducible exact Ext.refl _ | with_reducible assumption | ((with_reducible apply Src.ext); with_reducible assumption) | with_reducible refine Ext.alloc ?_ _ | with_reducible refine Ext.drew ?_ | with_reducible refine Ext.drewN ?_ _ | ((with_reducible refine Ext.setCell' ?_ ?_ _); solve | omega | simp | (simp; omega)) | (with_reducible refine Ext.trans ?_ (by with_reducible assumption))))
              have HB6 := Lib.hid (blk_keptE hgrow (HB.out.ext (by (repeat (first | with_reducible exact Ext.refl _ | with_reducible assumption | ((with_reducible apply Src.ext); with_reducible assumption) | with_reducible refine Ext.alloc ?_ _ | with_reducible refine Ext.drew ?_ | with_reducible refine Ext.drewN ?_ _ | ((with_reducible refine Ext.setCell' ?_ ?_ _); solve | omega | simp | (simp; omega)) | (with_reducible refine Ext.trans ?_ (by with_reducible assumption)))))) (fun e => by have := (HV.out.row _ e.symm).1; omega))
              clear hown hgrow
              go_wp2
              go_roundw
              case rel => exact ⟨k + 1, by omega, by go_num, Lib.hid (by rw [HSU.out]; exact HV2.out), HB6.out, hx6⟩
              case measure => simp [intOf]; omega
      · obtain rfl : k = n := by omega
        have HO : Hid (OwS w5 (w.heap.size + 1) _ (movR (psD ps) L a b)) := Lib.hid (by rw [← HFIN.out]; exact HV.out)
        go_wp2
        go_ret2
        exact ⟨_, rfl, (HO.out.ext (by (repeat (first | with_reducible exact Ext.refl _ | with_reducible assumption | ((with_reducible apply Src.ext); with_reducible assumption) | with_reducible refine Ext.alloc ?_ _ | with_reducible refine Ext.drew ?_ | with_reducible refine Ext.drewN ?_ _ | ((with_reducible refine Ext.setCell' ?_ ?_ _); solve | omega | simp | (simp; omega)) | (with_reducible refine Ext.trans ?_ (by with_reducible assumption)))))).less (Nat.le_succ _), by (repeat (first | with_reducible exact Ext.refl _ | with_reducible assumption | ((with_reducible apply Src.ext); with_reducible assumption) | with_reducible refine Ext.alloc ?_ _ | with_reducible refine Ext.drew ?_ | with_reducible refine Ext.drewN ?_ _ | ((with_reducible refine Ext.setCell' ?_ ?_ _); solve | omega | simp | (simp; omega)) | (with_reducible refine Ext.trans ?_ (by with_reducible assumption))))⟩
  · have hR : movR (psD ps) L a b = [] := by unfold movR; rw [if_neg hz]
    rw [hR]
    generalize wyC (psD ps) L true [a, b] = cd at *
    have hcd : (cd != 0) = true := by simpa using hz
    clear h hR
    go_enter Tryz.func21, Tryz.ntmps21
    go_wp2_with fail
    refine (HC.out _ (by (repeat (first | with_reducible exact Ext.refl _ | with_reducible assumption | ((with_reducible apply Src.ext); with_reducible assumption) | with_reducible refine Ext.alloc ?_ _ | with_reducible refine Ext.drew ?_ | with_reducible refine Ext.drewN ?_ _ | ((with_reducible refine Ext.setCell' ?_ ?_ _); solve | omega | simp | (simp; omega)) | (with_reducible refine Ext.trans ?_ (by with_reducible assumption)))))).mono ?_
    rintro e w1 ⟨rfl, hx1⟩
    go_wp2
    go_ret2
    exact ⟨_, rfl, Own.nil _ _, by (repeat (first | with_reducible exact Ext.refl _ | with_reducible assumption | ((with_reducible apply Src.ext); with_reducible assumption) | with_reducible refine Ext.alloc ?_ _ | with_reducible refine Ext.drew ?_ | with_reducible refine Ext.drewN ?_ _ | ((with_reducible refine Ext.setCell' ?_ ?_ _); solve | omega | simp | (simp; omega)) | (with_reducible refine Ext.trans ?_ (by with_reducible assumption))))⟩
end
end Go.Proofs.YtapfokfbdmcokaaGreatDoor
