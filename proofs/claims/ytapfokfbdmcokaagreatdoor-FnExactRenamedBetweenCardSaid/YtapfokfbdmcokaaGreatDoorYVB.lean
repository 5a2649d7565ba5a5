/- Who has another name in another year, as the specification tells it. -/
import Derived.Test.YtapfokfbdmcokaaGreatDoorYV
import Derived.Deep.RegionHeld3
import Derived.Deep.DeepCutAuto
import Derived.RegionTactic
import Derived.BigRegion
import Derived.WalkLawsBesides
import Derived.WalkSpells
import Derived.Lib.MinMax
import Derived.Outline
namespace Go.Proofs.YtapfokfbdmcokaaGreatDoor
open Go.RowKit
attribute [local go_sem] ExtOf.cell ExtOf.frozen

section
variable {w : World} {A A' A9 : Option Addr} {n c m c' r c9 : Nat} {ps : List Pl} {L : List Lk} {ls : List (List UInt8)}
set_option maxRecDepth 20000 in
set_option maxHeartbeats 12800000 in
theorem s_RenamedBetweenW (a b : Int) (h : WIn w A A' n c m c' ps L) (h9 : SlAt w 1 encS A9 ls) (hr : r = ls.length) (hr9 : r ≤ 1048576) (hs : ∀ s ∈ ls, s.length ≤ 1048576) :
    Calls Tryz.prog 29 #[.agg #[.slice A n c, .slice A' m c'], .slice A9 r c9, .int .i64 a, .int .i64 b] w fun e w' => ∃ v, e = .returned (.tuple #[v, .int .i64 (wyC (psD ps) L (lgB ls) [a, b])]) ∧ OwS w' w.heap.size v (renR (psD ps) L ls a b) ∧ Ext w w' := by
  have HC := Lib.hid (fun W (hW : Ext w W) => s_l14Years (w := W) a b (h.ext hW))
  have HG := Lib.hid (fun W (hW : Ext w W) => s_l14Languages A9 r c9 ls W (h9.ext hW) hr hr9 hs)
  have HPA := Lib.hid (fun (hw : wdB (psD ps) L = true) x (hf : (fndP (psD ps) x).isSome = true) z W (hW : Ext w W) => s_l14Name (c9 := c9) x z (h.ext hW) hw hf (h9.ext hW) hr hr9)
  have HS := Lib.hid h.sq
  have HN := Lib.hid h.hn
  by_cases hz : wyC (psD ps) L (lgB ls) [a, b] = 0
  · have h10 := wdB_len (wyC_zero hz).1
    rw [psD_len, ← h.hn] at h10
    have hfin : cdsTo (renB ls a b) (psD ps) n = renR (psD ps) L ls a b := by unfold renR; rw [if_pos hz, h.hn, ← psD_len, cdsTo_all]
    have HFIN := Lib.hid hfin
    have hlg := (wyC_zero hz).2.1
    have hw := (wyC_zero hz).1
    have HSF := Lib.hid (fun k (hk : k < ps.length) => fnd_self (asc_of (wdB_iff.1 hw).1) hk)
    have HPW := Lib.hid (HPA.out hw)
    rw [hz]
    rw [hlg] at hz HG
    rw [hz] at HC
    clear hfin hz h HPA hlg hw h9 hr hs
    go_enter Tryz.func29, Tryz.ntmps29
    go_wp2_with fail
    refine (HG.out _ (by (repeat (first | with_reducible exact Ext.refl _ | with_reducible assumption | ((with_reducible apply Src.ext); with_reducible assumption) | with_reducible refine Ext.alloc ?_ _ | with_reducible refine Ext.drew ?_ | with_reducible refine Ext.drewN ?_ _ | ((with_reducible refine Ext.setCell' ?_ ?_ _); solve | omega | simp | (simp; omega)) | (with_reducible refine Ext.trans ?_ (by with_reducible assumption)))))).mono ?_
    rintro e w0 ⟨rfl, hx0⟩
    obtain ⟨hc0, hf0⟩ := hx0.rules
    have hs0 := hx0.size
    (try simp at hs0)
    have := (show w.heap.size < w0.heap.size from by omega)
    go_wp2_with fail
    refine (HC.out _ (by (repeat (first | with_reducible exact Ext.refl _ | with_reducible assumption | ((with_reducible apply Src.ext); with_reducible assumption) | with_reducible refine Ext.alloc ?_ _ | with_reducible refine Ext.drew ?_ | with_reducible refine Ext.drewN ?_ _ | ((with_reducible refine Ext.setCell' ?_ ?_ _); solve | omega | simp | (simp; omega)) | (with_reducible refine Ext.trans ?_ (by with_reducible assumption)))))).mono ?_
    rintro e w1 ⟨rfl, hx1⟩
    obtain ⟨hc1, hf1⟩ := hx1.rules
    have hs1 := hx1.size
    (try simp at hs1)
    have B3 : Blk w1 w.heap.size 33 #[.slice A n c, .slice A' m c'] := Blk.eq (by (repeat (first | with_reducible assumption | ((with_reducible apply Blk.new); solve | simp | rfl) | with_reducible apply Blk.drew | with_reducible apply Blk.drewN | ((with_reducible apply Blk.far'); solve | omega | simp | (simp; omega)) | with_reducible apply Blk.set_ | with_reducible apply Blk.alloc | ((with_reducible apply Blk.ext'); with_reducible assumption) | ((with_reducible apply Blk.but'); (with_reducible assumption); solve | omega | (simp; omega))))) (by rfl)
    have hX1 : Ext w w1 := by clear B3; (repeat (first | with_reducible exact Ext.refl _ | with_reducible assumption | ((with_reducible apply Src.ext); with_reducible assumption) | with_reducible refine Ext.alloc ?_ _ | with_reducible refine Ext.drew ?_ | with_reducible refine Ext.drewN ?_ _ | ((with_reducible refine Ext.setCell' ?_ ?_ _); solve | omega | simp | (simp; omega)) | (with_reducible refine Ext.trans ?_ (by with_reducible assumption))))
    have z3 := B3.lt
    clear hc1 hf1 hx1 hc0 hf0 hx0
    go_wp2
    go_loopw [11, 12] (fun v i wr => ∃ k : Nat, k ≤ n ∧ i = .int .i64 k ∧ Hid (OwS wr (w.heap.size + 1) v (cdsTo (renB ls a b) (psD ps) k)) ∧ Blk wr w.heap.size 33 #[.slice A n c, .slice A' m c'] ∧ Ext w wr) (fun _ i _ => n - (intOf i).toNat)
    case atStart => exact ⟨0, by omega, rfl, Lib.hid (Own.of_blk (g := w1.heap.size) (cs := #[]) (xs := []) (by (repeat (first | with_reducible assumption | ((with_reducible apply Blk.new); solve | simp | rfl) | with_reducible apply Blk.drew | with_reducible apply Blk.drewN | ((with_reducible apply Blk.far'); solve | omega | simp | (simp; omega)) | with_reducible apply Blk.set_ | with_reducible apply Blk.alloc | ((with_reducible apply Blk.ext'); with_reducible assumption) | ((with_reducible apply Blk.but'); (with_reducible assumption); solve | omega | (simp; omega))))) len_encS rfl (by omega) (by simp)), by (repeat (first | with_reducible assumption | ((with_reducible apply Blk.new); solve | simp | rfl) | with_reducible apply Blk.drew | with_reducible apply Blk.drewN | ((with_reducible apply Blk.far'); solve | omega | simp | (simp; omega)) | with_reducible apply Blk.set_ | with_reducible apply Blk.alloc | ((with_reducible apply Blk.ext'); with_reducible assumption) | ((with_reducible apply Blk.but'); (with_reducible assumption); solve | omega | (simp; omega)))), by (repeat (first | with_reducible exact Ext.refl _ | with_reducible assumption | ((with_reducible apply Src.ext); with_reducible assumption) | with_reducible refine Ext.alloc ?_ _ | with_reducible refine Ext.drew ?_ | with_reducible refine Ext.drewN ?_ _ | ((with_reducible refine Ext.setCell' ?_ ?_ _); solve | omega | simp | (simp; omega)) | (with_reducible refine Ext.trans ?_ (by with_reducible assumption))))⟩
    case round =>
      obtain ⟨k, hk, rfl, HV, hB, hxr⟩ := hrel
      obtain ⟨w5, rfl⟩ : ∃ x, x = wr := ⟨wr, rfl⟩
      have hBl := hB.lt
      have HB := Lib.hid hB
      have y0 : w5.cell? ⟨w.heap.size, 0, none⟩ = some (.slice A n c) := hB.cell 0
      have y1 : w5.cell? ⟨w.heap.size, 1, none⟩ = some (.slice A' m c') := hB.cell 1
      clear hB
      by_cases hlt : k < n
      · have hkr : k < ps.length := by rw [← HN.out]; exact hlt
        obtain ⟨b9, off, hA, hb, d0, d1, d2, d3, d4⟩ := (HS.out.ext hxr).pl hkr
        have hsucc := cdsTo_succ (p := (renB ls a b)) (D := psD ps) (k := k) (by rw [psD_len]; exact hkr)
        rw [psD_at hkr] at hsucc
        have hln := cdsTo_len ((renB ls a b)) (psD ps) k
        obtain ⟨q1, hq1⟩ : ∃ q, exB (pdOf (ps.getD k plD)) a = q := ⟨_, rfl⟩
        obtain ⟨q2, hq2⟩ : ∃ q, exB (pdOf (ps.getD k plD)) b = q := ⟨_, rfl⟩
        have hHH : Hid (∀ z q, (z = a ∧ q = q1) ∨ (z = b ∧ q = q2) → ∀ W, Calls Tryz.prog 52 #[.agg #[.string (tx (ps.getD k plD).1), .int .i64 (ps.getD k plD).2.1, .int .i64 (ps.getD k plD).2.2.1, .int .i64 (ps.getD k plD).2.2.2.1, .slice (ps.getD k plD).2.2.2.2.1 (ps.getD k plD).2.2.2.2.2.2.length (ps.getD k plD).2.2.2.2.2.1], .int .i64 z] W fun e w' => e = .returned (.bool q) ∧ Ext W w') := Lib.hid (fun z q hz W => by
          rcases hz with ⟨rfl, rfl⟩ | ⟨rfl, rfl⟩
          · rw [← hq1]; exact s_l11Exists _ _ W
          · rw [← hq2]; exact s_l11Exists _ _ W)
        have HH := hHH
        clear hHH
        obtain ⟨pa, hpa⟩ : ∃ pa, nmO (pdOf (ps.getD k plD)) ls a = pa := ⟨_, rfl⟩
        obtain ⟨pb, hpb⟩ : ∃ pb, nmO (pdOf (ps.getD k plD)) ls b = pb := ⟨_, rfl⟩
        have HP : Hid (∀ z (s : ByteArray), (z = a ∧ s = tx pa) ∨ (z = b ∧ s = tx pb) → ∀ W, Ext w W → Calls Tryz.prog 77 #[.agg #[.slice A n c, .slice A' m c'], .string (tx (ps.getD k plD).1), .slice A9 r c9, .int .i64 z] W fun e w' => e = .returned (.string s) ∧ Ext W w') := Lib.hid (fun z s hz W hW => by
          rcases hz with ⟨rfl, rfl⟩ | ⟨rfl, rfl⟩
          · rw [← hpa]; have := HPW.out (ps.getD k plD).1 (by rw [HSF.out k hkr]; rfl) z W hW; rwa [HSF.out k hkr] at this
          · rw [← hpb]; have := HPW.out (ps.getD k plD).1 (by rw [HSF.out k hkr]; rfl) z W hW; rwa [HSF.out k hkr] at this)
        have hmov : renB ls a b (pdOf (ps.getD k plD)) = (q1 && (q2 && !((tx pa).toList == (tx pb).toList))) := by
          rw [tx_toL, tx_toL, ← hpa, ← hpb, ← hq1, ← hq2]; rfl
        clear hq1 hq2 hpa hpb
        subst hA
        generalize tx pa = sa at *
        generalize tx pb = sb at *
        cases q1 with
        | false =>
          have HSU : Hid (cdsTo (renB ls a b) (psD ps) (k + 1) = cdsTo (renB ls a b) (psD ps) k) := Lib.hid (by rw [hsucc, hmov]; simp)
          clear hsucc hmov hln
          generalize ps.getD k plD = l at *
          generalize tx l.1 = s0 at *
          generalize l.2.1 = s1 at *
          generalize l.2.2.1 = s2 at *
          generalize l.2.2.2.1 = s3 at *
          generalize l.2.2.2.2.1 = s4 at *
          generalize l.2.2.2.2.2.2.length = s5 at *
          generalize l.2.2.2.2.2.1 = s6 at *
          go_wp2
          (refine wp_region_ext (by kernel_rfl) (by kernel_rfl) ?_; (repeat (go_big_quiet_step ((first | (go_at_call 52; exact Calls_ext (HH.out _ _ (by first | exact .inl ⟨rfl, rfl⟩ | exact .inr ⟨rfl, rfl⟩) _)) | (go_at_call 77; exact Calls_ext (HP.out _ _ (by first | exact .inl ⟨rfl, rfl⟩ | exact .inr ⟨rfl, rfl⟩) _ (hxr.trans (Ext.trans (by (repeat (first | with_reducible exact Ext.refl _ | with_reducible assumption | ((with_reducible apply Src.ext); with_reducible assumption) | with_reducible refine Ext.alloc ?_ _ | with_reducible refine Ext.drew ?_ | with_reducible refine Ext.drewN ?_ _ | ((with_reducible refine Ext.setCell' ?_ ?_ _); solve | omega | simp | (simp; omega)) | (with_reducible refine Ext.trans ?_ (by with_reducible assumption))))) (ExtOf.ext _))))))))); refine wpQuiet_nil ?_; intro wq hxwq; obtain ⟨hcwq, hfwq⟩ := hxwq.rules; have hswq := hxwq.size; (try simp at hswq))
          go_wp2
          have z1 := (show w5.heap.size < wq.heap.size from by omega)
          have z2 := (show w.heap.size < wq.heap.size from by omega)
          go_wp2
          go_roundw
          case rel => exact ⟨k + 1, by omega, by go_num, Lib.hid (by rw [HSU.out]; exact HV.out.ext (by (repeat (first | with_reducible exact Ext.refl _ | with_reducible assumption | ((with_reducible apply Src.ext); with_reducible assumption) | with_reducible refine Ext.alloc ?_ _ | with_reducible refine Ext.drew ?_ | with_reducible refine Ext.drewN ?_ _ | ((with_reducible refine Ext.setCell' ?_ ?_ _); solve | omega | simp | (simp; omega)) | (with_reducible refine Ext.trans ?_ (by with_reducible assumption)))))), HB.out.ext (by (repeat (first | with_reducible exact Ext.refl _ | with_reducible assumption | ((with_reducible apply Src.ext); with_reducible assumption) | with_reducible refine Ext.alloc ?_ _ | with_reducible refine Ext.drew ?_ | with_reducible refine Ext.drewN ?_ _ | ((with_reducible refine Ext.setCell' ?_ ?_ _); solve | omega | simp | (simp; omega)) | (with_reducible refine Ext.trans ?_ (by with_reducible assumption))))), by (repeat (first | with_reducible exact Ext.refl _ | with_reducible assumption | ((with_reducible apply Src.ext); with_reducible assumption) | with_reducible refine Ext.alloc ?_ _ | with_reducible refine Ext.drew ?_ | with_reducible refine Ext.drewN ?_ _ | ((with_reducible refine Ext.setCell' ?_ ?_ _); solve | omega | simp | (simp; omega)) | (with_reducible refine Ext.trans ?_ (by with_reducible assumption))))⟩
          case measure => simp [intOf]; omega
        | true =>
          cases q2 with
          | false =>
            have HSU : Hid (cdsTo (renB ls a b) (psD ps) (k + 1) = cdsTo (renB ls a b) (psD ps) k) := Lib.hid (by rw [hsucc, hmov]; simp)
            clear hsucc hmov hln
            generalize ps.getD k plD = l at *
            generalize tx l.1 = s0 at *
            generalize l.2.1 = s1 at *
            generalize l.2.2.1 = s2 at *
            generalize l.2.2.2.1 = s3 at *
            generalize l.2.2.2.2.1 = s4 at *
            generalize l.2.2.2.2.2.2.length = s5 at *
            generalize l.2.2.2.2.2.1 = s6 at *
            go_wp2
            (refine wp_region_ext (by kernel_rfl) (by kernel_rfl) ?_; (repeat (go_big_quiet_step ((first | (go_at_call 52; exact Calls_ext (HH.out _ _ (by first | exact .inl ⟨rfl, rfl⟩ | exact .inr ⟨rfl, rfl⟩) _)) | (go_at_call 77; exact Calls_ext (HP.out _ _ (by first | exact .inl ⟨rfl, rfl⟩ | exact .inr ⟨rfl, rfl⟩) _ (hxr.trans (Ext.trans (by (repeat (first | with_reducible exact Ext.refl _ | with_reducible assumption | ((with_reducible apply Src.ext); with_reducible assumption) | with_reducible refine Ext.alloc ?_ _ | with_reducible refine Ext.drew ?_ | with_reducible refine Ext.drewN ?_ _ | ((with_reducible refine Ext.setCell' ?_ ?_ _); solve | omega | simp | (simp; omega)) | (with_reducible refine Ext.trans ?_ (by with_reducible assumption))))) (ExtOf.ext _))))))))); refine wpQuiet_nil ?_; intro wq hxwq; obtain ⟨hcwq, hfwq⟩ := hxwq.rules; have hswq := hxwq.size; (try simp at hswq))
            go_wp2
            have z1 := (show w5.heap.size < wq.heap.size from by omega)
            have z2 := (show w.heap.size < wq.heap.size from by omega)
            go_wp2
            go_roundw
            case rel => exact ⟨k + 1, by omega, by go_num, Lib.hid (by rw [HSU.out]; exact HV.out.ext (by (repeat (first | with_reducible exact Ext.refl _ | with_reducible assumption | ((with_reducible apply Src.ext); with_reducible assumption) | with_reducible refine Ext.alloc ?_ _ | with_reducible refine Ext.drew ?_ | with_reducible refine Ext.drewN ?_ _ | ((with_reducible refine Ext.setCell' ?_ ?_ _); solve | omega | simp | (simp; omega)) | (with_reducible refine Ext.trans ?_ (by with_reducible assumption)))))), HB.out.ext (by (repeat (first | with_reducible exact Ext.refl _ | with_reducible assumption | ((with_reducible apply Src.ext); with_reducible assumption) | with_reducible refine Ext.alloc ?_ _ | with_reducible refine Ext.drew ?_ | with_reducible refine Ext.drewN ?_ _ | ((with_reducible refine Ext.setCell' ?_ ?_ _); solve | omega | simp | (simp; omega)) | (with_reducible refine Ext.trans ?_ (by with_reducible assumption))))), by (repeat (first | with_reducible exact Ext.refl _ | with_reducible assumption | ((with_reducible apply Src.ext); with_reducible assumption) | with_reducible refine Ext.alloc ?_ _ | with_reducible refine Ext.drew ?_ | with_reducible refine Ext.drewN ?_ _ | ((with_reducible refine Ext.setCell' ?_ ?_ _); solve | omega | simp | (simp; omega)) | (with_reducible refine Ext.trans ?_ (by with_reducible assumption))))⟩
            case measure => simp [intOf]; omega
          | true =>
            cases he : (sa.toList == sb.toList) with
            | true =>
              rw [he] at hmov
              have hne : (!(sa.toList == sb.toList)) = false := by rw [he]; rfl
              have HSU : Hid (cdsTo (renB ls a b) (psD ps) (k + 1) = cdsTo (renB ls a b) (psD ps) k) := Lib.hid (by rw [hsucc, hmov]; simp)
              clear hsucc hmov hln
              generalize ps.getD k plD = l at *
              generalize tx l.1 = s0 at *
              generalize l.2.1 = s1 at *
              generalize l.2.2.1 = s2 at *
              generalize l.2.2.2.1 = s3 at *
              generalize l.2.2.2.2.1 = s4 at *
              generalize l.2.2.2.2.2.2.length = s5 at *
              generalize l.2.2.2.2.2.1 = s6 at *
              go_wp2
              (refine wp_region_ext (by kernel_rfl) (by kernel_rfl) ?_; (repeat (go_big_quiet_step ((first | (go_at_call 52; exact Calls_ext (HH.out _ _ (by first | exact .inl ⟨rfl, rfl⟩ | exact .inr ⟨rfl, rfl⟩) _)) | (go_at_call 77; exact Calls_ext (HP.out _ _ (by first | exact .inl ⟨rfl, rfl⟩ | exact .inr ⟨rfl, rfl⟩) _ (hxr.trans (Ext.trans (by (repeat (first | with_reducible exact Ext.refl _ | with_reducible assumption | ((with_reducible apply Src.ext); with_reducible assumption) | with_reducible refine Ext.alloc ?_ _ | with_reducible refine Ext.drew ?_ | with_reducible refine Ext.drewN ?_ _ | ((with_reducible refine Ext.setCell' ?_ ?_ _); solve | omega | simp | (simp; omega)) | (with_reducible refine Ext.trans ?_ (by with_reducible assumption))))) (ExtOf.ext _))))))))); refine wpQuiet_nil ?_; intro wq hxwq; obtain ⟨hcwq, hfwq⟩ := hxwq.rules; have hswq := hxwq.size; (try simp at hswq))
              go_wp2
              have z1 := (show w5.heap.size < wq.heap.size from by omega)
              have z2 := (show w.heap.size < wq.heap.size from by omega)
              go_wp2
              go_roundw
              case rel => exact ⟨k + 1, by omega, by go_num, Lib.hid (by rw [HSU.out]; exact HV.out.ext (by (repeat (first | with_reducible exact Ext.refl _ | with_reducible assumption | ((with_reducible apply Src.ext); with_reducible assumption) | with_reducible refine Ext.alloc ?_ _ | with_reducible refine Ext.drew ?_ | with_reducible refine Ext.drewN ?_ _ | ((with_reducible refine Ext.setCell' ?_ ?_ _); solve | omega | simp | (simp; omega)) | (with_reducible refine Ext.trans ?_ (by with_reducible assumption)))))), HB.out.ext (by (repeat (first | with_reducible exact Ext.refl _ | with_reducible assumption | ((with_reducible apply Src.ext); with_reducible assumption) | with_reducible refine Ext.alloc ?_ _ | with_reducible refine Ext.drew ?_ | with_reducible refine Ext.drewN ?_ _ | ((with_reducible refine Ext.setCell' ?_ ?_ _); solve | omega | simp | (simp; omega)) | (with_reducible refine Ext.trans ?_ (by with_reducible assumption))))), by (repeat (first | with_reducible exact Ext.refl _ | with_reducible assumption | ((with_reducible apply Src.ext); with_reducible assumption) | with_reducible refine Ext.alloc ?_ _ | with_reducible refine Ext.drew ?_ | with_reducible refine Ext.drewN ?_ _ | ((with_reducible refine Ext.setCell' ?_ ?_ _); solve | omega | simp | (simp; omega)) | (with_reducible refine Ext.trans ?_ (by with_reducible assumption))))⟩
              case measure => simp [intOf]; omega
            | false =>
              rw [he] at hmov
              have hne : (!(sa.toList == sb.toList)) = true := by rw [he]; rfl
              have HSU : Hid (cdsTo (renB ls a b) (psD ps) (k + 1) = cdsTo (renB ls a b) (psD ps) k ++ [(ps.getD k plD).1]) := Lib.hid (by rw [hsucc, hmov]; simp; rfl)
              have HBL := Lib.hid (fun (W : World) (g : Nat) (hB : Blk W g 9 #[.string (tx (ps.getD k plD).1)]) => blk_s1c hB)
              have HLN : Hid ((cdsTo (renB ls a b) (psD ps) k).length ≤ 1000) := Lib.hid (by omega)
              clear hsucc hmov hln
              generalize ps.getD k plD = l at *
              generalize tx l.1 = s0 at *
              generalize l.2.1 = s1 at *
              generalize l.2.2.1 = s2 at *
              generalize l.2.2.2.1 = s3 at *
              generalize l.2.2.2.2.1 = s4 at *
              generalize l.2.2.2.2.2.2.length = s5 at *
              generalize l.2.2.2.2.2.1 = s6 at *
              have hsr := hxr.size
              go_wp2
              (refine wp_region_ext (by kernel_rfl) (by kernel_rfl) ?_; (repeat (go_big_quiet_step ((first | (go_at_call 52; exact Calls_ext (HH.out _ _ (by first | exact .inl ⟨rfl, rfl⟩ | exact .inr ⟨rfl, rfl⟩) _)) | (go_at_call 77; exact Calls_ext (HP.out _ _ (by first | exact .inl ⟨rfl, rfl⟩ | exact .inr ⟨rfl, rfl⟩) _ (hxr.trans (Ext.trans (by (repeat (first | with_reducible exact Ext.refl _ | with_reducible assumption | ((with_reducible apply Src.ext); with_reducible assumption) | with_reducible refine Ext.alloc ?_ _ | with_reducible refine Ext.drew ?_ | with_reducible refine Ext.drewN ?_ _ | ((with_reducible refine Ext.setCell' ?_ ?_ _); solve | omega | simp | (simp; omega)) | (with_reducible refine Ext.trans ?_ (by with_reducible assumption))))) (ExtOf.ext _))))))))); refine wpQuiet_nil ?_; intro wq hxwq; obtain ⟨hcwq, hfwq⟩ := hxwq.rules; have hswq := hxwq.size; (try simp at hswq))
              have z1 := (show w5.heap.size < wq.heap.size from by omega)
              have z2 := (show w.heap.size < wq.heap.size from by omega)
              have HV1 : Hid (OwS wq (w.heap.size + 1) _ (cdsTo (renB ls a b) (psD ps) k)) := Lib.hid (HV.out.ext (by (repeat (first | with_reducible exact Ext.refl _ | with_reducible assumption | ((with_reducible apply Src.ext); with_reducible assumption) | with_reducible refine Ext.alloc ?_ _ | with_reducible refine Ext.drew ?_ | with_reducible refine Ext.drewN ?_ _ | ((with_reducible refine Ext.setCell' ?_ ?_ _); solve | omega | simp | (simp; omega)) | (with_reducible refine Ext.trans ?_ (by with_reducible assumption))))))
              go_wp2_with (at_builtin; refine wpList_append_sl elS len_encS one_encS rfl _ _ rfl rfl (HV1.out.ext (by (repeat (first | with_reducible exact Ext.refl _ | with_reducible assumption | ((with_reducible apply Src.ext); with_reducible assumption) | with_reducible refine Ext.alloc ?_ _ | with_reducible refine Ext.drew ?_ | with_reducible refine Ext.drewN ?_ _ | ((with_reducible refine Ext.setCell' ?_ ?_ _); solve | omega | simp | (simp; omega)) | (with_reducible refine Ext.trans ?_ (by with_reducible assumption)))))) (xs := [l.1]) rfl (HBL.out _ _ (by (repeat (first | with_reducible assumption | ((with_reducible apply Blk.new); solve | simp | rfl) | with_reducible apply Blk.drew | with_reducible apply Blk.drewN | ((with_reducible apply Blk.far'); solve | omega | simp | (simp; omega)) | with_reducible apply Blk.set_ | with_reducible apply Blk.alloc | ((with_reducible apply Blk.ext'); with_reducible assumption) | ((with_reducible apply Blk.but'); (with_reducible assumption); solve | omega | (simp; omega)))))) (by have := HLN.out; simp; unfold maxLen; omega) (by have := HLN.out; simp; omega) (by first | omega | (simp; omega)) ?_)
              intro v' w6 hown hgrow _
              have HV2 := Lib.hid hown
              have hx6 : Ext w w6 := by
                refine Ext.grown ?_ hgrow (fun q hq => Nat.le_of_succ_le (HV.out.row q hq).1)
                (repeat (first | with_reducible exact Ext.refl _ | with_reducible assumption | ((with_reducible apply Src.ext); with_reducible assumption) | with_reducible refine Ext.alloc ?_ _ | with_reducible refine Ext.drew ?_ | with_reducible refine Ext.drewN ?_ _ | ((with_reducible refine Ext.setCell' ?_ ?_ _); solve | omega | simp | (simp; omega)) | (with_reducible refine Ext.trans ?_ (by with_reducible assumption))))
              have HB6 := Lib.hid (blk_keptE hgrow (HB.out.ext (by (repeat (first | with_reducible exact Ext.refl _ | with_reducible assumption | ((with_reducible apply Src.ext); with_reducible assumption) | with_reducible refine Ext.alloc ?_ _ | with_reducible refine Ext.drew ?_ | with_reducible refine Ext.drewN ?_ _ | ((with_reducible refine Ext.setCell' ?_ ?_ _); solve | omega | simp | (simp; omega)) | (with_reducible refine Ext.trans ?_ (by with_reducible assumption)))))) (fun e => by have := (HV.out.row _ e.symm).1; omega))
              clear hown hgrow
              go_wp2
              go_roundw
              case rel => exact ⟨k + 1, by omega, by go_num, Lib.hid (by rw [HSU.out]; exact HV2.out), HB6.out, hx6⟩
              case measure => simp [intOf]; omega
      · obtain rfl : k = n := by omega
        have HO : Hid (OwS w5 (w.heap.size + 1) _ (renR (psD ps) L ls a b)) := Lib.hid (by rw [← HFIN.out]; exact HV.out)
        go_wp2
        go_ret2
        exact ⟨_, rfl, (HO.out.ext (by (repeat (first | with_reducible exact Ext.refl _ | with_reducible assumption | ((with_reducible apply Src.ext); with_reducible assumption) | with_reducible refine Ext.alloc ?_ _ | with_reducible refine Ext.drew ?_ | with_reducible refine Ext.drewN ?_ _ | ((with_reducible refine Ext.setCell' ?_ ?_ _); solve | omega | simp | (simp; omega)) | (with_reducible refine Ext.trans ?_ (by with_reducible assumption)))))).less (Nat.le_succ _), by (repeat (first | with_reducible exact Ext.refl _ | with_reducible assumption | ((with_reducible apply Src.ext); with_reducible assumption) | with_reducible refine Ext.alloc ?_ _ | with_reducible refine Ext.drew ?_ | with_reducible refine Ext.drewN ?_ _ | ((with_reducible refine Ext.setCell' ?_ ?_ _); solve | omega | simp | (simp; omega)) | (with_reducible refine Ext.trans ?_ (by with_reducible assumption))))⟩
  · have hR : renR (psD ps) L ls a b = [] := by unfold renR; rw [if_neg hz]
    rw [hR]
    cases hlg : lgB ls with
    | false =>
      rw [hlg] at HG
      rw [wyC_no rfl]
      clear h hR HPA h9 hr hs HC hz
      go_enter Tryz.func29, Tryz.ntmps29
      go_wp2_with fail
      refine (HG.out _ (by (repeat (first | with_reducible exact Ext.refl _ | with_reducible assumption | ((with_reducible apply Src.ext); with_reducible assumption) | with_reducible refine Ext.alloc ?_ _ | with_reducible refine Ext.drew ?_ | with_reducible refine Ext.drewN ?_ _ | ((with_reducible refine Ext.setCell' ?_ ?_ _); solve | omega | simp | (simp; omega)) | (with_reducible refine Ext.trans ?_ (by with_reducible assumption)))))).mono ?_
      rintro e w1 ⟨rfl, hx1⟩
      go_wp2
      go_ret2
      exact ⟨_, rfl, Own.nil _ _, by (repeat (first | with_reducible exact Ext.refl _ | with_reducible assumption | ((with_reducible apply Src.ext); with_reducible assumption) | with_reducible refine Ext.alloc ?_ _ | with_reducible refine Ext.drew ?_ | with_reducible refine Ext.drewN ?_ _ | ((with_reducible refine Ext.setCell' ?_ ?_ _); solve | omega | simp | (simp; omega)) | (with_reducible refine Ext.trans ?_ (by with_reducible assumption))))⟩
    | true =>
      rw [hlg] at HG hz
      generalize wyC (psD ps) L true [a, b] = cd at *
      have hcd : (cd != 0) = true := by simpa using hz
      clear h hR HPA h9 hr hs
      go_enter Tryz.func29, Tryz.ntmps29
      go_wp2_with fail
      refine (HG.out _ (by (repeat (first | with_reducible exact Ext.refl _ | with_reducible assumption | ((with_reducible apply Src.ext); with_reducible assumption) | with_reducible refine Ext.alloc ?_ _ | with_reducible refine Ext.drew ?_ | with_reducible refine Ext.drewN ?_ _ | ((with_reducible refine Ext.setCell' ?_ ?_ _); solve | omega | simp | (simp; omega)) | (with_reducible refine Ext.trans ?_ (by with_reducible assumption)))))).mono ?_
      rintro e w0 ⟨rfl, hx0⟩
      obtain ⟨hc0, hf0⟩ := hx0.rules
      have hs0 := hx0.size
      (try simp at hs0)
      have := (show w.heap.size < w0.heap.size from by omega)
      go_wp2_with fail
      refine (HC.out _ (by (repeat (first | with_reducible exact Ext.refl _ | with_reducible assumption | ((with_reducible apply Src.ext); with_reducible assumption) | with_reducible refine Ext.alloc ?_ _ | with_reducible refine Ext.drew ?_ | with_reducible refine Ext.drewN ?_ _ | ((with_reducible refine Ext.setCell' ?_ ?_ _); solve | omega | simp | (simp; omega)) | (with_reducible refine Ext.trans ?_ (by with_reducible assumption)))))).mono ?_
      rintro e w1 ⟨rfl, hx1⟩
      go_wp2
      go_ret2
      exact ⟨_, rfl, Own.nil _ _, by (repeat (first | with_reducible exact Ext.refl _ | with_reducible assumption | ((with_reducible apply Src.ext); with_reducible assumption) | with_reducible refine Ext.alloc ?_ _ | with_reducible refine Ext.drew ?_ | with_reducible refine Ext.drewN ?_ _ | ((with_reducible refine Ext.setCell' ?_ ?_ _); solve | omega | simp | (simp; omega)) | (with_reducible refine Ext.trans ?_ (by with_reducible assumption))))⟩
end

end Go.Proofs.YtapfokfbdmcokaaGreatDoor
