/- Turns, as the specification tells them. -/
import Derived.Test.YtapfokfbdmcokaaGreatDoorYQA
import Derived.Test.YtapfokfbdmcokaaGreatDoorYPB
import Derived.Deep.RegionHeld3
import Derived.Deep.DeepCutAuto
import Derived.RegionTactic
import Derived.BigRegion
import Derived.WalkLawsBesides
import Derived.WalkSpells
import Derived.Lib.MinMax
import Derived.Outline
namespace Go.Proofs.YtapfokfbdmcokaaGreatDoor
open Go.RowKit
attribute [local go_sem] ExtOf.cell ExtOf.frozen


section
variable {w : World} {A A' : Option Addr} {n c m c' : Nat} {ps : List Pl} {L : List Lk}
set_option maxRecDepth 20000 in
set_option maxHeartbeats 25600000 in
theorem s_TurnsOfW (x : List UInt8) (h : WIn w A A' n c m c' ps L) (hx : x.length ≤ 1048576) :
    Calls Tryz.prog 32 #[.agg #[.slice A n c, .slice A' m c'], .string (tx x)] w fun e w' => ∃ v, e = .returned (.tuple #[v, .int .i64 (trC (psD ps) L x)]) ∧ OwI w' w.heap.size v (trR (psD ps) L x) ∧ Ext w w' := by
  have HC := Lib.hid (fun W (hW : Ext w W) => s_l14Code x 0 (h.ext hW) hx)
  by_cases hp : plC (psD ps) L x true 0 = 0
  · obtain ⟨hw, _, _, _, hs⟩ := plC_zero hp
    rw [hp] at HC
    have HT1 : Hid (40 < (trL ((fndP (psD ps) x).getD pdD) L).length → trC (psD ps) L x = 3 ∧ trR (psD ps) L x = []) := Lib.hid (fun h40 => by
      have e : trC (psD ps) L x = 3 := by unfold trC; rw [if_pos hp, if_pos h40]
      exact ⟨e, by unfold trR; rw [if_neg (by omega)]⟩)
    have HT2 : Hid (¬ 40 < (trL ((fndP (psD ps) x).getD pdD) L).length → trC (psD ps) L x = 0 ∧ trR (psD ps) L x = trL ((fndP (psD ps) x).getD pdD) L) := Lib.hid (fun h40 => by
      have e : trC (psD ps) L x = 0 := by unfold trC; rw [if_pos hp, if_neg h40]
      exact ⟨e, by unfold trR; rw [if_pos e]⟩)
    clear hp
    obtain ⟨k, hk1, hk2, hk3, hk4⟩ := fnd_some hs
    rw [psD_len] at hk2
    rw [psD_at hk2] at hk3
    have hln : n ≤ 1048576 := by rw [h.hn]; exact h.hl
    have HF := Lib.hid (fun W (hW : Ext w W) => s_l11Find A n c ps x W (h.sq.ext hW) h.hn hln)
    rw [hk1] at HF
    have hgd : (fndP (psD ps) x).getD pdD = pdOf (ps.getD k plD) := by rw [hk3]; rfl
    have HI0 : IsP w (pdOf (ps.getD k plD)) (.agg #[.string (tx (ps.getD k plD).1), .int .i64 (ps.getD k plD).2.1, .int .i64 (ps.getD k plD).2.2.1, .int .i64 (ps.getD k plD).2.2.2.1, .slice (ps.getD k plD).2.2.2.2.1 (ps.getD k plD).2.2.2.2.2.2.length (ps.getD k plD).2.2.2.2.2.1]) := isP_at h hw hk2
    obtain ⟨bb, off, hA, hb, d0, d1, d2, d3, d4⟩ := h.sq.pl hk2
    subst hA
    have hkn : k < n := by rw [h.hn]; exact hk2
    have hk0 : (0 : Int) ≤ (k : Int) := by omega
    have hlm : m ≤ 1048576 := by rw [h.hm]; exact h.hl'
    rw [hgd] at HT1 HT2
    have HSK := Lib.hid h.sk
    have HHM := Lib.hid h.hm
    clear hk1 hk3 hk4 hgd hk2
    generalize pdOf (ps.getD k plD) = d at *
    generalize tx (ps.getD k plD).1 = s0 at *
    generalize (ps.getD k plD).2.1 = s1 at *
    generalize (ps.getD k plD).2.2.1 = s2 at *
    generalize (ps.getD k plD).2.2.2.1 = s3 at *
    generalize (ps.getD k plD).2.2.2.2.1 = s4 at *
    generalize (ps.getD k plD).2.2.2.2.2.2.length = s5 at *
    generalize (ps.getD k plD).2.2.2.2.2.1 = s6 at *
    have HX := Lib.hid (fun z W => HI0.ex z W)
    have HKR : Hid (∀ W, Ext w W → W.cell? ⟨bb, off + k * 5, none⟩ = some (.string s0) ∧ W.cell? ⟨bb, off + k * 5 + 1, none⟩ = some (.int .i64 s1) ∧ W.cell? ⟨bb, off + k * 5 + 2, none⟩ = some (.int .i64 s2) ∧ W.cell? ⟨bb, off + k * 5 + 3, none⟩ = some (.int .i64 s3) ∧ W.cell? ⟨bb, off + k * 5 + 4, none⟩ = some (.slice s4 s5 s6)) := Lib.hid (fun W hW => ⟨(hW.cell _ _ hb).trans d0, (hW.cell _ _ hb).trans d1, (hW.cell _ _ hb).trans d2, (hW.cell _ _ hb).trans d3, (hW.cell _ _ hb).trans d4⟩)
    have HI := Lib.hid HI0
    obtain ⟨e2, e3, e9⟩ := HI0.yrs
    have HE2 := Lib.hid e2
    have HE3 := Lib.hid e3
    clear d0 d1 d2 d3 d4 HI0 e9 e2 e3
    have HTN := Lib.hid (fun W (hW : Ext w W) z h1 h2 => (HI.out.ext hW).turn (A := some ⟨bb, off, none⟩) (n := n) (c := c) (c' := c') (HSK.out.ext hW) HHM.out hlm z h1 h2)
    generalize trC (psD ps) L x = rC at *
    generalize trR (psD ps) L x = rR at *
    generalize tx x = sx at *
    clear h hw hs hx
    go_enter Tryz.func32, Tryz.ntmps32
    go_wp2_with fail
    refine (HC.out _ (by (repeat (first | with_reducible exact Ext.refl _ | with_reducible assumption | ((with_reducible apply Src.ext); with_reducible assumption) | with_reducible refine Ext.alloc ?_ _ | with_reducible refine Ext.drew ?_ | with_reducible refine Ext.drewN ?_ _ | ((with_reducible refine Ext.setCell' ?_ ?_ _); solve | omega | simp | (simp; omega)) | (with_reducible refine Ext.trans ?_ (by with_reducible assumption)))))).mono ?_
    rintro e w1 ⟨rfl, hx1⟩
    obtain ⟨hc1, hf1⟩ := hx1.rules
    have hs1 := hx1.size
    (try simp at hs1)
    have := (show w.heap.size < w1.heap.size from by omega)
    have HBX : Hid (Blk w1 w.heap.size 33 #[.slice (some ⟨bb, off, none⟩) n c, .slice A' m c']) := Lib.hid (Blk.eq (by (repeat (first | with_reducible assumption | ((with_reducible apply Blk.new); solve | simp | rfl) | with_reducible apply Blk.drew | with_reducible apply Blk.drewN | ((with_reducible apply Blk.far'); solve | omega | simp | (simp; omega)) | with_reducible apply Blk.set_ | with_reducible apply Blk.alloc | ((with_reducible apply Blk.ext'); with_reducible assumption) | ((with_reducible apply Blk.but'); (with_reducible assumption); solve | omega | (simp; omega))))) (by rfl))
    have HX1 : Hid (Ext w w1) := Lib.hid (by (repeat (first | with_reducible exact Ext.refl _ | with_reducible assumption | ((with_reducible apply Src.ext); with_reducible assumption) | with_reducible refine Ext.alloc ?_ _ | with_reducible refine Ext.drew ?_ | with_reducible refine Ext.drewN ?_ _ | ((with_reducible refine Ext.setCell' ?_ ?_ _); solve | omega | simp | (simp; omega)) | (with_reducible refine Ext.trans ?_ (by with_reducible assumption)))))
    clear hc1 hf1
    have HKC : Hid (∀ W, Ext w1 W → W.cell? ⟨w.heap.size, 0, none⟩ = some (.slice (some ⟨bb, off, none⟩) n c) ∧ W.cell? ⟨w.heap.size, 1, none⟩ = some (.slice A' m c') ∧ W.cell? ⟨bb, off + k * 5, none⟩ = some (.string s0) ∧ W.cell? ⟨bb, off + k * 5 + 1, none⟩ = some (.int .i64 s1) ∧ W.cell? ⟨bb, off + k * 5 + 2, none⟩ = some (.int .i64 s2) ∧ W.cell? ⟨bb, off + k * 5 + 3, none⟩ = some (.int .i64 s3) ∧ W.cell? ⟨bb, off + k * 5 + 4, none⟩ = some (.slice s4 s5 s6)) := Lib.hid (fun W hW => ⟨(HBX.out.ext hW).cell 0, (HBX.out.ext hW).cell 1, HKR.out W (HX1.out.trans hW)⟩)
    have hX1 := HX1.out
    go_upto_region 4 with (fail)
    go_cut [7] (fun p wx => ∃ b9 : Nat, p = .pointer (some ⟨b9, 0, none⟩) ∧ Blk wx b9 78 #[.string s0, .int .i64 s1, .int .i64 s2, .int .i64 s3, .slice s4 s5 s6] ∧ Ext w1 wx)
    case first =>
      obtain ⟨k1, k2, k3, k4, k5, k6, k7⟩ := HKC.out w1 (Ext.refl _)
      go_region_held3 (fun w' => w'.cell? ⟨w.heap.size, 0, none⟩ = some (.slice (some ⟨bb, off, none⟩) n c) ∧ w'.cell? ⟨w.heap.size, 1, none⟩ = some (.slice A' m c') ∧ w'.cell? ⟨bb, off + k * 5, none⟩ = some (.string s0) ∧ w'.cell? ⟨bb, off + k * 5 + 1, none⟩ = some (.int .i64 s1) ∧ w'.cell? ⟨bb, off + k * 5 + 2, none⟩ = some (.int .i64 s2) ∧ w'.cell? ⟨bb, off + k * 5 + 3, none⟩ = some (.int .i64 s3) ∧ w'.cell? ⟨bb, off + k * 5 + 4, none⟩ = some (.slice s4 s5 s6)) (first | exact HKC.out _ (by (repeat (first | with_reducible exact Ext.refl _ | with_reducible assumption | ((with_reducible apply Src.ext); with_reducible assumption) | with_reducible refine Ext.alloc ?_ _ | with_reducible refine Ext.drew ?_ | with_reducible refine Ext.drewN ?_ _ | ((with_reducible refine Ext.setCell' ?_ ?_ _); solve | omega | simp | (simp; omega)) | (with_reducible refine Ext.trans ?_ (by with_reducible assumption))))) | go_keep) ((go_at_call 65; refine (HF.out _ (by (repeat (first | with_reducible exact Ext.refl _ | with_reducible assumption | ((with_reducible apply Src.ext); with_reducible assumption) | with_reducible refine Ext.alloc ?_ _ | with_reducible refine Ext.drew ?_ | with_reducible refine Ext.drewN ?_ _ | ((with_reducible refine Ext.setCell' ?_ ?_ _); solve | omega | simp | (simp; omega)) | (with_reducible refine Ext.trans ?_ (by with_reducible assumption)))))).mono ?_; rintro e w7 ⟨rfl, rfl⟩))
      all_goals (go_wp2_with fail; go_meet; exact ⟨_, rfl, Blk.eq (by (repeat (first | with_reducible assumption | ((with_reducible apply Blk.new); solve | simp | rfl) | with_reducible apply Blk.drew | with_reducible apply Blk.drewN | ((with_reducible apply Blk.far'); solve | omega | simp | (simp; omega)) | with_reducible apply Blk.set_ | with_reducible apply Blk.alloc | ((with_reducible apply Blk.ext'); with_reducible assumption) | ((with_reducible apply Blk.but'); (with_reducible assumption); solve | omega | (simp; omega))))) (by rfl), by (repeat (first | with_reducible exact Ext.refl _ | with_reducible assumption | ((with_reducible apply Src.ext); with_reducible assumption) | with_reducible refine Ext.alloc ?_ _ | with_reducible refine Ext.drew ?_ | with_reducible refine Ext.drewN ?_ _ | ((with_reducible refine Ext.setCell' ?_ ?_ _); solve | omega | simp | (simp; omega)) | (with_reducible refine Ext.trans ?_ (by with_reducible assumption))))⟩)
    case rest =>
    obtain ⟨b9, rfl, hB9, hxc⟩ := hcut
    obtain ⟨w2, rfl⟩ : ∃ x, x = wc := ⟨wc, rfl⟩
    have hB3 : Blk w2 w.heap.size 33 #[.slice (some ⟨bb, off, none⟩) n c, .slice A' m c'] := HBX.out.ext (by (repeat (first | with_reducible exact Ext.refl _ | with_reducible assumption | ((with_reducible apply Src.ext); with_reducible assumption) | with_reducible refine Ext.alloc ?_ _ | with_reducible refine Ext.drew ?_ | with_reducible refine Ext.drewN ?_ _ | ((with_reducible refine Ext.setCell' ?_ ?_ _); solve | omega | simp | (simp; omega)) | (with_reducible refine Ext.trans ?_ (by with_reducible assumption)))))
    have HX2 : Hid (Ext w w2) := Lib.hid (HX1.out.trans (by clear hB3; (repeat (first | with_reducible exact Ext.refl _ | with_reducible assumption | ((with_reducible apply Src.ext); with_reducible assumption) | with_reducible refine Ext.alloc ?_ _ | with_reducible refine Ext.drew ?_ | with_reducible refine Ext.drewN ?_ _ | ((with_reducible refine Ext.setCell' ?_ ?_ _); solve | omega | simp | (simp; omega)) | (with_reducible refine Ext.trans ?_ (by with_reducible assumption))))))
    have z3 := hB3.lt
    have z9 := hB9.lt
    clear hxc hX1 hx1 hs1
    go_wp2
    go_loopw [8, 9] (fun v i wr => ∃ k : Nat, k ≤ 6001 ∧ i = .int .i64 ((k : Int) + -3000) ∧ Hid (OwI wr w2.heap.size v (trTo d L k)) ∧ Blk wr w.heap.size 33 #[.slice (some ⟨bb, off, none⟩) n c, .slice A' m c'] ∧ Blk wr b9 78 #[.string s0, .int .i64 s1, .int .i64 s2, .int .i64 s3, .slice s4 s5 s6] ∧ Ext w2 wr) (fun _ i _ => 6001 - (intOf i + 3000).toNat)
    case atStart => exact ⟨0, by omega, rfl, Lib.hid (Own.of_blk (g := w2.heap.size) (cs := #[]) (xs := []) (by (repeat (first | with_reducible assumption | ((with_reducible apply Blk.new); solve | simp | rfl) | with_reducible apply Blk.drew | with_reducible apply Blk.drewN | ((with_reducible apply Blk.far'); solve | omega | simp | (simp; omega)) | with_reducible apply Blk.set_ | with_reducible apply Blk.alloc | ((with_reducible apply Blk.ext'); with_reducible assumption) | ((with_reducible apply Blk.but'); (with_reducible assumption); solve | omega | (simp; omega))))) len_encI rfl (by omega) (by simp)), by (repeat (first | with_reducible assumption | ((with_reducible apply Blk.new); solve | simp | rfl) | with_reducible apply Blk.drew | with_reducible apply Blk.drewN | ((with_reducible apply Blk.far'); solve | omega | simp | (simp; omega)) | with_reducible apply Blk.set_ | with_reducible apply Blk.alloc | ((with_reducible apply Blk.ext'); with_reducible assumption) | ((with_reducible apply Blk.but'); (with_reducible assumption); solve | omega | (simp; omega)))), by (repeat (first | with_reducible assumption | ((with_reducible apply Blk.new); solve | simp | rfl) | with_reducible apply Blk.drew | with_reducible apply Blk.drewN | ((with_reducible apply Blk.far'); solve | omega | simp | (simp; omega)) | with_reducible apply Blk.set_ | with_reducible apply Blk.alloc | ((with_reducible apply Blk.ext'); with_reducible assumption) | ((with_reducible apply Blk.but'); (with_reducible assumption); solve | omega | (simp; omega)))), by (repeat (first | with_reducible exact Ext.refl _ | with_reducible assumption | ((with_reducible apply Src.ext); with_reducible assumption) | with_reducible refine Ext.alloc ?_ _ | with_reducible refine Ext.drew ?_ | with_reducible refine Ext.drewN ?_ _ | ((with_reducible refine Ext.setCell' ?_ ?_ _); solve | omega | simp | (simp; omega)) | (with_reducible refine Ext.trans ?_ (by with_reducible assumption))))⟩
    case round =>
      clear hB3 hB9
      obtain ⟨k, hk, rfl, HV, hBW, hBP, hxr⟩ := hrel
      obtain ⟨w5, rfl⟩ : ∃ x, x = wr := ⟨wr, rfl⟩
      have t0 := hBW.cell 0
      have t1 := hBW.cell 1
      simp only [List.getElem?_toArray, List.getElem?_cons_zero, List.getElem?_cons_succ] at t0 t1
      have p0 : w5.cell? ⟨b9, 0, none⟩ = some (.string s0) := hBP.cell 0
      have p1 : w5.cell? ⟨b9, 1, none⟩ = some (.int .i64 s1) := hBP.cell 1
      have p2 : w5.cell? ⟨b9, 2, none⟩ = some (.int .i64 s2) := hBP.cell 2
      have p3 : w5.cell? ⟨b9, 3, none⟩ = some (.int .i64 s3) := hBP.cell 3
      have p4 : w5.cell? ⟨b9, 4, none⟩ = some (.slice s4 s5 s6) := hBP.cell 4
      have zw := hBW.lt
      have zp := hBP.lt
      have HBW := Lib.hid hBW
      have HBP := Lib.hid hBP
      clear hBW hBP
      by_cases hlt : (k : Int) + -3000 ≤ 3000
      · have hwr : IntKind.i64.wrap ((k : Int) + -3000 + 1) = ((k + 1 : Nat) : Int) + -3000 := by rw [IntWalk.i64_in _ (by omega)]; omega
        have hsucc := trTo_succ d L k
        have hln := trTo_len d L k
        have HCALL := Lib.hid (fun W (hW : Ext w5 W) => HTN.out W (HX2.out.trans (hxr.trans hW)) ((k : Int) + -3000) (by omega) (by omega))
        cases hq : sdB d L ((k : Int) + -3000) with
        | true =>
          rw [hq] at HCALL hsucc
          have HSU : Hid (trTo d L (k + 1) = trTo d L k) := Lib.hid (by rw [hsucc]; simp)
          clear hsucc hq hln
          go_wp2_with fail
          refine (HCALL.out _ (by (repeat (first | with_reducible exact Ext.refl _ | with_reducible assumption | ((with_reducible apply Src.ext); with_reducible assumption) | with_reducible refine Ext.alloc ?_ _ | with_reducible refine Ext.drew ?_ | with_reducible refine Ext.drewN ?_ _ | ((with_reducible refine Ext.setCell' ?_ ?_ _); solve | omega | simp | (simp; omega)) | (with_reducible refine Ext.trans ?_ (by with_reducible assumption)))))).mono ?_
          rintro e w6 ⟨rfl, hx6⟩
          go_wp2
          go_roundw
          case rel => exact ⟨k + 1, by omega, by first | rw [hwr] | exact congrArg (Value.int .i64) (by omega), Lib.hid (by rw [HSU.out]; exact HV.out.ext (by (repeat (first | with_reducible exact Ext.refl _ | with_reducible assumption | ((with_reducible apply Src.ext); with_reducible assumption) | with_reducible refine Ext.alloc ?_ _ | with_reducible refine Ext.drew ?_ | with_reducible refine Ext.drewN ?_ _ | ((with_reducible refine Ext.setCell' ?_ ?_ _); solve | omega | simp | (simp; omega)) | (with_reducible refine Ext.trans ?_ (by with_reducible assumption)))))), HBW.out.ext (by (repeat (first | with_reducible exact Ext.refl _ | with_reducible assumption | ((with_reducible apply Src.ext); with_reducible assumption) | with_reducible refine Ext.alloc ?_ _ | with_reducible refine Ext.drew ?_ | with_reducible refine Ext.drewN ?_ _ | ((with_reducible refine Ext.setCell' ?_ ?_ _); solve | omega | simp | (simp; omega)) | (with_reducible refine Ext.trans ?_ (by with_reducible assumption))))), HBP.out.ext (by (repeat (first | with_reducible exact Ext.refl _ | with_reducible assumption | ((with_reducible apply Src.ext); with_reducible assumption) | with_reducible refine Ext.alloc ?_ _ | with_reducible refine Ext.drew ?_ | with_reducible refine Ext.drewN ?_ _ | ((with_reducible refine Ext.setCell' ?_ ?_ _); solve | omega | simp | (simp; omega)) | (with_reducible refine Ext.trans ?_ (by with_reducible assumption))))), by (repeat (first | with_reducible exact Ext.refl _ | with_reducible assumption | ((with_reducible apply Src.ext); with_reducible assumption) | with_reducible refine Ext.alloc ?_ _ | with_reducible refine Ext.drew ?_ | with_reducible refine Ext.drewN ?_ _ | ((with_reducible refine Ext.setCell' ?_ ?_ _); solve | omega | simp | (simp; omega)) | (with_reducible refine Ext.trans ?_ (by with_reducible assumption))))⟩
          case measure => simp [intOf]; omega
        | false =>
          rw [hq] at HCALL hsucc
          have HSU : Hid (trTo d L (k + 1) = trTo d L k ++ [(k : Int) + -3000]) := Lib.hid (by rw [hsucc]; simp)
          have HLN : Hid ((trTo d L k).length ≤ 10000) := Lib.hid (by omega)
          clear hsucc hq hln
          have hsr := hxr.size
          go_wp2_with fail
          refine (HCALL.out _ (by (repeat (first | with_reducible exact Ext.refl _ | with_reducible assumption | ((with_reducible apply Src.ext); with_reducible assumption) | with_reducible refine Ext.alloc ?_ _ | with_reducible refine Ext.drew ?_ | with_reducible refine Ext.drewN ?_ _ | ((with_reducible refine Ext.setCell' ?_ ?_ _); solve | omega | simp | (simp; omega)) | (with_reducible refine Ext.trans ?_ (by with_reducible assumption)))))).mono ?_
          rintro e w6 ⟨rfl, hx6⟩
          have hs6 := hx6.size
          (try simp at hs6)
          have HV1 : Hid (OwI w6 w2.heap.size _ (trTo d L k)) := Lib.hid (HV.out.ext (by (repeat (first | with_reducible exact Ext.refl _ | with_reducible assumption | ((with_reducible apply Src.ext); with_reducible assumption) | with_reducible refine Ext.alloc ?_ _ | with_reducible refine Ext.drew ?_ | with_reducible refine Ext.drewN ?_ _ | ((with_reducible refine Ext.setCell' ?_ ?_ _); solve | omega | simp | (simp; omega)) | (with_reducible refine Ext.trans ?_ (by with_reducible assumption))))))
          go_wp2_with (at_builtin; refine wpList_append_sl elI len_encI one_encI rfl _ _ rfl rfl (HV1.out.ext (by (repeat (first | with_reducible exact Ext.refl _ | with_reducible assumption | ((with_reducible apply Src.ext); with_reducible assumption) | with_reducible refine Ext.alloc ?_ _ | with_reducible refine Ext.drew ?_ | with_reducible refine Ext.drewN ?_ _ | ((with_reducible refine Ext.setCell' ?_ ?_ _); solve | omega | simp | (simp; omega)) | (with_reducible refine Ext.trans ?_ (by with_reducible assumption)))))) (xs := [(k : Int) + -3000]) rfl (blk_i1 (by (repeat (first | with_reducible assumption | ((with_reducible apply Blk.new); solve | simp | rfl) | with_reducible apply Blk.drew | with_reducible apply Blk.drewN | ((with_reducible apply Blk.far'); solve | omega | simp | (simp; omega)) | with_reducible apply Blk.set_ | with_reducible apply Blk.alloc | ((with_reducible apply Blk.ext'); with_reducible assumption) | ((with_reducible apply Blk.but'); (with_reducible assumption); solve | omega | (simp; omega)))))) (by have := HLN.out; simp; unfold maxLen; omega) (by have := HLN.out; simp; omega) (by first | omega | (simp; omega)) ?_)
          intro v' w7 hown hgrow _
          have HV2 := Lib.hid hown
          have hx7 : Ext w2 w7 := by
            refine Ext.grown ?_ hgrow (fun q hq => (HV.out.row q hq).1)
            (repeat (first | with_reducible exact Ext.refl _ | with_reducible assumption | ((with_reducible apply Src.ext); with_reducible assumption) | with_reducible refine Ext.alloc ?_ _ | with_reducible refine Ext.drew ?_ | with_reducible refine Ext.drewN ?_ _ | ((with_reducible refine Ext.setCell' ?_ ?_ _); solve | omega | simp | (simp; omega)) | (with_reducible refine Ext.trans ?_ (by with_reducible assumption))))
          have HB7 := Lib.hid (blk_keptE hgrow (HBW.out.ext (by (repeat (first | with_reducible exact Ext.refl _ | with_reducible assumption | ((with_reducible apply Src.ext); with_reducible assumption) | with_reducible refine Ext.alloc ?_ _ | with_reducible refine Ext.drew ?_ | with_reducible refine Ext.drewN ?_ _ | ((with_reducible refine Ext.setCell' ?_ ?_ _); solve | omega | simp | (simp; omega)) | (with_reducible refine Ext.trans ?_ (by with_reducible assumption)))))) (fun e => by have := (HV.out.row _ e.symm).1; omega))
          have HB8 := Lib.hid (blk_keptE hgrow (HBP.out.ext (by (repeat (first | with_reducible exact Ext.refl _ | with_reducible assumption | ((with_reducible apply Src.ext); with_reducible assumption) | with_reducible refine Ext.alloc ?_ _ | with_reducible refine Ext.drew ?_ | with_reducible refine Ext.drewN ?_ _ | ((with_reducible refine Ext.setCell' ?_ ?_ _); solve | omega | simp | (simp; omega)) | (with_reducible refine Ext.trans ?_ (by with_reducible assumption)))))) (fun e => by have := (HV.out.row _ e.symm).1; omega))
          clear hown hgrow
          go_wp2
          go_roundw
          case rel => exact ⟨k + 1, by omega, by first | rw [hwr] | exact congrArg (Value.int .i64) (by omega), Lib.hid (by rw [HSU.out]; exact HV2.out), HB7.out, HB8.out, hx7⟩
          case measure => simp [intOf]; omega
      · obtain rfl : k = 6001 := by omega
        have HO : Hid (OwI w5 w2.heap.size _ (trL d L)) := HV
        have hnl : ¬ (((6001 : Nat) : Int) + -3000 ≤ 3000) := by omega
        obtain ⟨A7, c7, rfl, hS7, _⟩ := HO.out.sl len_encI
        have hll : (trL d L).length ≤ 6001 := trTo_len _ _ _
        by_cases h40 : 40 < (trL d L).length
        · have HT := Lib.hid (HT1.out h40)
          have h40i : (40 : Int) < ((trL d L).length : Int) := by omega
          have h40d : decide ((40 : Int) < ((trL d L).length : Int)) = true := decide_eq_true h40i
          generalize (trL d L).length = p at *
          clear HT1 HT2
          go_wp2
          go_ret2
          rw [HT.out.1, HT.out.2]
          exact ⟨_, rfl, Own.nil _ _, HX2.out.trans (by (repeat (first | with_reducible exact Ext.refl _ | with_reducible assumption | ((with_reducible apply Src.ext); with_reducible assumption) | with_reducible refine Ext.alloc ?_ _ | with_reducible refine Ext.drew ?_ | with_reducible refine Ext.drewN ?_ _ | ((with_reducible refine Ext.setCell' ?_ ?_ _); solve | omega | simp | (simp; omega)) | (with_reducible refine Ext.trans ?_ (by with_reducible assumption)))))⟩
        · have HT := Lib.hid (HT2.out h40)
          have h40i : ¬ (40 : Int) < ((trL d L).length : Int) := by omega
          have h40d : decide ((40 : Int) < ((trL d L).length : Int)) = false := decide_eq_false h40i
          have hs02 : w.heap.size ≤ w2.heap.size := HX2.out.size
          have HOO : Hid (∀ W, Ext w5 W → OwI W w.heap.size (.slice A7 (trL d L).length c7) (trL d L)) := Lib.hid (fun W hW => (HO.out.ext hW).less (by omega))
          clear HO HV hS7 HT1 HT2 h40
          generalize (trL d L).length = p at *
          go_wp2
          go_ret2
          rw [HT.out.1, HT.out.2]
          exact ⟨_, rfl, HOO.out _ (by (repeat (first | with_reducible exact Ext.refl _ | with_reducible assumption | ((with_reducible apply Src.ext); with_reducible assumption) | with_reducible refine Ext.alloc ?_ _ | with_reducible refine Ext.drew ?_ | with_reducible refine Ext.drewN ?_ _ | ((with_reducible refine Ext.setCell' ?_ ?_ _); solve | omega | simp | (simp; omega)) | (with_reducible refine Ext.trans ?_ (by with_reducible assumption))))), HX2.out.trans (by (repeat (first | with_reducible exact Ext.refl _ | with_reducible assumption | ((with_reducible apply Src.ext); with_reducible assumption) | with_reducible refine Ext.alloc ?_ _ | with_reducible refine Ext.drew ?_ | with_reducible refine Ext.drewN ?_ _ | ((with_reducible refine Ext.setCell' ?_ ?_ _); solve | omega | simp | (simp; omega)) | (with_reducible refine Ext.trans ?_ (by with_reducible assumption)))))⟩

  · obtain ⟨e1, e2⟩ := trR_ne (D := psD ps) (L := L) (x := x) hp
    rw [e1, e2]
    generalize plC (psD ps) L x true 0 = cd at *
    have hcd : (cd != 0) = true := by simpa using hp
    clear e1 e2 h hx
    generalize tx x = sx at *
    go_enter Tryz.func32, Tryz.ntmps32
    go_wp2_with fail
    refine (HC.out _ (by (repeat (first | with_reducible exact Ext.refl _ | with_reducible assumption | ((with_reducible apply Src.ext); with_reducible assumption) | with_reducible refine Ext.alloc ?_ _ | with_reducible refine Ext.drew ?_ | with_reducible refine Ext.drewN ?_ _ | ((with_reducible refine Ext.setCell' ?_ ?_ _); solve | omega | simp | (simp; omega)) | (with_reducible refine Ext.trans ?_ (by with_reducible assumption)))))).mono ?_
    rintro e w1 ⟨rfl, hx1⟩
    go_wp2
    go_ret2
    exact ⟨_, rfl, Own.nil _ _, by (repeat (first | with_reducible exact Ext.refl _ | with_reducible assumption | ((with_reducible apply Src.ext); with_reducible assumption) | with_reducible refine Ext.alloc ?_ _ | with_reducible refine Ext.drew ?_ | with_reducible refine Ext.drewN ?_ _ | ((with_reducible refine Ext.setCell' ?_ ?_ _); solve | omega | simp | (simp; omega)) | (with_reducible refine Ext.trans ?_ (by with_reducible assumption))))⟩
end

end Go.Proofs.YtapfokfbdmcokaaGreatDoor
