/- Texts of names, as the specification tells them. -/
import Derived.Test.YtapfokfbdmcokaaGreatDoorYY
import Derived.Deep.RegionHeld3
import Derived.Deep.DeepCutAuto
import Derived.RegionTactic
import Derived.BigRegion
import Derived.WalkLawsBesides
import Derived.WalkSpells
import Derived.Lib.MinMax
import Derived.Outline
namespace Go.Proofs.YtapfokfbdmcokaaGreatDoor
open Go.RowKit
attribute [local go_sem] ExtOf.cell ExtOf.frozen


set_option maxRecDepth 20000 in
set_option maxHeartbeats 12800000 in
theorem s_l14Texts (p : Pl) (y : Int) (w : World) (h : PlAt w p) (hl : p.2.2.2.2.2.2.length ≤ 1000) :
    Calls Tryz.prog 119 #[.agg #[.string (tx p.1), .int .i64 p.2.1, .int .i64 p.2.2.1, .int .i64 p.2.2.2.1, .slice p.2.2.2.2.1 p.2.2.2.2.2.2.length p.2.2.2.2.2.1], .int .i64 y] w fun e w' => ∃ v, e = .returned v ∧ OwS w' w.heap.size v (txL p.2.2.2.2.2.2 y) ∧ Ext w w' := by
  have HS := Lib.hid h.1
  have HU := Lib.hid (fun W (hW : Ext w W) => s_l09Used _ _ p.2.2.2.2.2.1 p.2.2.2.2.2.2 y W (h.1.ext hW) rfl hl)
  clear h
  generalize tx p.1 = q0 at *
  generalize p.2.1 = q1 at *
  generalize p.2.2.1 = q2 at *
  generalize p.2.2.2.1 = q3 at *
  generalize p.2.2.2.2.1 = A at *
  generalize p.2.2.2.2.2.1 = c at *
  generalize p.2.2.2.2.2.2 = ns at *
  obtain ⟨n, hn⟩ : ∃ n, n = ns.length := ⟨_, rfl⟩
  have HN := Lib.hid hn
  rw [← hn] at hl HU ⊢
  clear hn
  go_enter Tryz.func119, Tryz.ntmps119
  go_wp2_with fail
  refine (HU.out _ (by (repeat (first | with_reducible exact Ext.refl _ | with_reducible assumption | ((with_reducible apply Src.ext); with_reducible assumption) | with_reducible refine Ext.alloc ?_ _ | with_reducible refine Ext.drew ?_ | with_reducible refine Ext.drewN ?_ _ | ((with_reducible refine Ext.setCell' ?_ ?_ _); solve | omega | simp | (simp; omega)) | (with_reducible refine Ext.trans ?_ (by with_reducible assumption)))))).mono ?_
  rintro e w1 ⟨v, rfl, hO, hx1⟩
  obtain ⟨A7, c7, rfl, hS7, _⟩ := hO.sl len_encI
  have HS7 := Lib.hid hS7
  have HS70 := Lib.hid hS7
  have hul : (usL ns y).length ≤ 1000 := Nat.le_trans (usTo_len _ _ _) (by rw [← HN.out]; omega)
  obtain ⟨p, hp⟩ : ∃ p, p = (usL ns y).length := ⟨_, rfl⟩
  rw [← hp] at hul ⊢
  have HPL := Lib.hid hp
  have hBP : Blk w1 w.heap.size 78 #[.string q0, .int .i64 q1, .int .i64 q2, .int .i64 q3, .slice A n c] := Blk.eq (by (repeat (first | with_reducible assumption | ((with_reducible apply Blk.new); solve | simp | rfl) | with_reducible apply Blk.drew | with_reducible apply Blk.drewN | ((with_reducible apply Blk.far'); solve | omega | simp | (simp; omega)) | with_reducible apply Blk.set_ | with_reducible apply Blk.alloc | ((with_reducible apply Blk.ext'); with_reducible assumption) | ((with_reducible apply Blk.but'); (with_reducible assumption); solve | omega | (simp; omega))))) (by rfl)
  have hX1 : Ext w w1 := by clear hBP; (repeat (first | with_reducible exact Ext.refl _ | with_reducible assumption | ((with_reducible apply Src.ext); with_reducible assumption) | with_reducible refine Ext.alloc ?_ _ | with_reducible refine Ext.drew ?_ | with_reducible refine Ext.drewN ?_ _ | ((with_reducible refine Ext.setCell' ?_ ?_ _); solve | omega | simp | (simp; omega)) | (with_reducible refine Ext.trans ?_ (by with_reducible assumption))))
  have HX1 := Lib.hid hX1
  have zp := hBP.lt
  have HBP1 := Lib.hid hBP
  clear hS7 hO hp HU hx1 hX1
  have hsw1 := HX1.out.size
  go_wp2
  go_loopw [6, 7] (fun v i wr => ∃ j : Nat, j ≤ p ∧ i = .int .i64 j ∧ Hid (OwS wr w1.heap.size v (txPart ns y j)) ∧ Blk wr w.heap.size 78 #[.string q0, .int .i64 q1, .int .i64 q2, .int .i64 q3, .slice A n c] ∧ Ext w wr ∧ Hid (SlAt wr 1 encI A7 (usL ns y)) ∧ Ext w1 wr) (fun _ i _ => p - (intOf i).toNat)
  case atStart => exact ⟨0, by omega, rfl, Lib.hid (Own.of_blk (g := w1.heap.size) (cs := #[]) (xs := []) (by (repeat (first | with_reducible assumption | ((with_reducible apply Blk.new); solve | simp | rfl) | with_reducible apply Blk.drew | with_reducible apply Blk.drewN | ((with_reducible apply Blk.far'); solve | omega | simp | (simp; omega)) | with_reducible apply Blk.set_ | with_reducible apply Blk.alloc | ((with_reducible apply Blk.ext'); with_reducible assumption) | ((with_reducible apply Blk.but'); (with_reducible assumption); solve | omega | (simp; omega))))) len_encS rfl (Nat.le_refl _) (by simp)), HBP1.out.ext (by (repeat (first | with_reducible exact Ext.refl _ | with_reducible assumption | ((with_reducible apply Src.ext); with_reducible assumption) | with_reducible refine Ext.alloc ?_ _ | with_reducible refine Ext.drew ?_ | with_reducible refine Ext.drewN ?_ _ | ((with_reducible refine Ext.setCell' ?_ ?_ _); solve | omega | simp | (simp; omega)) | (with_reducible refine Ext.trans ?_ (by with_reducible assumption))))), HX1.out.trans (by (repeat (first | with_reducible exact Ext.refl _ | with_reducible assumption | ((with_reducible apply Src.ext); with_reducible assumption) | with_reducible refine Ext.alloc ?_ _ | with_reducible refine Ext.drew ?_ | with_reducible refine Ext.drewN ?_ _ | ((with_reducible refine Ext.setCell' ?_ ?_ _); solve | omega | simp | (simp; omega)) | (with_reducible refine Ext.trans ?_ (by with_reducible assumption))))), Lib.hid (HS7.out.ext (by (repeat (first | with_reducible exact Ext.refl _ | with_reducible assumption | ((with_reducible apply Src.ext); with_reducible assumption) | with_reducible refine Ext.alloc ?_ _ | with_reducible refine Ext.drew ?_ | with_reducible refine Ext.drewN ?_ _ | ((with_reducible refine Ext.setCell' ?_ ?_ _); solve | omega | simp | (simp; omega)) | (with_reducible refine Ext.trans ?_ (by with_reducible assumption)))))), by (repeat (first | with_reducible exact Ext.refl _ | with_reducible assumption | ((with_reducible apply Src.ext); with_reducible assumption) | with_reducible refine Ext.alloc ?_ _ | with_reducible refine Ext.drew ?_ | with_reducible refine Ext.drewN ?_ _ | ((with_reducible refine Ext.setCell' ?_ ?_ _); solve | omega | simp | (simp; omega)) | (with_reducible refine Ext.trans ?_ (by with_reducible assumption))))⟩
  case round =>
    clear hBP
    obtain ⟨j, hj, rfl, HV, hBP, hxr, HS7, hx1r⟩ := hrel
    have hs15 := hx1r.size
    have HX1R := Lib.hid hx1r
    clear hx1r
    obtain ⟨w5, rfl⟩ : ∃ x, x = wr := ⟨wr, rfl⟩
    have zp5 := hBP.lt
    have HBP := Lib.hid hBP
    by_cases hjl : j < p
    · have hju : j < (usL ns y).length := by rw [← HPL.out]; exact hjl
      obtain ⟨b7, off7, hA7, hb7, c7u⟩ := HS70.out.it hju
      have HS71 : Hid (SlAt w1 1 encI (some ⟨b7, off7, none⟩) (usL ns y)) := Lib.hid (hA7 ▸ HS70.out)
      subst hA7
      obtain ⟨i0, hi0, hi1, hi2⟩ := usTo_at ns y ns.length hju
      have hgu : (usL ns y).getD j 0 = (i0 : Int) := hi0
      rw [hgu] at c7u
      have hin0 : i0 < n := by rw [HN.out]; exact hi1
      obtain ⟨b, off, hA, hb, d0, d1, d2, d3, d4⟩ := (HS.out.ext HX1.out).nm hi1
      subst hA
      have u41 : w1.cell? ⟨w.heap.size, 4, none⟩ = some (.slice (some ⟨b, off, none⟩) n c) := HBP1.out.cell 4
      have zp1 := HBP1.out.lt
      have u4 : w5.cell? ⟨w.heap.size, 4, none⟩ = some (.slice (some ⟨b, off, none⟩) n c) := hBP.cell 4
      have HSU : Hid (txPart ns y (j + 1) = txPart ns y j ++ [(ns.getD i0 nmD).1]) := Lib.hid (by rw [txPart_succ hju, hgu]; rfl)
      have HBL := Lib.hid (fun (W : World) (g : Nat) (hB : Blk W g 9 #[.string (tx (ns.getD i0 nmD).1)]) => blk_s1c hB)
      have HLN : Hid ((txPart ns y j).length ≤ 1000) := Lib.hid (Nat.le_trans (txPart_len ns y j) (by rw [← HN.out]; exact hl))
      have HSX := HS7
      clear hBP hi0 hi2 hgu d1 d2 d3 d4 HS7 hju
      generalize ns.getD i0 nmD = l at *
      generalize tx l.1 = s0 at *
      have hsr := hxr.size
      have h0i : (0 : Int) ≤ (i0 : Int) := by omega
      have HKC : Hid (∀ W, Ext w1 W → W.cell? ⟨w.heap.size, 4, none⟩ = some (.slice (some ⟨b, off, none⟩) n c) ∧ W.cell? ⟨b7, off7 + j, none⟩ = some (.int .i64 (i0 : Int)) ∧ W.cell? ⟨b, off + i0 * 5, none⟩ = some (.string s0)) := Lib.hid (fun W hW => ⟨(hW.cell _ _ zp1).trans u41, (hW.cell _ _ hb7).trans c7u, (hW.cell _ _ hb).trans d0⟩)
      obtain ⟨v41, v42, v43⟩ := HKC.out w5 HX1R.out
      have hbl5 := World.block_lt_of_cell? _ _ v43
      have hb75 := World.block_lt_of_cell? _ _ v42
      clear u41 u4 c7u d0 hb hb7
      go_wp2
      go_region_held3 (fun w' => w'.cell? ⟨w.heap.size, 4, none⟩ = some (.slice (some ⟨b, off, none⟩) n c) ∧ w'.cell? ⟨b7, off7 + j, none⟩ = some (.int .i64 (i0 : Int)) ∧ w'.cell? ⟨b, off + i0 * 5, none⟩ = some (.string s0)) (first | exact HKC.out _ hx16 | exact HKC.out _ (HX1R.out.trans (by (repeat (first | with_reducible exact Ext.refl _ | with_reducible assumption | ((with_reducible apply Src.ext); with_reducible assumption) | with_reducible refine Ext.alloc ?_ _ | with_reducible refine Ext.drew ?_ | with_reducible refine Ext.drewN ?_ _ | ((with_reducible refine Ext.setCell' ?_ ?_ _); solve | omega | simp | (simp; omega)) | (with_reducible refine Ext.trans ?_ (by with_reducible assumption)))))) | go_keep) (first | (refine step_append_sl elS len_encS one_encS rfl _ _ rfl rfl (HV.out.ext (by (repeat (first | with_reducible exact Ext.refl _ | with_reducible assumption | ((with_reducible apply Src.ext); with_reducible assumption) | with_reducible refine Ext.alloc ?_ _ | with_reducible refine Ext.drew ?_ | with_reducible refine Ext.drewN ?_ _ | ((with_reducible refine Ext.setCell' ?_ ?_ _); solve | omega | simp | (simp; omega)) | (with_reducible refine Ext.trans ?_ (by with_reducible assumption)))))) (xs := [l.1]) rfl (HBL.out _ _ (by (repeat (first | with_reducible assumption | ((with_reducible apply Blk.new); solve | simp | rfl) | with_reducible apply Blk.drew | with_reducible apply Blk.drewN | ((with_reducible apply Blk.far'); solve | omega | simp | (simp; omega)) | with_reducible apply Blk.set_ | with_reducible apply Blk.alloc | ((with_reducible apply Blk.ext'); with_reducible assumption) | ((with_reducible apply Blk.but'); (with_reducible assumption); solve | omega | (simp; omega)))))) (by have := HLN.out; simp; unfold maxLen; omega) (by have := HLN.out; simp; omega) (by first | omega | (simp; omega)) ?_; intro v6 w6 hO6 hg6 _; have hx6 : Ext w w6 := Ext.grown (hxr.trans (by (repeat (first | with_reducible exact Ext.refl _ | with_reducible assumption | ((with_reducible apply Src.ext); with_reducible assumption) | with_reducible refine Ext.alloc ?_ _ | with_reducible refine Ext.drew ?_ | with_reducible refine Ext.drewN ?_ _ | ((with_reducible refine Ext.setCell' ?_ ?_ _); solve | omega | simp | (simp; omega)) | (with_reducible refine Ext.trans ?_ (by with_reducible assumption)))))) hg6 (fun q hq => Nat.le_trans hsw1 (HV.out.row q hq).1); have hB6 := blk_keptE hg6 (HBP.out.ext (by (repeat (first | with_reducible exact Ext.refl _ | with_reducible assumption | ((with_reducible apply Src.ext); with_reducible assumption) | with_reducible refine Ext.alloc ?_ _ | with_reducible refine Ext.drew ?_ | with_reducible refine Ext.drewN ?_ _ | ((with_reducible refine Ext.setCell' ?_ ?_ _); solve | omega | simp | (simp; omega)) | (with_reducible refine Ext.trans ?_ (by with_reducible assumption)))))) (fun e => by have := (HV.out.row _ e.symm).1; omega); have hx16 : Ext w1 w6 := Ext.grown (HX1R.out.trans (by (repeat (first | with_reducible exact Ext.refl _ | with_reducible assumption | ((with_reducible apply Src.ext); with_reducible assumption) | with_reducible refine Ext.alloc ?_ _ | with_reducible refine Ext.drew ?_ | with_reducible refine Ext.drewN ?_ _ | ((with_reducible refine Ext.setCell' ?_ ?_ _); solve | omega | simp | (simp; omega)) | (with_reducible refine Ext.trans ?_ (by with_reducible assumption)))))) hg6 (fun q hq => (HV.out.row q hq).1)))
      all_goals
        have HV2 := Lib.hid hO6
        have HSX6 : Hid (SlAt w6 1 encI _ (usL ns y)) := Lib.hid (HS71.out.ext hx16)
        clear hO6 hg6
        go_wp2
        go_roundw
        case rel => exact ⟨j + 1, by omega, by go_num, Lib.hid (by rw [HSU.out]; exact HV2.out), hB6, hx6, HSX6, hx16⟩
        case measure => simp [intOf]; omega
    · obtain rfl : j = p := by omega
      have HO : Hid (OwS w5 w1.heap.size _ (txL ns y)) := Lib.hid (by rw [← txPart_all, ← HPL.out]; exact HV.out)
      go_wp2
      go_ret
      exact ⟨_, rfl, (HO.out.ext (by (repeat (first | with_reducible exact Ext.refl _ | with_reducible assumption | ((with_reducible apply Src.ext); with_reducible assumption) | with_reducible refine Ext.alloc ?_ _ | with_reducible refine Ext.drew ?_ | with_reducible refine Ext.drewN ?_ _ | ((with_reducible refine Ext.setCell' ?_ ?_ _); solve | omega | simp | (simp; omega)) | (with_reducible refine Ext.trans ?_ (by with_reducible assumption)))))).less hsw1, by (repeat (first | with_reducible exact Ext.refl _ | with_reducible assumption | ((with_reducible apply Src.ext); with_reducible assumption) | with_reducible refine Ext.alloc ?_ _ | with_reducible refine Ext.drew ?_ | with_reducible refine Ext.drewN ?_ _ | ((with_reducible refine Ext.setCell' ?_ ?_ _); solve | omega | simp | (simp; omega)) | (with_reducible refine Ext.trans ?_ (by with_reducible assumption))))⟩

end Go.Proofs.YtapfokfbdmcokaaGreatDoor
