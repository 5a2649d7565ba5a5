/- Contracts of the the walk of FnBoxes, walked over the translation. -/
import Derived.Test.YtconoaphenahnaaFB
import Derived.Deep.RegionHeld3
import Derived.Deep.DeepCutAuto
import Derived.RegionTactic
import Derived.BigRegion
import Derived.WalkLawsBesides
import Derived.WalkSpells
import Derived.Lib.MinMax
import Derived.Outline
namespace Go.Proofs.Ytconoaphenahnaa
open Go.RowKit
attribute [local go_sem] ExtOf.cell ExtOf.frozen








theorem nearC_zero {ps : List (Int × Int)} {px pz : Int} (h : nearC ps px pz = 0) : okP px pz = true ∧ ptsC ps = 0 := by
  unfold nearC at h
  split at h
  · exact ⟨by assumption, h⟩
  · omega
theorem oks_at {ps : List (Int × Int)} (h : oks ps = true) {k : Nat} (hk : k < ps.length) : okP (ps.getD k (0, 0)).1 (ps.getD k (0, 0)).2 = true := by
  have := List.all_eq_true.1 h ps[k] (List.getElem_mem hk)
  simpa [List.getD, hk] using this
theorem sd_ok {ax az bx bz : Int} (w : World) (h : okP ax az = true) (h' : okP bx bz = true) : Calls Try.prog 19 #[.agg #[.int .i64 ax, .int .i64 az], .agg #[.int .i64 bx, .int .i64 bz]] w
    fun e w' => e = .returned (.tuple #[.int .i64 (sqW ax az bx bz), .int .i64 0]) ∧ Ext w w' := by
  have := i_SquaredDistance ax az bx bz w
  have ho : oks [(ax, az), (bx, bz)] = true := by simp [oks, h, h']
  rwa [show sqR ax az bx bz = sqW ax az bx bz by simp [sqR, ho], show okC [(ax, az), (bx, bz)] = 0 by simp [okC, ho]] at this
set_option maxRecDepth 20000 in
set_option maxHeartbeats 25600000 in
theorem fnBoxes_walk (A : Option Addr) (c : Nat) (bs : List Int) (w : World) (h : SlAt w 1 encB A bs) (hb : ∀ b ∈ bs, 0 ≤ b ∧ b ≤ 255) :
    Calls Try.prog 12 #[.slice A bs.length c] w fun e w' => e = .returned (.bool true) ∧ Ext w w' := by
  have HB := Lib.hid hb
  clear hb
  by_cases hl : bs.length ≤ 4096
  · have hbg : ∀ W, Calls Try.prog 38 #[.slice A bs.length c] W fun e w' => e = .returned (.bool false) ∧ W = w' := fun W => by
      have := l_big' A c bs.length W
      rwa [decide_eq_false (by omega)] at this
    have HG := Lib.hid hbg
    have HL := Lib.hid hl
    clear hbg hl
    go_enter Try.func12, Try.ntmps12
    (go_wp2_with fail; refine (HG.out _).mono ?_; rintro e w' ⟨rfl, rfl⟩)
    go_wp2_with fail
    refine (s_DrawBoxOf _ _ bs _ h HB.out HL.out).mono ?_
    rintro e w1 ⟨B, d, ps, rfl, hS1, hps, hd, hq, hx1⟩
    obtain ⟨hc1, hf1⟩ := hx1.rules
    have hs1 := hx1.size
    clear hq
    (go_wp2_with fail; refine (i_BoxOf _ _ ps _ hS1 (by omega)).mono ?_; rintro e w2 ⟨rfl, hx2⟩; obtain ⟨hc2, hf2⟩ := hx2.rules; have hs2 := hx2.size; (try simp at hs2))
    (go_wp2_with fail; refine (s_BoxOf _ _ ps _ (hS1.ext (by (repeat (first | with_reducible exact Ext.refl _ | with_reducible assumption | ((with_reducible apply Src.ext); with_reducible assumption) | with_reducible refine Ext.alloc ?_ _ | with_reducible refine Ext.drew ?_ | with_reducible refine Ext.drewN ?_ _ | ((with_reducible refine Ext.setCell' ?_ ?_ _); solve | omega | simp | (simp; omega)) | (with_reducible refine Ext.trans ?_ (by with_reducible assumption)))))) (by omega)).mono ?_; rintro e w3 ⟨rfl, hx3⟩; obtain ⟨hc3, hf3⟩ := hx3.rules; have hs3 := hx3.size; (try simp at hs3); have := (show w2.heap.size < w3.heap.size from by omega); have := (show w2.heap.size + 1 < w3.heap.size from by omega))
    go_wp2_with fail
    refine (s_DrawNearestPoint _ _ bs _ (h.ext (by (repeat (first | with_reducible exact Ext.refl _ | with_reducible assumption | ((with_reducible apply Src.ext); with_reducible assumption) | with_reducible refine Ext.alloc ?_ _ | with_reducible refine Ext.drew ?_ | with_reducible refine Ext.drewN ?_ _ | ((with_reducible refine Ext.setCell' ?_ ?_ _); solve | omega | simp | (simp; omega)) | (with_reducible refine Ext.trans ?_ (by with_reducible assumption)))))) HB.out HL.out).mono ?_
    rintro e w4 ⟨C, f, qs, ⟨px, pz⟩, rfl, hS4, hqs, hf, hx4⟩
    obtain ⟨hc4, hf4⟩ := hx4.rules
    have hs4 := hx4.size
    simp at hs4
    have : w2.heap.size < w4.heap.size := by omega
    have : w2.heap.size < w4.heap.size + 1 := by omega
    have : w2.heap.size + 1 < w4.heap.size := by omega
    have : w2.heap.size + 1 < w4.heap.size + 1 := by omega
    have : w3.heap.size < w4.heap.size := by omega
    have : w3.heap.size < w4.heap.size + 1 := by omega
    have : w3.heap.size + 1 < w4.heap.size := by omega
    have : w3.heap.size + 1 < w4.heap.size + 1 := by omega
    (go_wp2_with fail; refine (i_NearestPoint _ _ qs _ _ _ (hS4.ext (by (repeat (first | with_reducible exact Ext.refl _ | with_reducible assumption | ((with_reducible apply Src.ext); with_reducible assumption) | with_reducible refine Ext.alloc ?_ _ | with_reducible refine Ext.drew ?_ | with_reducible refine Ext.drewN ?_ _ | ((with_reducible refine Ext.setCell' ?_ ?_ _); solve | omega | simp | (simp; omega)) | (with_reducible refine Ext.trans ?_ (by with_reducible assumption)))))) (by omega)).mono ?_; rintro e w5 ⟨rfl, hx5⟩; obtain ⟨hc5, hf5⟩ := hx5.rules; have hs5 := hx5.size; (try simp at hs5); have := (show w2.heap.size < w5.heap.size from by omega); have := (show w2.heap.size + 1 < w5.heap.size from by omega); have := (show w3.heap.size < w5.heap.size from by omega); have := (show w3.heap.size + 1 < w5.heap.size from by omega); have := (show w4.heap.size < w5.heap.size from by omega))
    (go_wp2_with fail; refine (s_NearestPoint _ _ qs _ _ _ (hS4.ext (by (repeat (first | with_reducible exact Ext.refl _ | with_reducible assumption | ((with_reducible apply Src.ext); with_reducible assumption) | with_reducible refine Ext.alloc ?_ _ | with_reducible refine Ext.drew ?_ | with_reducible refine Ext.drewN ?_ _ | ((with_reducible refine Ext.setCell' ?_ ?_ _); solve | omega | simp | (simp; omega)) | (with_reducible refine Ext.trans ?_ (by with_reducible assumption)))))) (by omega)).mono ?_; rintro e w6 ⟨rfl, hx6⟩; obtain ⟨hc6, hf6⟩ := hx6.rules; have hs6 := hx6.size; (try simp at hs6); have := (show w2.heap.size < w6.heap.size from by omega); have := (show w2.heap.size + 1 < w6.heap.size from by omega); have := (show w3.heap.size < w6.heap.size from by omega); have := (show w3.heap.size + 1 < w6.heap.size from by omega); have := (show w4.heap.size < w6.heap.size from by omega))
    have B4 : Blk w6 w2.heap.size 25 #[.int .i64 (bxL ps).1, .int .i64 (bxL ps).2] := Blk.eq (by (repeat (first | with_reducible assumption | ((with_reducible apply Blk.new); solve | simp | rfl) | with_reducible apply Blk.drew | with_reducible apply Blk.drewN | ((with_reducible apply Blk.far'); solve | omega | simp | (simp; omega)) | with_reducible apply Blk.set_ | with_reducible apply Blk.alloc | ((with_reducible apply Blk.ext'); with_reducible assumption) | ((with_reducible apply Blk.but'); (with_reducible assumption); solve | omega | (simp; omega))))) (by rfl)
    have e40 : w6.cell? ⟨w2.heap.size, 0, none⟩ = some (.int .i64 (bxL ps).1) := B4.cell 0
    have e41 : w6.cell? ⟨w2.heap.size, 1, none⟩ = some (.int .i64 (bxL ps).2) := B4.cell 1
    have B5 : Blk w6 (w2.heap.size + 1) 25 #[.int .i64 (bxH ps).1, .int .i64 (bxH ps).2] := Blk.eq (by (repeat (first | with_reducible assumption | ((with_reducible apply Blk.new); solve | simp | rfl) | with_reducible apply Blk.drew | with_reducible apply Blk.drewN | ((with_reducible apply Blk.far'); solve | omega | simp | (simp; omega)) | with_reducible apply Blk.set_ | with_reducible apply Blk.alloc | ((with_reducible apply Blk.ext'); with_reducible assumption) | ((with_reducible apply Blk.but'); (with_reducible assumption); solve | omega | (simp; omega))))) (by rfl)
    have e50 : w6.cell? ⟨(w2.heap.size + 1), 0, none⟩ = some (.int .i64 (bxH ps).1) := B5.cell 0
    have e51 : w6.cell? ⟨(w2.heap.size + 1), 1, none⟩ = some (.int .i64 (bxH ps).2) := B5.cell 1
    have B7 : Blk w6 w3.heap.size 25 #[.int .i64 (bxL ps).1, .int .i64 (bxL ps).2] := Blk.eq (by (repeat (first | with_reducible assumption | ((with_reducible apply Blk.new); solve | simp | rfl) | with_reducible apply Blk.drew | with_reducible apply Blk.drewN | ((with_reducible apply Blk.far'); solve | omega | simp | (simp; omega)) | with_reducible apply Blk.set_ | with_reducible apply Blk.alloc | ((with_reducible apply Blk.ext'); with_reducible assumption) | ((with_reducible apply Blk.but'); (with_reducible assumption); solve | omega | (simp; omega))))) (by rfl)
    have e70 : w6.cell? ⟨w3.heap.size, 0, none⟩ = some (.int .i64 (bxL ps).1) := B7.cell 0
    have e71 : w6.cell? ⟨w3.heap.size, 1, none⟩ = some (.int .i64 (bxL ps).2) := B7.cell 1
    have B8 : Blk w6 (w3.heap.size + 1) 25 #[.int .i64 (bxH ps).1, .int .i64 (bxH ps).2] := Blk.eq (by (repeat (first | with_reducible assumption | ((with_reducible apply Blk.new); solve | simp | rfl) | with_reducible apply Blk.drew | with_reducible apply Blk.drewN | ((with_reducible apply Blk.far'); solve | omega | simp | (simp; omega)) | with_reducible apply Blk.set_ | with_reducible apply Blk.alloc | ((with_reducible apply Blk.ext'); with_reducible assumption) | ((with_reducible apply Blk.but'); (with_reducible assumption); solve | omega | (simp; omega))))) (by rfl)
    have e80 : w6.cell? ⟨(w3.heap.size + 1), 0, none⟩ = some (.int .i64 (bxH ps).1) := B8.cell 0
    have e81 : w6.cell? ⟨(w3.heap.size + 1), 1, none⟩ = some (.int .i64 (bxH ps).2) := B8.cell 1
    have B11 : Blk w6 w4.heap.size 25 #[.int .i64 px, .int .i64 pz] := Blk.eq (by (repeat (first | with_reducible assumption | ((with_reducible apply Blk.new); solve | simp | rfl) | with_reducible apply Blk.drew | with_reducible apply Blk.drewN | ((with_reducible apply Blk.far'); solve | omega | simp | (simp; omega)) | with_reducible apply Blk.set_ | with_reducible apply Blk.alloc | ((with_reducible apply Blk.ext'); with_reducible assumption) | ((with_reducible apply Blk.but'); (with_reducible assumption); solve | omega | (simp; omega))))) (by rfl)
    have e110 : w6.cell? ⟨w4.heap.size, 0, none⟩ = some (.int .i64 px) := B11.cell 0
    have e111 : w6.cell? ⟨w4.heap.size, 1, none⟩ = some (.int .i64 pz) := B11.cell 1
    have hq1 : eqP (bxL ps).1 (bxL ps).2 (bxL ps).1 (bxL ps).2 = true := eqP_iff.2 ⟨rfl, rfl⟩
    have hq2 : eqP (bxH ps).1 (bxH ps).2 (bxH ps).1 (bxH ps).2 = true := eqP_iff.2 ⟨rfl, rfl⟩
    clear hc1 hf1 hc2 hf2 hc3 hf3 hc4 hf4 hc5 hf5 hc6 hf6
    by_cases hN : nearC qs px pz = 0
    · obtain ⟨hokp, hpq⟩ := nearC_zero hN
      obtain ⟨q0, q1, q2⟩ := ptsC_zero hpq
      obtain ⟨n, hn⟩ : ∃ n, n = bst qs px pz qs.length := ⟨_, rfl⟩
      have hnl : n < qs.length := by rw [hn]; exact bst_lt qs px pz q0 _ (Nat.le_refl _)
      have hI : nearI qs px pz = (n : Int) := by rw [hn]; simp [nearI, hN]
      have HBST := Lib.hid hn
      have hS6 := hS4.ext (show Ext w4 w6 by (repeat (first | with_reducible exact Ext.refl _ | with_reducible assumption | ((with_reducible apply Src.ext); with_reducible assumption) | with_reducible refine Ext.alloc ?_ _ | with_reducible refine Ext.drew ?_ | with_reducible refine Ext.drewN ?_ _ | ((with_reducible refine Ext.setCell' ?_ ?_ _); solve | omega | simp | (simp; omega)) | (with_reducible refine Ext.trans ?_ (by with_reducible assumption)))))
      obtain ⟨b, off, rfl, hb6, d0, d1⟩ := hS6.pt hnl
      have HSD := Lib.hid (fun W => sd_ok W (oks_at q2 hnl) hokp)
      have hs6w := hx6.size
      generalize hpe : qs.getD n (0, 0) = pn at d0 d1
      rw [hpe] at HSD
      have HPE := Lib.hid hpe
      clear hpe hn
      go_wp2
      (refine wp_region_ext (by kernel_rfl) (by kernel_rfl) ?_; (repeat (go_big_quiet_step ((go_at_call 19; exact Calls_ext (HSD.out _))))); refine wpQuiet_nil ?_; intro wo hxwo; obtain ⟨hcwo, hfwo⟩ := hxwo.rules; have hswo := hxwo.size; (try simp at hswo))
      go_wp2
      go_loopw [18] (fun i wr => ∃ k : Nat, k ≤ qs.length ∧ i = .int .i64 k ∧ Ext w6 wr) (fun i _ => qs.length - (intOf i).toNat)
      case atStart => exact ⟨0, Nat.zero_le _, rfl, by (repeat (first | with_reducible exact Ext.refl _ | with_reducible assumption | ((with_reducible apply Src.ext); with_reducible assumption) | with_reducible refine Ext.alloc ?_ _ | with_reducible refine Ext.drew ?_ | with_reducible refine Ext.drewN ?_ _ | ((with_reducible refine Ext.setCell' ?_ ?_ _); solve | omega | simp | (simp; omega)) | (with_reducible refine Ext.trans ?_ (by with_reducible assumption))))⟩
      case round =>
        obtain ⟨k, hk, rfl, hxo⟩ := hrel
        by_cases hlt : k < qs.length
        · obtain ⟨g0, g1⟩ := (hS6.ext hxo).pt' hlt
          have hle := bst_least qs px pz qs.length k hlt
          rw [← HBST.out, HPE.out] at hle
          have HSK := Lib.hid (fun W => sd_ok W (oks_at q2 hlt) hokp)
          generalize qs.getD k (0, 0) = pk at g0 g1 hle HSK
          have hos := hxo.size
          have r0 := (hxo.cell _ 0 B11.lt).trans e110
          have r1 := (hxo.cell _ 1 B11.lt).trans e111
          have := (show w4.heap.size < wr.heap.size by omega)
          have := (show b < wr.heap.size by omega)
          have gg : decide (sqW pk.1 pk.2 px pz < sqW pn.1 pn.2 px pz) = false := decide_eq_false (by omega)
          clear hle
          go_wp2
          (refine wp_region_ext (by kernel_rfl) (by kernel_rfl) ?_; (repeat (go_big_quiet_step ((go_at_call 19; exact Calls_ext (HSK.out _))))); refine wpQuiet_nil ?_; intro wz hxwz; obtain ⟨hcwz, hfwz⟩ := hxwz.rules; have hswz := hxwz.size; (try simp at hswz))
          go_wp2
          go_roundw
          case rel => exact ⟨k + 1, by omega, by go_num, by (repeat (first | with_reducible exact Ext.refl _ | with_reducible assumption | ((with_reducible apply Src.ext); with_reducible assumption) | with_reducible refine Ext.alloc ?_ _ | with_reducible refine Ext.drew ?_ | with_reducible refine Ext.drewN ?_ _ | ((with_reducible refine Ext.setCell' ?_ ?_ _); solve | omega | simp | (simp; omega)) | (with_reducible refine Ext.trans ?_ (by with_reducible assumption))))⟩
          case measure => simp [intOf]; omega
        · obtain ⟨wv, rfl⟩ : ∃ x, x = wr := ⟨_, rfl⟩
          have hos := hxo.size
          by_cases hP : ptsC ps = 0
          · obtain ⟨p0, p1, p2⟩ := ptsC_zero hP
            go_wp2
            go_loopw [21] (fun i wr => ∃ k : Nat, k ≤ ps.length ∧ i = .int .i64 k ∧ Ext wv wr) (fun i _ => ps.length - (intOf i).toNat)
            case atStart => exact ⟨0, Nat.zero_le _, rfl, by (repeat (first | with_reducible exact Ext.refl _ | with_reducible assumption | ((with_reducible apply Src.ext); with_reducible assumption) | with_reducible refine Ext.alloc ?_ _ | with_reducible refine Ext.drew ?_ | with_reducible refine Ext.drewN ?_ _ | ((with_reducible refine Ext.setCell' ?_ ?_ _); solve | omega | simp | (simp; omega)) | (with_reducible refine Ext.trans ?_ (by with_reducible assumption))))⟩
            case round =>
              obtain ⟨k, hk, rfl, hxr⟩ := hrel
              by_cases hlt : k < ps.length
              · have hSr := hS1.ext (show Ext w1 wr by (repeat (first | with_reducible exact Ext.refl _ | with_reducible assumption | ((with_reducible apply Src.ext); with_reducible assumption) | with_reducible refine Ext.alloc ?_ _ | with_reducible refine Ext.drew ?_ | with_reducible refine Ext.drewN ?_ _ | ((with_reducible refine Ext.setCell' ?_ ?_ _); solve | omega | simp | (simp; omega)) | (with_reducible refine Ext.trans ?_ (by with_reducible assumption)))))
                obtain ⟨b, off, rfl, hbr, d0, d1⟩ := hSr.pt hlt
                have hbx := box_in ps hlt
                have eL : bxL ps = boxLo ps := by simp [bxL, hP]
                have eH : bxH ps = boxHi ps := by simp [bxH, hP]
                rw [← eL, ← eH] at hbx
                generalize ps.getD k (0, 0) = q at d0 d1 hbx
                have r40 := ((hxo.trans hxr).cell _ 0 B4.lt).trans e40
                have r41 := ((hxo.trans hxr).cell _ 1 B4.lt).trans e41
                have r50 := ((hxo.trans hxr).cell _ 0 B5.lt).trans e50
                have r51 := ((hxo.trans hxr).cell _ 1 B5.lt).trans e51
                have m1 : ¬ q.1 < (bxL ps).1 := by omega
                have m2 : ¬ q.2 < (bxL ps).2 := by omega
                have m3 : ¬ (bxH ps).1 < q.1 := by omega
                have m4 : ¬ (bxH ps).2 < q.2 := by omega
                have hsr := hxr.size
                have := (show w2.heap.size < wr.heap.size by omega)
                have := (show w2.heap.size + 1 < wr.heap.size by omega)
                have g1 : decide (q.1 < (bxL ps).1) = false := decide_eq_false m1
                have g2 : decide (q.2 < (bxL ps).2) = false := decide_eq_false m2
                have g3 : decide ((bxH ps).1 < q.1) = false := decide_eq_false m3
                have g4 : decide ((bxH ps).2 < q.2) = false := decide_eq_false m4
                clear hbx eL eH m1 m2 m3 m4
                go_wp2
                (refine wp_region_ext (by kernel_rfl) (by kernel_rfl) ?_; (repeat (go_big_quiet_step (fail))); refine wpQuiet_nil ?_; intro wz hxwz; obtain ⟨hcwz, hfwz⟩ := hxwz.rules; have hswz := hxwz.size; (try simp at hswz))
                go_wp2
                go_roundw
                case rel => exact ⟨k + 1, by omega, by go_num, by (repeat (first | with_reducible exact Ext.refl _ | with_reducible assumption | ((with_reducible apply Src.ext); with_reducible assumption) | with_reducible refine Ext.alloc ?_ _ | with_reducible refine Ext.drew ?_ | with_reducible refine Ext.drewN ?_ _ | ((with_reducible refine Ext.setCell' ?_ ?_ _); solve | omega | simp | (simp; omega)) | (with_reducible refine Ext.trans ?_ (by with_reducible assumption))))⟩
                case measure => simp [intOf]; omega
              · go_wp2
                go_ret
                exact ⟨rfl, by (repeat (first | with_reducible exact Ext.refl _ | with_reducible assumption | ((with_reducible apply Src.ext); with_reducible assumption) | with_reducible refine Ext.alloc ?_ _ | with_reducible refine Ext.drew ?_ | with_reducible refine Ext.drewN ?_ _ | ((with_reducible refine Ext.setCell' ?_ ?_ _); solve | omega | simp | (simp; omega)) | (with_reducible refine Ext.trans ?_ (by with_reducible assumption))))⟩
          · have hPe : (ptsC ps == 0) = false := beq_eq_false_iff_ne.2 hP
            clear hP
            go_wp2
            go_loopw [21] (fun i wr => i = .int .i64 0 ∧ Ext wv wr) (fun i _ => 0)
            case atStart => exact ⟨rfl, by (repeat (first | with_reducible exact Ext.refl _ | with_reducible assumption | ((with_reducible apply Src.ext); with_reducible assumption) | with_reducible refine Ext.alloc ?_ _ | with_reducible refine Ext.drew ?_ | with_reducible refine Ext.drewN ?_ _ | ((with_reducible refine Ext.setCell' ?_ ?_ _); solve | omega | simp | (simp; omega)) | (with_reducible refine Ext.trans ?_ (by with_reducible assumption))))⟩
            case round =>
              obtain ⟨rfl, hxr⟩ := hrel
              go_wp2
              go_ret
              exact ⟨rfl, by (repeat (first | with_reducible exact Ext.refl _ | with_reducible assumption | ((with_reducible apply Src.ext); with_reducible assumption) | with_reducible refine Ext.alloc ?_ _ | with_reducible refine Ext.drew ?_ | with_reducible refine Ext.drewN ?_ _ | ((with_reducible refine Ext.setCell' ?_ ?_ _); solve | omega | simp | (simp; omega)) | (with_reducible refine Ext.trans ?_ (by with_reducible assumption))))⟩
    · have hNe : (nearC qs px pz == 0) = false := beq_eq_false_iff_ne.2 hN
      clear hN
      by_cases hP : ptsC ps = 0
      · obtain ⟨p0, p1, p2⟩ := ptsC_zero hP
        go_wp2
        go_loopw [21] (fun i wr => ∃ k : Nat, k ≤ ps.length ∧ i = .int .i64 k ∧ Ext w6 wr) (fun i _ => ps.length - (intOf i).toNat)
        case atStart => exact ⟨0, Nat.zero_le _, rfl, by (repeat (first | with_reducible exact Ext.refl _ | with_reducible assumption | ((with_reducible apply Src.ext); with_reducible assumption) | with_reducible refine Ext.alloc ?_ _ | with_reducible refine Ext.drew ?_ | with_reducible refine Ext.drewN ?_ _ | ((with_reducible refine Ext.setCell' ?_ ?_ _); solve | omega | simp | (simp; omega)) | (with_reducible refine Ext.trans ?_ (by with_reducible assumption))))⟩
        case round =>
          obtain ⟨k, hk, rfl, hxr⟩ := hrel
          by_cases hlt : k < ps.length
          · have hSr := hS1.ext (show Ext w1 wr by (repeat (first | with_reducible exact Ext.refl _ | with_reducible assumption | ((with_reducible apply Src.ext); with_reducible assumption) | with_reducible refine Ext.alloc ?_ _ | with_reducible refine Ext.drew ?_ | with_reducible refine Ext.drewN ?_ _ | ((with_reducible refine Ext.setCell' ?_ ?_ _); solve | omega | simp | (simp; omega)) | (with_reducible refine Ext.trans ?_ (by with_reducible assumption)))))
            obtain ⟨b, off, rfl, hbr, d0, d1⟩ := hSr.pt hlt
            have hbx := box_in ps hlt
            have eL : bxL ps = boxLo ps := by simp [bxL, hP]
            have eH : bxH ps = boxHi ps := by simp [bxH, hP]
            rw [← eL, ← eH] at hbx
            generalize ps.getD k (0, 0) = q at d0 d1 hbx
            have r40 := (hxr.cell _ 0 B4.lt).trans e40
            have r41 := (hxr.cell _ 1 B4.lt).trans e41
            have r50 := (hxr.cell _ 0 B5.lt).trans e50
            have r51 := (hxr.cell _ 1 B5.lt).trans e51
            have m1 : ¬ q.1 < (bxL ps).1 := by omega
            have m2 : ¬ q.2 < (bxL ps).2 := by omega
            have m3 : ¬ (bxH ps).1 < q.1 := by omega
            have m4 : ¬ (bxH ps).2 < q.2 := by omega
            have hsr := hxr.size
            have := (show w2.heap.size < wr.heap.size by omega)
            have := (show w2.heap.size + 1 < wr.heap.size by omega)
            have g1 : decide (q.1 < (bxL ps).1) = false := decide_eq_false m1
            have g2 : decide (q.2 < (bxL ps).2) = false := decide_eq_false m2
            have g3 : decide ((bxH ps).1 < q.1) = false := decide_eq_false m3
            have g4 : decide ((bxH ps).2 < q.2) = false := decide_eq_false m4
            clear hbx eL eH m1 m2 m3 m4
            go_wp2
            (refine wp_region_ext (by kernel_rfl) (by kernel_rfl) ?_; (repeat (go_big_quiet_step (fail))); refine wpQuiet_nil ?_; intro wz hxwz; obtain ⟨hcwz, hfwz⟩ := hxwz.rules; have hswz := hxwz.size; (try simp at hswz))
            go_wp2
            go_roundw
            case rel => exact ⟨k + 1, by omega, by go_num, by (repeat (first | with_reducible exact Ext.refl _ | with_reducible assumption | ((with_reducible apply Src.ext); with_reducible assumption) | with_reducible refine Ext.alloc ?_ _ | with_reducible refine Ext.drew ?_ | with_reducible refine Ext.drewN ?_ _ | ((with_reducible refine Ext.setCell' ?_ ?_ _); solve | omega | simp | (simp; omega)) | (with_reducible refine Ext.trans ?_ (by with_reducible assumption))))⟩
            case measure => simp [intOf]; omega
          · go_wp2
            go_ret
            exact ⟨rfl, by (repeat (first | with_reducible exact Ext.refl _ | with_reducible assumption | ((with_reducible apply Src.ext); with_reducible assumption) | with_reducible refine Ext.alloc ?_ _ | with_reducible refine Ext.drew ?_ | with_reducible refine Ext.drewN ?_ _ | ((with_reducible refine Ext.setCell' ?_ ?_ _); solve | omega | simp | (simp; omega)) | (with_reducible refine Ext.trans ?_ (by with_reducible assumption))))⟩
      · have hPe : (ptsC ps == 0) = false := beq_eq_false_iff_ne.2 hP
        clear hP
        go_wp2
        go_loopw [21] (fun i wr => i = .int .i64 0 ∧ Ext w6 wr) (fun i _ => 0)
        case atStart => exact ⟨rfl, by (repeat (first | with_reducible exact Ext.refl _ | with_reducible assumption | ((with_reducible apply Src.ext); with_reducible assumption) | with_reducible refine Ext.alloc ?_ _ | with_reducible refine Ext.drew ?_ | with_reducible refine Ext.drewN ?_ _ | ((with_reducible refine Ext.setCell' ?_ ?_ _); solve | omega | simp | (simp; omega)) | (with_reducible refine Ext.trans ?_ (by with_reducible assumption))))⟩
        case round =>
          obtain ⟨rfl, hxr⟩ := hrel
          go_wp2
          go_ret
          exact ⟨rfl, by (repeat (first | with_reducible exact Ext.refl _ | with_reducible assumption | ((with_reducible apply Src.ext); with_reducible assumption) | with_reducible refine Ext.alloc ?_ _ | with_reducible refine Ext.drew ?_ | with_reducible refine Ext.drewN ?_ _ | ((with_reducible refine Ext.setCell' ?_ ?_ _); solve | omega | simp | (simp; omega)) | (with_reducible refine Ext.trans ?_ (by with_reducible assumption))))⟩
  · have hbg : ∀ W, Calls Try.prog 38 #[.slice A bs.length c] W fun e w' => e = .returned (.bool true) ∧ W = w' := fun W => by
      have := l_big' A c bs.length W
      rwa [decide_eq_true (by omega)] at this
    have HG := Lib.hid hbg
    clear hbg
    go_enter Try.func12, Try.ntmps12
    (go_wp2_with fail; refine (HG.out _).mono ?_; rintro e w' ⟨rfl, rfl⟩)
    go_wp2
    go_ret
    exact ⟨rfl, by (repeat (first | with_reducible exact Ext.refl _ | with_reducible assumption | ((with_reducible apply Src.ext); with_reducible assumption) | with_reducible refine Ext.alloc ?_ _ | with_reducible refine Ext.drew ?_ | with_reducible refine Ext.drewN ?_ _ | ((with_reducible refine Ext.setCell' ?_ ?_ _); solve | omega | simp | (simp; omega)) | (with_reducible refine Ext.trans ?_ (by with_reducible assumption))))⟩
end Go.Proofs.Ytconoaphenahnaa
