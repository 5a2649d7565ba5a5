/- The names of a way up, as the specification tells them. -/
import Derived.Test.YtapfokfbdmcokaaGreatDoorYX
import Derived.Test.YtapfokfbdmcokaaGreatDoorYPC
import Derived.Deep.RegionHeld3
import Derived.Deep.DeepCutAuto
import Derived.RegionTactic
import Derived.BigRegion
import Derived.WalkLawsBesides
import Derived.WalkSpells
import Derived.Lib.MinMax
import Derived.Outline
namespace Go.Proofs.YtapfokfbdmcokaaGreatDoor
open Go.RowKit
attribute [local go_sem] ExtOf.cell ExtOf.frozen


section
variable {w : World} {A A' A9 : Option Addr} {n c m c' r c9 : Nat} {ps : List Pl} {L : List Lk} {ls : List (List UInt8)}
set_option maxRecDepth 20000 in
set_option maxHeartbeats 25600000 in
theorem s_StateLineW (x : List UInt8) (y : Int) (h : WIn w A A' n c m c' ps L) (h9 : SlAt w 1 encS A9 ls) (hr : r = ls.length) (hr9 : r ≤ 1048576) (hs9 : ∀ s ∈ ls, s.length ≤ 1048576) (hx : x.length ≤ 1048576) :
    Calls Tryz.prog 37 #[.agg #[.slice A n c, .slice A' m c'], .string (tx x), .slice A9 r c9, .int .i64 y] w fun e w' => e = .returned (.tuple #[.string (tx (slR (psD ps) L x ls y)), .int .i64 (slC (psD ps) L x ls y)]) ∧ Ext w w' := by
  have HG := Lib.hid (fun W (hW : Ext w W) => s_l14Languages A9 r c9 ls W (h9.ext hW) hr hr9 hs9)
  have HC := Lib.hid (fun W (hW : Ext w W) => s_l14Code x y (h.ext hW) hx)
  have hno : ¬ slC (psD ps) L x ls y = 0 → slR (psD ps) L x ls y = [] := fun q => by unfold slR; rw [if_neg q]
  have hyes : slC (psD ps) L x ls y = 0 → slR (psD ps) L x ls y = jn (slN (psD ps) L x ls y) [44, 32] := fun q => by unfold slR; rw [if_pos q]
  cases hlg : lgB ls with
  | false =>
    have e : slC (psD ps) L x ls y = 1 := by unfold slC; rw [hlg]; exact ssC_false
    rw [hno (by omega), e]
    rw [hlg] at HG
    clear h h9 hr hs9 hx hno hyes hlg e HC
    generalize tx x = sx at *
    go_enter Tryz.func37, Tryz.ntmps37
    go_wp2_with fail
    refine (HG.out _ (by (repeat (first | with_reducible exact Ext.refl _ | with_reducible assumption | ((with_reducible apply Src.ext); with_reducible assumption) | with_reducible refine Ext.alloc ?_ _ | with_reducible refine Ext.drew ?_ | with_reducible refine Ext.drewN ?_ _ | ((with_reducible refine Ext.setCell' ?_ ?_ _); solve | omega | simp | (simp; omega)) | (with_reducible refine Ext.trans ?_ (by with_reducible assumption)))))).mono ?_
    rintro e w1 ⟨rfl, hx1⟩
    obtain ⟨hc1, hf1⟩ := hx1.rules
    have hs1 := hx1.size
    (try simp at hs1)
    have := (show w.heap.size < w1.heap.size from by omega)
    go_wp2
    (refine wp_region_ext (by kernel_rfl) (by kernel_rfl) ?_; (repeat (go_big_quiet_step (fail))); refine wpQuiet_nil ?_; intro wq hxwq; obtain ⟨hcwq, hfwq⟩ := hxwq.rules; have hswq := hxwq.size; (try simp at hswq))
    go_wp2
    go_ret2
    exact ⟨rfl, by (repeat (first | with_reducible exact Ext.refl _ | with_reducible assumption | ((with_reducible apply Src.ext); with_reducible assumption) | with_reducible refine Ext.alloc ?_ _ | with_reducible refine Ext.drew ?_ | with_reducible refine Ext.drewN ?_ _ | ((with_reducible refine Ext.setCell' ?_ ?_ _); solve | omega | simp | (simp; omega)) | (with_reducible refine Ext.trans ?_ (by with_reducible assumption))))⟩
  | true =>
    rw [hlg] at HG
    have hsl : slC (psD ps) L x ls y = ssC (psD ps) L x true y := by unfold slC; rw [hlg]
    by_cases hp : plC (psD ps) L x true y = 0
    · obtain ⟨hw, hxw, _, _, hs⟩ := plC_zero hp
      have hxne : x ≠ [] := fun e => by rw [e] at hxw; exact absurd hxw (by decide)
      rw [hp] at HC
      have hsy : exB ((fndP (psD ps) x).getD pdD) y = true → slC (psD ps) L x ls y = 0 := fun q => hsl.trans (ssC_yes hp q)
      have hsn : exB ((fndP (psD ps) x).getD pdD) y = false → slC (psD ps) L x ls y = 5 := fun q => hsl.trans (ssC_no hp q)
      have hLK := lksB_iff.1 (wdB_iff.1 hw).2.1
      have hlm0 : m ≤ 1048576 := by rw [h.hm]; exact h.hl'
      have HWY : Hid (∀ W, Ext w W → Calls Tryz.prog 84 #[.slice A' m c', .string (tx x), .int .i64 y] W fun e w' => ∃ v, e = .returned (.tuple #[v, .bool true]) ∧ OwS w' W.heap.size v (wayU L x y).1 ∧ Ext W w') := Lib.hid (fun W hW => (s_l12Way A' m c' L x y W (h.sk.ext hW) h.hm hlm0 (LkP.told hLK.1.1) hxne).mono (by
        rintro e w' ⟨hWR, hx⟩
        rcases hWR with ⟨q, _⟩ | ⟨_, v, q1, q2⟩
        · rw [hLK.way x y] at q; cases q
        · exact ⟨v, q1, q2, hx⟩))
      have HNM := Lib.hid (fun z (hz : z ∈ (wayU L x y).1) W (hW : Ext w W) => s_l14Name (c9 := c9) z y (h.ext hW) hw (wdB_way hw hs hz) (h9.ext hW) hr hr9)
      have HJL := Lib.hid (fun k => slN_join (ls := ls) (y := y) h hw hs k)
      have HSM := Lib.hid (slN_small (ls := ls) (y := y) h hw hs)
      have hul : (wayU L x y).1.length ≤ 21 := by
        obtain ⟨_, _, h3⟩ := wayU_ne L x y
        have h4 := lks20 (wdB_iff.1 hw).2.1
        omega
      have HAT := Lib.hid (fun k (hk : k < (wayU L x y).1.length) => slN_at (D := psD ps) (ls := ls) hk)
      have HLN := Lib.hid (slN_len (psD ps) L x ls y)
      clear hsl hp hLK hxw hxne hlm0
      obtain ⟨k, hk1, hk2, hk3, hk4⟩ := fnd_some hs
      rw [psD_len] at hk2
      rw [psD_at hk2] at hk3
      have hln : n ≤ 1048576 := by rw [h.hn]; exact h.hl
      have HF := Lib.hid (fun W (hW : Ext w W) => s_l11Find A n c ps x W (h.sq.ext hW) h.hn hln)
      rw [hk1] at HF
      have hgd : (fndP (psD ps) x).getD pdD = pdOf (ps.getD k plD) := by rw [hk3]; rfl
      have HI0 : IsP w (pdOf (ps.getD k plD)) (.agg #[.string (tx (ps.getD k plD).1), .int .i64 (ps.getD k plD).2.1, .int .i64 (ps.getD k plD).2.2.1, .int .i64 (ps.getD k plD).2.2.2.1, .slice (ps.getD k plD).2.2.2.2.1 (ps.getD k plD).2.2.2.2.2.2.length (ps.getD k plD).2.2.2.2.2.1]) := isP_at h hw hk2
      obtain ⟨bb, off, hA, hb, d0, d1, d2, d3, d4⟩ := h.sq.pl hk2
      subst hA
      have hkn : k < n := by rw [h.hn]; exact hk2
      have hk0 : (0 : Int) ≤ (k : Int) := by omega
      have hlm : m ≤ 1048576 := by rw [h.hm]; exact h.hl'
      rw [hgd] at hsy hsn
      have HSK := Lib.hid h.sk
      have HHM := Lib.hid h.hm
      clear hk1 hk3 hk4 hgd hk2
      generalize pdOf (ps.getD k plD) = d at *
      generalize tx (ps.getD k plD).1 = s0 at *
      generalize (ps.getD k plD).2.1 = s1 at *
      generalize (ps.getD k plD).2.2.1 = s2 at *
      generalize (ps.getD k plD).2.2.2.1 = s3 at *
      generalize (ps.getD k plD).2.2.2.2.1 = s4 at *
      generalize (ps.getD k plD).2.2.2.2.2.2.length = s5 at *
      generalize (ps.getD k plD).2.2.2.2.2.1 = s6 at *
      have HX := Lib.hid (fun z W => HI0.ex z W)
      have HKR : Hid (∀ W, Ext w W → W.cell? ⟨bb, off + k * 5, none⟩ = some (.string s0) ∧ W.cell? ⟨bb, off + k * 5 + 1, none⟩ = some (.int .i64 s1) ∧ W.cell? ⟨bb, off + k * 5 + 2, none⟩ = some (.int .i64 s2) ∧ W.cell? ⟨bb, off + k * 5 + 3, none⟩ = some (.int .i64 s3) ∧ W.cell? ⟨bb, off + k * 5 + 4, none⟩ = some (.slice s4 s5 s6)) := Lib.hid (fun W hW => ⟨(hW.cell _ _ hb).trans d0, (hW.cell _ _ hb).trans d1, (hW.cell _ _ hb).trans d2, (hW.cell _ _ hb).trans d3, (hW.cell _ _ hb).trans d4⟩)
      have HI := Lib.hid HI0
      obtain ⟨e2, e3, e9⟩ := HI0.yrs
      have HE2 := Lib.hid e2
      have HE3 := Lib.hid e3
      clear d0 d1 d2 d3 d4 HI0 e9 e2 e3
      generalize hcz : slC (psD ps) L x ls y = rC at *
      generalize slR (psD ps) L x ls y = rR at *
      generalize tx x = sx at *
      clear hcz
      cases he : exB d y with
      | false =>
        have hc5 := hsn he
        rw [hno (by omega), hc5]
        have HXY := Lib.hid (fun W => HX.out y W)
        rw [he] at HXY
        clear hsy hsn hno hyes he hc5 h h9 hr hs9 hx hw hs
        go_enter Tryz.func37, Tryz.ntmps37
        go_wp2_with fail
        refine (HG.out _ (by (repeat (first | with_reducible exact Ext.refl _ | with_reducible assumption | ((with_reducible apply Src.ext); with_reducible assumption) | with_reducible refine Ext.alloc ?_ _ | with_reducible refine Ext.drew ?_ | with_reducible refine Ext.drewN ?_ _ | ((with_reducible refine Ext.setCell' ?_ ?_ _); solve | omega | simp | (simp; omega)) | (with_reducible refine Ext.trans ?_ (by with_reducible assumption)))))).mono ?_
        rintro e w1 ⟨rfl, hx1⟩
        obtain ⟨hc1, hf1⟩ := hx1.rules
        have hs1 := hx1.size
        (try simp at hs1)
        have := (show w.heap.size < w1.heap.size from by omega)
        go_wp2_with fail
        refine (HC.out _ (by (repeat (first | with_reducible exact Ext.refl _ | with_reducible assumption | ((with_reducible apply Src.ext); with_reducible assumption) | with_reducible refine Ext.alloc ?_ _ | with_reducible refine Ext.drew ?_ | with_reducible refine Ext.drewN ?_ _ | ((with_reducible refine Ext.setCell' ?_ ?_ _); solve | omega | simp | (simp; omega)) | (with_reducible refine Ext.trans ?_ (by with_reducible assumption)))))).mono ?_
        rintro e w2 ⟨rfl, hx2⟩
        obtain ⟨hc2, hf2⟩ := hx2.rules
        have hs2 := hx2.size
        (try simp at hs2)
        have := (show w.heap.size < w2.heap.size from by omega)
        obtain ⟨k1, k2, k3, k4, k5⟩ := HKR.out w2 (by (repeat (first | with_reducible exact Ext.refl _ | with_reducible assumption | ((with_reducible apply Src.ext); with_reducible assumption) | with_reducible refine Ext.alloc ?_ _ | with_reducible refine Ext.drew ?_ | with_reducible refine Ext.drewN ?_ _ | ((with_reducible refine Ext.setCell' ?_ ?_ _); solve | omega | simp | (simp; omega)) | (with_reducible refine Ext.trans ?_ (by with_reducible assumption)))))
        have := (show bb < w2.heap.size from by omega)
        go_wp2
        (refine wp_region_ext (by kernel_rfl) (by kernel_rfl) ?_; (repeat (go_big_quiet_step ((first | (go_at_call 65; exact Calls_same (HF.out _ (Ext.trans (by (repeat (first | with_reducible exact Ext.refl _ | with_reducible assumption | ((with_reducible apply Src.ext); with_reducible assumption) | with_reducible refine Ext.alloc ?_ _ | with_reducible refine Ext.drew ?_ | with_reducible refine Ext.drewN ?_ _ | ((with_reducible refine Ext.setCell' ?_ ?_ _); solve | omega | simp | (simp; omega)) | (with_reducible refine Ext.trans ?_ (by with_reducible assumption))))) (ExtOf.ext _)))) | (go_at_call 52; exact Calls_ext (HXY.out _)))))); refine wpQuiet_nil ?_; intro wq hxwq; obtain ⟨hcwq, hfwq⟩ := hxwq.rules; have hswq := hxwq.size; (try simp at hswq))
        go_wp2
        go_ret2
        exact ⟨rfl, by (repeat (first | with_reducible exact Ext.refl _ | with_reducible assumption | ((with_reducible apply Src.ext); with_reducible assumption) | with_reducible refine Ext.alloc ?_ _ | with_reducible refine Ext.drew ?_ | with_reducible refine Ext.drewN ?_ _ | ((with_reducible refine Ext.setCell' ?_ ?_ _); solve | omega | simp | (simp; omega)) | (with_reducible refine Ext.trans ?_ (by with_reducible assumption))))⟩
      | true =>
        have hc0 := hsy he
        rw [hyes hc0, hc0]
        have HXY := Lib.hid (fun W => HX.out y W)
        rw [he] at HXY
        have HFO : Hid (∀ z, slO (psD ps) ls y z = nmO ((fndP (psD ps) z).getD pdD) ls y) := Lib.hid (fun z => rfl)
        generalize slN (psD ps) L x ls y = N at *
        generalize (wayU L x y).1 = UU at *
        generalize slO (psD ps) ls y = fO at *
        clear hsy hsn hno hyes he hc0 h h9 hr hs9 hx hw hs
        go_enter Tryz.func37, Tryz.ntmps37
        go_wp2_with fail
        refine (HG.out _ (by (repeat (first | with_reducible exact Ext.refl _ | with_reducible assumption | ((with_reducible apply Src.ext); with_reducible assumption) | with_reducible refine Ext.alloc ?_ _ | with_reducible refine Ext.drew ?_ | with_reducible refine Ext.drewN ?_ _ | ((with_reducible refine Ext.setCell' ?_ ?_ _); solve | omega | simp | (simp; omega)) | (with_reducible refine Ext.trans ?_ (by with_reducible assumption)))))).mono ?_
        rintro e w1 ⟨rfl, hx1⟩
        obtain ⟨hc1, hf1⟩ := hx1.rules
        have hs1 := hx1.size
        (try simp at hs1)
        have := (show w.heap.size < w1.heap.size from by omega)
        go_wp2_with fail
        refine (HC.out _ (by (repeat (first | with_reducible exact Ext.refl _ | with_reducible assumption | ((with_reducible apply Src.ext); with_reducible assumption) | with_reducible refine Ext.alloc ?_ _ | with_reducible refine Ext.drew ?_ | with_reducible refine Ext.drewN ?_ _ | ((with_reducible refine Ext.setCell' ?_ ?_ _); solve | omega | simp | (simp; omega)) | (with_reducible refine Ext.trans ?_ (by with_reducible assumption)))))).mono ?_
        rintro e w2 ⟨rfl, hx2⟩
        obtain ⟨hc2, hf2⟩ := hx2.rules
        have hs2 := hx2.size
        (try simp at hs2)
        have := (show w.heap.size < w2.heap.size from by omega)
        obtain ⟨k1, k2, k3, k4, k5⟩ := HKR.out w2 (by (repeat (first | with_reducible exact Ext.refl _ | with_reducible assumption | ((with_reducible apply Src.ext); with_reducible assumption) | with_reducible refine Ext.alloc ?_ _ | with_reducible refine Ext.drew ?_ | with_reducible refine Ext.drewN ?_ _ | ((with_reducible refine Ext.setCell' ?_ ?_ _); solve | omega | simp | (simp; omega)) | (with_reducible refine Ext.trans ?_ (by with_reducible assumption)))))
        have := (show bb < w2.heap.size from by omega)
        go_wp2
        (refine wp_region_ext (by kernel_rfl) (by kernel_rfl) ?_; (repeat (go_big_quiet_step ((first | (go_at_call 65; exact Calls_same (HF.out _ (Ext.trans (by (repeat (first | with_reducible exact Ext.refl _ | with_reducible assumption | ((with_reducible apply Src.ext); with_reducible assumption) | with_reducible refine Ext.alloc ?_ _ | with_reducible refine Ext.drew ?_ | with_reducible refine Ext.drewN ?_ _ | ((with_reducible refine Ext.setCell' ?_ ?_ _); solve | omega | simp | (simp; omega)) | (with_reducible refine Ext.trans ?_ (by with_reducible assumption))))) (ExtOf.ext _)))) | (go_at_call 52; exact Calls_ext (HXY.out _)))))); refine wpQuiet_nil ?_; intro wq hxwq; obtain ⟨hcwq, hfwq⟩ := hxwq.rules; have hswq := hxwq.size; (try simp at hswq))
        have B3 : Blk wq w.heap.size 33 #[.slice (some ⟨bb, off, none⟩) n c, .slice A' m c'] := Blk.eq (by (repeat (first | with_reducible assumption | ((with_reducible apply Blk.new); solve | simp | rfl) | with_reducible apply Blk.drew | with_reducible apply Blk.drewN | ((with_reducible apply Blk.far'); solve | omega | simp | (simp; omega)) | with_reducible apply Blk.set_ | with_reducible apply Blk.alloc | ((with_reducible apply Blk.ext'); with_reducible assumption) | ((with_reducible apply Blk.but'); (with_reducible assumption); solve | omega | (simp; omega))))) (by rfl)
        have hX : Ext w wq := by clear B3; (repeat (first | with_reducible exact Ext.refl _ | with_reducible assumption | ((with_reducible apply Src.ext); with_reducible assumption) | with_reducible refine Ext.alloc ?_ _ | with_reducible refine Ext.drew ?_ | with_reducible refine Ext.drewN ?_ _ | ((with_reducible refine Ext.setCell' ?_ ?_ _); solve | omega | simp | (simp; omega)) | (with_reducible refine Ext.trans ?_ (by with_reducible assumption))))
        have HX9 := Lib.hid hX
        have HB3 := Lib.hid B3
        have z3 := B3.lt
        have t0 : wq.cell? ⟨w.heap.size, 0, none⟩ = some (.slice (some ⟨bb, off, none⟩) n c) := B3.cell 0
        have t1 : wq.cell? ⟨w.heap.size, 1, none⟩ = some (.slice A' m c') := B3.cell 1
        clear B3 hX hxwq hcwq hfwq k1 k2 k3 k4 k5 hc1 hf1 hc2 hf2
        go_wp2_with fail
        refine (HWY.out _ (HX9.out.trans (by (repeat (first | with_reducible exact Ext.refl _ | with_reducible assumption | ((with_reducible apply Src.ext); with_reducible assumption) | with_reducible refine Ext.alloc ?_ _ | with_reducible refine Ext.drew ?_ | with_reducible refine Ext.drewN ?_ _ | ((with_reducible refine Ext.setCell' ?_ ?_ _); solve | omega | simp | (simp; omega)) | (with_reducible refine Ext.trans ?_ (by with_reducible assumption))))))).mono ?_
        rintro e w3 ⟨v, rfl, hO, hx3⟩
        obtain ⟨A7, c7, rfl, hS7, _⟩ := hO.sl len_encS
        have HS7 := Lib.hid hS7
        have HB33 : Hid (Blk w3 w.heap.size 33 #[.slice (some ⟨bb, off, none⟩) n c, .slice A' m c']) := Lib.hid (HB3.out.ext hx3)
        have HX3 : Hid (Ext w w3) := Lib.hid (HX9.out.trans hx3)
        obtain ⟨un, hune⟩ : ∃ un, un = UU.length := ⟨_, rfl⟩
        have HUN := Lib.hid hune
        rw [← hune] at hul ⊢
        have E0 : Hid (tx (jn (N.take 0) [44, 32]) = ⟨#[]⟩) := Lib.hid (by simp [Lib.join_nil, tx])
        have z33 := HB33.out.lt
        clear hO hS7 hx3 hune t0 t1
        go_wp2
        go_loopw [13, 14] (fun sv i wr => ∃ k : Nat, k ≤ un ∧ i = .int .i64 k ∧ sv = .string (tx (jn (N.take k) [44, 32])) ∧ Ext w3 wr) (fun _ i _ => un - (intOf i).toNat)
        case atStart => exact ⟨0, by omega, rfl, by rw [E0.out], by (repeat (first | with_reducible exact Ext.refl _ | with_reducible assumption | ((with_reducible apply Src.ext); with_reducible assumption) | with_reducible refine Ext.alloc ?_ _ | with_reducible refine Ext.drew ?_ | with_reducible refine Ext.drewN ?_ _ | ((with_reducible refine Ext.setCell' ?_ ?_ _); solve | omega | simp | (simp; omega)) | (with_reducible refine Ext.trans ?_ (by with_reducible assumption))))⟩
        case round =>
          obtain ⟨k, hk, rfl, rfl, hxr⟩ := hrel
          obtain ⟨w5, rfl⟩ : ∃ x, x = wr := ⟨wr, rfl⟩
          by_cases hlt : k < un
          · have hkU : k < UU.length := by rw [← HUN.out]; exact hlt
            have hkN : k < N.length := by rw [HLN.out]; exact hkU
            obtain ⟨b7, off7, hA7, hb7, d0⟩ := (HS7.out.ext hxr).st hkU
            subst hA7
            have hB5 : Blk w5 w.heap.size 33 #[.slice (some ⟨bb, off, none⟩) n c, .slice A' m c'] := HB33.out.ext hxr
            have t0 : w5.cell? ⟨w.heap.size, 0, none⟩ = some (.slice (some ⟨bb, off, none⟩) n c) := hB5.cell 0
            have t1 : w5.cell? ⟨w.heap.size, 1, none⟩ = some (.slice A' m c') := hB5.cell 1
            have z5 := hB5.lt
            have HN5 := Lib.hid (HNM.out (UU.getD k []) (by simp [List.getD, hkU]))
            have hnk : nmO ((fndP (psD ps) (UU.getD k [])).getD pdD) ls y = N.getD k [] := by rw [HAT.out k hkU, HFO.out]
            rw [hnk] at HN5
            have hj := jn_take hkN [44, 32]
            have h1 := HJL.out k
            have h2 := HSM.out (N.getD k []) (by simp [List.getD, hkN])
            have HXX := Lib.hid (HX3.out.trans hxr)
            clear hnk hB5 hkU hkN
            generalize tx (UU.getD k []) = su at *
            by_cases hz0 : k = 0
            · rw [if_pos hz0] at hj
              subst hz0
              rw [Nat.add_zero] at d0
              have HJ := Lib.hid hj
              generalize N.getD 0 [] = z at *
              have hf1 : ((tx (jn (N.take 0) [44, 32])).size + (tx z).size > 9223372036854775807) = False := eq_false (by rw [tx_size, tx_size]; omega)
              have E1 : Hid ((tx (jn (N.take 0) [44, 32])) ++ tx z = tx z) := Lib.hid (by rw [tx_add]; simp [Lib.join_nil])
              generalize tx (jn (N.take 0) [44, 32]) = t at *
              generalize hzz : tx z = sz at *
              clear hj h1 h2
              go_wp2
              (refine wp_region_ext (by kernel_rfl) (by kernel_rfl) ?_; (repeat (go_big_quiet_step ((go_at_call 77; exact Calls_ext (HN5.out _ (HXX.out.trans (Ext.trans (by (repeat (first | with_reducible exact Ext.refl _ | with_reducible assumption | ((with_reducible apply Src.ext); with_reducible assumption) | with_reducible refine Ext.alloc ?_ _ | with_reducible refine Ext.drew ?_ | with_reducible refine Ext.drewN ?_ _ | ((with_reducible refine Ext.setCell' ?_ ?_ _); solve | omega | simp | (simp; omega)) | (with_reducible refine Ext.trans ?_ (by with_reducible assumption))))) (ExtOf.ext _)))))))); refine wpQuiet_nil ?_; intro wr2 hxwr2; obtain ⟨hcwr2, hfwr2⟩ := hxwr2.rules; have hswr2 := hxwr2.size; (try simp at hswr2))
              go_wp2
              go_roundw
              case rel => exact ⟨1, by omega, by go_num, by rw [HJ.out, hzz, E1.out], by (repeat (first | with_reducible exact Ext.refl _ | with_reducible assumption | ((with_reducible apply Src.ext); with_reducible assumption) | with_reducible refine Ext.alloc ?_ _ | with_reducible refine Ext.drew ?_ | with_reducible refine Ext.drewN ?_ _ | ((with_reducible refine Ext.setCell' ?_ ?_ _); solve | omega | simp | (simp; omega)) | (with_reducible refine Ext.trans ?_ (by with_reducible assumption))))⟩
              case measure => simp [intOf]; omega
            · rw [if_neg hz0] at hj
              have HJ := Lib.hid hj
              have hkp : (0 : Int) < k := by omega
              generalize N.getD k [] = z at *
              generalize jn (N.take k) [44, 32] = t at *
              have hf1 : ((tx t).size + 2 > 9223372036854775807) = False := eq_false (by rw [tx_size]; omega)
              have hf2 : ((tx t).size + 2 + (tx z).size > 9223372036854775807) = False := eq_false (by rw [tx_size, tx_size]; omega)
              have E1 : Hid (tx t ++ (⟨#[44, 32]⟩ : ByteArray) ++ tx z = tx (t ++ [44, 32] ++ z)) := Lib.hid (by rw [show (⟨#[44, 32]⟩ : ByteArray) = tx [44, 32] from rfl, tx_add, tx_add])
              generalize tx z = sz at *
              clear hj h1 h2
              go_wp2
              (refine wp_region_ext (by kernel_rfl) (by kernel_rfl) ?_; (repeat (go_big_quiet_step ((go_at_call 77; exact Calls_ext (HN5.out _ (HXX.out.trans (Ext.trans (by (repeat (first | with_reducible exact Ext.refl _ | with_reducible assumption | ((with_reducible apply Src.ext); with_reducible assumption) | with_reducible refine Ext.alloc ?_ _ | with_reducible refine Ext.drew ?_ | with_reducible refine Ext.drewN ?_ _ | ((with_reducible refine Ext.setCell' ?_ ?_ _); solve | omega | simp | (simp; omega)) | (with_reducible refine Ext.trans ?_ (by with_reducible assumption))))) (ExtOf.ext _)))))))); refine wpQuiet_nil ?_; intro wr2 hxwr2; obtain ⟨hcwr2, hfwr2⟩ := hxwr2.rules; have hswr2 := hxwr2.size; (try simp at hswr2))
              go_wp2
              go_roundw
              case rel => exact ⟨k + 1, by omega, by go_num, by rw [HJ.out, ← E1.out], by (repeat (first | with_reducible exact Ext.refl _ | with_reducible assumption | ((with_reducible apply Src.ext); with_reducible assumption) | with_reducible refine Ext.alloc ?_ _ | with_reducible refine Ext.drew ?_ | with_reducible refine Ext.drewN ?_ _ | ((with_reducible refine Ext.setCell' ?_ ?_ _); solve | omega | simp | (simp; omega)) | (with_reducible refine Ext.trans ?_ (by with_reducible assumption))))⟩
              case measure => simp [intOf]; omega
          · obtain rfl : k = un := by omega
            have HE : Hid (N.take k = N) := Lib.hid (by rw [HUN.out, ← HLN.out]; exact List.take_length)
            go_wp2
            go_ret2
            rw [HE.out]
            exact ⟨rfl, HX3.out.trans (by (repeat (first | with_reducible exact Ext.refl _ | with_reducible assumption | ((with_reducible apply Src.ext); with_reducible assumption) | with_reducible refine Ext.alloc ?_ _ | with_reducible refine Ext.drew ?_ | with_reducible refine Ext.drewN ?_ _ | ((with_reducible refine Ext.setCell' ?_ ?_ _); solve | omega | simp | (simp; omega)) | (with_reducible refine Ext.trans ?_ (by with_reducible assumption)))))⟩
    · have hz : ¬ slC (psD ps) L x ls y = 0 := fun q => hp (ssC_zero (hsl.symm.trans q)).1
      rw [hno hz, hsl, ssC_ne hp]
      generalize plC (psD ps) L x true y = cd at *
      have hcd : (cd != 0) = true := by simpa using hp
      have hce : (cd == 0) = false := by simpa using hp
      clear h h9 hr hs9 hx hno hyes hlg hsl hz
      generalize tx x = sx at *
      go_enter Tryz.func37, Tryz.ntmps37
      go_wp2_with fail
      refine (HG.out _ (by (repeat (first | with_reducible exact Ext.refl _ | with_reducible assumption | ((with_reducible apply Src.ext); with_reducible assumption) | with_reducible refine Ext.alloc ?_ _ | with_reducible refine Ext.drew ?_ | with_reducible refine Ext.drewN ?_ _ | ((with_reducible refine Ext.setCell' ?_ ?_ _); solve | omega | simp | (simp; omega)) | (with_reducible refine Ext.trans ?_ (by with_reducible assumption)))))).mono ?_
      rintro e w1 ⟨rfl, hx1⟩
      obtain ⟨hc1, hf1⟩ := hx1.rules
      have hs1 := hx1.size
      (try simp at hs1)
      have := (show w.heap.size < w1.heap.size from by omega)
      go_wp2_with fail
      refine (HC.out _ (by (repeat (first | with_reducible exact Ext.refl _ | with_reducible assumption | ((with_reducible apply Src.ext); with_reducible assumption) | with_reducible refine Ext.alloc ?_ _ | with_reducible refine Ext.drew ?_ | with_reducible refine Ext.drewN ?_ _ | ((with_reducible refine Ext.setCell' ?_ ?_ _); solve | omega | simp | (simp; omega)) | (with_reducible refine Ext.trans ?_ (by with_reducible assumption)))))).mono ?_
      rintro e w2 ⟨rfl, hx2⟩
      obtain ⟨hc2, hf2⟩ := hx2.rules
      have hs2 := hx2.size
      (try simp at hs2)
      have := (show w.heap.size < w2.heap.size from by omega)
      go_wp2
      (refine wp_region_ext (by kernel_rfl) (by kernel_rfl) ?_; (repeat (go_big_quiet_step (fail))); refine wpQuiet_nil ?_; intro wq hxwq; obtain ⟨hcwq, hfwq⟩ := hxwq.rules; have hswq := hxwq.size; (try simp at hswq))
      go_wp2
      go_ret2
      exact ⟨rfl, by (repeat (first | with_reducible exact Ext.refl _ | with_reducible assumption | ((with_reducible apply Src.ext); with_reducible assumption) | with_reducible refine Ext.alloc ?_ _ | with_reducible refine Ext.drew ?_ | with_reducible refine Ext.drewN ?_ _ | ((with_reducible refine Ext.setCell' ?_ ?_ _); solve | omega | simp | (simp; omega)) | (with_reducible refine Ext.trans ?_ (by with_reducible assumption))))⟩
end

end Go.Proofs.YtapfokfbdmcokaaGreatDoor
