/- The law of what lies between two years, walked over the translation. -/
import Derived.Test.YtbnkiibjhfcffaaGreatDoorL3
import Derived.Test.YtbnkiibjhfcffaaGreatDoorH6
import Derived.Test.YtbnkiibjhfcffaaGreatDoorY1
import Derived.Test.YtbnkiibjhfcffaaGreatDoorY2
import Derived.Test.YtbnkiibjhfcffaaGreatDoorZ6
import Derived.Test.YtbnkiibjhfcffaaGreatDoorW3
import Derived.Deep.RegionHeld3
import Derived.Deep.DeepCutAuto
import Derived.RegionTactic
import Derived.BigRegion
import Derived.WalkLawsBesides
import Derived.WalkSpells
import Derived.Lib.MinMax
import Derived.Outline
namespace Go.Proofs.YtbnkiibjhfcffaaGreatDoor
open Go.RowKit
attribute [local go_sem] ExtOf.cell ExtOf.frozen

/-- a list of texts that a call hands back, as a row -/
theorem own_call {P : Program} {f : FuncId} {args : Array Value} {W : World} {base : Nat} {xs : List (List UInt8)} {n : Nat} {cd : Value} (hn : n = xs.length)
    (h : Calls P f args W fun e w' => ∃ v, e = .returned (.tuple #[v, cd]) ∧ OwS w' base v xs ∧ Ext W w') :
    Calls P f args W fun e w' => ∃ (B : Option Addr) (b : Nat), e = .returned (.tuple #[.slice B n b, cd]) ∧ SlAt w' 1 encS B xs ∧ Ext W w' := by
  refine h.mono ?_
  rintro e w' ⟨v, rfl, hO, hx⟩
  obtain ⟨B, b, rfl, hS, _, _, _⟩ := hO.sl len_encS
  exact ⟨B, b, by rw [hn], hS, hx⟩
theorem movR_lenF (D : List Pd) (L : List Lk) (a b : Int) : (movR D L a b).length ≤ 1000 := by
  unfold movR
  split
  · rename_i h
    have h1 := wdB_len (wyC_zero h).1
    have h2 := cdsP_len (movB L a b) D
    omega
  · simp
theorem appR_lenF (D : List Pd) (L : List Lk) (a b : Int) : (appR D L a b).length ≤ 1000 := by
  unfold appR
  split
  · rename_i h
    have h1 := wdB_len (wyC_zero h).1
    have h2 := cdsP_len (appB a b) D
    omega
  · simp
theorem tx_ne {a b : List UInt8} (h : a ≠ b) : ((tx a).toList == (tx b).toList) = false := by
  rw [tx_toL, tx_toL]
  exact beq_eq_false_iff_ne.2 h
set_option maxRecDepth 20000 in
set_option maxHeartbeats 25600000 in
theorem fnBetween_walk (A : Option Addr) (c : Nat) (bs : List Int) (w : World) (h : SlAt w 1 encB A bs) (hb : ∀ b ∈ bs, 0 ≤ b ∧ b ≤ 255) (hM : Mx w) :
    Calls Tryz.prog 3 #[.slice A bs.length c] w fun e w' => e = .returned (.bool true) ∧ Ext w w' := by
  by_cases hl : bs.length ≤ 4096
  · have hbg : ∀ W, Calls Tryz.prog 4 #[.slice A bs.length c] W fun e w' => e = .returned (.bool false) ∧ W = w' := fun W => by
      have := l_bigQ A c bs.length W
      rwa [decide_eq_false (by omega)] at this
    have HG := Lib.hid hbg
    have HD1 := Lib.hid (fun W (hW : Ext w W) => s_DrawMovedBetween A c bs W (h.ext hW) hb hl)
    have HD2 := Lib.hid (fun W (hW : Ext w W) => s_DrawRenamedBetween A c bs W (h.ext hW) hb hl)
    have HD3 := Lib.hid (fun W (hW : Ext w W) => s_DrawCountIn A c bs W (h.ext hW) hb hl)
    have HMX := Lib.hid hM
    obtain ⟨nn, hnn⟩ : ∃ n, n = bs.length := ⟨_, rfl⟩
    rw [← hnn] at HG HD1 HD2 HD3 ⊢
    clear hbg hl hnn h hb hM
    go_enter Tryz.func3, Tryz.ntmps3
    (go_wp2_with fail; refine (HG.out _).mono ?_; rintro e w' ⟨rfl, rfl⟩)
    go_wp2_with fail
    refine (HD1.out _ (by (with_reducible repeat (first | exact Ext.refl _ | assumption | (apply Src.ext; assumption) | refine Ext.alloc ?_ _ | refine Ext.drew ?_ | refine Ext.drewN ?_ _ | (refine Ext.setCell' ?_ ?_ _; solve | omega | simp | (simp; omega)) | refine Ext.trans ?_ (by assumption))))).mono ?_
    rintro e w1 ⟨gq1, n1, cq1, A1', m1, ck1, ps1, L1, y1, y2, rfl, hW1, _, hx1⟩
    have hE0k1 : Ext w w1 := hx1
    clear hx1
    have hE1k1 := Ext.refl w1
    have HW1 := Lib.hid hW1.win
    obtain ⟨cd1, hcd1⟩ : ∃ x, x = wyC (psD ps1) L1 true [y1, y2] := ⟨_, rfl⟩
    obtain ⟨ml, hml⟩ : ∃ x, x = movR (psD ps1) L1 y1 y2 := ⟨_, rfl⟩
    obtain ⟨nm, hnm⟩ : ∃ x, x = ml.length := ⟨_, rfl⟩
    obtain ⟨al, hal⟩ : ∃ x, x = appR (psD ps1) L1 y1 y2 := ⟨_, rfl⟩
    obtain ⟨na, hna⟩ : ∃ x, x = al.length := ⟨_, rfl⟩
    have hln : n1 ≤ 11 := hW1.h11
    have HN1 := Lib.hid hW1.hn
    have hmx : nm ≤ 1000 := by rw [hnm, hml]; have := movR_lenF (psD ps1) L1 y1 y2; omega
    have hax : na ≤ 1000 := by rw [hna, hal]; have := appR_lenF (psD ps1) L1 y1 y2; omega
    have HIM := Lib.hid (fun W (hW : Ext w1 W) => own_call (n := nm) hnm (by have := i_MovedBetweenW y1 y2 (HW1.out.ext hW) (HMX.out.ext (hE0k1.trans hW)); rwa [← hcd1, ← hml] at this))
    have HSM := Lib.hid (fun W (hW : Ext w1 W) => own_call (n := nm) hnm (by have := s_MovedBetweenW y1 y2 (HW1.out.ext hW); rwa [← hcd1, ← hml] at this))
    have HIA := Lib.hid (fun W (hW : Ext w1 W) => own_call (n := na) hna (by have := i_AppearedBetweenW y1 y2 (HW1.out.ext hW) (HMX.out.ext (hE0k1.trans hW)); rwa [← hcd1, ← hal] at this))
    have HSA := Lib.hid (fun W (hW : Ext w1 W) => own_call (n := na) hna (by have := s_AppearedBetweenW y1 y2 (HW1.out.ext hW); rwa [← hcd1, ← hal] at this))
    have HIB : Hid (cd1 = 0 → ∀ W, Ext w1 W → Calls Tryz.prog 6 #[.agg #[.slice (some ⟨gq1, 0, none⟩) n1 cq1, .slice A1' m1 ck1], .int .i64 y2, .int .i64 y1] W fun e w' => ∃ (B : Option Addr) (b : Nat), e = .returned (.tuple #[.slice B nm b, .int .i64 0]) ∧ SlAt w' 1 encS B ml ∧ Ext W w') := Lib.hid (fun h0 W hW => own_call (n := nm) hnm (by
      have := i_MovedBetweenW y2 y1 (HW1.out.ext hW) (HMX.out.ext (hE0k1.trans hW))
      rwa [wy_swap, mov_back, ← hcd1, ← hml, h0] at this))
    have HVD : Hid (cd1 = 0 → rgB (psD ps1) = true ∧ inB y1 (-3000) 3000 = true ∧ inB y2 (-3000) 3000 = true) := Lib.hid (fun h0 => by
      rw [hcd1] at h0
      obtain ⟨a1, _, a3⟩ := wyC_zero h0
      simp only [List.all_cons, List.all_nil, Bool.and_true, Bool.and_eq_true] at a3
      exact ⟨(wdB_iff.1 a1).1, a3.1, a3.2⟩)
    have HP1 : Hid (cd1 = 0 → ∀ W, Ext w1 W → Calls Tryz.prog 18 #[.slice (some ⟨gq1, 0, none⟩) n1 cq1, .int .i64 y1] W fun e w' => ∃ (B : Option Addr) (b : Nat), e = .returned (.tuple #[.slice B (cdsP (fun d => exB d y1) (psD ps1)).length b, .int .i64 0]) ∧ SlAt w' 1 encS B (cdsP (fun d => exB d y1) (psD ps1)) ∧ Ext W w') := Lib.hid (fun h0 W hW => own_call rfl (i_PlacesIn _ n1 cq1 ps1 y1 W (HW1.out.ext hW).sq (HW1.out.ext hW).pl HN1.out (by omega) (HMX.out.ext (hE0k1.trans hW)) (HVD.out h0).1 (HVD.out h0).2.1))
    have HP2 : Hid (cd1 = 0 → ∀ W, Ext w1 W → Calls Tryz.prog 18 #[.slice (some ⟨gq1, 0, none⟩) n1 cq1, .int .i64 y2] W fun e w' => ∃ (B : Option Addr) (b : Nat), e = .returned (.tuple #[.slice B (cdsP (fun d => exB d y2) (psD ps1)).length b, .int .i64 0]) ∧ SlAt w' 1 encS B (cdsP (fun d => exB d y2) (psD ps1)) ∧ Ext W w') := Lib.hid (fun h0 W hW => own_call rfl (i_PlacesIn _ n1 cq1 ps1 y2 W (HW1.out.ext hW).sq (HW1.out.ext hW).pl HN1.out (by omega) (HMX.out.ext (hE0k1.trans hW)) (HVD.out h0).1 (HVD.out h0).2.2))
    have HAL : Hid (∀ x ∈ al, ¬ x ∈ cdsP (fun d => exB d y1) (psD ps1) ∧ x ∈ cdsP (fun d => exB d y2) (psD ps1)) := Lib.hid (fun x hx => app_law (by rw [← hal]; exact hx))
    have HPL1 : Hid ((cdsP (fun d => exB d y1) (psD ps1)).length ≤ 11 ∧ (cdsP (fun d => exB d y2) (psD ps1)).length ≤ 11) := Lib.hid ⟨by have := cdsP_len (fun d => exB d y1) (psD ps1); rw [psD_len] at this; have := hW1.hn; omega, by have := cdsP_len (fun d => exB d y2) (psD ps1); rw [psD_len] at this; have := hW1.hn; omega⟩
    have HNM := Lib.hid hnm
    have HNA := Lib.hid hna
    clear hcd1 hml hnm hal hna hW1 HN1
    generalize cdsP (fun d => exB d y1) (psD ps1) = bf at *
    generalize cdsP (fun d => exB d y2) (psD ps1) = af at *
    obtain ⟨nb, hnb⟩ : ∃ x, x = bf.length := ⟨_, rfl⟩
    obtain ⟨nf, hnf⟩ : ∃ x, x = af.length := ⟨_, rfl⟩
    rw [← hnb] at HP1 HPL1
    rw [← hnf] at HP2 HPL1
    have HNB := Lib.hid hnb
    have HNF := Lib.hid hnf
    clear hnb hnf
    go_wp2_with fail
    refine (HIM.out _ (by (with_reducible repeat (first | exact Ext.refl _ | assumption | (apply Src.ext; assumption) | refine Ext.alloc ?_ _ | refine Ext.drew ?_ | refine Ext.drewN ?_ _ | (refine Ext.setCell' ?_ ?_ _; solve | omega | simp | (simp; omega)) | refine Ext.trans ?_ (by assumption))))).mono ?_
    rintro e w2 ⟨B2, b2, rfl, hs2, hx2⟩
    have HB1k2 : Hid (Blk w2 w1.heap.size 27 #[.slice (some ⟨gq1, 0, none⟩) n1 cq1, .slice A1' m1 ck1]) := Lib.hid (Blk.ext (Blk.eq (by (with_reducible repeat (first | assumption | (apply Blk.new; solve | simp | with_unfolding_all rfl) | apply Blk.drew | apply Blk.drewN | (apply Blk.far'; solve | omega | simp | (simp; omega)) | apply Blk.set_ | apply Blk.alloc | (apply Blk.ext'; assumption) | (apply Blk.but'; assumption; solve | omega | (simp; omega))))) (by rfl)) hx2)
    have hX2 : Ext w1 w2 := Ext.trans (by (with_reducible repeat (first | exact Ext.refl _ | assumption | (apply Src.ext; assumption) | refine Ext.alloc ?_ _ | refine Ext.drew ?_ | refine Ext.drewN ?_ _ | (refine Ext.setCell' ?_ ?_ _; solve | omega | simp | (simp; omega)) | refine Ext.trans ?_ (by assumption)))) hx2
    have hE0k2 := hE0k1.trans hX2
    have hE1k2 := hE1k1.trans hX2
    clear hE0k1 hE1k1 hx2
    have HRM1k2 := Lib.hid hs2
    clear hs2
    have e0 : w2.cell? ⟨w1.heap.size, 0, none⟩ = some (.slice (some ⟨gq1, 0, none⟩) n1 cq1) := HB1k2.out.cell 0
    have e1 : w2.cell? ⟨w1.heap.size, 1, none⟩ = some (.slice A1' m1 ck1) := HB1k2.out.cell 1
    go_wp2_with fail
    refine (HSM.out _ (by (with_reducible repeat (first | exact Ext.refl _ | assumption | (apply Src.ext; assumption) | refine Ext.alloc ?_ _ | refine Ext.drew ?_ | refine Ext.drewN ?_ _ | (refine Ext.setCell' ?_ ?_ _; solve | omega | simp | (simp; omega)) | refine Ext.trans ?_ (by assumption))))).mono ?_
    rintro e w3 ⟨B3, b3, rfl, hs3, hx3⟩
    have hX3 : Ext w2 w3 := Ext.trans (by (with_reducible repeat (first | exact Ext.refl _ | assumption | (apply Src.ext; assumption) | refine Ext.alloc ?_ _ | refine Ext.drew ?_ | refine Ext.drewN ?_ _ | (refine Ext.setCell' ?_ ?_ _; solve | omega | simp | (simp; omega)) | refine Ext.trans ?_ (by assumption)))) hx3
    have hE0k3 := hE0k2.trans hX3
    have hE1k3 := hE1k2.trans hX3
    have HB1k3 := Lib.hid (HB1k2.out.ext hX3)
    have HRM1k3 := Lib.hid (HRM1k2.out.ext hX3)
    clear hE0k2 hE1k2 HB1k2 HRM1k2 hx3
    have HRM2k3 := Lib.hid hs3
    clear hs3
    clear e0 e1
    have e0 : w3.cell? ⟨w1.heap.size, 0, none⟩ = some (.slice (some ⟨gq1, 0, none⟩) n1 cq1) := HB1k3.out.cell 0
    have e1 : w3.cell? ⟨w1.heap.size, 1, none⟩ = some (.slice A1' m1 ck1) := HB1k3.out.cell 1
    go_wp2_with fail
    refine (HIA.out _ (by (with_reducible repeat (first | exact Ext.refl _ | assumption | (apply Src.ext; assumption) | refine Ext.alloc ?_ _ | refine Ext.drew ?_ | refine Ext.drewN ?_ _ | (refine Ext.setCell' ?_ ?_ _; solve | omega | simp | (simp; omega)) | refine Ext.trans ?_ (by assumption))))).mono ?_
    rintro e w4 ⟨B4, b4, rfl, hs4, hx4⟩
    have hX4 : Ext w3 w4 := Ext.trans (by (with_reducible repeat (first | exact Ext.refl _ | assumption | (apply Src.ext; assumption) | refine Ext.alloc ?_ _ | refine Ext.drew ?_ | refine Ext.drewN ?_ _ | (refine Ext.setCell' ?_ ?_ _; solve | omega | simp | (simp; omega)) | refine Ext.trans ?_ (by assumption)))) hx4
    have hE0k4 := hE0k3.trans hX4
    have hE1k4 := hE1k3.trans hX4
    have HB1k4 := Lib.hid (HB1k3.out.ext hX4)
    have HRM1k4 := Lib.hid (HRM1k3.out.ext hX4)
    have HRM2k4 := Lib.hid (HRM2k3.out.ext hX4)
    clear hE0k3 hE1k3 HB1k3 HRM1k3 HRM2k3 hx4
    have HRA1k4 := Lib.hid hs4
    clear hs4
    clear e0 e1
    have e0 : w4.cell? ⟨w1.heap.size, 0, none⟩ = some (.slice (some ⟨gq1, 0, none⟩) n1 cq1) := HB1k4.out.cell 0
    have e1 : w4.cell? ⟨w1.heap.size, 1, none⟩ = some (.slice A1' m1 ck1) := HB1k4.out.cell 1
    go_wp2_with fail
    refine (HSA.out _ (by (with_reducible repeat (first | exact Ext.refl _ | assumption | (apply Src.ext; assumption) | refine Ext.alloc ?_ _ | refine Ext.drew ?_ | refine Ext.drewN ?_ _ | (refine Ext.setCell' ?_ ?_ _; solve | omega | simp | (simp; omega)) | refine Ext.trans ?_ (by assumption))))).mono ?_
    rintro e w5 ⟨B5, b5, rfl, hs5, hx5⟩
    have hX5 : Ext w4 w5 := Ext.trans (by (with_reducible repeat (first | exact Ext.refl _ | assumption | (apply Src.ext; assumption) | refine Ext.alloc ?_ _ | refine Ext.drew ?_ | refine Ext.drewN ?_ _ | (refine Ext.setCell' ?_ ?_ _; solve | omega | simp | (simp; omega)) | refine Ext.trans ?_ (by assumption)))) hx5
    have hE0k5 := hE0k4.trans hX5
    have hE1k5 := hE1k4.trans hX5
    have HB1k5 := Lib.hid (HB1k4.out.ext hX5)
    have HRM1k5 := Lib.hid (HRM1k4.out.ext hX5)
    have HRM2k5 := Lib.hid (HRM2k4.out.ext hX5)
    have HRA1k5 := Lib.hid (HRA1k4.out.ext hX5)
    clear hE0k4 hE1k4 HB1k4 HRM1k4 HRM2k4 HRA1k4 hx5
    have HRA2k5 := Lib.hid hs5
    clear hs5
    clear e0 e1
    go_wp2_with fail
    refine (HD2.out _ hE0k5).mono ?_
    rintro e w6 ⟨gq2, n2, cq2, A2', m2, ck2, ps2, L2, A9, c9, ls, z1, z2, rfl, hW2, ⟨hLS, hls1, hls2⟩, _, hx6⟩
    have hX6 : Ext w5 w6 := Ext.trans (by (with_reducible repeat (first | exact Ext.refl _ | assumption | (apply Src.ext; assumption) | refine Ext.alloc ?_ _ | refine Ext.drew ?_ | refine Ext.drewN ?_ _ | (refine Ext.setCell' ?_ ?_ _; solve | omega | simp | (simp; omega)) | refine Ext.trans ?_ (by assumption)))) hx6
    have hE0k6 := hE0k5.trans hX6
    have hE1k6 := hE1k5.trans hX6
    have HB1k6 := Lib.hid (HB1k5.out.ext hX6)
    have HRM1k6 := Lib.hid (HRM1k5.out.ext hX6)
    have HRM2k6 := Lib.hid (HRM2k5.out.ext hX6)
    have HRA1k6 := Lib.hid (HRA1k5.out.ext hX6)
    have HRA2k6 := Lib.hid (HRA2k5.out.ext hX6)
    clear hE0k5 hE1k5 HB1k5 HRM1k5 HRM2k5 HRA1k5 HRA2k5 hx6
    have hE6k6 := Ext.refl w6
    clear hX6
    have HW2 := Lib.hid hW2.win
    have HLS := Lib.hid hLS
    have HN2 := Lib.hid hW2.hn
    have hln2 : n2 ≤ 11 := hW2.h11
    obtain ⟨n9, hn9⟩ : ∃ x, x = ls.length := ⟨_, rfl⟩
    have hn92 : n9 ≤ 2 := by omega
    rw [← hn9]
    obtain ⟨cd2, hcd2⟩ : ∃ x, x = wyC (psD ps2) L2 (lgB ls) [z1, z2] := ⟨_, rfl⟩
    obtain ⟨rl, hrl⟩ : ∃ x, x = renR (psD ps2) L2 ls z1 z2 := ⟨_, rfl⟩
    obtain ⟨nr, hnr⟩ : ∃ x, x = rl.length := ⟨_, rfl⟩
    have hrx : nr ≤ 1000000 := by rw [hnr, hrl]; exact renR_len (psD ps2) L2 ls z1 z2
    have HIR := Lib.hid (fun W (hW : Ext w6 W) => own_call (n := nr) hnr (by have := i_RenamedBetweenW (c9 := c9) z1 z2 (HW2.out.ext hW) (HLS.out.ext hW) hn9 (by omega) (fun s hs => by have := hls2 s hs; omega) (HMX.out.ext (hE0k6.trans hW)); rwa [← hcd2, ← hrl] at this))
    have HSR := Lib.hid (fun W (hW : Ext w6 W) => own_call (n := nr) hnr (by have := s_RenamedBetweenW (c9 := c9) z1 z2 (HW2.out.ext hW) (HLS.out.ext hW) hn9 (by omega) (fun s hs => by have := hls2 s hs; omega); rwa [← hcd2, ← hrl] at this))
    have HNO : Hid (cd2 = 0 → ∀ x ∈ rl, ∃ p q : ByteArray, (p.toList == q.toList) = false ∧ ∀ W, Ext w6 W → (Calls Tryz.prog 17 #[.slice (some ⟨gq2, 0, none⟩) n2 cq2, .string (tx x), .slice A9 n9 c9, .int .i64 z1] W fun e w' => e = .returned (.tuple #[.string p, .int .i64 0]) ∧ Ext W w') ∧ (Calls Tryz.prog 17 #[.slice (some ⟨gq2, 0, none⟩) n2 cq2, .string (tx x), .slice A9 n9 c9, .int .i64 z2] W fun e w' => e = .returned (.tuple #[.string q, .int .i64 0]) ∧ Ext W w')) := Lib.hid (fun h0 x hx => by
      rw [hcd2] at h0
      rw [hrl] at hx
      obtain ⟨d, hf, hxs, hne⟩ := ren_law hx
      obtain ⟨a1, a2, a3⟩ := wyC_zero h0
      simp only [List.all_cons, List.all_nil, Bool.and_true, Bool.and_eq_true] at a3
      have hrg := (wdB_iff.1 a1).1
      have hxl : x.length ≤ 16 := by have := hxs; simp [smL, inB] at this; omega
      exact ⟨tx (nmO d ls z1), tx (nmO d ls z2), tx_ne hne, fun W hW => ⟨i_NameOf _ A9 n2 cq2 n9 c9 ps2 x d ls z1 W (HW2.out.ext hW).sq (HW2.out.ext hW).pl HN2.out (by omega) (HMX.out.ext (hE0k6.trans hW)) hrg a3.1 (HLS.out.ext hW) hn9 (by omega) (fun s hs => by have := hls2 s hs; omega) a2 hxs (by omega) hf, i_NameOf _ A9 n2 cq2 n9 c9 ps2 x d ls z2 W (HW2.out.ext hW).sq (HW2.out.ext hW).pl HN2.out (by omega) (HMX.out.ext (hE0k6.trans hW)) hrg a3.2 (HLS.out.ext hW) hn9 (by omega) (fun s hs => by have := hls2 s hs; omega) a2 hxs (by omega) hf⟩⟩)
    have HNR := Lib.hid hnr
    clear hcd2 hrl hnr hW2 hLS hls1 hls2 hn9 HN2
    go_wp2_with fail
    refine (HIR.out _ (by (with_reducible repeat (first | exact Ext.refl _ | assumption | (apply Src.ext; assumption) | refine Ext.alloc ?_ _ | refine Ext.drew ?_ | refine Ext.drewN ?_ _ | (refine Ext.setCell' ?_ ?_ _; solve | omega | simp | (simp; omega)) | refine Ext.trans ?_ (by assumption))))).mono ?_
    rintro e w7 ⟨B7, b7, rfl, hs7, hx7⟩
    have HB2k7 : Hid (Blk w7 w6.heap.size 27 #[.slice (some ⟨gq2, 0, none⟩) n2 cq2, .slice A2' m2 ck2]) := Lib.hid (Blk.ext (Blk.eq (by (with_reducible repeat (first | assumption | (apply Blk.new; solve | simp | with_unfolding_all rfl) | apply Blk.drew | apply Blk.drewN | (apply Blk.far'; solve | omega | simp | (simp; omega)) | apply Blk.set_ | apply Blk.alloc | (apply Blk.ext'; assumption) | (apply Blk.but'; assumption; solve | omega | (simp; omega))))) (by rfl)) hx7)
    have hX7 : Ext w6 w7 := Ext.trans (by (with_reducible repeat (first | exact Ext.refl _ | assumption | (apply Src.ext; assumption) | refine Ext.alloc ?_ _ | refine Ext.drew ?_ | refine Ext.drewN ?_ _ | (refine Ext.setCell' ?_ ?_ _; solve | omega | simp | (simp; omega)) | refine Ext.trans ?_ (by assumption)))) hx7
    have hE0k7 := hE0k6.trans hX7
    have hE1k7 := hE1k6.trans hX7
    have hE6k7 := hE6k6.trans hX7
    have HB1k7 := Lib.hid (HB1k6.out.ext hX7)
    have HRM1k7 := Lib.hid (HRM1k6.out.ext hX7)
    have HRM2k7 := Lib.hid (HRM2k6.out.ext hX7)
    have HRA1k7 := Lib.hid (HRA1k6.out.ext hX7)
    have HRA2k7 := Lib.hid (HRA2k6.out.ext hX7)
    clear hE0k6 hE1k6 hE6k6 HB1k6 HRM1k6 HRM2k6 HRA1k6 HRA2k6 hx7
    have HRR1k7 := Lib.hid hs7
    clear hs7
    have e0 : w7.cell? ⟨w6.heap.size, 0, none⟩ = some (.slice (some ⟨gq2, 0, none⟩) n2 cq2) := HB2k7.out.cell 0
    have e1 : w7.cell? ⟨w6.heap.size, 1, none⟩ = some (.slice A2' m2 ck2) := HB2k7.out.cell 1
    go_wp2_with fail
    refine (HSR.out _ (by (with_reducible repeat (first | exact Ext.refl _ | assumption | (apply Src.ext; assumption) | refine Ext.alloc ?_ _ | refine Ext.drew ?_ | refine Ext.drewN ?_ _ | (refine Ext.setCell' ?_ ?_ _; solve | omega | simp | (simp; omega)) | refine Ext.trans ?_ (by assumption))))).mono ?_
    rintro e w8 ⟨B8, b8, rfl, hs8, hx8⟩
    have hX8 : Ext w7 w8 := Ext.trans (by (with_reducible repeat (first | exact Ext.refl _ | assumption | (apply Src.ext; assumption) | refine Ext.alloc ?_ _ | refine Ext.drew ?_ | refine Ext.drewN ?_ _ | (refine Ext.setCell' ?_ ?_ _; solve | omega | simp | (simp; omega)) | refine Ext.trans ?_ (by assumption)))) hx8
    have hE0k8 := hE0k7.trans hX8
    have hE1k8 := hE1k7.trans hX8
    have hE6k8 := hE6k7.trans hX8
    have HB1k8 := Lib.hid (HB1k7.out.ext hX8)
    have HRM1k8 := Lib.hid (HRM1k7.out.ext hX8)
    have HRM2k8 := Lib.hid (HRM2k7.out.ext hX8)
    have HRA1k8 := Lib.hid (HRA1k7.out.ext hX8)
    have HRA2k8 := Lib.hid (HRA2k7.out.ext hX8)
    have HB2k8 := Lib.hid (HB2k7.out.ext hX8)
    have HRR1k8 := Lib.hid (HRR1k7.out.ext hX8)
    clear hE0k7 hE1k7 hE6k7 HB1k7 HRM1k7 HRM2k7 HRA1k7 HRA2k7 HB2k7 HRR1k7 hx8
    have HRR2k8 := Lib.hid hs8
    clear hs8
    clear e0 e1
    go_wp2_with fail
    refine (HD3.out _ hE0k8).mono ?_
    rintro e w9 ⟨gq3, n3, cq3, A3', m3, ck3, ps3, L3, tc, y3, rfl, hW3, htc, hx9⟩
    have hX9 : Ext w8 w9 := Ext.trans (by (with_reducible repeat (first | exact Ext.refl _ | assumption | (apply Src.ext; assumption) | refine Ext.alloc ?_ _ | refine Ext.drew ?_ | refine Ext.drewN ?_ _ | (refine Ext.setCell' ?_ ?_ _; solve | omega | simp | (simp; omega)) | refine Ext.trans ?_ (by assumption)))) hx9
    have hE0k9 := hE0k8.trans hX9
    have hE1k9 := hE1k8.trans hX9
    have hE6k9 := hE6k8.trans hX9
    have HB1k9 := Lib.hid (HB1k8.out.ext hX9)
    have HRM1k9 := Lib.hid (HRM1k8.out.ext hX9)
    have HRM2k9 := Lib.hid (HRM2k8.out.ext hX9)
    have HRA1k9 := Lib.hid (HRA1k8.out.ext hX9)
    have HRA2k9 := Lib.hid (HRA2k8.out.ext hX9)
    have HB2k9 := Lib.hid (HB2k8.out.ext hX9)
    have HRR1k9 := Lib.hid (HRR1k8.out.ext hX9)
    have HRR2k9 := Lib.hid (HRR2k8.out.ext hX9)
    clear hE0k8 hE1k8 hE6k8 HB1k8 HRM1k8 HRM2k8 HRA1k8 HRA2k8 HB2k8 HRR1k8 HRR2k8 hx9
    have hE9k9 := Ext.refl w9
    clear hX9
    have HW3 := Lib.hid hW3.win
    have htl := htc.1
    have HIC := Lib.hid (fun W (hW : Ext w9 W) => i_CountInW tc y3 (HW3.out.ext hW) (by omega) (HMX.out.ext (hE0k9.trans hW)))
    have HSC := Lib.hid (fun W (hW : Ext w9 W) => s_CountInW tc y3 (HW3.out.ext hW) (by omega))
    generalize plC (psD ps3) L3 tc true y3 = cd3 at *
    generalize cntR (psD ps3) L3 tc y3 = cn at *
    generalize tx tc = ts at *
    clear hW3 htc htl HW3
    go_wp2_with fail
    refine (HIC.out _ (by (with_reducible repeat (first | exact Ext.refl _ | assumption | (apply Src.ext; assumption) | refine Ext.alloc ?_ _ | refine Ext.drew ?_ | refine Ext.drewN ?_ _ | (refine Ext.setCell' ?_ ?_ _; solve | omega | simp | (simp; omega)) | refine Ext.trans ?_ (by assumption))))).mono ?_
    rintro e w10 ⟨rfl, hx10⟩
    have HB3k10 : Hid (Blk w10 w9.heap.size 27 #[.slice (some ⟨gq3, 0, none⟩) n3 cq3, .slice A3' m3 ck3]) := Lib.hid (Blk.ext (Blk.eq (by (with_reducible repeat (first | assumption | (apply Blk.new; solve | simp | with_unfolding_all rfl) | apply Blk.drew | apply Blk.drewN | (apply Blk.far'; solve | omega | simp | (simp; omega)) | apply Blk.set_ | apply Blk.alloc | (apply Blk.ext'; assumption) | (apply Blk.but'; assumption; solve | omega | (simp; omega))))) (by rfl)) hx10)
    have hX10 : Ext w9 w10 := Ext.trans (by (with_reducible repeat (first | exact Ext.refl _ | assumption | (apply Src.ext; assumption) | refine Ext.alloc ?_ _ | refine Ext.drew ?_ | refine Ext.drewN ?_ _ | (refine Ext.setCell' ?_ ?_ _; solve | omega | simp | (simp; omega)) | refine Ext.trans ?_ (by assumption)))) hx10
    have hE0k10 := hE0k9.trans hX10
    have hE1k10 := hE1k9.trans hX10
    have hE6k10 := hE6k9.trans hX10
    have hE9k10 := hE9k9.trans hX10
    have HB1k10 := Lib.hid (HB1k9.out.ext hX10)
    have HRM1k10 := Lib.hid (HRM1k9.out.ext hX10)
    have HRM2k10 := Lib.hid (HRM2k9.out.ext hX10)
    have HRA1k10 := Lib.hid (HRA1k9.out.ext hX10)
    have HRA2k10 := Lib.hid (HRA2k9.out.ext hX10)
    have HB2k10 := Lib.hid (HB2k9.out.ext hX10)
    have HRR1k10 := Lib.hid (HRR1k9.out.ext hX10)
    have HRR2k10 := Lib.hid (HRR2k9.out.ext hX10)
    clear hE0k9 hE1k9 hE6k9 hE9k9 HB1k9 HRM1k9 HRM2k9 HRA1k9 HRA2k9 HB2k9 HRR1k9 HRR2k9 hx10
    have e0 : w10.cell? ⟨w9.heap.size, 0, none⟩ = some (.slice (some ⟨gq3, 0, none⟩) n3 cq3) := HB3k10.out.cell 0
    have e1 : w10.cell? ⟨w9.heap.size, 1, none⟩ = some (.slice A3' m3 ck3) := HB3k10.out.cell 1
    go_wp2_with fail
    refine (HSC.out _ (by (with_reducible repeat (first | exact Ext.refl _ | assumption | (apply Src.ext; assumption) | refine Ext.alloc ?_ _ | refine Ext.drew ?_ | refine Ext.drewN ?_ _ | (refine Ext.setCell' ?_ ?_ _; solve | omega | simp | (simp; omega)) | refine Ext.trans ?_ (by assumption))))).mono ?_
    rintro e w11 ⟨rfl, hx11⟩
    have hX11 : Ext w10 w11 := Ext.trans (by (with_reducible repeat (first | exact Ext.refl _ | assumption | (apply Src.ext; assumption) | refine Ext.alloc ?_ _ | refine Ext.drew ?_ | refine Ext.drewN ?_ _ | (refine Ext.setCell' ?_ ?_ _; solve | omega | simp | (simp; omega)) | refine Ext.trans ?_ (by assumption)))) hx11
    have hE0k11 := hE0k10.trans hX11
    have hE1k11 := hE1k10.trans hX11
    have hE6k11 := hE6k10.trans hX11
    have hE9k11 := hE9k10.trans hX11
    have HB1k11 := Lib.hid (HB1k10.out.ext hX11)
    have HRM1k11 := Lib.hid (HRM1k10.out.ext hX11)
    have HRM2k11 := Lib.hid (HRM2k10.out.ext hX11)
    have HRA1k11 := Lib.hid (HRA1k10.out.ext hX11)
    have HRA2k11 := Lib.hid (HRA2k10.out.ext hX11)
    have HB2k11 := Lib.hid (HB2k10.out.ext hX11)
    have HRR1k11 := Lib.hid (HRR1k10.out.ext hX11)
    have HRR2k11 := Lib.hid (HRR2k10.out.ext hX11)
    clear hE0k10 hE1k10 hE6k10 hE9k10 HB1k10 HRM1k10 HRM2k10 HRA1k10 HRA2k10 HB2k10 HRR1k10 HRR2k10 hx11
    clear e0 e1 HB3k10 HIC HSC HD1 HD2 HD3
    have hcc1 : (cd1 != cd1) = false := by simp
    have hcc2 : (cd2 != cd2) = false := by simp
    have hcc3 : (cd3 != cd3) = false := by simp
    have hcc4 : (cn != cn) = false := by simp
    go_wp2_with fail
    refine (l_likeTexts B2 B3 nm _ nm _ _ _ HRM1k11.out HRM2k11.out HNM.out HNM.out (by omega)).mono ?_
    rintro e w12 ⟨rfl, hx12⟩
    have hX12 : Ext w11 w12 := Ext.trans (by (with_reducible repeat (first | exact Ext.refl _ | assumption | (apply Src.ext; assumption) | refine Ext.alloc ?_ _ | refine Ext.drew ?_ | refine Ext.drewN ?_ _ | (refine Ext.setCell' ?_ ?_ _; solve | omega | simp | (simp; omega)) | refine Ext.trans ?_ (by assumption)))) hx12
    have hE0k12 := hE0k11.trans hX12
    have hE1k12 := hE1k11.trans hX12
    have hE6k12 := hE6k11.trans hX12
    have hE9k12 := hE9k11.trans hX12
    have HB1k12 := Lib.hid (HB1k11.out.ext hX12)
    have HRM1k12 := Lib.hid (HRM1k11.out.ext hX12)
    have HRM2k12 := Lib.hid (HRM2k11.out.ext hX12)
    have HRA1k12 := Lib.hid (HRA1k11.out.ext hX12)
    have HRA2k12 := Lib.hid (HRA2k11.out.ext hX12)
    have HB2k12 := Lib.hid (HB2k11.out.ext hX12)
    have HRR1k12 := Lib.hid (HRR1k11.out.ext hX12)
    have HRR2k12 := Lib.hid (HRR2k11.out.ext hX12)
    clear hE0k11 hE1k11 hE6k11 hE9k11 HB1k11 HRM1k11 HRM2k11 HRA1k11 HRA2k11 HB2k11 HRR1k11 HRR2k11 hx12
    go_wp2_with fail
    refine (l_likeTexts B4 B5 na _ na _ _ _ HRA1k12.out HRA2k12.out HNA.out HNA.out (by omega)).mono ?_
    rintro e w13 ⟨rfl, hx13⟩
    have hX13 : Ext w12 w13 := Ext.trans (by (with_reducible repeat (first | exact Ext.refl _ | assumption | (apply Src.ext; assumption) | refine Ext.alloc ?_ _ | refine Ext.drew ?_ | refine Ext.drewN ?_ _ | (refine Ext.setCell' ?_ ?_ _; solve | omega | simp | (simp; omega)) | refine Ext.trans ?_ (by assumption)))) hx13
    have hE0k13 := hE0k12.trans hX13
    have hE1k13 := hE1k12.trans hX13
    have hE6k13 := hE6k12.trans hX13
    have hE9k13 := hE9k12.trans hX13
    have HB1k13 := Lib.hid (HB1k12.out.ext hX13)
    have HRM1k13 := Lib.hid (HRM1k12.out.ext hX13)
    have HRM2k13 := Lib.hid (HRM2k12.out.ext hX13)
    have HRA1k13 := Lib.hid (HRA1k12.out.ext hX13)
    have HRA2k13 := Lib.hid (HRA2k12.out.ext hX13)
    have HB2k13 := Lib.hid (HB2k12.out.ext hX13)
    have HRR1k13 := Lib.hid (HRR1k12.out.ext hX13)
    have HRR2k13 := Lib.hid (HRR2k12.out.ext hX13)
    clear hE0k12 hE1k12 hE6k12 hE9k12 HB1k12 HRM1k12 HRM2k12 HRA1k12 HRA2k12 HB2k12 HRR1k12 HRR2k12 hx13
    go_wp2_with fail
    refine (l_likeTexts B7 B8 nr _ nr _ _ _ HRR1k13.out HRR2k13.out HNR.out HNR.out (by omega)).mono ?_
    rintro e w14 ⟨rfl, hx14⟩
    have hX14 : Ext w13 w14 := Ext.trans (by (with_reducible repeat (first | exact Ext.refl _ | assumption | (apply Src.ext; assumption) | refine Ext.alloc ?_ _ | refine Ext.drew ?_ | refine Ext.drewN ?_ _ | (refine Ext.setCell' ?_ ?_ _; solve | omega | simp | (simp; omega)) | refine Ext.trans ?_ (by assumption)))) hx14
    have hE0k14 := hE0k13.trans hX14
    have hE1k14 := hE1k13.trans hX14
    have hE6k14 := hE6k13.trans hX14
    have hE9k14 := hE9k13.trans hX14
    have HB1k14 := Lib.hid (HB1k13.out.ext hX14)
    have HRM1k14 := Lib.hid (HRM1k13.out.ext hX14)
    have HRM2k14 := Lib.hid (HRM2k13.out.ext hX14)
    have HRA1k14 := Lib.hid (HRA1k13.out.ext hX14)
    have HRA2k14 := Lib.hid (HRA2k13.out.ext hX14)
    have HB2k14 := Lib.hid (HB2k13.out.ext hX14)
    have HRR1k14 := Lib.hid (HRR1k13.out.ext hX14)
    have HRR2k14 := Lib.hid (HRR2k13.out.ext hX14)
    clear hE0k13 hE1k13 hE6k13 hE9k13 HB1k13 HRM1k13 HRM2k13 HRA1k13 HRA2k13 HB2k13 HRR1k13 HRR2k13 hx14
    clear HRM2k14
    clear HRA2k14
    clear HRR2k14
    clear hE9k14
    by_cases hc2 : cd2 = 0
    · subst hc2
      have HNO0 := Lib.hid (HNO.out (by first | rfl | trivial))
      clear HNO
      go_wp2
      go_loopw [29] (fun iv wr => ∃ k : Nat, k ≤ nr ∧ iv = .int .i64 k ∧ Ext w14 wr) (fun iv _ => nr - (intOf iv).toNat)
      case atStart => exact ⟨0, by omega, rfl, by (with_reducible repeat (first | exact Ext.refl _ | assumption | (apply Src.ext; assumption) | refine Ext.alloc ?_ _ | refine Ext.drew ?_ | refine Ext.drewN ?_ _ | (refine Ext.setCell' ?_ ?_ _; solve | omega | simp | (simp; omega)) | refine Ext.trans ?_ (by assumption)))⟩
      case round =>
        obtain ⟨k, hk, rfl, hxr⟩ := hrel
        by_cases hlt : k < nr
        · have hkr : k < rl.length := by rw [← HNR.out]; exact hlt
          obtain ⟨b, off, hBB, hb, hcell⟩ := (HRR1k14.out.ext hxr).st hkr
          subst hBB
          obtain ⟨p, q, hne, hcalls⟩ := HNO0.out (rl.getD k []) (by simp [List.getD, hkr])
          generalize tx (rl.getD k []) = sx at *
          have HCA := Lib.hid hcalls
          have hB6 := HB2k14.out.ext hxr
          have e0 : wr.cell? ⟨w6.heap.size, 0, none⟩ = some (.slice (some ⟨gq2, 0, none⟩) n2 cq2) := hB6.cell 0
          have hb6 := hB6.lt
          have hE6r := hE6k14.trans hxr
          clear hcalls hkr hB6
          go_wp2
          (refine wp_region_ext (by kernel_rfl) (by kernel_rfl) ?_; (repeat (go_big_quiet_step ((go_at_call 17; exact Calls_ext ((HCA.out _ (hE6r.trans (ExtOf.ext _))).1))))); refine wpQuiet_nil ?_; intro wq hxwq; obtain ⟨hcwq, hfwq⟩ := hxwq.rules; have hswq := hxwq.size; (try simp at hswq))
          have e0q : wq.cell? ⟨w6.heap.size, 0, none⟩ = some (.slice (some ⟨gq2, 0, none⟩) n2 cq2) := (hxwq.cell w6.heap.size 0 hb6).trans e0
          have hcellq := (hxwq.cell b (off + k) hb).trans hcell
          have hb6q : w6.heap.size < wq.heap.size := Nat.lt_of_lt_of_le hb6 hxwq.size
          have hbq : b < wq.heap.size := Nat.lt_of_lt_of_le hb hxwq.size
          have hE6q := hE6r.trans hxwq
          go_wp2
          (refine wp_region_ext (by kernel_rfl) (by kernel_rfl) ?_; (repeat (go_big_quiet_step ((go_at_call 17; exact Calls_ext ((HCA.out _ (hE6q.trans (ExtOf.ext _))).2))))); refine wpQuiet_nil ?_; intro wz hxwz; obtain ⟨hcwz, hfwz⟩ := hxwz.rules; have hswz := hxwz.size; (try simp at hswz))
          go_wp2
          go_roundw
          case rel => exact ⟨k + 1, by omega, by go_num, (hxr.trans hxwq).trans hxwz⟩
          case measure => simp [intOf]; omega
        · obtain rfl : k = nr := by omega
          obtain ⟨w15, rfl⟩ : ∃ x, x = wr := ⟨wr, rfl⟩
          have hx15 := hxr
          clear hxr
          have hX15 : Ext w14 w15 := Ext.trans (by (with_reducible repeat (first | exact Ext.refl _ | assumption | (apply Src.ext; assumption) | refine Ext.alloc ?_ _ | refine Ext.drew ?_ | refine Ext.drewN ?_ _ | (refine Ext.setCell' ?_ ?_ _; solve | omega | simp | (simp; omega)) | refine Ext.trans ?_ (by assumption)))) hx15
          have hE0k15 := hE0k14.trans hX15
          have hE1k15 := hE1k14.trans hX15
          have HB1k15 := Lib.hid (HB1k14.out.ext hX15)
          have HRM1k15 := Lib.hid (HRM1k14.out.ext hX15)
          have HRA1k15 := Lib.hid (HRA1k14.out.ext hX15)
          clear hE0k14 hE1k14 HB1k14 HRM1k14 HRA1k14 hx15
          by_cases hc1 : cd1 = 0
          · subst hc1
            have e0 : w15.cell? ⟨w1.heap.size, 0, none⟩ = some (.slice (some ⟨gq1, 0, none⟩) n1 cq1) := HB1k15.out.cell 0
            have e1 : w15.cell? ⟨w1.heap.size, 1, none⟩ = some (.slice A1' m1 ck1) := HB1k15.out.cell 1
            go_wp2_with fail
            refine ((HIB.out (by first | rfl | trivial)) _ (by (with_reducible repeat (first | exact Ext.refl _ | assumption | (apply Src.ext; assumption) | refine Ext.alloc ?_ _ | refine Ext.drew ?_ | refine Ext.drewN ?_ _ | (refine Ext.setCell' ?_ ?_ _; solve | omega | simp | (simp; omega)) | refine Ext.trans ?_ (by assumption))))).mono ?_
            rintro e w16 ⟨B16, b16, rfl, hs16, hx16⟩
            have hX16 : Ext w15 w16 := Ext.trans (by (with_reducible repeat (first | exact Ext.refl _ | assumption | (apply Src.ext; assumption) | refine Ext.alloc ?_ _ | refine Ext.drew ?_ | refine Ext.drewN ?_ _ | (refine Ext.setCell' ?_ ?_ _; solve | omega | simp | (simp; omega)) | refine Ext.trans ?_ (by assumption)))) hx16
            have hE0k16 := hE0k15.trans hX16
            have hE1k16 := hE1k15.trans hX16
            have HB1k16 := Lib.hid (HB1k15.out.ext hX16)
            have HRM1k16 := Lib.hid (HRM1k15.out.ext hX16)
            have HRA1k16 := Lib.hid (HRA1k15.out.ext hX16)
            clear hE0k15 hE1k15 HB1k15 HRM1k15 HRA1k15 hx16
            have HRBk16 := Lib.hid hs16
            clear hs16
            clear e0 e1
            go_wp2_with fail
            refine (l_likeTexts B16 B2 nm _ nm _ _ _ HRBk16.out HRM1k16.out HNM.out HNM.out (by omega)).mono ?_
            rintro e w17 ⟨rfl, hx17⟩
            have hX17 : Ext w16 w17 := Ext.trans (by (with_reducible repeat (first | exact Ext.refl _ | assumption | (apply Src.ext; assumption) | refine Ext.alloc ?_ _ | refine Ext.drew ?_ | refine Ext.drewN ?_ _ | (refine Ext.setCell' ?_ ?_ _; solve | omega | simp | (simp; omega)) | refine Ext.trans ?_ (by assumption)))) hx17
            have hE0k17 := hE0k16.trans hX17
            have hE1k17 := hE1k16.trans hX17
            have HB1k17 := Lib.hid (HB1k16.out.ext hX17)
            have HRM1k17 := Lib.hid (HRM1k16.out.ext hX17)
            have HRA1k17 := Lib.hid (HRA1k16.out.ext hX17)
            have HRBk17 := Lib.hid (HRBk16.out.ext hX17)
            clear hE0k16 hE1k16 HB1k16 HRM1k16 HRA1k16 HRBk16 hx17
            have e0 : w17.cell? ⟨w1.heap.size, 0, none⟩ = some (.slice (some ⟨gq1, 0, none⟩) n1 cq1) := HB1k17.out.cell 0
            have e1 : w17.cell? ⟨w1.heap.size, 1, none⟩ = some (.slice A1' m1 ck1) := HB1k17.out.cell 1
            go_wp2_with fail
            refine ((HP1.out (by first | rfl | trivial)) _ (by (with_reducible repeat (first | exact Ext.refl _ | assumption | (apply Src.ext; assumption) | refine Ext.alloc ?_ _ | refine Ext.drew ?_ | refine Ext.drewN ?_ _ | (refine Ext.setCell' ?_ ?_ _; solve | omega | simp | (simp; omega)) | refine Ext.trans ?_ (by assumption))))).mono ?_
            rintro e w18 ⟨B18, b18, rfl, hs18, hx18⟩
            have hX18 : Ext w17 w18 := Ext.trans (by (with_reducible repeat (first | exact Ext.refl _ | assumption | (apply Src.ext; assumption) | refine Ext.alloc ?_ _ | refine Ext.drew ?_ | refine Ext.drewN ?_ _ | (refine Ext.setCell' ?_ ?_ _; solve | omega | simp | (simp; omega)) | refine Ext.trans ?_ (by assumption)))) hx18
            have hE0k18 := hE0k17.trans hX18
            have hE1k18 := hE1k17.trans hX18
            have HB1k18 := Lib.hid (HB1k17.out.ext hX18)
            have HRM1k18 := Lib.hid (HRM1k17.out.ext hX18)
            have HRA1k18 := Lib.hid (HRA1k17.out.ext hX18)
            have HRBk18 := Lib.hid (HRBk17.out.ext hX18)
            clear hE0k17 hE1k17 HB1k17 HRM1k17 HRA1k17 HRBk17 hx18
            have HBFk18 := Lib.hid hs18
            clear hs18
            clear e0 e1
            have e0 : w18.cell? ⟨w1.heap.size, 0, none⟩ = some (.slice (some ⟨gq1, 0, none⟩) n1 cq1) := HB1k18.out.cell 0
            have e1 : w18.cell? ⟨w1.heap.size, 1, none⟩ = some (.slice A1' m1 ck1) := HB1k18.out.cell 1
            go_wp2_with fail
            refine ((HP2.out (by first | rfl | trivial)) _ (by (with_reducible repeat (first | exact Ext.refl _ | assumption | (apply Src.ext; assumption) | refine Ext.alloc ?_ _ | refine Ext.drew ?_ | refine Ext.drewN ?_ _ | (refine Ext.setCell' ?_ ?_ _; solve | omega | simp | (simp; omega)) | refine Ext.trans ?_ (by assumption))))).mono ?_
            rintro e w19 ⟨B19, b19, rfl, hs19, hx19⟩
            have hX19 : Ext w18 w19 := Ext.trans (by (with_reducible repeat (first | exact Ext.refl _ | assumption | (apply Src.ext; assumption) | refine Ext.alloc ?_ _ | refine Ext.drew ?_ | refine Ext.drewN ?_ _ | (refine Ext.setCell' ?_ ?_ _; solve | omega | simp | (simp; omega)) | refine Ext.trans ?_ (by assumption)))) hx19
            have hE0k19 := hE0k18.trans hX19
            have hE1k19 := hE1k18.trans hX19
            have HB1k19 := Lib.hid (HB1k18.out.ext hX19)
            have HRM1k19 := Lib.hid (HRM1k18.out.ext hX19)
            have HRA1k19 := Lib.hid (HRA1k18.out.ext hX19)
            have HRBk19 := Lib.hid (HRBk18.out.ext hX19)
            have HBFk19 := Lib.hid (HBFk18.out.ext hX19)
            clear hE0k18 hE1k18 HB1k18 HRM1k18 HRA1k18 HRBk18 HBFk18 hx19
            have HAFk19 := Lib.hid hs19
            clear hs19
            clear e0 e1
            go_wp2
            go_loopw [40] (fun iv wr => ∃ k : Nat, k ≤ na ∧ iv = .int .i64 k ∧ Ext w19 wr) (fun iv _ => na - (intOf iv).toNat)
            case atStart => exact ⟨0, by omega, rfl, by (with_reducible repeat (first | exact Ext.refl _ | assumption | (apply Src.ext; assumption) | refine Ext.alloc ?_ _ | refine Ext.drew ?_ | refine Ext.drewN ?_ _ | (refine Ext.setCell' ?_ ?_ _; solve | omega | simp | (simp; omega)) | refine Ext.trans ?_ (by assumption)))⟩
            case round =>
              obtain ⟨k, hk, rfl, hxr⟩ := hrel
              obtain ⟨w20, rfl⟩ : ∃ x, x = wr := ⟨wr, rfl⟩
              have hE0r := hE0k19.trans hxr
              by_cases hlt : k < na
              · have hkr : k < al.length := by rw [← HNA.out]; exact hlt
                obtain ⟨b, off, hBB, hb, hcell⟩ := (HRA1k19.out.ext hxr).st hkr
                subst hBB
                obtain ⟨x, hxe⟩ : ∃ x, x = al.getD k [] := ⟨_, rfl⟩
                obtain ⟨hno, hyes⟩ := HAL.out (al.getD k []) (by simp [List.getD, hkr])
                rw [← hxe] at hno hyes hcell
                have HT1 := Lib.hid (fun W (hW : Ext w20 W) => as_boolY (l_hasText B18 nb b18 bf x W ((HBFk19.out.ext hxr).ext hW) HNB.out (by have := HPL1.out.1; omega)) (decide_eq_false hno))
                have HT2 := Lib.hid (fun W (hW : Ext w20 W) => as_boolY (l_hasText B19 nf b19 af x W ((HAFk19.out.ext hxr).ext hW) HNF.out (by have := HPL1.out.2; omega)) (decide_eq_true hyes))
                generalize tx x = sx at *
                clear hno hyes hxe hkr
                go_wp2_with fail
                refine (HT1.out _ (by (with_reducible repeat (first | exact Ext.refl _ | assumption | (apply Src.ext; assumption) | refine Ext.alloc ?_ _ | refine Ext.drew ?_ | refine Ext.drewN ?_ _ | (refine Ext.setCell' ?_ ?_ _; solve | omega | simp | (simp; omega)) | refine Ext.trans ?_ (by assumption))))).mono ?_
                rintro e w21 ⟨rfl, hx21⟩
                have hcell1 := (hx21.cell b (off + k) hb).trans hcell
                go_wp2_with fail
                refine (HT2.out _ (by (with_reducible repeat (first | exact Ext.refl _ | assumption | (apply Src.ext; assumption) | refine Ext.alloc ?_ _ | refine Ext.drew ?_ | refine Ext.drewN ?_ _ | (refine Ext.setCell' ?_ ?_ _; solve | omega | simp | (simp; omega)) | refine Ext.trans ?_ (by assumption))))).mono ?_
                rintro e w22 ⟨rfl, hx22⟩
                go_wp2
                go_roundw
                case rel => exact ⟨k + 1, by omega, by go_num, (hxr.trans hx21).trans hx22⟩
                case measure => simp [intOf]; omega
              · obtain rfl : k = na := by omega
                go_wp2
                go_ret
                exact ⟨rfl, by (with_reducible repeat (first | exact Ext.refl _ | assumption | (apply Src.ext; assumption) | refine Ext.alloc ?_ _ | refine Ext.drew ?_ | refine Ext.drewN ?_ _ | (refine Ext.setCell' ?_ ?_ _; solve | omega | simp | (simp; omega)) | refine Ext.trans ?_ (by assumption)))⟩
          · have hc1' : (cd1 != 0) = true := by simpa using hc1
            go_wp2
            go_ret
            exact ⟨rfl, by (with_reducible repeat (first | exact Ext.refl _ | assumption | (apply Src.ext; assumption) | refine Ext.alloc ?_ _ | refine Ext.drew ?_ | refine Ext.drewN ?_ _ | (refine Ext.setCell' ?_ ?_ _; solve | omega | simp | (simp; omega)) | refine Ext.trans ?_ (by assumption)))⟩
    · have hc2' : (cd2 == 0) = false := beq_eq_false_iff_ne.2 hc2
      go_wp2
      go_loopw [29] (fun iv wr => iv = .int .i64 0 ∧ Ext w14 wr) (fun _ _ => 0)
      case atStart => exact ⟨rfl, by (with_reducible repeat (first | exact Ext.refl _ | assumption | (apply Src.ext; assumption) | refine Ext.alloc ?_ _ | refine Ext.drew ?_ | refine Ext.drewN ?_ _ | (refine Ext.setCell' ?_ ?_ _; solve | omega | simp | (simp; omega)) | refine Ext.trans ?_ (by assumption)))⟩
      case round =>
        obtain ⟨rfl, hxr⟩ := hrel
        obtain ⟨w15, rfl⟩ : ∃ x, x = wr := ⟨wr, rfl⟩
        have hx15 := hxr
        clear hxr
        have hX15 : Ext w14 w15 := Ext.trans (by (with_reducible repeat (first | exact Ext.refl _ | assumption | (apply Src.ext; assumption) | refine Ext.alloc ?_ _ | refine Ext.drew ?_ | refine Ext.drewN ?_ _ | (refine Ext.setCell' ?_ ?_ _; solve | omega | simp | (simp; omega)) | refine Ext.trans ?_ (by assumption)))) hx15
        have hE0k15 := hE0k14.trans hX15
        have hE1k15 := hE1k14.trans hX15
        have HB1k15 := Lib.hid (HB1k14.out.ext hX15)
        have HRM1k15 := Lib.hid (HRM1k14.out.ext hX15)
        have HRA1k15 := Lib.hid (HRA1k14.out.ext hX15)
        clear hE0k14 hE1k14 HB1k14 HRM1k14 HRA1k14 hx15
        by_cases hc1 : cd1 = 0
        · subst hc1
          have e0 : w15.cell? ⟨w1.heap.size, 0, none⟩ = some (.slice (some ⟨gq1, 0, none⟩) n1 cq1) := HB1k15.out.cell 0
          have e1 : w15.cell? ⟨w1.heap.size, 1, none⟩ = some (.slice A1' m1 ck1) := HB1k15.out.cell 1
          go_wp2_with fail
          refine ((HIB.out (by first | rfl | trivial)) _ (by (with_reducible repeat (first | exact Ext.refl _ | assumption | (apply Src.ext; assumption) | refine Ext.alloc ?_ _ | refine Ext.drew ?_ | refine Ext.drewN ?_ _ | (refine Ext.setCell' ?_ ?_ _; solve | omega | simp | (simp; omega)) | refine Ext.trans ?_ (by assumption))))).mono ?_
          rintro e w16 ⟨B16, b16, rfl, hs16, hx16⟩
          have hX16 : Ext w15 w16 := Ext.trans (by (with_reducible repeat (first | exact Ext.refl _ | assumption | (apply Src.ext; assumption) | refine Ext.alloc ?_ _ | refine Ext.drew ?_ | refine Ext.drewN ?_ _ | (refine Ext.setCell' ?_ ?_ _; solve | omega | simp | (simp; omega)) | refine Ext.trans ?_ (by assumption)))) hx16
          have hE0k16 := hE0k15.trans hX16
          have hE1k16 := hE1k15.trans hX16
          have HB1k16 := Lib.hid (HB1k15.out.ext hX16)
          have HRM1k16 := Lib.hid (HRM1k15.out.ext hX16)
          have HRA1k16 := Lib.hid (HRA1k15.out.ext hX16)
          clear hE0k15 hE1k15 HB1k15 HRM1k15 HRA1k15 hx16
          have HRBk16 := Lib.hid hs16
          clear hs16
          clear e0 e1
          go_wp2_with fail
          refine (l_likeTexts B16 B2 nm _ nm _ _ _ HRBk16.out HRM1k16.out HNM.out HNM.out (by omega)).mono ?_
          rintro e w17 ⟨rfl, hx17⟩
          have hX17 : Ext w16 w17 := Ext.trans (by (with_reducible repeat (first | exact Ext.refl _ | assumption | (apply Src.ext; assumption) | refine Ext.alloc ?_ _ | refine Ext.drew ?_ | refine Ext.drewN ?_ _ | (refine Ext.setCell' ?_ ?_ _; solve | omega | simp | (simp; omega)) | refine Ext.trans ?_ (by assumption)))) hx17
          have hE0k17 := hE0k16.trans hX17
          have hE1k17 := hE1k16.trans hX17
          have HB1k17 := Lib.hid (HB1k16.out.ext hX17)
          have HRM1k17 := Lib.hid (HRM1k16.out.ext hX17)
          have HRA1k17 := Lib.hid (HRA1k16.out.ext hX17)
          have HRBk17 := Lib.hid (HRBk16.out.ext hX17)
          clear hE0k16 hE1k16 HB1k16 HRM1k16 HRA1k16 HRBk16 hx17
          have e0 : w17.cell? ⟨w1.heap.size, 0, none⟩ = some (.slice (some ⟨gq1, 0, none⟩) n1 cq1) := HB1k17.out.cell 0
          have e1 : w17.cell? ⟨w1.heap.size, 1, none⟩ = some (.slice A1' m1 ck1) := HB1k17.out.cell 1
          go_wp2_with fail
          refine ((HP1.out (by first | rfl | trivial)) _ (by (with_reducible repeat (first | exact Ext.refl _ | assumption | (apply Src.ext; assumption) | refine Ext.alloc ?_ _ | refine Ext.drew ?_ | refine Ext.drewN ?_ _ | (refine Ext.setCell' ?_ ?_ _; solve | omega | simp | (simp; omega)) | refine Ext.trans ?_ (by assumption))))).mono ?_
          rintro e w18 ⟨B18, b18, rfl, hs18, hx18⟩
          have hX18 : Ext w17 w18 := Ext.trans (by (with_reducible repeat (first | exact Ext.refl _ | assumption | (apply Src.ext; assumption) | refine Ext.alloc ?_ _ | refine Ext.drew ?_ | refine Ext.drewN ?_ _ | (refine Ext.setCell' ?_ ?_ _; solve | omega | simp | (simp; omega)) | refine Ext.trans ?_ (by assumption)))) hx18
          have hE0k18 := hE0k17.trans hX18
          have hE1k18 := hE1k17.trans hX18
          have HB1k18 := Lib.hid (HB1k17.out.ext hX18)
          have HRM1k18 := Lib.hid (HRM1k17.out.ext hX18)
          have HRA1k18 := Lib.hid (HRA1k17.out.ext hX18)
          have HRBk18 := Lib.hid (HRBk17.out.ext hX18)
          clear hE0k17 hE1k17 HB1k17 HRM1k17 HRA1k17 HRBk17 hx18
          have HBFk18 := Lib.hid hs18
          clear hs18
          clear e0 e1
          have e0 : w18.cell? ⟨w1.heap.size, 0, none⟩ = some (.slice (some ⟨gq1, 0, none⟩) n1 cq1) := HB1k18.out.cell 0
          have e1 : w18.cell? ⟨w1.heap.size, 1, none⟩ = some (.slice A1' m1 ck1) := HB1k18.out.cell 1
          go_wp2_with fail
          refine ((HP2.out (by first | rfl | trivial)) _ (by (with_reducible repeat (first | exact Ext.refl _ | assumption | (apply Src.ext; assumption) | refine Ext.alloc ?_ _ | refine Ext.drew ?_ | refine Ext.drewN ?_ _ | (refine Ext.setCell' ?_ ?_ _; solve | omega | simp | (simp; omega)) | refine Ext.trans ?_ (by assumption))))).mono ?_
          rintro e w19 ⟨B19, b19, rfl, hs19, hx19⟩
          have hX19 : Ext w18 w19 := Ext.trans (by (with_reducible repeat (first | exact Ext.refl _ | assumption | (apply Src.ext; assumption) | refine Ext.alloc ?_ _ | refine Ext.drew ?_ | refine Ext.drewN ?_ _ | (refine Ext.setCell' ?_ ?_ _; solve | omega | simp | (simp; omega)) | refine Ext.trans ?_ (by assumption)))) hx19
          have hE0k19 := hE0k18.trans hX19
          have hE1k19 := hE1k18.trans hX19
          have HB1k19 := Lib.hid (HB1k18.out.ext hX19)
          have HRM1k19 := Lib.hid (HRM1k18.out.ext hX19)
          have HRA1k19 := Lib.hid (HRA1k18.out.ext hX19)
          have HRBk19 := Lib.hid (HRBk18.out.ext hX19)
          have HBFk19 := Lib.hid (HBFk18.out.ext hX19)
          clear hE0k18 hE1k18 HB1k18 HRM1k18 HRA1k18 HRBk18 HBFk18 hx19
          have HAFk19 := Lib.hid hs19
          clear hs19
          clear e0 e1
          go_wp2
          go_loopw [40] (fun iv wr => ∃ k : Nat, k ≤ na ∧ iv = .int .i64 k ∧ Ext w19 wr) (fun iv _ => na - (intOf iv).toNat)
          case atStart => exact ⟨0, by omega, rfl, by (with_reducible repeat (first | exact Ext.refl _ | assumption | (apply Src.ext; assumption) | refine Ext.alloc ?_ _ | refine Ext.drew ?_ | refine Ext.drewN ?_ _ | (refine Ext.setCell' ?_ ?_ _; solve | omega | simp | (simp; omega)) | refine Ext.trans ?_ (by assumption)))⟩
          case round =>
            obtain ⟨k, hk, rfl, hxr⟩ := hrel
            obtain ⟨w20, rfl⟩ : ∃ x, x = wr := ⟨wr, rfl⟩
            have hE0r := hE0k19.trans hxr
            by_cases hlt : k < na
            · have hkr : k < al.length := by rw [← HNA.out]; exact hlt
              obtain ⟨b, off, hBB, hb, hcell⟩ := (HRA1k19.out.ext hxr).st hkr
              subst hBB
              obtain ⟨x, hxe⟩ : ∃ x, x = al.getD k [] := ⟨_, rfl⟩
              obtain ⟨hno, hyes⟩ := HAL.out (al.getD k []) (by simp [List.getD, hkr])
              rw [← hxe] at hno hyes hcell
              have HT1 := Lib.hid (fun W (hW : Ext w20 W) => as_boolY (l_hasText B18 nb b18 bf x W ((HBFk19.out.ext hxr).ext hW) HNB.out (by have := HPL1.out.1; omega)) (decide_eq_false hno))
              have HT2 := Lib.hid (fun W (hW : Ext w20 W) => as_boolY (l_hasText B19 nf b19 af x W ((HAFk19.out.ext hxr).ext hW) HNF.out (by have := HPL1.out.2; omega)) (decide_eq_true hyes))
              generalize tx x = sx at *
              clear hno hyes hxe hkr
              go_wp2_with fail
              refine (HT1.out _ (by (with_reducible repeat (first | exact Ext.refl _ | assumption | (apply Src.ext; assumption) | refine Ext.alloc ?_ _ | refine Ext.drew ?_ | refine Ext.drewN ?_ _ | (refine Ext.setCell' ?_ ?_ _; solve | omega | simp | (simp; omega)) | refine Ext.trans ?_ (by assumption))))).mono ?_
              rintro e w21 ⟨rfl, hx21⟩
              have hcell1 := (hx21.cell b (off + k) hb).trans hcell
              go_wp2_with fail
              refine (HT2.out _ (by (with_reducible repeat (first | exact Ext.refl _ | assumption | (apply Src.ext; assumption) | refine Ext.alloc ?_ _ | refine Ext.drew ?_ | refine Ext.drewN ?_ _ | (refine Ext.setCell' ?_ ?_ _; solve | omega | simp | (simp; omega)) | refine Ext.trans ?_ (by assumption))))).mono ?_
              rintro e w22 ⟨rfl, hx22⟩
              go_wp2
              go_roundw
              case rel => exact ⟨k + 1, by omega, by go_num, (hxr.trans hx21).trans hx22⟩
              case measure => simp [intOf]; omega
            · obtain rfl : k = na := by omega
              go_wp2
              go_ret
              exact ⟨rfl, by (with_reducible repeat (first | exact Ext.refl _ | assumption | (apply Src.ext; assumption) | refine Ext.alloc ?_ _ | refine Ext.drew ?_ | refine Ext.drewN ?_ _ | (refine Ext.setCell' ?_ ?_ _; solve | omega | simp | (simp; omega)) | refine Ext.trans ?_ (by assumption)))⟩
        · have hc1' : (cd1 != 0) = true := by simpa using hc1
          go_wp2
          go_ret
          exact ⟨rfl, by (with_reducible repeat (first | exact Ext.refl _ | assumption | (apply Src.ext; assumption) | refine Ext.alloc ?_ _ | refine Ext.drew ?_ | refine Ext.drewN ?_ _ | (refine Ext.setCell' ?_ ?_ _; solve | omega | simp | (simp; omega)) | refine Ext.trans ?_ (by assumption)))⟩

  · have hbg : ∀ W, Calls Tryz.prog 4 #[.slice A bs.length c] W fun e w' => e = .returned (.bool true) ∧ W = w' := fun W => by
      have := l_bigQ A c bs.length W
      rwa [decide_eq_true (by omega)] at this
    have HG := Lib.hid hbg
    clear hbg hl h hb hM
    generalize bs.length = nn at *
    go_enter Tryz.func3, Tryz.ntmps3
    (go_wp2_with fail; refine (HG.out _).mono ?_; rintro e w' ⟨rfl, rfl⟩)
    go_wp2
    go_ret
    exact ⟨rfl, by (with_reducible repeat (first | exact Ext.refl _ | assumption | (apply Src.ext; assumption) | refine Ext.alloc ?_ _ | refine Ext.drew ?_ | refine Ext.drewN ?_ _ | (refine Ext.setCell' ?_ ?_ _; solve | omega | simp | (simp; omega)) | refine Ext.trans ?_ (by assumption)))⟩
end Go.Proofs.YtbnkiibjhfcffaaGreatDoor
