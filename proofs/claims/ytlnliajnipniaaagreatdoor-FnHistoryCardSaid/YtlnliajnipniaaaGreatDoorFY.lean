/- The law of histories, walked over the translation. -/
import Derived.Test.YtlnliajnipniaaaGreatDoorA4
import Derived.Test.YtlnliajnipniaaaGreatDoorH7
import Derived.Test.YtlnliajnipniaaaGreatDoorZ5
import Derived.Test.YtlnliajnipniaaaGreatDoorZ4
import Derived.Test.YtlnliajnipniaaaGreatDoorD2
namespace Go.Proofs.YtlnliajnipniaaaGreatDoor
open Go.RowKit
attribute [local go_sem] ExtOf.cell ExtOf.frozen
theorem own_callI {P : Program} {f : FuncId} {args : Array Value} {W : World} {base : Nat} {xs : List Int} {n : Nat} {cd : Value} (hn : n = xs.length)
  (h : Calls P f args W fun e w' => ∃ v, e = .returned (.tuple #[v, cd]) ∧ OwI w' base v xs ∧ Ext W w') :
  Calls P f args W fun e w' => ∃ (B : Option Addr) (b : Nat), e = .returned (.tuple #[.slice B n b, cd]) ∧ SlAt w' 1 encI B xs ∧ Ext W w' := by
 refine h.mono ?_
 rintro e w' ⟨v, rfl, hO, hx⟩
 obtain ⟨B, b, rfl, hS, _, _, _⟩ := hO.sl len_encI
 exact ⟨B, b, by rw [hn], hS, hx⟩
set_option maxRecDepth 20000 in
set_option maxHeartbeats 25600000 in
theorem fnHistory_walk (A : Option Addr) (c : Nat) (bs : List Int) (w : World) (h : SlAt w 1 encB A bs) (hb : ∀ b ∈ bs, 0 ≤ b ∧ b ≤ 255) (hM : Mx w) :
  Calls Tryz.prog 3 #[.slice A bs.length c] w fun e w' => e = .returned (.bool true) ∧ Ext w w' := by
 by_cases hl : bs.length ≤ 4096
 ·have hbg : ∀ W, Calls Tryz.prog 4 #[.slice A bs.length c] W fun e w' => e = .returned (.bool false) ∧ W = w' := fun W => by
   have := l_bigQ A c bs.length W
   rwa [decide_eq_false (by omega)] at this
  have HG := hI hbg
  have HD1 := hI (fun W (hW : Ext w W) => s_DrawTurnsOf A c bs W (h.ext hW) hb hl)
  have HD2 := hI (fun W (hW : Ext w W) => s_DrawSteadySpan A c bs W (h.ext hW) hb hl)
  have HD3 := hI (fun W (hW : Ext w W) => s_DrawDifferBefore A c bs W (h.ext hW) hb hl)
  have HD4 := hI (fun W (hW : Ext w W) => s_DrawStateLine A c bs W (h.ext hW) hb hl)
  have HMX := hI hM
  obtain ⟨nn, hnn⟩ : ∃ n, n = bs.length := ⟨_, rfl⟩
  rw [← hnn] at HG HD1 HD2 HD3 HD4 ⊢
  clear hbg hl hnn h hb hM
  go_enter Tryz.func3, Tryz.ntmps3
  (go_wp2_with fail; refine (HG.out _).mono ?_; rintro e w' ⟨rfl, rfl⟩)
  go_wp2_with fail
  refine (HD1.out _ xR).mono ?_
  rintro e w1 ⟨gq1, n1, cq1, A1', m1, ck1, ps1, L1, t1, rfl, hW1, ht1, hx1⟩
  have hE0k1 : Ext w w1 := hx1
  clear hx1
  have hE1k1 := Ext.refl w1
  have HW1 := hI hW1.win
  obtain ⟨c1, hc1⟩ : ∃ x, x = trC (psD ps1) L1 t1 := ⟨_, rfl⟩
  obtain ⟨l1, hl1⟩ : ∃ x, x = trR (psD ps1) L1 t1 := ⟨_, rfl⟩
  obtain ⟨k1, hk1⟩ : ∃ x, x = l1.length := ⟨_, rfl⟩
  have hkx : k1 ≤ 6001 := by rw [hk1, hl1]; exact trR_len _ _ _
  have HI1 := hI (fun W (hW : Ext w1 W) => own_callI (n := k1) hk1 (by have := i_TurnsOfW t1 (HW1.out.ext hW) (by omega) (HMX.out.ext (hE0k1.trans hW)); rwa [← hc1, ← hl1] at this))
  have HS1 := hI (fun W (hW : Ext w1 W) => own_callI (n := k1) hk1 (by have := s_TurnsOfW t1 (HW1.out.ext hW) (by omega); rwa [← hc1, ← hl1] at this))
  have HK1 := hI hk1
  generalize tx t1 = s1 at *
  clear hc1 hl1 hk1 hW1 ht1
  go_wp2_with fail
  refine (HI1.out _ (xA xR)).mono ?_
  rintro e w2 ⟨B2, b2, rfl, hs2, hx2⟩
  have HB1k2 : Hid (Blk w2 w1.heap.size 27 #[.slice (some ⟨gq1, 0, none⟩) n1 cq1, .slice A1' m1 ck1]) := hI (Blk.ext (Blk.eq (bN (by omega)) (by rfl)) hx2)
  have hX2 : Ext w1 w2 := Ext.trans (xA xR) hx2
  have hE0k2 := hE0k1.trans hX2
  have hE1k2 := hE1k1.trans hX2
  clear hE0k1 hE1k1 hx2 hX2
  have HR1k2 := hI hs2
  clear hs2
  have eHB10 : w2.cell? ⟨w1.heap.size, 0, none⟩ = some (.slice (some ⟨gq1, 0, none⟩) n1 cq1) := HB1k2.out.cell 0
  have eHB11 : w2.cell? ⟨w1.heap.size, 1, none⟩ = some (.slice A1' m1 ck1) := HB1k2.out.cell 1
  have lHB1 := HB1k2.out.lt
  go_wp2_with fail
  refine (HS1.out _ hE1k2).mono ?_
  rintro e w3 ⟨B3, b3, rfl, hs3, hx3⟩
  have hX3 : Ext w2 w3 := Ext.trans xR hx3
  have hE0k3 := hE0k2.trans hX3
  have hE1k3 := hE1k2.trans hX3
  have HB1k3 := hI (HB1k2.out.ext hX3)
  have HR1k3 := hI (HR1k2.out.ext hX3)
  clear hE0k2 hE1k2 HB1k2 HR1k2 hx3 hX3
  have HR2k3 := hI hs3
  clear hs3 eHB10 eHB11 lHB1 HI1 HS1
  clear HB1k3
  clear hE1k3
  go_wp2_with fail
  refine (HD2.out _ hE0k3).mono ?_
  rintro e w4 ⟨gq2, n2, cq2, A2', m2, ck2, ps2, L2, t2, y2, rfl, hW2, ht2, hx4⟩
  have hX4 : Ext w3 w4 := Ext.trans xR hx4
  have hE0k4 := hE0k3.trans hX4
  have HR1k4 := hI (HR1k3.out.ext hX4)
  have HR2k4 := hI (HR2k3.out.ext hX4)
  clear hE0k3 HR1k3 HR2k3 hx4 hX4
  have hE4k4 := Ext.refl w4
  have HW2 := hI hW2.win
  have htl2 := ht2.1
  obtain ⟨c2, hc2⟩ : ∃ x, x = ssC (psD ps2) L2 t2 true y2 := ⟨_, rfl⟩
  obtain ⟨sa, hsa⟩ : ∃ x, x = ssA (psD ps2) L2 t2 y2 := ⟨_, rfl⟩
  obtain ⟨sz, hsz⟩ : ∃ x, x = ssZ (psD ps2) L2 t2 y2 := ⟨_, rfl⟩
  obtain ⟨c5, hc5⟩ : ∃ x, x = trC (psD ps2) L2 t2 := ⟨_, rfl⟩
  obtain ⟨l5, hl5⟩ : ∃ x, x = trR (psD ps2) L2 t2 := ⟨_, rfl⟩
  obtain ⟨k5, hk5⟩ : ∃ x, x = l5.length := ⟨_, rfl⟩
  have hk5x : k5 ≤ 6001 := by rw [hk5, hl5]; exact trR_len _ _ _
  have HI2 := hI (fun W (hW : Ext w4 W) => by have := i_SteadySpanW t2 y2 (HW2.out.ext hW) (by omega) (HMX.out.ext (hE0k4.trans hW)); rwa [← hc2, ← hsa, ← hsz] at this)
  have HS2 := hI (fun W (hW : Ext w4 W) => by have := s_SteadySpanW t2 y2 (HW2.out.ext hW) (by omega); rwa [← hc2, ← hsa, ← hsz] at this)
  have HI5 := hI (fun W (hW : Ext w4 W) => own_callI (n := k5) hk5 (by have := i_TurnsOfW t2 (HW2.out.ext hW) (by omega) (HMX.out.ext (hE0k4.trans hW)); rwa [← hc5, ← hl5] at this))
  have HLAW : Hid (c2 = 0 → (c5 = 0 ∨ c5 = 3) ∧ sa ≤ y2 ∧ y2 ≤ sz ∧ (-3000 ≤ sa ∧ sz ≤ 3000) ∧ (c5 = 0 → (sa ∈ l5 ∨ sa ≤ -3000) ∧ (sz + 1 ∈ l5 ∨ 3000 ≤ sz))) := hI (fun h0 => by rw [hc2] at h0; rw [hc5, hl5, hsa, hsz]; exact steady_law h0)
  have HK5 := hI hk5
  generalize tx t2 = s2 at *
  clear hc2 hsa hsz hc5 hl5 hk5 hW2 ht2 htl2
  go_wp2_with fail
  refine (HI2.out _ (xA xR)).mono ?_
  rintro e w5 ⟨rfl, hx5⟩
  have HB2k5 : Hid (Blk w5 w4.heap.size 27 #[.slice (some ⟨gq2, 0, none⟩) n2 cq2, .slice A2' m2 ck2]) := hI (Blk.ext (Blk.eq (bN (by omega)) (by rfl)) hx5)
  have hX5 : Ext w4 w5 := Ext.trans (xA xR) hx5
  have hE0k5 := hE0k4.trans hX5
  have hE4k5 := hE4k4.trans hX5
  have HR1k5 := hI (HR1k4.out.ext hX5)
  have HR2k5 := hI (HR2k4.out.ext hX5)
  clear hE0k4 hE4k4 HR1k4 HR2k4 hx5 hX5
  have eHB20 : w5.cell? ⟨w4.heap.size, 0, none⟩ = some (.slice (some ⟨gq2, 0, none⟩) n2 cq2) := HB2k5.out.cell 0
  have eHB21 : w5.cell? ⟨w4.heap.size, 1, none⟩ = some (.slice A2' m2 ck2) := HB2k5.out.cell 1
  have lHB2 := HB2k5.out.lt
  go_wp2_with fail
  refine (HS2.out _ (xA hE4k5)).mono ?_
  rintro e w6 ⟨rfl, hx6⟩
  have HP1k6 : Hid (Blk w6 w5.heap.size 36 #[.int .i64 sa, .int .i64 sz]) := hI (Blk.ext (Blk.eq (bN (by omega)) (by rfl)) hx6)
  have hX6 : Ext w5 w6 := Ext.trans (xA xR) hx6
  have hE0k6 := hE0k5.trans hX6
  have hE4k6 := hE4k5.trans hX6
  have HR1k6 := hI (HR1k5.out.ext hX6)
  have HR2k6 := hI (HR2k5.out.ext hX6)
  have HB2k6 := hI (HB2k5.out.ext hX6)
  clear hE0k5 hE4k5 HR1k5 HR2k5 HB2k5 hx6 hX6
  clear eHB20 eHB21 lHB2 HI2 HS2
  go_wp2_with fail
  refine (HD3.out _ (xA hE0k6)).mono ?_
  rintro e w7 ⟨gq3, n3, cq3, A3', m3, ck3, ps3, L3, B4, n4, cq4, A4', m4, ck4, ps4, L4, y3, rfl, hW3, hW4, hx7⟩
  have HP2k7 : Hid (Blk w7 w6.heap.size 36 #[.int .i64 sa, .int .i64 sz]) := hI (Blk.ext (Blk.eq (bN (by omega)) (by rfl)) hx7)
  have hX7 : Ext w6 w7 := Ext.trans (xA xR) hx7
  have hE0k7 := hE0k6.trans hX7
  have hE4k7 := hE4k6.trans hX7
  have HR1k7 := hI (HR1k6.out.ext hX7)
  have HR2k7 := hI (HR2k6.out.ext hX7)
  have HB2k7 := hI (HB2k6.out.ext hX7)
  have HP1k7 := hI (HP1k6.out.ext hX7)
  clear hE0k6 hE4k6 HR1k6 HR2k6 HB2k6 HP1k6 hx7 hX7
  have hE7k7 := Ext.refl w7
  have HW3 := hI hW3.win
  have HW4 := hI hW4
  have HI3 := hI (fun W (hW : Ext w7 W) => i_DifferBeforeW y3 (HW3.out.ext hW) (HW4.out.ext hW) (HMX.out.ext (hE0k7.trans hW)))
  have HS3 := hI (fun W (hW : Ext w7 W) => s_DifferBeforeW y3 (HW3.out.ext hW) (HW4.out.ext hW))
  generalize dbR (psD ps3) L3 (psD ps4) L4 y3 = db at *
  generalize wyC (psD ps3) L3 (wdB (psD ps4) L4) [y3] = c3 at *
  clear hW3 hW4
  go_wp2_with fail
  refine (HI3.out _ (xA (xA xR))).mono ?_
  rintro e w8 ⟨rfl, hx8⟩
  have HB3k8 : Hid (Blk w8 w7.heap.size 27 #[.slice (some ⟨gq3, 0, none⟩) n3 cq3, .slice A3' m3 ck3]) := hI (Blk.ext (Blk.eq (bA (bN (by omega))) (by rfl)) hx8)
  have HB4k8 : Hid (Blk w8 (w7.heap.size + 1) 27 #[.slice B4 n4 cq4, .slice A4' m4 ck4]) := hI (Blk.ext (Blk.eq (bN (by first|omega|simp)) (by rfl)) hx8)
  have hX8 : Ext w7 w8 := Ext.trans (xA (xA xR)) hx8
  have hE0k8 := hE0k7.trans hX8
  have hE4k8 := hE4k7.trans hX8
  have hE7k8 := hE7k7.trans hX8
  have HR1k8 := hI (HR1k7.out.ext hX8)
  have HR2k8 := hI (HR2k7.out.ext hX8)
  have HB2k8 := hI (HB2k7.out.ext hX8)
  have HP1k8 := hI (HP1k7.out.ext hX8)
  have HP2k8 := hI (HP2k7.out.ext hX8)
  clear hE0k7 hE4k7 hE7k7 HR1k7 HR2k7 HB2k7 HP1k7 HP2k7 hx8 hX8
  have eHB30 : w8.cell? ⟨w7.heap.size, 0, none⟩ = some (.slice (some ⟨gq3, 0, none⟩) n3 cq3) := HB3k8.out.cell 0
  have eHB31 : w8.cell? ⟨w7.heap.size, 1, none⟩ = some (.slice A3' m3 ck3) := HB3k8.out.cell 1
  have lHB3 := HB3k8.out.lt
  have eHB40 : w8.cell? ⟨(w7.heap.size + 1), 0, none⟩ = some (.slice B4 n4 cq4) := HB4k8.out.cell 0
  have eHB41 : w8.cell? ⟨(w7.heap.size + 1), 1, none⟩ = some (.slice A4' m4 ck4) := HB4k8.out.cell 1
  have lHB4 := HB4k8.out.lt
  go_wp2_with fail
  refine (HS3.out _ hE7k8).mono ?_
  rintro e w9 ⟨rfl, hx9⟩
  have hX9 : Ext w8 w9 := Ext.trans xR hx9
  have hE0k9 := hE0k8.trans hX9
  have hE4k9 := hE4k8.trans hX9
  have hE7k9 := hE7k8.trans hX9
  have HR1k9 := hI (HR1k8.out.ext hX9)
  have HR2k9 := hI (HR2k8.out.ext hX9)
  have HB2k9 := hI (HB2k8.out.ext hX9)
  have HP1k9 := hI (HP1k8.out.ext hX9)
  have HP2k9 := hI (HP2k8.out.ext hX9)
  clear hE0k8 hE4k8 hE7k8 HR1k8 HR2k8 HB2k8 HP1k8 HP2k8 hx9 hX9
  clear eHB30 eHB31 lHB3 eHB40 eHB41 lHB4 HB3k8 HB4k8 HI3 HS3
  clear hE7k9
  go_wp2_with fail
  refine (HD4.out _ hE0k9).mono ?_
  rintro e w10 ⟨gq5, n5, cq5, A5', m5, ck5, ps5, L5, t5, A9, c9, ls, y5, rfl, hW5, ht5, ⟨hLS, hls1, hls2⟩, _, hx10⟩
  have hX10 : Ext w9 w10 := Ext.trans xR hx10
  have hE0k10 := hE0k9.trans hX10
  have hE4k10 := hE4k9.trans hX10
  have HR1k10 := hI (HR1k9.out.ext hX10)
  have HR2k10 := hI (HR2k9.out.ext hX10)
  have HB2k10 := hI (HB2k9.out.ext hX10)
  have HP1k10 := hI (HP1k9.out.ext hX10)
  have HP2k10 := hI (HP2k9.out.ext hX10)
  clear hE0k9 hE4k9 HR1k9 HR2k9 HB2k9 HP1k9 HP2k9 hx10 hX10
  have hE10k10 := Ext.refl w10
  have HW5 := hI hW5.win
  have HLS := hI hLS
  have HI4 := hI (fun W (hW : Ext w10 W) => i_StateLineW (c9 := c9) t5 y5 (HW5.out.ext hW) (HLS.out.ext hW) rfl (by omega) (fun s hs => by have := hls2 s hs; omega) (by omega) (HMX.out.ext (hE0k10.trans hW)))
  have HS4 := hI (fun W (hW : Ext w10 W) => s_StateLineW (c9 := c9) t5 y5 (HW5.out.ext hW) (HLS.out.ext hW) rfl (by omega) (fun s hs => by have := hls2 s hs; omega) (by omega))
  generalize tx (slR (psD ps5) L5 t5 ls y5) = st at *
  generalize slC (psD ps5) L5 t5 ls y5 = c4 at *
  generalize tx t5 = s5 at *
  generalize ls.length = n9 at *
  clear hW5 ht5 hLS hls1 hls2
  go_wp2_with fail
  refine (HI4.out _ (xA xR)).mono ?_
  rintro e w11 ⟨rfl, hx11⟩
  have HB5k11 : Hid (Blk w11 w10.heap.size 27 #[.slice (some ⟨gq5, 0, none⟩) n5 cq5, .slice A5' m5 ck5]) := hI (Blk.ext (Blk.eq (bN (by omega)) (by rfl)) hx11)
  have hX11 : Ext w10 w11 := Ext.trans (xA xR) hx11
  have hE0k11 := hE0k10.trans hX11
  have hE4k11 := hE4k10.trans hX11
  have hE10k11 := hE10k10.trans hX11
  have HR1k11 := hI (HR1k10.out.ext hX11)
  have HR2k11 := hI (HR2k10.out.ext hX11)
  have HB2k11 := hI (HB2k10.out.ext hX11)
  have HP1k11 := hI (HP1k10.out.ext hX11)
  have HP2k11 := hI (HP2k10.out.ext hX11)
  clear hE0k10 hE4k10 hE10k10 HR1k10 HR2k10 HB2k10 HP1k10 HP2k10 hx11 hX11
  have eHB50 : w11.cell? ⟨w10.heap.size, 0, none⟩ = some (.slice (some ⟨gq5, 0, none⟩) n5 cq5) := HB5k11.out.cell 0
  have eHB51 : w11.cell? ⟨w10.heap.size, 1, none⟩ = some (.slice A5' m5 ck5) := HB5k11.out.cell 1
  have lHB5 := HB5k11.out.lt
  go_wp2_with fail
  refine (HS4.out _ hE10k11).mono ?_
  rintro e w12 ⟨rfl, hx12⟩
  have hX12 : Ext w11 w12 := Ext.trans xR hx12
  have hE0k12 := hE0k11.trans hX12
  have hE4k12 := hE4k11.trans hX12
  have hE10k12 := hE10k11.trans hX12
  have HR1k12 := hI (HR1k11.out.ext hX12)
  have HR2k12 := hI (HR2k11.out.ext hX12)
  have HB2k12 := hI (HB2k11.out.ext hX12)
  have HP1k12 := hI (HP1k11.out.ext hX12)
  have HP2k12 := hI (HP2k11.out.ext hX12)
  clear hE0k11 hE4k11 hE10k11 HR1k11 HR2k11 HB2k11 HP1k11 HP2k11 hx12 hX12
  clear eHB50 eHB51 lHB5 HB5k11 HI4 HS4 HD1 HD2 HD3 HD4
  clear hE10k12
  have hcc1 : (c1 != c1) = false := by simp
  have hcc2 : (c2 != c2) = false := by simp
  have hcc3 : (c3 != c3) = false := by simp
  have hcc4 : (c4 != c4) = false := by simp
  have hsa1 : (sa != sa) = false := by simp
  have hsz1 : (sz != sz) = false := by simp
  have hst1 : (st.toList == st.toList) = true := by simp
  go_wp2_with fail
  refine (l_likeInts B2 B3 k1 _ k1 _ _ _ HR1k12.out HR2k12.out HK1.out HK1.out (by omega)).mono ?_
  rintro e w13 ⟨rfl, hx13⟩
  have hX13 : Ext w12 w13 := Ext.trans xR hx13
  have hE0k13 := hE0k12.trans hX13
  have hE4k13 := hE4k12.trans hX13
  have HB2k13 := hI (HB2k12.out.ext hX13)
  have HP1k13 := hI (HP1k12.out.ext hX13)
  have HP2k13 := hI (HP2k12.out.ext hX13)
  clear hE0k12 hE4k12 HB2k12 HP1k12 HP2k12 hx13 hX13
  clear HR1k12 HR2k12
  have q0 : w13.cell? ⟨w5.heap.size, 0, none⟩ = some (.int .i64 sa) := HP1k13.out.cell 0
  have q1 : w13.cell? ⟨w5.heap.size, 1, none⟩ = some (.int .i64 sz) := HP1k13.out.cell 1
  have r0 : w13.cell? ⟨w6.heap.size, 0, none⟩ = some (.int .i64 sa) := HP2k13.out.cell 0
  have r1 : w13.cell? ⟨w6.heap.size, 1, none⟩ = some (.int .i64 sz) := HP2k13.out.cell 1
  have eHB20 : w13.cell? ⟨w4.heap.size, 0, none⟩ = some (.slice (some ⟨gq2, 0, none⟩) n2 cq2) := HB2k13.out.cell 0
  have eHB21 : w13.cell? ⟨w4.heap.size, 1, none⟩ = some (.slice A2' m2 ck2) := HB2k13.out.cell 1
  have lHB2 := HB2k13.out.lt
  have hdb : (db != db) = false := by cases db <;> rfl
  rcases Decidable.em (c2 = 0) with h20 | h20
  ·subst h20
   obtain ⟨hc5, hya, hyz, ⟨hb1, hb2⟩, hin⟩ := HLAW.out rfl
   have HIN := hI hin
   have hya2 : decide (y2 < sa) = false := decide_eq_false (by omega)
   have hyz2 : decide (sz < y2) = false := decide_eq_false (by omega)
   have hw1 : IntKind.i64.wrap (sz + 1) = sz + 1 := IntWalk.i64_in _ (by omega)
   clear HLAW hin hya hyz
   go_wp2_with fail
   refine (HI5.out _ hE4k13).mono ?_
   rintro e w14 ⟨B5, b5, rfl, hs5, hx14⟩
   have hX14 : Ext w13 w14 := Ext.trans xR hx14
   have hE0k14 := hE0k13.trans hX14
   have HP1k14 := hI (HP1k13.out.ext hX14)
   have HS5 := hI hs5
   clear q0 q1 r0 r1 eHB20 eHB21 lHB2 HB2k13 HP1k13 HP2k13 hE0k13 hE4k13 hx14 hX14 hs5 HI5 hcc1 hcc2 hcc3 hcc4 hsa1 hsz1 hst1 hdb
   have q0 : w14.cell? ⟨w5.heap.size, 0, none⟩ = some (.int .i64 sa) := HP1k14.out.cell 0
   have q1 : w14.cell? ⟨w5.heap.size, 1, none⟩ = some (.int .i64 sz) := HP1k14.out.cell 1
   have hlq := HP1k14.out.lt
   rcases hc5 with rfl | rfl
   ·have hin := HIN.out rfl
    have HH1 := hI (fun W (hW : Ext w14 W) => l_hasInt B5 k5 b5 l5 sa W (HS5.out.ext hW) HK5.out (by omega))
    have HH2 := hI (fun W (hW : Ext w14 W) => l_hasInt B5 k5 b5 l5 (sz + 1) W (HS5.out.ext hW) HK5.out (by omega))
    have hqa : decide (sa ∈ l5) = false → decide (-3000 < sa) = false := fun h => decide_eq_false (by have := of_decide_eq_false h; rcases hin.1 with e | e; exact absurd e this; omega)
    have hqb : decide (sz + 1 ∈ l5) = false → decide (sz < 3000) = false := fun h => decide_eq_false (by have := of_decide_eq_false h; rcases hin.2 with e | e; exact absurd e this; omega)
    have HQA := hI hqa
    have HQB := hI hqb
    clear hqa hqb hin HIN HS5 HK5 hb1 hb2
    generalize decide (sa ∈ l5) = qa at *
    generalize decide (sz + 1 ∈ l5) = qb at *
    have hqa : qa = false → decide (-3000 < sa) = false := HQA.out
    have hqb : qb = false → decide (sz < 3000) = false := HQB.out
    clear HQA HQB
    go_wp2_with fail
    refine (HH1.out _ xR).mono ?_
    rintro e w15 ⟨rfl, hx15⟩
    have hX15 : Ext w14 w15 := Ext.trans xR hx15
    have HP1k15 := hI (HP1k14.out.ext hX15)
    have hE0k15 := hE0k14.trans hX15
    clear q0 q1 hlq hx15
    have q0 : w15.cell? ⟨w5.heap.size, 0, none⟩ = some (.int .i64 sa) := HP1k15.out.cell 0
    have q1 : w15.cell? ⟨w5.heap.size, 1, none⟩ = some (.int .i64 sz) := HP1k15.out.cell 1
    have hlq := HP1k15.out.lt
    have key : ∀ (R : Prop), (qa = true → R) → (decide (-3000 < sa) = false → qa = false → R) → R := fun R h1 h2 => by
     cases hq : qa with
     | true => exact h1 hq
     | false => exact h2 (hqa hq) hq
    have key2 : ∀ (R : Prop), (qb = true → R) → (decide (sz < 3000) = false → qb = false → R) → R := fun R h1 h2 => by
     cases hq : qb with
     | true => exact h1 hq
     | false => exact h2 (hqb hq) hq
    have HKEY := hI key
    have HKEY2 := hI key2
    clear hqa hqb key key2
    refine HKEY.out _ (fun e1 => ?_) (fun d1 e1 => ?_)
    ·subst e1
     refine HKEY2.out _ (fun e2 => ?_) (fun d2 e2 => ?_)
     ·subst e2
      go_wp2_with fail
      refine (HH2.out _ hX15).mono ?_
      rintro e w16 ⟨rfl, hx16⟩
      go_wp2
      go_ret
      exact ⟨rfl, xT hE0k15 hx16⟩
     ·subst e2
      go_wp2_with fail
      refine (HH2.out _ hX15).mono ?_
      rintro e w16 ⟨rfl, hx16⟩
      have hX16 : Ext w15 w16 := Ext.trans xR hx16
      have HP1k16 := hI (HP1k15.out.ext hX16)
      have q1' : w16.cell? ⟨w5.heap.size, 1, none⟩ = some (.int .i64 sz) := HP1k16.out.cell 1
      go_wp2
      go_ret
      exact ⟨rfl, xT hE0k15 hX16⟩
    ·subst e1
     refine HKEY2.out _ (fun e2 => ?_) (fun d2 e2 => ?_)
     ·subst e2
      go_wp2_with fail
      refine (HH2.out _ hX15).mono ?_
      rintro e w16 ⟨rfl, hx16⟩
      go_wp2
      go_ret
      exact ⟨rfl, xT hE0k15 hx16⟩
     ·subst e2
      go_wp2_with fail
      refine (HH2.out _ hX15).mono ?_
      rintro e w16 ⟨rfl, hx16⟩
      have hX16 : Ext w15 w16 := Ext.trans xR hx16
      have HP1k16 := hI (HP1k15.out.ext hX16)
      have q1' : w16.cell? ⟨w5.heap.size, 1, none⟩ = some (.int .i64 sz) := HP1k16.out.cell 1
      go_wp2
      go_ret
      exact ⟨rfl, xT hE0k15 hX16⟩
   ·go_wp2
    go_ret
    exact ⟨rfl, hE0k14⟩
  ·have h20b : (c2 == 0) = false := by simpa using h20
   clear h20 HLAW
   go_wp2
   go_ret
   exact ⟨rfl, hE0k13⟩
 ·have hbg : ∀ W, Calls Tryz.prog 4 #[.slice A bs.length c] W fun e w' => e = .returned (.bool true) ∧ W = w' := fun W => by
   have := l_bigQ A c bs.length W
   rwa [decide_eq_true (by omega)] at this
  have HG := hI hbg
  clear hbg hl h hb hM
  generalize bs.length = nn at *
  go_enter Tryz.func3, Tryz.ntmps3
  (go_wp2_with fail; refine (HG.out _).mono ?_; rintro e w' ⟨rfl, rfl⟩)
  go_wp2
  go_ret
  exact ⟨rfl, xR⟩
end Go.Proofs.YtlnliajnipniaaaGreatDoor
