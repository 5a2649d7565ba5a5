/- Texts of names, as the specification tells them. Years in which something of a world begins or has ended, as the specification sees them. Two worlds that are the same in a year, as the specification tells it. The years in which two worlds differ, as the program tells them. The years in which two worlds differ, as the specification tells them. -/
import Derived.Test.YtlnliajnipniaaaGreatDoorD1
namespace Go.Proofs.YtlnliajnipniaaaGreatDoor
open Go.RowKit
attribute [local go_sem] ExtOf.cell ExtOf.frozen
set_option maxRecDepth 20000 in
set_option maxHeartbeats 12800000 in
theorem s_l14Texts (p : Pl) (y : Int) (w : World) (h : PlAt w p) (hl : p.2.2.2.2.2.2.length ≤ 1000) :
  Calls Tryz.prog 87 #[.agg #[.string (tx p.1), .int .i64 p.2.1, .int .i64 p.2.2.1, .int .i64 p.2.2.2.1, .slice p.2.2.2.2.1 p.2.2.2.2.2.2.length p.2.2.2.2.2.1], .int .i64 y] w fun e w' => ∃ v, e = .returned v ∧ OwS w' w.heap.size v (txL p.2.2.2.2.2.2 y) ∧ Ext w w' := by
 have HS := hI h.1
 have HU := hI (fun W (hW : Ext w W) => s_l09Used _ _ p.2.2.2.2.2.1 p.2.2.2.2.2.2 y W (h.1.ext hW) rfl hl)
 clear h
 generalize tx p.1 = q0 at *
 generalize p.2.1 = q1 at *
 generalize p.2.2.1 = q2 at *
 generalize p.2.2.2.1 = q3 at *
 generalize p.2.2.2.2.1 = A at *
 generalize p.2.2.2.2.2.1 = c at *
 generalize p.2.2.2.2.2.2 = ns at *
 obtain ⟨n, hn⟩ : ∃ n, n = ns.length := ⟨_, rfl⟩
 have HN := hI hn
 rw [← hn] at hl HU ⊢
 clear hn
 go_enter Tryz.func87, Tryz.ntmps87
 go_wp2_with fail
 refine (HU.out _ (xA xR)).mono ?_
 rintro e w1 ⟨v, rfl, hO, hx1⟩
 obtain ⟨A7, c7, rfl, hS7, _⟩ := hO.sl len_encI
 have HS7 := hI hS7
 have HS70 := hI hS7
 have hul : (usL ns y).length ≤ 1000 := Nat.le_trans (usTo_len _ _ _) (by rw [← HN.out]; omega)
 obtain ⟨p, hp⟩ : ∃ p, p = (usL ns y).length := ⟨_, rfl⟩
 rw [← hp] at hul ⊢
 have HPL := hI hp
 have hBP : Blk w1 w.heap.size 57 #[.string q0, .int .i64 q1, .int .i64 q2, .int .i64 q3, .slice A n c] := Blk.eq (bE hx1 (bN (by omega))) (by rfl)
 have hX1 : Ext w w1 := by clear hBP; exact xT (xA xR) hx1
 have HX1 := hI hX1
 have zp := hBP.lt
 have HBP1 := hI hBP
 clear hS7 hO hp HU hx1 hX1
 have hsw1 := HX1.out.size
 go_wp2
 go_loopw [6, 7] (fun v i wr => ∃ j : Nat, j ≤ p ∧ i = .int .i64 j ∧ Hid (OwS wr w1.heap.size v (txPart ns y j)) ∧ Blk wr w.heap.size 57 #[.string q0, .int .i64 q1, .int .i64 q2, .int .i64 q3, .slice A n c] ∧ Ext w wr ∧ Hid (SlAt wr 1 encI A7 (usL ns y)) ∧ Ext w1 wr) (fun _ i _ => p - (intOf i).toNat)
 case atStart => exact ⟨0, by omega, rfl, hI (Own.of_blk (g := w1.heap.size) (cs := #[]) (xs := []) (bN (by omega)) len_encS rfl (Nat.le_refl _) (by simp)), HBP1.out.ext (xA xR), HX1.out.trans (xA xR), hI (HS7.out.ext (xA xR)), xA xR⟩
 case round =>
  clear hBP
  obtain ⟨j, hj, rfl, HV, hBP, hxr, HS7, hx1r⟩ := hrel
  have hs15 := hx1r.size
  have HX1R := hI hx1r
  clear hx1r
  obtain ⟨w5, rfl⟩ : ∃ x, x = wr := ⟨wr, rfl⟩
  have zp5 := hBP.lt
  have HBP := hI hBP
  by_cases hjl : j < p
  ·have hju : j < (usL ns y).length := by rw [← HPL.out]; exact hjl
   obtain ⟨b7, off7, hA7, hb7, c7u⟩ := HS70.out.it hju
   have HS71 : Hid (SlAt w1 1 encI (some ⟨b7, off7, none⟩) (usL ns y)) := hI (hA7 ▸ HS70.out)
   subst hA7
   obtain ⟨i0, hi0, hi1, hi2⟩ := usTo_at ns y ns.length hju
   have hgu : (usL ns y).getD j 0 = (i0 : Int) := hi0
   rw [hgu] at c7u
   have hin0 : i0 < n := by rw [HN.out]; exact hi1
   obtain ⟨b, off, hA, hb, d0, d1, d2, d3, d4⟩ := (HS.out.ext HX1.out).nm hi1
   subst hA
   have u41 : w1.cell? ⟨w.heap.size, 4, none⟩ = some (.slice (some ⟨b, off, none⟩) n c) := HBP1.out.cell 4
   have zp1 := HBP1.out.lt
   have u4 : w5.cell? ⟨w.heap.size, 4, none⟩ = some (.slice (some ⟨b, off, none⟩) n c) := hBP.cell 4
   have HSU : Hid (txPart ns y (j + 1) = txPart ns y j ++ [(ns.getD i0 nmD).1]) := hI (by rw [txPart_succ hju, hgu]; rfl)
   have HBL := hI (fun (W : World) (g : Nat) (hB : Blk W g 9 #[.string (tx (ns.getD i0 nmD).1)]) => blk_s1c hB)
   have HLN : Hid ((txPart ns y j).length ≤ 1000) := hI (Nat.le_trans (txPart_len ns y j) (by rw [← HN.out]; exact hl))
   have HSX := HS7
   clear hBP hi0 hi2 hgu d1 d2 d3 d4 HS7 hju
   generalize ns.getD i0 nmD = l at *
   generalize tx l.1 = s0 at *
   have hsr := hxr.size
   have h0i : (0 : Int) ≤ (i0 : Int) := by omega
   have HKC : Hid (∀ W, Ext w1 W → W.cell? ⟨w.heap.size, 4, none⟩ = some (.slice (some ⟨b, off, none⟩) n c) ∧ W.cell? ⟨b7, off7 + j, none⟩ = some (.int .i64 (i0 : Int)) ∧ W.cell? ⟨b, off + i0 * 5, none⟩ = some (.string s0)) := hI (fun W hW => ⟨(hW.cell _ _ zp1).trans u41, (hW.cell _ _ hb7).trans c7u, (hW.cell _ _ hb).trans d0⟩)
   obtain ⟨v41, v42, v43⟩ := HKC.out w5 HX1R.out
   have hbl5 := World.block_lt_of_cell? _ _ v43
   have hb75 := World.block_lt_of_cell? _ _ v42
   clear u41 u4 c7u d0 hb hb7
   go_wp2
   go_region_held3 (fun w' => w'.cell? ⟨w.heap.size, 4, none⟩ = some (.slice (some ⟨b, off, none⟩) n c) ∧ w'.cell? ⟨b7, off7 + j, none⟩ = some (.int .i64 (i0 : Int)) ∧ w'.cell? ⟨b, off + i0 * 5, none⟩ = some (.string s0)) (first | exact HKC.out _ hx16 | exact HKC.out _ (HX1R.out.trans (by with_reducible first|exact xD xR|exact xD (xA xR))) | go_keep) (first | (refine step_append_sl elS len_encS one_encS rfl _ _ rfl rfl (HV.out.ext (xD (xA xR))) (xs := [l.1]) rfl (HBL.out _ _ (bD (bN (by omega)))) (by have := HLN.out; simp; unfold maxLen; omega) (by have := HLN.out; simp; omega) (by first | omega | (simp; omega)) ?_; intro v6 w6 hO6 hg6 _; have hx6 : Ext w w6 := Ext.grown (hxr.trans (xD (xA xR))) hg6 (fun q hq => Nat.le_trans hsw1 (HV.out.row q hq).1); have hB6 := blk_keptE hg6 (HBP.out.ext (xD (xA xR))) (fun e => by have := (HV.out.row _ e.symm).1; omega); have hx16 : Ext w1 w6 := Ext.grown (HX1R.out.trans (xD (xA xR))) hg6 (fun q hq => (HV.out.row q hq).1)))
   all_goals
    have HV2 := hI hO6
    have HSX6 : Hid (SlAt w6 1 encI _ (usL ns y)) := hI (HS71.out.ext hx16)
    clear hO6 hg6
    go_wp2
    go_roundw
    case rel => exact ⟨j + 1, by omega, by go_num, hI (by rw [HSU.out]; exact HV2.out), hB6, hx6, HSX6, hx16⟩
    case measure => simp [intOf]; omega
  ·obtain rfl : j = p := by omega
   have HO : Hid (OwS w5 w1.heap.size _ (txL ns y)) := hI (by rw [← txPart_all, ← HPL.out]; exact HV.out)
   go_wp2
   go_ret
   exact ⟨_, rfl, (HO.out.ext xR).less hsw1, hxr⟩
theorem step_append_slA {α : Type} {enc : α → List Value} {sz by_ : Nat} {P : Program} {ts te : TypeId} (H : ElT P ts te sz by_) (hk : ∀ x, (enc x).length = sz) (h1 : ∀ x, ∀ u ∈ enc x, u.oneCell' = true) {w : World} {ops : Array Oper} {o : Oper} {a : Act} {K : Act → World → Prop} {Q : Exit → Act → World → Prop} {E : Prop} (hgd : o.guard = none) (s x : Operand)
  (ho : o.op = .call { callee := .builtin .append, args := #[s, x], argTypes := #[ts, ts] }) {base : Nat} {v : Value} {ys : List α} (hs : a.eval s = v) (hown : Own enc sz te w base v ys)
  {A : Option Addr} {c : Nat} {xs : List α} (hx : a.eval x = .slice A xs.length c) (hsl : SlAt w sz enc A xs) (h63 : ys.length + xs.length ≤ maxLen) (hbytes : (ys.length + xs.length) * by_ ≤ 140737488355328) (hbase : base ≤ w.heap.size)
  (h : ∀ v' w', Own enc sz te w' base v' (ys ++ xs) → w.grownBy w' v.ownBlock → (v'.ownBlock = v.ownBlock ∨ v'.ownBlock = some w.heap.size) → K (a.put o.dst v') w') :
  if Region.wanted o (yielded ops a.tmps) = true then Oper.wp P o a w K Q else E := by
 have hw : Region.wanted o (yielded ops a.tmps) = true := by simp [Region.wanted, hgd]
 rw [if_pos hw]
 obtain ⟨v', w', a1, a2, a3, a4, a5⟩ := run_append_slA H o.type hk h1 hown (c := c) hsl h63 hbytes hbase
 exact Lib.wp_append_run w s x ts ts ho _ _ hs hx v' w' a1 (h v' w' a2 a3 a5)
theorem wdB_n12 {D : List Pd} {L : List Lk} (h : wdB D L = true) : ∀ d ∈ D, d.2.2.2.2.length ≤ 12 := fun d hd => by
 obtain ⟨j, hj, rfl⟩ := List.mem_iff_getElem.1 hd
 have := wdB_pl h hj
 rw [show D.getD j pdD = D[j] by simp [List.getD, hj]] at this
 exact (nsB_iff.1 (plB_iff.1 this).2.2.2.1).2
theorem lk_sp {L : List Lk} (h : lksB L = true) {j : Nat} (hj : j < L.length) : -3000 ≤ (L.getD j lkD).2.2.1 ∧ (L.getD j lkD).2.2.1 ≤ (L.getD j lkD).2.2.2 ∧ (L.getD j lkD).2.2.2 ≤ 3000 := by
 have h1 := ((lksB_iff.1 h).1.1 j hj).1
 unfold lkB at h1
 simp only [Bool.and_eq_true] at h1
 exact spB_iff.1 h1.2
theorem nm_sp {ns : List Nm} (h : nsB ns = true) {i : Nat} (hi : i < ns.length) : -3000 ≤ (ns.getD i nmD).2.2.2.1 ∧ (ns.getD i nmD).2.2.2.1 ≤ (ns.getD i nmD).2.2.2.2 ∧ (ns.getD i nmD).2.2.2.2 ≤ 3000 := by
 have h5 := (okN_iff.1 ((nsB_iff.1 h).1 i hi)).1
 unfold nmB at h5
 simp only [Bool.and_eq_true] at h5
 exact spB_iff.1 h5.2
section
variable {w : World} {A A' : Option Addr} {n c m c' : Nat} {ps : List Pl} {L : List Lk}
set_option maxRecDepth 20000 in
set_option maxHeartbeats 25600000 in
theorem s_l14Marks (h : WIn w A A' n c m c' ps L) (hw : wdB (psD ps) L = true) :
  Calls Tryz.prog 42 #[.agg #[.slice A n c, .slice A' m c']] w fun e w' => ∃ v, e = .returned v ∧ OwI w' w.heap.size v (mkW (psD ps) L) ∧ Ext w w' := by
 have HS := hI h.sq
 have HSK := hI h.sk
 have HN := hI h.hn
 have HM := hI h.hm
 have HPA := hI (fun k (hk : k < ps.length) => (h.pl _ (pl_mem hk)).1)
 have HPB : Hid (∀ k, k < ps.length → plB (pdOf (ps.getD k plD)) = true) := hI (fun k hk => by have := wdB_pl hw (j := k) (by rw [psD_len]; exact hk); rwa [psD_at hk] at this)
 have HLS := hI (fun k (hk : k < L.length) => lk_sp (wdB_iff.1 hw).2.1 hk)
 have hn10 : n ≤ 10 := by have := wdB_len hw; rw [psD_len, ← h.hn] at this; exact this
 have hm20 : m ≤ 20 := by rw [h.hm]; exact (lksB_iff.1 (wdB_iff.1 hw).2.1).1.2
 have HLEN := hI (fun k => mkP_len (wdB_n12 hw) k)
 clear h hw
 go_enter Tryz.func42, Tryz.ntmps42
 go_wp2
 go_loopw [3, 4] (fun v i wr => ∃ k : Nat, k ≤ n ∧ i = .int .i64 k ∧ Hid (OwI wr (w.heap.size + 1) v ([-3000] ++ mkP (psD ps) k)) ∧ Blk wr w.heap.size 27 #[.slice A n c, .slice A' m c'] ∧ Ext w wr) (fun _ i _ => n - (intOf i).toNat)
 case atStart => exact ⟨0, by omega, rfl, hI (Own.of_blk (g := w.heap.size + 1) (cs := #[.int .i64 (-3000)]) (xs := [-3000]) (bN (by first|omega|simp)) len_encI rfl (Nat.le_refl _) (by simp [maxLen])), bA (bN (by omega)), xA (xA xR)⟩
 case round =>
  obtain ⟨k, hk, rfl, HV, hBW, hxr⟩ := hrel
  obtain ⟨w5, rfl⟩ : ∃ x, x = wr := ⟨wr, rfl⟩
  have HBW := hI hBW
  have t0 : w5.cell? ⟨w.heap.size, 0, none⟩ = some (.slice A n c) := hBW.cell 0
  have zw := hBW.lt
  have hsr := hxr.size
  by_cases hlt : k < n
  ·have hkr : k < ps.length := by rw [← HN.out]; exact hlt
   obtain ⟨b9, off, hA, hb, d0, d1, d2, d3, d4⟩ := (HS.out.ext hxr).pl hkr
   subst hA
   have hsp := plB_sp (HPB.out k hkr)
   have hsp2 : -3000 ≤ (ps.getD k plD).2.2.1 ∧ (ps.getD k plD).2.2.1 ≤ (ps.getD k plD).2.2.2.1 ∧ (ps.getD k plD).2.2.2.1 ≤ 3000 := hsp
   have hns := (plB_iff.1 (HPB.out k hkr)).2.2.2.1
   have HNS : Hid (nsB (ps.getD k plD).2.2.2.2.2.2 = true) := hI hns
   have HSU : Hid ([-3000] ++ mkP (psD ps) (k + 1) = ([-3000] ++ mkP (psD ps) k) ++ [(ps.getD k plD).2.2.1, (ps.getD k plD).2.2.2.1 + 1] ++ mkN (ps.getD k plD).2.2.2.2.2.2 (ps.getD k plD).2.2.2.2.2.2.length) := hI (by
    rw [mkP_succ (by rw [psD_len]; exact hkr), psD_at hkr]
    simp only [List.append_assoc]
    rfl)
   have HSN := hI (HPA.out k hkr)
   have HLN : Hid (([-3000] ++ mkP (psD ps) k).length ≤ 1000) := hI (by have := HLEN.out k; rw [List.length_append]; simp only [List.length_singleton]; omega)
   clear hsp hns hkr
   generalize tx (ps.getD k plD).1 = s0 at *
   generalize (ps.getD k plD).2.1 = s1 at *
   generalize (ps.getD k plD).2.2.1 = s2 at *
   generalize (ps.getD k plD).2.2.2.1 = s3 at *
   generalize (ps.getD k plD).2.2.2.2.1 = s4 at *
   generalize (ps.getD k plD).2.2.2.2.2.1 = s6 at *
   generalize (ps.getD k plD).2.2.2.2.2.2 = ns at *
   obtain ⟨s5, hs5⟩ : ∃ s5, s5 = ns.length := ⟨_, rfl⟩
   rw [← hs5] at d4 HSU
   have HS5 := hI hs5
   have hs12 : s5 ≤ 12 := by rw [hs5]; exact (nsB_iff.1 HNS.out).2
   obtain ⟨q1, q2, q3⟩ := hsp2
   have hwr : IntKind.i64.wrap (s3 + 1) = s3 + 1 := IntWalk.i64_in _ (by omega)
   clear hs5 hBW
   generalize [-3000] ++ mkP (psD ps) k = acc at *
   go_wp2_with (at_builtin; refine wpList_append_slA elI len_encI one_encI rfl _ _ rfl rfl (HV.out.ext (xA (xA xR))) (xs := [s2, s3 + 1]) rfl (blk_i2 (bN (by first|omega|simp))) (by have := HLN.out; simp; unfold maxLen; omega) (by have := HLN.out; simp; omega) (by first | omega | (simp; omega)) ?_)
   intro v6 w6 hO6 hg6 _ hloc6
   have HO6 := hI hO6
   have hx6 : Ext w w6 := Ext.grown (hxr.trans (xA (xA xR))) hg6 (fun q hq => Nat.le_of_succ_le (HV.out.row q hq).1)
   have hbw6 : Blk w6 w.heap.size 27 #[.slice (some ⟨b9, off, none⟩) n c, .slice A' m c'] := blk_keptE hg6 (HBW.out.ext (xA (xA xR))) (fun e => by have := (HV.out.row _ e.symm).1; omega)
   have hbp6 : Blk w6 w5.heap.size 57 #[.string s0, .int .i64 s1, .int .i64 s2, .int .i64 s3, .slice s4 s5 s6] := blk_keptE hg6 (Blk.eq (bA (bN (by omega))) (by rfl)) (fun e => by have := (HV.out.row _ e.symm).2; omega)
   have HNB6 : Hid (∀ q, v6.ownBlock = some q → q ≠ w5.heap.size) := hI (fun q hq => by
    rcases hloc6 with e | e
    ·rw [e] at hq; have := (HV.out.row q hq).2; omega
    ·rw [e] at hq; injection hq with hq; (try simp at hq); omega)
   have HBW6 := hI hbw6
   have HBP6 := hI hbp6
   have HX6 := hI hx6
   clear hO6 hg6 hloc6 t0 d0 d1 d2 d3 d4 HV hbw6 hbp6 hx6
   go_wp2
   go_loopw [3, 6] (fun v i wr => ∃ j : Nat, j ≤ s5 ∧ i = .int .i64 j ∧ Hid (OwI wr (w.heap.size + 1) v (acc ++ [s2, s3 + 1] ++ mkN ns j)) ∧ Blk wr w.heap.size 27 #[.slice (some ⟨b9, off, none⟩) n c, .slice A' m c'] ∧ Blk wr w5.heap.size 57 #[.string s0, .int .i64 s1, .int .i64 s2, .int .i64 s3, .slice s4 s5 s6] ∧ Ext w wr ∧ Hid (∀ q, v.ownBlock = some q → q ≠ w5.heap.size)) (fun _ i _ => s5 - (intOf i).toNat)
   case atStart => exact ⟨0, by omega, rfl, hI (by rw [show mkN ns 0 = [] by simp [mkN], List.append_nil]; exact HO6.out.ext xR), HBW6.out.ext xR, HBP6.out.ext xR, HX6.out.trans xR, HNB6⟩
   case round =>
    obtain ⟨j, hj, rfl, HV2, hBW2, hBP2, hxq, HNB⟩ := hrel
    obtain ⟨w7, rfl⟩ : ∃ x, x = wr := ⟨wr, rfl⟩
    have HBW2 := hI hBW2
    have HBP2 := hI hBP2
    have zp := hBP2.lt
    have zw2 := hBW2.lt
    have u4 : w7.cell? ⟨w5.heap.size, 4, none⟩ = some (.slice s4 s5 s6) := hBP2.cell 4
    have hsq := hxq.size
    by_cases hjl : j < s5
    ·have hjr : j < ns.length := by rw [← HS5.out]; exact hjl
     obtain ⟨bn, on, hAn, hbn, e0, e1, e2, e3, e4⟩ := HSN.out.nm hjr
     subst hAn
     obtain ⟨p1, p2, p3⟩ := nm_sp HNS.out hjr
     have HSU2 : Hid (acc ++ [s2, s3 + 1] ++ mkN ns (j + 1) = (acc ++ [s2, s3 + 1] ++ mkN ns j) ++ [(ns.getD j nmD).2.2.2.1, (ns.getD j nmD).2.2.2.2 + 1]) := hI (by rw [mkN_succ hjr]; simp only [List.append_assoc])
     have HLN2 : Hid ((acc ++ [s2, s3 + 1] ++ mkN ns j).length ≤ 2000) := hI (by have h1 := HLN.out; have h2 := mkN_len ns j; simp only [List.length_append, List.length_cons, List.length_nil]; omega)
     clear e0 e1 e2 hjr hBW2 hBP2
     generalize (ns.getD j nmD).2.2.2.1 = yf at *
     generalize (ns.getD j nmD).2.2.2.2 = yt at *
     have hwr2 : IntKind.i64.wrap (yt + 1) = yt + 1 := IntWalk.i64_in _ (by omega)
     have HKN : Hid (∀ W, Ext w W → W.cell? ⟨bn, on + j * 5 + 3, none⟩ = some (.int .i64 yf) ∧ W.cell? ⟨bn, on + j * 5 + 4, none⟩ = some (.int .i64 yt)) := hI (fun W hW => ⟨(hW.cell _ _ hbn).trans e3, (hW.cell _ _ hbn).trans e4⟩)
     have HKP : Hid (∀ W, Ext w7 W → W.cell? ⟨w5.heap.size, 4, none⟩ = some (.slice (some ⟨bn, on, none⟩) s5 s6) ∧ W.cell? ⟨bn, on + j * 5 + 3, none⟩ = some (.int .i64 yf) ∧ W.cell? ⟨bn, on + j * 5 + 4, none⟩ = some (.int .i64 yt)) := hI (fun W hW => ⟨(hW.cell _ _ zp).trans u4, HKN.out W (hxq.trans hW)⟩)
     obtain ⟨v1, v2, v3⟩ := HKP.out w7 (Ext.refl _)
     generalize hac : acc ++ [s2, s3 + 1] ++ mkN ns j = ac2 at *
     clear u4 e3 e4 hbn
     go_wp2
     go_region_held3 (fun w' => w'.cell? ⟨w5.heap.size, 4, none⟩ = some (.slice (some ⟨bn, on, none⟩) s5 s6) ∧ w'.cell? ⟨bn, on + j * 5 + 3, none⟩ = some (.int .i64 yf) ∧ w'.cell? ⟨bn, on + j * 5 + 4, none⟩ = some (.int .i64 yt)) (first | exact hk8 | exact HKP.out _ (by with_reducible first|exact xD xR|exact xD (xA xR)) | go_keep) (first | (refine step_append_slA elI len_encI one_encI rfl _ _ rfl rfl (HV2.out.ext (xD (xA xR))) (xs := [yf, yt + 1]) rfl (blk_i2 (bD (bN (by omega)))) (by have := HLN2.out; simp; unfold maxLen; omega) (by have := HLN2.out; simp; omega) (by first | omega | (simp; omega)) ?_; intro v8 w8 hO8 hg8 hloc8; have hx8 : Ext w w8 := Ext.grown (hxq.trans (xD (xA xR))) hg8 (fun q hq => Nat.le_of_succ_le (HV2.out.row q hq).1); have hbw8 := blk_keptE hg8 (HBW2.out.ext (xD (xA xR))) (fun e => by have := (HV2.out.row _ e.symm).1; omega); have hbp8 := blk_keptE hg8 (HBP2.out.ext (xD (xA xR))) (fun e => HNB.out _ e.symm rfl); have hk8 := And.intro (show w8.cell? ⟨w5.heap.size, 4, none⟩ = some (.slice (some ⟨bn, on, none⟩) s5 s6) from hbp8.cell 4) (HKN.out w8 hx8)))
     all_goals
      have HV8 := hI hO8
      have HNB8 : Hid (∀ q, v8.ownBlock = some q → q ≠ w5.heap.size) := hI (fun q hq => by
       rcases hloc8 with e | e
       ·rw [e] at hq; exact HNB.out q hq
       ·rw [e] at hq; injection hq with hq; (try simp at hq); omega)
      clear hO8 hg8 hloc8
      go_wp2
      go_roundw
      case rel => exact ⟨j + 1, by omega, by go_num, hI (by rw [HSU2.out]; exact HV8.out), hbw8, hbp8, hx8, HNB8⟩
      case measure => simp [intOf]; omega
    ·obtain rfl : j = s5 := by omega
     have HV9 : Hid (OwI w7 (w.heap.size + 1) _ ([-3000] ++ mkP (psD ps) (k + 1))) := hI (by rw [HSU.out]; exact HV2.out)
     go_wp2
     go_roundw
     case rel => exact ⟨k + 1, by omega, by go_num, HV9, hBW2, hxq⟩
     case measure => simp [intOf]; omega
  ·obtain rfl : n = k := by omega
   have HV3 : Hid (OwI w5 (w.heap.size + 1) _ ([-3000] ++ mkP (psD ps) (psD ps).length ++ mkK L 0)) := hI (by rw [show mkK L 0 = [] by simp [mkK], List.append_nil, psD_len, ← HN.out]; exact HV.out)
   have HLN : Hid (([-3000] ++ mkP (psD ps) (psD ps).length).length ≤ 1000) := hI (by have := HLEN.out (psD ps).length; have h2 := HN.out; rw [List.length_append]; simp only [List.length_singleton]; rw [psD_len] at *; omega)
   have HMW : Hid (mkW (psD ps) L = [-3000] ++ mkP (psD ps) (psD ps).length ++ mkK L L.length) := hI rfl
   generalize [-3000] ++ mkP (psD ps) (psD ps).length = acc at *
   go_wp2
   go_loopw [3, 7] (fun v i wr => ∃ j : Nat, j ≤ m ∧ i = .int .i64 j ∧ Hid (OwI wr (w.heap.size + 1) v (acc ++ mkK L j)) ∧ Blk wr w.heap.size 27 #[.slice A n c, .slice A' m c'] ∧ Ext w wr) (fun _ i _ => m - (intOf i).toNat)
   case atStart => exact ⟨0, by omega, rfl, hI (HV3.out.ext xR), HBW.out.ext xR, hxr⟩
   case round =>
    obtain ⟨j, hj, rfl, HV2, hBW2, hxq⟩ := hrel
    obtain ⟨w7, rfl⟩ : ∃ x, x = wr := ⟨wr, rfl⟩
    have HBW2 := hI hBW2
    have zw2 := hBW2.lt
    have u1 : w7.cell? ⟨w.heap.size, 1, none⟩ = some (.slice A' m c') := hBW2.cell 1
    have hsq := hxq.size
    by_cases hjl : j < m
    ·have hjr : j < L.length := by rw [← HM.out]; exact hjl
     obtain ⟨bn, on, hAn, hbn, e0, e1, e2, e3⟩ := HSK.out.lk hjr
     subst hAn
     obtain ⟨p1, p2, p3⟩ := HLS.out j hjr
     have HSU2 : Hid (acc ++ mkK L (j + 1) = (acc ++ mkK L j) ++ [(L.getD j lkD).2.2.1, (L.getD j lkD).2.2.2 + 1]) := hI (by rw [mkK_succ hjr]; simp only [List.append_assoc])
     have HLN2 : Hid ((acc ++ mkK L j).length ≤ 2000) := hI (by have h1 := HLN.out; have h2 := mkK_len L j; simp only [List.length_append]; omega)
     clear e0 e1 hjr hBW2
     generalize (L.getD j lkD).2.2.1 = yf at *
     generalize (L.getD j lkD).2.2.2 = yt at *
     have hwr2 : IntKind.i64.wrap (yt + 1) = yt + 1 := IntWalk.i64_in _ (by omega)
     have HKN : Hid (∀ W, Ext w W → W.cell? ⟨bn, on + j * 4 + 2, none⟩ = some (.int .i64 yf) ∧ W.cell? ⟨bn, on + j * 4 + 3, none⟩ = some (.int .i64 yt)) := hI (fun W hW => ⟨(hW.cell _ _ hbn).trans e2, (hW.cell _ _ hbn).trans e3⟩)
     have HKP : Hid (∀ W, Ext w7 W → W.cell? ⟨w.heap.size, 1, none⟩ = some (.slice (some ⟨bn, on, none⟩) m c') ∧ W.cell? ⟨bn, on + j * 4 + 2, none⟩ = some (.int .i64 yf) ∧ W.cell? ⟨bn, on + j * 4 + 3, none⟩ = some (.int .i64 yt)) := hI (fun W hW => ⟨(hW.cell _ _ zw2).trans u1, HKN.out W (hxq.trans hW)⟩)
     obtain ⟨v1, v2, v3⟩ := HKP.out w7 (Ext.refl _)
     generalize hac : acc ++ mkK L j = ac2 at *
     clear u1 e2 e3 hbn
     go_wp2
     go_region_held3 (fun w' => w'.cell? ⟨w.heap.size, 1, none⟩ = some (.slice (some ⟨bn, on, none⟩) m c') ∧ w'.cell? ⟨bn, on + j * 4 + 2, none⟩ = some (.int .i64 yf) ∧ w'.cell? ⟨bn, on + j * 4 + 3, none⟩ = some (.int .i64 yt)) (first | exact hk8 | exact HKP.out _ (by with_reducible first|exact xD xR|exact xD (xA xR)) | go_keep) (first | (refine step_append_slA elI len_encI one_encI rfl _ _ rfl rfl (HV2.out.ext (xD (xA xR))) (xs := [yf, yt + 1]) rfl (blk_i2 (bD (bN (by omega)))) (by have := HLN2.out; simp; unfold maxLen; omega) (by have := HLN2.out; simp; omega) (by first | omega | (simp; omega)) ?_; intro v8 w8 hO8 hg8 hloc8; have hx8 : Ext w w8 := Ext.grown (hxq.trans (xD (xA xR))) hg8 (fun q hq => Nat.le_of_succ_le (HV2.out.row q hq).1); have hbw8 := blk_keptE hg8 (HBW2.out.ext (xD (xA xR))) (fun e => by have := (HV2.out.row _ e.symm).1; omega); have hk8 := And.intro (show w8.cell? ⟨w.heap.size, 1, none⟩ = some (.slice (some ⟨bn, on, none⟩) m c') from hbw8.cell 1) (HKN.out w8 hx8)))
     all_goals
      have HV8 := hI hO8
      clear hO8 hg8 hloc8
      go_wp2
      go_roundw
      case rel => exact ⟨j + 1, by omega, by go_num, hI (by rw [HSU2.out]; exact HV8.out), hbw8, hx8⟩
      case measure => simp [intOf]; omega
    ·obtain rfl : j = m := by omega
     have HV9 : Hid (OwI w7 (w.heap.size + 1) _ (mkW (psD ps) L)) := hI (by rw [HMW.out, ← HM.out]; exact HV2.out)
     go_wp2
     go_ret
     exact ⟨_, rfl, (HV9.out.ext xR).less (Nat.le_succ _), hxq⟩
end
theorem IsP.stexts {w : World} {d : Pd} {v : Value} (h : IsP w d v) (y : Int) : Calls Tryz.prog 87 #[v, .int .i64 y] w fun e w' => ∃ v', e = .returned v' ∧ OwS w' w.heap.size v' (txL d.2.2.2.2 y) ∧ Ext w w' := by
 have h12 := names12 h
 obtain ⟨p, g1, rfl, g3, rfl⟩ := h
 have h13 : p.2.2.2.2.2.2.length ≤ 12 := h12
 exact s_l14Texts p y w g1 (by omega)
section
variable {w : World} {A A' B B' : Option Addr} {n c m c' n2 c2 m2 d2 : Nat} {ps ps2 : List Pl} {L L2 : List Lk}
set_option maxRecDepth 20000 in
set_option maxHeartbeats 25600000 in
theorem s_l14Alike (y : Int) (h : WIn w A A' n c m c' ps L) (h2 : WIn w B B' n2 c2 m2 d2 ps2 L2) (hw : wdB (psD ps) L = true) (hw2 : wdB (psD ps2) L2 = true) (hy : inB y (-3000) 3000 = true) :
  Calls Tryz.prog 43 #[.agg #[.slice A n c, .slice A' m c'], .agg #[.slice B n2 c2, .slice B' m2 d2], .int .i64 y] w fun e w' => e = .returned (.bool (!difY (psD ps) L (psD ps2) L2 y)) ∧ Ext w w' := by
 have h10 := wdB_len hw
 have h102 := wdB_len hw2
 rw [psD_len] at h10 h102
 have hlm : m ≤ 1048576 := by rw [h.hm]; exact h.hl'
 have hlm2 : m2 ≤ 1048576 := by rw [h2.hm]; exact h2.hl'
 have HPA := hI (fun W (hW : Ext w W) => s_PlacesIn A n c ps y W (h.sq.ext hW) (h.pl.ext hW) h.hn (by omega) (wdB_iff.1 hw).1 hy)
 have HPB := hI (fun W (hW : Ext w W) => s_PlacesIn B n2 c2 ps2 y W (h2.sq.ext hW) (h2.pl.ext hW) h2.hn (by omega) (wdB_iff.1 hw2).1 hy)
 have hl1 : (cdsP (exY y) (psD ps)).length ≤ 10 := Nat.le_trans (cdsP_len _ _) (wdB_len hw)
 have hl2 : (cdsP (exY y) (psD ps2)).length ≤ 10 := Nat.le_trans (cdsP_len _ _) (wdB_len hw2)
 have HE : Hid (∀ W v v' q1 q2, OwS W q1 v (cdsP (exY y) (psD ps)) → OwS W q2 v' (cdsP (exY y) (psD ps2)) → Calls Tryz.prog 86 #[v, v'] W fun e w' => e = .returned (.bool (cdsP (exY y) (psD ps) == cdsP (exY y) (psD ps2))) ∧ Ext W w') := hI (fun W v v' q1 q2 hO hO' => by
  obtain ⟨A1, e1, rfl, hS1, _⟩ := hO.sl len_encS
  obtain ⟨A2, e2, rfl, hS2, _⟩ := hO'.sl len_encS
  exact s_l14Equal _ _ _ _ _ _ _ _ _ hS1 hS2 rfl rfl (by omega) (by omega))
 have HTX := hI (fun W d v (hP : IsP W d v) => hP.stexts y)
 have HK : Hid (∀ W, Ext ((w.alloc (.cells #[.slice A n c, .slice A' m c'] 27)).alloc (.cells #[.slice B n2 c2, .slice B' m2 d2] 27)) W → W.cell? ⟨w.heap.size, 0, none⟩ = some (.slice A n c) ∧ W.cell? ⟨w.heap.size, 1, none⟩ = some (.slice A' m c') ∧ W.cell? ⟨w.heap.size + 1, 0, none⟩ = some (.slice B n2 c2) ∧ W.cell? ⟨w.heap.size + 1, 1, none⟩ = some (.slice B' m2 d2)) := hI (fun W hW => by
  have B0 := ((Blk.new (cs := #[.slice A n c, .slice A' m c']) (t := 27) (w := w) rfl).alloc (.cells #[.slice B n2 c2, .slice B' m2 d2] 27)).ext hW
  have B1 := (Blk.new (cs := #[.slice B n2 c2, .slice B' m2 d2]) (t := 27) (w := w.alloc (.cells #[.slice A n c, .slice A' m c'] 27)) rfl).ext hW
  simp only [World.size_alloc] at B1
  exact ⟨B0.cell 0, B0.cell 1, B1.cell 0, B1.cell 1⟩)
 have hno : (cdsP (exY y) (psD ps) == cdsP (exY y) (psD ps2)) = false → difY (psD ps) L (psD ps2) L2 y = true := difY_codes
 have hyes : (cdsP (exY y) (psD ps) == cdsP (exY y) (psD ps2)) = true → difY (psD ps) L (psD ps2) L2 y = (cdsP (exY y) (psD ps)).any (dfB (psD ps) L (psD ps2) L2 y) := difY_any
 obtain ⟨res, hres⟩ : ∃ res, res = difY (psD ps) L (psD ps2) L2 y := ⟨_, rfl⟩
 rw [← hres] at hno hyes ⊢
 clear hres
 obtain ⟨X, hX⟩ : ∃ X, X = cdsP (exY y) (psD ps) := ⟨_, rfl⟩
 obtain ⟨X2, hX2⟩ : ∃ X, X = cdsP (exY y) (psD ps2) := ⟨_, rfl⟩
 have HX1 := hI hX
 have HX2 := hI hX2
 rw [← hX] at HPA HE hno hyes hl1
 rw [← hX2] at HPB HE hno hyes hl2
 clear hX hX2 h10 h102
 have HH := hI h
 have HH2 := hI h2
 have HWD := hI hw
 have HWD2 := hI hw2
 clear h h2 hw hw2 hy
 go_enter Tryz.func43, Tryz.ntmps43
 go_wp2_with fail
 refine (HPA.out _ (xA (xA xR))).mono ?_
 rintro e w1 ⟨v1, rfl, hO1, hx1⟩
 have HO1 := hI hO1
 obtain ⟨t0, t1, t2, t3⟩ := HK.out w1 hx1
 have hx1w : Ext w w1 := xT (xA (xA xR)) hx1
 have HXW1 := hI hx1w
 have HXB1 : Hid (Ext ((w.alloc (.cells #[.slice A n c, .slice A' m c'] 27)).alloc (.cells #[.slice B n2 c2, .slice B' m2 d2] 27)) w1) := hI (by clear hx1w; exact hx1)
 clear hO1 hx1w hx1
 go_wp2_with fail
 refine (HPB.out _ (HXW1.out.trans xR)).mono ?_
 rintro e w2 ⟨v2, rfl, hO2, hx2⟩
 have HO2 := hI hO2
 clear hO2
 obtain ⟨q, hq⟩ : ∃ q, (X == X2) = q := ⟨_, rfl⟩
 rw [hq] at HE hno hyes
 go_wp2_with fail
 refine (HE.out _ _ _ _ _ (HO1.out.ext hx2) (HO2.out.ext xR)).mono ?_
 rintro e w3 ⟨rfl, hx3⟩
 have HX13 : Hid (Ext w1 w3) := hI (xT hx2 hx3)
 cases q with
 | false =>
  have HR := hI (hno rfl)
  go_wp2
  go_ret
  exact ⟨by rw [HR.out]; rfl, HXW1.out.trans (HX13.out.trans xR)⟩
 | true =>
  have HR := hI (hyes rfl)
  have heq := beq_iff_eq.1 hq
  have HFA : Hid (∀ k, k < X.length → (fndP (psD ps) (X.getD k [])).isSome = true) := hI (fun k hk => cds_found (p := exY y) (by rw [← HX1.out]; simp [List.getD, hk]))
  have HFB : Hid (∀ k, k < X.length → (fndP (psD ps2) (X.getD k [])).isSome = true) := hI (fun k hk => cds_found (p := exY y) (by rw [← HX2.out, ← heq]; simp [List.getD, hk]))
  obtain ⟨A7, c7, rfl, hS7, _⟩ := HO1.out.sl len_encS
  have HS7 := hI (hS7.ext HX13.out)
  have HW3 : Hid (Ext w w3) := hI (HXW1.out.trans HX13.out)
  have HB3 : Hid (Ext ((w.alloc (.cells #[.slice A n c, .slice A' m c'] 27)).alloc (.cells #[.slice B n2 c2, .slice B' m2 d2] 27)) w3) := hI (HXB1.out.trans HX13.out)
  obtain ⟨un, hun⟩ : ∃ un, un = X.length := ⟨_, rfl⟩
  have HUN := hI hun
  rw [← hun] at hl1 ⊢
  clear hno hyes hq heq hun hS7 HE HPA HPB HO1 HO2 hx2 hx3 t0 t1 t2 t3 HX1 HX2
  go_wp2
  go_loopw [11] (fun i wr => ∃ k : Nat, k ≤ un ∧ i = .int .i64 k ∧ Hid (∀ j, j < k → dfB (psD ps) L (psD ps2) L2 y (X.getD j []) = false) ∧ Ext w3 wr) (fun i _ => un - (intOf i).toNat)
  case atStart => exact ⟨0, by omega, rfl, hI (fun j hj => absurd hj (by omega)), xR⟩
  case round =>
   obtain ⟨k, hk, rfl, HJ, hxr⟩ := hrel
   obtain ⟨w5, rfl⟩ : ∃ x, x = wr := ⟨wr, rfl⟩
   have hsr := hxr.size
   by_cases hlt : k < un
   ·have hkr : k < X.length := by rw [← HUN.out]; exact hlt
    obtain ⟨b7, off7, hA7, hb7, c7x⟩ := (HS7.out.ext hxr).st hkr
    subst hA7
    have h := HH.out
    have h2 := HH2.out
    have hf := HFA.out k hkr
    have hf2 := HFB.out k hkr
    obtain ⟨z, hz⟩ : ∃ z, z = X.getD k [] := ⟨_, rfl⟩
    have HZ := hI hz
    rw [← hz] at hf hf2 c7x
    have hany : dfB (psD ps) L (psD ps2) L2 y z = true → res = true := fun q => by rw [HR.out, List.any_eq_true]; exact ⟨z, by rw [hz]; simp [List.getD, hkr], q⟩
    have HANY := hI hany
    obtain ⟨pa, hpa⟩ : ∃ pa, parT L z y = pa := ⟨_, rfl⟩
    obtain ⟨pb, hpb⟩ : ∃ pb, parT L2 z y = pb := ⟨_, rfl⟩
    have hD : dfB (psD ps) L (psD ps2) L2 y z = (!(txL ((fndP (psD ps) z).getD pdD).2.2.2.2 y == txL ((fndP (psD ps2) z).getD pdD).2.2.2.2 y) || !((tx pa).toList == (tx pb).toList)) := by
     rw [tx_beq, ← hpa, ← hpb]; rfl
    have HQQ0 : Hid (∀ a b s, (a = (.slice A' m c') ∧ b = (tx z) ∧ s = tx pa) ∨ (a = (.slice B' m2 d2) ∧ b = (tx z) ∧ s = tx pb) → ∀ W, Ext w W → Calls Tryz.prog 64 #[a, .string b, .int .i64 y] W fun e w' => e = .returned (.string s) ∧ Ext W w') := hI (fun a b s hv W hW => by
     rcases hv with ⟨rfl, rfl, rfl⟩ | ⟨rfl, rfl, rfl⟩
     ·rw [← hpa]; exact s_l12Parent A' m c' L z y W (h.sk.ext hW) h.hm hlm
     ·rw [← hpb]; exact s_l12Parent B' m2 d2 L2 z y W (h2.sk.ext hW) h2.hm hlm2)
    have hwA := HWD.out
    have hwB := HWD2.out
    clear hpa hpb hz hany hkr
    obtain ⟨ka, hka1, hka2, hka3, hka4⟩ := fnd_some hf
    rw [psD_len] at hka2
    rw [psD_at hka2] at hka3
    have HFa := hI (fun W (hW : Ext w W) => s_l11Find A n c ps z W (h.sq.ext hW) h.hn (by rw [h.hn]; exact h.hl))
    rw [hka1] at HFa
    have hgda : (fndP (psD ps) z).getD pdD = pdOf (ps.getD ka plD) := by rw [hka3]; rfl
    have hIa : IsP w (pdOf (ps.getD ka plD)) (.agg #[.string (tx (ps.getD ka plD).1), .int .i64 (ps.getD ka plD).2.1, .int .i64 (ps.getD ka plD).2.2.1, .int .i64 (ps.getD ka plD).2.2.2.1, .slice (ps.getD ka plD).2.2.2.2.1 (ps.getD ka plD).2.2.2.2.2.2.length (ps.getD ka plD).2.2.2.2.2.1]) := isP_at h hwA hka2
    obtain ⟨ba, oa, hAa, hba, pc0, pc1, pc2, pc3, pc4⟩ := h.sq.pl hka2
    have hkna : ka < n := by rw [h.hn]; exact hka2
    have hk0a : (0 : Int) ≤ (ka : Int) := by omega
    rw [hgda] at hD
    clear hka1 hka2 hka3 hka4 hgda
    generalize pdOf (ps.getD ka plD) = da at *
    generalize tx (ps.getD ka plD).1 = p0 at *
    generalize (ps.getD ka plD).2.1 = p1 at *
    generalize (ps.getD ka plD).2.2.1 = p2 at *
    generalize (ps.getD ka plD).2.2.2.1 = p3 at *
    generalize (ps.getD ka plD).2.2.2.2.1 = p4 at *
    generalize (ps.getD ka plD).2.2.2.2.2.2.length = p5 at *
    generalize (ps.getD ka plD).2.2.2.2.2.1 = p6 at *
    have HRa : Hid (∀ W, Ext w W → W.cell? ⟨ba, oa + ka * 5, none⟩ = some (.string p0) ∧ W.cell? ⟨ba, oa + ka * 5 + 1, none⟩ = some (.int .i64 p1) ∧ W.cell? ⟨ba, oa + ka * 5 + 2, none⟩ = some (.int .i64 p2) ∧ W.cell? ⟨ba, oa + ka * 5 + 3, none⟩ = some (.int .i64 p3) ∧ W.cell? ⟨ba, oa + ka * 5 + 4, none⟩ = some (.slice p4 p5 p6)) := hI (fun W hW => ⟨(hW.cell _ _ hba).trans pc0, (hW.cell _ _ hba).trans pc1, (hW.cell _ _ hba).trans pc2, (hW.cell _ _ hba).trans pc3, (hW.cell _ _ hba).trans pc4⟩)
    have HIa := hI hIa
    clear pc0 pc1 pc2 pc3 pc4 hIa
    obtain ⟨kb, hkb1, hkb2, hkb3, hkb4⟩ := fnd_some hf2
    rw [psD_len] at hkb2
    rw [psD_at hkb2] at hkb3
    have HFb := hI (fun W (hW : Ext w W) => s_l11Find B n2 c2 ps2 z W (h2.sq.ext hW) h2.hn (by rw [h2.hn]; exact h2.hl))
    rw [hkb1] at HFb
    have hgdb : (fndP (psD ps2) z).getD pdD = pdOf (ps2.getD kb plD) := by rw [hkb3]; rfl
    have hIb : IsP w (pdOf (ps2.getD kb plD)) (.agg #[.string (tx (ps2.getD kb plD).1), .int .i64 (ps2.getD kb plD).2.1, .int .i64 (ps2.getD kb plD).2.2.1, .int .i64 (ps2.getD kb plD).2.2.2.1, .slice (ps2.getD kb plD).2.2.2.2.1 (ps2.getD kb plD).2.2.2.2.2.2.length (ps2.getD kb plD).2.2.2.2.2.1]) := isP_at h2 hwB hkb2
    obtain ⟨bb, ob, hAb, hbb, rc0, rc1, rc2, rc3, rc4⟩ := h2.sq.pl hkb2
    have hknb : kb < n2 := by rw [h2.hn]; exact hkb2
    have hk0b : (0 : Int) ≤ (kb : Int) := by omega
    rw [hgdb] at hD
    clear hkb1 hkb2 hkb3 hkb4 hgdb
    generalize pdOf (ps2.getD kb plD) = db at *
    generalize tx (ps2.getD kb plD).1 = r0 at *
    generalize (ps2.getD kb plD).2.1 = r1 at *
    generalize (ps2.getD kb plD).2.2.1 = r2 at *
    generalize (ps2.getD kb plD).2.2.2.1 = r3 at *
    generalize (ps2.getD kb plD).2.2.2.2.1 = r4 at *
    generalize (ps2.getD kb plD).2.2.2.2.2.2.length = r5 at *
    generalize (ps2.getD kb plD).2.2.2.2.2.1 = r6 at *
    have HRb : Hid (∀ W, Ext w W → W.cell? ⟨bb, ob + kb * 5, none⟩ = some (.string r0) ∧ W.cell? ⟨bb, ob + kb * 5 + 1, none⟩ = some (.int .i64 r1) ∧ W.cell? ⟨bb, ob + kb * 5 + 2, none⟩ = some (.int .i64 r2) ∧ W.cell? ⟨bb, ob + kb * 5 + 3, none⟩ = some (.int .i64 r3) ∧ W.cell? ⟨bb, ob + kb * 5 + 4, none⟩ = some (.slice r4 r5 r6)) := hI (fun W hW => ⟨(hW.cell _ _ hbb).trans rc0, (hW.cell _ _ hbb).trans rc1, (hW.cell _ _ hbb).trans rc2, (hW.cell _ _ hbb).trans rc3, (hW.cell _ _ hbb).trans rc4⟩)
    have HIb := hI hIb
    clear rc0 rc1 rc2 rc3 rc4 hIb
    subst hAa
    subst hAb
    have HQQ := HQQ0
    have HFF : Hid (∀ a x k, (a = (.slice (some ⟨ba, oa, none⟩) n c) ∧ k = (ka : Int)) ∨ (a = (.slice (some ⟨bb, ob, none⟩) n2 c2) ∧ k = (kb : Int)) → x = tx z → ∀ W, Ext w W → Calls Tryz.prog 27 #[a, .string x] W fun e w' => e = .returned (.int .i64 k) ∧ W = w') := hI (fun a x k hv hx W hW => by
     subst hx
     rcases hv with ⟨rfl, rfl⟩ | ⟨rfl, rfl⟩
     ·exact HFa.out W hW
     ·exact HFb.out W hW)
    have HKW : Hid (∀ W, Ext w5 W → W.cell? ⟨w.heap.size, 0, none⟩ = some (.slice (some ⟨ba, oa, none⟩) n c) ∧ W.cell? ⟨w.heap.size, 1, none⟩ = some (.slice A' m c') ∧ W.cell? ⟨w.heap.size + 1, 0, none⟩ = some (.slice (some ⟨bb, ob, none⟩) n2 c2) ∧ W.cell? ⟨w.heap.size + 1, 1, none⟩ = some (.slice B' m2 d2)) := hI (fun W hW => HK.out W (HB3.out.trans (hxr.trans hW)))
    have HKC : Hid (∀ W, Ext w5 W → W.cell? ⟨w.heap.size, 0, none⟩ = some (.slice (some ⟨ba, oa, none⟩) n c) ∧ W.cell? ⟨w.heap.size, 1, none⟩ = some (.slice A' m c') ∧ W.cell? ⟨w.heap.size + 1, 0, none⟩ = some (.slice (some ⟨bb, ob, none⟩) n2 c2) ∧ W.cell? ⟨w.heap.size + 1, 1, none⟩ = some (.slice B' m2 d2) ∧ W.cell? ⟨ba, oa + ka * 5, none⟩ = some (.string p0) ∧ W.cell? ⟨ba, oa + ka * 5 + 1, none⟩ = some (.int .i64 p1) ∧ W.cell? ⟨ba, oa + ka * 5 + 2, none⟩ = some (.int .i64 p2) ∧ W.cell? ⟨ba, oa + ka * 5 + 3, none⟩ = some (.int .i64 p3) ∧ W.cell? ⟨ba, oa + ka * 5 + 4, none⟩ = some (.slice p4 p5 p6) ∧ W.cell? ⟨bb, ob + kb * 5, none⟩ = some (.string r0) ∧ W.cell? ⟨bb, ob + kb * 5 + 1, none⟩ = some (.int .i64 r1) ∧ W.cell? ⟨bb, ob + kb * 5 + 2, none⟩ = some (.int .i64 r2) ∧ W.cell? ⟨bb, ob + kb * 5 + 3, none⟩ = some (.int .i64 r3) ∧ W.cell? ⟨bb, ob + kb * 5 + 4, none⟩ = some (.slice r4 r5 r6)) := hI (fun W hW => by
     obtain ⟨a1, a2, a3, a4⟩ := HKW.out W hW
     have hWw : Ext w W := HW3.out.trans (hxr.trans hW)
     exact ⟨a1, a2, a3, a4, HRa.out W hWw |>.1, HRa.out W hWw |>.2.1, HRa.out W hWw |>.2.2.1, HRa.out W hWw |>.2.2.2.1, HRa.out W hWw |>.2.2.2.2, HRb.out W hWw⟩)
    clear h h2 hf hf2 hwA hwB hba hbb HQQ0
    generalize tx z = sx at *
    go_upto_region 8 with (fail)
    go_cut [12, 13] (fun p q wx => ∃ b12 b13 : Nat, p = .pointer (some ⟨b12, 0, none⟩) ∧ q = .pointer (some ⟨b13, 0, none⟩) ∧ Blk wx b12 57 #[.string p0, .int .i64 p1, .int .i64 p2, .int .i64 p3, .slice p4 p5 p6] ∧ Blk wx b13 57 #[.string r0, .int .i64 r1, .int .i64 r2, .int .i64 r3, .slice r4 r5 r6] ∧ Ext w5 wx)
    case first =>
     obtain ⟨a1, a2, a3, a4, a5, a6, a7, a8, a9, a10, a11, a12, a13, a14⟩ := HKC.out w5 (Ext.refl _)
     have l1 := World.block_lt_of_cell? _ _ a1
     have l3 := World.block_lt_of_cell? _ _ a3
     have l5 := World.block_lt_of_cell? _ _ a5
     have l10 := World.block_lt_of_cell? _ _ a10
     have HKC8 : Hid (∀ W, Ext w5 W → W.cell? ⟨w.heap.size, 0, none⟩ = some (.slice (some ⟨ba, oa, none⟩) n c) ∧ W.cell? ⟨w.heap.size, 1, none⟩ = some (.slice A' m c') ∧ W.cell? ⟨w.heap.size + 1, 0, none⟩ = some (.slice (some ⟨bb, ob, none⟩) n2 c2) ∧ W.cell? ⟨w.heap.size + 1, 1, none⟩ = some (.slice B' m2 d2) ∧ W.cell? ⟨ba, oa + ka * 5, none⟩ = some (.string p0) ∧ W.cell? ⟨ba, oa + ka * 5 + 1, none⟩ = some (.int .i64 p1) ∧ W.cell? ⟨ba, oa + ka * 5 + 2, none⟩ = some (.int .i64 p2) ∧ W.cell? ⟨ba, oa + ka * 5 + 3, none⟩ = some (.int .i64 p3) ∧ W.cell? ⟨ba, oa + ka * 5 + 4, none⟩ = some (.slice p4 p5 p6) ∧ W.cell? ⟨bb, ob + kb * 5, none⟩ = some (.string r0) ∧ W.cell? ⟨bb, ob + kb * 5 + 1, none⟩ = some (.int .i64 r1) ∧ W.cell? ⟨bb, ob + kb * 5 + 2, none⟩ = some (.int .i64 r2) ∧ W.cell? ⟨bb, ob + kb * 5 + 3, none⟩ = some (.int .i64 r3) ∧ W.cell? ⟨bb, ob + kb * 5 + 4, none⟩ = some (.slice r4 r5 r6) ∧ W.cell? ⟨b7, off7 + k, none⟩ = some (.string sx)) := hI (fun W hW => by
      obtain ⟨c1, c2, c3, c4, c5, c6, c7, c8, c9, c10, c11, c12, c13, c14⟩ := HKC.out W hW
      exact ⟨c1, c2, c3, c4, c5, c6, c7, c8, c9, c10, c11, c12, c13, c14, (hW.cell _ _ hb7).trans c7x⟩)
     go_region_held3 (fun w' => w'.cell? ⟨w.heap.size, 0, none⟩ = some (.slice (some ⟨ba, oa, none⟩) n c) ∧ w'.cell? ⟨w.heap.size, 1, none⟩ = some (.slice A' m c') ∧ w'.cell? ⟨w.heap.size + 1, 0, none⟩ = some (.slice (some ⟨bb, ob, none⟩) n2 c2) ∧ w'.cell? ⟨w.heap.size + 1, 1, none⟩ = some (.slice B' m2 d2) ∧ w'.cell? ⟨ba, oa + ka * 5, none⟩ = some (.string p0) ∧ w'.cell? ⟨ba, oa + ka * 5 + 1, none⟩ = some (.int .i64 p1) ∧ w'.cell? ⟨ba, oa + ka * 5 + 2, none⟩ = some (.int .i64 p2) ∧ w'.cell? ⟨ba, oa + ka * 5 + 3, none⟩ = some (.int .i64 p3) ∧ w'.cell? ⟨ba, oa + ka * 5 + 4, none⟩ = some (.slice p4 p5 p6) ∧ w'.cell? ⟨bb, ob + kb * 5, none⟩ = some (.string r0) ∧ w'.cell? ⟨bb, ob + kb * 5 + 1, none⟩ = some (.int .i64 r1) ∧ w'.cell? ⟨bb, ob + kb * 5 + 2, none⟩ = some (.int .i64 r2) ∧ w'.cell? ⟨bb, ob + kb * 5 + 3, none⟩ = some (.int .i64 r3) ∧ w'.cell? ⟨bb, ob + kb * 5 + 4, none⟩ = some (.slice r4 r5 r6) ∧ w'.cell? ⟨b7, off7 + k, none⟩ = some (.string sx)) (first | exact HKC8.out _ (by with_reducible first|exact xD xR|exact xD (xA xR)|exact xD (xA (xA xR))) | go_keep) ((go_at_call 27; refine (HFF.out _ _ _ (by first | exact .inl ⟨rfl, rfl⟩ | exact .inr ⟨rfl, rfl⟩) rfl _ (HW3.out.trans (hxr.trans (by with_reducible first|exact xD xR|exact xD (xA xR)|exact xD (xA (xA xR)))))).mono ?_; rintro e w7 ⟨rfl, rfl⟩))
     all_goals (go_wp2_with fail; go_meet; exact ⟨_, _, rfl, rfl, Blk.eq (by with_reducible first|exact bD (bA (bN (by omega)))|exact bD (bN (by first|omega|simp))) (by rfl), Blk.eq (by with_reducible first|exact bD (bA (bN (by omega)))|exact bD (bN (by first|omega|simp))) (by rfl), xD (xA (xA xR))⟩)
    case rest =>
    obtain ⟨b12, b13, rfl, rfl, hB12, hB13, hxc⟩ := hcut
    have HIA := hI (HIa.out.ext (HW3.out.trans (hxr.trans hxc)))
    have HIB := hI (HIb.out.ext (HW3.out.trans (hxr.trans hxc)))
    have ha12 := names12 HIA.out
    have hb12 := names12 HIB.out
    have c7c : wc.cell? ⟨b7, off7 + k, none⟩ = some (.string sx) := (hxc.cell _ _ hb7).trans c7x
    have z7 := World.block_lt_of_cell? _ _ c7c
    have z12 := hB12.lt
    have z13 := hB13.lt
    have HK9 : Hid (∀ W, Ext wc W → W.cell? ⟨b12, 0, none⟩ = some (.string p0) ∧ W.cell? ⟨b12, 1, none⟩ = some (.int .i64 p1) ∧ W.cell? ⟨b12, 2, none⟩ = some (.int .i64 p2) ∧ W.cell? ⟨b12, 3, none⟩ = some (.int .i64 p3) ∧ W.cell? ⟨b12, 4, none⟩ = some (.slice p4 p5 p6) ∧ W.cell? ⟨b13, 0, none⟩ = some (.string r0) ∧ W.cell? ⟨b13, 1, none⟩ = some (.int .i64 r1) ∧ W.cell? ⟨b13, 2, none⟩ = some (.int .i64 r2) ∧ W.cell? ⟨b13, 3, none⟩ = some (.int .i64 r3) ∧ W.cell? ⟨b13, 4, none⟩ = some (.slice r4 r5 r6) ∧ W.cell? ⟨w.heap.size, 0, none⟩ = some (.slice (some ⟨ba, oa, none⟩) n c) ∧ W.cell? ⟨w.heap.size, 1, none⟩ = some (.slice A' m c') ∧ W.cell? ⟨w.heap.size + 1, 0, none⟩ = some (.slice (some ⟨bb, ob, none⟩) n2 c2) ∧ W.cell? ⟨w.heap.size + 1, 1, none⟩ = some (.slice B' m2 d2) ∧ W.cell? ⟨b7, off7 + k, none⟩ = some (.string sx)) := hI (fun W hW => by
     have q1 := hB12.ext hW
     have q2 := hB13.ext hW
     exact ⟨q1.cell 0, q1.cell 1, q1.cell 2, q1.cell 3, q1.cell 4, q2.cell 0, q2.cell 1, q2.cell 2, q2.cell 3, q2.cell 4, (HKW.out W (hxc.trans hW)).1, (HKW.out W (hxc.trans hW)).2.1, (HKW.out W (hxc.trans hW)).2.2.1, (HKW.out W (hxc.trans hW)).2.2.2, (hW.cell _ _ z7).trans c7c⟩)
    have HE2 : Hid (∀ W v v' q1 q2, OwS W q1 v (txL da.2.2.2.2 y) → OwS W q2 v' (txL db.2.2.2.2 y) → Calls Tryz.prog 86 #[v, v'] W fun e w' => e = .returned (.bool (txL da.2.2.2.2 y == txL db.2.2.2.2 y)) ∧ Ext W w') := hI (fun W v v' q1 q2 hO hO' => by
     obtain ⟨A1, e1, rfl, hS1, _⟩ := hO.sl len_encS
     obtain ⟨A2, e2, rfl, hS2, _⟩ := hO'.sl len_encS
     exact s_l14Equal _ _ _ _ _ _ _ _ _ hS1 hS2 rfl rfl (Nat.le_trans (txTo_len _ _ _) (by omega)) (Nat.le_trans (txTo_len _ _ _) (by omega)))
    have HQ9 : Hid (∀ a b s, (a = (.slice A' m c') ∧ b = sx ∧ s = tx pa) ∨ (a = (.slice B' m2 d2) ∧ b = sx ∧ s = tx pb) → ∀ W, Ext wc W → Calls Tryz.prog 64 #[a, .string b, .int .i64 y] W fun e w' => e = .returned (.string s) ∧ Ext W w') := hI (fun a b s hv W hW => HQQ.out a b s hv W (HW3.out.trans (hxr.trans (hxc.trans hW))))
    obtain ⟨g1, g2, g3, g4, g5, g6, g7, g8, g9, g10, g11, g12, g13, g14, g15⟩ := HK9.out wc (Ext.refl _)
    obtain ⟨q1, hq1⟩ : ∃ q1, (txL da.2.2.2.2 y == txL db.2.2.2.2 y) = q1 := ⟨_, rfl⟩
    rw [hq1] at hD HE2
    obtain ⟨q2, hq2⟩ : ∃ q2, ((tx pa).toList == (tx pb).toList) = q2 := ⟨_, rfl⟩
    have HRT : Hid ((!q1 || !q2) = true → res = true) := hI (fun q => HANY.out (by rw [hD, hq2]; exact q))
    have HRF : Hid ((!q1 || !q2) = false → ∀ j, j < k + 1 → dfB (psD ps) L (psD ps2) L2 y (X.getD j []) = false) := hI (fun q => upTo1 HJ.out (by rw [← HZ.out, hD, hq2]; exact q))
    clear hq1 hD HQQ hB12 hB13 ha12 hb12 c7x c7c HIa HIb
    have HQQ := HQ9
    clear HQ9
    generalize tx pa = sa at *
    generalize tx pb = sb at *
    cases q1 with
    | false =>
     have HRR := hI (HRT.out rfl)
     clear HRT HRF hq2
     go_wp2
     refine wp_region_held_drew (S := (fun w' => w'.cell? ⟨b12, 0, none⟩ = some (.string p0) ∧ w'.cell? ⟨b12, 1, none⟩ = some (.int .i64 p1) ∧ w'.cell? ⟨b12, 2, none⟩ = some (.int .i64 p2) ∧ w'.cell? ⟨b12, 3, none⟩ = some (.int .i64 p3) ∧ w'.cell? ⟨b12, 4, none⟩ = some (.slice p4 p5 p6) ∧ w'.cell? ⟨b13, 0, none⟩ = some (.string r0) ∧ w'.cell? ⟨b13, 1, none⟩ = some (.int .i64 r1) ∧ w'.cell? ⟨b13, 2, none⟩ = some (.int .i64 r2) ∧ w'.cell? ⟨b13, 3, none⟩ = some (.int .i64 r3) ∧ w'.cell? ⟨b13, 4, none⟩ = some (.slice r4 r5 r6) ∧ w'.cell? ⟨w.heap.size, 0, none⟩ = some (.slice (some ⟨ba, oa, none⟩) n c) ∧ w'.cell? ⟨w.heap.size, 1, none⟩ = some (.slice A' m c') ∧ w'.cell? ⟨w.heap.size + 1, 0, none⟩ = some (.slice (some ⟨bb, ob, none⟩) n2 c2) ∧ w'.cell? ⟨w.heap.size + 1, 1, none⟩ = some (.slice B' m2 d2) ∧ w'.cell? ⟨b7, off7 + k, none⟩ = some (.string sx))) (by kernel_rfl) (by (first | exact HK9.out _ (xD xR) | go_keep)) (fun hHeld => ?_)
     (refine wpAnyH_takeD (i := 0) (d := some 60) (v := ?_) rfl rfl (by kernel_rfl) (by kernel_rfl) (by kernel_rfl) (fun _ _ _ h => h) (Or.inl ⟨by rfl, ?_⟩) (by assumption) ?_; rotate_left; focus (intro w hSw; (try dsimp only at hSw); go_simp; (try with_reducible rfl); done); (try simp only [Act.put, List.setIfInBounds_toArray, List.set_cons_zero, List.set_cons_succ]))
     (refine wpAnyH_takeD (i := 1) (d := some 61) (v := ?_) rfl rfl (by kernel_rfl) (by kernel_rfl) (by kernel_rfl) (fun _ _ _ h => h) (Or.inl ⟨by rfl, ?_⟩) (by assumption) ?_; rotate_left; focus (intro w hSw; (try dsimp only at hSw); go_simp; (try with_reducible rfl); done); (try simp only [Act.put, List.setIfInBounds_toArray, List.set_cons_zero, List.set_cons_succ]))
     (refine wpAnyH_takeD (i := 3) (d := some 63) (v := ?_) rfl rfl (by kernel_rfl) (by kernel_rfl) (by kernel_rfl) (fun _ _ _ h => h) (Or.inl ⟨by rfl, ?_⟩) (by assumption) ?_; rotate_left; focus (intro w hSw; (try dsimp only at hSw); go_simp; (try with_reducible rfl); done); (try simp only [Act.put, List.setIfInBounds_toArray, List.set_cons_zero, List.set_cons_succ]))
     (refine wpAnyH_takeD (i := 4) (d := some 64) (v := ?_) rfl rfl (by kernel_rfl) (by kernel_rfl) (by kernel_rfl) (fun _ _ _ h => h) (Or.inl ⟨by rfl, ?_⟩) (by assumption) ?_; rotate_left; focus (intro w hSw; (try dsimp only at hSw); go_simp; (try with_reducible rfl); done); (try simp only [Act.put, List.setIfInBounds_toArray, List.set_cons_zero, List.set_cons_succ]))
     (refine wpAnyH_ready (rs := [2]) (by kernel_rfl) (by simp) ?_)
     refine AllReadyH.cons rfl (fun K hK => ?_) AllReadyH.nil
     go_simp
     (go_at_call 87; refine (HTX.out _ _ _ (IsP.ext (Hid.out (by assumption)) (xD xR))).mono ?_; rintro e w8 ⟨v8, rfl, hO8, hx8⟩; have hs8 := hx8.size; have HO8 := hI hO8; clear hO8)
     (try go_wp2_with fail)
     (refine hK.out _ _ (by  (first | exact HK9.out _ (xT (xD xR) hx8) | go_keep) ) (fun hHeld => ?_); clear hK K; (try simp only [Act.put, List.setIfInBounds_toArray, List.set_cons_zero, List.set_cons_succ]))
     (refine wpAnyH_ready (rs := [5]) (by kernel_rfl) (by simp) ?_)
     refine AllReadyH.cons rfl (fun K hK => ?_) AllReadyH.nil
     go_simp
     (go_at_call 87; refine (HTX.out _ _ _ (IsP.ext (Hid.out (by assumption)) (xT (xD xR) hx8))).mono ?_; rintro e w8 ⟨v8, rfl, hO8, hx8⟩; have hs8 := hx8.size; have HO8 := hI hO8; clear hO8)
     (try go_wp2_with fail)
     (refine hK.out _ _ (by  (first | exact HK9.out _ (xT (xT (xD xR) (by assumption)) hx8) | go_keep) ) (fun hHeld => ?_); clear hK K; (try simp only [Act.put, List.setIfInBounds_toArray, List.set_cons_zero, List.set_cons_succ]))
     (refine wpAnyH_ready (rs := [6]) (by kernel_rfl) (by simp) ?_)
     refine AllReadyH.cons rfl (fun K hK => ?_) AllReadyH.nil
     go_simp
     (go_at_call 86; refine (HE2.out _ _ _ _ _ (Own.ext (Hid.out (by assumption)) hx8) (Own.ext (Hid.out (by assumption)) xR)).mono ?_; rintro e w10 ⟨rfl, hx10⟩; have hs10 := hx10.size)
     (try go_wp2_with fail)
     (refine hK.out _ _ (by  (first | exact HK9.out _ (xT (xT (xT (xD xR) (by assumption)) hx8) hx10) | go_keep) ) (fun hHeld => ?_); clear hK K; (try simp only [Act.put, List.setIfInBounds_toArray, List.set_cons_zero, List.set_cons_succ]))
     (refine wpAnyH_takeD (i := 7) (d := some 67) (v := ?_) rfl rfl (by kernel_rfl) (by kernel_rfl) (by kernel_rfl) (fun _ _ _ h => h) (Or.inl ⟨by rfl, ?_⟩) (by assumption) ?_; rotate_left; focus (intro w hSw; (try dsimp only at hSw); go_simp; (try with_reducible rfl); done); (try simp only [Act.put, List.setIfInBounds_toArray, List.set_cons_zero, List.set_cons_succ]))
     (refine wpAnyH_takeD (i := 8) (d := some 68) (v := ?_) rfl rfl (by kernel_rfl) (by kernel_rfl) (by kernel_rfl) (fun _ _ _ h => h) (Or.inl ⟨by rfl, ?_⟩) (by assumption) ?_; rotate_left; focus (intro w hSw; (try dsimp only at hSw); go_simp; (try with_reducible rfl); done); (try simp only [Act.put, List.setIfInBounds_toArray, List.set_cons_zero, List.set_cons_succ]))
     (refine wpAnyH_takeD (i := 9) (d := some 69) (v := undef) rfl rfl (by kernel_rfl) (by kernel_rfl) (by kernel_rfl) (fun _ _ _ h => h) (Or.inr ⟨by rfl, rfl⟩) (by assumption) ?_; (try simp only [Act.put, List.setIfInBounds_toArray, List.set_cons_zero, List.set_cons_succ]))
     (refine wpAnyH_takeD (i := 10) (d := some 70) (v := undef) rfl rfl (by kernel_rfl) (by kernel_rfl) (by kernel_rfl) (fun _ _ _ h => h) (Or.inr ⟨by rfl, rfl⟩) (by assumption) ?_; (try simp only [Act.put, List.setIfInBounds_toArray, List.set_cons_zero, List.set_cons_succ]))
     (refine wpAnyH_takeD (i := 11) (d := some 71) (v := undef) rfl rfl (by kernel_rfl) (by kernel_rfl) (by kernel_rfl) (fun _ _ _ h => h) (Or.inr ⟨by rfl, rfl⟩) (by assumption) ?_; (try simp only [Act.put, List.setIfInBounds_toArray, List.set_cons_zero, List.set_cons_succ]))
     (refine wpAnyH_takeD (i := 12) (d := some 72) (v := undef) rfl rfl (by kernel_rfl) (by kernel_rfl) (by kernel_rfl) (fun _ _ _ h => h) (Or.inr ⟨by rfl, rfl⟩) (by assumption) ?_; (try simp only [Act.put, List.setIfInBounds_toArray, List.set_cons_zero, List.set_cons_succ]))
     (refine wpAnyH_takeD (i := 13) (d := some 73) (v := undef) rfl rfl (by kernel_rfl) (by kernel_rfl) (by kernel_rfl) (fun _ _ _ h => h) (Or.inr ⟨by rfl, rfl⟩) (by assumption) ?_; (try simp only [Act.put, List.setIfInBounds_toArray, List.set_cons_zero, List.set_cons_succ]))
     (refine wpAnyH_takeD (i := 14) (d := some 74) (v := undef) rfl rfl (by kernel_rfl) (by kernel_rfl) (by kernel_rfl) (fun _ _ _ h => h) (Or.inr ⟨by rfl, rfl⟩) (by assumption) ?_; (try simp only [Act.put, List.setIfInBounds_toArray, List.set_cons_zero, List.set_cons_succ]))
     (refine wpAnyH_takeD (i := 15) (d := some 75) (v := undef) rfl rfl (by kernel_rfl) (by kernel_rfl) (by kernel_rfl) (fun _ _ _ h => h) (Or.inr ⟨by rfl, rfl⟩) (by assumption) ?_; (try simp only [Act.put, List.setIfInBounds_toArray, List.set_cons_zero, List.set_cons_succ]))
     (refine wpAnyH_takeD (i := 16) (d := some 76) (v := undef) rfl rfl (by kernel_rfl) (by kernel_rfl) (by kernel_rfl) (fun _ _ _ h => h) (Or.inr ⟨by rfl, rfl⟩) (by assumption) ?_; (try simp only [Act.put, List.setIfInBounds_toArray, List.set_cons_zero, List.set_cons_succ]))
     (refine wpAnyH_takeD (i := 17) (d := some 77) (v := undef) rfl rfl (by kernel_rfl) (by kernel_rfl) (by kernel_rfl) (fun _ _ _ h => h) (Or.inr ⟨by rfl, rfl⟩) (by assumption) ?_; (try simp only [Act.put, List.setIfInBounds_toArray, List.set_cons_zero, List.set_cons_succ]))
     (refine wpAnyH_takeD (i := 18) (d := some 78) (v := undef) rfl rfl (by kernel_rfl) (by kernel_rfl) (by kernel_rfl) (fun _ _ _ h => h) (Or.inr ⟨by rfl, rfl⟩) (by assumption) ?_; (try simp only [Act.put, List.setIfInBounds_toArray, List.set_cons_zero, List.set_cons_succ]))
     (refine wpAnyH_takeD (i := 19) (d := some 79) (v := undef) rfl rfl (by kernel_rfl) (by kernel_rfl) (by kernel_rfl) (fun _ _ _ h => h) (Or.inr ⟨by rfl, rfl⟩) (by assumption) ?_; (try simp only [Act.put, List.setIfInBounds_toArray, List.set_cons_zero, List.set_cons_succ]))
     (refine wpAnyH_takeD (i := 20) (d := some 80) (v := undef) rfl rfl (by kernel_rfl) (by kernel_rfl) (by kernel_rfl) (fun _ _ _ h => h) (Or.inr ⟨by rfl, rfl⟩) (by assumption) ?_; (try simp only [Act.put, List.setIfInBounds_toArray, List.set_cons_zero, List.set_cons_succ]))
     (refine wpAnyH_takeD (i := 21) (d := some 81) (v := undef) rfl rfl (by kernel_rfl) (by kernel_rfl) (by kernel_rfl) (fun _ _ _ h => h) (Or.inr ⟨by rfl, rfl⟩) (by assumption) ?_; (try simp only [Act.put, List.setIfInBounds_toArray, List.set_cons_zero, List.set_cons_succ]))
     (refine wpAnyH_takeD (i := 22) (d := some 82) (v := undef) rfl rfl (by kernel_rfl) (by kernel_rfl) (by kernel_rfl) (fun _ _ _ h => h) (Or.inr ⟨by rfl, rfl⟩) (by assumption) ?_; (try simp only [Act.put, List.setIfInBounds_toArray, List.set_cons_zero, List.set_cons_succ]))
     (refine wpAnyH_takeD (i := 23) (d := some 83) (v := undef) rfl rfl (by kernel_rfl) (by kernel_rfl) (by kernel_rfl) (fun _ _ _ h => h) (Or.inr ⟨by rfl, rfl⟩) (by assumption) ?_; (try simp only [Act.put, List.setIfInBounds_toArray, List.set_cons_zero, List.set_cons_succ]))
     (refine wpAnyH_takeD (i := 24) (d := some 84) (v := undef) rfl rfl (by kernel_rfl) (by kernel_rfl) (by kernel_rfl) (fun _ _ _ h => h) (Or.inr ⟨by rfl, rfl⟩) (by assumption) ?_; (try simp only [Act.put, List.setIfInBounds_toArray, List.set_cons_zero, List.set_cons_succ]))
     (refine wpAnyH_takeD (i := 25) (d := some 85) (v := undef) rfl rfl (by kernel_rfl) (by kernel_rfl) (by kernel_rfl) (fun _ _ _ h => h) (Or.inr ⟨by rfl, rfl⟩) (by assumption) ?_; (try simp only [Act.put, List.setIfInBounds_toArray, List.set_cons_zero, List.set_cons_succ]))
     (refine wpAnyH_takeD (i := 26) (d := some 86) (v := ?_) rfl rfl (by kernel_rfl) (by kernel_rfl) (by kernel_rfl) (fun _ _ _ h => h) (Or.inl ⟨by rfl, ?_⟩) (by assumption) ?_; rotate_left; focus (intro w hSw; (try dsimp only at hSw); go_simp; (try with_reducible rfl); done); (try simp only [Act.put, List.setIfInBounds_toArray, List.set_cons_zero, List.set_cons_succ]))
     refine wpAnyH_done (by kernel_rfl) ?_ _
     go_wp2
     go_ret
     exact ⟨by rw [HRR.out]; rfl, HW3.out.trans (hxr.trans (hxc.trans (xT (xT (xT (xD xR) (by assumption)) hx8) hx10)))⟩
    | true =>
     cases q2 with
     | false =>
      have HRR := hI (HRT.out rfl)
      clear HRT HRF
      go_wp2
      go_region_held3 (fun w' => w'.cell? ⟨b12, 0, none⟩ = some (.string p0) ∧ w'.cell? ⟨b12, 1, none⟩ = some (.int .i64 p1) ∧ w'.cell? ⟨b12, 2, none⟩ = some (.int .i64 p2) ∧ w'.cell? ⟨b12, 3, none⟩ = some (.int .i64 p3) ∧ w'.cell? ⟨b12, 4, none⟩ = some (.slice p4 p5 p6) ∧ w'.cell? ⟨b13, 0, none⟩ = some (.string r0) ∧ w'.cell? ⟨b13, 1, none⟩ = some (.int .i64 r1) ∧ w'.cell? ⟨b13, 2, none⟩ = some (.int .i64 r2) ∧ w'.cell? ⟨b13, 3, none⟩ = some (.int .i64 r3) ∧ w'.cell? ⟨b13, 4, none⟩ = some (.slice r4 r5 r6) ∧ w'.cell? ⟨w.heap.size, 0, none⟩ = some (.slice (some ⟨ba, oa, none⟩) n c) ∧ w'.cell? ⟨w.heap.size, 1, none⟩ = some (.slice A' m c') ∧ w'.cell? ⟨w.heap.size + 1, 0, none⟩ = some (.slice (some ⟨bb, ob, none⟩) n2 c2) ∧ w'.cell? ⟨w.heap.size + 1, 1, none⟩ = some (.slice B' m2 d2) ∧ w'.cell? ⟨b7, off7 + k, none⟩ = some (.string sx)) (first | exact HK9.out _ (by with_reducible first|exact xD xR|exact xT (xD xR) hx8|exact xT (xT (xD xR) (by assumption)) hx8|exact xT (xT (xT (xD xR) (by assumption)) hx8) hx10|exact xT (xT (xT (xT (xD xR) (by assumption)) hx8) hx10) hx11|exact xT (xT (xT (xT (xT (xD xR) (by assumption)) hx8) hx10) (by assumption)) hx11) | go_keep) (first | (go_at_call 87; refine (HTX.out _ _ _ (IsP.ext (Hid.out (by assumption)) (by with_reducible first|exact xD xR|exact xT (xD xR) hx8))).mono ?_; rintro e w8 ⟨v8, rfl, hO8, hx8⟩; have hs8 := hx8.size; have HO8 := hI hO8; clear hO8) | (go_at_call 86; refine (HE2.out _ _ _ _ _ (Own.ext (Hid.out (by assumption)) hx8) (Own.ext (Hid.out (by assumption)) xR)).mono ?_; rintro e w10 ⟨rfl, hx10⟩; have hs10 := hx10.size) | (go_at_call 64; refine (HQQ.out _ _ _ (by first | exact .inl ⟨rfl, rfl, rfl⟩ | exact .inr ⟨rfl, rfl, rfl⟩) _ (by with_reducible first|exact xT (xT (xT (xD xR) (by assumption)) hx8) hx10|exact xT (xT (xT (xT (xD xR) (by assumption)) hx8) hx10) hx11)).mono ?_; rintro e w11 ⟨rfl, hx11⟩; have hs11 := hx11.size))
      all_goals
       go_wp2
       go_ret
       exact ⟨by rw [HRR.out]; rfl, HW3.out.trans (hxr.trans (hxc.trans (xT (xT (xT (xT (xT (xD xR) (by assumption)) hx8) hx10) (by assumption)) hx11)))⟩
     | true =>
      have HJ2 := hI (HRF.out rfl)
      clear HRT HRF
      go_wp2
      go_region_held3 (fun w' => w'.cell? ⟨b12, 0, none⟩ = some (.string p0) ∧ w'.cell? ⟨b12, 1, none⟩ = some (.int .i64 p1) ∧ w'.cell? ⟨b12, 2, none⟩ = some (.int .i64 p2) ∧ w'.cell? ⟨b12, 3, none⟩ = some (.int .i64 p3) ∧ w'.cell? ⟨b12, 4, none⟩ = some (.slice p4 p5 p6) ∧ w'.cell? ⟨b13, 0, none⟩ = some (.string r0) ∧ w'.cell? ⟨b13, 1, none⟩ = some (.int .i64 r1) ∧ w'.cell? ⟨b13, 2, none⟩ = some (.int .i64 r2) ∧ w'.cell? ⟨b13, 3, none⟩ = some (.int .i64 r3) ∧ w'.cell? ⟨b13, 4, none⟩ = some (.slice r4 r5 r6) ∧ w'.cell? ⟨w.heap.size, 0, none⟩ = some (.slice (some ⟨ba, oa, none⟩) n c) ∧ w'.cell? ⟨w.heap.size, 1, none⟩ = some (.slice A' m c') ∧ w'.cell? ⟨w.heap.size + 1, 0, none⟩ = some (.slice (some ⟨bb, ob, none⟩) n2 c2) ∧ w'.cell? ⟨w.heap.size + 1, 1, none⟩ = some (.slice B' m2 d2) ∧ w'.cell? ⟨b7, off7 + k, none⟩ = some (.string sx)) (first | exact HK9.out _ (by with_reducible first|exact xD xR|exact xT (xD xR) hx8|exact xT (xT (xD xR) (by assumption)) hx8|exact xT (xT (xT (xD xR) (by assumption)) hx8) hx10|exact xT (xT (xT (xT (xD xR) (by assumption)) hx8) hx10) hx11|exact xT (xT (xT (xT (xT (xD xR) (by assumption)) hx8) hx10) (by assumption)) hx11) | go_keep) (first | (go_at_call 87; refine (HTX.out _ _ _ (IsP.ext (Hid.out (by assumption)) (by with_reducible first|exact xD xR|exact xT (xD xR) hx8))).mono ?_; rintro e w8 ⟨v8, rfl, hO8, hx8⟩; have hs8 := hx8.size; have HO8 := hI hO8; clear hO8) | (go_at_call 86; refine (HE2.out _ _ _ _ _ (Own.ext (Hid.out (by assumption)) hx8) (Own.ext (Hid.out (by assumption)) xR)).mono ?_; rintro e w10 ⟨rfl, hx10⟩; have hs10 := hx10.size) | (go_at_call 64; refine (HQQ.out _ _ _ (by first | exact .inl ⟨rfl, rfl, rfl⟩ | exact .inr ⟨rfl, rfl, rfl⟩) _ (by with_reducible first|exact xT (xT (xT (xD xR) (by assumption)) hx8) hx10|exact xT (xT (xT (xT (xD xR) (by assumption)) hx8) hx10) hx11)).mono ?_; rintro e w11 ⟨rfl, hx11⟩; have hs11 := hx11.size))
      all_goals
       go_wp2
       go_roundw
       case rel => exact ⟨k + 1, by omega, by go_num, HJ2, hxr.trans (hxc.trans (xT (xT (xT (xT (xT (xD xR) (by assumption)) hx8) hx10) (by assumption)) hx11))⟩
       case measure => simp [intOf]; omega
   ·obtain rfl : k = un := by omega
    have HRR : Hid (res = false) := hI (by
     rw [HR.out, List.any_eq_false]
     intro x hx
     obtain ⟨j, hj, rfl⟩ := List.mem_iff_getElem.1 hx
     have := HJ.out j (by rw [HUN.out]; exact hj)
     rw [show X.getD j [] = X[j] by simp [List.getD, hj]] at this
     rw [this]; simp)
    go_wp2
    go_ret
    exact ⟨by rw [HRR.out]; rfl, HW3.out.trans hxr⟩
end
section
variable {w : World} {A A' B B' : Option Addr} {n c m c' n2 c2 m2 d2 : Nat} {ps ps2 : List Pl} {L L2 : List Lk}
set_option maxRecDepth 20000 in
set_option maxHeartbeats 12800000 in
theorem i_differIn (y : Int) (h : WIn w A A' n c m c' ps L) (h2 : WIn w B B' n2 c2 m2 d2 ps2 L2) (hw : wdB (psD ps) L = true) (hw2 : wdB (psD ps2) L2 = true) :
  Calls Tryz.prog 39 #[.agg #[.slice A n c, .slice A' m c'], .agg #[.slice B n2 c2, .slice B' m2 d2], .int .i64 y] w fun e w' => e = .returned (.bool (difY (psD ps) L (psD ps2) L2 y)) ∧ Ext w w' := by
 have h10 := wdB_len hw
 have h102 := wdB_len hw2
 rw [psD_len] at h10 h102
 have HCA : Hid (∀ W b5, Ext w W → Blk W b5 2 #[.int .i64 y] → Calls Tryz.prog 78 #[.slice A n c, .func (.func 77) #[] #[.pointer (some ⟨b5, 0, none⟩)]] W fun e w' => ∃ v, e = .returned v ∧ OwS w' W.heap.size v (cdsP (exY y) (psD ps)) ∧ Ext W w') := hI (fun W b5 hW h5 =>
  i_codesOf (exY y) _ _ en_differIn1 A n c ps W (h.sq.ext hW) h.hn (by rw [h.hn]; omega) (fun p _ W' hW' => i_differIn1 p y b5 W' ((h5.ext hW').cell 0)))
 have HCB : Hid (∀ W b5, Ext w W → Blk W b5 2 #[.int .i64 y] → Calls Tryz.prog 78 #[.slice B n2 c2, .func (.func 77) #[] #[.pointer (some ⟨b5, 0, none⟩)]] W fun e w' => ∃ v, e = .returned v ∧ OwS w' W.heap.size v (cdsP (exY y) (psD ps2)) ∧ Ext W w') := hI (fun W b5 hW h5 =>
  i_codesOf (exY y) _ _ en_differIn1 B n2 c2 ps2 W (h2.sq.ext hW) h2.hn (by rw [h2.hn]; omega) (fun p _ W' hW' => i_differIn1 p y b5 W' ((h5.ext hW').cell 0)))
 have hl1 : (cdsP (exY y) (psD ps)).length ≤ 10 := Nat.le_trans (cdsP_len _ _) (wdB_len hw)
 have hl2 : (cdsP (exY y) (psD ps2)).length ≤ 10 := Nat.le_trans (cdsP_len _ _) (wdB_len hw2)
 have HE : Hid (∀ W v v' q1 q2, OwS W q1 v (cdsP (exY y) (psD ps)) → OwS W q2 v' (cdsP (exY y) (psD ps2)) → Calls Tryz.prog 79 #[v, v'] W fun e w' => e = .returned (.bool (cdsP (exY y) (psD ps) == cdsP (exY y) (psD ps2))) ∧ Ext W w') := hI (fun W v v' q1 q2 hO hO' => by
  obtain ⟨A1, e1, rfl, hS1, _⟩ := hO.sl len_encS
  obtain ⟨A2, e2, rfl, hS2, _⟩ := hO'.sl len_encS
  exact i_EqualS _ _ _ _ _ _ _ _ _ hS1 hS2 rfl rfl (by omega) (by omega))
 have HN : (cdsP (exY y) (psD ps) == cdsP (exY y) (psD ps2)) = true → Hid (∀ W v q b3 b5 b4, OwS W q v (cdsP (exY y) (psD ps)) → Ext w W → Blk W b3 27 #[.slice A n c, .slice A' m c'] → Blk W b5 2 #[.int .i64 y] → Blk W b4 27 #[.slice B n2 c2, .slice B' m2 d2] → Calls Tryz.prog 80 #[v, .func (.func 81) #[] #[.pointer (some ⟨b3, 0, none⟩), .pointer (some ⟨b5, 0, none⟩), .pointer (some ⟨b4, 0, none⟩)]] W fun e w' => e = .returned (.bool (difY (psD ps) L (psD ps2) L2 y)) ∧ Ext W w') := fun he => hI (fun W v q b3 b5 b4 hO hW k3 k5 k4 => by
  obtain ⟨A1, e1, rfl, hS1, _⟩ := hO.sl len_encS
  rw [difY_any he]
  refine i_ContainsFuncS (dfB (psD ps) L (psD ps2) L2 y) _ _ en_differIn2 A1 _ e1 _ W hS1 rfl (by omega) (fun x hx W' hW' => ?_)
  have he2 := beq_iff_eq.1 he
  exact i_differIn2 x y b3 b5 b4 ((h.ext hW).ext hW') ((h2.ext hW).ext hW') hw hw2 (cds_found hx) (cds_found (by rw [← he2]; exact hx)) (k3.ext hW') ((k5.ext hW').cell 0) (k4.ext hW'))
 have hno : (cdsP (exY y) (psD ps) == cdsP (exY y) (psD ps2)) = false → difY (psD ps) L (psD ps2) L2 y = true := difY_codes
 generalize difY (psD ps) L (psD ps2) L2 y = res at *
 clear h h2 hw hw2 h10 h102 hl1 hl2
 generalize hq : (cdsP (exY y) (psD ps) == cdsP (exY y) (psD ps2)) = q at *
 generalize cdsP (exY y) (psD ps) = X1 at *
 generalize cdsP (exY y) (psD ps2) = X2 at *
 clear hq
 have HK : Hid (∀ W, Ext (((w.alloc (.cells #[.slice A n c, .slice A' m c'] 27)).alloc (.cells #[.slice B n2 c2, .slice B' m2 d2] 27)).alloc (.cells #[.int .i64 y] 2)) W → Blk W w.heap.size 27 #[.slice A n c, .slice A' m c'] ∧ Blk W (w.heap.size + 1) 27 #[.slice B n2 c2, .slice B' m2 d2] ∧ Blk W (w.heap.size + 1 + 1) 2 #[.int .i64 y]) := hI (fun W hW => by
  have B0 := (((Blk.new (cs := #[.slice A n c, .slice A' m c']) (t := 27) (w := w) rfl).alloc (.cells #[.slice B n2 c2, .slice B' m2 d2] 27)).alloc (.cells #[.int .i64 y] 2)).ext hW
  have B1 := ((Blk.new (cs := #[.slice B n2 c2, .slice B' m2 d2]) (t := 27) (w := w.alloc (.cells #[.slice A n c, .slice A' m c'] 27)) rfl).alloc (.cells #[.int .i64 y] 2)).ext hW
  have B2 := (Blk.new (cs := #[.int .i64 y]) (t := 2) (w := (w.alloc (.cells #[.slice A n c, .slice A' m c'] 27)).alloc (.cells #[.slice B n2 c2, .slice B' m2 d2] 27)) rfl).ext hW
  simp only [World.size_alloc] at B1 B2
  exact ⟨B0, B1, B2⟩)
 go_enter Tryz.func39, Tryz.ntmps39
 go_wp2_with fail
 refine (HCA.out _ _ (xA (xA (xA xR))) ((HK.out _ xR).2.2)).mono ?_
 rintro e w1 ⟨v1, rfl, hO1, hx1⟩
 have HO1 := hI hO1
 clear hO1
 have hkb := HK.out w1 hx1
 have u0 : w1.cell? ⟨w.heap.size + 1, 0, none⟩ = some (.slice B n2 c2) := hkb.2.1.cell 0
 have u1 : w1.cell? ⟨w.heap.size + 1, 1, none⟩ = some (.slice B' m2 d2) := hkb.2.1.cell 1
 have hx1w : Ext w w1 := by clear hkb; exact xT (xA (xA (xA xR))) hx1
 have HX1 := hI hx1w
 have HKB := hI hkb
 clear hkb hx1w
 go_wp2_with fail
 refine (HCB.out _ _ (HX1.out.trans xR) (HKB.out.2.2.ext xR)).mono ?_
 rintro e w2 ⟨v2, rfl, hO2, hx2⟩
 have HO2 := hI hO2
 clear hO2
 go_wp2_with fail
 refine (HE.out _ _ _ _ _ (HO1.out.ext hx2) (HO2.out.ext xR)).mono ?_
 rintro e w3 ⟨rfl, hx3⟩
 have HX13 : Hid (Ext w1 w3) := hI (xT hx2 hx3)
 cases q with
 | false =>
  have HR := hI (hno rfl)
  go_wp2
  go_ret
  exact ⟨ret_bool' HR.out.symm, HX1.out.trans (HX13.out.trans xR)⟩
 | true =>
  have HNN := HN rfl
  clear HN hno
  go_wp2_with fail
  refine (HNN.out _ _ _ _ _ _ ((HO1.out.ext HX13.out).ext xR) (HX1.out.trans (HX13.out.trans xR)) ((HKB.out.1.ext HX13.out).ext xR) ((HKB.out.2.2.ext HX13.out).ext xR) ((HKB.out.2.1.ext HX13.out).ext xR)).mono ?_
  rintro e w4 ⟨rfl, hx4⟩
  go_wp2
  go_ret
  exact ⟨rfl, HX1.out.trans (HX13.out.trans hx4)⟩
noncomputable def dbR (D : List Pd) (L : List Lk) (D' : List Pd) (L' : List Lk) (y : Int) : Bool := if wyC D L (wdB D' L') [y] = 0 then difB D L D' L' y else false
set_option maxRecDepth 20000 in
set_option maxHeartbeats 12800000 in
theorem i_DifferBeforeW (y : Int) (h : WIn w A A' n c m c' ps L) (h2 : WIn w B B' n2 c2 m2 d2 ps2 L2) (hm : Mx w) :
  Calls Tryz.prog 12 #[.agg #[.slice A n c, .slice A' m c'], .agg #[.slice B n2 c2, .slice B' m2 d2], .int .i64 y] w fun e w' => e = .returned (.tuple #[.bool (dbR (psD ps) L (psD ps2) L2 y), .int .i64 (wyC (psD ps) L (wdB (psD ps2) L2) [y])]) ∧ Ext w w' := by
 have HW := hI (fun W (hW : Ext w W) => i_IsWorldW (h2.ext hW) (hm.ext hW))
 have HC : Hid (∀ W g, Ext w W → Blk W g 2 #[.int .i64 y] → Calls Tryz.prog 21 #[.agg #[.slice A n c, .slice A' m c'], .bool (wdB (psD ps2) L2), .slice (some ⟨g, 0, none⟩) 1 1] W fun e w' => e = .returned (.int .i64 (wyC (psD ps) L (wdB (psD ps2) L2) [y])) ∧ Ext W w') := hI (fun W g hW hB => i_worldCode _ [y] _ 1 1 (h.ext hW) (hm.ext hW) (blk_i1 hB) rfl (by omega))
 have HK : Hid (∀ W, Ext ((w.alloc (.cells #[.slice A n c, .slice A' m c'] 27)).alloc (.cells #[.slice B n2 c2, .slice B' m2 d2] 27)) W → W.cell? ⟨w.heap.size, 0, none⟩ = some (.slice A n c) ∧ W.cell? ⟨w.heap.size, 1, none⟩ = some (.slice A' m c') ∧ W.cell? ⟨w.heap.size + 1, 0, none⟩ = some (.slice B n2 c2) ∧ W.cell? ⟨w.heap.size + 1, 1, none⟩ = some (.slice B' m2 d2)) := hI (fun W hW => by
  have B0 := ((Blk.new (cs := #[.slice A n c, .slice A' m c']) (t := 27) (w := w) rfl).alloc (.cells #[.slice B n2 c2, .slice B' m2 d2] 27)).ext hW
  have B1 := (Blk.new (cs := #[.slice B n2 c2, .slice B' m2 d2]) (t := 27) (w := w.alloc (.cells #[.slice A n c, .slice A' m c'] 27)) rfl).ext hW
  simp only [World.size_alloc] at B1
  exact ⟨B0.cell 0, B0.cell 1, B1.cell 0, B1.cell 1⟩)
 by_cases hz : wyC (psD ps) L (wdB (psD ps2) L2) [y] = 0
 ·have hw := (wyC_zero hz).1
  have hw2 := (wyC_zero hz).2.1
  have hyy : y ≤ 3000 := (inB_iff.1 (by simpa using (wyC_zero hz).2.2)).2
  have HD := hI (fun z W (hW : Ext w W) => i_differIn (w := W) z (h.ext hW) (h2.ext hW) hw hw2)
  have HR : Hid (dbR (psD ps) L (psD ps2) L2 y = difB (psD ps) L (psD ps2) L2 y) := hI (by unfold dbR; rw [if_pos hz])
  have HYES := hI (fun z (h1 : -3000 ≤ z) (h2 : z < y) (h3 : difY (psD ps) L (psD ps2) L2 z = true) => difB_yes h1 h2 h3)
  have HNO := hI (fun (h3 : ∀ z, -3000 ≤ z → z < y → difY (psD ps) L (psD ps2) L2 z = false) => difB_no h3)
  rw [HR.out]
  rw [hz] at HC ⊢
  generalize difY (psD ps) L (psD ps2) L2 = fY at *
  generalize difB (psD ps) L (psD ps2) L2 y = res at *
  generalize wdB (psD ps2) L2 = q at *
  clear hz hw hw2 h h2 hm HR
  obtain ⟨g0, g1, g2, g3⟩ := HK.out _ (Ext.refl _)
  go_enter Tryz.func12, Tryz.ntmps12
  go_wp2
  go_region_held3 (fun w' => w'.cell? ⟨w.heap.size, 0, none⟩ = some (.slice A n c) ∧ w'.cell? ⟨w.heap.size, 1, none⟩ = some (.slice A' m c') ∧ w'.cell? ⟨w.heap.size + 1, 0, none⟩ = some (.slice B n2 c2) ∧ w'.cell? ⟨w.heap.size + 1, 1, none⟩ = some (.slice B' m2 d2)) (first | go_keep | exact HK.out _ (by with_reducible first|exact xT (xD xR) hx7|exact xT (xD (xA xR)) hx7)) (first | (go_at_call 38; refine (HW.out _ (by with_reducible first|exact xD (xA (xA xR))|exact xD (xA (xA (xA xR))))).mono ?_; rintro e w7 ⟨rfl, hx7⟩; have hs7 := hx7.size; (try simp at hs7)) | (go_at_call 21; refine (HC.out _ _ (by with_reducible first|exact xA (xT (xD (xA (xA xR))) hx7)|exact xT (xD (xA (xA (xA xR)))) hx7) (by with_reducible first|exact bN (by omega)|exact bE hx7 (bD (bN (by first|omega|simp))))).mono ?_; rintro e w8 ⟨rfl, hx8⟩; have hs8 := hx8.size; (try simp at hs8); have hkb8 := HK.out w8 (by with_reducible first|exact xT (xT (xD (xA xR)) hx7) hx8|exact xT (xA (xT (xD xR) hx7)) hx8)))
  all_goals
   have hX8 : Ext w w8 := by with_reducible first|exact xT (xT (xD (xA (xA (xA xR)))) hx7) hx8|exact xT (xA (xT (xD (xA (xA xR))) hx7)) hx8
   have HX8 := hI hX8
   have HKX : Hid (∀ W, Ext w8 W → W.cell? ⟨w.heap.size, 0, none⟩ = some (.slice A n c) ∧ W.cell? ⟨w.heap.size, 1, none⟩ = some (.slice A' m c') ∧ W.cell? ⟨w.heap.size + 1, 0, none⟩ = some (.slice B n2 c2) ∧ W.cell? ⟨w.heap.size + 1, 1, none⟩ = some (.slice B' m2 d2)) := hI (fun W hW => ⟨(hW.cell _ _ (World.block_lt_of_cell? _ _ hkb8.1)).trans hkb8.1, (hW.cell _ _ (World.block_lt_of_cell? _ _ hkb8.1)).trans hkb8.2.1, (hW.cell _ _ (World.block_lt_of_cell? _ _ hkb8.2.2.1)).trans hkb8.2.2.1, (hW.cell _ _ (World.block_lt_of_cell? _ _ hkb8.2.2.1)).trans hkb8.2.2.2⟩)
   clear hX8 hx7 hx8 hkb8 g0 g1 g2 g3
   go_wp2
   go_loopw [9] (fun i wr => ∃ z : Int, -3000 ≤ z ∧ (z ≤ y ∨ z = -3000) ∧ i = .int .i64 z ∧ Hid (∀ u, -3000 ≤ u → u < z → fY u = false) ∧ Ext w8 wr) (fun i _ => (y - intOf i).toNat)
   case atStart => exact ⟨-3000, by omega, .inr rfl, rfl, hI (fun u h1 h2 => by omega), xR⟩
   case round =>
    obtain ⟨z, hz1, hz2, rfl, HJ, hxr⟩ := hrel
    obtain ⟨w5, rfl⟩ : ∃ x, x = wr := ⟨wr, rfl⟩
    obtain ⟨t0, t1, t2, t3⟩ := HKX.out w5 hxr
    by_cases hlt : z < y
    ·have hwr : IntKind.i64.wrap (z + 1) = z + 1 := IntWalk.i64_in _ (by omega)
     have hld : decide (z < y) = true := decide_eq_true hlt
     have HDC := hI (fun W (hW : Ext w5 W) => HD.out z W (HX8.out.trans (hxr.trans hW)))
     cases hq : fY z with
     | true =>
      have HRR := hI (HYES.out z hz1 hlt hq)
      rw [hq] at HDC
      clear hq
      go_wp2_with fail
      refine (HDC.out _ xR).mono ?_
      rintro e w6 ⟨rfl, hx6⟩
      go_wp2
      go_ret2
      exact ⟨by rw [HRR.out]; rfl, HX8.out.trans (xT hxr hx6)⟩
     | false =>
      have HJ2 : Hid (∀ u, -3000 ≤ u → u < z + 1 → fY u = false) := hI (fun u h1 h2 => by
       by_cases e : u = z
       ·rw [e]; exact hq
       ·exact HJ.out u h1 (by omega))
      rw [hq] at HDC
      clear hq
      go_wp2_with fail
      refine (HDC.out _ xR).mono ?_
      rintro e w6 ⟨rfl, hx6⟩
      go_wp2
      go_roundw
      case rel => exact ⟨z + 1, by omega, .inl (by omega), by first | rfl | rw [hwr], HJ2, xT hxr hx6⟩
      case measure => simp [intOf]; omega
    ·have HRR : Hid (res = false) := hI (HNO.out (fun u h1 h2 => HJ.out u h1 (by omega)))
     have hld : decide (z < y) = false := decide_eq_false hlt
     go_wp2
     go_ret2
     exact ⟨by rw [HRR.out]; rfl, HX8.out.trans hxr⟩
 ·have hR : dbR (psD ps) L (psD ps2) L2 y = false := by unfold dbR; rw [if_neg hz]
  rw [hR]
  generalize wyC (psD ps) L (wdB (psD ps2) L2) [y] = cd at *
  have hcd : (cd != 0) = true := by simpa using hz
  generalize wdB (psD ps2) L2 = q at *
  clear h h2 hm hR
  obtain ⟨g0, g1, g2, g3⟩ := HK.out _ (Ext.refl _)
  go_enter Tryz.func12, Tryz.ntmps12
  go_wp2
  go_region_held3 (fun w' => w'.cell? ⟨w.heap.size, 0, none⟩ = some (.slice A n c) ∧ w'.cell? ⟨w.heap.size, 1, none⟩ = some (.slice A' m c') ∧ w'.cell? ⟨w.heap.size + 1, 0, none⟩ = some (.slice B n2 c2) ∧ w'.cell? ⟨w.heap.size + 1, 1, none⟩ = some (.slice B' m2 d2)) (first | go_keep | exact HK.out _ (by with_reducible first|exact xT (xD xR) hx7|exact xT (xD (xA xR)) hx7)) (first | (go_at_call 38; refine (HW.out _ (by with_reducible first|exact xD (xA (xA xR))|exact xD (xA (xA (xA xR))))).mono ?_; rintro e w7 ⟨rfl, hx7⟩; have hs7 := hx7.size; (try simp at hs7)) | (go_at_call 21; refine (HC.out _ _ (by with_reducible first|exact xA (xT (xD (xA (xA xR))) hx7)|exact xT (xD (xA (xA (xA xR)))) hx7) (by with_reducible first|exact bN (by omega)|exact bE hx7 (bD (bN (by first|omega|simp))))).mono ?_; rintro e w8 ⟨rfl, hx8⟩; have hs8 := hx8.size; (try simp at hs8); have hkb8 := HK.out w8 (by with_reducible first|exact xT (xT (xD (xA xR)) hx7) hx8|exact xT (xA (xT (xD xR) hx7)) hx8)))
  all_goals
   go_wp2
   go_ret2
   exact ⟨rfl, by with_reducible first|exact xT (xT (xD (xA (xA (xA xR)))) hx7) hx8|exact xT (xA (xT (xD (xA (xA xR))) hx7)) hx8⟩
end
section
variable {w : World} {A A' B B' : Option Addr} {n c m c' n2 c2 m2 d2 : Nat} {ps ps2 : List Pl} {L L2 : List Lk}
set_option maxRecDepth 20000 in
set_option maxHeartbeats 25600000 in
theorem s_DifferBeforeW (y : Int) (h : WIn w A A' n c m c' ps L) (h2 : WIn w B B' n2 c2 m2 d2 ps2 L2) :
  Calls Tryz.prog 13 #[.agg #[.slice A n c, .slice A' m c'], .agg #[.slice B n2 c2, .slice B' m2 d2], .int .i64 y] w fun e w' => e = .returned (.tuple #[.bool (dbR (psD ps) L (psD ps2) L2 y), .int .i64 (wyC (psD ps) L (wdB (psD ps2) L2) [y])]) ∧ Ext w w' := by
 have HWW : Hid (∀ v q, (v = .agg #[.slice A n c, .slice A' m c'] ∧ q = wdB (psD ps) L) ∨ (v = .agg #[.slice B n2 c2, .slice B' m2 d2] ∧ q = wdB (psD ps2) L2) → ∀ W, Ext w W → Calls Tryz.prog 40 #[v] W fun e w' => e = .returned (.bool q) ∧ Ext W w') := hI (fun v q hv W hW => by
  rcases hv with ⟨rfl, rfl⟩ | ⟨rfl, rfl⟩
  ·exact s_IsWorldW (h.ext hW)
  ·exact s_IsWorldW (h2.ext hW))
 have HY := hI (fun W => s_l02Year y W)
 have HK : Hid (∀ W, Ext ((w.alloc (.cells #[.slice A n c, .slice A' m c'] 27)).alloc (.cells #[.slice B n2 c2, .slice B' m2 d2] 27)) W → W.cell? ⟨w.heap.size, 0, none⟩ = some (.slice A n c) ∧ W.cell? ⟨w.heap.size, 1, none⟩ = some (.slice A' m c') ∧ W.cell? ⟨w.heap.size + 1, 0, none⟩ = some (.slice B n2 c2) ∧ W.cell? ⟨w.heap.size + 1, 1, none⟩ = some (.slice B' m2 d2)) := hI (fun W hW => by
  have B0 := ((Blk.new (cs := #[.slice A n c, .slice A' m c']) (t := 27) (w := w) rfl).alloc (.cells #[.slice B n2 c2, .slice B' m2 d2] 27)).ext hW
  have B1 := (Blk.new (cs := #[.slice B n2 c2, .slice B' m2 d2]) (t := 27) (w := w.alloc (.cells #[.slice A n c, .slice A' m c'] 27)) rfl).ext hW
  simp only [World.size_alloc] at B1
  exact ⟨B0.cell 0, B0.cell 1, B1.cell 0, B1.cell 1⟩)
 have hno : ¬ wyC (psD ps) L (wdB (psD ps2) L2) [y] = 0 → dbR (psD ps) L (psD ps2) L2 y = false := fun q => by unfold dbR; rw [if_neg q]
 cases hw : wdB (psD ps) L with
 | false =>
  have e : wyC (psD ps) L (wdB (psD ps2) L2) [y] = 1 := wyC_wd hw
  rw [hno (by omega), e]
  rw [hw] at HWW
  generalize wdB (psD ps2) L2 = q2 at *
  clear h h2 hno hw e
  go_enter Tryz.func13, Tryz.ntmps13
  go_wp2_with fail
  refine (HWW.out _ _ (.inl ⟨rfl, rfl⟩) _ (xA (xA xR))).mono ?_
  rintro e w1 ⟨rfl, hx1⟩
  go_wp2
  go_ret2
  exact ⟨rfl, xT (xA (xA xR)) hx1⟩
 | true =>
  cases hw2 : wdB (psD ps2) L2 with
  | false =>
   have e : wyC (psD ps) L false [y] = 1 := wyC_no rfl
   rw [hno (by rw [hw2]; omega), e]
   rw [hw, hw2] at HWW
   clear h h2 hno hw hw2 e
   go_enter Tryz.func13, Tryz.ntmps13
   go_wp2_with fail
   refine (HWW.out _ _ (.inl ⟨rfl, rfl⟩) _ (xA (xA xR))).mono ?_
   rintro e w1 ⟨rfl, hx1⟩
   obtain ⟨t0, t1, t2, t3⟩ := HK.out w1 hx1
   go_wp2_with fail
   refine (HWW.out _ _ (.inr ⟨rfl, rfl⟩) _ (xT (xA (xA xR)) hx1)).mono ?_
   rintro e w2 ⟨rfl, hx2⟩
   go_wp2
   go_ret2
   exact ⟨rfl, xT (xT (xA (xA xR)) hx1) hx2⟩
  | true =>
   cases hy : inB y (-3000) 3000 with
   | false =>
    have e : wyC (psD ps) L true [y] = 2 := wyC_year hw rfl (by simp [hy])
    rw [hno (by rw [hw2]; omega), e]
    rw [hw, hw2] at HWW
    rw [hy] at HY
    clear h h2 hno hw hw2 e hy
    go_enter Tryz.func13, Tryz.ntmps13
    go_wp2_with fail
    refine (HWW.out _ _ (.inl ⟨rfl, rfl⟩) _ (xA (xA xR))).mono ?_
    rintro e w1 ⟨rfl, hx1⟩
    obtain ⟨t0, t1, t2, t3⟩ := HK.out w1 hx1
    go_wp2_with fail
    refine (HWW.out _ _ (.inr ⟨rfl, rfl⟩) _ (xT (xA (xA xR)) hx1)).mono ?_
    rintro e w2 ⟨rfl, hx2⟩
    (go_wp2_with fail; refine (HY.out _).mono ?_; rintro e w' ⟨rfl, rfl⟩)
    go_wp2
    go_ret2
    exact ⟨rfl, xT (xT (xA (xA xR)) hx1) hx2⟩
   | true =>
    have e : wyC (psD ps) L true [y] = 0 := wyC_ok hw rfl (by simp [hy])
    have hR : dbR (psD ps) L (psD ps2) L2 y = difB (psD ps) L (psD ps2) L2 y := by unfold dbR; rw [hw2, if_pos e]
    rw [hR, e]
    have hyy := inB_iff.1 hy
    have HMM : Hid (∀ v R, (v = .agg #[.slice A n c, .slice A' m c'] ∧ R = mkW (psD ps) L) ∨ (v = .agg #[.slice B n2 c2, .slice B' m2 d2] ∧ R = mkW (psD ps2) L2) → ∀ W, Ext w W → Calls Tryz.prog 42 #[v] W fun e w' => ∃ v', e = .returned v' ∧ OwI w' W.heap.size v' R ∧ Ext W w') := hI (fun v R hv W hW => by
     rcases hv with ⟨rfl, rfl⟩ | ⟨rfl, rfl⟩
     ·exact s_l14Marks (h.ext hW) hw
     ·exact s_l14Marks (h2.ext hW) hw2)
    have HAL := hI (fun z (hz1 : -3000 ≤ z) (hz2 : z ≤ 3000) W (hW : Ext w W) => s_l14Alike (w := W) z (h.ext hW) (h2.ext hW) hw hw2 (inB_iff.2 ⟨hz1, hz2⟩))
    have HHIT := hI (fun k (hk : k < (mkW (psD ps) L ++ mkW (psD ps2) L2).length) h1 h3 => dif_hit hw hw2 (year := y) hk h1 h3)
    have HNON := hI (fun h3 => dif_none hw hw2 (year := y) h3)
    have HLO : Hid (∀ k, k < (mkW (psD ps) L ++ mkW (psD ps2) L2).length → -3000 ≤ (mkW (psD ps) L ++ mkW (psD ps2) L2).getD k 0) := hI (fun k hk => by
     have hm := mem_getD (d := (0 : Int)) hk
     rcases List.mem_append.1 hm with q | q
     ·exact mkW_lo hw _ q
     ·exact mkW_lo hw2 _ q)
    have hml : ∀ (D : List Pd) (LL : List Lk), wdB D LL = true → (mkW D LL).length ≤ 400 := fun D LL q => by
     have h1 := mkP_len (wdB_n12 q) D.length
     have h2 := wdB_len q
     have h3 := mkK_len LL LL.length
     have h4 := (lksB_iff.1 (wdB_iff.1 q).2.1).1.2
     unfold mkW
     rw [List.length_append, List.length_append]
     simp only [List.length_singleton]
     omega
    have HL1 := hI (hml _ _ hw)
    have HL2 := hI (hml _ _ hw2)
    rw [hw, hw2] at HWW
    rw [hy] at HY
    generalize difB (psD ps) L (psD ps2) L2 y = res at *
    generalize difY (psD ps) L (psD ps2) L2 = fY at *
    generalize mkW (psD ps) L = M1 at *
    generalize mkW (psD ps2) L2 = M2 at *
    clear h h2 hno hw hw2 e hy hR hml
    go_enter Tryz.func13, Tryz.ntmps13
    go_wp2_with fail
    refine (HWW.out _ _ (.inl ⟨rfl, rfl⟩) _ (xA (xA xR))).mono ?_
    rintro e w1 ⟨rfl, hx1⟩
    obtain ⟨t0, t1, t2, t3⟩ := HK.out w1 hx1
    go_wp2_with fail
    refine (HWW.out _ _ (.inr ⟨rfl, rfl⟩) _ (xT (xA (xA xR)) hx1)).mono ?_
    rintro e w2 ⟨rfl, hx2⟩
    (go_wp2_with fail; refine (HY.out _).mono ?_; rintro e w' ⟨rfl, rfl⟩)
    have hX2 : Ext w w2 := xT (xT (xA (xA xR)) hx1) hx2
    have HX2 := hI hX2
    have hk2 := HK.out w2 (by clear hX2; exact xT hx1 hx2)
    have l0 := World.block_lt_of_cell? _ _ hk2.1
    have l1 := World.block_lt_of_cell? _ _ hk2.2.2.1
    have HK2 : Hid (∀ W, Ext w2 W → W.cell? ⟨w.heap.size, 0, none⟩ = some (.slice A n c) ∧ W.cell? ⟨w.heap.size, 1, none⟩ = some (.slice A' m c') ∧ W.cell? ⟨w.heap.size + 1, 0, none⟩ = some (.slice B n2 c2) ∧ W.cell? ⟨w.heap.size + 1, 1, none⟩ = some (.slice B' m2 d2)) := hI (fun W hW => ⟨(hW.cell _ _ l0).trans hk2.1, (hW.cell _ _ l0).trans hk2.2.1, (hW.cell _ _ l1).trans hk2.2.2.1, (hW.cell _ _ l1).trans hk2.2.2.2⟩)
    have HMM2 : Hid (∀ v R, (v = .agg #[.slice A n c, .slice A' m c'] ∧ R = M1) ∨ (v = .agg #[.slice B n2 c2, .slice B' m2 d2] ∧ R = M2) → ∀ W, Ext w2 W → Calls Tryz.prog 42 #[v] W fun e w' => ∃ v', e = .returned v' ∧ OwI w' W.heap.size v' R ∧ Ext W w') := hI (fun v R hv W hW => HMM.out v R hv W (HX2.out.trans hW))
    clear hX2 hx1 hx2 t0 t1 t2 t3 HMM HWW HY
    have HMM := HMM2
    clear HMM2
    obtain ⟨g0, g1, g2, g3⟩ := hk2
    clear l0 l1
    go_wp2
    refine wp_region_held_drew (S := (fun w' => w'.cell? ⟨w.heap.size, 0, none⟩ = some (.slice A n c) ∧ w'.cell? ⟨w.heap.size, 1, none⟩ = some (.slice A' m c') ∧ w'.cell? ⟨w.heap.size + 1, 0, none⟩ = some (.slice B n2 c2) ∧ w'.cell? ⟨w.heap.size + 1, 1, none⟩ = some (.slice B' m2 d2))) (by kernel_rfl) (by (first | exact HK2.out _ (xD xR) | go_keep)) (fun hHeld => ?_)
    (refine wpAnyH_takeD (i := 0) (d := some 21) (v := ?_) rfl rfl (by kernel_rfl) (by kernel_rfl) (by kernel_rfl) (fun _ _ _ h => h) (Or.inl ⟨by rfl, ?_⟩) (by assumption) ?_; rotate_left; focus (intro w hSw; (try dsimp only at hSw); go_simp; (try with_reducible rfl); done); (try simp only [Act.put, List.setIfInBounds_toArray, List.set_cons_zero, List.set_cons_succ]))
    (refine wpAnyH_takeD (i := 2) (d := some 23) (v := ?_) rfl rfl (by kernel_rfl) (by kernel_rfl) (by kernel_rfl) (fun _ _ _ h => h) (Or.inl ⟨by rfl, ?_⟩) (by assumption) ?_; rotate_left; focus (intro w hSw; (try dsimp only at hSw); go_simp; (try with_reducible rfl); done); (try simp only [Act.put, List.setIfInBounds_toArray, List.set_cons_zero, List.set_cons_succ]))
    (refine wpAnyH_ready (rs := [1]) (by kernel_rfl) (by simp) ?_)
    refine AllReadyH.cons rfl (fun K hK => ?_) AllReadyH.nil
    go_simp
    (go_at_call 42; refine (HMM.out _ _ (.inl ⟨rfl, rfl⟩) _ (xD xR)).mono ?_; rintro e w7 ⟨v7, rfl, hO7, hx7⟩; have hs7 := hx7.size; (try simp at hs7); have HO7 := hI hO7; clear hO7)
    (try go_wp2_with fail)
    (refine hK.out _ _ (by  (first | exact HK2.out _ (xT (xD xR) hx7) | go_keep) ) (fun hHeld => ?_); clear hK K; (try simp only [Act.put, List.setIfInBounds_toArray, List.set_cons_zero, List.set_cons_succ]))
    (refine wpAnyH_ready (rs := [3]) (by kernel_rfl) (by simp) ?_)
    refine AllReadyH.cons rfl (fun K hK => ?_) AllReadyH.nil
    go_simp
    (go_at_call 42; refine (HMM.out _ _ (.inr ⟨rfl, rfl⟩) _ (xT (xD xR) hx7)).mono ?_; rintro e w8 ⟨v8, rfl, hO8, hx8⟩; have hs8 := hx8.size; (try simp at hs8); obtain ⟨A8, c8, rfl, hS8, _⟩ := hO8.sl len_encI; have HS8 := hI hS8; clear hO8 hS8)
    (try go_wp2_with fail)
    (refine hK.out _ _ (by  (first | exact HK2.out _ (xT (xT (xD xR) hx7) hx8) | go_keep) ) (fun hHeld => ?_); clear hK K; (try simp only [Act.put, List.setIfInBounds_toArray, List.set_cons_zero, List.set_cons_succ]))
    have hL12 : M1.length + M2.length ≤ 800 := by have := HL1.out; have := HL2.out; omega
    have hbs : w2.heap.size ≤ w8.heap.size := by omega
    (refine wpAnyH_ready (rs := [4]) (by kernel_rfl) (by simp) ?_)
    refine AllReadyH.cons rfl (fun K hK => ?_) AllReadyH.nil
    refine step_append_sl elI len_encI one_encI rfl _ _ rfl rfl ((HO7.out.less (show w2.heap.size ≤ _ by first | exact Nat.le_refl _ | (simp; done) | (simp; omega))).ext hx8) (xs := M2) (by rfl) (HS8.out.ext xR) (by unfold maxLen; omega) (by omega) (by first | omega | (simp; omega)) ?_
    intro v9 w9 hO9 hg9 _
    have hx9 : Ext w2 w9 := Ext.grown (xT (xT (xD xR) hx7) hx8) hg9 (fun q hq => ((HO7.out.less (show w2.heap.size ≤ _ by first | exact Nat.le_refl _ | (simp; done) | (simp; omega))).row q hq).1)
    have HO9 := hI hO9
    have HX9 := hI hx9
    clear hO9 hg9
    (try go_wp2_with fail)
    (refine hK.out _ _ (by  (exact HK2.out _ HX9.out) ) (fun hHeld => ?_); clear hK K; (try simp only [Act.put, List.setIfInBounds_toArray]))
    (refine wpAnyH_takeD (i := 5) (d := some 8) (v := ?_) rfl rfl (by kernel_rfl) (by kernel_rfl) (by kernel_rfl) (fun _ _ _ h => h) (Or.inl ⟨by rfl, ?_⟩) (by assumption) ?_; rotate_left; focus (intro w hSw; (try dsimp only at hSw); go_simp; (try with_reducible rfl); done); (try simp only [Act.put, List.setIfInBounds_toArray, List.set_cons_zero, List.set_cons_succ]))
    refine wpAnyH_done (by kernel_rfl) ?_ _
    obtain ⟨A9, c9, rfl, hS9, _⟩ := HO9.out.sl len_encI
    have HS9 := hI hS9
    clear hS9 HO9 HO7 HS8 hx7 hx8 hx9 hs7 hs8 hbs HMM
    have hLen : (M1 ++ M2).length ≤ 800 := by rw [List.length_append]; exact hL12
    generalize M1 ++ M2 = M at *
    obtain ⟨un, hun⟩ : ∃ un, un = M.length := ⟨_, rfl⟩
    have HUN := hI hun
    rw [← hun] at hLen ⊢
    clear hun hL12
    go_wp2
    go_loopw [9] (fun i wr => ∃ k : Nat, k ≤ un ∧ i = .int .i64 k ∧ Hid (∀ j, j < k → M.getD j 0 < y → fY (M.getD j 0) = false) ∧ Ext w9 wr) (fun i _ => un - (intOf i).toNat)
    case atStart => exact ⟨0, by omega, rfl, hI (fun j hj => absurd hj (by omega)), xR⟩
    case round =>
     obtain ⟨k, hk, rfl, HJ, hxr⟩ := hrel
     obtain ⟨w5, rfl⟩ : ∃ x, x = wr := ⟨wr, rfl⟩
     obtain ⟨u0, u1, u2, u3⟩ := HK2.out w5 (HX9.out.trans hxr)
     by_cases hlt : k < un
     ·have hkr : k < M.length := by rw [← HUN.out]; exact hlt
      obtain ⟨b7, off7, hA7, hb7, c7⟩ := (HS9.out.ext hxr).it hkr
      subst hA7
      obtain ⟨z, hz⟩ : ∃ z, z = M.getD k 0 := ⟨_, rfl⟩
      rw [← hz] at c7
      have hzl : -3000 ≤ z := by rw [hz]; exact HLO.out k hkr
      have HXW := hI (HX2.out.trans (HX9.out.trans hxr))
      have lb0 := World.block_lt_of_cell? _ _ u0
      have lb1 := World.block_lt_of_cell? _ _ u2
      by_cases hzy : z < y
      ·have hzd : decide (z < y) = true := decide_eq_true hzy
       have HAC := hI (fun W (hW : Ext w5 W) => HAL.out z hzl (by omega) W (HXW.out.trans hW))
       cases hq : fY z with
       | true =>
        have HRR : Hid (res = true) := hI (HHIT.out k hkr (by rw [← hz]; exact hzy) (by rw [← hz]; exact hq))
        rw [hq] at HAC
        clear hq hz hkr
        go_wp2
        (refine wp_region_ext (by kernel_rfl) (by kernel_rfl) ?_; (repeat (go_big_quiet_step ((go_at_call 43; exact Calls_ext (HAC.out _ (Ext.trans xR (ExtOf.ext _))))))); refine wpQuiet_nil ?_; intro wq hxwq; obtain ⟨hcwq, hfwq, hswq⟩ := hxwq.all; (try simp at hswq))
        go_wp2
        go_ret2
        exact ⟨by rw [HRR.out]; rfl, HXW.out.trans hxwq⟩
       | false =>
        have HJ2 : Hid (∀ j, j < k + 1 → M.getD j 0 < y → fY (M.getD j 0) = false) := hI (upTo1 HJ.out (fun _ => by rw [← hz]; exact hq))
        rw [hq] at HAC
        clear hq hz hkr
        go_wp2
        (refine wp_region_ext (by kernel_rfl) (by kernel_rfl) ?_; (repeat (go_big_quiet_step ((go_at_call 43; exact Calls_ext (HAC.out _ (Ext.trans xR (ExtOf.ext _))))))); refine wpQuiet_nil ?_; intro wq hxwq; obtain ⟨hcwq, hfwq, hswq⟩ := hxwq.all; (try simp at hswq))
        go_wp2
        go_roundw
        case rel => exact ⟨k + 1, by omega, by go_num, HJ2, xT hxr hxwq⟩
        case measure => simp [intOf]; omega
      ·have hzd : decide (z < y) = false := decide_eq_false hzy
       have HJ2 : Hid (∀ j, j < k + 1 → M.getD j 0 < y → fY (M.getD j 0) = false) := hI (upTo1 HJ.out (fun q => absurd (by rw [hz]; exact q) hzy))
       clear hz hkr
       go_wp2
       (refine wp_region_ext (by kernel_rfl) (by kernel_rfl) ?_; (repeat (go_big_quiet_step (fail))); refine wpQuiet_nil ?_; intro wq hxwq; obtain ⟨hcwq, hfwq, hswq⟩ := hxwq.all; (try simp at hswq))
       go_wp2
       go_roundw
       case rel => exact ⟨k + 1, by omega, by go_num, HJ2, xT hxr hxwq⟩
       case measure => simp [intOf]; omega
     ·obtain rfl : k = un := by omega
      have HRR : Hid (res = false) := hI (HNON.out (fun j hj => HJ.out j (by rw [HUN.out]; exact hj)))
      go_wp2
      go_ret2
      exact ⟨by rw [HRR.out]; rfl, HX2.out.trans (HX9.out.trans hxr)⟩
end
end Go.Proofs.YtlnliajnipniaaaGreatDoor
