/- A change applied to a world, as the specification does it: the walk. A change applied, as the specification does it: the answer can always be read, and its rows are new. The draw of two worlds and a year: a world, and another one or the same one changed. -/
import Derived.Test.YtlnliajnipniaaaGreatDoorA3
import Derived.Test.YtlnliajnipniaaaGreatDoorL3
import Derived.Test.YtlnliajnipniaaaGreatDoorDI
namespace Go.Proofs.YtlnliajnipniaaaGreatDoor
open Go.RowKit
attribute [local go_sem] ExtOf.cell ExtOf.frozen
def lookA : Nat → Option Nat
 | 16 => some 15
 | _ => none
theorem s_l13MoveR (A A7 : Option Addr) (n c m7 c7 : Nat) (ps : List Pl) (L7 : List Lk) (x z : List UInt8) (y : Int) (W : World) (hs : SlAt W 5 encQ A ps) (hp : Places W ps) (hn : n = ps.length) (hl : ps.length ≤ 1048576) (hR : LkR W A7 m7 c7 L7) (hm : m7 ≤ 21) (hx : ¬ fnxP (psD ps) x < 0) (hz : ¬ fnxP (psD ps) z < 0) (hxl : x.length ≤ 1048576) (hzl : z.length ≤ 1048576) (hy : -100000 ≤ y ∧ y ≤ 100000) :
  Calls Tryz.prog 119 #[.agg #[.slice A n c, .slice A7 m7 c7], .string (tx x), .string (tx z), .int .i64 y] W fun e w' => (∃ (A9 : Option Addr) (m9 c9 : Nat) (L9 : List Lk), e = .returned (.slice A9 m9 c9) ∧ LkR w' A9 m9 c9 L9 ∧ m9 ≤ 22) ∧ Ext W w' := by
 refine (s_l13Move A A7 n c m7 c7 ps L7 x z y W ⟨hs, hp, hn, hl, hR.1, hR.2.1, by have := hR.2.1; omega, hR.2.2.1, hR.2.2.2⟩ (by omega) hx hz hxl hzl hy).mono ?_
 rintro e w' ⟨v, ms, rfl, hO, hG, hl', hx'⟩
 obtain ⟨A9, c9, rfl, hS, hc9, _, _⟩ := hO.sl len_encK
 exact ⟨⟨A9, _, c9, ms, rfl, ⟨hS, rfl, hc9, hG.links⟩, by omega⟩, hx'⟩
set_option maxRecDepth 200000 in
set_option maxHeartbeats 51200000 in
theorem s_l13Apply (A A' : Option Addr) (n c m c' : Nat) (ps : List Pl) (L : List Lk) (y k : Int) (co ot la te : List UInt8) (w : World) (h : WIn w A A' n c m c' ps L) (hn : n ≤ 1000) (hm : m ≤ 21) (hco : co.length ≤ 1048576) (hot : ot.length ≤ 1048576) (hla : la.length ≤ 1048576) (hte : te.length ≤ 1048576) (hy : -100000 ≤ y ∧ y ≤ 100000) :
  Calls Tryz.prog 70 #[.agg #[.slice A n c, .slice A' m c'], .agg #[.int .i64 y, .int .i64 k, .string (tx co), .string (tx ot), .string (tx la), .string (tx te)]] w fun e w' => RdA e w' ∧ Ext w w' := by
 have HCD := hI (fun W (hW : Ext w W) => s_l13Code A A' n c m c' ps L y k co ot la te W (h.ext hW) hco hot hla hte hy)
 have HRN := hI (fun (hf : ¬ fnxP (psD ps) co < 0) W (hW : Ext w W) => s_l13Rename A A' n c m c' ps L y k co ot la te W (h.ext hW) hn (by omega) hf hla hte hy)
 have HM2 := hI (fun (hf : ¬ fnxP (psD ps) co < 0) (hf' : ¬ fnxP (psD ps) ot < 0) W (hW : Ext w W) => s_l13MoveR A A' n c m c' ps L co ot y W (h.sq.ext hW) (h.pl.ext hW) h.hn h.hl ⟨h.sk.ext hW, h.hm, h.cap, h.lg⟩ hm hf hf' hco hot hy)
 have HCL : Hid (∀ z ∈ chiR L co y, z.length ≤ 1048576) := hI (fun z hz => chi_size h.lg.glk hz)
 have HM3 := hI (fun (hwd : wdB (psD ps) L = true) (hf' : ¬ fnxP (psD ps) ot < 0) (z : List UInt8) (hz : z ∈ chiR L co y) (A7 : Option Addr) (m7 c7 : Nat) (L7 : List Lk) W (hW : Ext w W) (hR : LkR W A7 m7 c7 L7) (h7 : m7 ≤ 21) => s_l13MoveR A A7 n c m7 c7 ps L7 z ot y W (h.sq.ext hW) (h.pl.ext hW) h.hn h.hl hR h7 (chi_fnx hwd hz) hf' (HCL.out z hz) hot hy)
 have HCI : Hid (∀ W, Ext w W → Calls Tryz.prog 120 #[.slice A' m c', .string (tx co), .int .i64 y] W fun e w' => (∃ (Ac : Option Addr) (cc : Nat) (q : Int), e = .returned (.tuple #[.slice Ac (chiR L co y).length cc, .int .i64 q]) ∧ SlAt w' 1 encS Ac (chiR L co y) ∧ (chiR L co y).length ≤ cc ∧ cc ≤ maxLen) ∧ Ext W w') := hI (fun W hW => by
  refine (s_ChildrenIn A' m c' L co y W (h.sk.ext hW) h.hm h.hl' h.lg hco).mono ?_
  rintro e w' ⟨v, rfl, hO, hx⟩
  obtain ⟨Ac, cc, rfl, hS, h1, h2, _⟩ := hO.sl len_encS
  exact ⟨⟨Ac, cc, _, rfl, hS, h1, h2⟩, hx⟩)
 have HEP : Hid (∀ W, Ext w W → Calls Tryz.prog 121 #[.slice A n c, .string (tx co), .int .i64 y] W fun e w' => (∃ (A5 : Option Addr) (n5 c5 : Nat) (q : Int) (ps5 : List Pl), e = .returned (.tuple #[.slice A5 n5 c5, .int .i64 q]) ∧ SlAt w' 5 encQ A5 ps5 ∧ Places w' ps5 ∧ n5 = ps5.length ∧ n5 ≤ 1000) ∧ Ext W w') := hI (fun W hW => by
  refine (s_EndPlace A n c ps co y W (h.sq.ext hW) (h.pl.ext hW) h.hn (by have := h.hn; omega) hco hy).mono ?_
  rintro e w' ⟨v, q, ps5, rfl, hO, hP, hl, hx⟩
  obtain ⟨A5, c5, rfl, hS, _⟩ := hO.sl len_encQ
  exact ⟨⟨A5, _, c5, q, ps5, rfl, hS, hP, rfl, hl⟩, hx⟩)
 have HLE : Hid (∀ (A7 : Option Addr) (m7 c7 : Nat) (L7 : List Lk) W, LkR W A7 m7 c7 L7 → m7 ≤ 21 → Calls Tryz.prog 122 #[.slice A7 m7 c7, .string (tx co), .int .i64 y] W fun e w' => (∃ (A9 : Option Addr) (m9 c9 : Nat) (L9 : List Lk), e = .returned (.slice A9 m9 c9) ∧ LkR w' A9 m9 c9 L9 ∧ m9 ≤ 22) ∧ Ext W w') := hI (fun A7 m7 c7 L7 W hR h7 => by
  refine (s_l12EndW A7 m7 c7 L7 (tx co) y W hR.1 hR.2.1 (by omega) hR.2.2.2 hy).mono ?_
  rintro e w' ⟨v, ms, rfl, hO, hG, hl', hx'⟩
  obtain ⟨A9, c9, rfl, hS, hc9, _, _⟩ := hO.sl len_encK
  exact ⟨⟨A9, _, c9, ms, rfl, ⟨hS, rfl, hc9, hG.links⟩, by omega⟩, hx'⟩)
 have HLW : Hid (LkR w A' m c' L) := hI ⟨h.sk, h.hm, h.cap, h.lg⟩
 have HWI := hI h
 have HOT := hI (fun (hc : CodeOk (psD ps) L y k co ot la te) (hk : k = 2 ∨ k = 3) => hc.other hk)
 have HKK : Hid (CodeOk (psD ps) L y k co ot la te → k = 0 ∨ k = 2 ∨ k = 1 ∨ k = 3) := hI (fun hc => by
  have h2 := hc.2.1
  unfold chB at h2
  simp only [Bool.and_eq_true] at h2
  have h3 := h2.2.1
  simp [inB] at h3
  omega)
 have HCF : Hid (CodeOk (psD ps) L y k co ot la te → wdB (psD ps) L = true ∧ ¬ fnxP (psD ps) co < 0) := hI (fun hc => ⟨hc.1, hc.2.2.1⟩)
 clear h hco hot hla hte hy
 generalize CodeOk (psD ps) L y k co ot la te = OKP at *
 generalize wdB (psD ps) L = wd at *
 generalize fnxP (psD ps) co = f1 at *
 generalize fnxP (psD ps) ot = f2 at *
 generalize chiR L co y = ch at *
 generalize tx co = s0 at *
 generalize tx ot = s1 at *
 generalize tx la = s2 at *
 generalize tx te = s3 at *
 go_enter Tryz.func70, Tryz.ntmps70
 have HC0 : Hid (CAp w #[.slice A n c, .slice A' m c'] #[.int .i64 y, .int .i64 k, .string s0, .string s1, .string s2, .string s3] (((w.alloc (.cells #[.slice A n c, .slice A' m c'] 27)).alloc (.cells #[.int .i64 y, .int .i64 k, .string s0, .string s1, .string s2, .string s3] 68)).alloc (.cells #[.slice none 0 0, .slice none 0 0] 27))) := hI ⟨xA (xA (xA xR)), bA (bA (bN (by omega))), bA (bN (by first|omega|simp)), ⟨_, _, _, _, _, _, Blk.new (by simp)⟩⟩
 go_wp2_with fail
 refine (HCD.out _ (xA (xA (xA xR)))).mono ?_
 rintro e w1 ⟨q, rfl, hq, hx1⟩
 have HC1 : Hid (CAp w #[.slice A n c, .slice A' m c'] #[.int .i64 y, .int .i64 k, .string s0, .string s1, .string s2, .string s3] w1) := hI (HC0.out.ext hx1)
 have HQ := hI hq
 clear HC0 hx1 hq HCD
 rcases Decidable.em (q = 0) with hq0 | hq0
 ·subst hq0
  have hok := HQ.out rfl
  have hkk := HKK.out hok
  have HOT2 := hI (HOT.out hok)
  obtain ⟨hwd, hf1⟩ := HCF.out hok
  replace HRN := hI (HRN.out hf1)
  replace HM2 := hI (HM2.out hf1)
  replace HM3 := hI (HM3.out hwd)
  clear HQ HKK HOT HCF hok hwd hf1
  rcases hkk with rfl | rfl | hk13
  ·have hB1 := HC1.out.b1
   have hB2 := HC1.out.b2
   obtain ⟨z1, z2, z3, z4, z5, z6, hB3⟩ := HC1.out.pw
   have g0 : w1.cell? ⟨w.heap.size, 0, none⟩ = some (.slice A n c) := hB1.cell 0
   have g1 : w1.cell? ⟨w.heap.size, 1, none⟩ = some (.slice A' m c') := hB1.cell 1
   have kc0 : w1.cell? ⟨w.heap.size + 1, 0, none⟩ = some (.int .i64 y) := hB2.cell 0
   have kc1 : w1.cell? ⟨w.heap.size + 1, 1, none⟩ = some (.int .i64 0) := hB2.cell 1
   have kc2 : w1.cell? ⟨w.heap.size + 1, 2, none⟩ = some (.string s0) := hB2.cell 2
   have kc3 : w1.cell? ⟨w.heap.size + 1, 3, none⟩ = some (.string s1) := hB2.cell 3
   have kc4 : w1.cell? ⟨w.heap.size + 1, 4, none⟩ = some (.string s2) := hB2.cell 4
   have kc5 : w1.cell? ⟨w.heap.size + 1, 5, none⟩ = some (.string s3) := hB2.cell 5
   have f30 := hB3.frozen 0
   have f31 := hB3.frozen 1
   have d30 : w1.cell? ⟨w.heap.size + 2, 0, none⟩ = some (.slice z1 z2 z3) := hB3.cell 0
   have d31 : w1.cell? ⟨w.heap.size + 2, 1, none⟩ = some (.slice z4 z5 z6) := hB3.cell 1
   have hl1 := hB1.lt
   have hl2 := hB2.lt
   have hl3 := hB3.lt
   go_wp2_with fail
   refine (HRN.out _ HC1.out.ex).mono ?_
   rintro e w2 ⟨⟨A1, n1, c1, A2, m2, c2, q2, ps2, L2, rfl, hW2, hn2, hm2⟩, hx2⟩
   have HC2 : Hid (CAp w #[.slice A n c, .slice A' m c'] #[.int .i64 y, .int .i64 0, .string s0, .string s1, .string s2, .string s3] w2) := hI (HC1.out.ext hx2)
   have HW2 := hI hW2
   clear hW2 hx2 hB1 hB2 hB3 g0 g1 kc0 kc1 kc2 kc3 kc4 kc5 f30 f31 d30 d31 hl1 hl2 hl3
   have hB1 := HC2.out.b1
   have hB2 := HC2.out.b2
   obtain ⟨z1, z2, z3, z4, z5, z6, hB3⟩ := HC2.out.pw
   have g0 : w2.cell? ⟨w.heap.size, 0, none⟩ = some (.slice A n c) := hB1.cell 0
   have g1 : w2.cell? ⟨w.heap.size, 1, none⟩ = some (.slice A' m c') := hB1.cell 1
   have kc0 : w2.cell? ⟨w.heap.size + 1, 0, none⟩ = some (.int .i64 y) := hB2.cell 0
   have kc1 : w2.cell? ⟨w.heap.size + 1, 1, none⟩ = some (.int .i64 0) := hB2.cell 1
   have kc2 : w2.cell? ⟨w.heap.size + 1, 2, none⟩ = some (.string s0) := hB2.cell 2
   have kc3 : w2.cell? ⟨w.heap.size + 1, 3, none⟩ = some (.string s1) := hB2.cell 3
   have kc4 : w2.cell? ⟨w.heap.size + 1, 4, none⟩ = some (.string s2) := hB2.cell 4
   have kc5 : w2.cell? ⟨w.heap.size + 1, 5, none⟩ = some (.string s3) := hB2.cell 5
   have f30 := hB3.frozen 0
   have f31 := hB3.frozen 1
   have d30 : w2.cell? ⟨w.heap.size + 2, 0, none⟩ = some (.slice z1 z2 z3) := hB3.cell 0
   have d31 : w2.cell? ⟨w.heap.size + 2, 1, none⟩ = some (.slice z4 z5 z6) := hB3.cell 1
   have hl1 := hB1.lt
   have hl2 := hB2.lt
   have hl3 := hB3.lt
   go_wp2
   have hex := HC2.out.ex
   exact ret_pts1 (b0 := w.heap.size + 2) (t := 27) (v := .tuple #[.agg #[.slice A1 n1 c1, .slice A2 m2 c2], .int .i64 q2]) (Blk.eq (bS (bS hB3)) (by rfl)) rfl (by intro W' r0 r1; simp [results, Tryz.results70, go_sem, r0, r1]) ⟨⟨_, _, _, _, _, _, _, ps2, L2, rfl, HW2.out.putW hB3 _ _, hn2, hm2⟩, xC (by first|omega|simp) (xC (by first|omega|simp) hex)⟩
  ·replace HM2 := hI (HM2.out (HOT2.out (.inl rfl)))
   have hB1 := HC1.out.b1
   have hB2 := HC1.out.b2
   obtain ⟨z1, z2, z3, z4, z5, z6, hB3⟩ := HC1.out.pw
   have g0 : w1.cell? ⟨w.heap.size, 0, none⟩ = some (.slice A n c) := hB1.cell 0
   have g1 : w1.cell? ⟨w.heap.size, 1, none⟩ = some (.slice A' m c') := hB1.cell 1
   have kc0 : w1.cell? ⟨w.heap.size + 1, 0, none⟩ = some (.int .i64 y) := hB2.cell 0
   have kc1 : w1.cell? ⟨w.heap.size + 1, 1, none⟩ = some (.int .i64 2) := hB2.cell 1
   have kc2 : w1.cell? ⟨w.heap.size + 1, 2, none⟩ = some (.string s0) := hB2.cell 2
   have kc3 : w1.cell? ⟨w.heap.size + 1, 3, none⟩ = some (.string s1) := hB2.cell 3
   have kc4 : w1.cell? ⟨w.heap.size + 1, 4, none⟩ = some (.string s2) := hB2.cell 4
   have kc5 : w1.cell? ⟨w.heap.size + 1, 5, none⟩ = some (.string s3) := hB2.cell 5
   have f30 := hB3.frozen 0
   have f31 := hB3.frozen 1
   have d30 : w1.cell? ⟨w.heap.size + 2, 0, none⟩ = some (.slice z1 z2 z3) := hB3.cell 0
   have d31 : w1.cell? ⟨w.heap.size + 2, 1, none⟩ = some (.slice z4 z5 z6) := hB3.cell 1
   have hl1 := hB1.lt
   have hl2 := hB2.lt
   have hl3 := hB3.lt
   go_upto_region 8 with (fail)
   clear hB1 hB2 hB3 g0 g1 kc0 kc1 kc2 kc3 kc4 kc5 f30 f31 d30 d31 hl1 hl2 hl3
   refine wp_region_rgb (m := 14) (C := CAp w #[.slice A n c, .slice A' m c'] #[.int .i64 y, .int .i64 2, .string s0, .string s1, .string s2, .string s3]) (K := KAp (w.heap.size + 2) (.slice A n c)) (R := RgA8 (w.heap.size + 2) (.slice A n c) (.agg #[.slice A n c, .slice A' m c']) (.pointer (some ⟨w.heap.size + 1, 2, none⟩)) (.string s0) (.pointer (some ⟨w.heap.size + 1, 3, none⟩)) (.string s1) (.pointer (some ⟨w.heap.size + 1, 0, none⟩)) (.int .i64 y)) Tryz.f70.ntmps (by kernel_rfl) (by kernel_rfl) (by simp) (by rw [Tryz.ntmps70]; simp) (fun i v w w' => RgA8.stay (Nat.le_refl _) i v w w') ?hC ?hstep ?hend
   case hC => exact HC1.out.ext (Ext.refl _).drew
   case hstep =>
    simp only [List.take_succ_cons, List.take_zero]
    refine AllFrom.cons ?_ <| AllFrom.cons ?_ <| AllFrom.cons ?_ <| AllFrom.cons ?_ <| AllFrom.cons ?_ <| AllFrom.cons ?_ <| AllFrom.cons ?_ <| AllFrom.cons ?_ <| AllFrom.cons ?_ <| AllFrom.cons ?_ <| AllFrom.cons ?_ <| AllFrom.cons ?_ <| AllFrom.cons ?_ <| AllFrom.cons ?_ AllFrom.nil
    all_goals (intro a1 W hfr hdep hC; have HC := hI hC; clear hC)
    ·have t2 : a1.tmps.getD 2 undef = .pointer (some ⟨w.heap.size, 0, none⟩) := hfr.at_ rfl (by kernel_rfl)
     have HCP := HC.out
     have c0 : W.cell? ⟨w.heap.size, 0, none⟩ = some (.slice A n c) := HCP.b1.cell 0
     have c1 : W.cell? ⟨w.heap.size, 1, none⟩ = some (.slice A' m c') := HCP.b1.cell 1
     clear HCP
     unfold Oper.wp
     go_simp
     exact ⟨_, rfl, rfl, KAp.ext (Ext.refl _), HC.out⟩
    ·have t2 : a1.tmps.getD 2 undef = .pointer (some ⟨w.heap.size, 0, none⟩) := hfr.at_ rfl (by kernel_rfl)
     have HCP := HC.out
     have c0 : W.cell? ⟨w.heap.size, 0, none⟩ = some (.slice A n c) := HCP.b1.cell 0
     have c1 : W.cell? ⟨w.heap.size, 1, none⟩ = some (.slice A' m c') := HCP.b1.cell 1
     clear HCP
     unfold Oper.wp
     go_simp
     exact ⟨_, rfl, rfl, KAp.ext (Ext.refl _), HC.out⟩
    ·have t3 : a1.tmps.getD 3 undef = .pointer (some ⟨w.heap.size + 1, 0, none⟩) := hfr.at_ rfl (by kernel_rfl)
     unfold Oper.wp
     go_simp
     exact ⟨_, rfl, rfl, KAp.ext (Ext.refl _), HC.out⟩
    ·have t35 : a1.tmps.getD 35 undef = .pointer (some ⟨w.heap.size + 1, 2, none⟩) := hdep ⟨2, .data⟩ (by simp) rfl _ rfl
     have t35q := tq t35
     have HCP := HC.out
     have kc0 : W.cell? ⟨w.heap.size + 1, 0, none⟩ = some (.int .i64 y) := HCP.b2.cell 0
     have kc1 : W.cell? ⟨w.heap.size + 1, 1, none⟩ = some (.int .i64 2) := HCP.b2.cell 1
     have kc2 : W.cell? ⟨w.heap.size + 1, 2, none⟩ = some (.string s0) := HCP.b2.cell 2
     have kc3 : W.cell? ⟨w.heap.size + 1, 3, none⟩ = some (.string s1) := HCP.b2.cell 3
     have kc4 : W.cell? ⟨w.heap.size + 1, 4, none⟩ = some (.string s2) := HCP.b2.cell 4
     have kc5 : W.cell? ⟨w.heap.size + 1, 5, none⟩ = some (.string s3) := HCP.b2.cell 5
     clear HCP
     unfold Oper.wp
     go_simp
     exact ⟨_, rfl, rfl, KAp.ext (Ext.refl _), HC.out⟩
    ·have t3 : a1.tmps.getD 3 undef = .pointer (some ⟨w.heap.size + 1, 0, none⟩) := hfr.at_ rfl (by kernel_rfl)
     unfold Oper.wp
     go_simp
     exact ⟨_, rfl, rfl, KAp.ext (Ext.refl _), HC.out⟩
    ·have t37 : a1.tmps.getD 37 undef = .pointer (some ⟨w.heap.size + 1, 3, none⟩) := hdep ⟨4, .data⟩ (by simp) rfl _ rfl
     have t37q := tq t37
     have HCP := HC.out
     have kc0 : W.cell? ⟨w.heap.size + 1, 0, none⟩ = some (.int .i64 y) := HCP.b2.cell 0
     have kc1 : W.cell? ⟨w.heap.size + 1, 1, none⟩ = some (.int .i64 2) := HCP.b2.cell 1
     have kc2 : W.cell? ⟨w.heap.size + 1, 2, none⟩ = some (.string s0) := HCP.b2.cell 2
     have kc3 : W.cell? ⟨w.heap.size + 1, 3, none⟩ = some (.string s1) := HCP.b2.cell 3
     have kc4 : W.cell? ⟨w.heap.size + 1, 4, none⟩ = some (.string s2) := HCP.b2.cell 4
     have kc5 : W.cell? ⟨w.heap.size + 1, 5, none⟩ = some (.string s3) := HCP.b2.cell 5
     clear HCP
     unfold Oper.wp
     go_simp
     exact ⟨_, rfl, rfl, KAp.ext (Ext.refl _), HC.out⟩
    ·have t3 : a1.tmps.getD 3 undef = .pointer (some ⟨w.heap.size + 1, 0, none⟩) := hfr.at_ rfl (by kernel_rfl)
     unfold Oper.wp
     go_simp
     exact ⟨_, rfl, rfl, KAp.ext (Ext.refl _), HC.out⟩
    ·have t39 : a1.tmps.getD 39 undef = .pointer (some ⟨w.heap.size + 1, 0, none⟩) := hdep ⟨6, .data⟩ (by simp) rfl _ rfl
     have t39q := tq t39
     have HCP := HC.out
     have kc0 : W.cell? ⟨w.heap.size + 1, 0, none⟩ = some (.int .i64 y) := HCP.b2.cell 0
     have kc1 : W.cell? ⟨w.heap.size + 1, 1, none⟩ = some (.int .i64 2) := HCP.b2.cell 1
     have kc2 : W.cell? ⟨w.heap.size + 1, 2, none⟩ = some (.string s0) := HCP.b2.cell 2
     have kc3 : W.cell? ⟨w.heap.size + 1, 3, none⟩ = some (.string s1) := HCP.b2.cell 3
     have kc4 : W.cell? ⟨w.heap.size + 1, 4, none⟩ = some (.string s2) := HCP.b2.cell 4
     have kc5 : W.cell? ⟨w.heap.size + 1, 5, none⟩ = some (.string s3) := HCP.b2.cell 5
     clear HCP
     unfold Oper.wp
     go_simp
     exact ⟨_, rfl, rfl, KAp.ext (Ext.refl _), HC.out⟩
    ·have t34 : a1.tmps.getD 34 undef = .agg #[.slice A n c, .slice A' m c'] := hdep ⟨1, .data⟩ (by simp) rfl _ rfl
     have t34q := tq t34
     have t36 : a1.tmps.getD 36 undef = .string s0 := hdep ⟨3, .data⟩ (by simp) rfl _ rfl
     have t36q := tq t36
     have t38 : a1.tmps.getD 38 undef = .string s1 := hdep ⟨5, .data⟩ (by simp) rfl _ rfl
     have t38q := tq t38
     have t40 : a1.tmps.getD 40 undef = .int .i64 y := hdep ⟨7, .data⟩ (by simp) rfl _ rfl
     have t40q := tq t40
     unfold Oper.wp
     go_simp
     refine (HM2.out _ HC.out.ex).mono ?_
     rintro e W2 ⟨⟨A9, m9, c9, L9, rfl, hR9, hl9⟩, hx9⟩
     exact ⟨_, rfl, ⟨A9, m9, c9, L9, rfl, hR9, hl9⟩, KAp.ext hx9, HC.out.ext hx9⟩
    ·have t33 : a1.tmps.getD 33 undef = .agg #[.slice A n c, .slice A' m c'] := hdep ⟨0, .data⟩ (by simp) rfl _ rfl
     have t33q := tq t33
     obtain ⟨A7, m7, c7, L7, t41, hR7, hl7⟩ : RgA8 _ _ _ _ _ _ _ _ _ 8 (a1.tmps.getD 41 undef) W := hdep ⟨8, .data⟩ (by simp) rfl _ rfl
     have t41q := tq t41
     unfold Oper.wp
     go_simp
     refine (s_l13LinksR A A' A7 n c m c' m7 c7 L L7 W (HLW.out.ext HC.out.ex) hm hR7 (by omega)).mono ?_
     rintro e W2 ⟨⟨A9, m9, c9, L9, q9, rfl, hR9, hl9⟩, hx9⟩
     exact ⟨_, rfl, ⟨A9, m9, c9, L9, q9, rfl, hR9, hl9⟩, KAp.ext hx9, HC.out.ext hx9⟩
    ·obtain ⟨A7, m7, c7, L7, q7, t42, hR7, hl7⟩ : RgA8 _ _ _ _ _ _ _ _ _ 9 (a1.tmps.getD 42 undef) W := hdep ⟨9, .data⟩ (by simp) rfl _ rfl
     have t42q := tq t42
     unfold Oper.wp
     go_simp
     exact ⟨_, rfl, ⟨A7, m7, c7, L7, rfl, hR7, hl7⟩, KAp.ext (Ext.refl _), HC.out⟩
    ·obtain ⟨A7, m7, c7, L7, q7, t42, hR7, hl7⟩ : RgA8 _ _ _ _ _ _ _ _ _ 9 (a1.tmps.getD 42 undef) W := hdep ⟨9, .data⟩ (by simp) rfl _ rfl
     have t42q := tq t42
     unfold Oper.wp
     go_simp
     exact ⟨_, rfl, ⟨q7, rfl⟩, KAp.ext (Ext.refl _), HC.out⟩
    ·have t4 : a1.tmps.getD 4 undef = .pointer (some ⟨w.heap.size + 2, 0, none⟩) := hfr.at_ rfl (by kernel_rfl)
     obtain ⟨A7, m7, c7, L7, t43, hR7, hl7⟩ : RgA8 _ _ _ _ _ _ _ _ _ 10 (a1.tmps.getD 43 undef) W := hdep ⟨10, .data⟩ (by simp) rfl _ rfl
     have t43q := tq t43
     have HPW := hI HC.out.pw
     obtain ⟨z1, z2, z3, z4, z5, z6, hB3⟩ := HC.out.pw
     have f30 := hB3.frozen 0
     have f31 := hB3.frozen 1
     have d30 : W.cell? ⟨w.heap.size + 2, 0, none⟩ = some (.slice z1 z2 z3) := hB3.cell 0
     have d31 : W.cell? ⟨w.heap.size + 2, 1, none⟩ = some (.slice z4 z5 z6) := hB3.cell 1
     have hl3 := hB3.lt
     have HR7 := hI hR7
     clear hR7
     unfold Oper.wp
     go_simp
     exact ⟨RdB.put HPW.out HR7.out hl7, KAp.put HPW.out HR7.out hl7, HC.out.put HPW.out (Nat.le_refl _)⟩
    ·obtain ⟨q7, t44⟩ : RgA8 _ _ _ _ _ _ _ _ _ 11 (a1.tmps.getD 44 undef) W := hdep ⟨11, .data⟩ (by simp) rfl _ rfl
     have t44q := tq t44
     unfold Oper.wp
     go_simp
     exact ⟨_, rfl, ⟨q7, rfl⟩, KAp.ext (Ext.refl _), HC.out⟩
   case hend =>
    intro a1 W hfr hR hC
    obtain ⟨q7, t5⟩ : RgA8 _ _ _ _ _ _ _ _ _ 13 (a1.tmps.getD 5 undef) W := hR 13 _ (by omega) rfl
    have hRB : RgA8 _ _ _ _ _ _ _ _ _ 12 _ W := hR 12 _ (by omega) rfl
    obtain ⟨A7, m7, c7, L7, hB7, hR7, hl7⟩ := hRB
    have t5q := tq t5
    have HC := hI hC
    have HB7 := hI hB7
    have HR7 := hI hR7
    clear hC hB7 hR7
    refine wpAny_end (by kernel_rfl) ?_
    have hsh := hfr.shape [false, false, false, false, false, true, false, false, false, false, false, false, false, false, false, false, false, false, false, false, false, false, false, false, false, false, false, false, false, false, false, false, false, true, true, true, true, true, true, true, true, true, true, true, true, false, false, false, false, false, false, false, false, false, false, false, false, false, false, false, false, false, false, false, false, false, false, false, false, false, false, false, false, false, false, false, false, false, false, false, false, false, false, false, false, false, false, false, false, false, false, false, false, false, false, false, false, false, false, false, false, false, false, false, false, false, false, false, false, false, false, false] (by rfl) (by kernel_rfl)
    simp only [mixL] at hsh
    rw [hsh]
    go_wp2
    exact ret_pts1 (b0 := w.heap.size + 2) (t := 27) (v := .tuple #[.agg #[.slice A n c, .slice A7 m7 c7], .int .i64 q7]) HB7.out rfl (by intro W' r0 r1; simp [results, Tryz.results70, go_sem, r0, r1, t5q]) ⟨⟨_, _, _, _, _, _, _, ps, L7, rfl, ⟨HWI.out.sq.ext HC.out.ex, HWI.out.pl.ext HC.out.ex, HWI.out.hn, HWI.out.hl, HR7.out.1, HR7.out.2.1, by have := HR7.out.2.1; omega, HR7.out.2.2.1, HR7.out.2.2.2⟩, hn, by omega⟩, HC.out.ex⟩
  ·have hk0 : (k == 0) = false := by rcases hk13 with rfl | rfl <;> rfl
   have hk2 : (k == 2) = false := by rcases hk13 with rfl | rfl <;> rfl
   have hB1 := HC1.out.b1
   have hB2 := HC1.out.b2
   obtain ⟨z1, z2, z3, z4, z5, z6, hB3⟩ := HC1.out.pw
   have g0 : w1.cell? ⟨w.heap.size, 0, none⟩ = some (.slice A n c) := hB1.cell 0
   have g1 : w1.cell? ⟨w.heap.size, 1, none⟩ = some (.slice A' m c') := hB1.cell 1
   have kc0 : w1.cell? ⟨w.heap.size + 1, 0, none⟩ = some (.int .i64 y) := hB2.cell 0
   have kc1 : w1.cell? ⟨w.heap.size + 1, 1, none⟩ = some (.int .i64 k) := hB2.cell 1
   have kc2 : w1.cell? ⟨w.heap.size + 1, 2, none⟩ = some (.string s0) := hB2.cell 2
   have kc3 : w1.cell? ⟨w.heap.size + 1, 3, none⟩ = some (.string s1) := hB2.cell 3
   have kc4 : w1.cell? ⟨w.heap.size + 1, 4, none⟩ = some (.string s2) := hB2.cell 4
   have kc5 : w1.cell? ⟨w.heap.size + 1, 5, none⟩ = some (.string s3) := hB2.cell 5
   have f30 := hB3.frozen 0
   have f31 := hB3.frozen 1
   have d30 : w1.cell? ⟨w.heap.size + 2, 0, none⟩ = some (.slice z1 z2 z3) := hB3.cell 0
   have d31 : w1.cell? ⟨w.heap.size + 2, 1, none⟩ = some (.slice z4 z5 z6) := hB3.cell 1
   have hl1 := hB1.lt
   have hl2 := hB2.lt
   have hl3 := hB3.lt
   go_upto_if 48 with (fail)
   have HL7 : Hid (ApL w #[.slice A n c, .slice A' m c'] #[.int .i64 y, .int .i64 k, .string s0, .string s1, .string s2, .string s3] (.slice A n c) w1.heap.size none [] (w1.alloc (.cells #[.slice A n c, .slice A' m c'] 27)) A' m c' L) := hI ⟨HC1.out.ext ((Ext.refl _).alloc _), Blk.new rfl, HLW.out.ext (HC1.out.ex.trans ((Ext.refl _).alloc _)), hm, SlAt.nil⟩
   generalize w1.alloc (.cells #[.slice A n c, .slice A' m c'] 27) = w4 at *
   have hb7 : w.heap.size + 2 < w1.heap.size := hl3
   clear hB1 hB2 hB3 g0 g1 kc0 kc1 kc2 kc3 kc4 kc5 f30 f31 d30 d31 hl1 hl2 hl3 HC1 HM2 HRN HLW
   generalize w1.heap.size = b7 at *
   go_cut [] (fun wx => ∃ (A7 : Option Addr) (m7 c7 : Nat) (L7 : List Lk), Hid (ApL w #[.slice A n c, .slice A' m c'] #[.int .i64 y, .int .i64 k, .string s0, .string s1, .string s2, .string s3] (.slice A n c) b7 none [] wx A7 m7 c7 L7))
   case first =>
    rcases hk13 with rfl | rfl
    ·go_wp2
     go_meet
     exact ⟨_, _, _, _, HL7⟩
    ·replace HM3 := hI (HM3.out (HOT2.out (.inr rfl)))
     have hB1 := HL7.out.cp.b1
     have hB2 := HL7.out.cp.b2
     obtain ⟨z1, z2, z3, z4, z5, z6, hB3⟩ := HL7.out.cp.pw
     have g0 : w4.cell? ⟨w.heap.size, 0, none⟩ = some (.slice A n c) := hB1.cell 0
     have g1 : w4.cell? ⟨w.heap.size, 1, none⟩ = some (.slice A' m c') := hB1.cell 1
     have kc0 : w4.cell? ⟨w.heap.size + 1, 0, none⟩ = some (.int .i64 y) := hB2.cell 0
     have kc1 : w4.cell? ⟨w.heap.size + 1, 1, none⟩ = some (.int .i64 3) := hB2.cell 1
     have kc2 : w4.cell? ⟨w.heap.size + 1, 2, none⟩ = some (.string s0) := hB2.cell 2
     have kc3 : w4.cell? ⟨w.heap.size + 1, 3, none⟩ = some (.string s1) := hB2.cell 3
     have kc4 : w4.cell? ⟨w.heap.size + 1, 4, none⟩ = some (.string s2) := hB2.cell 4
     have kc5 : w4.cell? ⟨w.heap.size + 1, 5, none⟩ = some (.string s3) := hB2.cell 5
     have f30 := hB3.frozen 0
     have f31 := hB3.frozen 1
     have d30 : w4.cell? ⟨w.heap.size + 2, 0, none⟩ = some (.slice z1 z2 z3) := hB3.cell 0
     have d31 : w4.cell? ⟨w.heap.size + 2, 1, none⟩ = some (.slice z4 z5 z6) := hB3.cell 1
     have hl1 := hB1.lt
     have hl2 := hB2.lt
     have hl3 := hB3.lt
     go_wp2_with fail
     refine (HCI.out _ HL7.out.cp.ex).mono ?_
     rintro e w3 ⟨⟨Ac, cc, q3, rfl, hSc, hcc, hcm⟩, hx3⟩
     have HL3 : Hid (ApL w #[.slice A n c, .slice A' m c'] #[.int .i64 y, .int .i64 3, .string s0, .string s1, .string s2, .string s3] (.slice A n c) b7 Ac ch w3 A' m c' L) := hI ⟨HL7.out.cp.ext hx3, HL7.out.b7.ext hx3, HL7.out.lk.ext hx3, HL7.out.l21, hSc⟩
     obtain ⟨p, hp⟩ : ∃ p, p = ch.length := ⟨_, rfl⟩
     rw [← hp] at hcc ⊢
     have HP := hI hp
     have hpm : p ≤ maxLen := Nat.le_trans hcc hcm
     unfold maxLen at hpm
     clear hp hx3 hSc hcc hcm HL7 hB1 hB2 hB3 g0 g1 kc0 kc1 kc2 kc3 kc4 kc5 f30 f31 d30 d31 hl1 hl2 hl3
     go_wp2
     go_loopw [10] (fun i wr => ∃ (j : Nat) (A7 : Option Addr) (m7 c7 : Nat) (L7 : List Lk), j ≤ p ∧ i = .int .i64 j ∧ Hid (ApL w #[.slice A n c, .slice A' m c'] #[.int .i64 y, .int .i64 3, .string s0, .string s1, .string s2, .string s3] (.slice A n c) b7 Ac ch wr A7 m7 c7 L7)) (fun i _ => p - (intOf i).toNat)
     case atStart => exact ⟨0, A', m, c', L, Nat.zero_le _, rfl, HL3⟩
     case round =>
      obtain ⟨j, A7, m7, c7, L7, hj, rfl, HL5⟩ := hrel
      obtain ⟨w5, rfl⟩ : ∃ x, x = wr := ⟨wr, rfl⟩
      by_cases hjp : j < p
      ·have hju : j < ch.length := by rw [← HP.out]; exact hjp
       obtain ⟨bc, offc, eAc, hbc, dz⟩ := HL5.out.sc.st hju
       subst eAc
       have HM3J := hI (HM3.out (ch.getD j []) (by simp [List.getD, hju]))
       generalize tx (ch.getD j []) = sz at *
       have hj0 : (0 : Int) ≤ (j : Int) := by omega
       clear hju HL3
       have hB1 := HL5.out.cp.b1
       have hB2 := HL5.out.cp.b2
       obtain ⟨z1, z2, z3, z4, z5, z6, hB3⟩ := HL5.out.cp.pw
       have g0 : w5.cell? ⟨w.heap.size, 0, none⟩ = some (.slice A n c) := hB1.cell 0
       have g1 : w5.cell? ⟨w.heap.size, 1, none⟩ = some (.slice A' m c') := hB1.cell 1
       have kc0 : w5.cell? ⟨w.heap.size + 1, 0, none⟩ = some (.int .i64 y) := hB2.cell 0
       have kc1 : w5.cell? ⟨w.heap.size + 1, 1, none⟩ = some (.int .i64 3) := hB2.cell 1
       have kc2 : w5.cell? ⟨w.heap.size + 1, 2, none⟩ = some (.string s0) := hB2.cell 2
       have kc3 : w5.cell? ⟨w.heap.size + 1, 3, none⟩ = some (.string s1) := hB2.cell 3
       have kc4 : w5.cell? ⟨w.heap.size + 1, 4, none⟩ = some (.string s2) := hB2.cell 4
       have kc5 : w5.cell? ⟨w.heap.size + 1, 5, none⟩ = some (.string s3) := hB2.cell 5
       have f30 := hB3.frozen 0
       have f31 := hB3.frozen 1
       have d30 : w5.cell? ⟨w.heap.size + 2, 0, none⟩ = some (.slice z1 z2 z3) := hB3.cell 0
       have d31 : w5.cell? ⟨w.heap.size + 2, 1, none⟩ = some (.slice z4 z5 z6) := hB3.cell 1
       have hl1 := hB1.lt
       have hl2 := hB2.lt
       have hl3 := hB3.lt
       cases hqz : (sz.toList == s1.toList) with
       | true =>
        go_wp2
        (refine wp_region_ext (by kernel_rfl) (by kernel_rfl) ?_; (repeat (go_big_quiet_step (fail))); refine wpQuiet_nil ?_; intro w6 hxw6; obtain ⟨hcw6, hfw6, hsw6⟩ := hxw6.all; (try simp at hsw6))
        go_wp2
        have hex := HL5.out.cp.ex
        exact ret_pts1 (b0 := w.heap.size + 2) (t := 27) (v := .tuple #[.agg #[.slice A n c, .slice A' m c'], .int .i64 5]) (Blk.eq (bS (bS (bE hxw6 hB3))) (by rfl)) rfl (by intro W' r0 r1; simp [results, Tryz.results70, go_sem, r0, r1]) ⟨⟨_, _, _, _, _, _, _, ps, L, rfl, (HWI.out.ext (hex.trans hxw6)).putW (hB3.ext hxw6) _ _, hn, by omega⟩, xC (by first|omega|simp) (xC (by first|omega|simp) (xT hex hxw6))⟩
       | false =>
        go_wp2
        (refine wp_region_ext (by kernel_rfl) (by kernel_rfl) ?_; (repeat (go_big_quiet_step (fail))); refine wpQuiet_nil ?_; intro w6 hxw6; obtain ⟨hcw6, hfw6, hsw6⟩ := hxw6.all; (try simp at hsw6))
        go_upto_region 17 with (fail)
        have HL6 := hI (HL5.out.ext hxw6)
        have dz6 : w6.cell? ⟨bc, offc + j, none⟩ = some (.string sz) := (hxw6.cell bc _ hbc).trans dz
        have hbc6 : bc < w6.heap.size := Nat.lt_of_lt_of_le hbc hxw6.size
        have hb76 : b7 < w6.heap.size := HL6.out.b7.lt
        clear HL5 hqz hcw6 hfw6 hsw6 hxw6 dz hbc hB1 hB2 hB3 g0 g1 kc0 kc1 kc2 kc3 kc4 kc5 f30 f31 d30 d31 hl1 hl2 hl3
        go_cut [11, 12] (fun v11 v12 wx => ∃ (b11 : Nat) (q8 : Int), v11 = .pointer (some ⟨b11, 0, none⟩) ∧ v12 = .int .i64 q8 ∧ w6.heap.size ≤ b11 ∧ Hid (RdB b11 (.slice A n c) wx) ∧ Hid (ApL w #[.slice A n c, .slice A' m c'] #[.int .i64 y, .int .i64 3, .string s0, .string s1, .string s2, .string s3] (.slice A n c) b7 (some ⟨bc, offc, none⟩) ch wx A7 m7 c7 L7))
        case first =>
         refine wp_region_rgb2 (m := 18) (look := lookA) (C := fun W => ApL w #[.slice A n c, .slice A' m c'] #[.int .i64 y, .int .i64 3, .string s0, .string s1, .string s2, .string s3] (.slice A n c) b7 (some ⟨bc, offc, none⟩) ch W A7 m7 c7 L7 ∧ Ext w6 W) (K := KAp w6.heap.size (.slice A n c)) (R := RgA7 w6.heap.size (.slice A n c) (.agg #[.slice A n c, .slice A7 m7 c7]) (.slice (some ⟨bc, offc, none⟩) p cc) (.int .i64 (j : Int)) (.pointer (some ⟨bc, offc + j, none⟩)) (.string sz) (.pointer (some ⟨w.heap.size + 1, 3, none⟩)) (.string s1) (.pointer (some ⟨w.heap.size + 1, 0, none⟩)) (.int .i64 y)) Tryz.f70.ntmps (by kernel_rfl) (by kernel_rfl) (by simp) (by rw [Tryz.ntmps70]; simp) (by kernel_rfl) (fun i v u w w' => RgA7.stay i v u w w') ?hC ?hstep ?hend
         case hC => exact ⟨HL6.out.ext (Ext.refl _).drew, (Ext.refl _).drew⟩
         case hstep =>
          simp only [List.take_succ_cons, List.take_zero]
          refine AllFrom.cons ?_ <| AllFrom.cons ?_ <| AllFrom.cons ?_ <| AllFrom.cons ?_ <| AllFrom.cons ?_ <| AllFrom.cons ?_ <| AllFrom.cons ?_ <| AllFrom.cons ?_ <| AllFrom.cons ?_ <| AllFrom.cons ?_ <| AllFrom.cons ?_ <| AllFrom.cons ?_ <| AllFrom.cons ?_ <| AllFrom.cons ?_ <| AllFrom.cons ?_ <| AllFrom.cons ?_ <| AllFrom.cons ?_ <| AllFrom.cons ?_ AllFrom.nil
          all_goals (intro a1 W hfr hdep hC; have HC := hI hC; clear hC)
          ·have t7 : a1.tmps.getD 7 undef = .pointer (some ⟨b7, 0, none⟩) := hfr.at_ rfl (by kernel_rfl)
           have c0 : W.cell? ⟨b7, 0, none⟩ = some (.slice A n c) := HC.out.1.b7.cell 0
           have c1 : W.cell? ⟨b7, 1, none⟩ = some (.slice A7 m7 c7) := HC.out.1.b7.cell 1
           unfold Oper.wp
           go_simp
           exact ⟨_, rfl, rfl, KAp.ext (Ext.refl _), HC.out⟩
          ·have t7 : a1.tmps.getD 7 undef = .pointer (some ⟨b7, 0, none⟩) := hfr.at_ rfl (by kernel_rfl)
           have c0 : W.cell? ⟨b7, 0, none⟩ = some (.slice A n c) := HC.out.1.b7.cell 0
           have c1 : W.cell? ⟨b7, 1, none⟩ = some (.slice A7 m7 c7) := HC.out.1.b7.cell 1
           unfold Oper.wp
           go_simp
           exact ⟨_, rfl, rfl, KAp.ext (Ext.refl _), HC.out⟩
          ·have t8 : a1.tmps.getD 8 undef = .slice (some ⟨bc, offc, none⟩) p cc := hfr.at_ rfl (by kernel_rfl)
           unfold Oper.wp
           go_simp
           exact ⟨_, rfl, rfl, KAp.ext (Ext.refl _), HC.out⟩
          ·have t10 : a1.tmps.getD 10 undef = .int .i64 (j : Int) := hfr.at_ rfl (by kernel_rfl)
           unfold Oper.wp
           go_simp
           exact ⟨_, rfl, rfl, KAp.ext (Ext.refl _), HC.out⟩
          ·have t76 : a1.tmps.getD 76 undef = .slice (some ⟨bc, offc, none⟩) p cc := hdep ⟨2, .data⟩ (by simp) rfl _ rfl
           have t76q := tq t76
           have t77 : a1.tmps.getD 77 undef = .int .i64 (j : Int) := hdep ⟨3, .data⟩ (by simp) rfl _ rfl
           have t77q := tq t77
           unfold Oper.wp
           go_simp
           exact ⟨_, rfl, rfl, KAp.ext (Ext.refl _), HC.out⟩
          ·have t78 : a1.tmps.getD 78 undef = .pointer (some ⟨bc, offc + j, none⟩) := hdep ⟨4, .data⟩ (by simp) rfl _ rfl
           have t78q := tq t78
           have c4 : W.cell? ⟨bc, offc + j, none⟩ = some (.string sz) := (HC.out.2.cell bc _ hbc6).trans dz6
           unfold Oper.wp
           go_simp
           exact ⟨_, rfl, rfl, KAp.ext (Ext.refl _), HC.out⟩
          ·have t3 : a1.tmps.getD 3 undef = .pointer (some ⟨w.heap.size + 1, 0, none⟩) := hfr.at_ rfl (by kernel_rfl)
           unfold Oper.wp
           go_simp
           exact ⟨_, rfl, rfl, KAp.ext (Ext.refl _), HC.out⟩
          ·have t80 : a1.tmps.getD 80 undef = .pointer (some ⟨w.heap.size + 1, 3, none⟩) := hdep ⟨6, .data⟩ (by simp) rfl _ rfl
           have t80q := tq t80
           have HCP := HC.out.1.cp
           have kc0 : W.cell? ⟨w.heap.size + 1, 0, none⟩ = some (.int .i64 y) := HCP.b2.cell 0
           have kc1 : W.cell? ⟨w.heap.size + 1, 1, none⟩ = some (.int .i64 3) := HCP.b2.cell 1
           have kc2 : W.cell? ⟨w.heap.size + 1, 2, none⟩ = some (.string s0) := HCP.b2.cell 2
           have kc3 : W.cell? ⟨w.heap.size + 1, 3, none⟩ = some (.string s1) := HCP.b2.cell 3
           have kc4 : W.cell? ⟨w.heap.size + 1, 4, none⟩ = some (.string s2) := HCP.b2.cell 4
           have kc5 : W.cell? ⟨w.heap.size + 1, 5, none⟩ = some (.string s3) := HCP.b2.cell 5
           clear HCP
           unfold Oper.wp
           go_simp
           exact ⟨_, rfl, rfl, KAp.ext (Ext.refl _), HC.out⟩
          ·have t3 : a1.tmps.getD 3 undef = .pointer (some ⟨w.heap.size + 1, 0, none⟩) := hfr.at_ rfl (by kernel_rfl)
           unfold Oper.wp
           go_simp
           exact ⟨_, rfl, rfl, KAp.ext (Ext.refl _), HC.out⟩
          ·have t82 : a1.tmps.getD 82 undef = .pointer (some ⟨w.heap.size + 1, 0, none⟩) := hdep ⟨8, .data⟩ (by simp) rfl _ rfl
           have t82q := tq t82
           have HCP := HC.out.1.cp
           have kc0 : W.cell? ⟨w.heap.size + 1, 0, none⟩ = some (.int .i64 y) := HCP.b2.cell 0
           have kc1 : W.cell? ⟨w.heap.size + 1, 1, none⟩ = some (.int .i64 3) := HCP.b2.cell 1
           have kc2 : W.cell? ⟨w.heap.size + 1, 2, none⟩ = some (.string s0) := HCP.b2.cell 2
           have kc3 : W.cell? ⟨w.heap.size + 1, 3, none⟩ = some (.string s1) := HCP.b2.cell 3
           have kc4 : W.cell? ⟨w.heap.size + 1, 4, none⟩ = some (.string s2) := HCP.b2.cell 4
           have kc5 : W.cell? ⟨w.heap.size + 1, 5, none⟩ = some (.string s3) := HCP.b2.cell 5
           clear HCP
           unfold Oper.wp
           go_simp
           exact ⟨_, rfl, rfl, KAp.ext (Ext.refl _), HC.out⟩
          ·have t75 : a1.tmps.getD 75 undef = .agg #[.slice A n c, .slice A7 m7 c7] := hdep ⟨1, .data⟩ (by simp) rfl _ rfl
           have t75q := tq t75
           have t79 : a1.tmps.getD 79 undef = .string sz := hdep ⟨5, .data⟩ (by simp) rfl _ rfl
           have t79q := tq t79
           have t81 : a1.tmps.getD 81 undef = .string s1 := hdep ⟨7, .data⟩ (by simp) rfl _ rfl
           have t81q := tq t81
           have t83 : a1.tmps.getD 83 undef = .int .i64 y := hdep ⟨9, .data⟩ (by simp) rfl _ rfl
           have t83q := tq t83
           unfold Oper.wp
           go_simp
           refine (HM3J.out _ _ _ _ _ HC.out.1.cp.ex HC.out.1.lk HC.out.1.l21).mono ?_
           rintro e W2 ⟨⟨A9, m9, c9, L9, rfl, hR9, hl9⟩, hx9⟩
           exact ⟨_, rfl, ⟨A9, m9, c9, L9, rfl, hR9, hl9⟩, KAp.ext hx9, HC.out.1.ext hx9, HC.out.2.trans hx9⟩
          ·have t74 : a1.tmps.getD 74 undef = .agg #[.slice A n c, .slice A7 m7 c7] := hdep ⟨0, .data⟩ (by simp) rfl _ rfl
           have t74q := tq t74
           obtain ⟨A8, m8, c8, L8, t84, hR8, hl8⟩ : RgA7 _ _ _ _ _ _ _ _ _ _ _ 10 (a1.tmps.getD 84 undef) undef W := hdep ⟨10, .data⟩ (by simp) rfl _ rfl
           have t84q := tq t84
           unfold Oper.wp
           go_simp
           refine (s_l13LinksR A A7 A8 n c m7 c7 m8 c8 L7 L8 W HC.out.1.lk HC.out.1.l21 hR8 (by omega)).mono ?_
           rintro e W2 ⟨⟨A9, m9, c9, L9, q9, rfl, hR9, hl9⟩, hx9⟩
           exact ⟨_, rfl, ⟨A9, m9, c9, L9, q9, rfl, hR9, hl9⟩, KAp.ext hx9, HC.out.1.ext hx9, HC.out.2.trans hx9⟩
          ·obtain ⟨A8, m8, c8, L8, q8, t85, hR8, hl8⟩ : RgA7 _ _ _ _ _ _ _ _ _ _ _ 11 (a1.tmps.getD 85 undef) undef W := hdep ⟨11, .data⟩ (by simp) rfl _ rfl
           have t85q := tq t85
           unfold Oper.wp
           go_simp
           exact ⟨_, rfl, ⟨A8, m8, c8, L8, q8, rfl, hR8, hl8⟩, KAp.ext (Ext.refl _), HC.out⟩
          ·obtain ⟨A8, m8, c8, L8, q8, t73, hR8, hl8⟩ : RgA7 _ _ _ _ _ _ _ _ _ _ _ 12 (a1.tmps.getD 73 undef) undef W := hdep ⟨12, .data⟩ (by simp) rfl _ rfl
           have t73q := tq t73
           unfold Oper.wp
           go_simp
           exact ⟨_, rfl, ⟨A8, m8, c8, L8, rfl, hR8, hl8⟩, KAp.ext (Ext.refl _), HC.out⟩
          ·obtain ⟨A8, m8, c8, L8, q8, t73, hR8, hl8⟩ : RgA7 _ _ _ _ _ _ _ _ _ _ _ 12 (a1.tmps.getD 73 undef) undef W := hdep ⟨12, .data⟩ (by simp) rfl _ rfl
           have t73q := tq t73
           unfold Oper.wp
           go_simp
           exact ⟨_, rfl, ⟨q8, rfl⟩, KAp.ext (Ext.refl _), HC.out⟩
          ·have hsw : w6.heap.size ≤ W.heap.size := HC.out.2.size
           unfold Oper.wp
           go_simp
           exact ⟨_, rfl, ⟨W.heap.size, rfl, hsw, ⟨_, _, _, _, _, _, Blk.new rfl⟩⟩, KAp.ext ((Ext.refl _).alloc _), HC.out.1.ext ((Ext.refl _).alloc _), HC.out.2.alloc _⟩
          ·obtain ⟨b11, t11, hb11, hp11⟩ : RgA7 _ _ _ _ _ _ _ _ _ _ _ 15 (a1.tmps.getD 11 undef) undef W := hdep ⟨15, .data⟩ (by simp) rfl _ rfl
           have t11q := tq t11
           obtain ⟨A8, m8, c8, L8, t86, hR8, hl8⟩ : RgA7 _ _ _ _ _ _ _ _ _ _ _ 13 (a1.tmps.getD 86 undef) undef W := hdep ⟨13, .data⟩ (by simp) rfl _ rfl
           have t86q := tq t86
           have HPW := hI hp11
           obtain ⟨z1, z2, z3, z4, z5, z6, hB3⟩ := hp11
           have f30 := hB3.frozen 0
           have f31 := hB3.frozen 1
           have d30 : W.cell? ⟨b11, 0, none⟩ = some (.slice z1 z2 z3) := hB3.cell 0
           have d31 : W.cell? ⟨b11, 1, none⟩ = some (.slice z4 z5 z6) := hB3.cell 1
           have hl3 := hB3.lt
           have HR8 := hI hR8
           clear hR8
           unfold Oper.wp
           go_simp
           exact ⟨⟨b11, by first | exact t11 | (unfold ovq; exact t11), hb11, RdB.put HPW.out HR8.out hl8⟩, KAp.put HPW.out HR8.out hl8, HC.out.1.put HPW.out (by omega) (by omega), (HC.out.2.setCell' (p := ⟨b11, 0, none⟩) hb11 _).setCell' (p := ⟨b11, 1, none⟩) hb11 _⟩
          ·obtain ⟨q8, t87⟩ : RgA7 _ _ _ _ _ _ _ _ _ _ _ 14 (a1.tmps.getD 87 undef) undef W := hdep ⟨14, .data⟩ (by simp) rfl _ rfl
           have t87q := tq t87
           unfold Oper.wp
           go_simp
           exact ⟨_, rfl, ⟨q8, rfl⟩, KAp.ext (Ext.refl _), HC.out⟩
         case hend =>
          intro a1 W hfr hR hC
          obtain ⟨q8, t12⟩ : RgA7 _ _ _ _ _ _ _ _ _ _ _ 17 (a1.tmps.getD 12 undef) undef W := hR 17 _ (by omega) rfl
          obtain ⟨b11, t11, hb11, hRB⟩ : RgA7 _ _ _ _ _ _ _ _ _ _ _ 16 undef (a1.tmps.getD 11 undef) W := hR 16 _ (by omega) rfl
          have t12q := tq t12
          have t11q := tq t11
          have HC := hI hC
          have HRB := hI hRB
          clear hC hRB
          refine wpAny_end (by kernel_rfl) ?_
          have hsh := hfr.shape [false, false, false, false, false, false, false, false, false, false, false, true, true, false, false, false, false, false, false, false, false, false, false, false, false, false, false, false, false, false, false, false, false, false, false, false, false, false, false, false, false, false, false, false, false, false, false, false, false, false, false, false, false, false, false, false, false, false, false, false, false, false, false, false, false, false, false, false, false, false, false, false, false, true, true, true, true, true, true, true, true, true, true, true, true, true, true, true, false, false, false, false, false, false, false, false, false, false, false, false, false, false, false, false, false, false, false, false, false, false, false, false] (by rfl) (by kernel_rfl)
          simp only [mixL] at hsh
          rw [hsh]
          go_wp2_with fail
          go_meet
          exact ⟨b11, q8, by first | exact t11 | (simp [t11q]; done), by first | exact t12 | (simp [t12q]; done), hb11, HRB, hI HC.out.1⟩
        case rest =>
        obtain ⟨b11, q8, rfl, rfl, hb11, HRB, HL8⟩ := hcut
        obtain ⟨w8, rfl⟩ : ∃ z, z = wc := ⟨wc, rfl⟩
        obtain ⟨A2, m2, c2, L2, hB11, hR2, hm2⟩ := HRB.out
        have HR2 := hI hR2
        have hB7 := HL8.out.b7
        have x0 : w8.cell? ⟨b11, 0, none⟩ = some (.slice A n c) := hB11.cell 0
        have x1 : w8.cell? ⟨b11, 1, none⟩ = some (.slice A2 m2 c2) := hB11.cell 1
        have y0 : w8.cell? ⟨b7, 0, none⟩ = some (.slice A n c) := hB7.cell 0
        have y1 : w8.cell? ⟨b7, 1, none⟩ = some (.slice A7 m7 c7) := hB7.cell 1
        have fy0 := hB7.frozen 0
        have fy1 := hB7.frozen 1
        have hl7 := hB7.lt
        have hl11 := hB11.lt
        clear hR2 HRB hB11 hB7 HM3J
        have hB1 := HL8.out.cp.b1
        have hB2 := HL8.out.cp.b2
        obtain ⟨z1, z2, z3, z4, z5, z6, hB3⟩ := HL8.out.cp.pw
        have g0 : w8.cell? ⟨w.heap.size, 0, none⟩ = some (.slice A n c) := hB1.cell 0
        have g1 : w8.cell? ⟨w.heap.size, 1, none⟩ = some (.slice A' m c') := hB1.cell 1
        have kc0 : w8.cell? ⟨w.heap.size + 1, 0, none⟩ = some (.int .i64 y) := hB2.cell 0
        have kc1 : w8.cell? ⟨w.heap.size + 1, 1, none⟩ = some (.int .i64 3) := hB2.cell 1
        have kc2 : w8.cell? ⟨w.heap.size + 1, 2, none⟩ = some (.string s0) := hB2.cell 2
        have kc3 : w8.cell? ⟨w.heap.size + 1, 3, none⟩ = some (.string s1) := hB2.cell 3
        have kc4 : w8.cell? ⟨w.heap.size + 1, 4, none⟩ = some (.string s2) := hB2.cell 4
        have kc5 : w8.cell? ⟨w.heap.size + 1, 5, none⟩ = some (.string s3) := hB2.cell 5
        have f30 := hB3.frozen 0
        have f31 := hB3.frozen 1
        have d30 : w8.cell? ⟨w.heap.size + 2, 0, none⟩ = some (.slice z1 z2 z3) := hB3.cell 0
        have d31 : w8.cell? ⟨w.heap.size + 2, 1, none⟩ = some (.slice z4 z5 z6) := hB3.cell 1
        have hl1 := hB1.lt
        have hl2 := hB2.lt
        have hl3 := hB3.lt
        rcases Decidable.em (q8 = 0) with hq8 | hq8
        ·subst hq8
         go_wp2
         go_roundw
         case rel => exact ⟨j + 1, A2, m2, c2, L2, by omega, by go_num, hI (HL8.out.next (by omega) HR2.out hm2)⟩
         case measure => simp [intOf]; omega
        ·have hq8b : (q8 != 0) = true := by simp [hq8]
         clear hq8
         go_wp2
         have hex := HL8.out.cp.ex
         exact ret_pts1 (b0 := w.heap.size + 2) (t := 27) (v := .tuple #[.agg #[.slice A n c, .slice A' m c'], .int .i64 q8]) (Blk.eq (bS (bS hB3)) (by rfl)) rfl (by intro W' r0 r1; simp [results, Tryz.results70, go_sem, r0, r1]) ⟨⟨_, _, _, _, _, _, _, ps, L, rfl, (HWI.out.ext hex).putW hB3 _ _, hn, by omega⟩, xC (by first|omega|simp) (xC (by first|omega|simp) hex)⟩
      ·obtain rfl : j = p := by omega
       go_wp2
       go_meet
       exact ⟨A7, m7, c7, L7, hI ⟨HL5.out.cp, HL5.out.b7, HL5.out.lk, HL5.out.l21, SlAt.nil⟩⟩
   case rest =>
   obtain ⟨A7, m7, c7, L7, HL8⟩ := hcut
   obtain ⟨w4, rfl⟩ : ∃ z, z = wc := ⟨wc, rfl⟩
   clear HL7
   have hB7 := HL8.out.b7
   have y0 : w4.cell? ⟨b7, 0, none⟩ = some (.slice A n c) := hB7.cell 0
   have y1 : w4.cell? ⟨b7, 1, none⟩ = some (.slice A7 m7 c7) := hB7.cell 1
   have hl7 := hB7.lt
   have hB1 := HL8.out.cp.b1
   have hB2 := HL8.out.cp.b2
   obtain ⟨z1, z2, z3, z4, z5, z6, hB3⟩ := HL8.out.cp.pw
   have g0 : w4.cell? ⟨w.heap.size, 0, none⟩ = some (.slice A n c) := hB1.cell 0
   have g1 : w4.cell? ⟨w.heap.size, 1, none⟩ = some (.slice A' m c') := hB1.cell 1
   have kc0 : w4.cell? ⟨w.heap.size + 1, 0, none⟩ = some (.int .i64 y) := hB2.cell 0
   have kc1 : w4.cell? ⟨w.heap.size + 1, 1, none⟩ = some (.int .i64 k) := hB2.cell 1
   have kc2 : w4.cell? ⟨w.heap.size + 1, 2, none⟩ = some (.string s0) := hB2.cell 2
   have kc3 : w4.cell? ⟨w.heap.size + 1, 3, none⟩ = some (.string s1) := hB2.cell 3
   have kc4 : w4.cell? ⟨w.heap.size + 1, 4, none⟩ = some (.string s2) := hB2.cell 4
   have kc5 : w4.cell? ⟨w.heap.size + 1, 5, none⟩ = some (.string s3) := hB2.cell 5
   have f30 := hB3.frozen 0
   have f31 := hB3.frozen 1
   have d30 : w4.cell? ⟨w.heap.size + 2, 0, none⟩ = some (.slice z1 z2 z3) := hB3.cell 0
   have d31 : w4.cell? ⟨w.heap.size + 2, 1, none⟩ = some (.slice z4 z5 z6) := hB3.cell 1
   have hl1 := hB1.lt
   have hl2 := hB2.lt
   have hl3 := hB3.lt
   go_wp2_with fail
   refine (HEP.out _ HL8.out.cp.ex).mono ?_
   rintro e w5 ⟨⟨A5, n5, c5, q5, ps5, rfl, hS5, hP5, hn5, hl5⟩, hx5⟩
   have HL5 := hI (HL8.out.ext hx5)
   have HS5 := hI hS5
   have HP5 := hI hP5
   have HN5 := hI hn5
   clear HL8 hS5 hP5 hn5 hx5 hB7 y0 y1 hl7 hB1 hB2 hB3 g0 g1 kc0 kc1 kc2 kc3 kc4 kc5 f30 f31 d30 d31 hl1 hl2 hl3
   have hB7 := HL5.out.b7
   have y0 : w5.cell? ⟨b7, 0, none⟩ = some (.slice A n c) := hB7.cell 0
   have y1 : w5.cell? ⟨b7, 1, none⟩ = some (.slice A7 m7 c7) := hB7.cell 1
   have hl7 := hB7.lt
   have hB1 := HL5.out.cp.b1
   have hB2 := HL5.out.cp.b2
   obtain ⟨z1, z2, z3, z4, z5, z6, hB3⟩ := HL5.out.cp.pw
   have g0 : w5.cell? ⟨w.heap.size, 0, none⟩ = some (.slice A n c) := hB1.cell 0
   have g1 : w5.cell? ⟨w.heap.size, 1, none⟩ = some (.slice A' m c') := hB1.cell 1
   have kc0 : w5.cell? ⟨w.heap.size + 1, 0, none⟩ = some (.int .i64 y) := hB2.cell 0
   have kc1 : w5.cell? ⟨w.heap.size + 1, 1, none⟩ = some (.int .i64 k) := hB2.cell 1
   have kc2 : w5.cell? ⟨w.heap.size + 1, 2, none⟩ = some (.string s0) := hB2.cell 2
   have kc3 : w5.cell? ⟨w.heap.size + 1, 3, none⟩ = some (.string s1) := hB2.cell 3
   have kc4 : w5.cell? ⟨w.heap.size + 1, 4, none⟩ = some (.string s2) := hB2.cell 4
   have kc5 : w5.cell? ⟨w.heap.size + 1, 5, none⟩ = some (.string s3) := hB2.cell 5
   have f30 := hB3.frozen 0
   have f31 := hB3.frozen 1
   have d30 : w5.cell? ⟨w.heap.size + 2, 0, none⟩ = some (.slice z1 z2 z3) := hB3.cell 0
   have d31 : w5.cell? ⟨w.heap.size + 2, 1, none⟩ = some (.slice z4 z5 z6) := hB3.cell 1
   have hl1 := hB1.lt
   have hl2 := hB2.lt
   have hl3 := hB3.lt
   go_wp2_with fail
   refine (HLE.out _ _ _ _ _ HL5.out.lk HL5.out.l21).mono ?_
   rintro e w6 ⟨⟨A9, m9, c9, L9, rfl, hR9, hl9⟩, hx6⟩
   have HL6 := hI (HL5.out.ext hx6)
   have HW6 : Hid (WIn w6 A5 A9 n5 c5 m9 c9 ps5 L9) := hI ⟨HS5.out.ext hx6, HP5.out.ext hx6, HN5.out, by have := HN5.out; omega, hR9.1, hR9.2.1, by have := hR9.2.1; omega, hR9.2.2.1, hR9.2.2.2⟩
   clear HL5 HS5 HP5 HN5 hR9 hx6 hB7 y0 y1 hl7 hB1 hB2 hB3 g0 g1 kc0 kc1 kc2 kc3 kc4 kc5 f30 f31 d30 d31 hl1 hl2 hl3
   have hB1 := HL6.out.cp.b1
   have hB2 := HL6.out.cp.b2
   obtain ⟨z1, z2, z3, z4, z5, z6, hB3⟩ := HL6.out.cp.pw
   have g0 : w6.cell? ⟨w.heap.size, 0, none⟩ = some (.slice A n c) := hB1.cell 0
   have g1 : w6.cell? ⟨w.heap.size, 1, none⟩ = some (.slice A' m c') := hB1.cell 1
   have kc0 : w6.cell? ⟨w.heap.size + 1, 0, none⟩ = some (.int .i64 y) := hB2.cell 0
   have kc1 : w6.cell? ⟨w.heap.size + 1, 1, none⟩ = some (.int .i64 k) := hB2.cell 1
   have kc2 : w6.cell? ⟨w.heap.size + 1, 2, none⟩ = some (.string s0) := hB2.cell 2
   have kc3 : w6.cell? ⟨w.heap.size + 1, 3, none⟩ = some (.string s1) := hB2.cell 3
   have kc4 : w6.cell? ⟨w.heap.size + 1, 4, none⟩ = some (.string s2) := hB2.cell 4
   have kc5 : w6.cell? ⟨w.heap.size + 1, 5, none⟩ = some (.string s3) := hB2.cell 5
   have f30 := hB3.frozen 0
   have f31 := hB3.frozen 1
   have d30 : w6.cell? ⟨w.heap.size + 2, 0, none⟩ = some (.slice z1 z2 z3) := hB3.cell 0
   have d31 : w6.cell? ⟨w.heap.size + 2, 1, none⟩ = some (.slice z4 z5 z6) := hB3.cell 1
   have hl1 := hB1.lt
   have hl2 := hB2.lt
   have hl3 := hB3.lt
   go_wp2
   have hex := HL6.out.cp.ex
   exact ret_pts1 (b0 := w.heap.size + 2) (t := 27) (v := .tuple #[.agg #[.slice A5 n5 c5, .slice A9 m9 c9], .int .i64 0]) (Blk.eq (bS (bS hB3)) (by rfl)) rfl (by intro W' r0 r1; simp [results, Tryz.results70, go_sem, r0, r1]) ⟨⟨_, _, _, _, _, _, _, ps5, L9, rfl, HW6.out.putW hB3 _ _, hl5, by omega⟩, xC (by first|omega|simp) (xC (by first|omega|simp) hex)⟩
 ·have hqb : (q != 0) = true := by simp [hq0]
  clear hq0 HQ HKK HOT HCF HM2 HM3 HRN HCI HEP HLE
  have hB1 := HC1.out.b1
  have hB2 := HC1.out.b2
  obtain ⟨z1, z2, z3, z4, z5, z6, hB3⟩ := HC1.out.pw
  have g0 : w1.cell? ⟨w.heap.size, 0, none⟩ = some (.slice A n c) := hB1.cell 0
  have g1 : w1.cell? ⟨w.heap.size, 1, none⟩ = some (.slice A' m c') := hB1.cell 1
  have kc0 : w1.cell? ⟨w.heap.size + 1, 0, none⟩ = some (.int .i64 y) := hB2.cell 0
  have kc1 : w1.cell? ⟨w.heap.size + 1, 1, none⟩ = some (.int .i64 k) := hB2.cell 1
  have kc2 : w1.cell? ⟨w.heap.size + 1, 2, none⟩ = some (.string s0) := hB2.cell 2
  have kc3 : w1.cell? ⟨w.heap.size + 1, 3, none⟩ = some (.string s1) := hB2.cell 3
  have kc4 : w1.cell? ⟨w.heap.size + 1, 4, none⟩ = some (.string s2) := hB2.cell 4
  have kc5 : w1.cell? ⟨w.heap.size + 1, 5, none⟩ = some (.string s3) := hB2.cell 5
  have f30 := hB3.frozen 0
  have f31 := hB3.frozen 1
  have d30 : w1.cell? ⟨w.heap.size + 2, 0, none⟩ = some (.slice z1 z2 z3) := hB3.cell 0
  have d31 : w1.cell? ⟨w.heap.size + 2, 1, none⟩ = some (.slice z4 z5 z6) := hB3.cell 1
  have hl1 := hB1.lt
  have hl2 := hB2.lt
  have hl3 := hB3.lt
  go_wp2
  have hex := HC1.out.ex
  exact ret_pts1 (b0 := w.heap.size + 2) (t := 27) (v := .tuple #[.agg #[.slice A n c, .slice A' m c'], .int .i64 q]) (Blk.eq (bS (bS hB3)) (by rfl)) rfl (by intro W' r0 r1; simp [results, Tryz.results70, go_sem, r0, r1]) ⟨⟨_, _, _, _, _, _, _, ps, L, rfl, (HWI.out.ext hex).putW hB3 _ _, hn, by omega⟩, xC (by first|omega|simp) (xC (by first|omega|simp) hex)⟩
theorem RwN.putW {lo : Nat} {w : World} {A1 A2 a1 a2 : Option Addr} {n1 c1 m2 c2 x1 y1 x2 y2 r : Nat} {t : TypeId} (h : RwN lo w A1 n1 c1 A2 m2 c2) (hB : Blk w r t #[.slice a1 x1 y1, .slice a2 x2 y2]) (u v : Value) : RwN lo ((w.setCell ⟨r, 0, none⟩ u).setCell ⟨r, 1, none⟩ v) A1 n1 c1 A2 m2 c2 := by
 obtain ⟨ps, L, hW, hb⟩ := h
 exact ⟨ps, L, hW.putW hB u v, hb⟩
theorem RwN.nil (lo : Nat) (w : World) : RwN lo w none 0 0 none 0 0 := ⟨[], [], ⟨SlAt.nil, fun p hp => by simp at hp, rfl, by simp, SlAt.nil, rfl, by simp, Nat.le_refl _, fun j => by simp [lkD]⟩, ⟨by omega, by omega⟩, fun z hz => by simp at hz, fun z hz => by simp at hz, fun p hp => by simp at hp⟩
set_option maxRecDepth 20000 in
set_option maxHeartbeats 12800000 in
theorem s_ApplyChange (A A' : Option Addr) (n c m c' : Nat) (ps : List Pl) (L : List Lk) (y k : Int) (co ot la te : List UInt8) (w : World) (h : WIn w A A' n c m c' ps L) (hn : n ≤ 1000) (hm : m ≤ 21) (hco : co.length ≤ 1048576) (hot : ot.length ≤ 1048576) (hla : la.length ≤ 1048576) (hte : te.length ≤ 1048576) (hy : -100000 ≤ y ∧ y ≤ 100000) :
  Calls Tryz.prog 35 #[.agg #[.slice A n c, .slice A' m c'], .agg #[.int .i64 y, .int .i64 k, .string (tx co), .string (tx ot), .string (tx la), .string (tx te)]] w fun e w' => ∃ (A1 : Option Addr) (n1 c1 : Nat) (A2 : Option Addr) (m2 c2 : Nat) (q : Int), e = .returned (.tuple #[.agg #[.slice A1 n1 c1, .slice A2 m2 c2], .int .i64 q]) ∧ RwN w.heap.size w' A1 n1 c1 A2 m2 c2 ∧ Ext w w' := by
 have HAP := hI (fun W (hW : Ext w W) => s_l13Apply A A' n c m c' ps L y k co ot la te W (h.ext hW) hn hm hco hot hla hte hy)
 clear h hco hot hla hte hy
 generalize tx co = s0 at *
 generalize tx ot = s1 at *
 generalize tx la = s2 at *
 generalize tx te = s3 at *
 go_enter Tryz.func35, Tryz.ntmps35
 go_wp2_with fail
 refine (HAP.out _ (xA (xA (xA xR)))).mono ?_
 rintro e w1 ⟨⟨A1, n1, c1, A2, m2, c2, q, ps1, L1, rfl, hW1, hb1, hb2⟩, hx1⟩
 have HX1 : Hid (Ext w w1) := hI (Ext.trans (xA (xA (xA xR))) hx1)
 have HZ1 : Hid (Blk w1 (w.heap.size + 2) 27 #[.slice none 0 0, .slice none 0 0]) := hI (Blk.ext (bN (by first|omega|simp)) hx1)
 have HW1 := hI hW1
 have hz1 := HZ1.out
 have f0 := hz1.frozen 0
 have f1 := hz1.frozen 1
 have d0 : w1.cell? ⟨w.heap.size + 2, 0, none⟩ = some (.slice none 0 0) := hz1.cell 0
 have d1 : w1.cell? ⟨w.heap.size + 2, 1, none⟩ = some (.slice none 0 0) := hz1.cell 1
 have hlz := hz1.lt
 clear hx1 hW1 HAP hz1
 rcases Decidable.em (q = 0) with hq | hq
 ·subst hq
  clear f0 f1 d0 d1
  go_wp2_with fail
  refine (s_l13Own A1 A2 n1 c1 m2 c2 ps1 L1 _ (HW1.out.ext (xA xR)) hb1 hb2).mono ?_
  rintro e w2 ⟨A3, n3, c3, A4, m4, c4, rfl, hR, hx2⟩
  have HX2 : Hid (Ext w1 w2) := hI (Ext.trans (xA xR) hx2)
  have hz2 := HZ1.out.ext HX2.out
  have HR := hI (hR.less (lo' := w.heap.size) (by have := HX1.out.size; first | omega | (simp; omega)))
  have f0 := hz2.frozen 0
  have f1 := hz2.frozen 1
  have d0 : w2.cell? ⟨w.heap.size + 2, 0, none⟩ = some (.slice none 0 0) := hz2.cell 0
  have d1 : w2.cell? ⟨w.heap.size + 2, 1, none⟩ = some (.slice none 0 0) := hz2.cell 1
  have hlz2 := hz2.lt
  have hex := HX1.out.trans HX2.out
  have HZ2 := hI hz2
  clear hR hx2 hz2 HW1
  go_wp2
  have hz2 := HZ2.out
  exact ret_pts1 (b0 := w.heap.size + 2) (t := 27) (v := .tuple #[.agg #[.slice A3 n3 c3, .slice A4 m4 c4], .int .i64 0]) (Blk.eq (bS (bS hz2)) (by rfl)) rfl (by intro W' r0 r1; simp [results, Tryz.results35, go_sem, r0, r1]) ⟨_, _, _, _, _, _, _, rfl, HR.out.putW hz2 _ _, xC (by first|omega|simp) (xC (by first|omega|simp) hex)⟩
 ·have hqb : (q != 0) = true := by simp [hq]
  clear hq HW1
  go_wp2
  have hz1 := HZ1.out
  have hex := HX1.out
  exact ret_pts1 (b0 := w.heap.size + 2) (t := 27) (v := .tuple #[.agg #[.slice none 0 0, .slice none 0 0], .int .i64 q]) (Blk.eq (bA (bS (bS hz1))) (by rfl)) rfl (by intro W' r0 r1; simp [results, Tryz.results35, go_sem, r0, r1]) ⟨_, _, _, _, _, _, _, rfl, RwN.nil _ _, xA (xC (by first|omega|simp) (xC (by first|omega|simp) hex))⟩
theorem FarW.of {w : World} {lo gq n c m c' q : Nat} {A' : Option Addr} {ps : List Pl} {L : List Lk} (h : WDr w lo gq n c A' m c' ps L) (hq : q < lo) : FarW q gq A' ps := ⟨by have := h.rq; omega, fun z hz => by have := h.rk z hz; omega, fun p hp _ z hz => by have := h.rn p hp z hz; omega⟩
theorem WDr.putW {w : World} {lo gq n c m c' q : Nat} {A' : Option Addr} {ps : List Pl} {L : List Lk} (h : WDr w lo gq n c A' m c' ps L) (hq : q < lo) (u v : Value) : WDr ((w.setCell ⟨q, 0, none⟩ u).setCell ⟨q, 1, none⟩ v) lo gq n c A' m c' ps L :=
 (h.set (q := ⟨q, 0, none⟩) (FarW.of h hq) u).set (q := ⟨q, 1, none⟩) (FarW.of h hq) v
theorem PW.but {w w' : World} {b g : Nat} (h : PW w b) (hu : But g w w') (hn : ¬ b = g) : PW w' b := by
 obtain ⟨a1, n1, c1, a2, n2, c2, hB⟩ := h
 exact ⟨a1, n1, c1, a2, n2, c2, hB.but' hu hn⟩
structure DBs (w : World) (A : Option Addr) (c : Nat) (bs : List Int) (g lo b6 b7 b8 : Nat) (c1 ch c2 : Array Value) (W : World) : Prop where
 src : Src w A c bs g W
 z2 : PW W w.heap.size
 z3 : PW W (w.heap.size + 1)
 h6 : Blk W b6 27 c1
 h7 : Blk W b7 68 ch
 h8 : Blk W b8 27 c2
 n2 : w.heap.size + 2 ≤ g
 ng : g < lo
 l6 : lo ≤ b6
 l7 : lo ≤ b7
 l8 : lo ≤ b8
section
variable {w W W' : World} {A : Option Addr} {c : Nat} {bs : List Int} {g lo b6 b7 b8 : Nat} {c1 ch c2 : Array Value}
theorem DBs.call (h : DBs w A c bs g lo b6 b7 b8 c1 ch c2 W) (hS : Src w A c bs g W') (hu : But g W W') : DBs w A c bs g lo b6 b7 b8 c1 ch c2 W' := by
 have h1 := h.n2; have h2 := h.ng; have h3 := h.l6; have h4 := h.l7; have h5 := h.l8
 exact ⟨hS, h.z2.but hu (by omega), h.z3.but hu (by omega), h.h6.but' hu (by omega), h.h7.but' hu (by omega), h.h8.but' hu (by omega), h1, h2, h3, h4, h5⟩
theorem DBs.ext (h : DBs w A c bs g lo b6 b7 b8 c1 ch c2 W) (hx : Ext W W') : DBs w A c bs g lo b6 b7 b8 c1 ch c2 W' := h.call (h.src.on hx) (But.of hx)
theorem DBs.put (h : DBs w A c bs g lo b6 b7 b8 c1 ch c2 W) {q : Nat} (hq : PW W q) (h0 : w.heap.size ≤ q) (h1 : q < w.heap.size + 2) {a1 a2 : Option Addr} {n1 e1 n2 e2 : Nat} : DBs w A c bs g lo b6 b7 b8 c1 ch c2 ((W.setCell ⟨q, 0, none⟩ (.slice a1 n1 e1)).setCell ⟨q, 1, none⟩ (.slice a2 n2 e2)) := by
 have h2 := h.n2; have h3 := h.ng; have h4 := h.l6; have h5 := h.l7; have h6 := h.l8
 exact ⟨(h.src.far (p := ⟨q, 0, none⟩) (by show ¬ g = q; omega) h0 _).far (p := ⟨q, 1, none⟩) (by show ¬ g = q; omega) h0 _, PW.put hq h.z2, PW.put hq h.z3, blk_puf h.h6 (by omega) _ _, blk_puf h.h7 (by omega) _ _, blk_puf h.h8 (by omega) _ _, h2, h3, h4, h5, h6⟩
end
def KDb (r lo : Nat) (c1 c2 : Array Value) (w w' : World) : Prop := (Blk w r 27 c1 → Blk w' r 27 c1) ∧ (Blk w (r + 1) 27 c2 → Blk w' (r + 1) 27 c2) ∧ ∀ (b : Nat) (t : TypeId) (cs : Array Value), lo ≤ b → Blk w b t cs → Blk w' b t cs
theorem KDb.but {r lo g : Nat} {c1 c2 : Array Value} {w w' : World} (hu : But g w w') (h1 : r + 2 ≤ g) (h2 : g < lo) : KDb r lo c1 c2 w w' := ⟨fun h => h.but' hu (by omega), fun h => h.but' hu (by omega), fun b t cs hb h => h.but' hu (by omega)⟩
theorem KDb.put1 {r lo : Nat} {c2 : Array Value} {x0 x1 : Value} {w : World} (hq : PW w r) (hl : r + 1 < lo) : KDb r lo #[x0, x1] c2 w ((w.setCell ⟨r, 0, none⟩ x0).setCell ⟨r, 1, none⟩ x1) := by
 obtain ⟨_, _, _, _, _, _, hB⟩ := hq
 exact ⟨fun _ => blk_put hB _ _, fun h => blk_puf h (by omega) _ _, fun b t cs hb h => blk_puf h (by omega) _ _⟩
theorem KDb.put2 {r lo : Nat} {c1 : Array Value} {x0 x1 : Value} {w : World} (hq : PW w (r + 1)) (hl : r + 1 < lo) : KDb r lo c1 #[x0, x1] w ((w.setCell ⟨r + 1, 0, none⟩ x0).setCell ⟨r + 1, 1, none⟩ x1) := by
 obtain ⟨_, _, _, _, _, _, hB⟩ := hq
 exact ⟨fun h => blk_puf h (by omega) _ _, fun _ => blk_put hB _ _, fun b t cs hb h => blk_puf h (by omega) _ _⟩
def RgD6 (r lo : Nat) (c1 c2 : Array Value) (p pc : Value) (y : Int) : Nat → Value → World → Prop
 | 0, v, _ => v = .agg c1
 | 1, v, _ => v = .agg c2
 | 2, v, _ => v = p
 | 3, v, _ => v = pc
 | 4, v, _ => v = .int .i64 y
 | 5, v, _ => v = pc
 | 6, v, _ => v = .int .i64 y
 | 7, v, _ => v = .int .i64 (y + 1)
 | 8, v, _ => v = pc
 | 9, v, _ => v = .int .i64 y
 | 10, v, _ => v = .int .i64 (y + 100)
 | 11, v, _ => v = pc
 | 12, v, _ => v = .int .i64 y
 | 13, v, W => ∃ b, v = .slice (some ⟨b, 0, none⟩) 4 4 ∧ lo ≤ b ∧ Blk W b 2 #[.int .i64 y, .int .i64 (y + 1), .int .i64 (y + 100), .int .i64 y]
 | 14, v, _ => ∃ z : Int, v = .int .i64 z
 | 15, _, W => Blk W r 27 c1
 | 16, _, W => Blk W (r + 1) 27 c2
 | 17, v, _ => ∃ z : Int, v = .int .i64 z
 | _, _, _ => True
theorem RgD6.stay {r lo : Nat} {c1 c2 : Array Value} {p pc : Value} {y : Int} (i : Nat) (v : Value) (w w' : World) (hk : KDb r lo c1 c2 w w') (h : RgD6 r lo c1 c2 p pc y i v w) : RgD6 r lo c1 c2 p pc y i v w' := by
 rcases i with _ | _ | _ | _ | _ | _ | _ | _ | _ | _ | _ | _ | _ | _ | _ | _ | _ | _ | i
 all_goals first | exact h | exact hk.1 h | exact hk.2.1 h | (obtain ⟨b, h1, h2, h3⟩ := h; exact ⟨b, h1, h2, hk.2.2 _ _ _ h2 h3⟩) | trivial
def WdB (b lo : Nat) (W : World) : Prop := ∃ (gq n cq : Nat) (A' : Option Addr) (m ck : Nat) (ps : List Pl) (L : List Lk), Blk W b 27 #[.slice (some ⟨gq, 0, none⟩) n cq, .slice A' m ck] ∧ WDr W lo gq n cq A' m ck ps L
def WdV (lo : Nat) (W : World) (v : Value) : Prop := ∃ (gq n cq : Nat) (A' : Option Addr) (m ck : Nat) (ps : List Pl) (L : List Lk), v = .agg #[.slice (some ⟨gq, 0, none⟩) n cq, .slice A' m ck] ∧ WDr W lo gq n cq A' m ck ps L
def KDc (r lo : Nat) (c1 : Array Value) (w w' : World) : Prop := (Blk w r 27 c1 → Blk w' r 27 c1) ∧ (WdB (r + 1) lo w → WdB (r + 1) lo w') ∧ ∀ v, WdV lo w v → WdV lo w' v
theorem KDc.but {r lo g : Nat} {c1 : Array Value} {w w' : World} (hu : But g w w') (h1 : r + 2 ≤ g) (h2 : g < lo) : KDc r lo c1 w w' :=
 ⟨fun h => h.but' hu (by omega), fun ⟨gq, n, cq, A', m, ck, ps, L, hB, hW⟩ => ⟨gq, n, cq, A', m, ck, ps, L, hB.but' hu (by omega), hW.but hu h2⟩, fun v ⟨gq, n, cq, A', m, ck, ps, L, hB, hW⟩ => ⟨gq, n, cq, A', m, ck, ps, L, hB, hW.but hu h2⟩⟩
theorem KDc.put1 {r lo : Nat} {x0 x1 : Value} {w : World} (hq : PW w r) (hl : r + 1 < lo) : KDc r lo #[x0, x1] w ((w.setCell ⟨r, 0, none⟩ x0).setCell ⟨r, 1, none⟩ x1) := by
 obtain ⟨_, _, _, _, _, _, hB9⟩ := hq
 exact ⟨fun _ => blk_put hB9 _ _, fun ⟨gq, n, cq, A', m, ck, ps, L, hB, hW⟩ => ⟨gq, n, cq, A', m, ck, ps, L, blk_puf hB (by omega) _ _, hW.putW (by omega) _ _⟩, fun v ⟨gq, n, cq, A', m, ck, ps, L, hB, hW⟩ => ⟨gq, n, cq, A', m, ck, ps, L, hB, hW.putW (by omega) _ _⟩⟩
theorem WdB.put {r lo : Nat} {w : World} {gq n cq m ck : Nat} {A' : Option Addr} {ps : List Pl} {L : List Lk} (hq : PW w r) (hl : r < lo) (h : WDr w lo gq n cq A' m ck ps L) : WdB r lo ((w.setCell ⟨r, 0, none⟩ (.slice (some ⟨gq, 0, none⟩) n cq)).setCell ⟨r, 1, none⟩ (.slice A' m ck)) := by
 obtain ⟨_, _, _, _, _, _, hB9⟩ := hq
 exact ⟨gq, n, cq, A', m, ck, ps, L, blk_put hB9 _ _, h.putW hl _ _⟩
theorem KDc.put2 {r lo : Nat} {c1 : Array Value} {w : World} {gq n cq m ck : Nat} {A' : Option Addr} {ps : List Pl} {L : List Lk} (hq : PW w (r + 1)) (hl : r + 1 < lo) (h : WDr w lo gq n cq A' m ck ps L) : KDc r lo c1 w ((w.setCell ⟨r + 1, 0, none⟩ (.slice (some ⟨gq, 0, none⟩) n cq)).setCell ⟨r + 1, 1, none⟩ (.slice A' m ck)) := by
 have hb := WdB.put hq hl h
 obtain ⟨_, _, _, _, _, _, hB9⟩ := hq
 exact ⟨fun h => blk_puf h (by omega) _ _, fun _ => hb, fun v ⟨gq, n, cq, A', m, ck, ps, L, hB, hW⟩ => ⟨gq, n, cq, A', m, ck, ps, L, hB, hW.putW (by omega) _ _⟩⟩
def RgD7 (r lo : Nat) (c1 : Array Value) (p : Value) : Nat → Value → World → Prop
 | 0, v, _ => v = .agg c1
 | 1, v, _ => v = p
 | 2, v, W => WdV lo W v
 | 3, v, _ => v = p
 | 4, v, _ => ∃ z : Int, v = .int .i64 z
 | 5, _, W => Blk W r 27 c1
 | 6, _, W => WdB (r + 1) lo W
 | 7, v, _ => ∃ z : Int, v = .int .i64 z
 | _, _, _ => True
theorem RgD7.stay {r lo : Nat} {c1 : Array Value} {p : Value} (i : Nat) (v : Value) (w w' : World) (hk : KDc r lo c1 w w') (h : RgD7 r lo c1 p i v w) : RgD7 r lo c1 p i v w' := by
 rcases i with _ | _ | _ | _ | _ | _ | _ | _ | i
 all_goals first | exact h | exact hk.1 h | exact hk.2.1 h | exact hk.2.2 _ h | trivial
set_option maxRecDepth 200000 in
set_option maxHeartbeats 51200000 in
theorem s_DrawDifferBefore (A : Option Addr) (c : Nat) (bs : List Int) (w : World) (h : SlAt w 1 encB A bs) (hb : ∀ b ∈ bs, 0 ≤ b ∧ b ≤ 255) (hl : bs.length ≤ 4096) :
  Calls Tryz.prog 11 #[.slice A bs.length c] w fun e w' => ∃ (gq n cq : Nat) (A' : Option Addr) (m ck : Nat) (ps : List Pl) (L : List Lk) (B4 : Option Addr) (n4 c4 : Nat) (A4 : Option Addr) (m4 c5 : Nat) (ps4 : List Pl) (L4 : List Lk) (z : Int), e = .returned (.tuple #[.agg #[.slice (some ⟨gq, 0, none⟩) n cq, .slice A' m ck], .agg #[.slice B4 n4 c4, .slice A4 m4 c5], .int .i64 z]) ∧ WDr w' w.heap.size gq n cq A' m ck ps L ∧ WIn w' B4 A4 n4 c4 m4 c5 ps4 L4 ∧ Ext w w' := by
 have HB := hI hb
 clear hb
 go_enter Tryz.func11, Tryz.ntmps11
 go_wp2_with fail
 refine (s_l01From _ _ bs _ (h.ext (xA (xA xR))) HB.out hl).mono ?_
 rintro e w0 ⟨g, rfl, hS0'⟩
 have hS0 : Src w A c bs g w0 := hS0'.base (((Ext.refl w).alloc _).alloc _) h
 have hog := hS0'.own
 simp at hog
 have hg0 := hS0.lt
 have nb2 : ¬ w.heap.size = g := by omega
 have nb3 : ¬ w.heap.size + 1 = g := by omega
 have hn2 : w.heap.size + 2 ≤ g := by omega
 have HZ2 : Hid (Blk w0 w.heap.size 27 #[.slice none 0 0, .slice none 0 0]) := hI ((Blk.alloc (Blk.new rfl) _).ext hS0'.ext)
 have HZ3 : Hid (Blk w0 (w.heap.size + 1) 27 #[.slice none 0 0, .slice none 0 0]) := hI ((Blk.new (by simp)).ext hS0'.ext)
 clear hS0'
 go_wp2_with fail
 refine (s_l13Draw (a := w) (A := A) (c := c) (bs := bs) _ hS0).mono ?_
 rintro e w1 ⟨gq, n, cq, A', m, ck, ps, L, rfl, hW1, hS1, hu1⟩
 have hs1 := hu1.size
 have HS1 := hI hS1
 have HW1 := hI hW1
 replace HZ2 := hI (HZ2.out.but' hu1 nb2)
 replace HZ3 := hI (HZ3.out.but' hu1 nb3)
 have hgq : ¬ gq = g := by have := hW1.rq; omega
 have n6 : ¬ w1.heap.size = g := by omega
 clear hS0 hS1 hW1 hu1 h
 go_wp2_with fail
 refine (s_l13Change (a := w) (A := A) (c := c) (bs := bs) gq n cq A' m ck ps _ (HS1.out.alloc _) (HW1.out.sq.ext ((Ext.refl _).alloc _)) HW1.out.hn (by have := HW1.out.h11; omega) HW1.out.hle hgq).mono ?_
 rintro e w2 ⟨y, k, co, ot, la, te, rfl, hch, hS2, hu2⟩
 have H6 : Hid (Blk w2 w1.heap.size 27 #[.slice (some ⟨gq, 0, none⟩) n cq, .slice A' m ck]) := hI (Blk.but' hu2 n6 (Blk.new rfl))
 have hs2 : w1.heap.size + 1 ≤ w2.heap.size := by have := hu2.size; simpa using this
 have HS2 := hI hS2
 have HW2 := hI ((HW1.out.ext ((Ext.refl _).alloc _)).but hu2 hg0)
 replace HZ2 := hI ((HZ2.out.alloc _).but' hu2 nb2)
 replace HZ3 := hI ((HZ3.out.alloc _).but' hu2 nb3)
 have HCH := hI hch
 have h6 := H6.out
 have x0 : w2.cell? ⟨w1.heap.size, 0, none⟩ = some (.slice (some ⟨gq, 0, none⟩) n cq) := h6.cell 0
 have x1 : w2.cell? ⟨w1.heap.size, 1, none⟩ = some (.slice A' m ck) := h6.cell 1
 have hl6 := h6.lt
 clear hS2 hu2 hch h6 HS1 HW1
 go_wp2_with fail
 refine (s_ApplyChange (some ⟨gq, 0, none⟩) A' n cq m ck ps L y k co ot la te _ ((HW2.out.ext ((Ext.refl _).alloc _)).win) (by have := HW2.out.h11; omega) HW2.out.h21 (by have := HCH.out.2.2.1; omega) (by have := HCH.out.2.2.2.1; omega) (by have := HCH.out.2.2.2.2.1; omega) (by have := HCH.out.2.2.2.2.2; omega) (by have := HCH.out.1; omega)).mono ?_
 rintro e w3 ⟨B4, n4, c4, A4, m4, c5, q, rfl, hR, hx3⟩
 have hs3 : w2.heap.size + 1 ≤ w3.heap.size := by have := hx3.size; simpa using this
 have hx23 : Ext w2 w3 := Ext.trans ((Ext.refl _).alloc _) hx3
 obtain ⟨lo, hlo⟩ : ∃ lo, lo = w0.heap.size := ⟨_, rfl⟩
 have HRW : Hid (RwN lo w3 B4 n4 c4 A4 m4 c5) := hI (hR.less (by simp; omega))
 have HWD : Hid (WDr w3 lo gq n cq A' m ck ps L) := hI (by rw [hlo]; exact HW2.out.ext hx23)
 have HD : Hid (DBs w A c bs g lo w1.heap.size w2.heap.size w3.heap.size #[.slice (some ⟨gq, 0, none⟩) n cq, .slice A' m ck] #[.int .i64 y, .int .i64 k, .string (tx co), .string (tx ot), .string (tx la), .string (tx te)] #[.slice B4 n4 c4, .slice A4 m4 c5] (w3.alloc (.cells #[.slice B4 n4 c4, .slice A4 m4 c5] 27))) := hI ⟨(HS2.out.on hx23).alloc _, ⟨_, _, _, _, _, _, (HZ2.out.ext hx23).alloc _⟩, ⟨_, _, _, _, _, _, (HZ3.out.ext hx23).alloc _⟩, (H6.out.ext hx23).alloc _, Blk.alloc (Blk.ext (Blk.new rfl) hx3) _, Blk.new rfl, hn2, by omega, by omega, by omega, by omega⟩
 replace HRW : Hid (RwN lo (w3.alloc (.cells #[.slice B4 n4 c4, .slice A4 m4 c5] 27)) B4 n4 c4 A4 m4 c5) := hI (HRW.out.but (But.of ((Ext.refl _).alloc _) : But g _ _) (by omega))
 replace HWD := hI (HWD.out.ext ((Ext.refl w3).alloc (.cells #[.slice B4 n4 c4, .slice A4 m4 c5] 27)))
 have hgl : g < lo := by omega
 have hwl : w.heap.size + 2 ≤ lo := by omega
 have hy := HCH.out.1
 have hy1 : IntKind.i64.wrap (y + 1) = y + 1 := IntWalk.i64_in _ (by omega)
 have hy2 : IntKind.i64.wrap (y + 100) = y + 100 := IntWalk.i64_in _ (by omega)
 clear hR hx3 hx23 HS2 HW2 HZ2 HZ3 H6 HCH hy x0 x1 hl6 hs1 hs2 hs3 n6 hlo hgq hog
 go_upto_region 5 with (fail)
 generalize w3.alloc (.cells #[.slice B4 n4 c4, .slice A4 m4 c5] 27) = w4 at *
 generalize w1.heap.size = b6 at *
 generalize w2.heap.size = b7 at *
 generalize w3.heap.size = b8 at *
 go_cut [29] (fun v wx => ∃ bq : Bool, v = .bool bq ∧ Hid (DBs w A c bs g lo b6 b7 b8 #[.slice (some ⟨gq, 0, none⟩) n cq, .slice A' m ck] #[.int .i64 y, .int .i64 k, .string (tx co), .string (tx ot), .string (tx la), .string (tx te)] #[.slice B4 n4 c4, .slice A4 m4 c5] wx) ∧ Hid (WDr wx lo gq n cq A' m ck ps L) ∧ Hid (RwN lo wx B4 n4 c4 A4 m4 c5))
 case first =>
  rcases Decidable.em (q = 0) with hq | hq
  ·subst hq
   go_wp2_with fail
   refine (s_l01Next (a := w) (A := A) (c := c) (bs := bs) _ _ HD.out.src (by omega)).mono ?_
   rintro e w5 ⟨x, rfl, hx, hS5, hu5⟩
   have HD5 := hI (HD.out.call hS5 hu5)
   have HWD5 := hI (HWD.out.but hu5 hgl)
   have HRW5 := hI (HRW.out.but hu5 hgl)
   clear hS5 hu5 hx
   go_wp2_with fail
   go_meet
   exact ⟨_, rfl, HD5, HWD5, HRW5⟩
  ·have hqb : (q == 0) = false := by simpa using hq
   clear hq
   go_wp2_with fail
   go_meet
   exact ⟨_, rfl, HD, HWD, HRW⟩
 case rest =>
 clear HD HWD HRW
 obtain ⟨bq, rfl, HD, HWD, HRW⟩ := hcut
 obtain ⟨w4, rfl⟩ : ∃ z, z = wc := ⟨wc, rfl⟩
 obtain ⟨lo2, hlo2⟩ : ∃ lo2, lo2 = w4.heap.size := ⟨_, rfl⟩
 have hgl2 : g < lo2 := by have := HD.out.src.lt; omega
 have hwl2 : w.heap.size + 2 ≤ lo2 := by omega
 have hlw4 : lo2 ≤ w4.heap.size := by omega
 clear hlo2
 cases bq with
 | true =>
  go_upto_region 6 with (fail)
  refine wp_region_rgb (m := 18) (C := fun W => DBs w A c bs g lo b6 b7 b8 #[.slice (some ⟨gq, 0, none⟩) n cq, .slice A' m ck] #[.int .i64 y, .int .i64 k, .string (tx co), .string (tx ot), .string (tx la), .string (tx te)] #[.slice B4 n4 c4, .slice A4 m4 c5] W ∧ WDr W lo gq n cq A' m ck ps L ∧ RwN lo W B4 n4 c4 A4 m4 c5 ∧ lo2 ≤ W.heap.size) (K := KDb w.heap.size lo2 #[.slice (some ⟨gq, 0, none⟩) n cq, .slice A' m ck] #[.slice B4 n4 c4, .slice A4 m4 c5]) (R := RgD6 w.heap.size lo2 #[.slice (some ⟨gq, 0, none⟩) n cq, .slice A' m ck] #[.slice B4 n4 c4, .slice A4 m4 c5] (.pointer (some ⟨g, 0, none⟩)) (.pointer (some ⟨b7, 0, none⟩)) y) Tryz.f11.ntmps (by kernel_rfl) (by kernel_rfl) (by simp) (by rw [Tryz.ntmps11]; simp) (fun i v w w' => RgD6.stay i v w w') ?hC ?hstep ?hend
  case hC => exact ⟨HD.out.ext (Ext.refl _).drew, HWD.out.ext (Ext.refl _).drew, HRW.out.but (But.of (Ext.refl _).drew : But g _ _) hgl, by first | omega | (simp; omega)⟩
  case hstep =>
   simp only [List.take_succ_cons, List.take_zero]
   refine AllFrom.cons ?_ <| AllFrom.cons ?_ <| AllFrom.cons ?_ <| AllFrom.cons ?_ <| AllFrom.cons ?_ <| AllFrom.cons ?_ <| AllFrom.cons ?_ <| AllFrom.cons ?_ <| AllFrom.cons ?_ <| AllFrom.cons ?_ <| AllFrom.cons ?_ <| AllFrom.cons ?_ <| AllFrom.cons ?_ <| AllFrom.cons ?_ <| AllFrom.cons ?_ <| AllFrom.cons ?_ <| AllFrom.cons ?_ <| AllFrom.cons ?_ AllFrom.nil
   all_goals (intro a1 W hfr hdep hC; have HC := hI hC; clear hC)
   ·have t6 : a1.tmps.getD 6 undef = .pointer (some ⟨b6, 0, none⟩) := hfr.at_ rfl (by kernel_rfl)
    have hBW := HC.out.1.h6
    have c0 : W.cell? ⟨b6, 0, none⟩ = some (.slice (some ⟨gq, 0, none⟩) n cq) := hBW.cell 0
    have c1 : W.cell? ⟨b6, 1, none⟩ = some (.slice A' m ck) := hBW.cell 1
    clear hBW
    unfold Oper.wp
    go_simp
    exact ⟨_, rfl, rfl, KDb.but (But.refl g W) hn2 hgl2, HC.out⟩
   ·have t8 : a1.tmps.getD 8 undef = .pointer (some ⟨b8, 0, none⟩) := hfr.at_ rfl (by kernel_rfl)
    have hBW := HC.out.1.h8
    have c0 : W.cell? ⟨b8, 0, none⟩ = some (.slice B4 n4 c4) := hBW.cell 0
    have c1 : W.cell? ⟨b8, 1, none⟩ = some (.slice A4 m4 c5) := hBW.cell 1
    clear hBW
    unfold Oper.wp
    go_simp
    exact ⟨_, rfl, rfl, KDb.but (But.refl g W) hn2 hgl2, HC.out⟩
   ·have t5 : a1.tmps.getD 5 undef = .pointer (some ⟨g, 0, none⟩) := hfr.at_ rfl (by kernel_rfl)
    unfold Oper.wp
    go_simp
    exact ⟨_, rfl, rfl, KDb.but (But.refl g W) hn2 hgl2, HC.out⟩
   ·have t7 : a1.tmps.getD 7 undef = .pointer (some ⟨b7, 0, none⟩) := hfr.at_ rfl (by kernel_rfl)
    unfold Oper.wp
    go_simp
    exact ⟨_, rfl, rfl, KDb.but (But.refl g W) hn2 hgl2, HC.out⟩
   ·have t33 : a1.tmps.getD 33 undef = .pointer (some ⟨b7, 0, none⟩) := hdep ⟨3, .data⟩ (by simp) rfl _ rfl
    have t33q := tq t33
    have hBW := HC.out.1.h7
    have c0 : W.cell? ⟨b7, 0, none⟩ = some (.int .i64 y) := hBW.cell 0
    clear hBW
    unfold Oper.wp
    go_simp
    exact ⟨_, rfl, rfl, KDb.but (But.refl g W) hn2 hgl2, HC.out⟩
   ·have t7 : a1.tmps.getD 7 undef = .pointer (some ⟨b7, 0, none⟩) := hfr.at_ rfl (by kernel_rfl)
    unfold Oper.wp
    go_simp
    exact ⟨_, rfl, rfl, KDb.but (But.refl g W) hn2 hgl2, HC.out⟩
   ·have t35 : a1.tmps.getD 35 undef = .pointer (some ⟨b7, 0, none⟩) := hdep ⟨5, .data⟩ (by simp) rfl _ rfl
    have t35q := tq t35
    have hBW := HC.out.1.h7
    have c0 : W.cell? ⟨b7, 0, none⟩ = some (.int .i64 y) := hBW.cell 0
    clear hBW
    unfold Oper.wp
    go_simp
    exact ⟨_, rfl, rfl, KDb.but (But.refl g W) hn2 hgl2, HC.out⟩
   ·have t36 : a1.tmps.getD 36 undef = .int .i64 y := hdep ⟨6, .data⟩ (by simp) rfl _ rfl
    have t36q := tq t36
    unfold Oper.wp
    go_simp
    exact ⟨_, rfl, rfl, KDb.but (But.refl g W) hn2 hgl2, HC.out⟩
   ·have t7 : a1.tmps.getD 7 undef = .pointer (some ⟨b7, 0, none⟩) := hfr.at_ rfl (by kernel_rfl)
    unfold Oper.wp
    go_simp
    exact ⟨_, rfl, rfl, KDb.but (But.refl g W) hn2 hgl2, HC.out⟩
   ·have t38 : a1.tmps.getD 38 undef = .pointer (some ⟨b7, 0, none⟩) := hdep ⟨8, .data⟩ (by simp) rfl _ rfl
    have t38q := tq t38
    have hBW := HC.out.1.h7
    have c0 : W.cell? ⟨b7, 0, none⟩ = some (.int .i64 y) := hBW.cell 0
    clear hBW
    unfold Oper.wp
    go_simp
    exact ⟨_, rfl, rfl, KDb.but (But.refl g W) hn2 hgl2, HC.out⟩
   ·have t39 : a1.tmps.getD 39 undef = .int .i64 y := hdep ⟨9, .data⟩ (by simp) rfl _ rfl
    have t39q := tq t39
    unfold Oper.wp
    go_simp
    exact ⟨_, rfl, rfl, KDb.but (But.refl g W) hn2 hgl2, HC.out⟩
   ·have t7 : a1.tmps.getD 7 undef = .pointer (some ⟨b7, 0, none⟩) := hfr.at_ rfl (by kernel_rfl)
    unfold Oper.wp
    go_simp
    exact ⟨_, rfl, rfl, KDb.but (But.refl g W) hn2 hgl2, HC.out⟩
   ·have t41 : a1.tmps.getD 41 undef = .pointer (some ⟨b7, 0, none⟩) := hdep ⟨11, .data⟩ (by simp) rfl _ rfl
    have t41q := tq t41
    have hBW := HC.out.1.h7
    have c0 : W.cell? ⟨b7, 0, none⟩ = some (.int .i64 y) := hBW.cell 0
    clear hBW
    unfold Oper.wp
    go_simp
    exact ⟨_, rfl, rfl, KDb.but (But.refl g W) hn2 hgl2, HC.out⟩
   ·have t34 : a1.tmps.getD 34 undef = .int .i64 y := hdep ⟨4, .data⟩ (by simp) rfl _ rfl
    have t34q := tq t34
    have t37 : a1.tmps.getD 37 undef = .int .i64 (y + 1) := hdep ⟨7, .data⟩ (by simp) rfl _ rfl
    have t37q := tq t37
    have t40 : a1.tmps.getD 40 undef = .int .i64 (y + 100) := hdep ⟨10, .data⟩ (by simp) rfl _ rfl
    have t40q := tq t40
    have t42 : a1.tmps.getD 42 undef = .int .i64 y := hdep ⟨12, .data⟩ (by simp) rfl _ rfl
    have t42q := tq t42
    have hsw := HC.out.1.h8.lt
    unfold Oper.wp
    go_simp
    exact ⟨_, rfl, ⟨W.heap.size, rfl, by have := HC.out.2.2.2; omega, blk_is (bN (by omega)) (by rfl)⟩, KDb.but (But.of ((Ext.refl W).alloc _)) hn2 hgl2, HC.out.1.ext ((Ext.refl W).alloc _), HC.out.2.1.ext ((Ext.refl W).alloc _), HC.out.2.2.1.but (But.of ((Ext.refl W).alloc _) : But g W _) hgl, by have := HC.out.2.2.2; simp; omega⟩
   ·have t32 : a1.tmps.getD 32 undef = .pointer (some ⟨g, 0, none⟩) := hdep ⟨2, .data⟩ (by simp) rfl _ rfl
    have t32q := tq t32
    obtain ⟨b13, t43, hb13, hB13⟩ : RgD6 _ _ _ _ _ _ _ 13 (a1.tmps.getD 43 undef) W := hdep ⟨13, .data⟩ (by simp) rfl _ rfl
    have t43q := tq t43
    have HB13 := hI hB13
    clear hB13
    unfold Oper.wp
    go_simp
    refine (s_l01Pick (a := w) (A := A) (c := c) (bs := bs) b13 0 4 [y, y + 1, y + 100, y] _ HC.out.1.src (Blk.sl (t := 2) HB13.out (by rfl) (fun _ => rfl)) (by simp) (by simp) HB13.out.lt (by omega)).mono ?_
    rintro e W2 ⟨z, rfl, _, hS2, hu2⟩
    have hls := hu2.size
    have hlw := HC.out.2.2.2
    exact ⟨_, rfl, ⟨z, rfl⟩, KDb.but hu2 hn2 hgl2, HC.out.1.call hS2 hu2, HC.out.2.1.but hu2 hgl, HC.out.2.2.1.but hu2 hgl, by omega⟩
   ·have t2 : a1.tmps.getD 2 undef = .pointer (some ⟨w.heap.size, 0, none⟩) := hfr.at_ rfl (by kernel_rfl)
    have t30 : a1.tmps.getD 30 undef = .agg #[.slice (some ⟨gq, 0, none⟩) n cq, .slice A' m ck] := hdep ⟨0, .data⟩ (by simp) rfl _ rfl
    have t30q := tq t30
    have HPW := hI HC.out.1.z2
    obtain ⟨z1, z2, z3, z4, z5, z6, hB3⟩ := HC.out.1.z2
    have f30 := hB3.frozen 0
    have f31 := hB3.frozen 1
    have d30 : W.cell? ⟨w.heap.size, 0, none⟩ = some (.slice z1 z2 z3) := hB3.cell 0
    have d31 : W.cell? ⟨w.heap.size, 1, none⟩ = some (.slice z4 z5 z6) := hB3.cell 1
    have hl3 := hB3.lt
    unfold Oper.wp
    go_simp
    have hu2 : But w.heap.size W ((W.setCell ⟨w.heap.size, 0, none⟩ (.slice (some ⟨gq, 0, none⟩) n cq)).setCell ⟨w.heap.size, 1, none⟩ (.slice A' m ck)) := ((But.refl _ W).set_ 0 _).set_ 1 _
    exact ⟨blk_put hB3 _ _, KDb.put1 HPW.out (by omega), HC.out.1.put HPW.out (Nat.le_refl _) (by omega), HC.out.2.1.putW (by omega) _ _, HC.out.2.2.1.but hu2 (by omega), by have := hu2.size; have := HC.out.2.2.2; omega⟩
   ·have t3 : a1.tmps.getD 3 undef = .pointer (some ⟨w.heap.size + 1, 0, none⟩) := hfr.at_ rfl (by kernel_rfl)
    have t31 : a1.tmps.getD 31 undef = .agg #[.slice B4 n4 c4, .slice A4 m4 c5] := hdep ⟨1, .data⟩ (by simp) rfl _ rfl
    have t31q := tq t31
    have HPW := hI HC.out.1.z3
    obtain ⟨z1, z2, z3, z4, z5, z6, hB3⟩ := HC.out.1.z3
    have f30 := hB3.frozen 0
    have f31 := hB3.frozen 1
    have d30 : W.cell? ⟨w.heap.size + 1, 0, none⟩ = some (.slice z1 z2 z3) := hB3.cell 0
    have d31 : W.cell? ⟨w.heap.size + 1, 1, none⟩ = some (.slice z4 z5 z6) := hB3.cell 1
    have hl3 := hB3.lt
    unfold Oper.wp
    go_simp
    have hu2 : But (w.heap.size + 1) W ((W.setCell ⟨w.heap.size + 1, 0, none⟩ (.slice B4 n4 c4)).setCell ⟨w.heap.size + 1, 1, none⟩ (.slice A4 m4 c5)) := ((But.refl _ W).set_ 0 _).set_ 1 _
    exact ⟨blk_put hB3 _ _, KDb.put2 HPW.out (by omega), HC.out.1.put HPW.out (by omega) (by omega), HC.out.2.1.putW (by omega) _ _, HC.out.2.2.1.but hu2 (by omega), by have := hu2.size; have := HC.out.2.2.2; omega⟩
   ·obtain ⟨z, t44⟩ : RgD6 _ _ _ _ _ _ _ 14 (a1.tmps.getD 44 undef) W := hdep ⟨14, .data⟩ (by simp) rfl _ rfl
    have t44q := tq t44
    unfold Oper.wp
    go_simp
    exact ⟨_, rfl, ⟨z, rfl⟩, KDb.but (But.refl g W) hn2 hgl2, HC.out⟩
  case hend =>
   intro a1 W hfr hR hC
   obtain ⟨z, t4⟩ : RgD6 _ _ _ _ _ _ _ 17 (a1.tmps.getD 4 undef) W := hR 17 _ (by omega) rfl
   have hB1 : RgD6 _ _ _ _ _ _ _ 15 _ W := hR 15 _ (by omega) rfl
   have hB2 : RgD6 _ _ _ _ _ _ _ 16 _ W := hR 16 _ (by omega) rfl
   have HB1 := hI hB1
   have HB2 := hI hB2
   clear hB1 hB2
   obtain ⟨ps4, L4, hW4, _⟩ := hC.2.2.1
   have HW4 := hI hW4
   clear hW4
   have t4q := tq t4
   have HC := hI hC
   clear hC
   refine wpAny_end (by kernel_rfl) ?_
   have hsh := hfr.shape [false, false, false, false, true, false, false, false, false, false, false, false, false, false, false, false, false, false, false, false, false, false, false, false, false, false, false, false, false, false, true, true, true, true, true, true, true, true, true, true, true, true, true, true, true, false, false, false, false, false] (by rfl) (by kernel_rfl)
   simp only [mixL] at hsh
   rw [hsh]
   go_wp2
   exact ret_pts2 (b0 := w.heap.size) (b1 := w.heap.size + 1) (t := 27) (v := .tuple #[.agg #[.slice (some ⟨gq, 0, none⟩) n cq, .slice A' m ck], .agg #[.slice B4 n4 c4, .slice A4 m4 c5], .int .i64 z]) HB1.out HB2.out rfl (by intro W' r0 r1 r2 r3; simp [results, Tryz.results11, go_sem, r0, r1, r2, r3, t4q]) ⟨gq, n, cq, A', m, ck, ps, L, B4, n4, c4, A4, m4, c5, ps4, L4, z, rfl, HC.out.2.1.less (by omega), HW4.out, HC.out.1.src.ext⟩
 | false =>
  go_upto_region 7 with (fail)
  refine wp_region_rgb (m := 8) (C := fun W => DBs w A c bs g lo b6 b7 b8 #[.slice (some ⟨gq, 0, none⟩) n cq, .slice A' m ck] #[.int .i64 y, .int .i64 k, .string (tx co), .string (tx ot), .string (tx la), .string (tx te)] #[.slice B4 n4 c4, .slice A4 m4 c5] W ∧ WDr W lo gq n cq A' m ck ps L ∧ RwN lo W B4 n4 c4 A4 m4 c5 ∧ lo2 ≤ W.heap.size) (K := KDc w.heap.size lo2 #[.slice (some ⟨gq, 0, none⟩) n cq, .slice A' m ck]) (R := RgD7 w.heap.size lo2 #[.slice (some ⟨gq, 0, none⟩) n cq, .slice A' m ck] (.pointer (some ⟨g, 0, none⟩))) Tryz.f11.ntmps (by kernel_rfl) (by kernel_rfl) (by simp) (by rw [Tryz.ntmps11]; simp) (fun i v w w' => RgD7.stay i v w w') ?hC ?hstep ?hend
  case hC => exact ⟨HD.out.ext (Ext.refl _).drew, HWD.out.ext (Ext.refl _).drew, HRW.out.but (But.of (Ext.refl _).drew : But g _ _) hgl, by first | omega | (simp; omega)⟩
  case hstep =>
   simp only [List.take_succ_cons, List.take_zero]
   refine AllFrom.cons ?_ <| AllFrom.cons ?_ <| AllFrom.cons ?_ <| AllFrom.cons ?_ <| AllFrom.cons ?_ <| AllFrom.cons ?_ <| AllFrom.cons ?_ <| AllFrom.cons ?_ AllFrom.nil
   all_goals (intro a1 W hfr hdep hC; have HC := hI hC; clear hC)
   ·have t6 : a1.tmps.getD 6 undef = .pointer (some ⟨b6, 0, none⟩) := hfr.at_ rfl (by kernel_rfl)
    have hBW := HC.out.1.h6
    have c0 : W.cell? ⟨b6, 0, none⟩ = some (.slice (some ⟨gq, 0, none⟩) n cq) := hBW.cell 0
    have c1 : W.cell? ⟨b6, 1, none⟩ = some (.slice A' m ck) := hBW.cell 1
    clear hBW
    unfold Oper.wp
    go_simp
    exact ⟨_, rfl, rfl, KDc.but (But.refl g W) hn2 hgl2, HC.out⟩
   ·have t5 : a1.tmps.getD 5 undef = .pointer (some ⟨g, 0, none⟩) := hfr.at_ rfl (by kernel_rfl)
    unfold Oper.wp
    go_simp
    exact ⟨_, rfl, rfl, KDc.but (But.refl g W) hn2 hgl2, HC.out⟩
   ·have t46 : a1.tmps.getD 46 undef = .pointer (some ⟨g, 0, none⟩) := hdep ⟨1, .data⟩ (by simp) rfl _ rfl
    have t46q := tq t46
    have hlw := HC.out.2.2.2
    unfold Oper.wp
    go_simp
    refine (s_l13Draw (a := w) (A := A) (c := c) (bs := bs) _ HC.out.1.src).mono ?_
    rintro e W2 ⟨gq2, n2, cq2, A2, m2, ck2, ps2, L2, rfl, hW2, hS2, hu2⟩
    have hls := hu2.size
    exact ⟨_, rfl, ⟨gq2, n2, cq2, A2, m2, ck2, ps2, L2, rfl, hW2.less hlw⟩, KDc.but hu2 hn2 hgl2, HC.out.1.call hS2 hu2, HC.out.2.1.but hu2 hgl, HC.out.2.2.1.but hu2 hgl, by omega⟩
   ·have t5 : a1.tmps.getD 5 undef = .pointer (some ⟨g, 0, none⟩) := hfr.at_ rfl (by kernel_rfl)
    unfold Oper.wp
    go_simp
    exact ⟨_, rfl, rfl, KDc.but (But.refl g W) hn2 hgl2, HC.out⟩
   ·have t48 : a1.tmps.getD 48 undef = .pointer (some ⟨g, 0, none⟩) := hdep ⟨3, .data⟩ (by simp) rfl _ rfl
    have t48q := tq t48
    have hlw := HC.out.2.2.2
    unfold Oper.wp
    go_simp
    refine (s_l11YearOf (a := w) (A := A) (c := c) (bs := bs) _ HC.out.1.src).mono ?_
    rintro e W2 ⟨z, rfl, _, hS2, hu2⟩
    have hls := hu2.size
    exact ⟨_, rfl, ⟨z, rfl⟩, KDc.but hu2 hn2 hgl2, HC.out.1.call hS2 hu2, HC.out.2.1.but hu2 hgl, HC.out.2.2.1.but hu2 hgl, by omega⟩
   ·have t2 : a1.tmps.getD 2 undef = .pointer (some ⟨w.heap.size, 0, none⟩) := hfr.at_ rfl (by kernel_rfl)
    have t45 : a1.tmps.getD 45 undef = .agg #[.slice (some ⟨gq, 0, none⟩) n cq, .slice A' m ck] := hdep ⟨0, .data⟩ (by simp) rfl _ rfl
    have t45q := tq t45
    have HPW := hI HC.out.1.z2
    obtain ⟨z1, z2, z3, z4, z5, z6, hB3⟩ := HC.out.1.z2
    have f30 := hB3.frozen 0
    have f31 := hB3.frozen 1
    have d30 : W.cell? ⟨w.heap.size, 0, none⟩ = some (.slice z1 z2 z3) := hB3.cell 0
    have d31 : W.cell? ⟨w.heap.size, 1, none⟩ = some (.slice z4 z5 z6) := hB3.cell 1
    have hl3 := hB3.lt
    unfold Oper.wp
    go_simp
    have hu2 : But w.heap.size W ((W.setCell ⟨w.heap.size, 0, none⟩ (.slice (some ⟨gq, 0, none⟩) n cq)).setCell ⟨w.heap.size, 1, none⟩ (.slice A' m ck)) := ((But.refl _ W).set_ 0 _).set_ 1 _
    have hls := hu2.size
    exact ⟨blk_put hB3 _ _, KDc.put1 HPW.out (by omega), HC.out.1.put HPW.out (Nat.le_refl _) (by omega), HC.out.2.1.putW (by omega) _ _, HC.out.2.2.1.but hu2 (by omega), by have := HC.out.2.2.2; omega⟩
   ·have t3 : a1.tmps.getD 3 undef = .pointer (some ⟨w.heap.size + 1, 0, none⟩) := hfr.at_ rfl (by kernel_rfl)
    have hv2 : WdV lo2 W (a1.tmps.getD 47 undef) := hdep ⟨2, .data⟩ (by simp) rfl _ rfl
    obtain ⟨gq2, n2, cq2, A2, m2, ck2, ps2, L2, t47, hWD2⟩ := hv2
    have t47q := tq t47
    have HWD2 := hI hWD2
    clear hWD2
    have HPW := hI HC.out.1.z3
    obtain ⟨z1, z2, z3, z4, z5, z6, hB3⟩ := HC.out.1.z3
    have f30 := hB3.frozen 0
    have f31 := hB3.frozen 1
    have d30 : W.cell? ⟨w.heap.size + 1, 0, none⟩ = some (.slice z1 z2 z3) := hB3.cell 0
    have d31 : W.cell? ⟨w.heap.size + 1, 1, none⟩ = some (.slice z4 z5 z6) := hB3.cell 1
    have hl3 := hB3.lt
    unfold Oper.wp
    go_simp
    have hu2 : But (w.heap.size + 1) W ((W.setCell ⟨w.heap.size + 1, 0, none⟩ (.slice (some ⟨gq2, 0, none⟩) n2 cq2)).setCell ⟨w.heap.size + 1, 1, none⟩ (.slice A2 m2 ck2)) := ((But.refl _ W).set_ 0 _).set_ 1 _
    have hls := hu2.size
    exact ⟨WdB.put HPW.out (by omega) HWD2.out, KDc.put2 HPW.out (by omega) HWD2.out, HC.out.1.put HPW.out (by omega) (by omega), HC.out.2.1.putW (by omega) _ _, HC.out.2.2.1.but hu2 (by omega), by have := HC.out.2.2.2; omega⟩
   ·obtain ⟨z, t49⟩ : RgD7 _ _ _ _ 4 (a1.tmps.getD 49 undef) W := hdep ⟨4, .data⟩ (by simp) rfl _ rfl
    have t49q := tq t49
    unfold Oper.wp
    go_simp
    exact ⟨_, rfl, ⟨z, rfl⟩, KDc.but (But.refl g W) hn2 hgl2, HC.out⟩
  case hend =>
   intro a1 W hfr hR hC
   obtain ⟨z, t4⟩ : RgD7 _ _ _ _ 7 (a1.tmps.getD 4 undef) W := hR 7 _ (by omega) rfl
   have hB1 : RgD7 _ _ _ _ 5 _ W := hR 5 _ (by omega) rfl
   have HB1 := hI hB1
   have hB2 : RgD7 _ _ _ _ 6 _ W := hR 6 _ (by omega) rfl
   obtain ⟨gq2, n2, cq2, A2, m2, ck2, ps2, L2, hB2, hWD2⟩ := hB2
   have HB2 := hI hB2
   have HWD2 := hI hWD2
   clear hB1 hB2 hWD2
   have t4q := tq t4
   have HC := hI hC
   clear hC
   refine wpAny_end (by kernel_rfl) ?_
   have hsh := hfr.shape [false, false, false, false, true, false, false, false, false, false, false, false, false, false, false, false, false, false, false, false, false, false, false, false, false, false, false, false, false, false, false, false, false, false, false, false, false, false, false, false, false, false, false, false, false, true, true, true, true, true] (by rfl) (by kernel_rfl)
   simp only [mixL] at hsh
   rw [hsh]
   go_wp2
   exact ret_pts2 (b0 := w.heap.size) (b1 := w.heap.size + 1) (t := 27) (v := .tuple #[.agg #[.slice (some ⟨gq, 0, none⟩) n cq, .slice A' m ck], .agg #[.slice (some ⟨gq2, 0, none⟩) n2 cq2, .slice A2 m2 ck2], .int .i64 z]) HB1.out HB2.out rfl (by intro W' r0 r1 r2 r3; simp [results, Tryz.results11, go_sem, r0, r1, r2, r3, t4q]) ⟨gq, n, cq, A', m, ck, ps, L, _, n2, cq2, A2, m2, ck2, ps2, L2, z, rfl, HC.out.2.1.less (by omega), HWD2.out.win, HC.out.1.src.ext⟩
end Go.Proofs.YtlnliajnipniaaaGreatDoor
