/- Changes that are drawn. -/
import Derived.Test.YtlnliajnipniaaaGreatDoorD5
namespace Go.Proofs.YtlnliajnipniaaaGreatDoor
open Go.RowKit
attribute [local go_sem] ExtOf.cell ExtOf.frozen
def chlT : List (List UInt8) := [[101, 110], [101, 110], [100, 101], [108, 97, 116]]
theorem chl_ok : ∀ j, j < 4 → (chlT.getD j []).length ≤ 3 := by decide
def chlV : Array Value := #[.string (tx [101, 110]), .string (tx [101, 110]), .string (tx [100, 101]), .string (tx [108, 97, 116])]
theorem chl_cell : ∀ j, j < 4 → chlV[j]? = some (.string (tx (chlT.getD j []))) := by
 intro j hj
 rcases (show j = 0 ∨ j = 1 ∨ j = 2 ∨ j = 3 by omega) with rfl | rfl | rfl | rfl <;> rfl
def Rg15 (B g gq n cap : Nat) (AL : Option Addr) (nl cL : Nat) (p : Value) : Nat → Value → World → Prop
 | 0, v, _ => v = p
 | 1, v, _ => ∃ j : Nat, v = .int .i64 j ∧ j < 900
 | 2, v, _ => ∃ y : Int, v = .int .i64 y ∧ 1100 ≤ y ∧ y ≤ 1999
 | 3, v, _ => v = p
 | 4, v, _ => ∃ j : Nat, v = .int .i64 j ∧ j < 4
 | 5, v, _ => v = p
 | 6, v, _ => v = .agg #[.slice (some ⟨gq, 0, none⟩) n cap, .slice AL nl cL]
 | 7, v, _ => ∃ t : List UInt8, v = .string (tx t) ∧ t.length ≤ 17
 | 8, v, _ => ∃ (y : Int) (k : Nat) (t : List UInt8), v = .agg #[.int .i64 y, .int .i64 k, .string (tx t), .string ⟨#[]⟩, .string ⟨#[]⟩, .string ⟨#[]⟩] ∧ (1100 ≤ y ∧ y ≤ 1999) ∧ k < 4 ∧ t.length ≤ 17
 | 9, v, w => ∃ b : Nat, v = .pointer (some ⟨b, 0, none⟩) ∧ B ≤ b ∧ b ≠ g ∧ Blk w b 68 #[.int .i64 0, .int .i64 0, .string ⟨#[]⟩, .string ⟨#[]⟩, .string ⟨#[]⟩, .string ⟨#[]⟩]
 | _, _, _ => True
theorem Rg15.stay {B g gq n cap : Nat} {AL : Option Addr} {nl cL : Nat} {p : Value} (i : Nat) (v : Value) (w w' : World) (hu : But g w w') (h : Rg15 B g gq n cap AL nl cL p i v w) : Rg15 B g gq n cap AL nl cL p i v w' := by
 rcases i with _ | _ | _ | _ | _ | _ | _ | _ | _ | _ | i
 all_goals first | exact h | (obtain ⟨b, e, h1, h2, h3⟩ := h; exact ⟨b, e, h1, h2, h3.but' hu h2⟩)
def ChOk (y k : Int) (co ot la te : List UInt8) : Prop := (-3001 ≤ y ∧ y ≤ 3001) ∧ (-1 ≤ k ∧ k ≤ 4) ∧ co.length ≤ 17 ∧ ot.length ≤ 17 ∧ la.length ≤ 3 ∧ te.length ≤ 60
theorem ret_ch {P : Program} {fn : Func} {R : Ending → World → Prop} {a : Act} {W : World} {b0 : Nat} {t : TypeId} {x0 x1 x2 x3 x4 x5 v : Value} (h0 : Blk W b0 t #[x0, x1, x2, x3, x4, x5]) (hd : a.defers = [])
  (hres : ∀ W' : World, W'.cell? ⟨b0, 0, none⟩ = some x0 → W'.cell? ⟨b0, 1, none⟩ = some x1 → W'.cell? ⟨b0, 2, none⟩ = some x2 → W'.cell? ⟨b0, 3, none⟩ = some x3 → W'.cell? ⟨b0, 4, none⟩ = some x4 → W'.cell? ⟨b0, 5, none⟩ = some x5 → (results fn a.tmps).run P W' = .ok v W') (hR : R (.returned v) W) : bodyPost P fn R .ret a W :=
 bodyPost_ret (hres W (h0.cell 0) (h0.cell 1) (h0.cell 2) (h0.cell 3) (h0.cell 4) (h0.cell 5)) hd hR
set_option maxRecDepth 20000 in
set_option maxHeartbeats 12800000 in
theorem s_l13Change {a : World} {A : Option Addr} {c : Nat} {bs : List Int} {g : Nat} (gq n cap : Nat) (AL : Option Addr) (nl cL : Nat) (ps : List Pl) (w : World) (h : Src a A c bs g w) (hs : SlAt w 5 encQ (some ⟨gq, 0, none⟩) ps) (hn : n = ps.length) (h10 : n ≤ 20) (hle : ∀ p ∈ ps, p.1.length ≤ 17) (hgq : ¬ gq = g) :
  Calls Tryz.prog 34 #[.pointer (some ⟨g, 0, none⟩), .agg #[.slice (some ⟨gq, 0, none⟩) n cap, .slice AL nl cL]] w fun e w' => ∃ (y k : Int) (co ot la te : List UInt8), e = .returned (.agg #[.int .i64 y, .int .i64 k, .string (tx co), .string (tx ot), .string (tx la), .string (tx te)]) ∧ ChOk y k co ot la te ∧ Src a A c bs g w' ∧ But g w w' := by
 have hlt := h.lt
 have how := h.own
 have hasz := h.ext.size
 have nb : ¬ w.heap.size = g := by omega
 have nb1 : ¬ w.heap.size + 1 = g := by omega
 have HS := hI h
 have HN := hI hn
 have HLE := hI hle
 clear hn hle
 go_enter Tryz.func34, Tryz.ntmps34
 go_upto_region 1 with (fail)
 have HB6 : Hid (Blk ((w.alloc (.cells #[.slice (some ⟨gq, 0, none⟩) n cap, .slice AL nl cL] 27)).alloc (.cells #[.int .i64 0, .int .i64 0, .string ⟨#[]⟩, .string ⟨#[]⟩, .string ⟨#[]⟩, .string ⟨#[]⟩] 68)) w.heap.size 27 #[.slice (some ⟨gq, 0, none⟩) n cap, .slice AL nl cL]) := hI (bA (bN (by omega)))
 have HB7 : Hid (Blk ((w.alloc (.cells #[.slice (some ⟨gq, 0, none⟩) n cap, .slice AL nl cL] 27)).alloc (.cells #[.int .i64 0, .int .i64 0, .string ⟨#[]⟩, .string ⟨#[]⟩, .string ⟨#[]⟩, .string ⟨#[]⟩] 68)) (w.heap.size + 1) 68 #[.int .i64 0, .int .i64 0, .string ⟨#[]⟩, .string ⟨#[]⟩, .string ⟨#[]⟩, .string ⟨#[]⟩]) := hI (Blk.eq (bN (by first|omega|simp)) (by rfl))
 have HX0 : Hid (Ext w ((w.alloc (.cells #[.slice (some ⟨gq, 0, none⟩) n cap, .slice AL nl cL] 27)).alloc (.cells #[.int .i64 0, .int .i64 0, .string ⟨#[]⟩, .string ⟨#[]⟩, .string ⟨#[]⟩, .string ⟨#[]⟩] 68))) := hI (xA (xA xR))
 generalize ((w.alloc (.cells #[.slice (some ⟨gq, 0, none⟩) n cap, .slice AL nl cL] 27)).alloc (.cells #[.int .i64 0, .int .i64 0, .string ⟨#[]⟩, .string ⟨#[]⟩, .string ⟨#[]⟩, .string ⟨#[]⟩] 68)) = w0 at *
 have HSL : Hid (SlAt w0 5 encQ (some ⟨gq, 0, none⟩) ps) := hI (hs.ext HX0.out)
 have HS0 := hI (h.on HX0.out)
 have hs0 := HB7.out.lt
 have hsx := HX0.out.size
 have HSLw := hI hs
 clear h hs HS
 go_cut [5] (fun p wx => ∃ (b5 : Nat) (y : Int) (k : Nat) (co : List UInt8), p = .pointer (some ⟨b5, 0, none⟩) ∧ (1100 ≤ y ∧ y ≤ 1999) ∧ k < 4 ∧ co.length ≤ 17 ∧ w.heap.size + 1 < b5 ∧ b5 ≠ g ∧ Hid (Blk wx b5 68 #[.int .i64 y, .int .i64 k, .string (tx co), .string (tx []), .string (tx []), .string (tx [])]) ∧ Hid (Blk wx w.heap.size 27 #[.slice (some ⟨gq, 0, none⟩) n cap, .slice AL nl cL]) ∧ Hid (Blk wx (w.heap.size + 1) 68 #[.int .i64 0, .int .i64 0, .string ⟨#[]⟩, .string ⟨#[]⟩, .string ⟨#[]⟩, .string ⟨#[]⟩]) ∧ Hid (Src a A c bs g wx) ∧ Hid (But g w wx))
 case first =>
  refine wp_region_rgb (m := 10) (C := fun W => Src a A c bs g W ∧ But g w0 W ∧ w.heap.size < W.heap.size) (K := But g) (R := Rg15 w0.heap.size g gq n cap AL nl cL (.pointer (some ⟨g, 0, none⟩))) Tryz.f34.ntmps (by kernel_rfl) (by kernel_rfl) (by simp) (by rw [Tryz.ntmps34]; simp) (fun i v w w' => Rg15.stay i v w w') ?hC ?hstep ?hend
  case hC =>
   exact ⟨HS0.out.drew, (But.refl g w0).drew, by first | omega | (simp; omega)⟩
  case hstep =>
   simp only [List.take_succ_cons, List.take_zero]
   refine AllFrom.cons ?_ <| AllFrom.cons ?_ <| AllFrom.cons ?_ <| AllFrom.cons ?_ <| AllFrom.cons ?_ <| AllFrom.cons ?_ <| AllFrom.cons ?_ <| AllFrom.cons ?_ <| AllFrom.cons ?_ <| AllFrom.cons ?_ AllFrom.nil
   all_goals (intro a1 W hfr hdep hC; have HC := hI hC; clear hC)
   ·have t0 : a1.tmps.getD 0 undef = .pointer (some ⟨g, 0, none⟩) := hfr.at_ rfl (by kernel_rfl)
    unfold Oper.wp
    go_simp
    exact ⟨_, rfl, rfl, But.refl g W, HC.out⟩
   ·have t6 : a1.tmps.getD 6 undef = .pointer (some ⟨g, 0, none⟩) := hdep ⟨0, .data⟩ (by simp) rfl _ rfl
    unfold Oper.wp
    go_simp
    refine (s_l01Next (a := a) (A := A) (c := c) (bs := bs) _ _ HC.out.1 (by omega)).mono ?_
    rintro e W2 ⟨x, rfl, hx, hS2, hu2⟩
    obtain ⟨j, rfl⟩ := Int.eq_ofNat_of_zero_le hx.1
    have hs2 := hu2.size
    have hWs := HC.out.2.2
    exact ⟨_, rfl, ⟨j, rfl, by omega⟩, hu2, hS2, HC.out.2.1.trans hu2, by omega⟩
   ·obtain ⟨j, t7, hj⟩ : Rg15 w0.heap.size g gq n cap AL nl cL _ 1 (a1.tmps.getD 7 undef) W := hdep ⟨1, .data⟩ (by simp) rfl _ rfl
    have t7q := tq t7
    have hw : IntKind.i64.wrap (1100 + (j : Int)) = 1100 + j := IntWalk.i64_in _ (by omega)
    unfold Oper.wp
    go_simp
    exact ⟨_, rfl, ⟨_, rfl, by omega, by omega⟩, But.refl g W, HC.out⟩
   ·have t0 : a1.tmps.getD 0 undef = .pointer (some ⟨g, 0, none⟩) := hfr.at_ rfl (by kernel_rfl)
    unfold Oper.wp
    go_simp
    exact ⟨_, rfl, rfl, But.refl g W, HC.out⟩
   ·have t9 : a1.tmps.getD 9 undef = .pointer (some ⟨g, 0, none⟩) := hdep ⟨3, .data⟩ (by simp) rfl _ rfl
    unfold Oper.wp
    go_simp
    refine (s_l01Next (a := a) (A := A) (c := c) (bs := bs) _ _ HC.out.1 (by omega)).mono ?_
    rintro e W2 ⟨x, rfl, hx, hS2, hu2⟩
    obtain ⟨j, rfl⟩ := Int.eq_ofNat_of_zero_le hx.1
    have hs2 := hu2.size
    have hWs := HC.out.2.2
    exact ⟨_, rfl, ⟨j, rfl, by omega⟩, hu2, hS2, HC.out.2.1.trans hu2, by omega⟩
   ·have t0 : a1.tmps.getD 0 undef = .pointer (some ⟨g, 0, none⟩) := hfr.at_ rfl (by kernel_rfl)
    unfold Oper.wp
    go_simp
    exact ⟨_, rfl, rfl, But.refl g W, HC.out⟩
   ·have t3 : a1.tmps.getD 3 undef = .pointer (some ⟨w.heap.size, 0, none⟩) := hfr.at_ rfl (by kernel_rfl)
    have hBW : Blk W w.heap.size 27 #[.slice (some ⟨gq, 0, none⟩) n cap, .slice AL nl cL] := Blk.but' HC.out.2.1 nb HB6.out
    have c0 : W.cell? ⟨w.heap.size, 0, none⟩ = some (.slice (some ⟨gq, 0, none⟩) n cap) := hBW.cell 0
    have c1 : W.cell? ⟨w.heap.size, 1, none⟩ = some (.slice AL nl cL) := hBW.cell 1
    unfold Oper.wp
    go_simp
    exact ⟨_, rfl, rfl, But.refl g W, HC.out⟩
   ·have t11 : a1.tmps.getD 11 undef = .pointer (some ⟨g, 0, none⟩) := hdep ⟨5, .data⟩ (by simp) rfl _ rfl
    obtain t12 : Rg15 w0.heap.size g gq n cap AL nl cL _ 6 (a1.tmps.getD 12 undef) W := hdep ⟨6, .data⟩ (by simp) rfl _ rfl
    have t12q := tq t12
    unfold Oper.wp
    go_simp
    refine (s_l13Pick (a := a) (A := A) (c := c) (bs := bs) gq n cap AL nl cL ps _ HC.out.1 (HSL.out.butN HC.out.2.1 hgq) HN.out h10 HLE.out hgq).mono ?_
    rintro e W2 ⟨t, rfl, ht, hS2, hu2⟩
    have hs2 := hu2.size
    have hWs := HC.out.2.2
    exact ⟨_, rfl, ⟨t, rfl, ht⟩, hu2, hS2, HC.out.2.1.trans hu2, by omega⟩
   ·obtain ⟨y, t8, hy⟩ : Rg15 w0.heap.size g gq n cap AL nl cL _ 2 (a1.tmps.getD 8 undef) W := hdep ⟨2, .data⟩ (by simp) rfl _ rfl
    have t8q := tq t8
    obtain ⟨k, t10, hk⟩ : Rg15 w0.heap.size g gq n cap AL nl cL _ 4 (a1.tmps.getD 10 undef) W := hdep ⟨4, .data⟩ (by simp) rfl _ rfl
    have t10q := tq t10
    obtain ⟨t, t13, ht⟩ : Rg15 w0.heap.size g gq n cap AL nl cL _ 7 (a1.tmps.getD 13 undef) W := hdep ⟨7, .data⟩ (by simp) rfl _ rfl
    have t13q := tq t13
    unfold Oper.wp
    go_simp
    exact ⟨_, rfl, ⟨y, k, t, rfl, hy, hk, ht⟩, But.refl g W, HC.out⟩
   ·unfold Oper.wp
    go_simp
    have hWs := HC.out.2.2
    exact ⟨_, rfl, ⟨_, rfl, by have hUW := HC.out.2.1.size; omega, by omega, blk_is (bN (by omega)) (by rfl)⟩, uA uR, HC.out.1.alloc _, HC.out.2.1.alloc _, by omega⟩
  case hend =>
   intro a1 W hfr hR hC
   obtain ⟨y, k, t, t14, hy, hk, ht⟩ : Rg15 w0.heap.size g gq n cap AL nl cL _ 8 (a1.tmps.getD 14 undef) W := hR 8 _ (by omega) rfl
   obtain ⟨b5, t5, h1, h2, h3⟩ : Rg15 w0.heap.size g gq n cap AL nl cL _ 9 (a1.tmps.getD 5 undef) W := hR 9 _ (by omega) rfl
   have t14q := tq t14
   have t5q := tq t5
   have HC := hI hC
   have H3 := hI h3
   have HB1 := hI (HB6.out.but' hC.2.1 nb)
   have HB2 := hI (HB7.out.but' hC.2.1 nb1)
   have z0 := h3.frozen 0
   have z1 := h3.frozen 1
   have z2 := h3.frozen 2
   have z3 := h3.frozen 3
   have z4 := h3.frozen 4
   have z5 := h3.frozen 5
   have y0 : W.cell? ⟨b5, 0, none⟩ = some (.int .i64 0) := h3.cell 0
   have y1 : W.cell? ⟨b5, 1, none⟩ = some (.int .i64 0) := h3.cell 1
   have y2 : W.cell? ⟨b5, 2, none⟩ = some (.string ⟨#[]⟩) := h3.cell 2
   have y3 : W.cell? ⟨b5, 3, none⟩ = some (.string ⟨#[]⟩) := h3.cell 3
   have y4 : W.cell? ⟨b5, 4, none⟩ = some (.string ⟨#[]⟩) := h3.cell 4
   have y5 : W.cell? ⟨b5, 5, none⟩ = some (.string ⟨#[]⟩) := h3.cell 5
   have hll := h3.lt
   have ngb : ¬ g = b5 := fun e => h2 e.symm
   have nwb : ¬ w.heap.size = b5 := by omega
   have nwb1 : ¬ w.heap.size + 1 = b5 := by omega
   have hUW := hC.2.1.size
   clear hC h3
   refine wpAny_one (i := 10) (by kernel_rfl) (wpOp_of rfl rfl ?_)
   unfold Oper.wp
   go_simp
   refine wpAny_end (by kernel_rfl) ?_
   have h3 := H3.out
   have hB1 := HB1.out
   have hB2 := HB2.out
   have HS1 := HC.out.1
   have HU1 : But g w W := But.trans (But.of HX0.out) HC.out.2.1
   have hsh := hfr.shape [false, false, false, false, false, true, true, true, true, true, true, true, true, true, true, false, false, false, false, false, false, false, false, false, false, false, false, false, false, false, false, false, false, false, false, false, false, false, false, false, false, false, false, false, false, false, false, false, false, false, false, false, false, false, false, false, false, false, false] (by rfl) (by kernel_rfl)
   simp only [mixL] at hsh
   rw [hsh]
   go_wp2_with fail
   go_meet
   exact ⟨b5, y, k, t, by first | exact t5 | (simp [t5q]; done), hy, hk, ht, by omega, h2, hI (Blk.eq (bS (bS (bS (bS (bS (bS h3)))))) (by rfl)), hI (bF nwb (bF nwb (bF nwb (bF nwb (bF nwb (bF nwb hB1)))))), hI (bF nwb1 (bF nwb1 (bF nwb1 (bF nwb1 (bF nwb1 (bF nwb1 hB2)))))), hI (sF ngb (by omega) (sF ngb (by omega) (sF ngb (by omega) (sF ngb (by omega) (sF ngb (by omega) (sF ngb (by omega) HS1)))))), hI (uW (by omega) (uW (by omega) (uW (by omega) (uW (by omega) (uW (by omega) (uW (by omega) HU1))))))⟩
 case rest =>
 obtain ⟨b5, y, k, co, rfl, hy, hk, hco, hb5, nb5, G5, GW, GZ, GS, GU⟩ := hcut
 obtain ⟨w1, rfl⟩ : ∃ z, z = wc := ⟨wc, rfl⟩
 have nd5 : ¬ g = b5 := fun e => nb5 e.symm
 have n5w : ¬ b5 = w.heap.size := by omega
 have nw5 : ¬ w.heap.size = b5 := by omega
 have n51 : ¬ b5 = w.heap.size + 1 := by omega
 have n15 : ¬ w.heap.size + 1 = b5 := by omega
 clear HSL HS0 hs0 hsx HB6 HB7 HX0
 go_upto_region 2 with (fail)
 go_cut [22] (fun v wx => ∃ q : Bool, v = .bool q ∧ Hid (Ext w1 wx))
 case first =>
  have h5 := G5.out
  have y1 : w1.cell? ⟨b5, 1, none⟩ = some (.int .i64 k) := h5.cell 1
  have hl5 := h5.lt
  clear h5
  cases e2 : ((k : Int) == 2) with
  | true =>
   go_wp2
   go_meet
   exact ⟨_, rfl, hI xR⟩
  | false =>
   go_wp2
   go_meet
   exact ⟨_, rfl, hI xR⟩
 case rest =>
 obtain ⟨q, rfl, HX2⟩ := hcut
 obtain ⟨w2, rfl⟩ : ∃ z, z = wc := ⟨wc, rfl⟩
 have G6 := hI (G5.out.ext HX2.out)
 have GW6 := hI (GW.out.ext HX2.out)
 have GZ6 := hI (GZ.out.ext HX2.out)
 have GS6 := hI (GS.out.on HX2.out)
 have GU6 := hI (GU.out.trans (But.of HX2.out))
 have hs2 := GU6.out.size
 clear G5 GW GZ GS GU HX2
 go_upto_if 22 with (fail)
 go_cut [] (fun wx => ∃ (ot : List UInt8), ot.length ≤ 17 ∧ Hid (Blk wx b5 68 #[.int .i64 y, .int .i64 k, .string (tx co), .string (tx ot), .string (tx []), .string (tx [])]) ∧ Hid (Blk wx w.heap.size 27 #[.slice (some ⟨gq, 0, none⟩) n cap, .slice AL nl cL]) ∧ Hid (Blk wx (w.heap.size + 1) 68 #[.int .i64 0, .int .i64 0, .string ⟨#[]⟩, .string ⟨#[]⟩, .string ⟨#[]⟩, .string ⟨#[]⟩]) ∧ Hid (Src a A c bs g wx) ∧ Hid (But g w wx))
 case first =>
  cases q with
  | false =>
   go_wp2
   go_meet
   exact ⟨[], by simp, G6, GW6, GZ6, GS6, GU6⟩
  | true =>
   have hw6 := GW6.out
   have c0 : w2.cell? ⟨w.heap.size, 0, none⟩ = some (.slice (some ⟨gq, 0, none⟩) n cap) := hw6.cell 0
   have c1 : w2.cell? ⟨w.heap.size, 1, none⟩ = some (.slice AL nl cL) := hw6.cell 1
   have hl6 := hw6.lt
   clear hw6
   go_wp2_with fail
   refine (s_l13Pick (a := a) (A := A) (c := c) (bs := bs) gq n cap AL nl cL ps _ GS6.out (HSLw.out.butN GU6.out hgq) HN.out h10 HLE.out hgq).mono ?_
   rintro e w3 ⟨t, rfl, ht, hS3, hu3⟩
   have h5 := G6.out.but' hu3 nb5
   have H5 := hI h5
   have HW3 := hI (GW6.out.but' hu3 nb)
   have HZ3 := hI (GZ6.out.but' hu3 nb1)
   have HU3 := hI (GU6.out.trans hu3)
   have HS3 := hI hS3
   have z3 := h5.frozen 3
   have y3 : w3.cell? ⟨b5, 3, none⟩ = some (.string (tx [])) := h5.cell 3
   have hl5 := h5.lt
   clear hS3 hu3 h5 G6 GW6 GZ6 GS6 GU6
   go_wp2_with fail
   go_meet
   have h5 := H5.out
   have hw3 := HW3.out
   have hz3 := HZ3.out
   have hu3 := HU3.out
   have HS1 := HS3.out
   exact ⟨t, ht, hI (Blk.eq (bS h5) (by rfl)), hI (bF nw5 hw3), hI (bF n15 hz3), hI (sF nd5 (by omega) HS1), hI (uW (by omega) hu3)⟩
 case rest =>
 obtain ⟨ot, hot, G5, GW, GZ, GS, GU⟩ := hcut
 obtain ⟨w3, rfl⟩ : ∃ z, z = wc := ⟨wc, rfl⟩
 have hs3 := GU.out.size
 clear G6 GW6 GZ6 GS6 GU6 hs2
 go_upto_region 4 with (fail)
 go_cut [29] (fun v wx => ∃ q : Bool, v = .bool q ∧ Hid (Ext w3 wx))
 case first =>
  have h5 := G5.out
  have y1 : w3.cell? ⟨b5, 1, none⟩ = some (.int .i64 k) := h5.cell 1
  have hl5 := h5.lt
  clear h5
  go_wp2
  go_meet
  exact ⟨_, rfl, hI xR⟩
 case rest =>
 obtain ⟨q4, rfl, HX4⟩ := hcut
 obtain ⟨w4, rfl⟩ : ∃ z, z = wc := ⟨wc, rfl⟩
 have G6 := hI (G5.out.ext HX4.out)
 have GW6 := hI (GW.out.ext HX4.out)
 have GZ6 := hI (GZ.out.ext HX4.out)
 have GS6 := hI (GS.out.on HX4.out)
 have GU6 := hI (GU.out.trans (But.of HX4.out))
 have hs4 := GU6.out.size
 clear G5 GW GZ GS GU HX4
 go_upto_if 29 with (fail)
 go_cut [] (fun wx => ∃ (la te : List UInt8), la.length ≤ 3 ∧ te.length ≤ 60 ∧ Hid (Blk wx b5 68 #[.int .i64 y, .int .i64 k, .string (tx co), .string (tx ot), .string (tx la), .string (tx te)]) ∧ Hid (Blk wx w.heap.size 27 #[.slice (some ⟨gq, 0, none⟩) n cap, .slice AL nl cL]) ∧ Hid (Blk wx (w.heap.size + 1) 68 #[.int .i64 0, .int .i64 0, .string ⟨#[]⟩, .string ⟨#[]⟩, .string ⟨#[]⟩, .string ⟨#[]⟩]) ∧ Hid (Src a A c bs g wx) ∧ Hid (But g w wx))
 case first =>
  cases q4 with
  | false =>
   go_wp2
   go_meet
   exact ⟨[], [], by simp, by simp, G6, GW6, GZ6, GS6, GU6⟩
  | true =>
   go_upto_region 5 with (fail)
   go_cut [] (fun wx => ∃ (la : List UInt8), la.length ≤ 3 ∧ Hid (Blk wx b5 68 #[.int .i64 y, .int .i64 k, .string (tx co), .string (tx ot), .string (tx la), .string (tx [])]) ∧ Hid (Blk wx w.heap.size 27 #[.slice (some ⟨gq, 0, none⟩) n cap, .slice AL nl cL]) ∧ Hid (Blk wx (w.heap.size + 1) 68 #[.int .i64 0, .int .i64 0, .string ⟨#[]⟩, .string ⟨#[]⟩, .string ⟨#[]⟩, .string ⟨#[]⟩]) ∧ Hid (Src a A c bs g wx) ∧ Hid (But g w wx))
   case first =>
    have n4g : ¬ w4.heap.size = g := by omega
    have n45 : ¬ w4.heap.size = b5 := by have := G6.out.lt; omega
    (go_wp2_with fail; refine (s_l01Next (a := a) (A := A) (c := c) (bs := bs) _ _ (GS6.out.alloc _) (by omega)).mono ?_; rintro e w9 ⟨x9, rfl, hb9, hS9, hu9⟩; obtain ⟨hc9, hf9, hs9⟩ := hu9.all; (try simp at hs9); have := (show w4.heap.size < w9.heap.size from by omega))
    obtain ⟨j, rfl⟩ := Int.eq_ofNat_of_zero_le hb9.1
    have hj : j < 4 := by omega
    have hP : Blk w9 w4.heap.size 9 chlV := blk_is (bU hu9 n4g (bN (by omega))) (by rfl)
    have hcell : w9.cell? ⟨w4.heap.size, j, none⟩ = some (.string (tx (chlT.getD j []))) := (hP.cell j).trans (chl_cell j hj)
    have hlen := chl_ok j hj
    generalize chlT.getD j [] = t9 at *
    have hu9' : But g w4 w9 := (But.alloc (But.refl g w4) _).trans hu9
    have h5 := G6.out.but' hu9' nb5
    have H5 := hI h5
    have HW3 := hI (GW6.out.but' hu9' nb)
    have HZ3 := hI (GZ6.out.but' hu9' nb1)
    have HU3 := hI (GU6.out.trans hu9')
    have HS3 := hI hS9
    have z4 := h5.frozen 4
    have y4 : w9.cell? ⟨b5, 4, none⟩ = some (.string (tx [])) := h5.cell 4
    have hl5 := h5.lt
    clear h5 hP hu9 hu9' hc9 hf9 hb9 hS9 G6 GW6 GZ6 GS6 GU6
    go_wp2_with fail
    go_meet
    have h5 := H5.out
    have hw3 := HW3.out
    have hz3 := HZ3.out
    have hu3 := HU3.out
    have HS1 := HS3.out
    exact ⟨t9, hlen, hI (Blk.eq (bS h5) (by rfl)), hI (bF nw5 hw3), hI (bF n15 hz3), hI (sF nd5 (by omega) HS1), hI (uW (by omega) hu3)⟩
   case rest =>
   obtain ⟨la, hla, G7, GW7, GZ7, GS7, GU7⟩ := hcut
   obtain ⟨w5, rfl⟩ : ∃ z, z = wc := ⟨wc, rfl⟩
   clear G6 GW6 GZ6 GS6 GU6
   go_wp2_with fail
   refine (s_l01GoodPhrase (a := a) (A := A) (c := c) (bs := bs) _ GS7.out).mono ?_
   rintro e w6 ⟨te, rfl, hte, hS6, hu6⟩
   have h5 := G7.out.but' hu6 nb5
   have H5 := hI h5
   have HW3 := hI (GW7.out.but' hu6 nb)
   have HZ3 := hI (GZ7.out.but' hu6 nb1)
   have HU3 := hI (GU7.out.trans hu6)
   have HS3 := hI hS6
   have z5 := h5.frozen 5
   have y5 : w6.cell? ⟨b5, 5, none⟩ = some (.string (tx [])) := h5.cell 5
   have hl5 := h5.lt
   have htl : te.length ≤ 60 := by omega
   clear hS6 hu6 h5 G7 GW7 GZ7 GS7 GU7 hte
   go_wp2_with fail
   go_meet
   have h5 := H5.out
   have hw3 := HW3.out
   have hz3 := HZ3.out
   have hu3 := HU3.out
   have HS1 := HS3.out
   exact ⟨la, te, hla, htl, hI (Blk.eq (bS h5) (by rfl)), hI (bF nw5 hw3), hI (bF n15 hz3), hI (sF nd5 (by omega) HS1), hI (uW (by omega) hu3)⟩
 case rest =>
 obtain ⟨la, te, hla, hte, G5, GW, GZ, GS, GU⟩ := hcut
 obtain ⟨w3, rfl⟩ : ∃ z, z = wc := ⟨wc, rfl⟩
 go_wp2_with fail
 refine (s_l01Next (a := a) (A := A) (c := c) (bs := bs) _ _ GS.out (by omega)).mono ?_
 rintro e w5 ⟨x5, rfl, hx5, hS5, hu5⟩
 have G6 := hI (G5.out.but' hu5 nb5)
 have GZ6 := hI (GZ.out.but' hu5 nb1)
 have GU6 := hI (GU.out.trans hu5)
 have GS6 := hI hS5
 have hs5 := GU6.out.size
 clear hS5 hu5 G5 GW GZ GS GU hx5
 cases e0 : (x5 == 0) with
 | true =>
  have n5g : ¬ w5.heap.size = g := by omega
  go_wp2_with fail
  refine (s_l01Pick (a := a) (A := A) (c := c) (bs := bs) w5.heap.size 0 4 [-3000, -2999, 3000, 3001] _ (GS6.out.alloc _) (Blk.sl (t := 2) (bN (by omega)) (by rfl) (fun _ => rfl)) (by simp) (by simp) (by simp) n5g).mono ?_
  rintro e w6 ⟨x6, rfl, hx6, hS6, hu6'⟩
  have hx7 : -3001 ≤ x6 ∧ x6 ≤ 3001 := by simp at hx6; omega
  have hu6 : But g w5 w6 := (But.alloc (But.refl g w5) _).trans hu6'
  clear hx6 hu6'
  have H5 := hI (G6.out.but' hu6 nb5)
  have HZ3 := hI (GZ6.out.but' hu6 nb1)
  have HU3 := hI (GU6.out.trans hu6)
  have HS3 := hI hS6
  have hsu := hu6.size
  clear hS6 hu6
  have h5 := H5.out
  have hz3 := HZ3.out
  have y0 : w6.cell? ⟨b5, 0, none⟩ = some (.int .i64 y) := h5.cell 0
  have y1 : w6.cell? ⟨b5, 1, none⟩ = some (.int .i64 k) := h5.cell 1
  have y2 : w6.cell? ⟨b5, 2, none⟩ = some (.string (tx co)) := h5.cell 2
  have y3 : w6.cell? ⟨b5, 3, none⟩ = some (.string (tx ot)) := h5.cell 3
  have y4 : w6.cell? ⟨b5, 4, none⟩ = some (.string (tx la)) := h5.cell 4
  have y5 : w6.cell? ⟨b5, 5, none⟩ = some (.string (tx te)) := h5.cell 5
  have z0 := h5.frozen 0
  have z1 := h5.frozen 1
  have z2 := h5.frozen 2
  have z3 := h5.frozen 3
  have z4 := h5.frozen 4
  have z5 := h5.frozen 5
  have v0 : w6.cell? ⟨w.heap.size + 1, 0, none⟩ = some (.int .i64 0) := hz3.cell 0
  have v1 : w6.cell? ⟨w.heap.size + 1, 1, none⟩ = some (.int .i64 0) := hz3.cell 1
  have v2 : w6.cell? ⟨w.heap.size + 1, 2, none⟩ = some (.string ⟨#[]⟩) := hz3.cell 2
  have v3 : w6.cell? ⟨w.heap.size + 1, 3, none⟩ = some (.string ⟨#[]⟩) := hz3.cell 3
  have v4 : w6.cell? ⟨w.heap.size + 1, 4, none⟩ = some (.string ⟨#[]⟩) := hz3.cell 4
  have v5 : w6.cell? ⟨w.heap.size + 1, 5, none⟩ = some (.string ⟨#[]⟩) := hz3.cell 5
  have x0 := hz3.frozen 0
  have x1 := hz3.frozen 1
  have x2 := hz3.frozen 2
  have x3 := hz3.frozen 3
  have x4 := hz3.frozen 4
  have x5 := hz3.frozen 5
  have hl5 := h5.lt
  have hlz := hz3.lt
  clear h5 hz3
  go_wp2
  have h5 := H5.out
  have hz3 := HZ3.out
  have hu3 := HU3.out
  have HS1 := HS3.out
  refine ret_ch (b0 := w.heap.size + 1) (t := 68) (v := .agg #[.int .i64 x6, .int .i64 k, .string (tx co), .string (tx ot), .string (tx la), .string (tx te)]) (Blk.eq (bS (bS (bS (bS (bS (bS (bF n15 hz3))))))) (by rfl)) rfl (by intro W' r0 r1 r2 r3 r4 r5; simp [results, Tryz.results34, go_sem, r0, r1, r2, r3, r4, r5]) ⟨x6, k, co, ot, la, te, rfl, ⟨by omega, by omega, hco, hot, hla, hte⟩, sF (by first|omega|simp) (by first|omega|simp) (sF (by first|omega|simp) (by first|omega|simp) (sF (by first|omega|simp) (by first|omega|simp) (sF (by first|omega|simp) (by first|omega|simp) (sF (by first|omega|simp) (by first|omega|simp) (sF (by first|omega|simp) (by first|omega|simp) (sF nd5 (by omega) HS1)))))), uW (by omega) (uW (by omega) (uW (by omega) (uW (by omega) (uW (by omega) (uW (by omega) (uW (by omega) hu3))))))⟩
 | false =>
  cases e1 : (x5 == 1) with
  | true =>
   go_wp2_with fail
   refine (s_l01Next (a := a) (A := A) (c := c) (bs := bs) _ _ GS6.out (by omega)).mono ?_
   rintro e w6 ⟨x6, rfl, hx6, hS6, hu6⟩
   have hw6 : IntKind.i64.wrap (x6 - 1) = x6 - 1 := IntWalk.i64_in _ (by omega)
   have H5 := hI (G6.out.but' hu6 nb5)
   have HZ3 := hI (GZ6.out.but' hu6 nb1)
   have HU3 := hI (GU6.out.trans hu6)
   have HS3 := hI hS6
   have hsu := hu6.size
   clear hS6 hu6
   have h5 := H5.out
   have hz3 := HZ3.out
   have y0 : w6.cell? ⟨b5, 0, none⟩ = some (.int .i64 y) := h5.cell 0
   have y1 : w6.cell? ⟨b5, 1, none⟩ = some (.int .i64 k) := h5.cell 1
   have y2 : w6.cell? ⟨b5, 2, none⟩ = some (.string (tx co)) := h5.cell 2
   have y3 : w6.cell? ⟨b5, 3, none⟩ = some (.string (tx ot)) := h5.cell 3
   have y4 : w6.cell? ⟨b5, 4, none⟩ = some (.string (tx la)) := h5.cell 4
   have y5 : w6.cell? ⟨b5, 5, none⟩ = some (.string (tx te)) := h5.cell 5
   have z0 := h5.frozen 0
   have z1 := h5.frozen 1
   have z2 := h5.frozen 2
   have z3 := h5.frozen 3
   have z4 := h5.frozen 4
   have z5 := h5.frozen 5
   have v0 : w6.cell? ⟨w.heap.size + 1, 0, none⟩ = some (.int .i64 0) := hz3.cell 0
   have v1 : w6.cell? ⟨w.heap.size + 1, 1, none⟩ = some (.int .i64 0) := hz3.cell 1
   have v2 : w6.cell? ⟨w.heap.size + 1, 2, none⟩ = some (.string ⟨#[]⟩) := hz3.cell 2
   have v3 : w6.cell? ⟨w.heap.size + 1, 3, none⟩ = some (.string ⟨#[]⟩) := hz3.cell 3
   have v4 : w6.cell? ⟨w.heap.size + 1, 4, none⟩ = some (.string ⟨#[]⟩) := hz3.cell 4
   have v5 : w6.cell? ⟨w.heap.size + 1, 5, none⟩ = some (.string ⟨#[]⟩) := hz3.cell 5
   have x0 := hz3.frozen 0
   have x1 := hz3.frozen 1
   have x2 := hz3.frozen 2
   have x3 := hz3.frozen 3
   have x4 := hz3.frozen 4
   have x5 := hz3.frozen 5
   have hl5 := h5.lt
   have hlz := hz3.lt
   clear h5 hz3
   go_wp2
   have h5 := H5.out
   have hz3 := HZ3.out
   have hu3 := HU3.out
   have HS1 := HS3.out
   refine ret_ch (b0 := w.heap.size + 1) (t := 68) (v := .agg #[.int .i64 y, .int .i64 (x6 - 1), .string (tx co), .string (tx ot), .string (tx la), .string (tx te)]) (Blk.eq (bS (bS (bS (bS (bS (bS (bF n15 hz3))))))) (by rfl)) rfl (by intro W' r0 r1 r2 r3 r4 r5; simp [results, Tryz.results34, go_sem, r0, r1, r2, r3, r4, r5]) ⟨y, (x6 - 1), co, ot, la, te, rfl, ⟨by omega, by omega, hco, hot, hla, hte⟩, sF (by first|omega|simp) (by first|omega|simp) (sF (by first|omega|simp) (by first|omega|simp) (sF (by first|omega|simp) (by first|omega|simp) (sF (by first|omega|simp) (by first|omega|simp) (sF (by first|omega|simp) (by first|omega|simp) (sF (by first|omega|simp) (by first|omega|simp) (sF nd5 (by omega) HS1)))))), uW (by omega) (uW (by omega) (uW (by omega) (uW (by omega) (uW (by omega) (uW (by omega) (uW (by omega) hu3))))))⟩
  | false =>
   cases e2 : (x5 == 2) with
   | true =>
    go_wp2_with fail
    refine (s_l01DrawPhrase (a := a) (A := A) (c := c) (bs := bs) _ GS6.out).mono ?_
    rintro e w6 ⟨t6, rfl, ht6, hS6, hu6⟩
    have H5 := hI (G6.out.but' hu6 nb5)
    have HZ3 := hI (GZ6.out.but' hu6 nb1)
    have HU3 := hI (GU6.out.trans hu6)
    have HS3 := hI hS6
    have hsu := hu6.size
    clear hS6 hu6
    have h5 := H5.out
    have hz3 := HZ3.out
    have y0 : w6.cell? ⟨b5, 0, none⟩ = some (.int .i64 y) := h5.cell 0
    have y1 : w6.cell? ⟨b5, 1, none⟩ = some (.int .i64 k) := h5.cell 1
    have y2 : w6.cell? ⟨b5, 2, none⟩ = some (.string (tx co)) := h5.cell 2
    have y3 : w6.cell? ⟨b5, 3, none⟩ = some (.string (tx ot)) := h5.cell 3
    have y4 : w6.cell? ⟨b5, 4, none⟩ = some (.string (tx la)) := h5.cell 4
    have y5 : w6.cell? ⟨b5, 5, none⟩ = some (.string (tx te)) := h5.cell 5
    have z0 := h5.frozen 0
    have z1 := h5.frozen 1
    have z2 := h5.frozen 2
    have z3 := h5.frozen 3
    have z4 := h5.frozen 4
    have z5 := h5.frozen 5
    have v0 : w6.cell? ⟨w.heap.size + 1, 0, none⟩ = some (.int .i64 0) := hz3.cell 0
    have v1 : w6.cell? ⟨w.heap.size + 1, 1, none⟩ = some (.int .i64 0) := hz3.cell 1
    have v2 : w6.cell? ⟨w.heap.size + 1, 2, none⟩ = some (.string ⟨#[]⟩) := hz3.cell 2
    have v3 : w6.cell? ⟨w.heap.size + 1, 3, none⟩ = some (.string ⟨#[]⟩) := hz3.cell 3
    have v4 : w6.cell? ⟨w.heap.size + 1, 4, none⟩ = some (.string ⟨#[]⟩) := hz3.cell 4
    have v5 : w6.cell? ⟨w.heap.size + 1, 5, none⟩ = some (.string ⟨#[]⟩) := hz3.cell 5
    have x0 := hz3.frozen 0
    have x1 := hz3.frozen 1
    have x2 := hz3.frozen 2
    have x3 := hz3.frozen 3
    have x4 := hz3.frozen 4
    have x5 := hz3.frozen 5
    have hl5 := h5.lt
    have hlz := hz3.lt
    clear h5 hz3
    go_wp2
    have h5 := H5.out
    have hz3 := HZ3.out
    have hu3 := HU3.out
    have HS1 := HS3.out
    refine ret_ch (b0 := w.heap.size + 1) (t := 68) (v := .agg #[.int .i64 y, .int .i64 k, .string (tx co), .string (tx ot), .string (tx la), .string (tx t6)]) (Blk.eq (bS (bS (bS (bS (bS (bS (bF n15 hz3))))))) (by rfl)) rfl (by intro W' r0 r1 r2 r3 r4 r5; simp [results, Tryz.results34, go_sem, r0, r1, r2, r3, r4, r5]) ⟨y, k, co, ot, la, t6, rfl, ⟨by omega, by omega, hco, hot, hla, by omega⟩, sF (by first|omega|simp) (by first|omega|simp) (sF (by first|omega|simp) (by first|omega|simp) (sF (by first|omega|simp) (by first|omega|simp) (sF (by first|omega|simp) (by first|omega|simp) (sF (by first|omega|simp) (by first|omega|simp) (sF (by first|omega|simp) (by first|omega|simp) (sF nd5 (by omega) HS1)))))), uW (by omega) (uW (by omega) (uW (by omega) (uW (by omega) (uW (by omega) (uW (by omega) (uW (by omega) hu3))))))⟩
   | false =>
    have H5 := G6
    have HZ3 := GZ6
    have HU3 := GU6
    have HS3 := GS6
    have h5 := H5.out
    have hz3 := HZ3.out
    have y0 : w5.cell? ⟨b5, 0, none⟩ = some (.int .i64 y) := h5.cell 0
    have y1 : w5.cell? ⟨b5, 1, none⟩ = some (.int .i64 k) := h5.cell 1
    have y2 : w5.cell? ⟨b5, 2, none⟩ = some (.string (tx co)) := h5.cell 2
    have y3 : w5.cell? ⟨b5, 3, none⟩ = some (.string (tx ot)) := h5.cell 3
    have y4 : w5.cell? ⟨b5, 4, none⟩ = some (.string (tx la)) := h5.cell 4
    have y5 : w5.cell? ⟨b5, 5, none⟩ = some (.string (tx te)) := h5.cell 5
    have z0 := h5.frozen 0
    have z1 := h5.frozen 1
    have z2 := h5.frozen 2
    have z3 := h5.frozen 3
    have z4 := h5.frozen 4
    have z5 := h5.frozen 5
    have v0 : w5.cell? ⟨w.heap.size + 1, 0, none⟩ = some (.int .i64 0) := hz3.cell 0
    have v1 : w5.cell? ⟨w.heap.size + 1, 1, none⟩ = some (.int .i64 0) := hz3.cell 1
    have v2 : w5.cell? ⟨w.heap.size + 1, 2, none⟩ = some (.string ⟨#[]⟩) := hz3.cell 2
    have v3 : w5.cell? ⟨w.heap.size + 1, 3, none⟩ = some (.string ⟨#[]⟩) := hz3.cell 3
    have v4 : w5.cell? ⟨w.heap.size + 1, 4, none⟩ = some (.string ⟨#[]⟩) := hz3.cell 4
    have v5 : w5.cell? ⟨w.heap.size + 1, 5, none⟩ = some (.string ⟨#[]⟩) := hz3.cell 5
    have x0 := hz3.frozen 0
    have x1 := hz3.frozen 1
    have x2 := hz3.frozen 2
    have x3 := hz3.frozen 3
    have x4 := hz3.frozen 4
    have x5 := hz3.frozen 5
    have hl5 := h5.lt
    have hlz := hz3.lt
    clear h5 hz3
    go_wp2
    have h5 := H5.out
    have hz3 := HZ3.out
    have hu3 := HU3.out
    have HS1 := HS3.out
    refine ret_ch (b0 := w.heap.size + 1) (t := 68) (v := .agg #[.int .i64 y, .int .i64 k, .string (tx co), .string (tx ot), .string (tx la), .string (tx te)]) (Blk.eq (bS (bS (bS (bS (bS (bS hz3)))))) (by rfl)) rfl (by intro W' r0 r1 r2 r3 r4 r5; simp [results, Tryz.results34, go_sem, r0, r1, r2, r3, r4, r5]) ⟨y, k, co, ot, la, te, rfl, ⟨by omega, by omega, hco, hot, hla, hte⟩, sF (by first|omega|simp) (by first|omega|simp) (sF (by first|omega|simp) (by first|omega|simp) (sF (by first|omega|simp) (by first|omega|simp) (sF (by first|omega|simp) (by first|omega|simp) (sF (by first|omega|simp) (by first|omega|simp) (sF (by first|omega|simp) (by first|omega|simp) HS1))))), uW (by omega) (uW (by omega) (uW (by omega) (uW (by omega) (uW (by omega) (uW (by omega) hu3)))))⟩
end Go.Proofs.YtlnliajnipniaaaGreatDoor
