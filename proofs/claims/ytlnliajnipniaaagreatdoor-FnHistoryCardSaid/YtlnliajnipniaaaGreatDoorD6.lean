/- Names that are drawn. Places that are drawn. -/
import Derived.Test.YtlnliajnipniaaaGreatDoorW9
import Derived.Test.YtlnliajnipniaaaGreatDoorGV
namespace Go.Proofs.YtlnliajnipniaaaGreatDoor
open Go.RowKit
attribute [local go_sem] ExtOf.cell ExtOf.frozen
theorem Blk.ty {w : World} {g : Nat} {t t' : TypeId} {cs cs' : Array Value} (h : Blk w g t cs) (h' : Blk w g t' cs') : t = t' := by
 have e : some (Obj.cells cs t (0, 0)) = some (Obj.cells cs' t' (0, 0)) := Eq.trans (Eq.symm h) h'
 injection e with e
 injection e
def langT : List (List UInt8) := [[101, 110], [100, 101], [102, 114], [108, 97, 116]]
theorem lang_ok : ∀ j, j < 4 → (langT.getD j []).length ≤ 3 := by decide
def langV : Array Value := #[.string (tx [101, 110]), .string (tx [100, 101]), .string (tx [102, 114]), .string (tx [108, 97, 116])]
theorem lang_cell : ∀ j, j < 4 → langV[j]? = some (.string (tx (langT.getD j []))) := by
 intro j hj
 rcases (show j = 0 ∨ j = 1 ∨ j = 2 ∨ j = 3 by omega) with rfl | rfl | rfl | rfl <;> rfl
def badT : List (List UInt8) := [[101], [101, 110, 103, 108], [69, 78], [97, 98, 99]]
theorem bad_ok : ∀ j, j < 4 → (badT.getD j []).length ≤ 4 := by decide
def badV : Array Value := #[.string (tx [101]), .string (tx [101, 110, 103, 108]), .string (tx [69, 78]), .string (tx [97, 98, 99])]
theorem bad_cell : ∀ j, j < 4 → badV[j]? = some (.string (tx (badT.getD j []))) := by
 intro j hj
 rcases (show j = 0 ∨ j = 1 ∨ j = 2 ∨ j = 3 by omega) with rfl | rfl | rfl | rfl <;> rfl
def NmOk (x : Nm) : Prop := x.1.length ≤ 40 ∧ x.2.1.length ≤ 4 ∧ (-1 ≤ x.2.2.1 ∧ x.2.2.1 ≤ 3) ∧ (-3001 ≤ x.2.2.2.1 ∧ x.2.2.2.1 ≤ 3001) ∧ (-3001 ≤ x.2.2.2.2 ∧ x.2.2.2.2 ≤ 3001)
theorem ret_nm {P : Program} {fn : Func} {R : Ending → World → Prop} {a : Act} {W : World} {b0 : Nat} {t : TypeId} {x0 x1 x2 x3 x4 v : Value} (h0 : Blk W b0 t #[x0, x1, x2, x3, x4]) (hd : a.defers = [])
  (hres : ∀ W' : World, W'.cell? ⟨b0, 0, none⟩ = some x0 → W'.cell? ⟨b0, 1, none⟩ = some x1 → W'.cell? ⟨b0, 2, none⟩ = some x2 → W'.cell? ⟨b0, 3, none⟩ = some x3 → W'.cell? ⟨b0, 4, none⟩ = some x4 → (results fn a.tmps).run P W' = .ok v W') (hR : R (.returned v) W) : bodyPost P fn R .ret a W :=
 bodyPost_ret (hres W (h0.cell 0) (h0.cell 1) (h0.cell 2) (h0.cell 3) (h0.cell 4)) hd hR
def Rg9 (B g : Nat) (p : Value) : Nat → Value → World → Prop
 | 0, v, _ => v = p
 | 1, v, _ => ∃ t : List UInt8, v = .string (tx t) ∧ t.length ≤ 39
 | 2, v, w => ∃ b : Nat, v = .slice (some ⟨b, 0, none⟩) 4 4 ∧ B ≤ b ∧ b ≠ g ∧ Blk w b 9 langV
 | 3, v, _ => v = p
 | 4, v, _ => ∃ j : Nat, v = .int .i64 j ∧ j < 4
 | 5, v, w => ∃ b j : Nat, v = .pointer (some ⟨b, j, none⟩) ∧ j < 4 ∧ B ≤ b ∧ b ≠ g ∧ Blk w b 9 langV
 | 6, v, _ => ∃ j : Nat, v = .string (tx (langT.getD j [])) ∧ j < 4
 | 7, v, _ => v = p
 | 8, v, w => ∃ b : Nat, v = .slice (some ⟨b, 0, none⟩) 4 4 ∧ B ≤ b ∧ b ≠ g ∧ Blk w b 2 #[.int .i64 0, .int .i64 0, .int .i64 1, .int .i64 2]
 | 9, v, _ => ∃ x : Int, v = .int .i64 x ∧ 0 ≤ x ∧ x ≤ 2
 | 10, v, _ => v = p
 | 11, v, _ => ∃ x y : Int, v = .agg #[.int .i64 x, .int .i64 y] ∧ 1000 ≤ x ∧ x ≤ y ∧ y ≤ 3000
 | 12, v, _ => ∃ x : Nm, v = .agg #[.string (tx x.1), .string (tx x.2.1), .int .i64 x.2.2.1, .int .i64 x.2.2.2.1, .int .i64 x.2.2.2.2] ∧ NmOk x
 | 13, v, w => ∃ b : Nat, v = .pointer (some ⟨b, 0, none⟩) ∧ B ≤ b ∧ b ≠ g ∧ Blk w b 117 #[.string ⟨#[]⟩, .string ⟨#[]⟩, .int .i64 0, .int .i64 0, .int .i64 0]
 | _, _, _ => True
theorem Rg9.stay {B g : Nat} {p : Value} (i : Nat) (v : Value) (w w' : World) (hu : But g w w') (h : Rg9 B g p i v w) : Rg9 B g p i v w' := by
 rcases i with _ | _ | _ | _ | _ | _ | _ | _ | _ | _ | _ | _ | _ | _ | i
 ·exact h
 ·exact h
 ·obtain ⟨b, e, h1, h2, h3⟩ := h; exact ⟨b, e, h1, h2, h3.but' hu h2⟩
 ·exact h
 ·exact h
 ·obtain ⟨b, j, e, h0, h1, h2, h3⟩ := h; exact ⟨b, j, e, h0, h1, h2, h3.but' hu h2⟩
 ·exact h
 ·exact h
 ·obtain ⟨b, e, h1, h2, h3⟩ := h; exact ⟨b, e, h1, h2, h3.but' hu h2⟩
 ·exact h
 ·exact h
 ·exact h
 ·exact h
 ·obtain ⟨b, e, h1, h2, h3⟩ := h; exact ⟨b, e, h1, h2, h3.but' hu h2⟩
 ·trivial
set_option maxRecDepth 20000 in
set_option maxHeartbeats 12800000 in
theorem s_l09Draw {a : World} {A : Option Addr} {c : Nat} {bs : List Int} {g : Nat} (w : World) (h : Src a A c bs g w) :
  Calls Tryz.prog 151 #[.pointer (some ⟨g, 0, none⟩)] w fun e w' => ∃ x : Nm, e = .returned (.agg #[.string (tx x.1), .string (tx x.2.1), .int .i64 x.2.2.1, .int .i64 x.2.2.2.1, .int .i64 x.2.2.2.2]) ∧ NmOk x ∧ Src a A c bs g w' ∧ But g w w' := by
 have hlt := h.lt
 have how := h.own
 have hasz := h.ext.size
 have nb : ¬ w.heap.size = g := by omega
 go_enter Tryz.func151, Tryz.ntmps151
 go_upto_region 1 with (fail)
 go_cut [3] (fun p wx => ∃ (b : Nat) (x : Nm), p = .pointer (some ⟨b, 0, none⟩) ∧ NmOk x ∧ w.heap.size < b ∧ b ≠ g ∧ Blk wx b 117 #[.string (tx x.1), .string (tx x.2.1), .int .i64 x.2.2.1, .int .i64 x.2.2.2.1, .int .i64 x.2.2.2.2] ∧ Blk wx w.heap.size 117 #[.string ⟨#[]⟩, .string ⟨#[]⟩, .int .i64 0, .int .i64 0, .int .i64 0] ∧ Src a A c bs g wx ∧ But g w wx)
 case first =>
  refine wp_region_rgb (m := 14) (C := fun W => Src a A c bs g W ∧ But g (w.alloc (.cells #[.string ⟨#[]⟩, .string ⟨#[]⟩, .int .i64 0, .int .i64 0, .int .i64 0] 117)) W ∧ w.heap.size < W.heap.size) (K := But g) (R := Rg9 (w.heap.size + 1) g (.pointer (some ⟨g, 0, none⟩))) Tryz.f151.ntmps (by kernel_rfl) (by kernel_rfl) (by simp) (by rw [Tryz.ntmps151]; simp) (fun i v w w' => Rg9.stay i v w w') ?hC ?hstep ?hend
  case hC => exact ⟨sD (sA h), uD uR, by simp⟩
  case hstep =>
   simp only [List.take_succ_cons, List.take_zero]
   refine AllFrom.cons ?_ <| AllFrom.cons ?_ <| AllFrom.cons ?_ <| AllFrom.cons ?_ <| AllFrom.cons ?_ <| AllFrom.cons ?_ <| AllFrom.cons ?_ <| AllFrom.cons ?_ <| AllFrom.cons ?_ <| AllFrom.cons ?_ <| AllFrom.cons ?_ <| AllFrom.cons ?_ <| AllFrom.cons ?_ <| AllFrom.cons ?_ AllFrom.nil
   all_goals (intro a1 W hfr hdep hC; have HC := hI hC; clear hC)
   ·have t0 : a1.tmps.getD 0 undef = .pointer (some ⟨g, 0, none⟩) := hfr.at_ rfl (by kernel_rfl)
    unfold Oper.wp
    go_simp
    exact ⟨_, rfl, rfl, But.refl g W, HC.out⟩
   ·have t4 : a1.tmps.getD 4 undef = .pointer (some ⟨g, 0, none⟩) := hdep ⟨0, .data⟩ (by simp) rfl _ rfl
    unfold Oper.wp
    go_simp
    refine (s_l01GoodPhrase (a := a) (A := A) (c := c) (bs := bs) _ HC.out.1).mono ?_
    rintro e W2 ⟨t, rfl, hx, hS2, hu2⟩
    have hs2 := hu2.size
    have hWs := HC.out.2.2
    exact ⟨_, rfl, ⟨t, rfl, hx.2⟩, hu2, hS2, HC.out.2.1.trans hu2, by omega⟩
   ·unfold Oper.wp
    go_simp
    have hWs := HC.out.2.2
    exact ⟨_, rfl, ⟨_, rfl, by omega, by omega, blk_is (cs' := langV) (bN (by omega)) (by rfl)⟩, uA uR, HC.out.1.alloc _, HC.out.2.1.alloc _, by omega⟩
   ·have t0 : a1.tmps.getD 0 undef = .pointer (some ⟨g, 0, none⟩) := hfr.at_ rfl (by kernel_rfl)
    unfold Oper.wp
    go_simp
    exact ⟨_, rfl, rfl, But.refl g W, HC.out⟩
   ·have t7 : a1.tmps.getD 7 undef = .pointer (some ⟨g, 0, none⟩) := hdep ⟨3, .data⟩ (by simp) rfl _ rfl
    unfold Oper.wp
    go_simp
    refine (s_l01Next (a := a) (A := A) (c := c) (bs := bs) _ _ HC.out.1 (by omega)).mono ?_
    rintro e W2 ⟨x, rfl, hx, hS2, hu2⟩
    obtain ⟨j, rfl⟩ := Int.eq_ofNat_of_zero_le hx.1
    have hs2 := hu2.size
    have hWs := HC.out.2.2
    exact ⟨_, rfl, ⟨j, rfl, by omega⟩, hu2, hS2, HC.out.2.1.trans hu2, by omega⟩
   ·obtain ⟨b, t6, h1, h2, h3⟩ : Rg9 (w.heap.size + 1) g _ 2 (a1.tmps.getD 6 undef) W := hdep ⟨2, .data⟩ (by simp) rfl _ rfl
    have t6q := tq t6
    obtain ⟨j, t8, hj⟩ : Rg9 (w.heap.size + 1) g _ 4 (a1.tmps.getD 8 undef) W := hdep ⟨4, .data⟩ (by simp) rfl _ rfl
    have t8q := tq t8
    have hj1 : (j : Int) < 4 := by omega
    unfold Oper.wp
    go_simp
    exact ⟨_, rfl, ⟨b, j, rfl, hj, h1, h2, h3⟩, But.refl g W, HC.out⟩
   ·obtain ⟨b, j, t9, hj, h1, h2, h3⟩ : Rg9 (w.heap.size + 1) g _ 5 (a1.tmps.getD 9 undef) W := hdep ⟨5, .data⟩ (by simp) rfl _ rfl
    have t9q := tq t9
    have hcell : W.cell? ⟨b, j, none⟩ = some (.string (tx (langT.getD j []))) := (h3.cell j).trans (lang_cell j hj)
    unfold Oper.wp
    go_simp
    exact ⟨_, rfl, ⟨j, rfl, hj⟩, But.refl g W, HC.out⟩
   ·have t0 : a1.tmps.getD 0 undef = .pointer (some ⟨g, 0, none⟩) := hfr.at_ rfl (by kernel_rfl)
    unfold Oper.wp
    go_simp
    exact ⟨_, rfl, rfl, But.refl g W, HC.out⟩
   ·unfold Oper.wp
    go_simp
    have hWs := HC.out.2.2
    exact ⟨_, rfl, ⟨_, rfl, by omega, by omega, bN (by omega)⟩, uA uR, HC.out.1.alloc _, HC.out.2.1.alloc _, by omega⟩
   ·have t11 : a1.tmps.getD 11 undef = .pointer (some ⟨g, 0, none⟩) := hdep ⟨7, .data⟩ (by simp) rfl _ rfl
    obtain ⟨b, t12, h1, h2, h3⟩ : Rg9 (w.heap.size + 1) g _ 8 (a1.tmps.getD 12 undef) W := hdep ⟨8, .data⟩ (by simp) rfl _ rfl
    have t12q := tq t12
    have hbl := h3.lt
    unfold Oper.wp
    go_simp
    refine (s_l01Pick (a := a) (A := A) (c := c) (bs := bs) b 0 4 [0, 0, 1, 2] _ HC.out.1 (Blk.sl h3 (by rfl) (fun _ => rfl)) (by simp) (by simp) hbl h2).mono ?_
    rintro e W2 ⟨x, rfl, hx, hS2, hu2⟩
    have hx2 : 0 ≤ x ∧ x ≤ 2 := by simp at hx; omega
    have hs2 := hu2.size
    have hWs := HC.out.2.2
    exact ⟨_, rfl, ⟨x, rfl, hx2.1, hx2.2⟩, hu2, hS2, HC.out.2.1.trans hu2, by omega⟩
   ·have t0 : a1.tmps.getD 0 undef = .pointer (some ⟨g, 0, none⟩) := hfr.at_ rfl (by kernel_rfl)
    unfold Oper.wp
    go_simp
    exact ⟨_, rfl, rfl, But.refl g W, HC.out⟩
   ·have t14 : a1.tmps.getD 14 undef = .pointer (some ⟨g, 0, none⟩) := hdep ⟨10, .data⟩ (by simp) rfl _ rfl
    unfold Oper.wp
    go_simp
    refine (s_l02Good (a := a) (A := A) (c := c) (bs := bs) _ HC.out.1).mono ?_
    rintro e W2 ⟨p, rfl, hx, hS2, hu2⟩
    have hs2 := hu2.size
    have hWs := HC.out.2.2
    exact ⟨_, rfl, ⟨p.1, p.2, rfl, hx.1, hx.2.1, hx.2.2⟩, hu2, hS2, HC.out.2.1.trans hu2, by omega⟩
   ·obtain ⟨t, t5, ht⟩ : Rg9 (w.heap.size + 1) g _ 1 (a1.tmps.getD 5 undef) W := hdep ⟨1, .data⟩ (by simp) rfl _ rfl
    have t5q := tq t5
    obtain ⟨j, t10, hj⟩ : Rg9 (w.heap.size + 1) g _ 6 (a1.tmps.getD 10 undef) W := hdep ⟨6, .data⟩ (by simp) rfl _ rfl
    have t10q := tq t10
    obtain ⟨s, t13, hs0, hs1⟩ : Rg9 (w.heap.size + 1) g _ 9 (a1.tmps.getD 13 undef) W := hdep ⟨9, .data⟩ (by simp) rfl _ rfl
    have t13q := tq t13
    obtain ⟨x, y, t15, hx1, hx2, hx3⟩ : Rg9 (w.heap.size + 1) g _ 11 (a1.tmps.getD 15 undef) W := hdep ⟨11, .data⟩ (by simp) rfl _ rfl
    have t15q := tq t15
    unfold Oper.wp
    go_simp
    exact ⟨_, rfl, ⟨(t, langT.getD j [], s, x, y), rfl, ⟨by simp only; omega, by have := lang_ok j hj; simp only; omega, by simp only; omega, by simp only; omega, by simp only; omega⟩⟩, But.refl g W, HC.out⟩
   ·unfold Oper.wp
    go_simp
    have hWs := HC.out.2.2
    exact ⟨_, rfl, ⟨_, rfl, by omega, by omega, bN (by omega)⟩, uA uR, HC.out.1.alloc _, HC.out.2.1.alloc _, by omega⟩
  case hend =>
   intro a1 W hfr hR hC
   obtain ⟨x, t16, hx⟩ : Rg9 (w.heap.size + 1) g _ 12 (a1.tmps.getD 16 undef) W := hR 12 _ (by omega) rfl
   obtain ⟨b2, t3, g1, g2, g3⟩ : Rg9 (w.heap.size + 1) g _ 13 (a1.tmps.getD 3 undef) W := hR 13 _ (by omega) rfl
   have t16q := tq t16
   have t3q := tq t3
   have HC := hI hC
   have HB3 := hI g3
   have z0 := g3.frozen 0
   have z1 := g3.frozen 1
   have z2 := g3.frozen 2
   have z3 := g3.frozen 3
   have z4 := g3.frozen 4
   have y0 : W.cell? ⟨b2, 0, none⟩ = some (.string ⟨#[]⟩) := g3.cell 0
   have y1 : W.cell? ⟨b2, 1, none⟩ = some (.string ⟨#[]⟩) := g3.cell 1
   have y2 : W.cell? ⟨b2, 2, none⟩ = some (.int .i64 0) := g3.cell 2
   have y3 : W.cell? ⟨b2, 3, none⟩ = some (.int .i64 0) := g3.cell 3
   have y4 : W.cell? ⟨b2, 4, none⟩ = some (.int .i64 0) := g3.cell 4
   have hl2 := g3.lt
   clear hC g3
   refine wpAny_one (i := 14) (by kernel_rfl) (wpOp_of rfl rfl ?_)
   unfold Oper.wp
   go_simp
   refine wpAny_end (by kernel_rfl) ?_
   have hB0 : Blk W w.heap.size 117 #[.string ⟨#[]⟩, .string ⟨#[]⟩, .int .i64 0, .int .i64 0, .int .i64 0] := Blk.but' HC.out.2.1 nb (Blk.new rfl)
   have hg3 := HB3.out
   have nb2 : ¬ w.heap.size = b2 := by omega
   have HU0 : But g w W := But.trans (But.alloc (But.refl g w) _) HC.out.2.1
   have HS0 := HC.out.1
   have hsh := hfr.shape [false, false, false, true, true, true, true, true, true, true, true, true, true, true, true, true, true, false, false, false, false, false, false, false, false, false, false, false, false, false, false, false, false, false, false, false, false, false, false, false, false, false, false, false] (by rfl) (by kernel_rfl)
   simp only [mixL] at hsh
   rw [hsh]
   go_wp2_with fail
   go_meet
   exact ⟨b2, x, t3, hx, by omega, g2, Blk.eq (bS (bS (bS (bS (bS hg3))))) (by rfl), bF nb2 (bF nb2 (bF nb2 (bF nb2 (bF nb2 hB0)))), sF (by omega) (by omega) (sF (by omega) (by omega) (sF (by omega) (by omega) (sF (by omega) (by omega) (sF (by omega) (by omega) HS0)))), uW (by omega) (uW (by omega) (uW (by omega) (uW (by omega) (uW (by omega) HU0))))⟩
 case rest =>
  obtain ⟨b, x, rfl, hok, hb, nbg, hB, hE, hSc, hUc⟩ := hcut
  obtain ⟨s, l, u, f, d⟩ := x
  simp only at hB
  unfold NmOk at hok
  simp only at hok
  have hsc := hUc.size
  have HB := hI hB
  have HE := hI hE
  have HS := hI hSc
  have HU := hI hUc
  have hlb := hB.lt
  have hle := hE.lt
  have hgw : g < wc.heap.size := by omega
  have n1 : ¬ g = b := fun e => nbg e.symm
  have n2 : ¬ g = w.heap.size := by omega
  have n3 : ¬ b = w.heap.size := by omega
  have n4 : ¬ w.heap.size = b := by omega
  clear hB hE hSc hUc
  go_wp2_with fail
  refine (s_l01Next (a := a) (A := A) (c := c) (bs := bs) _ _ HS.out (by omega)).mono ?_
  rintro e w5 ⟨k, rfl, hk, hS5, hu5⟩
  have hs5 := hu5.size
  have HS5 := hI hS5
  have HU5 := hI (HU.out.trans hu5)
  by_cases q0 : k = 0
  ·subst q0
   go_wp2_with fail
   refine (s_l01DrawPhrase (a := a) (A := A) (c := c) (bs := bs) _ HS5.out).mono ?_
   rintro e w6 ⟨t, rfl, ht, hS6, hu6⟩
   have hs6 := hu6.size
   have B6 : Blk w6 b 117 #[.string (tx s), .string (tx l), .int .i64 u, .int .i64 f, .int .i64 d] := (HB.out.but' hu5 nbg).but' hu6 nbg
   have E6 : Blk w6 w.heap.size 117 #[.string ⟨#[]⟩, .string ⟨#[]⟩, .int .i64 0, .int .i64 0, .int .i64 0] := (HE.out.but' hu5 nb).but' hu6 nb
   have hU6 := HU5.out.trans hu6
   clear hu5 hu6
   have p6_0 := B6.frozen 0
   have p6_1 := B6.frozen 1
   have p6_2 := B6.frozen 2
   have p6_3 := B6.frozen 3
   have p6_4 := B6.frozen 4
   have q6_0 : w6.cell? ⟨b, 0, none⟩ = some (.string (tx s)) := B6.cell 0
   have q6_1 : w6.cell? ⟨b, 1, none⟩ = some (.string (tx l)) := B6.cell 1
   have q6_2 : w6.cell? ⟨b, 2, none⟩ = some (.int .i64 u) := B6.cell 2
   have q6_3 : w6.cell? ⟨b, 3, none⟩ = some (.int .i64 f) := B6.cell 3
   have q6_4 : w6.cell? ⟨b, 4, none⟩ = some (.int .i64 d) := B6.cell 4
   have r6_0 := E6.frozen 0
   have r6_1 := E6.frozen 1
   have r6_2 := E6.frozen 2
   have r6_3 := E6.frozen 3
   have r6_4 := E6.frozen 4
   have v6_0 : w6.cell? ⟨w.heap.size, 0, none⟩ = some (.string ⟨#[]⟩) := E6.cell 0
   have v6_1 : w6.cell? ⟨w.heap.size, 1, none⟩ = some (.string ⟨#[]⟩) := E6.cell 1
   have v6_2 : w6.cell? ⟨w.heap.size, 2, none⟩ = some (.int .i64 0) := E6.cell 2
   have v6_3 : w6.cell? ⟨w.heap.size, 3, none⟩ = some (.int .i64 0) := E6.cell 3
   have v6_4 : w6.cell? ⟨w.heap.size, 4, none⟩ = some (.int .i64 0) := E6.cell 4
   have la6 := B6.lt
   have lb6 := E6.lt
   go_wp2
   refine ret_nm (b0 := w.heap.size) (t := 117) (v := .agg #[.string (tx t), .string (tx l), .int .i64 u, .int .i64 f, .int .i64 d]) (Blk.eq (bS (bS (bS (bS (bS (bF n4 E6)))))) (by rfl)) rfl (by intro W' r0 r1 r2 r3 r4; simp [results, Tryz.results151, go_sem, r0, r1, r2, r3, r4]) ⟨(t, l, u, f, d), rfl, ?_, sF n2 hasz (sF n2 hasz (sF n2 hasz (sF n2 hasz (sF n2 hasz (sF n1 (by omega) hS6))))), uW (by omega) (uW (by omega) (uW (by omega) (uW (by omega) (uW (by omega) (uW (by omega) hU6)))))⟩
   exact ⟨ht, hok.2.1, hok.2.2.1, hok.2.2.2.1, hok.2.2.2.2⟩
  ·have e0 : (k == 0) = false := beq_eq_false_iff_ne.2 q0
   by_cases q1 : k = 1
   ·subst q1
    (go_wp2_with fail; refine (s_l01Next (a := a) (A := A) (c := c) (bs := bs) _ _ (HS5.out.alloc _) (by omega)).mono ?_; rintro e w6 ⟨x6, rfl, hb6, hS6, hu6⟩; obtain ⟨hc6, hf6, hs6⟩ := hu6.all; (try simp at hs6); have := (show w5.heap.size < w6.heap.size from by omega))
    obtain ⟨j, rfl⟩ := Int.eq_ofNat_of_zero_le hb6.1
    have hj : j < 4 := by omega
    have hP : Blk w6 w5.heap.size 9 badV := blk_is (bU hu6 (by omega) (bN (by omega))) (by rfl)
    have hcell : w6.cell? ⟨w5.heap.size, j, none⟩ = some (.string (tx (badT.getD j []))) := (hP.cell j).trans (bad_cell j hj)
    have hlen := bad_ok j hj
    generalize badT.getD j [] = t at *
    have B6 : Blk w6 b 117 #[.string (tx s), .string (tx l), .int .i64 u, .int .i64 f, .int .i64 d] := ((HB.out.but' hu5 nbg).alloc _).but' hu6 nbg
    have E6 : Blk w6 w.heap.size 117 #[.string ⟨#[]⟩, .string ⟨#[]⟩, .int .i64 0, .int .i64 0, .int .i64 0] := ((HE.out.but' hu5 nb).alloc _).but' hu6 nb
    have hU6 : But g w w6 := (HU5.out.alloc _).trans hu6
    clear hu5 hu6 hP hc6 hf6
    have p6_0 := B6.frozen 0
    have p6_1 := B6.frozen 1
    have p6_2 := B6.frozen 2
    have p6_3 := B6.frozen 3
    have p6_4 := B6.frozen 4
    have q6_0 : w6.cell? ⟨b, 0, none⟩ = some (.string (tx s)) := B6.cell 0
    have q6_1 : w6.cell? ⟨b, 1, none⟩ = some (.string (tx l)) := B6.cell 1
    have q6_2 : w6.cell? ⟨b, 2, none⟩ = some (.int .i64 u) := B6.cell 2
    have q6_3 : w6.cell? ⟨b, 3, none⟩ = some (.int .i64 f) := B6.cell 3
    have q6_4 : w6.cell? ⟨b, 4, none⟩ = some (.int .i64 d) := B6.cell 4
    have r6_0 := E6.frozen 0
    have r6_1 := E6.frozen 1
    have r6_2 := E6.frozen 2
    have r6_3 := E6.frozen 3
    have r6_4 := E6.frozen 4
    have v6_0 : w6.cell? ⟨w.heap.size, 0, none⟩ = some (.string ⟨#[]⟩) := E6.cell 0
    have v6_1 : w6.cell? ⟨w.heap.size, 1, none⟩ = some (.string ⟨#[]⟩) := E6.cell 1
    have v6_2 : w6.cell? ⟨w.heap.size, 2, none⟩ = some (.int .i64 0) := E6.cell 2
    have v6_3 : w6.cell? ⟨w.heap.size, 3, none⟩ = some (.int .i64 0) := E6.cell 3
    have v6_4 : w6.cell? ⟨w.heap.size, 4, none⟩ = some (.int .i64 0) := E6.cell 4
    have la6 := B6.lt
    have lb6 := E6.lt
    go_wp2
    refine ret_nm (b0 := w.heap.size) (t := 117) (v := .agg #[.string (tx s), .string (tx t), .int .i64 u, .int .i64 f, .int .i64 d]) (Blk.eq (bS (bS (bS (bS (bS (bF n4 E6)))))) (by rfl)) rfl (by intro W' r0 r1 r2 r3 r4; simp [results, Tryz.results151, go_sem, r0, r1, r2, r3, r4]) ⟨(s, t, u, f, d), rfl, ?_, sF n2 hasz (sF n2 hasz (sF n2 hasz (sF n2 hasz (sF n2 hasz (sF n1 (by omega) hS6))))), uW (by omega) (uW (by omega) (uW (by omega) (uW (by omega) (uW (by omega) (uW (by omega) hU6)))))⟩
    exact ⟨hok.1, hlen, hok.2.2.1, hok.2.2.2.1, hok.2.2.2.2⟩
   ·have e1 : (k == 1) = false := beq_eq_false_iff_ne.2 q1
    by_cases q2 : k = 2
    ·subst q2
     (go_wp2_with fail; refine (s_l01Pick (a := a) (A := A) (c := c) (bs := bs) _ 0 _ [-1, 3] _ (HS5.out.alloc _) (Blk.sl (bN (by omega)) (by rfl) (fun _ => rfl)) (by simp) (by simp) (by simp) (by omega)).mono ?_; rintro e w6 ⟨x6, rfl, hb6, hS6, hu6⟩; obtain ⟨hc6, hf6, hs6⟩ := hu6.all; (try simp at hs6); have := (show w5.heap.size < w6.heap.size from by omega))
     have hx6 : -1 ≤ x6 ∧ x6 ≤ 3 := by simp at hb6; omega
     have B6 : Blk w6 b 117 #[.string (tx s), .string (tx l), .int .i64 u, .int .i64 f, .int .i64 d] := ((HB.out.but' hu5 nbg).alloc _).but' hu6 nbg
     have E6 : Blk w6 w.heap.size 117 #[.string ⟨#[]⟩, .string ⟨#[]⟩, .int .i64 0, .int .i64 0, .int .i64 0] := ((HE.out.but' hu5 nb).alloc _).but' hu6 nb
     have hU6 : But g w w6 := (HU5.out.alloc _).trans hu6
     clear hu5 hu6 hc6 hf6 hb6
     have p6_0 := B6.frozen 0
     have p6_1 := B6.frozen 1
     have p6_2 := B6.frozen 2
     have p6_3 := B6.frozen 3
     have p6_4 := B6.frozen 4
     have q6_0 : w6.cell? ⟨b, 0, none⟩ = some (.string (tx s)) := B6.cell 0
     have q6_1 : w6.cell? ⟨b, 1, none⟩ = some (.string (tx l)) := B6.cell 1
     have q6_2 : w6.cell? ⟨b, 2, none⟩ = some (.int .i64 u) := B6.cell 2
     have q6_3 : w6.cell? ⟨b, 3, none⟩ = some (.int .i64 f) := B6.cell 3
     have q6_4 : w6.cell? ⟨b, 4, none⟩ = some (.int .i64 d) := B6.cell 4
     have r6_0 := E6.frozen 0
     have r6_1 := E6.frozen 1
     have r6_2 := E6.frozen 2
     have r6_3 := E6.frozen 3
     have r6_4 := E6.frozen 4
     have v6_0 : w6.cell? ⟨w.heap.size, 0, none⟩ = some (.string ⟨#[]⟩) := E6.cell 0
     have v6_1 : w6.cell? ⟨w.heap.size, 1, none⟩ = some (.string ⟨#[]⟩) := E6.cell 1
     have v6_2 : w6.cell? ⟨w.heap.size, 2, none⟩ = some (.int .i64 0) := E6.cell 2
     have v6_3 : w6.cell? ⟨w.heap.size, 3, none⟩ = some (.int .i64 0) := E6.cell 3
     have v6_4 : w6.cell? ⟨w.heap.size, 4, none⟩ = some (.int .i64 0) := E6.cell 4
     have la6 := B6.lt
     have lb6 := E6.lt
     go_wp2
     refine ret_nm (b0 := w.heap.size) (t := 117) (v := .agg #[.string (tx s), .string (tx l), .int .i64 x6, .int .i64 f, .int .i64 d]) (Blk.eq (bS (bS (bS (bS (bS (bF n4 E6)))))) (by rfl)) rfl (by intro W' r0 r1 r2 r3 r4; simp [results, Tryz.results151, go_sem, r0, r1, r2, r3, r4]) ⟨(s, l, x6, f, d), rfl, ?_, sF n2 hasz (sF n2 hasz (sF n2 hasz (sF n2 hasz (sF n2 hasz (sF n1 (by omega) hS6))))), uW (by omega) (uW (by omega) (uW (by omega) (uW (by omega) (uW (by omega) (uW (by omega) hU6)))))⟩
     exact ⟨hok.1, hok.2.1, hx6, hok.2.2.2.1, hok.2.2.2.2⟩
    ·have e2 : (k == 2) = false := beq_eq_false_iff_ne.2 q2
     by_cases q3 : k = 3
     ·subst q3
      go_wp2_with fail
      refine (s_l02Draw (a := a) (A := A) (c := c) (bs := bs) _ HS5.out).mono ?_
      rintro e w6 ⟨⟨p1, p2⟩, rfl, hp, hS6, hu6⟩
      have hs6 := hu6.size
      have B6 : Blk w6 b 117 #[.string (tx s), .string (tx l), .int .i64 u, .int .i64 f, .int .i64 d] := (HB.out.but' hu5 nbg).but' hu6 nbg
      have E6 : Blk w6 w.heap.size 117 #[.string ⟨#[]⟩, .string ⟨#[]⟩, .int .i64 0, .int .i64 0, .int .i64 0] := (HE.out.but' hu5 nb).but' hu6 nb
      have hU6 := HU5.out.trans hu6
      clear hu5 hu6
      have p6_0 := B6.frozen 0
      have p6_1 := B6.frozen 1
      have p6_2 := B6.frozen 2
      have p6_3 := B6.frozen 3
      have p6_4 := B6.frozen 4
      have q6_0 : w6.cell? ⟨b, 0, none⟩ = some (.string (tx s)) := B6.cell 0
      have q6_1 : w6.cell? ⟨b, 1, none⟩ = some (.string (tx l)) := B6.cell 1
      have q6_2 : w6.cell? ⟨b, 2, none⟩ = some (.int .i64 u) := B6.cell 2
      have q6_3 : w6.cell? ⟨b, 3, none⟩ = some (.int .i64 f) := B6.cell 3
      have q6_4 : w6.cell? ⟨b, 4, none⟩ = some (.int .i64 d) := B6.cell 4
      have r6_0 := E6.frozen 0
      have r6_1 := E6.frozen 1
      have r6_2 := E6.frozen 2
      have r6_3 := E6.frozen 3
      have r6_4 := E6.frozen 4
      have v6_0 : w6.cell? ⟨w.heap.size, 0, none⟩ = some (.string ⟨#[]⟩) := E6.cell 0
      have v6_1 : w6.cell? ⟨w.heap.size, 1, none⟩ = some (.string ⟨#[]⟩) := E6.cell 1
      have v6_2 : w6.cell? ⟨w.heap.size, 2, none⟩ = some (.int .i64 0) := E6.cell 2
      have v6_3 : w6.cell? ⟨w.heap.size, 3, none⟩ = some (.int .i64 0) := E6.cell 3
      have v6_4 : w6.cell? ⟨w.heap.size, 4, none⟩ = some (.int .i64 0) := E6.cell 4
      have la6 := B6.lt
      have lb6 := E6.lt
      go_wp2
      refine ret_nm (b0 := w.heap.size) (t := 117) (v := .agg #[.string (tx s), .string (tx l), .int .i64 u, .int .i64 p1, .int .i64 p2]) (Blk.eq (bS (bS (bS (bS (bS (bF n4 (bF n4 E6))))))) (by rfl)) rfl (by intro W' r0 r1 r2 r3 r4; simp [results, Tryz.results151, go_sem, r0, r1, r2, r3, r4]) ⟨(s, l, u, p1, p2), rfl, ?_, sF n2 hasz (sF n2 hasz (sF n2 hasz (sF n2 hasz (sF n2 hasz (sF n1 (by omega) (sF n1 (by omega) hS6)))))), uW (by omega) (uW (by omega) (uW (by omega) (uW (by omega) (uW (by omega) (uW (by omega) (uW (by omega) hU6))))))⟩
      exact ⟨hok.1, hok.2.1, hok.2.2.1, hp.1, hp.2⟩
     ·have e3 : (k == 3) = false := beq_eq_false_iff_ne.2 q3
      have B5 : Blk w5 b 117 #[.string (tx s), .string (tx l), .int .i64 u, .int .i64 f, .int .i64 d] := HB.out.but' hu5 nbg
      have E5 : Blk w5 w.heap.size 117 #[.string ⟨#[]⟩, .string ⟨#[]⟩, .int .i64 0, .int .i64 0, .int .i64 0] := HE.out.but' hu5 nb
      have hU5 := HU5.out
      clear hu5
      have p5_0 := B5.frozen 0
      have p5_1 := B5.frozen 1
      have p5_2 := B5.frozen 2
      have p5_3 := B5.frozen 3
      have p5_4 := B5.frozen 4
      have q5_0 : w5.cell? ⟨b, 0, none⟩ = some (.string (tx s)) := B5.cell 0
      have q5_1 : w5.cell? ⟨b, 1, none⟩ = some (.string (tx l)) := B5.cell 1
      have q5_2 : w5.cell? ⟨b, 2, none⟩ = some (.int .i64 u) := B5.cell 2
      have q5_3 : w5.cell? ⟨b, 3, none⟩ = some (.int .i64 f) := B5.cell 3
      have q5_4 : w5.cell? ⟨b, 4, none⟩ = some (.int .i64 d) := B5.cell 4
      have r5_0 := E5.frozen 0
      have r5_1 := E5.frozen 1
      have r5_2 := E5.frozen 2
      have r5_3 := E5.frozen 3
      have r5_4 := E5.frozen 4
      have v5_0 : w5.cell? ⟨w.heap.size, 0, none⟩ = some (.string ⟨#[]⟩) := E5.cell 0
      have v5_1 : w5.cell? ⟨w.heap.size, 1, none⟩ = some (.string ⟨#[]⟩) := E5.cell 1
      have v5_2 : w5.cell? ⟨w.heap.size, 2, none⟩ = some (.int .i64 0) := E5.cell 2
      have v5_3 : w5.cell? ⟨w.heap.size, 3, none⟩ = some (.int .i64 0) := E5.cell 3
      have v5_4 : w5.cell? ⟨w.heap.size, 4, none⟩ = some (.int .i64 0) := E5.cell 4
      have la5 := B5.lt
      have lb5 := E5.lt
      go_wp2
      refine ret_nm (b0 := w.heap.size) (t := 117) (v := .agg #[.string (tx s), .string (tx l), .int .i64 u, .int .i64 f, .int .i64 d]) (Blk.eq (bS (bS (bS (bS (bS E5))))) (by rfl)) rfl (by intro W' r0 r1 r2 r3 r4; simp [results, Tryz.results151, go_sem, r0, r1, r2, r3, r4]) ⟨(s, l, u, f, d), rfl, ?_, sF n2 hasz (sF n2 hasz (sF n2 hasz (sF n2 hasz (sF n2 hasz hS5)))), uW (by omega) (uW (by omega) (uW (by omega) (uW (by omega) (uW (by omega) hU5))))⟩
      exact ⟨hok.1, hok.2.1, hok.2.2.1, hok.2.2.2.1, hok.2.2.2.2⟩
def oldnT : List (List UInt8) := [[111, 108, 100, 32, 97, 115, 104], [110, 101, 119, 116, 111, 110]]
theorem oldn_ok : ∀ j, j < 2 → (oldnT.getD j []).length ≤ 7 := by decide
def oldnV : Array Value := #[.string (tx [111, 108, 100, 32, 97, 115, 104]), .string (tx [110, 101, 119, 116, 111, 110])]
theorem oldn_cell : ∀ j, j < 2 → oldnV[j]? = some (.string (tx (oldnT.getD j []))) := by
 intro j hj
 rcases (show j = 0 ∨ j = 1 by omega) with rfl | rfl <;> rfl
theorem codes_sm {j : Nat} (hj : j < 8) : smL (codesT.getD j []) 1 16 = true := by
 obtain ⟨h1, h2, h3⟩ := codes_ok j hj
 unfold smL
 rw [h1]
 simp only [inB, Bool.and_true, Bool.and_eq_true, decide_eq_true_eq]
 omega
def NmsOk (ns : List Nm) : Prop := ∀ n ∈ ns, NmOk n
theorem NmsOk.names {ns : List Nm} (h : NmsOk ns) : Names ns := fun j => by
 rcases Nat.lt_or_ge j ns.length with c | c
 ·have := h (ns.getD j nmD) (by simp [List.getD, c])
  exact ⟨by have := this.1; omega, by have := this.2.1; omega⟩
 ·rw [List.getD_eq_getElem?_getD, List.getElem?_eq_none c]
  exact ⟨Nat.zero_le _, Nat.zero_le _⟩
def NsIn (x y : Int) (ns : List Nm) : Prop := nsB ns = true ∧ (∀ n ∈ ns, inY x y n = true) ∧ NmsOk ns
theorem NsIn.snoc {x y : Int} {ns : List Nm} {n : Nm} (h : NsIn x y ns) (hn : NmOk n) (hi : inY x y n = true) (hb : nsB (ns ++ [n]) = true) : NsIn x y (ns ++ [n]) := by
 refine ⟨hb, fun m hm => ?_, fun m hm => ?_⟩
 ·rcases List.mem_append.1 hm with e | e
  ·exact h.2.1 m e
  ·rw [List.mem_singleton.1 e]; exact hi
 ·rcases List.mem_append.1 hm with e | e
  ·exact h.2.2 m e
  ·rw [List.mem_singleton.1 e]; exact hn
def PlOk (p : Pl) : Prop := plB (pdOf p) = true ∧ NmsOk p.2.2.2.2.2.2 ∧ p.1.length ≤ 16
theorem elN : ElT Tryz.prog 55 117 5 56 := ElT.mk' (z := .agg #[.string .empty, .string .empty, .int .i64 0, .int .i64 0, .int .i64 0]) Tryz.underlying55 (by kernel_rfl) rfl (by omega)
abbrev OwN (w : World) (base : Nat) (v : Value) (xs : List Nm) : Prop := Own encN 5 117 w base v xs
theorem blk_n1 {w : World} {g : Nat} {t : TypeId} {n : Nm} {cs : Array Value} (h : Blk w g t cs) (e : cs = #[.string (tx n.1), .string (tx n.2.1), .int .i64 n.2.2.1, .int .i64 n.2.2.2.1, .int .i64 n.2.2.2.2]) : SlAt w 5 encN (some ⟨g, 0, none⟩) [n] := by
 subst e; exact h.sl rfl len_encN
def Rg11 (B g : Nat) (p : Value) : Nat → Value → World → Prop
 | 0, v, w => ∃ b : Nat, v = .slice (some ⟨b, 0, none⟩) 8 8 ∧ B ≤ b ∧ b ≠ g ∧ Blk w b 9 codesV
 | 1, v, _ => v = p
 | 2, v, _ => ∃ j : Nat, v = .int .i64 j ∧ j < 8
 | 3, v, w => ∃ (b j : Nat), v = .pointer (some ⟨b, j, none⟩) ∧ j < 8 ∧ B ≤ b ∧ b ≠ g ∧ Blk w b 9 codesV
 | 4, v, _ => ∃ j : Nat, v = .string (tx (codesT.getD j [])) ∧ j < 8
 | 5, v, _ => v = p
 | 6, v, _ => ∃ j : Nat, v = .int .i64 j ∧ j < 6
 | 7, v, _ => v = p
 | 8, v, _ => ∃ j : Nat, v = .int .i64 j ∧ j < 600
 | 9, v, _ => ∃ x : Int, v = .int .i64 x ∧ 1000 ≤ x ∧ x ≤ 1599
 | 10, v, _ => ∃ x : Int, v = .agg #[.int .i64 x, .int .i64 0] ∧ 1000 ≤ x ∧ x ≤ 1599
 | 11, v, w => ∃ b : Nat, v = .slice (some ⟨b, 0, none⟩) 0 0 ∧ B ≤ b ∧ b ≠ g ∧ Blk w b 117 #[]
 | 12, v, w => ∃ (b j k : Nat) (x : Int), v = .agg #[.string (tx (codesT.getD j [])), .int .i64 k, .int .i64 x, .int .i64 0, .slice (some ⟨b, 0, none⟩) 0 0] ∧ j < 8 ∧ k < 6 ∧ (1000 ≤ x ∧ x ≤ 1599) ∧ B ≤ b ∧ b ≠ g ∧ Blk w b 117 #[]
 | 13, v, w => ∃ b : Nat, v = .pointer (some ⟨b, 0, none⟩) ∧ B ≤ b ∧ b ≠ g ∧ Blk w b 57 #[.string ⟨#[]⟩, .int .i64 0, .int .i64 0, .int .i64 0, .slice none 0 0]
 | _, _, _ => True
theorem Rg11.stay {B g : Nat} {p : Value} (i : Nat) (v : Value) (w w' : World) (hu : But g w w') (h : Rg11 B g p i v w) : Rg11 B g p i v w' := by
 rcases i with _ | _ | _ | _ | _ | _ | _ | _ | _ | _ | _ | _ | _ | _ | i
 ·obtain ⟨b, e, h1, h2, h3⟩ := h; exact ⟨b, e, h1, h2, h3.but' hu h2⟩
 ·exact h
 ·exact h
 ·obtain ⟨b, j, e, h0, h1, h2, h3⟩ := h; exact ⟨b, j, e, h0, h1, h2, h3.but' hu h2⟩
 ·exact h
 ·exact h
 ·exact h
 ·exact h
 ·exact h
 ·exact h
 ·exact h
 ·obtain ⟨b, e, h1, h2, h3⟩ := h; exact ⟨b, e, h1, h2, h3.but' hu h2⟩
 ·obtain ⟨b, j, k, x, e, h0, h4, h5, h1, h2, h3⟩ := h; exact ⟨b, j, k, x, e, h0, h4, h5, h1, h2, h3.but' hu h2⟩
 ·obtain ⟨b, e, h1, h2, h3⟩ := h; exact ⟨b, e, h1, h2, h3.but' hu h2⟩
 ·trivial
def Rg11b (b : Nat) (x : Int) (p : Value) : Nat → Value → World → Prop
 | 0, v, _ => v = .pointer (some ⟨b, 2, none⟩)
 | 1, v, _ => v = .pointer (some ⟨b, 2, none⟩)
 | 2, v, _ => v = .int .i64 x
 | 3, v, _ => v = .int .i64 (x + 100)
 | 4, v, _ => v = p
 | 5, v, _ => ∃ j : Nat, v = .int .i64 j ∧ j < 1000
 | 6, v, _ => ∃ y : Int, v = .int .i64 y ∧ x + 100 ≤ y ∧ y ≤ x + 1099
 | 7, v, _ => v = .pointer (some ⟨b, 2, none⟩)
 | 8, v, _ => v = .pointer (some ⟨b, 3, none⟩)
 | _, _, _ => True
theorem Rg11b.stay {b : Nat} {x : Int} {p : Value} (i : Nat) (v : Value) (w w' : World) (h : Rg11b b x p i v w) : Rg11b b x p i v w' := by
 rcases i with _ | _ | _ | _ | _ | _ | _ | _ | _ | i <;> exact h
def Rg11c (B g b b5 : Nat) (x y : Int) (p : Value) : Nat → Value → World → Prop
 | 0, v, _ => v = .pointer (some ⟨b, 2, none⟩)
 | 1, v, _ => v = .pointer (some ⟨b, 2, none⟩)
 | 2, v, _ => v = .int .i64 x
 | 3, v, _ => v = p
 | 4, v, _ => ∃ j : Nat, v = .int .i64 j ∧ j < 60
 | 5, v, _ => ∃ f : Int, v = .int .i64 f ∧ x ≤ f ∧ f ≤ x + 59
 | 6, v, _ => v = .pointer (some ⟨b, 2, none⟩)
 | 7, v, _ => v = .pointer (some ⟨b, 3, none⟩)
 | 8, v, _ => v = .int .i64 y
 | 9, v, _ => v = p
 | 10, v, _ => v = p
 | 11, v, _ => ∃ j : Nat, v = .int .i64 j ∧ j < 30
 | 12, v, w => ∃ (q j : Nat), v = .slice (some ⟨q, 0, none⟩) 2 2 ∧ j < 30 ∧ B ≤ q ∧ q ≠ g ∧ Blk w q 2 #[.int .i64 0, .int .i64 j]
 | 13, v, _ => ∃ d : Int, v = .int .i64 d ∧ 0 ≤ d ∧ d ≤ 29
 | 14, v, _ => ∃ t : Int, v = .int .i64 t ∧ y - 29 ≤ t ∧ t ≤ y
 | 15, v, _ => ∃ f t : Int, v = .agg #[.int .i64 f, .int .i64 t] ∧ (x ≤ f ∧ f ≤ x + 59) ∧ y - 29 ≤ t ∧ t ≤ y
 | 16, v, _ => v = .pointer (some ⟨b5, 3, none⟩)
 | _, _, _ => True
theorem Rg11c.stay {B g b b5 : Nat} {x y : Int} {p : Value} (i : Nat) (v : Value) (w w' : World) (hu : But g w w') (h : Rg11c B g b b5 x y p i v w) : Rg11c B g b b5 x y p i v w' := by
 rcases i with _ | _ | _ | _ | _ | _ | _ | _ | _ | _ | _ | _ | _ | _ | _ | _ | _ | i
 ·exact h
 ·exact h
 ·exact h
 ·exact h
 ·exact h
 ·exact h
 ·exact h
 ·exact h
 ·exact h
 ·exact h
 ·exact h
 ·exact h
 ·obtain ⟨q, j, e, h0, h1, h2, h3⟩ := h; exact ⟨q, j, e, h0, h1, h2, h3.but' hu h2⟩
 ·exact h
 ·exact h
 ·exact h
 ·exact h
 ·exact h
theorem SlAt.setFar {α : Type} {enc : α → List Value} {sz : Nat} {w : World} {A : Option Addr} {xs : List α} {p : Addr} (h : SlAt w sz enc A xs) (hp : ∀ z : Addr, A = some z → ¬ z.block = p.block) (u : Value) : SlAt (w.setCell p u) sz enc A xs := fun hn => by
 obtain ⟨b, off, e, hb, hc⟩ := h hn
 refine ⟨b, off, e, by simpa [World.setCell] using hb, fun i x hi j v hj => ?_⟩
 exact (World.cell?_of_block (a := ⟨b, off + i * sz + j, none⟩) (Below.heap_setCell w p u b (hp _ e))).trans (hc i x hi j v hj)
theorem ret_pl {P : Program} {fn : Func} {R : Ending → World → Prop} {a : Act} {W : World} {b0 : Nat} {t : TypeId} {x0 x1 x2 x3 x4 v : Value} (h0 : Blk W b0 t #[x0, x1, x2, x3, x4]) (hd : a.defers = [])
  (hres : ∀ W' : World, W'.cell? ⟨b0, 0, none⟩ = some x0 → W'.cell? ⟨b0, 1, none⟩ = some x1 → W'.cell? ⟨b0, 2, none⟩ = some x2 → W'.cell? ⟨b0, 3, none⟩ = some x3 → W'.cell? ⟨b0, 4, none⟩ = some x4 → (results fn a.tmps).run P W' = .ok v W') (hR : R (.returned v) W) : bodyPost P fn R .ret a W :=
 bodyPost_ret (hres W (h0.cell 0) (h0.cell 1) (h0.cell 2) (h0.cell 3) (h0.cell 4)) hd hR
set_option maxRecDepth 20000 in
set_option maxHeartbeats 25600000 in
theorem s_l11Good {a : World} {A : Option Addr} {c : Nat} {bs : List Int} {g : Nat} (w : World) (h : Src a A c bs g w) :
  Calls Tryz.prog 107 #[.pointer (some ⟨g, 0, none⟩)] w fun e w' => ∃ p : Pl, e = .returned (.agg #[.string (tx p.1), .int .i64 p.2.1, .int .i64 p.2.2.1, .int .i64 p.2.2.2.1, .slice p.2.2.2.2.1 p.2.2.2.2.2.2.length p.2.2.2.2.2.1]) ∧ PlOk p ∧ PlAt w' p ∧ (∀ q, p.2.2.2.2.1 = some q → w.heap.size < q.block ∧ q.block ≠ g ∧ q.block < w'.heap.size) ∧ Src a A c bs g w' ∧ But g w w' := by
 have hlt := h.lt
 have how := h.own
 have hasz := h.ext.size
 have nb : ¬ w.heap.size = g := by omega
 go_enter Tryz.func107, Tryz.ntmps107
 go_upto_region 1 with (fail)
 go_cut [3] (fun p wx => ∃ (b bn : Nat) (t : List UInt8) (k : Nat) (x : Int), p = .pointer (some ⟨b, 0, none⟩) ∧ smL t 1 16 = true ∧ t.length ≤ 16 ∧ k < 6 ∧ (1000 ≤ x ∧ x ≤ 1599) ∧ w.heap.size < b ∧ b ≠ g ∧ w.heap.size < bn ∧ bn ≠ g ∧ ¬ bn = b ∧ Blk wx bn 117 #[] ∧ Blk wx b 57 #[.string (tx t), .int .i64 k, .int .i64 x, .int .i64 0, .slice (some ⟨bn, 0, none⟩) 0 0] ∧ Blk wx w.heap.size 57 #[.string ⟨#[]⟩, .int .i64 0, .int .i64 0, .int .i64 0, .slice none 0 0] ∧ Src a A c bs g wx ∧ But g w wx)
 case first =>
  refine wp_region_rgb (m := 14) (C := fun W => Src a A c bs g W ∧ But g (w.alloc (.cells #[.string ⟨#[]⟩, .int .i64 0, .int .i64 0, .int .i64 0, .slice none 0 0] 57)) W ∧ w.heap.size < W.heap.size) (K := But g) (R := Rg11 (w.heap.size + 1) g (.pointer (some ⟨g, 0, none⟩))) Tryz.f107.ntmps (by kernel_rfl) (by kernel_rfl) (by simp) (by rw [Tryz.ntmps107]; simp) (fun i v w w' => Rg11.stay i v w w') ?hC ?hstep ?hend
  case hC => exact ⟨sD (sA h), uD uR, by simp⟩
  case hstep =>
   simp only [List.take_succ_cons, List.take_zero]
   refine AllFrom.cons ?_ <| AllFrom.cons ?_ <| AllFrom.cons ?_ <| AllFrom.cons ?_ <| AllFrom.cons ?_ <| AllFrom.cons ?_ <| AllFrom.cons ?_ <| AllFrom.cons ?_ <| AllFrom.cons ?_ <| AllFrom.cons ?_ <| AllFrom.cons ?_ <| AllFrom.cons ?_ <| AllFrom.cons ?_ <| AllFrom.cons ?_ AllFrom.nil
   all_goals (intro a1 W hfr hdep hC; have HC := hI hC; clear hC)
   ·unfold Oper.wp
    go_simp
    have hWs := HC.out.2.2
    exact ⟨_, rfl, ⟨_, rfl, by omega, by omega, blk_is (cs' := codesV) (bN (by omega)) (by rfl)⟩, uA uR, HC.out.1.alloc _, HC.out.2.1.alloc _, by omega⟩
   ·have t0 : a1.tmps.getD 0 undef = .pointer (some ⟨g, 0, none⟩) := hfr.at_ rfl (by kernel_rfl)
    unfold Oper.wp
    go_simp
    exact ⟨_, rfl, rfl, But.refl g W, HC.out⟩
   ·have t8 : a1.tmps.getD 8 undef = .pointer (some ⟨g, 0, none⟩) := hdep ⟨1, .data⟩ (by simp) rfl _ rfl
    unfold Oper.wp
    go_simp
    refine (s_l01Next (a := a) (A := A) (c := c) (bs := bs) _ _ HC.out.1 (by omega)).mono ?_
    rintro e W2 ⟨x, rfl, hx, hS2, hu2⟩
    obtain ⟨j, rfl⟩ := Int.eq_ofNat_of_zero_le hx.1
    have hs2 := hu2.size
    have hWs := HC.out.2.2
    exact ⟨_, rfl, ⟨j, rfl, by omega⟩, hu2, hS2, HC.out.2.1.trans hu2, by omega⟩
   ·obtain ⟨b, t7, h1, h2, h3⟩ : Rg11 (w.heap.size + 1) g _ 0 (a1.tmps.getD 7 undef) W := hdep ⟨0, .data⟩ (by simp) rfl _ rfl
    have t7q := tq t7
    obtain ⟨j, t9, hj⟩ : Rg11 (w.heap.size + 1) g _ 2 (a1.tmps.getD 9 undef) W := hdep ⟨2, .data⟩ (by simp) rfl _ rfl
    have t9q := tq t9
    have hj1 : (j : Int) < 8 := by omega
    unfold Oper.wp
    go_simp
    exact ⟨_, rfl, ⟨b, j, rfl, hj, h1, h2, h3⟩, But.refl g W, HC.out⟩
   ·obtain ⟨b, j, t10, hj, h1, h2, h3⟩ : Rg11 (w.heap.size + 1) g _ 3 (a1.tmps.getD 10 undef) W := hdep ⟨3, .data⟩ (by simp) rfl _ rfl
    have t10q := tq t10
    have hcell : W.cell? ⟨b, j, none⟩ = some (.string (tx (codesT.getD j []))) := (h3.cell j).trans (codes_cell j hj)
    unfold Oper.wp
    go_simp
    exact ⟨_, rfl, ⟨j, rfl, hj⟩, But.refl g W, HC.out⟩
   ·have t0 : a1.tmps.getD 0 undef = .pointer (some ⟨g, 0, none⟩) := hfr.at_ rfl (by kernel_rfl)
    unfold Oper.wp
    go_simp
    exact ⟨_, rfl, rfl, But.refl g W, HC.out⟩
   ·have t12 : a1.tmps.getD 12 undef = .pointer (some ⟨g, 0, none⟩) := hdep ⟨5, .data⟩ (by simp) rfl _ rfl
    unfold Oper.wp
    go_simp
    refine (s_l01Next (a := a) (A := A) (c := c) (bs := bs) _ _ HC.out.1 (by omega)).mono ?_
    rintro e W2 ⟨x, rfl, hx, hS2, hu2⟩
    obtain ⟨j, rfl⟩ := Int.eq_ofNat_of_zero_le hx.1
    have hs2 := hu2.size
    have hWs := HC.out.2.2
    exact ⟨_, rfl, ⟨j, rfl, by omega⟩, hu2, hS2, HC.out.2.1.trans hu2, by omega⟩
   ·have t0 : a1.tmps.getD 0 undef = .pointer (some ⟨g, 0, none⟩) := hfr.at_ rfl (by kernel_rfl)
    unfold Oper.wp
    go_simp
    exact ⟨_, rfl, rfl, But.refl g W, HC.out⟩
   ·have t14 : a1.tmps.getD 14 undef = .pointer (some ⟨g, 0, none⟩) := hdep ⟨7, .data⟩ (by simp) rfl _ rfl
    unfold Oper.wp
    go_simp
    refine (s_l01Next (a := a) (A := A) (c := c) (bs := bs) _ _ HC.out.1 (by omega)).mono ?_
    rintro e W2 ⟨x, rfl, hx, hS2, hu2⟩
    obtain ⟨j, rfl⟩ := Int.eq_ofNat_of_zero_le hx.1
    have hs2 := hu2.size
    have hWs := HC.out.2.2
    exact ⟨_, rfl, ⟨j, rfl, by omega⟩, hu2, hS2, HC.out.2.1.trans hu2, by omega⟩
   ·obtain ⟨j, t15, hj⟩ : Rg11 (w.heap.size + 1) g _ 8 (a1.tmps.getD 15 undef) W := hdep ⟨8, .data⟩ (by simp) rfl _ rfl
    have t15q := tq t15
    have hw : IntKind.i64.wrap (1000 + (j : Int)) = 1000 + j := IntWalk.i64_in _ (by omega)
    unfold Oper.wp
    go_simp
    exact ⟨_, rfl, ⟨_, rfl, by omega, by omega⟩, But.refl g W, HC.out⟩
   ·obtain ⟨x, t16, hx1, hx2⟩ : Rg11 (w.heap.size + 1) g _ 9 (a1.tmps.getD 16 undef) W := hdep ⟨9, .data⟩ (by simp) rfl _ rfl
    have t16q := tq t16
    unfold Oper.wp
    go_simp
    exact ⟨_, rfl, ⟨x, rfl, hx1, hx2⟩, But.refl g W, HC.out⟩
   ·unfold Oper.wp
    go_simp
    have hWs := HC.out.2.2
    exact ⟨_, rfl, ⟨_, rfl, by omega, by omega, bN (by omega)⟩, uA uR, HC.out.1.alloc _, HC.out.2.1.alloc _, by omega⟩
   ·obtain ⟨j, t11, hj⟩ : Rg11 (w.heap.size + 1) g _ 4 (a1.tmps.getD 11 undef) W := hdep ⟨4, .data⟩ (by simp) rfl _ rfl
    have t11q := tq t11
    obtain ⟨k, t13, hk⟩ : Rg11 (w.heap.size + 1) g _ 6 (a1.tmps.getD 13 undef) W := hdep ⟨6, .data⟩ (by simp) rfl _ rfl
    have t13q := tq t13
    obtain ⟨x, t17, hx1, hx2⟩ : Rg11 (w.heap.size + 1) g _ 10 (a1.tmps.getD 17 undef) W := hdep ⟨10, .data⟩ (by simp) rfl _ rfl
    have t17q := tq t17
    obtain ⟨b, t18, h1, h2, h3⟩ : Rg11 (w.heap.size + 1) g _ 11 (a1.tmps.getD 18 undef) W := hdep ⟨11, .data⟩ (by simp) rfl _ rfl
    have t18q := tq t18
    unfold Oper.wp
    go_simp
    exact ⟨_, rfl, ⟨b, j, k, x, rfl, hj, hk, ⟨hx1, hx2⟩, h1, h2, h3⟩, But.refl g W, HC.out⟩
   ·unfold Oper.wp
    go_simp
    have hWs := HC.out.2.2
    exact ⟨_, rfl, ⟨_, rfl, by omega, by omega, bN (by omega)⟩, uA uR, HC.out.1.alloc _, HC.out.2.1.alloc _, by omega⟩
  case hend =>
   intro a1 W hfr hR hC
   obtain ⟨bn, j, k, x, t19, hj, hk, hx, h1, h2, h3⟩ : Rg11 (w.heap.size + 1) g _ 12 (a1.tmps.getD 19 undef) W := hR 12 _ (by omega) rfl
   obtain ⟨b2, t3, g1, g2, g3⟩ : Rg11 (w.heap.size + 1) g _ 13 (a1.tmps.getD 3 undef) W := hR 13 _ (by omega) rfl
   have t19q := tq t19
   have t3q := tq t3
   have hbb : ¬ bn = b2 := fun e => by
    subst e
    exact absurd (Blk.ty h3 g3) (by decide)
   have hbb2 : ¬ b2 = bn := fun e => hbb e.symm
   have HC := hI hC
   have HB3 := hI g3
   have HBN := hI h3
   have z0 := g3.frozen 0
   have z1 := g3.frozen 1
   have z2 := g3.frozen 2
   have z3 := g3.frozen 3
   have z4 := g3.frozen 4
   have y0 : W.cell? ⟨b2, 0, none⟩ = some (.string ⟨#[]⟩) := g3.cell 0
   have y1 : W.cell? ⟨b2, 1, none⟩ = some (.int .i64 0) := g3.cell 1
   have y2 : W.cell? ⟨b2, 2, none⟩ = some (.int .i64 0) := g3.cell 2
   have y3 : W.cell? ⟨b2, 3, none⟩ = some (.int .i64 0) := g3.cell 3
   have y4 : W.cell? ⟨b2, 4, none⟩ = some (.slice none 0 0) := g3.cell 4
   have hl2 := g3.lt
   clear hC g3 h3
   refine wpAny_one (i := 14) (by kernel_rfl) (wpOp_of rfl rfl ?_)
   unfold Oper.wp
   go_simp
   refine wpAny_end (by kernel_rfl) ?_
   have hB0 : Blk W w.heap.size 57 #[.string ⟨#[]⟩, .int .i64 0, .int .i64 0, .int .i64 0, .slice none 0 0] := Blk.but' HC.out.2.1 nb (Blk.new rfl)
   have hg3 := HB3.out
   have hbn := HBN.out
   have nb2 : ¬ w.heap.size = b2 := by omega
   have HU0 : But g w W := But.trans (But.alloc (But.refl g w) _) HC.out.2.1
   have HS0 := HC.out.1
   have hsh := hfr.shape [false, false, false, true, false, false, false, true, true, true, true, true, true, true, true, true, true, true, true, true, false, false, false, false, false, false, false, false, false, false, false, false, false, false, false, false, false, false, false, false, false, false, false, false, false, false, false, false, false, false, false, false, false, false, false, false, false, false, false, false, false, false, false, false, false, false, false, false, false, false, false, false, false, false, false, false, false, false, false, false, false, false, false, false] (by rfl) (by kernel_rfl)
   simp only [mixL] at hsh
   rw [hsh]
   go_wp2_with fail
   go_meet
   exact ⟨b2, bn, codesT.getD j [], k, x, t3, codes_sm hj, by have := (codes_ok j hj).2.2; omega, by omega, hx, by omega, g2, by omega, h2, hbb, bF hbb (bF hbb (bF hbb (bF hbb (bF hbb hbn)))), Blk.eq (bS (bS (bS (bS (bS hg3))))) (by simp), bF nb2 (bF nb2 (bF nb2 (bF nb2 (bF nb2 hB0)))), sF (by omega) (by omega) (sF (by omega) (by omega) (sF (by omega) (by omega) (sF (by omega) (by omega) (sF (by omega) (by omega) HS0)))), uW (by omega) (uW (by omega) (uW (by omega) (uW (by omega) (uW (by omega) HU0))))⟩
 case rest =>
  obtain ⟨b, bn, t, k, x, rfl, hsm, htl, hk6, hx, hb, nbg, hbn, nbng, hbb, hBN, hB, hB0, hSc, hUc⟩ := hcut
  obtain ⟨w1, rfl⟩ : ∃ q, q = wc := ⟨wc, rfl⟩
  have hsc := hUc.size
  have HB := hI hB
  have HBN := hI hBN
  have HB0 := hI hB0
  have HS := hI hSc
  have HU := hI hUc
  have HSM := hI hsm
  have hlb := hB.lt
  have hlbn := hBN.lt
  have hgw : g < w1.heap.size := by omega
  have n1 : ¬ g = b := fun e => nbg e.symm
  have n2 : ¬ g = w.heap.size := by omega
  have n3 : ¬ b = w.heap.size := by omega
  have n4 : ¬ w.heap.size = b := by omega
  have n5 : ¬ bn = w.heap.size := by omega
  have n6 : ¬ b = bn := fun e => hbb e.symm
  clear hB hBN hB0 hSc hUc hsm
  go_upto_region 2 with (fail)
  go_cut [] (fun wx => ∃ y : Int, (x + 100 ≤ y ∧ y ≤ x + 1099) ∧ Hid (Blk wx bn 117 #[]) ∧ Hid (Blk wx b 57 #[.string (tx t), .int .i64 k, .int .i64 x, .int .i64 y, .slice (some ⟨bn, 0, none⟩) 0 0]) ∧ Hid (Blk wx w.heap.size 57 #[.string ⟨#[]⟩, .int .i64 0, .int .i64 0, .int .i64 0, .slice none 0 0]) ∧ Hid (Src a A c bs g wx) ∧ Hid (But g w wx))
  case first =>
   refine wp_region_rgb (m := 9) (C := fun W => Src a A c bs g W ∧ But g w1 W ∧ w.heap.size < W.heap.size) (K := But g) (R := Rg11b b x (.pointer (some ⟨g, 0, none⟩))) Tryz.f107.ntmps (by kernel_rfl) (by kernel_rfl) (by simp) (by rw [Tryz.ntmps107]; simp) (fun i v w w' _ => Rg11b.stay i v w w') ?hC ?hstep ?hend
   case hC =>
    have HS0 := HS.out
    exact ⟨sD HS0, uD uR, by first | omega | (simp; omega)⟩
   case hstep =>
    simp only [List.take_succ_cons, List.take_zero]
    refine AllFrom.cons ?_ <| AllFrom.cons ?_ <| AllFrom.cons ?_ <| AllFrom.cons ?_ <| AllFrom.cons ?_ <| AllFrom.cons ?_ <| AllFrom.cons ?_ <| AllFrom.cons ?_ <| AllFrom.cons ?_ AllFrom.nil
    all_goals (intro a1 W hfr hdep hC; have HC := hI hC; clear hC)
    ·have t3 : a1.tmps.getD 3 undef = .pointer (some ⟨b, 0, none⟩) := hfr.at_ rfl (by kernel_rfl)
     unfold Oper.wp
     go_simp
     exact ⟨_, rfl, rfl, But.refl g W, HC.out⟩
    ·have t20 : a1.tmps.getD 20 undef = .pointer (some ⟨b, 2, none⟩) := hdep ⟨0, .data⟩ (by simp) rfl _ rfl
     unfold Oper.wp
     go_simp
     exact ⟨_, rfl, rfl, But.refl g W, HC.out⟩
    ·have t21 : a1.tmps.getD 21 undef = .pointer (some ⟨b, 2, none⟩) := hdep ⟨1, .data⟩ (by simp) rfl _ rfl
     have hBW : Blk W b 57 #[.string (tx t), .int .i64 k, .int .i64 x, .int .i64 0, .slice (some ⟨bn, 0, none⟩) 0 0] := Blk.but' HC.out.2.1 nbg HB.out
     have c2 : W.cell? ⟨b, 2, none⟩ = some (.int .i64 x) := hBW.cell 2
     unfold Oper.wp
     go_simp
     exact ⟨_, rfl, rfl, But.refl g W, HC.out⟩
    ·have t22 : a1.tmps.getD 22 undef = .int .i64 x := hdep ⟨2, .data⟩ (by simp) rfl _ rfl
     have hw : IntKind.i64.wrap (x + 100) = x + 100 := IntWalk.i64_in _ (by omega)
     unfold Oper.wp
     go_simp
     exact ⟨_, rfl, rfl, But.refl g W, HC.out⟩
    ·have t0 : a1.tmps.getD 0 undef = .pointer (some ⟨g, 0, none⟩) := hfr.at_ rfl (by kernel_rfl)
     unfold Oper.wp
     go_simp
     exact ⟨_, rfl, rfl, But.refl g W, HC.out⟩
    ·have t24 : a1.tmps.getD 24 undef = .pointer (some ⟨g, 0, none⟩) := hdep ⟨4, .data⟩ (by simp) rfl _ rfl
     unfold Oper.wp
     go_simp
     refine (s_l01Next (a := a) (A := A) (c := c) (bs := bs) _ _ HC.out.1 (by omega)).mono ?_
     rintro e W2 ⟨x, rfl, hx, hS2, hu2⟩
     obtain ⟨j, rfl⟩ := Int.eq_ofNat_of_zero_le hx.1
     have hs2 := hu2.size
     have hWs := HC.out.2.2
     exact ⟨_, rfl, ⟨j, rfl, by omega⟩, hu2, hS2, HC.out.2.1.trans hu2, by omega⟩
    ·have t23 : a1.tmps.getD 23 undef = .int .i64 (x + 100) := hdep ⟨3, .data⟩ (by simp) rfl _ rfl
     obtain ⟨j, t25, hj⟩ : Rg11b b x _ 5 (a1.tmps.getD 25 undef) W := hdep ⟨5, .data⟩ (by simp) rfl _ rfl
     have t25q := tq t25
     have hw : IntKind.i64.wrap (x + 100 + (j : Int)) = x + 100 + j := IntWalk.i64_in _ (by omega)
     unfold Oper.wp
     go_simp
     exact ⟨_, rfl, ⟨_, rfl, by omega, by omega⟩, But.refl g W, HC.out⟩
    ·have t3 : a1.tmps.getD 3 undef = .pointer (some ⟨b, 0, none⟩) := hfr.at_ rfl (by kernel_rfl)
     unfold Oper.wp
     go_simp
     exact ⟨_, rfl, rfl, But.refl g W, HC.out⟩
    ·have t27 : a1.tmps.getD 27 undef = .pointer (some ⟨b, 2, none⟩) := hdep ⟨7, .data⟩ (by simp) rfl _ rfl
     unfold Oper.wp
     go_simp
     exact ⟨_, rfl, rfl, But.refl g W, HC.out⟩
   case hend =>
    intro a1 W hfr hR hC
    obtain ⟨y, t26, hy1, hy2⟩ : Rg11b b x _ 6 (a1.tmps.getD 26 undef) W := hR 6 _ (by omega) rfl
    have t28 : a1.tmps.getD 28 undef = .pointer (some ⟨b, 3, none⟩) := hR 8 _ (by omega) rfl
    have t26q := tq t26
    have t28q := tq t28
    have HC := hI hC
    have hBW : Blk W b 57 #[.string (tx t), .int .i64 k, .int .i64 x, .int .i64 0, .slice (some ⟨bn, 0, none⟩) 0 0] := Blk.but' hC.2.1 nbg HB.out
    have hNW : Blk W bn 117 #[] := Blk.but' hC.2.1 nbng HBN.out
    have h0W : Blk W w.heap.size 57 #[.string ⟨#[]⟩, .int .i64 0, .int .i64 0, .int .i64 0, .slice none 0 0] := Blk.but' hC.2.1 nb HB0.out
    have z3 := hBW.frozen 3
    have c3 : W.cell? ⟨b, 3, none⟩ = some (.int .i64 0) := hBW.cell 3
    have HBW := hI hBW
    have HNW := hI hNW
    have H0W := hI h0W
    have hl2 := hBW.lt
    clear hC hBW hNW h0W
    refine wpAny_one (i := 9) (by kernel_rfl) (wpOp_of rfl rfl ?_)
    unfold Oper.wp
    go_simp
    refine wpAny_end (by kernel_rfl) ?_
    have hBW := HBW.out
    have hNW := HNW.out
    have h0W := H0W.out
    have HU0 : But g w W := But.trans HU.out HC.out.2.1
    have HS0 := HC.out.1
    have hsh := hfr.shape [false, false, false, false, false, false, false, false, false, false, false, false, false, false, false, false, false, false, false, false, true, true, true, true, true, true, true, true, true, false, false, false, false, false, false, false, false, false, false, false, false, false, false, false, false, false, false, false, false, false, false, false, false, false, false, false, false, false, false, false, false, false, false, false, false, false, false, false, false, false, false, false, false, false, false, false, false, false, false, false, false, false, false, false] (by rfl) (by kernel_rfl)
    simp only [mixL] at hsh
    rw [hsh]
    go_wp2_with fail
    go_meet
    exact ⟨y, ⟨hy1, hy2⟩, hI (bF hbb hNW), hI (Blk.eq (bS hBW) (by rfl)), hI (bF n4 h0W), hI (sF n1 (by omega) HS0), hI (uW (by omega) HU0)⟩
  case rest =>
   obtain ⟨y, hy, GBN, GB, GB0, GS, GU⟩ := hcut
   obtain ⟨w2, rfl⟩ : ∃ q, q = wc := ⟨wc, rfl⟩
   clear HB HBN HB0 HS HU hsc hlb hlbn hgw
   have hs2 := GU.out.size
   have hlb := GB.out.lt
   have hlbn := GBN.out.lt
   go_wp2_with fail
   refine (s_l01Next (a := a) (A := A) (c := c) (bs := bs) _ _ GS.out (by omega)).mono ?_
   rintro e w3 ⟨k3, rfl, hk3, hS3, hu3⟩
   obtain ⟨m, rfl⟩ := Int.eq_ofNat_of_zero_le hk3.1
   have hm3 : m ≤ 3 := by omega
   have hs3 := hu3.size
   have HB3 := hI (GB.out.but' hu3 nbg)
   have HN3 : Hid (SlAt w3 5 encN (some ⟨bn, 0, none⟩) []) := hI (fun h0 => absurd h0 (by simp))
   have HZ3 := hI (GB0.out.but' hu3 nb)
   have HS3 := hI hS3
   have HU3 := hI (GU.out.trans hu3)
   have HNI : Hid (NsIn x y []) := hI ⟨by simp [nsB_iff], fun n hn => (by cases hn), fun n hn => (by cases hn)⟩
   have HAn : Hid (∀ z : Addr, some (⟨bn, 0, none⟩ : Addr) = some z → w.heap.size < z.block ∧ ¬ z.block = g ∧ ¬ z.block = b ∧ z.block < w3.heap.size) := hI (fun z hz => by injection hz with hz; subst hz; exact ⟨hbn, nbng, hbb, by show bn < w3.heap.size; omega⟩)
   clear GBN GB GB0 GS GU hu3 hS3 hlbn hk3
   go_wp2
   go_loopw [4] (fun i wr => ∃ (q : Nat) (An : Option Addr) (cn : Nat) (ns : List Nm), i = .int .i64 q ∧ q ≤ 3 ∧ ns.length + q ≤ 3 ∧ ns.length ≤ cn ∧ Hid (NsIn x y ns) ∧ Hid (SlAt wr 5 encN An ns) ∧ Hid (∀ z : Addr, An = some z → w.heap.size < z.block ∧ ¬ z.block = g ∧ ¬ z.block = b ∧ z.block < wr.heap.size) ∧ Hid (Blk wr b 57 #[.string (tx t), .int .i64 k, .int .i64 x, .int .i64 y, .slice An ns.length cn]) ∧ Hid (Blk wr w.heap.size 57 #[.string ⟨#[]⟩, .int .i64 0, .int .i64 0, .int .i64 0, .slice none 0 0]) ∧ Hid (Src a A c bs g wr) ∧ Hid (But g w wr)) (fun i _ => (intOf i).toNat)
   case atStart => exact ⟨m, some ⟨bn, 0, none⟩, 0, [], by go_num, hm3, by simp; omega, by simp, HNI, HN3, HAn, HB3, HZ3, HS3, HU3⟩
   case round =>
    clear HB3 HN3 HZ3 HS3 HU3 HNI HAn hs3 hs2
    obtain ⟨q, An, cn, ns, rfl, hq3, hnq, hcn, HNI, HN, HAn, HB, HZ, HSr, HUr⟩ := hrel
    obtain ⟨w5, rfl⟩ : ∃ z, z = wr := ⟨wr, rfl⟩
    have hs5 := HUr.out.size
    have hlb5 := HB.out.lt
    by_cases hk0 : 0 < q
    ·obtain ⟨r, rfl⟩ : ∃ r, q = r + 1 := ⟨q - 1, by omega⟩
     go_upto_region 6 with (fail)
     go_cut [5] (fun p wx => ∃ (b5 : Nat) (xn : Nm), p = .pointer (some ⟨b5, 0, none⟩) ∧ NmOk xn ∧ w5.heap.size ≤ b5 ∧ Hid (Blk wx b5 117 #[.string (tx xn.1), .string (tx xn.2.1), .int .i64 xn.2.2.1, .int .i64 xn.2.2.2.1, .int .i64 xn.2.2.2.2]) ∧ Hid (But g w5 wx) ∧ Hid (Src a A c bs g wx))
     case first =>
      go_wp2_with fail
      refine (s_l09Draw (a := a) (A := A) (c := c) (bs := bs) _ HSr.out).mono ?_
      rintro e w6 ⟨xn, rfl, hok, hS6, hu6⟩
      have HS6 := hI hS6
      have HU6 := hI hu6
      have hs6 := hu6.size
      have HOK := hI hok
      have ng6 : ¬ g = w6.heap.size := by omega
      clear hS6 hu6 hok
      go_wp2_with fail
      go_meet
      have hS6 := HS6.out
      have hu6 := HU6.out
      exact ⟨w6.heap.size, xn, rfl, HOK.out, by omega, hI (Blk.eq (bN (by omega)) (by rfl)), hI (uA hu6), hI (sA hS6)⟩
     case rest =>
     obtain ⟨b5, xn, rfl, hok, hb5, G5, GU, GS⟩ := hcut
     obtain ⟨w7, rfl⟩ : ∃ z, z = wc := ⟨wc, rfl⟩
     obtain ⟨xt, xl, xs, xf, xd⟩ := xn
     unfold NmOk at hok
     simp only at hok G5
     have HOK := hI hok
     have hs7 := GU.out.size
     have nb5 : ¬ b5 = g := by omega
     have nb5' : ¬ g = b5 := by omega
     have n57 : ¬ b5 = b := by omega
     have n75 : ¬ b = b5 := by omega
     have n5w : ¬ b5 = w.heap.size := by omega
     have nw5 : ¬ w.heap.size = b5 := by omega
     have hl5 := G5.out.lt
     have HB7 := hI (HB.out.but' GU.out nbg)
     have HN7 := hI (HN.out.butG GU.out (fun z hz => (HAn.out z hz).2.1))
     have HZ7 := hI (HZ.out.but' GU.out nb)
     have HU7 := hI (HUr.out.trans GU.out)
     have hlb7 := HB7.out.lt
     clear hok HSr HB HN HZ
     go_upto_region 7 with (fail)
     go_cut [] (fun wx => ∃ f d : Int, (x ≤ f ∧ f ≤ x + 59) ∧ (y - 29 ≤ d ∧ d ≤ y) ∧ Hid (Blk wx b5 117 #[.string (tx xt), .string (tx xl), .int .i64 xs, .int .i64 f, .int .i64 d]) ∧ Hid (SlAt wx 5 encN An ns) ∧ Hid (Blk wx b 57 #[.string (tx t), .int .i64 k, .int .i64 x, .int .i64 y, .slice An ns.length cn]) ∧ Hid (Blk wx w.heap.size 57 #[.string ⟨#[]⟩, .int .i64 0, .int .i64 0, .int .i64 0, .slice none 0 0]) ∧ Hid (Src a A c bs g wx) ∧ Hid (But g w wx))
     case first =>
      refine wp_region_rgb (m := 17) (C := fun W => Src a A c bs g W ∧ But g w7 W ∧ w.heap.size < W.heap.size) (K := But g) (R := Rg11c w7.heap.size g b b5 x y (.pointer (some ⟨g, 0, none⟩))) Tryz.f107.ntmps (by kernel_rfl) (by kernel_rfl) (by simp) (by rw [Tryz.ntmps107]; simp) (fun i v w w' => Rg11c.stay i v w w') ?hC ?hstep ?hend
      case hC =>
       have HS0 := GS.out
       exact ⟨sD HS0, uD uR, by first | omega | (simp; omega)⟩
      case hstep =>
       simp only [List.take_succ_cons, List.take_zero]
       refine AllFrom.cons ?_ <| AllFrom.cons ?_ <| AllFrom.cons ?_ <| AllFrom.cons ?_ <| AllFrom.cons ?_ <| AllFrom.cons ?_ <| AllFrom.cons ?_ <| AllFrom.cons ?_ <| AllFrom.cons ?_ <| AllFrom.cons ?_ <| AllFrom.cons ?_ <| AllFrom.cons ?_ <| AllFrom.cons ?_ <| AllFrom.cons ?_ <| AllFrom.cons ?_ <| AllFrom.cons ?_ <| AllFrom.cons ?_ AllFrom.nil
       all_goals (intro a1 W hfr hdep hC; have HC := hI hC; clear hC)
       ·have t3 : a1.tmps.getD 3 undef = .pointer (some ⟨b, 0, none⟩) := hfr.at_ rfl (by kernel_rfl)
        unfold Oper.wp
        go_simp
        exact ⟨_, rfl, rfl, But.refl g W, HC.out⟩
       ·have t37 : a1.tmps.getD 37 undef = .pointer (some ⟨b, 2, none⟩) := hdep ⟨0, .data⟩ (by simp) rfl _ rfl
        unfold Oper.wp
        go_simp
        exact ⟨_, rfl, rfl, But.refl g W, HC.out⟩
       ·have t38 : a1.tmps.getD 38 undef = .pointer (some ⟨b, 2, none⟩) := hdep ⟨1, .data⟩ (by simp) rfl _ rfl
        have hBW : Blk W b 57 #[.string (tx t), .int .i64 k, .int .i64 x, .int .i64 y, .slice An ns.length cn] := Blk.but' HC.out.2.1 nbg HB7.out
        have c2 : W.cell? ⟨b, 2, none⟩ = some (.int .i64 x) := hBW.cell 2
        have hll := hBW.lt
        unfold Oper.wp
        go_simp
        exact ⟨_, rfl, rfl, But.refl g W, HC.out⟩
       ·have t0 : a1.tmps.getD 0 undef = .pointer (some ⟨g, 0, none⟩) := hfr.at_ rfl (by kernel_rfl)
        unfold Oper.wp
        go_simp
        exact ⟨_, rfl, rfl, But.refl g W, HC.out⟩
       ·have t40 : a1.tmps.getD 40 undef = .pointer (some ⟨g, 0, none⟩) := hdep ⟨3, .data⟩ (by simp) rfl _ rfl
        unfold Oper.wp
        go_simp
        refine (s_l01Next (a := a) (A := A) (c := c) (bs := bs) _ _ HC.out.1 (by omega)).mono ?_
        rintro e W2 ⟨x, rfl, hx, hS2, hu2⟩
        obtain ⟨j, rfl⟩ := Int.eq_ofNat_of_zero_le hx.1
        have hs2 := hu2.size
        have hWs := HC.out.2.2
        exact ⟨_, rfl, ⟨j, rfl, by omega⟩, hu2, hS2, HC.out.2.1.trans hu2, by omega⟩
       ·have t39 : a1.tmps.getD 39 undef = .int .i64 x := hdep ⟨2, .data⟩ (by simp) rfl _ rfl
        obtain ⟨j, t41, hj⟩ : Rg11c w7.heap.size g b b5 x y _ 4 (a1.tmps.getD 41 undef) W := hdep ⟨4, .data⟩ (by simp) rfl _ rfl
        have t41q := tq t41
        have hw : IntKind.i64.wrap (x + (j : Int)) = x + j := IntWalk.i64_in _ (by omega)
        unfold Oper.wp
        go_simp
        exact ⟨_, rfl, ⟨_, rfl, by omega, by omega⟩, But.refl g W, HC.out⟩
       ·have t3 : a1.tmps.getD 3 undef = .pointer (some ⟨b, 0, none⟩) := hfr.at_ rfl (by kernel_rfl)
        unfold Oper.wp
        go_simp
        exact ⟨_, rfl, rfl, But.refl g W, HC.out⟩
       ·have t43 : a1.tmps.getD 43 undef = .pointer (some ⟨b, 2, none⟩) := hdep ⟨6, .data⟩ (by simp) rfl _ rfl
        unfold Oper.wp
        go_simp
        exact ⟨_, rfl, rfl, But.refl g W, HC.out⟩
       ·have t44 : a1.tmps.getD 44 undef = .pointer (some ⟨b, 3, none⟩) := hdep ⟨7, .data⟩ (by simp) rfl _ rfl
        have hBW : Blk W b 57 #[.string (tx t), .int .i64 k, .int .i64 x, .int .i64 y, .slice An ns.length cn] := Blk.but' HC.out.2.1 nbg HB7.out
        have c3 : W.cell? ⟨b, 3, none⟩ = some (.int .i64 y) := hBW.cell 3
        have hll := hBW.lt
        unfold Oper.wp
        go_simp
        exact ⟨_, rfl, rfl, But.refl g W, HC.out⟩
       ·have t0 : a1.tmps.getD 0 undef = .pointer (some ⟨g, 0, none⟩) := hfr.at_ rfl (by kernel_rfl)
        unfold Oper.wp
        go_simp
        exact ⟨_, rfl, rfl, But.refl g W, HC.out⟩
       ·have t0 : a1.tmps.getD 0 undef = .pointer (some ⟨g, 0, none⟩) := hfr.at_ rfl (by kernel_rfl)
        unfold Oper.wp
        go_simp
        exact ⟨_, rfl, rfl, But.refl g W, HC.out⟩
       ·have t47 : a1.tmps.getD 47 undef = .pointer (some ⟨g, 0, none⟩) := hdep ⟨10, .data⟩ (by simp) rfl _ rfl
        unfold Oper.wp
        go_simp
        refine (s_l01Next (a := a) (A := A) (c := c) (bs := bs) _ _ HC.out.1 (by omega)).mono ?_
        rintro e W2 ⟨x, rfl, hx, hS2, hu2⟩
        obtain ⟨j, rfl⟩ := Int.eq_ofNat_of_zero_le hx.1
        have hs2 := hu2.size
        have hWs := HC.out.2.2
        exact ⟨_, rfl, ⟨j, rfl, by omega⟩, hu2, hS2, HC.out.2.1.trans hu2, by omega⟩
       ·obtain ⟨j, t48, hj⟩ : Rg11c w7.heap.size g b b5 x y _ 11 (a1.tmps.getD 48 undef) W := hdep ⟨11, .data⟩ (by simp) rfl _ rfl
        have t48q := tq t48
        have hUW := HC.out.2.1.size
        unfold Oper.wp
        go_simp
        have hWs := HC.out.2.2
        exact ⟨_, rfl, ⟨_, j, rfl, hj, by omega, by omega, bN (by omega)⟩, uA uR, HC.out.1.alloc _, HC.out.2.1.alloc _, by omega⟩
       ·have t46 : a1.tmps.getD 46 undef = .pointer (some ⟨g, 0, none⟩) := hdep ⟨9, .data⟩ (by simp) rfl _ rfl
        obtain ⟨q9, j, t49, hj, h1, h2, h3⟩ : Rg11c w7.heap.size g b b5 x y _ 12 (a1.tmps.getD 49 undef) W := hdep ⟨12, .data⟩ (by simp) rfl _ rfl
        have t49q := tq t49
        have hbl := h3.lt
        have HP := hI h3
        clear h3
        unfold Oper.wp
        go_simp
        refine (s_l01Pick (a := a) (A := A) (c := c) (bs := bs) q9 0 2 [0, (j : Int)] _ HC.out.1 (Blk.sl HP.out (by rfl) (fun _ => rfl)) (by simp) (by simp) hbl h2).mono ?_
        rintro e W2 ⟨d9, rfl, hd9, hS2, hu2⟩
        have hd2 : 0 ≤ d9 ∧ d9 ≤ 29 := by simp at hd9; omega
        have hs2 := hu2.size
        have hWs := HC.out.2.2
        exact ⟨_, rfl, ⟨d9, rfl, hd2.1, hd2.2⟩, hu2, hS2, HC.out.2.1.trans hu2, by omega⟩
       ·have t45 : a1.tmps.getD 45 undef = .int .i64 y := hdep ⟨8, .data⟩ (by simp) rfl _ rfl
        obtain ⟨d9, t50, hd1, hd2⟩ : Rg11c w7.heap.size g b b5 x y _ 13 (a1.tmps.getD 50 undef) W := hdep ⟨13, .data⟩ (by simp) rfl _ rfl
        have t50q := tq t50
        have hw : IntKind.i64.wrap (y - d9) = y - d9 := IntWalk.i64_in _ (by omega)
        unfold Oper.wp
        go_simp
        exact ⟨_, rfl, ⟨_, rfl, by omega, by omega⟩, But.refl g W, HC.out⟩
       ·obtain ⟨f, t42, hf1, hf2⟩ : Rg11c w7.heap.size g b b5 x y _ 5 (a1.tmps.getD 42 undef) W := hdep ⟨5, .data⟩ (by simp) rfl _ rfl
        have t42q := tq t42
        obtain ⟨d9, t51, hd1, hd2⟩ : Rg11c w7.heap.size g b b5 x y _ 14 (a1.tmps.getD 51 undef) W := hdep ⟨14, .data⟩ (by simp) rfl _ rfl
        have t51q := tq t51
        unfold Oper.wp
        go_simp
        exact ⟨_, rfl, ⟨f, d9, rfl, ⟨hf1, hf2⟩, hd1, hd2⟩, But.refl g W, HC.out⟩
       ·have t5 : a1.tmps.getD 5 undef = .pointer (some ⟨b5, 0, none⟩) := hfr.at_ rfl (by kernel_rfl)
        unfold Oper.wp
        go_simp
        exact ⟨_, rfl, rfl, But.refl g W, HC.out⟩
      case hend =>
       intro a1 W hfr hR hC
       obtain ⟨f, d, t52, hf, hd⟩ : Rg11c w7.heap.size g b b5 x y _ 15 (a1.tmps.getD 52 undef) W := hR 15 _ (by omega) rfl
       have t53 : a1.tmps.getD 53 undef = .pointer (some ⟨b5, 3, none⟩) := hR 16 _ (by omega) rfl
       have t52q := tq t52
       have t53q := tq t53
       have HC := hI hC
       have h5W : Blk W b5 117 #[.string (tx xt), .string (tx xl), .int .i64 xs, .int .i64 xf, .int .i64 xd] := Blk.but' hC.2.1 nb5 G5.out
       have HBW := hI (HB7.out.but' hC.2.1 nbg)
       have HNW := hI (HN7.out.butG hC.2.1 (fun z hz => (HAn.out z hz).2.1))
       have HZW := hI (HZ7.out.but' hC.2.1 nb)
       have z0 := h5W.frozen 0
       have z1 := h5W.frozen 1
       have z2 := h5W.frozen 2
       have z3 := h5W.frozen 3
       have z4 := h5W.frozen 4
       have y0 : W.cell? ⟨b5, 0, none⟩ = some (.string (tx xt)) := h5W.cell 0
       have y1 : W.cell? ⟨b5, 1, none⟩ = some (.string (tx xl)) := h5W.cell 1
       have y2 : W.cell? ⟨b5, 2, none⟩ = some (.int .i64 xs) := h5W.cell 2
       have y3 : W.cell? ⟨b5, 3, none⟩ = some (.int .i64 xf) := h5W.cell 3
       have y4 : W.cell? ⟨b5, 4, none⟩ = some (.int .i64 xd) := h5W.cell 4
       have H5W := hI h5W
       have hl2 := h5W.lt
       clear hC h5W
       refine wpAny_one (i := 17) (by kernel_rfl) (wpOp_of rfl rfl ?_)
       unfold Oper.wp
       go_simp
       refine wpAny_end (by kernel_rfl) ?_
       have h5W := H5W.out
       have hBW := HBW.out
       have hZW := HZW.out
       have HU0 : But g w W := But.trans HU7.out HC.out.2.1
       have HS0 := HC.out.1
       have hsh := hfr.shape [false, false, false, false, false, false, false, false, false, false, false, false, false, false, false, false, false, false, false, false, false, false, false, false, false, false, false, false, false, false, false, false, false, false, false, false, false, true, true, true, true, true, true, true, true, true, true, true, true, true, true, true, true, true, false, false, false, false, false, false, false, false, false, false, false, false, false, false, false, false, false, false, false, false, false, false, false, false, false, false, false, false, false, false] (by rfl) (by kernel_rfl)
       simp only [mixL] at hsh
       rw [hsh]
       go_wp2_with fail
       go_meet
       refine ⟨f, d, hf, hd, hI (Blk.eq (bS (bS h5W)) (by rfl)), hI ((HNW.out.setFar (fun z hz => by have := (HAn.out z hz).2.2.2; show ¬ z.block = b5; omega) _).setFar (fun z hz => by have := (HAn.out z hz).2.2.2; show ¬ z.block = b5; omega) _), hI (bF n75 (bF n75 hBW)), hI (bF nw5 (bF nw5 hZW)), hI (sF nb5' (by omega) (sF nb5' (by omega) HS0)), hI (uW (by omega) (uW (by omega) HU0))⟩
     case rest =>
      obtain ⟨f, d, hf, hd, G5b, GNb, GBb, GZb, GSb, GUb⟩ := hcut
      obtain ⟨w8, rfl⟩ : ∃ z, z = wc := ⟨wc, rfl⟩
      have hs8 := GUb.out.size
      have hl8 := G5b.out.lt
      have hx5b := hI HAn.out
      clear G5 GU GS HB7 HN7 HZ7 HU7
      go_wp2_with fail
      refine (s_l01Next (a := a) (A := A) (c := c) (bs := bs) _ _ GSb.out (by omega)).mono ?_
      rintro e w9 ⟨j9, rfl, hj9, hS9, hu9⟩
      have hs9 := hu9.size
      have H59 := hI (G5b.out.but' hu9 nb5)
      have HN9 := hI (GNb.out.butG hu9 (fun z hz => (HAn.out z hz).2.1))
      have HB9 := hI (GBb.out.but' hu9 nbg)
      have HZ9 := hI (GZb.out.but' hu9 nb)
      have HS9 := hI hS9
      have HU9 := hI (GUb.out.trans hu9)
      have hl9 := H59.out.lt
      clear G5b GNb GBb GZb GSb GUb hu9 hS9
      go_upto_if 56 with (fail)
      go_cut [] (fun wx => ∃ t9 : List UInt8, t9.length ≤ 40 ∧ Hid (Blk wx b5 117 #[.string (tx t9), .string (tx xl), .int .i64 xs, .int .i64 f, .int .i64 d]) ∧ Hid (SlAt wx 5 encN An ns) ∧ Hid (Blk wx b 57 #[.string (tx t), .int .i64 k, .int .i64 x, .int .i64 y, .slice An ns.length cn]) ∧ Hid (Blk wx w.heap.size 57 #[.string ⟨#[]⟩, .int .i64 0, .int .i64 0, .int .i64 0, .slice none 0 0]) ∧ Hid (Src a A c bs g wx) ∧ Hid (But g w wx))
      case first =>
       by_cases q0 : j9 = 0
       ·subst q0
        (go_wp2_with fail; refine (s_l01Next (a := a) (A := A) (c := c) (bs := bs) _ _ (HS9.out.alloc _) (by omega)).mono ?_; rintro e w10 ⟨x10, rfl, hb10, hS10, hu10⟩; obtain ⟨hc10, hf10, hs10⟩ := hu10.all; (try simp at hs10); have := (show w9.heap.size < w10.heap.size from by omega))
        obtain ⟨j, rfl⟩ := Int.eq_ofNat_of_zero_le hb10.1
        have hj : j < 2 := by omega
        have hP : Blk w10 w9.heap.size 9 oldnV := blk_is (bU hu10 (by omega) (bN (by omega))) (by rfl)
        have hcell : w10.cell? ⟨w9.heap.size, j, none⟩ = some (.string (tx (oldnT.getD j []))) := (hP.cell j).trans (oldn_cell j hj)
        have hlen := oldn_ok j hj
        generalize oldnT.getD j [] = t9 at *
        have hu10' : But g w9 w10 := (But.alloc (But.refl g w9) _).trans hu10
        have B5 := H59.out.but' hu10' nb5
        have HN10 := hI (HN9.out.butG hu10' (fun z hz => (HAn.out z hz).2.1))
        have HB10 := hI (HB9.out.but' hu10' nbg)
        have HZ10 := hI (HZ9.out.but' hu10' nb)
        have HU10 := hI (HU9.out.trans hu10')
        have HS10 := hI hS10
        have HB5 := hI B5
        have hl10 := B5.lt
        have z0 := B5.frozen 0
        have z1 := B5.frozen 1
        have z2 := B5.frozen 2
        have z3 := B5.frozen 3
        have z4 := B5.frozen 4
        have y0 : w10.cell? ⟨b5, 0, none⟩ = some (.string (tx xt)) := B5.cell 0
        have y1 : w10.cell? ⟨b5, 1, none⟩ = some (.string (tx xl)) := B5.cell 1
        have y2 : w10.cell? ⟨b5, 2, none⟩ = some (.int .i64 xs) := B5.cell 2
        have y3 : w10.cell? ⟨b5, 3, none⟩ = some (.int .i64 f) := B5.cell 3
        have y4 : w10.cell? ⟨b5, 4, none⟩ = some (.int .i64 d) := B5.cell 4
        clear B5 hP hu10 hu10' hc10 hf10 hb10 hS10
        go_wp2_with fail
        go_meet
        have h5 := HB5.out
        have hbb1 := HB10.out
        have hz1 := HZ10.out
        have hu1 := HU10.out
        have HS0 := HS10.out
        exact ⟨t9, by omega, hI (Blk.eq (bS h5) (by rfl)), hI (HN10.out.setFar (fun z hz => by have := (HAn.out z hz).2.2.2; show ¬ z.block = b5; omega) _), hI (bF n75 hbb1), hI (bF nw5 hz1), hI (sF nb5' (by omega) HS0), hI (uW (by omega) hu1)⟩
       ·have e0 : (j9 == 0) = false := beq_eq_false_iff_ne.2 q0
        go_wp2_with fail
        go_meet
        exact ⟨xt, HOK.out.1, H59, HN9, HB9, HZ9, HS9, HU9⟩
      case rest =>
      obtain ⟨t9, ht9, G5, GN, GB, GZ, GS, GU⟩ := hcut
      obtain ⟨w11, rfl⟩ : ∃ z, z = wc := ⟨wc, rfl⟩
      clear H59 HN9 HB9 HZ9 HS9 HU9
      have hs11 := GU.out.size
      have hl11 := G5.out.lt
      have hlb11 := GB.out.lt
      have h5c := G5.out
      have hbc := GB.out
      have y0 : w11.cell? ⟨b5, 0, none⟩ = some (.string (tx t9)) := h5c.cell 0
      have y1 : w11.cell? ⟨b5, 1, none⟩ = some (.string (tx xl)) := h5c.cell 1
      have y2 : w11.cell? ⟨b5, 2, none⟩ = some (.int .i64 xs) := h5c.cell 2
      have y3 : w11.cell? ⟨b5, 3, none⟩ = some (.int .i64 f) := h5c.cell 3
      have y4 : w11.cell? ⟨b5, 4, none⟩ = some (.int .i64 d) := h5c.cell 4
      have cb4 : w11.cell? ⟨b, 4, none⟩ = some (.slice An ns.length cn) := hbc.cell 4
      have HK : Hid (∀ W, Ext w11 W → W.cell? ⟨b5, 0, none⟩ = some (.string (tx t9)) ∧ W.cell? ⟨b5, 1, none⟩ = some (.string (tx xl)) ∧ W.cell? ⟨b5, 2, none⟩ = some (.int .i64 xs) ∧ W.cell? ⟨b5, 3, none⟩ = some (.int .i64 f) ∧ W.cell? ⟨b5, 4, none⟩ = some (.int .i64 d) ∧ W.cell? ⟨b, 4, none⟩ = some (.slice An ns.length cn)) := hI (fun W hW => ⟨(G5.out.ext hW).cell 0, (G5.out.ext hW).cell 1, (G5.out.ext hW).cell 2, (G5.out.ext hW).cell 3, (G5.out.ext hW).cell 4, (GB.out.ext hW).cell 4⟩)
      have HO5 : Hid (∀ W q, Blk W q 117 #[] → w11.heap.size ≤ q → OwN W w11.heap.size (.slice (some ⟨q, 0, none⟩) 0 0) []) := hI (fun W q hB hge => Own.of_blk (xs := []) hB len_encN rfl hge (Nat.zero_le _))
      have HSL : Hid (∀ W q ty cs, Blk W q ty cs → cs = #[.string (tx t9), .string (tx xl), .int .i64 xs, .int .i64 f, .int .i64 d] → SlAt W 5 encN (some ⟨q, 0, none⟩) [(t9, xl, xs, f, d)]) := hI (fun W q ty cs hB e => blk_n1 hB e)
      have HLN : Hid (ns.length ≤ 3) := hI (by omega)
      clear h5c hbc
      go_upto_region 10 with (fail)
      go_cut [6] (fun v wx => ∃ (An2 : Option Addr) (cn2 : Nat), v = .slice An2 (ns.length + 1) cn2 ∧ ns.length + 1 ≤ cn2 ∧ Hid (SlAt wx 5 encN An2 (ns ++ [(t9, xl, xs, f, d)])) ∧ Hid (∀ z : Addr, An2 = some z → w11.heap.size ≤ z.block ∧ z.block < wx.heap.size) ∧ Hid (Ext w11 wx))
      case first =>
       go_region_held3 (fun w' => w'.cell? ⟨b5, 0, none⟩ = some (.string (tx t9)) ∧ w'.cell? ⟨b5, 1, none⟩ = some (.string (tx xl)) ∧ w'.cell? ⟨b5, 2, none⟩ = some (.int .i64 xs) ∧ w'.cell? ⟨b5, 3, none⟩ = some (.int .i64 f) ∧ w'.cell? ⟨b5, 4, none⟩ = some (.int .i64 d) ∧ w'.cell? ⟨b, 4, none⟩ = some (.slice An ns.length cn)) (first | exact HK.out _ (by with_reducible first|exact hx5|exact hx6|exact xD xR|exact xA hx5|exact xD (xA xR)|exact xD (xA (xA xR))) | go_keep) (first | (refine step_append_sl elN len_encN one_encN rfl _ _ rfl rfl (HO5.out _ _ (by with_reducible first|exact bD (bN (by omega))|exact bD (bA (bN (by omega)))|exact bD (bN (by first|omega|simp))) (by first | exact Nat.le_refl _ | (simp; done) | (simp; omega))) (xs := ns) rfl (GN.out.ext (by with_reducible first|exact xD (xA xR)|exact xD (xA (xA xR)))) (by have := HLN.out; unfold maxLen; simp only [List.length_nil]; omega) (by have := HLN.out; simp only [List.length_nil]; omega) (by first | (simp; done) | (simp; omega)) ?_; intro v5 w5' hO5 hg5 _; have hb5' := kept_of hg5; have hx5 : Ext w11 w5' := Ext.grown (by with_reducible first|exact xD (xA xR)|exact xD (xA (xA xR))) hg5 (fun q hq => by rw [own_is hq]; first | exact Nat.le_refl _ | (simp; done) | (simp; omega))) | (refine step_append_sl elN len_encN one_encN rfl _ _ rfl rfl (hO5.ext (by with_reducible first|exact xR|exact xA xR)) (xs := [(t9, xl, xs, f, d)]) rfl (HSL.out _ _ _ _ (by first | exact hb5' _ _ _ (by with_reducible first|exact bD (bA (bN (by omega)))|exact bD (bN (by first|omega|simp))) (by first | omega | (simp; done) | (simp; omega)) | exact Blk.new rfl) (by rfl)) (by have := HLN.out; unfold maxLen; simp; omega) (by have := HLN.out; simp; omega) (by have := hx5.size; first | omega | (simp; omega)) ?_; intro v6 w6' hO6 hg6 _; have hx6 : Ext w11 w6' := Ext.grown (by with_reducible first|exact hx5|exact xA hx5) hg6 (fun q hq => (hO5.row q hq).1)))
       all_goals
        have hO7 : OwN w6' w11.heap.size v6 (ns ++ [(t9, xl, xs, f, d)]) := hO6
        obtain ⟨A6, c6, rfl, hS6, hc6, hm6, hr6⟩ := hO7.sl len_encN
        have HX6 := hI hx6
        have HS6 := hI hS6
        have HR6 := hI hr6
        have HC6 := hI hc6
        clear hO7 hO6 hS6 hr6 hx6 hg6 hO5 hg5 hx5 hb5' hc6 hm6
        go_wp2_with fail
        go_meet
        exact ⟨A6, c6, by simp, by have := HC6.out; simp at this; omega, HS6, HR6, HX6⟩
      case rest =>
      obtain ⟨An2, cn2, rfl, hcn2, GN2, GR2, GX⟩ := hcut
      obtain ⟨w12, rfl⟩ : ∃ z, z = wc := ⟨wc, rfl⟩
      have hs12 := GX.out.size
      have H5 := hI (G5.out.ext GX.out)
      have HN := hI (GN.out.ext GX.out)
      have HB := hI (GB.out.ext GX.out)
      have HZ := hI (GZ.out.ext GX.out)
      have HS := hI (GS.out.on GX.out)
      have HU := hI (GU.out.trans (But.of GX.out))
      have hxn : NmOk (t9, xl, xs, f, d) := ⟨ht9, HOK.out.2.1, HOK.out.2.2.1, by simp only; omega, by simp only; omega⟩
      have HXN := hI hxn
      have HNM : Hid (Names (ns ++ [(t9, xl, xs, f, d)])) := hI (NmsOk.names (fun n hn => by
       rcases List.mem_append.1 hn with e | e
       ·exact HNI.out.2.2 n e
       ·rw [List.mem_singleton.1 e]; exact hxn))
      have HIY : Hid (inY x y (t9, xl, xs, f, d) = true) := hI (by
       unfold inY
       simp only [Bool.and_eq_true, Bool.not_eq_true', decide_eq_false_iff_not]
       omega)
      clear hxn G5 GN GB GZ GS GU HK HO5 HSL y0 y1 y2 y3 y4 cb4
      go_wp2_with fail
      refine (s_AreNames An2 (ns.length + 1) cn2 (ns ++ [(t9, xl, xs, f, d)]) _ GN2.out (by simp) (by simp; omega) HNM.out).mono ?_
      rintro e w13 ⟨rfl, hx13⟩
      have hs13 := hx13.size
      have H5x := hI (H5.out.ext hx13)
      have HNx := hI (HN.out.ext hx13)
      have HBx := hI (HB.out.ext hx13)
      have HZx := hI (HZ.out.ext hx13)
      have HSx := hI (HS.out.on hx13)
      have HUx := hI (HU.out.trans (But.of hx13))
      have HN2x := hI (GN2.out.ext hx13)
      have hl13 := H5x.out.lt
      have hlb13 := HBx.out.lt
      have HAx : Hid (∀ z : Addr, An = some z → w.heap.size < z.block ∧ ¬ z.block = g ∧ ¬ z.block = b ∧ z.block < w13.heap.size) := hI (fun z hz => by have := HAn.out z hz; exact ⟨this.1, this.2.1, this.2.2.1, by omega⟩)
      clear H5 HN HB HZ HS HU GN2 hx13 GX
      have hdec : IntKind.i64.wrap (((r + 1 : Nat) : Int) - 1) = (r : Int) := by rw [IntWalk.i64_in _ (by omega)]; omega
      cases hnb : nsB (ns ++ [(t9, xl, xs, f, d)]) with
      | false =>
       clear hnb
       go_wp2
       go_roundw
       case rel => exact ⟨r, An, cn, ns, by go_num, by omega, by omega, hcn, HNI, HNx, HAx, HBx, HZx, HSx, HUx⟩
       case measure => simp [intOf]
      | true =>
       have HNB := hI hnb
       clear hnb
       have h5 := H5x.out
       have y3 : w13.cell? ⟨b5, 3, none⟩ = some (.int .i64 f) := h5.cell 3
       have y4 : w13.cell? ⟨b5, 4, none⟩ = some (.int .i64 d) := h5.cell 4
       clear h5
       have hb1 := HBx.out
       have z4 := hb1.frozen 4
       have cb4 : w13.cell? ⟨b, 4, none⟩ = some (.slice An ns.length cn) := hb1.cell 4
       clear hb1
       cases hfd' : decide (f ≤ d) with
       | true =>
        have hfd := of_decide_eq_true hfd'
        have HLEN : Hid ((ns ++ [(t9, xl, xs, f, d)]).length = ns.length + 1) := hI (by simp)
        go_wp2
        go_roundw
        case rel =>
         have hb1 := HBx.out
         have hz1 := HZx.out
         have hu1 := HUx.out
         have HS0 := HSx.out
         refine ⟨r, An2, cn2, ns ++ [(t9, xl, xs, f, d)], by go_num, by omega, by rw [HLEN.out]; omega, by rw [HLEN.out]; exact hcn2, hI (HNI.out.snoc HXN.out HIY.out HNB.out), hI (HN2x.out.setFar (fun z hz => by have := GR2.out z hz; show ¬ z.block = b; omega) _), hI (fun z hz => by have := GR2.out z hz; exact ⟨by omega, by omega, by omega, by simp; omega⟩), hI ?_, hI (bF n4 hz1), hI (sF n1 (by omega) HS0), hI (uW (by omega) hu1)⟩
         rw [HLEN.out]
         exact Blk.eq (bS hb1) (by rfl)
        case measure => simp [intOf]
       | false =>
        go_wp2
        go_roundw
        case rel => exact ⟨r, An, cn, ns, by go_num, by omega, by omega, hcn, HNI, HNx, HAx, HBx, HZx, HSx, HUx⟩
        case measure => simp [intOf]
    ·obtain rfl : q = 0 := by omega
     have hb1 := HB.out
     have hz1 := HZ.out
     have hlz := hz1.lt
     have y0 : w5.cell? ⟨b, 0, none⟩ = some (.string (tx t)) := hb1.cell 0
     have y1 : w5.cell? ⟨b, 1, none⟩ = some (.int .i64 k) := hb1.cell 1
     have y2 : w5.cell? ⟨b, 2, none⟩ = some (.int .i64 x) := hb1.cell 2
     have y3 : w5.cell? ⟨b, 3, none⟩ = some (.int .i64 y) := hb1.cell 3
     have y4 : w5.cell? ⟨b, 4, none⟩ = some (.slice An ns.length cn) := hb1.cell 4
     have z0 := hz1.frozen 0
     have z1 := hz1.frozen 1
     have z2 := hz1.frozen 2
     have z3 := hz1.frozen 3
     have z4 := hz1.frozen 4
     have v0 : w5.cell? ⟨w.heap.size, 0, none⟩ = some (.string ⟨#[]⟩) := hz1.cell 0
     have v1 : w5.cell? ⟨w.heap.size, 1, none⟩ = some (.int .i64 0) := hz1.cell 1
     have v2 : w5.cell? ⟨w.heap.size, 2, none⟩ = some (.int .i64 0) := hz1.cell 2
     have v3 : w5.cell? ⟨w.heap.size, 3, none⟩ = some (.int .i64 0) := hz1.cell 3
     have v4 : w5.cell? ⟨w.heap.size, 4, none⟩ = some (.slice none 0 0) := hz1.cell 4
     have hu1 := HUr.out
     have HS0 := HSr.out
     have HPL : Hid (plB (t, (k : Int), x, y, ns) = true) := hI (by
      unfold plB
      simp only [Bool.and_eq_true]
      exact ⟨HSM.out, by simp [inB]; omega, spB_iff.2 (by omega), HNI.out.1, List.all_eq_true.2 HNI.out.2.1⟩)
     go_wp2
     refine ret_pl (b0 := w.heap.size) (t := 57) (v := .agg #[.string (tx t), .int .i64 k, .int .i64 x, .int .i64 y, .slice An ns.length cn]) (Blk.eq (bS (bS (bS (bS (bS hz1))))) (by rfl)) rfl (by intro W' r0 r1 r2 r3 r4; simp [results, Tryz.results107, go_sem, r0, r1, r2, r3, r4]) ⟨(t, k, x, y, An, cn, ns), rfl, ⟨HPL.out, HNI.out.2.2, htl⟩, ⟨?_, hcn, by simp only; omega, by simp only; omega, HNI.out.2.2.names⟩, fun z hz => ⟨(HAn.out z hz).1, (HAn.out z hz).2.1, by have := (HAn.out z hz).2.2.2; first | exact this | (simp; omega)⟩, sF n2 hasz (sF n2 hasz (sF n2 hasz (sF n2 hasz (sF n2 hasz HS0)))), uW (by omega) (uW (by omega) (uW (by omega) (uW (by omega) (uW (by omega) hu1))))⟩
     have := HN.out
     exact (by first | exact this | exact (((((this.setFar (fun z hz => by have := (HAn.out z hz).1; show ¬ z.block = w.heap.size; omega) _).setFar (fun z hz => by have := (HAn.out z hz).1; show ¬ z.block = w.heap.size; omega) _).setFar (fun z hz => by have := (HAn.out z hz).1; show ¬ z.block = w.heap.size; omega) _).setFar (fun z hz => by have := (HAn.out z hz).1; show ¬ z.block = w.heap.size; omega) _).setFar (fun z hz => by have := (HAn.out z hz).1; show ¬ z.block = w.heap.size; omega) _))
end Go.Proofs.YtlnliajnipniaaaGreatDoor
