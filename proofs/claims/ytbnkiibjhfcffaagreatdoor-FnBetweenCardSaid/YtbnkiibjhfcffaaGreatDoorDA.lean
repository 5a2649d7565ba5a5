/- Names that are drawn. -/
import Derived.Test.YtbnkiibjhfcffaaGreatDoorW9
import Derived.Test.YtbnkiibjhfcffaaGreatDoorGW
namespace Go.Proofs.YtbnkiibjhfcffaaGreatDoor
open Go.RowKit
attribute [local go_sem] ExtOf.cell ExtOf.frozen

theorem Blk.ty {w : World} {g : Nat} {t t' : TypeId} {cs cs' : Array Value} (h : Blk w g t cs) (h' : Blk w g t' cs') : t = t' := by
  have e : some (Obj.cells cs t (0, 0)) = some (Obj.cells cs' t' (0, 0)) := Eq.trans (Eq.symm h) h'
  injection e with e
  injection e
def langT : List (List UInt8) := [[101, 110], [100, 101], [102, 114], [108, 97, 116]]
theorem lang_ok : ∀ j, j < 4 → (langT.getD j []).length ≤ 3 := by decide
def langV : Array Value := #[.string (tx [101, 110]), .string (tx [100, 101]), .string (tx [102, 114]), .string (tx [108, 97, 116])]
theorem lang_cell : ∀ j, j < 4 → langV[j]? = some (.string (tx (langT.getD j []))) := by
  intro j hj
  rcases (show j = 0 ∨ j = 1 ∨ j = 2 ∨ j = 3 by omega) with rfl | rfl | rfl | rfl <;> rfl
def badT : List (List UInt8) := [[101], [101, 110, 103, 108], [69, 78], [97, 98, 99]]
theorem bad_ok : ∀ j, j < 4 → (badT.getD j []).length ≤ 4 := by decide
def badV : Array Value := #[.string (tx [101]), .string (tx [101, 110, 103, 108]), .string (tx [69, 78]), .string (tx [97, 98, 99])]
theorem bad_cell : ∀ j, j < 4 → badV[j]? = some (.string (tx (badT.getD j []))) := by
  intro j hj
  rcases (show j = 0 ∨ j = 1 ∨ j = 2 ∨ j = 3 by omega) with rfl | rfl | rfl | rfl <;> rfl

/-- a name within the bounds of what is drawn -/
def NmOk (x : Nm) : Prop := x.1.length ≤ 40 ∧ x.2.1.length ≤ 4 ∧ (-1 ≤ x.2.2.1 ∧ x.2.2.1 ≤ 3) ∧ (-3001 ≤ x.2.2.2.1 ∧ x.2.2.2.1 ≤ 3001) ∧ (-3001 ≤ x.2.2.2.2 ∧ x.2.2.2.2 ≤ 3001)
theorem ret_nm {P : Program} {fn : Func} {R : Ending → World → Prop} {a : Act} {W : World} {b0 : Nat} {t : TypeId} {x0 x1 x2 x3 x4 v : Value} (h0 : Blk W b0 t #[x0, x1, x2, x3, x4]) (hd : a.defers = [])
    (hres : ∀ W' : World, W'.cell? ⟨b0, 0, none⟩ = some x0 → W'.cell? ⟨b0, 1, none⟩ = some x1 → W'.cell? ⟨b0, 2, none⟩ = some x2 → W'.cell? ⟨b0, 3, none⟩ = some x3 → W'.cell? ⟨b0, 4, none⟩ = some x4 → (results fn a.tmps).run P W' = .ok v W') (hR : R (.returned v) W) : bodyPost P fn R .ret a W :=
  bodyPost_ret (hres W (h0.cell 0) (h0.cell 1) (h0.cell 2) (h0.cell 3) (h0.cell 4)) hd hR
/-- what the operations of the name's first drawing leave -/
def Rg9 (B g : Nat) (p : Value) : Nat → Value → World → Prop
  | 0, v, _ => v = p
  | 1, v, _ => ∃ t : List UInt8, v = .string (tx t) ∧ t.length ≤ 39
  | 2, v, w => ∃ b : Nat, v = .slice (some ⟨b, 0, none⟩) 4 4 ∧ B ≤ b ∧ b ≠ g ∧ Blk w b 9 langV
  | 3, v, _ => v = p
  | 4, v, _ => ∃ j : Nat, v = .int .i64 j ∧ j < 4
  | 5, v, w => ∃ b j : Nat, v = .pointer (some ⟨b, j, none⟩) ∧ j < 4 ∧ B ≤ b ∧ b ≠ g ∧ Blk w b 9 langV
  | 6, v, _ => ∃ j : Nat, v = .string (tx (langT.getD j [])) ∧ j < 4
  | 7, v, _ => v = p
  | 8, v, w => ∃ b : Nat, v = .slice (some ⟨b, 0, none⟩) 4 4 ∧ B ≤ b ∧ b ≠ g ∧ Blk w b 2 #[.int .i64 0, .int .i64 0, .int .i64 1, .int .i64 2]
  | 9, v, _ => ∃ x : Int, v = .int .i64 x ∧ 0 ≤ x ∧ x ≤ 2
  | 10, v, _ => v = p
  | 11, v, _ => ∃ x y : Int, v = .agg #[.int .i64 x, .int .i64 y] ∧ 1000 ≤ x ∧ x ≤ y ∧ y ≤ 3000
  | 12, v, _ => ∃ x : Nm, v = .agg #[.string (tx x.1), .string (tx x.2.1), .int .i64 x.2.2.1, .int .i64 x.2.2.2.1, .int .i64 x.2.2.2.2] ∧ NmOk x
  | 13, v, w => ∃ b : Nat, v = .pointer (some ⟨b, 0, none⟩) ∧ B ≤ b ∧ b ≠ g ∧ Blk w b 87 #[.string ⟨#[]⟩, .string ⟨#[]⟩, .int .i64 0, .int .i64 0, .int .i64 0]
  | _, _, _ => True
theorem Rg9.stay {B g : Nat} {p : Value} (i : Nat) (v : Value) (w w' : World) (hu : But g w w') (h : Rg9 B g p i v w) : Rg9 B g p i v w' := by
  rcases i with _ | _ | _ | _ | _ | _ | _ | _ | _ | _ | _ | _ | _ | _ | i
  · exact h
  · exact h
  · obtain ⟨b, e, h1, h2, h3⟩ := h; exact ⟨b, e, h1, h2, h3.but' hu h2⟩
  · exact h
  · exact h
  · obtain ⟨b, j, e, h0, h1, h2, h3⟩ := h; exact ⟨b, j, e, h0, h1, h2, h3.but' hu h2⟩
  · exact h
  · exact h
  · obtain ⟨b, e, h1, h2, h3⟩ := h; exact ⟨b, e, h1, h2, h3.but' hu h2⟩
  · exact h
  · exact h
  · exact h
  · exact h
  · obtain ⟨b, e, h1, h2, h3⟩ := h; exact ⟨b, e, h1, h2, h3.but' hu h2⟩
  · trivial

set_option maxRecDepth 20000 in
set_option maxHeartbeats 12800000 in
theorem s_l09Draw {a : World} {A : Option Addr} {c : Nat} {bs : List Int} {g : Nat} (w : World) (h : Src a A c bs g w) :
    Calls Tryz.prog 135 #[.pointer (some ⟨g, 0, none⟩)] w fun e w' => ∃ x : Nm, e = .returned (.agg #[.string (tx x.1), .string (tx x.2.1), .int .i64 x.2.2.1, .int .i64 x.2.2.2.1, .int .i64 x.2.2.2.2]) ∧ NmOk x ∧ Src a A c bs g w' ∧ But g w w' := by
  have hlt := h.lt
  have how := h.own
  have hasz := h.ext.size
  have nb : ¬ w.heap.size = g := by omega
  go_enter Tryz.func135, Tryz.ntmps135
  go_upto_region 1 with (fail)
  go_cut [3] (fun p wx => ∃ (b : Nat) (x : Nm), p = .pointer (some ⟨b, 0, none⟩) ∧ NmOk x ∧ w.heap.size < b ∧ b ≠ g ∧ Blk wx b 87 #[.string (tx x.1), .string (tx x.2.1), .int .i64 x.2.2.1, .int .i64 x.2.2.2.1, .int .i64 x.2.2.2.2] ∧ Blk wx w.heap.size 87 #[.string ⟨#[]⟩, .string ⟨#[]⟩, .int .i64 0, .int .i64 0, .int .i64 0] ∧ Src a A c bs g wx ∧ But g w wx)
  case first =>
    refine wp_region_rgb (m := 14) (C := fun W => Src a A c bs g W ∧ But g (w.alloc (.cells #[.string ⟨#[]⟩, .string ⟨#[]⟩, .int .i64 0, .int .i64 0, .int .i64 0] 87)) W ∧ w.heap.size < W.heap.size) (K := But g) (R := Rg9 (w.heap.size + 1) g (.pointer (some ⟨g, 0, none⟩))) Tryz.f135.ntmps (by kernel_rfl) (by kernel_rfl) (by simp) (by rw [Tryz.ntmps135]; simp) (fun i v w w' => Rg9.stay i v w w') ?hC ?hstep ?hend
    case hC => exact ⟨by (with_reducible repeat (first | assumption | refine Src.alloc ?_ _ | refine Src.drew ?_ | refine Src.drewN ?_ _ | (refine Src.far ?_ ?_ ?_ _; (solve | omega | simp | (simp; omega)); solve | omega | simp | (simp; omega)) | (apply Src.on'; assumption))), by (with_reducible repeat (first | exact But.refl _ _ | assumption | refine But.alloc ?_ _ | refine But.drew ?_ | refine But.drewN ?_ _ | refine But.set_ ?_ _ _ | (refine But.new ?_ ?_ _; solve | omega | simp | (simp; omega)) | refine But.trans ?_ (by assumption) | refine But.trans ?_ (But.of (by assumption)))), by simp⟩
    case hstep =>
      simp only [List.take_succ_cons, List.take_zero]
      refine AllFrom.cons ?_ <| AllFrom.cons ?_ <| AllFrom.cons ?_ <| AllFrom.cons ?_ <| AllFrom.cons ?_ <| AllFrom.cons ?_ <| AllFrom.cons ?_ <| AllFrom.cons ?_ <| AllFrom.cons ?_ <| AllFrom.cons ?_ <| AllFrom.cons ?_ <| AllFrom.cons ?_ <| AllFrom.cons ?_ <| AllFrom.cons ?_ AllFrom.nil
      all_goals (intro a1 W hfr hdep hC; have HC := Lib.hid hC; clear hC)
      · have t0 : a1.tmps.getD 0 undef = .pointer (some ⟨g, 0, none⟩) := hfr.at_ rfl (by kernel_rfl)
        unfold Oper.wp
        go_simp
        exact ⟨_, rfl, rfl, But.refl g W, HC.out⟩
      · have t4 : a1.tmps.getD 4 undef = .pointer (some ⟨g, 0, none⟩) := hdep ⟨0, .data⟩ (by simp) rfl _ rfl
        unfold Oper.wp
        go_simp
        refine (s_l01GoodPhrase (a := a) (A := A) (c := c) (bs := bs) _ HC.out.1).mono ?_
        rintro e W2 ⟨t, rfl, hx, hS2, hu2⟩
        have hs2 := hu2.size
        have hWs := HC.out.2.2
        exact ⟨_, rfl, ⟨t, rfl, hx.2⟩, hu2, hS2, HC.out.2.1.trans hu2, by omega⟩
      · unfold Oper.wp
        go_simp
        have hWs := HC.out.2.2
        exact ⟨_, rfl, ⟨_, rfl, by omega, by omega, blk_is (cs' := langV) (by (with_reducible repeat (first | assumption | (apply Blk.new; solve | simp | with_unfolding_all rfl) | apply Blk.drew | apply Blk.drewN | (apply Blk.far'; solve | omega | simp | (simp; omega)) | apply Blk.set_ | apply Blk.alloc | (apply Blk.ext'; assumption) | (apply Blk.but'; assumption; solve | omega | (simp; omega))))) (by rfl)⟩, by (with_reducible repeat (first | exact But.refl _ _ | assumption | refine But.alloc ?_ _ | refine But.drew ?_ | refine But.drewN ?_ _ | refine But.set_ ?_ _ _ | (refine But.new ?_ ?_ _; solve | omega | simp | (simp; omega)) | refine But.trans ?_ (by assumption) | refine But.trans ?_ (But.of (by assumption)))), HC.out.1.alloc _, HC.out.2.1.alloc _, by omega⟩
      · have t0 : a1.tmps.getD 0 undef = .pointer (some ⟨g, 0, none⟩) := hfr.at_ rfl (by kernel_rfl)
        unfold Oper.wp
        go_simp
        exact ⟨_, rfl, rfl, But.refl g W, HC.out⟩
      · have t7 : a1.tmps.getD 7 undef = .pointer (some ⟨g, 0, none⟩) := hdep ⟨3, .data⟩ (by simp) rfl _ rfl
        unfold Oper.wp
        go_simp
        refine (s_l01Next (a := a) (A := A) (c := c) (bs := bs) _ _ HC.out.1 (by omega)).mono ?_
        rintro e W2 ⟨x, rfl, hx, hS2, hu2⟩
        obtain ⟨j, rfl⟩ := Int.eq_ofNat_of_zero_le hx.1
        have hs2 := hu2.size
        have hWs := HC.out.2.2
        exact ⟨_, rfl, ⟨j, rfl, by omega⟩, hu2, hS2, HC.out.2.1.trans hu2, by omega⟩
      · obtain ⟨b, t6, h1, h2, h3⟩ : Rg9 (w.heap.size + 1) g _ 2 (a1.tmps.getD 6 undef) W := hdep ⟨2, .data⟩ (by simp) rfl _ rfl
        have t6q := (Array.getD_eq_getD_getElem? (xs := a1.tmps) (i := 6) (d := undef)).symm.trans t6
        obtain ⟨j, t8, hj⟩ : Rg9 (w.heap.size + 1) g _ 4 (a1.tmps.getD 8 undef) W := hdep ⟨4, .data⟩ (by simp) rfl _ rfl
        have t8q := (Array.getD_eq_getD_getElem? (xs := a1.tmps) (i := 8) (d := undef)).symm.trans t8
        have hj1 : (j : Int) < 4 := by omega
        unfold Oper.wp
        go_simp
        exact ⟨_, rfl, ⟨b, j, rfl, hj, h1, h2, h3⟩, But.refl g W, HC.out⟩
      · obtain ⟨b, j, t9, hj, h1, h2, h3⟩ : Rg9 (w.heap.size + 1) g _ 5 (a1.tmps.getD 9 undef) W := hdep ⟨5, .data⟩ (by simp) rfl _ rfl
        have t9q := (Array.getD_eq_getD_getElem? (xs := a1.tmps) (i := 9) (d := undef)).symm.trans t9
        have hcell : W.cell? ⟨b, j, none⟩ = some (.string (tx (langT.getD j []))) := (h3.cell j).trans (lang_cell j hj)
        unfold Oper.wp
        go_simp
        exact ⟨_, rfl, ⟨j, rfl, hj⟩, But.refl g W, HC.out⟩
      · have t0 : a1.tmps.getD 0 undef = .pointer (some ⟨g, 0, none⟩) := hfr.at_ rfl (by kernel_rfl)
        unfold Oper.wp
        go_simp
        exact ⟨_, rfl, rfl, But.refl g W, HC.out⟩
      · unfold Oper.wp
        go_simp
        have hWs := HC.out.2.2
        exact ⟨_, rfl, ⟨_, rfl, by omega, by omega, by (with_reducible repeat (first | assumption | (apply Blk.new; solve | simp | with_unfolding_all rfl) | apply Blk.drew | apply Blk.drewN | (apply Blk.far'; solve | omega | simp | (simp; omega)) | apply Blk.set_ | apply Blk.alloc | (apply Blk.ext'; assumption) | (apply Blk.but'; assumption; solve | omega | (simp; omega))))⟩, by (with_reducible repeat (first | exact But.refl _ _ | assumption | refine But.alloc ?_ _ | refine But.drew ?_ | refine But.drewN ?_ _ | refine But.set_ ?_ _ _ | (refine But.new ?_ ?_ _; solve | omega | simp | (simp; omega)) | refine But.trans ?_ (by assumption) | refine But.trans ?_ (But.of (by assumption)))), HC.out.1.alloc _, HC.out.2.1.alloc _, by omega⟩
      · have t11 : a1.tmps.getD 11 undef = .pointer (some ⟨g, 0, none⟩) := hdep ⟨7, .data⟩ (by simp) rfl _ rfl
        obtain ⟨b, t12, h1, h2, h3⟩ : Rg9 (w.heap.size + 1) g _ 8 (a1.tmps.getD 12 undef) W := hdep ⟨8, .data⟩ (by simp) rfl _ rfl
        have t12q := (Array.getD_eq_getD_getElem? (xs := a1.tmps) (i := 12) (d := undef)).symm.trans t12
        have hbl := h3.lt
        unfold Oper.wp
        go_simp
        refine (s_l01Pick (a := a) (A := A) (c := c) (bs := bs) b 0 4 [0, 0, 1, 2] _ HC.out.1 (Blk.sl h3 (by rfl) (fun _ => rfl)) (by simp) (by simp) hbl h2).mono ?_
        rintro e W2 ⟨x, rfl, hx, hS2, hu2⟩
        have hx2 : 0 ≤ x ∧ x ≤ 2 := by simp at hx; omega
        have hs2 := hu2.size
        have hWs := HC.out.2.2
        exact ⟨_, rfl, ⟨x, rfl, hx2.1, hx2.2⟩, hu2, hS2, HC.out.2.1.trans hu2, by omega⟩
      · have t0 : a1.tmps.getD 0 undef = .pointer (some ⟨g, 0, none⟩) := hfr.at_ rfl (by kernel_rfl)
        unfold Oper.wp
        go_simp
        exact ⟨_, rfl, rfl, But.refl g W, HC.out⟩
      · have t14 : a1.tmps.getD 14 undef = .pointer (some ⟨g, 0, none⟩) := hdep ⟨10, .data⟩ (by simp) rfl _ rfl
        unfold Oper.wp
        go_simp
        refine (s_l02Good (a := a) (A := A) (c := c) (bs := bs) _ HC.out.1).mono ?_
        rintro e W2 ⟨p, rfl, hx, hS2, hu2⟩
        have hs2 := hu2.size
        have hWs := HC.out.2.2
        exact ⟨_, rfl, ⟨p.1, p.2, rfl, hx.1, hx.2.1, hx.2.2⟩, hu2, hS2, HC.out.2.1.trans hu2, by omega⟩
      · obtain ⟨t, t5, ht⟩ : Rg9 (w.heap.size + 1) g _ 1 (a1.tmps.getD 5 undef) W := hdep ⟨1, .data⟩ (by simp) rfl _ rfl
        have t5q := (Array.getD_eq_getD_getElem? (xs := a1.tmps) (i := 5) (d := undef)).symm.trans t5
        obtain ⟨j, t10, hj⟩ : Rg9 (w.heap.size + 1) g _ 6 (a1.tmps.getD 10 undef) W := hdep ⟨6, .data⟩ (by simp) rfl _ rfl
        have t10q := (Array.getD_eq_getD_getElem? (xs := a1.tmps) (i := 10) (d := undef)).symm.trans t10
        obtain ⟨s, t13, hs0, hs1⟩ : Rg9 (w.heap.size + 1) g _ 9 (a1.tmps.getD 13 undef) W := hdep ⟨9, .data⟩ (by simp) rfl _ rfl
        have t13q := (Array.getD_eq_getD_getElem? (xs := a1.tmps) (i := 13) (d := undef)).symm.trans t13
        obtain ⟨x, y, t15, hx1, hx2, hx3⟩ : Rg9 (w.heap.size + 1) g _ 11 (a1.tmps.getD 15 undef) W := hdep ⟨11, .data⟩ (by simp) rfl _ rfl
        have t15q := (Array.getD_eq_getD_getElem? (xs := a1.tmps) (i := 15) (d := undef)).symm.trans t15
        unfold Oper.wp
        go_simp
        exact ⟨_, rfl, ⟨(t, langT.getD j [], s, x, y), rfl, ⟨by simp only; omega, by have := lang_ok j hj; simp only; omega, by simp only; omega, by simp only; omega, by simp only; omega⟩⟩, But.refl g W, HC.out⟩
      · unfold Oper.wp
        go_simp
        have hWs := HC.out.2.2
        exact ⟨_, rfl, ⟨_, rfl, by omega, by omega, by (with_reducible repeat (first | assumption | (apply Blk.new; solve | simp | with_unfolding_all rfl) | apply Blk.drew | apply Blk.drewN | (apply Blk.far'; solve | omega | simp | (simp; omega)) | apply Blk.set_ | apply Blk.alloc | (apply Blk.ext'; assumption) | (apply Blk.but'; assumption; solve | omega | (simp; omega))))⟩, by (with_reducible repeat (first | exact But.refl _ _ | assumption | refine But.alloc ?_ _ | refine But.drew ?_ | refine But.drewN ?_ _ | refine But.set_ ?_ _ _ | (refine But.new ?_ ?_ _; solve | omega | simp | (simp; omega)) | refine But.trans ?_ (by assumption) | refine But.trans ?_ (But.of (by assumption)))), HC.out.1.alloc _, HC.out.2.1.alloc _, by omega⟩
    case hend =>
      intro a1 W hfr hR hC
      obtain ⟨x, t16, hx⟩ : Rg9 (w.heap.size + 1) g _ 12 (a1.tmps.getD 16 undef) W := hR 12 _ (by omega) rfl
      obtain ⟨b2, t3, g1, g2, g3⟩ : Rg9 (w.heap.size + 1) g _ 13 (a1.tmps.getD 3 undef) W := hR 13 _ (by omega) rfl
      have t16q := (Array.getD_eq_getD_getElem? (xs := a1.tmps) (i := 16) (d := undef)).symm.trans t16
      have t3q := (Array.getD_eq_getD_getElem? (xs := a1.tmps) (i := 3) (d := undef)).symm.trans t3
      have HC := Lib.hid hC
      have HB3 := Lib.hid g3
      have z0 := g3.frozen 0
      have z1 := g3.frozen 1
      have z2 := g3.frozen 2
      have z3 := g3.frozen 3
      have z4 := g3.frozen 4
      have y0 : W.cell? ⟨b2, 0, none⟩ = some (.string ⟨#[]⟩) := g3.cell 0
      have y1 : W.cell? ⟨b2, 1, none⟩ = some (.string ⟨#[]⟩) := g3.cell 1
      have y2 : W.cell? ⟨b2, 2, none⟩ = some (.int .i64 0) := g3.cell 2
      have y3 : W.cell? ⟨b2, 3, none⟩ = some (.int .i64 0) := g3.cell 3
      have y4 : W.cell? ⟨b2, 4, none⟩ = some (.int .i64 0) := g3.cell 4
      have hl2 := g3.lt
      clear hC g3
      refine wpAny_one (i := 14) (by kernel_rfl) (wpOp_of rfl rfl ?_)
      unfold Oper.wp
      go_simp
      refine wpAny_end (by kernel_rfl) ?_
      have hB0 : Blk W w.heap.size 87 #[.string ⟨#[]⟩, .string ⟨#[]⟩, .int .i64 0, .int .i64 0, .int .i64 0] := Blk.but' HC.out.2.1 nb (Blk.new rfl)
      have hg3 := HB3.out
      have nb2 : ¬ w.heap.size = b2 := by omega
      have HU0 : But g w W := But.trans (But.alloc (But.refl g w) _) HC.out.2.1
      have HS0 := HC.out.1
      have hsh := hfr.shape [false, false, false, true, true, true, true, true, true, true, true, true, true, true, true, true, true, false, false, false, false, false, false, false, false, false, false, false, false, false, false, false, false, false, false, false, false, false, false, false, false, false, false, false] (by rfl) (by kernel_rfl)
      simp only [mixL] at hsh
      rw [hsh]
      go_wp2_with fail
      go_meet
      exact ⟨b2, x, t3, hx, by omega, g2, Blk.eq (by (with_reducible repeat (first | assumption | (apply Blk.new; solve | simp | with_unfolding_all rfl) | apply Blk.drew | apply Blk.drewN | (apply Blk.far'; solve | omega | simp | (simp; omega)) | apply Blk.set_ | apply Blk.alloc | (apply Blk.ext'; assumption) | (apply Blk.but'; assumption; solve | omega | (simp; omega))))) (by rfl), by (with_reducible repeat (first | assumption | (apply Blk.new; solve | simp | with_unfolding_all rfl) | apply Blk.drew | apply Blk.drewN | (apply Blk.far'; solve | omega | simp | (simp; omega)) | apply Blk.set_ | apply Blk.alloc | (apply Blk.ext'; assumption) | (apply Blk.but'; assumption; solve | omega | (simp; omega)))), by (with_reducible repeat (first | assumption | refine Src.alloc ?_ _ | refine Src.drew ?_ | refine Src.drewN ?_ _ | (refine Src.far ?_ ?_ ?_ _; (solve | omega | simp | (simp; omega)); solve | omega | simp | (simp; omega)) | (apply Src.on'; assumption))), by (with_reducible repeat (first | exact But.refl _ _ | assumption | refine But.alloc ?_ _ | refine But.drew ?_ | refine But.drewN ?_ _ | refine But.set_ ?_ _ _ | (refine But.new ?_ ?_ _; solve | omega | simp | (simp; omega)) | refine But.trans ?_ (by assumption) | refine But.trans ?_ (But.of (by assumption))))⟩
  case rest =>
    obtain ⟨b, x, rfl, hok, hb, nbg, hB, hE, hSc, hUc⟩ := hcut
    obtain ⟨s, l, u, f, d⟩ := x
    simp only at hB
    unfold NmOk at hok
    simp only at hok
    have hsc := hUc.size
    have HB := Lib.hid hB
    have HE := Lib.hid hE
    have HS := Lib.hid hSc
    have HU := Lib.hid hUc
    have hlb := hB.lt
    have hle := hE.lt
    have hgw : g < wc.heap.size := by omega
    have n1 : ¬ g = b := fun e => nbg e.symm
    have n2 : ¬ g = w.heap.size := by omega
    have n3 : ¬ b = w.heap.size := by omega
    have n4 : ¬ w.heap.size = b := by omega
    clear hB hE hSc hUc
    go_wp2_with fail
    refine (s_l01Next (a := a) (A := A) (c := c) (bs := bs) _ _ HS.out (by omega)).mono ?_
    rintro e w5 ⟨k, rfl, hk, hS5, hu5⟩
    have hs5 := hu5.size
    have HS5 := Lib.hid hS5
    have HU5 := Lib.hid (HU.out.trans hu5)
    by_cases q0 : k = 0
    · subst q0
      go_wp2_with fail
      refine (s_l01DrawPhrase (a := a) (A := A) (c := c) (bs := bs) _ HS5.out).mono ?_
      rintro e w6 ⟨t, rfl, ht, hS6, hu6⟩
      have hs6 := hu6.size
      have B6 : Blk w6 b 87 #[.string (tx s), .string (tx l), .int .i64 u, .int .i64 f, .int .i64 d] := (HB.out.but' hu5 nbg).but' hu6 nbg
      have E6 : Blk w6 w.heap.size 87 #[.string ⟨#[]⟩, .string ⟨#[]⟩, .int .i64 0, .int .i64 0, .int .i64 0] := (HE.out.but' hu5 nb).but' hu6 nb
      have hU6 := HU5.out.trans hu6
      clear hu5 hu6
      have p6_0 := B6.frozen 0
      have p6_1 := B6.frozen 1
      have p6_2 := B6.frozen 2
      have p6_3 := B6.frozen 3
      have p6_4 := B6.frozen 4
      have q6_0 : w6.cell? ⟨b, 0, none⟩ = some (.string (tx s)) := B6.cell 0
      have q6_1 : w6.cell? ⟨b, 1, none⟩ = some (.string (tx l)) := B6.cell 1
      have q6_2 : w6.cell? ⟨b, 2, none⟩ = some (.int .i64 u) := B6.cell 2
      have q6_3 : w6.cell? ⟨b, 3, none⟩ = some (.int .i64 f) := B6.cell 3
      have q6_4 : w6.cell? ⟨b, 4, none⟩ = some (.int .i64 d) := B6.cell 4
      have r6_0 := E6.frozen 0
      have r6_1 := E6.frozen 1
      have r6_2 := E6.frozen 2
      have r6_3 := E6.frozen 3
      have r6_4 := E6.frozen 4
      have v6_0 : w6.cell? ⟨w.heap.size, 0, none⟩ = some (.string ⟨#[]⟩) := E6.cell 0
      have v6_1 : w6.cell? ⟨w.heap.size, 1, none⟩ = some (.string ⟨#[]⟩) := E6.cell 1
      have v6_2 : w6.cell? ⟨w.heap.size, 2, none⟩ = some (.int .i64 0) := E6.cell 2
      have v6_3 : w6.cell? ⟨w.heap.size, 3, none⟩ = some (.int .i64 0) := E6.cell 3
      have v6_4 : w6.cell? ⟨w.heap.size, 4, none⟩ = some (.int .i64 0) := E6.cell 4
      have la6 := B6.lt
      have lb6 := E6.lt
      go_wp2
      refine ret_nm (b0 := w.heap.size) (t := 87) (v := .agg #[.string (tx t), .string (tx l), .int .i64 u, .int .i64 f, .int .i64 d]) (Blk.eq (by (with_reducible repeat (first | assumption | (apply Blk.new; solve | simp | with_unfolding_all rfl) | apply Blk.drew | apply Blk.drewN | (apply Blk.far'; solve | omega | simp | (simp; omega)) | apply Blk.set_ | apply Blk.alloc | (apply Blk.ext'; assumption) | (apply Blk.but'; assumption; solve | omega | (simp; omega))))) (by rfl)) rfl (by intro W' r0 r1 r2 r3 r4; simp [results, Tryz.results135, go_sem, r0, r1, r2, r3, r4]) ⟨(t, l, u, f, d), rfl, ?_, by (with_reducible repeat (first | assumption | refine Src.alloc ?_ _ | refine Src.drew ?_ | refine Src.drewN ?_ _ | (refine Src.far ?_ ?_ ?_ _; (solve | omega | simp | (simp; omega)); solve | omega | simp | (simp; omega)) | (apply Src.on'; assumption))), by (with_reducible repeat (first | exact But.refl _ _ | assumption | refine But.alloc ?_ _ | refine But.drew ?_ | refine But.drewN ?_ _ | refine But.set_ ?_ _ _ | (refine But.new ?_ ?_ _; solve | omega | simp | (simp; omega)) | refine But.trans ?_ (by assumption) | refine But.trans ?_ (But.of (by assumption))))⟩
      exact ⟨ht, hok.2.1, hok.2.2.1, hok.2.2.2.1, hok.2.2.2.2⟩
    · have e0 : (k == 0) = false := beq_eq_false_iff_ne.2 q0
      by_cases q1 : k = 1
      · subst q1
        (go_wp2_with fail; refine (s_l01Next (a := a) (A := A) (c := c) (bs := bs) _ _ (HS5.out.alloc _) (by omega)).mono ?_; rintro e w6 ⟨x6, rfl, hb6, hS6, hu6⟩; obtain ⟨hc6, hf6⟩ := hu6.rules; have hs6 := hu6.size; (try simp at hs6); have := (show w5.heap.size < w6.heap.size from by omega))
        obtain ⟨j, rfl⟩ := Int.eq_ofNat_of_zero_le hb6.1
        have hj : j < 4 := by omega
        have hP : Blk w6 w5.heap.size 9 badV := blk_is (by (with_reducible repeat (first | assumption | (apply Blk.new; solve | simp | with_unfolding_all rfl) | apply Blk.drew | apply Blk.drewN | (apply Blk.far'; solve | omega | simp | (simp; omega)) | apply Blk.set_ | apply Blk.alloc | (apply Blk.ext'; assumption) | (apply Blk.but'; assumption; solve | omega | (simp; omega))))) (by rfl)
        have hcell : w6.cell? ⟨w5.heap.size, j, none⟩ = some (.string (tx (badT.getD j []))) := (hP.cell j).trans (bad_cell j hj)
        have hlen := bad_ok j hj
        generalize badT.getD j [] = t at *
        have B6 : Blk w6 b 87 #[.string (tx s), .string (tx l), .int .i64 u, .int .i64 f, .int .i64 d] := ((HB.out.but' hu5 nbg).alloc _).but' hu6 nbg
        have E6 : Blk w6 w.heap.size 87 #[.string ⟨#[]⟩, .string ⟨#[]⟩, .int .i64 0, .int .i64 0, .int .i64 0] := ((HE.out.but' hu5 nb).alloc _).but' hu6 nb
        have hU6 : But g w w6 := (HU5.out.alloc _).trans hu6
        clear hu5 hu6 hP hc6 hf6
        have p6_0 := B6.frozen 0
        have p6_1 := B6.frozen 1
        have p6_2 := B6.frozen 2
        have p6_3 := B6.frozen 3
        have p6_4 := B6.frozen 4
        have q6_0 : w6.cell? ⟨b, 0, none⟩ = some (.string (tx s)) := B6.cell 0
        have q6_1 : w6.cell? ⟨b, 1, none⟩ = some (.string (tx l)) := B6.cell 1
        have q6_2 : w6.cell? ⟨b, 2, none⟩ = some (.int .i64 u) := B6.cell 2
        have q6_3 : w6.cell? ⟨b, 3, none⟩ = some (.int .i64 f) := B6.cell 3
        have q6_4 : w6.cell? ⟨b, 4, none⟩ = some (.int .i64 d) := B6.cell 4
        have r6_0 := E6.frozen 0
        have r6_1 := E6.frozen 1
        have r6_2 := E6.frozen 2
        have r6_3 := E6.frozen 3
        have r6_4 := E6.frozen 4
        have v6_0 : w6.cell? ⟨w.heap.size, 0, none⟩ = some (.string ⟨#[]⟩) := E6.cell 0
        have v6_1 : w6.cell? ⟨w.heap.size, 1, none⟩ = some (.string ⟨#[]⟩) := E6.cell 1
        have v6_2 : w6.cell? ⟨w.heap.size, 2, none⟩ = some (.int .i64 0) := E6.cell 2
        have v6_3 : w6.cell? ⟨w.heap.size, 3, none⟩ = some (.int .i64 0) := E6.cell 3
        have v6_4 : w6.cell? ⟨w.heap.size, 4, none⟩ = some (.int .i64 0) := E6.cell 4
        have la6 := B6.lt
        have lb6 := E6.lt
        go_wp2
        refine ret_nm (b0 := w.heap.size) (t := 87) (v := .agg #[.string (tx s), .string (tx t), .int .i64 u, .int .i64 f, .int .i64 d]) (Blk.eq (by (with_reducible repeat (first | assumption | (apply Blk.new; solve | simp | with_unfolding_all rfl) | apply Blk.drew | apply Blk.drewN | (apply Blk.far'; solve | omega | simp | (simp; omega)) | apply Blk.set_ | apply Blk.alloc | (apply Blk.ext'; assumption) | (apply Blk.but'; assumption; solve | omega | (simp; omega))))) (by rfl)) rfl (by intro W' r0 r1 r2 r3 r4; simp [results, Tryz.results135, go_sem, r0, r1, r2, r3, r4]) ⟨(s, t, u, f, d), rfl, ?_, by (with_reducible repeat (first | assumption | refine Src.alloc ?_ _ | refine Src.drew ?_ | refine Src.drewN ?_ _ | (refine Src.far ?_ ?_ ?_ _; (solve | omega | simp | (simp; omega)); solve | omega | simp | (simp; omega)) | (apply Src.on'; assumption))), by (with_reducible repeat (first | exact But.refl _ _ | assumption | refine But.alloc ?_ _ | refine But.drew ?_ | refine But.drewN ?_ _ | refine But.set_ ?_ _ _ | (refine But.new ?_ ?_ _; solve | omega | simp | (simp; omega)) | refine But.trans ?_ (by assumption) | refine But.trans ?_ (But.of (by assumption))))⟩
        exact ⟨hok.1, hlen, hok.2.2.1, hok.2.2.2.1, hok.2.2.2.2⟩
      · have e1 : (k == 1) = false := beq_eq_false_iff_ne.2 q1
        by_cases q2 : k = 2
        · subst q2
          (go_wp2_with fail; refine (s_l01Pick (a := a) (A := A) (c := c) (bs := bs) _ 0 _ [-1, 3] _ (HS5.out.alloc _) (Blk.sl (by (with_reducible repeat (first | assumption | (apply Blk.new; solve | simp | with_unfolding_all rfl) | apply Blk.drew | apply Blk.drewN | (apply Blk.far'; solve | omega | simp | (simp; omega)) | apply Blk.set_ | apply Blk.alloc | (apply Blk.ext'; assumption) | (apply Blk.but'; assumption; solve | omega | (simp; omega))))) (by rfl) (fun _ => rfl)) (by simp) (by simp) (by simp) (by omega)).mono ?_; rintro e w6 ⟨x6, rfl, hb6, hS6, hu6⟩; obtain ⟨hc6, hf6⟩ := hu6.rules; have hs6 := hu6.size; (try simp at hs6); have := (show w5.heap.size < w6.heap.size from by omega))
          have hx6 : -1 ≤ x6 ∧ x6 ≤ 3 := by simp at hb6; omega
          have B6 : Blk w6 b 87 #[.string (tx s), .string (tx l), .int .i64 u, .int .i64 f, .int .i64 d] := ((HB.out.but' hu5 nbg).alloc _).but' hu6 nbg
          have E6 : Blk w6 w.heap.size 87 #[.string ⟨#[]⟩, .string ⟨#[]⟩, .int .i64 0, .int .i64 0, .int .i64 0] := ((HE.out.but' hu5 nb).alloc _).but' hu6 nb
          have hU6 : But g w w6 := (HU5.out.alloc _).trans hu6
          clear hu5 hu6 hc6 hf6 hb6
          have p6_0 := B6.frozen 0
          have p6_1 := B6.frozen 1
          have p6_2 := B6.frozen 2
          have p6_3 := B6.frozen 3
          have p6_4 := B6.frozen 4
          have q6_0 : w6.cell? ⟨b, 0, none⟩ = some (.string (tx s)) := B6.cell 0
          have q6_1 : w6.cell? ⟨b, 1, none⟩ = some (.string (tx l)) := B6.cell 1
          have q6_2 : w6.cell? ⟨b, 2, none⟩ = some (.int .i64 u) := B6.cell 2
          have q6_3 : w6.cell? ⟨b, 3, none⟩ = some (.int .i64 f) := B6.cell 3
          have q6_4 : w6.cell? ⟨b, 4, none⟩ = some (.int .i64 d) := B6.cell 4
          have r6_0 := E6.frozen 0
          have r6_1 := E6.frozen 1
          have r6_2 := E6.frozen 2
          have r6_3 := E6.frozen 3
          have r6_4 := E6.frozen 4
          have v6_0 : w6.cell? ⟨w.heap.size, 0, none⟩ = some (.string ⟨#[]⟩) := E6.cell 0
          have v6_1 : w6.cell? ⟨w.heap.size, 1, none⟩ = some (.string ⟨#[]⟩) := E6.cell 1
          have v6_2 : w6.cell? ⟨w.heap.size, 2, none⟩ = some (.int .i64 0) := E6.cell 2
          have v6_3 : w6.cell? ⟨w.heap.size, 3, none⟩ = some (.int .i64 0) := E6.cell 3
          have v6_4 : w6.cell? ⟨w.heap.size, 4, none⟩ = some (.int .i64 0) := E6.cell 4
          have la6 := B6.lt
          have lb6 := E6.lt
          go_wp2
          refine ret_nm (b0 := w.heap.size) (t := 87) (v := .agg #[.string (tx s), .string (tx l), .int .i64 x6, .int .i64 f, .int .i64 d]) (Blk.eq (by (with_reducible repeat (first | assumption | (apply Blk.new; solve | simp | with_unfolding_all rfl) | apply Blk.drew | apply Blk.drewN | (apply Blk.far'; solve | omega | simp | (simp; omega)) | apply Blk.set_ | apply Blk.alloc | (apply Blk.ext'; assumption) | (apply Blk.but'; assumption; solve | omega | (simp; omega))))) (by rfl)) rfl (by intro W' r0 r1 r2 r3 r4; simp [results, Tryz.results135, go_sem, r0, r1, r2, r3, r4]) ⟨(s, l, x6, f, d), rfl, ?_, by (with_reducible repeat (first | assumption | refine Src.alloc ?_ _ | refine Src.drew ?_ | refine Src.drewN ?_ _ | (refine Src.far ?_ ?_ ?_ _; (solve | omega | simp | (simp; omega)); solve | omega | simp | (simp; omega)) | (apply Src.on'; assumption))), by (with_reducible repeat (first | exact But.refl _ _ | assumption | refine But.alloc ?_ _ | refine But.drew ?_ | refine But.drewN ?_ _ | refine But.set_ ?_ _ _ | (refine But.new ?_ ?_ _; solve | omega | simp | (simp; omega)) | refine But.trans ?_ (by assumption) | refine But.trans ?_ (But.of (by assumption))))⟩
          exact ⟨hok.1, hok.2.1, hx6, hok.2.2.2.1, hok.2.2.2.2⟩
        · have e2 : (k == 2) = false := beq_eq_false_iff_ne.2 q2
          by_cases q3 : k = 3
          · subst q3
            go_wp2_with fail
            refine (s_l02Draw (a := a) (A := A) (c := c) (bs := bs) _ HS5.out).mono ?_
            rintro e w6 ⟨⟨p1, p2⟩, rfl, hp, hS6, hu6⟩
            have hs6 := hu6.size
            have B6 : Blk w6 b 87 #[.string (tx s), .string (tx l), .int .i64 u, .int .i64 f, .int .i64 d] := (HB.out.but' hu5 nbg).but' hu6 nbg
            have E6 : Blk w6 w.heap.size 87 #[.string ⟨#[]⟩, .string ⟨#[]⟩, .int .i64 0, .int .i64 0, .int .i64 0] := (HE.out.but' hu5 nb).but' hu6 nb
            have hU6 := HU5.out.trans hu6
            clear hu5 hu6
            have p6_0 := B6.frozen 0
            have p6_1 := B6.frozen 1
            have p6_2 := B6.frozen 2
            have p6_3 := B6.frozen 3
            have p6_4 := B6.frozen 4
            have q6_0 : w6.cell? ⟨b, 0, none⟩ = some (.string (tx s)) := B6.cell 0
            have q6_1 : w6.cell? ⟨b, 1, none⟩ = some (.string (tx l)) := B6.cell 1
            have q6_2 : w6.cell? ⟨b, 2, none⟩ = some (.int .i64 u) := B6.cell 2
            have q6_3 : w6.cell? ⟨b, 3, none⟩ = some (.int .i64 f) := B6.cell 3
            have q6_4 : w6.cell? ⟨b, 4, none⟩ = some (.int .i64 d) := B6.cell 4
            have r6_0 := E6.frozen 0
            have r6_1 := E6.frozen 1
            have r6_2 := E6.frozen 2
            have r6_3 := E6.frozen 3
            have r6_4 := E6.frozen 4
            have v6_0 : w6.cell? ⟨w.heap.size, 0, none⟩ = some (.string ⟨#[]⟩) := E6.cell 0
            have v6_1 : w6.cell? ⟨w.heap.size, 1, none⟩ = some (.string ⟨#[]⟩) := E6.cell 1
            have v6_2 : w6.cell? ⟨w.heap.size, 2, none⟩ = some (.int .i64 0) := E6.cell 2
            have v6_3 : w6.cell? ⟨w.heap.size, 3, none⟩ = some (.int .i64 0) := E6.cell 3
            have v6_4 : w6.cell? ⟨w.heap.size, 4, none⟩ = some (.int .i64 0) := E6.cell 4
            have la6 := B6.lt
            have lb6 := E6.lt
            go_wp2
            refine ret_nm (b0 := w.heap.size) (t := 87) (v := .agg #[.string (tx s), .string (tx l), .int .i64 u, .int .i64 p1, .int .i64 p2]) (Blk.eq (by (with_reducible repeat (first | assumption | (apply Blk.new; solve | simp | with_unfolding_all rfl) | apply Blk.drew | apply Blk.drewN | (apply Blk.far'; solve | omega | simp | (simp; omega)) | apply Blk.set_ | apply Blk.alloc | (apply Blk.ext'; assumption) | (apply Blk.but'; assumption; solve | omega | (simp; omega))))) (by rfl)) rfl (by intro W' r0 r1 r2 r3 r4; simp [results, Tryz.results135, go_sem, r0, r1, r2, r3, r4]) ⟨(s, l, u, p1, p2), rfl, ?_, by (with_reducible repeat (first | assumption | refine Src.alloc ?_ _ | refine Src.drew ?_ | refine Src.drewN ?_ _ | (refine Src.far ?_ ?_ ?_ _; (solve | omega | simp | (simp; omega)); solve | omega | simp | (simp; omega)) | (apply Src.on'; assumption))), by (with_reducible repeat (first | exact But.refl _ _ | assumption | refine But.alloc ?_ _ | refine But.drew ?_ | refine But.drewN ?_ _ | refine But.set_ ?_ _ _ | (refine But.new ?_ ?_ _; solve | omega | simp | (simp; omega)) | refine But.trans ?_ (by assumption) | refine But.trans ?_ (But.of (by assumption))))⟩
            exact ⟨hok.1, hok.2.1, hok.2.2.1, hp.1, hp.2⟩
          · have e3 : (k == 3) = false := beq_eq_false_iff_ne.2 q3
            have B5 : Blk w5 b 87 #[.string (tx s), .string (tx l), .int .i64 u, .int .i64 f, .int .i64 d] := HB.out.but' hu5 nbg
            have E5 : Blk w5 w.heap.size 87 #[.string ⟨#[]⟩, .string ⟨#[]⟩, .int .i64 0, .int .i64 0, .int .i64 0] := HE.out.but' hu5 nb
            have hU5 := HU5.out
            clear hu5
            have p5_0 := B5.frozen 0
            have p5_1 := B5.frozen 1
            have p5_2 := B5.frozen 2
            have p5_3 := B5.frozen 3
            have p5_4 := B5.frozen 4
            have q5_0 : w5.cell? ⟨b, 0, none⟩ = some (.string (tx s)) := B5.cell 0
            have q5_1 : w5.cell? ⟨b, 1, none⟩ = some (.string (tx l)) := B5.cell 1
            have q5_2 : w5.cell? ⟨b, 2, none⟩ = some (.int .i64 u) := B5.cell 2
            have q5_3 : w5.cell? ⟨b, 3, none⟩ = some (.int .i64 f) := B5.cell 3
            have q5_4 : w5.cell? ⟨b, 4, none⟩ = some (.int .i64 d) := B5.cell 4
            have r5_0 := E5.frozen 0
            have r5_1 := E5.frozen 1
            have r5_2 := E5.frozen 2
            have r5_3 := E5.frozen 3
            have r5_4 := E5.frozen 4
            have v5_0 : w5.cell? ⟨w.heap.size, 0, none⟩ = some (.string ⟨#[]⟩) := E5.cell 0
            have v5_1 : w5.cell? ⟨w.heap.size, 1, none⟩ = some (.string ⟨#[]⟩) := E5.cell 1
            have v5_2 : w5.cell? ⟨w.heap.size, 2, none⟩ = some (.int .i64 0) := E5.cell 2
            have v5_3 : w5.cell? ⟨w.heap.size, 3, none⟩ = some (.int .i64 0) := E5.cell 3
            have v5_4 : w5.cell? ⟨w.heap.size, 4, none⟩ = some (.int .i64 0) := E5.cell 4
            have la5 := B5.lt
            have lb5 := E5.lt
            go_wp2
            refine ret_nm (b0 := w.heap.size) (t := 87) (v := .agg #[.string (tx s), .string (tx l), .int .i64 u, .int .i64 f, .int .i64 d]) (Blk.eq (by (with_reducible repeat (first | assumption | (apply Blk.new; solve | simp | with_unfolding_all rfl) | apply Blk.drew | apply Blk.drewN | (apply Blk.far'; solve | omega | simp | (simp; omega)) | apply Blk.set_ | apply Blk.alloc | (apply Blk.ext'; assumption) | (apply Blk.but'; assumption; solve | omega | (simp; omega))))) (by rfl)) rfl (by intro W' r0 r1 r2 r3 r4; simp [results, Tryz.results135, go_sem, r0, r1, r2, r3, r4]) ⟨(s, l, u, f, d), rfl, ?_, by (with_reducible repeat (first | assumption | refine Src.alloc ?_ _ | refine Src.drew ?_ | refine Src.drewN ?_ _ | (refine Src.far ?_ ?_ ?_ _; (solve | omega | simp | (simp; omega)); solve | omega | simp | (simp; omega)) | (apply Src.on'; assumption))), by (with_reducible repeat (first | exact But.refl _ _ | assumption | refine But.alloc ?_ _ | refine But.drew ?_ | refine But.drewN ?_ _ | refine But.set_ ?_ _ _ | (refine But.new ?_ ?_ _; solve | omega | simp | (simp; omega)) | refine But.trans ?_ (by assumption) | refine But.trans ?_ (But.of (by assumption))))⟩
            exact ⟨hok.1, hok.2.1, hok.2.2.1, hok.2.2.2.1, hok.2.2.2.2⟩
end Go.Proofs.YtbnkiibjhfcffaaGreatDoor
