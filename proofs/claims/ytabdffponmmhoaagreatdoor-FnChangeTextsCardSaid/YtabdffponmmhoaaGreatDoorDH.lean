/- A code of a world that is drawn. -/
import Derived.Test.YtabdffponmmhoaaGreatDoorDG
import Derived.Test.YtabdffponmmhoaaGreatDoorW4
import Derived.Deep.RegionHeld3
import Derived.Deep.DeepCutAuto
import Derived.RegionTactic
import Derived.BigRegion
import Derived.WalkLawsBesides
import Derived.WalkSpells
import Derived.Lib.MinMax
import Derived.Outline
namespace Go.Proofs.YtabdffponmmhoaaGreatDoor
open Go.RowKit
attribute [local go_sem] ExtOf.cell ExtOf.frozen

/-- the drawing of a place's code -/
def Rg14 (b3 gq n cap : Nat) (p : Value) : Nat → Value → World → Prop
  | 0, v, _ => v = .pointer (some ⟨b3, 0, none⟩)
  | 1, v, _ => v = .slice (some ⟨gq, 0, none⟩) n cap
  | 2, v, _ => v = p
  | 3, v, _ => v = .pointer (some ⟨b3, 0, none⟩)
  | 4, v, _ => v = .slice (some ⟨gq, 0, none⟩) n cap
  | 5, v, _ => v = .int .i64 n
  | 6, v, _ => ∃ j : Nat, v = .int .i64 j ∧ j < n
  | 7, v, _ => ∃ j : Nat, v = .pointer (some ⟨gq, j * 5, none⟩) ∧ j < n
  | 8, v, _ => ∃ j : Nat, v = .pointer (some ⟨gq, j * 5, none⟩) ∧ j < n
  | 9, v, _ => ∃ t : List UInt8, v = .string (tx t) ∧ t.length ≤ 17
  | 10, v, _ => ∃ t : List UInt8, v = .string (tx t) ∧ t.length ≤ 17
  | _, _, _ => True
theorem Rg14.stay {b3 gq n cap : Nat} {p : Value} (i : Nat) (v : Value) (w w' : World) (h : Rg14 b3 gq n cap p i v w) : Rg14 b3 gq n cap p i v w' := by
  rcases i with _ | _ | _ | _ | _ | _ | _ | _ | _ | _ | _ | i <;> exact h

set_option maxRecDepth 20000 in
set_option maxHeartbeats 12800000 in
theorem s_l13Pick {a : World} {A : Option Addr} {c : Nat} {bs : List Int} {g : Nat} (gq n cap : Nat) (AL : Option Addr) (nl cL : Nat) (ps : List Pl) (w : World) (h : Src a A c bs g w) (hs : SlAt w 5 encQ (some ⟨gq, 0, none⟩) ps) (hn : n = ps.length) (h0 : 0 < n) (h10 : n ≤ 10) (hle : ∀ p ∈ ps, p.1.length ≤ 16) (hgq : ¬ gq = g) :
    Calls Tryz.prog 106 #[.pointer (some ⟨g, 0, none⟩), .agg #[.slice (some ⟨gq, 0, none⟩) n cap, .slice AL nl cL]] w fun e w' => ∃ t : List UInt8, e = .returned (.string (tx t)) ∧ t.length ≤ 17 ∧ Src a A c bs g w' ∧ But g w w' := by
  have hlt := h.lt
  have how := h.own
  have hasz := h.ext.size
  have nb : ¬ w.heap.size = g := by omega
  have HS := Lib.hid h
  have HSL := Lib.hid hs
  have HN := Lib.hid hn
  have HLE := Lib.hid hle
  have hdn : decide ((0 : Int) < (n : Int)) = true := decide_eq_true (by omega)
  clear hs hn hle
  go_enter Tryz.func106, Tryz.ntmps106
  go_upto_region 1 with (fail)
  go_cut [13] (fun v wx => ∃ q : Bool, v = .bool q ∧ Hid (Blk wx w.heap.size 98 #[.slice (some ⟨gq, 0, none⟩) n cap, .slice AL nl cL]) ∧ Hid (Src a A c bs g wx) ∧ Hid (But g w wx))
  case first =>
    have hB0 : Blk (w.alloc (.cells #[.slice (some ⟨gq, 0, none⟩) n cap, .slice AL nl cL] 98)) w.heap.size 98 #[.slice (some ⟨gq, 0, none⟩) n cap, .slice AL nl cL] := Blk.new rfl
    have HB0 := Lib.hid hB0
    have HS0 := HS.out
    go_wp2_with fail
    refine (s_l01Next (a := a) (A := A) (c := c) (bs := bs) _ _ (by (repeat (first | with_reducible assumption | with_reducible refine Src.alloc ?_ _ | with_reducible refine Src.drew ?_ | with_reducible refine Src.drewN ?_ _ | ((with_reducible refine Src.far ?_ ?_ ?_ _); (solve | omega | (simp; omega) | simp); (solve | omega | (simp; omega) | simp)) | ((with_reducible apply Src.on'); with_reducible assumption)))) (by omega)).mono ?_
    rintro e w2 ⟨x, rfl, hx, hS2, hu2⟩
    have HS2 := Lib.hid hS2
    have HU2 := Lib.hid hu2
    have HB2 := Lib.hid (HB0.out.but' hu2 nb)
    clear hS2 hu2 hB0 HS0
    go_wp2
    go_meet
    have hu2 := HU2.out
    exact ⟨_, rfl, HB2, HS2, Lib.hid (by (repeat (first | with_reducible exact But.refl _ _ | with_reducible assumption | with_reducible refine But.alloc ?_ _ | with_reducible refine But.drew ?_ | with_reducible refine But.drewN ?_ _ | with_reducible refine But.set_ ?_ _ _ | ((with_reducible refine But.new ?_ ?_ _); solve | omega | simp | (simp; omega)) | (with_reducible refine But.trans ?_ (by with_reducible assumption)) | (with_reducible refine But.trans ?_ (But.of (by with_reducible assumption))))))⟩
  case rest =>
  obtain ⟨q, rfl, HB6, HS6, HU6⟩ := hcut
  obtain ⟨w6, rfl⟩ : ∃ z, z = wc := ⟨wc, rfl⟩
  have hs6 := HU6.out.size
  have HSL6 := Lib.hid (HSL.out.butN HU6.out hgq)
  have hl6 := HB6.out.lt
  clear h HS
  cases q with
  | false =>
    go_wp2_with fail
    refine (s_l12DrawCode (a := a) (A := A) (c := c) (bs := bs) _ HS6.out).mono ?_
    rintro e w7 ⟨t, rfl, ht, hS7, hu7⟩
    have HS7 := Lib.hid hS7
    have HU7 := Lib.hid (HU6.out.trans hu7)
    clear hS7 hu7
    go_wp2
    go_ret
    exact ⟨t, rfl, by omega, HS7.out, HU7.out⟩
  | true =>
    go_upto_region 2 with (fail)
    go_cut [4] (fun v wx => ∃ t : List UInt8, v = .string (tx t) ∧ t.length ≤ 17 ∧ Hid (Src a A c bs g wx) ∧ Hid (But g w6 wx))
    case first =>
      refine wp_region_rgb (m := 11) (C := fun W => Src a A c bs g W ∧ But g w6 W ∧ w.heap.size < W.heap.size) (K := But g) (R := Rg14 w.heap.size gq n cap (.pointer (some ⟨g, 0, none⟩))) Tryz.f106.ntmps (by kernel_rfl) (by kernel_rfl) (by simp) (by rw [Tryz.ntmps106]; simp) (fun i v w w' _ => Rg14.stay i v w w') ?hC ?hstep ?hend
      case hC =>
        have HS0 := HS6.out
        exact ⟨by (repeat (first | with_reducible assumption | with_reducible refine Src.alloc ?_ _ | with_reducible refine Src.drew ?_ | with_reducible refine Src.drewN ?_ _ | ((with_reducible refine Src.far ?_ ?_ ?_ _); (solve | omega | (simp; omega) | simp); (solve | omega | (simp; omega) | simp)) | ((with_reducible apply Src.on'); with_reducible assumption))), by (repeat (first | with_reducible exact But.refl _ _ | with_reducible assumption | with_reducible refine But.alloc ?_ _ | with_reducible refine But.drew ?_ | with_reducible refine But.drewN ?_ _ | with_reducible refine But.set_ ?_ _ _ | ((with_reducible refine But.new ?_ ?_ _); solve | omega | simp | (simp; omega)) | (with_reducible refine But.trans ?_ (by with_reducible assumption)) | (with_reducible refine But.trans ?_ (But.of (by with_reducible assumption))))), by first | omega | (simp; omega)⟩
      case hstep =>
        simp only [List.take_succ_cons, List.take_zero]
        refine AllFrom.cons ?_ <| AllFrom.cons ?_ <| AllFrom.cons ?_ <| AllFrom.cons ?_ <| AllFrom.cons ?_ <| AllFrom.cons ?_ <| AllFrom.cons ?_ <| AllFrom.cons ?_ <| AllFrom.cons ?_ <| AllFrom.cons ?_ <| AllFrom.cons ?_ AllFrom.nil
        all_goals (intro a1 W hfr hdep hC; have HC := Lib.hid hC; clear hC)
        · have t3 : a1.tmps.getD 3 undef = .pointer (some ⟨w.heap.size, 0, none⟩) := hfr.at_ rfl (by kernel_rfl)
          unfold Oper.wp
          go_simp
          exact ⟨_, rfl, rfl, But.refl g W, HC.out⟩
        · have t14 : a1.tmps.getD 14 undef = .pointer (some ⟨w.heap.size, 0, none⟩) := hdep ⟨0, .data⟩ (by simp) rfl _ rfl
          have hBW : Blk W w.heap.size 98 #[.slice (some ⟨gq, 0, none⟩) n cap, .slice AL nl cL] := Blk.but' HC.out.2.1 nb HB6.out
          have c0 : W.cell? ⟨w.heap.size, 0, none⟩ = some (.slice (some ⟨gq, 0, none⟩) n cap) := hBW.cell 0
          unfold Oper.wp
          go_simp
          exact ⟨_, rfl, rfl, But.refl g W, HC.out⟩
        · have t0 : a1.tmps.getD 0 undef = .pointer (some ⟨g, 0, none⟩) := hfr.at_ rfl (by kernel_rfl)
          unfold Oper.wp
          go_simp
          exact ⟨_, rfl, rfl, But.refl g W, HC.out⟩
        · have t3 : a1.tmps.getD 3 undef = .pointer (some ⟨w.heap.size, 0, none⟩) := hfr.at_ rfl (by kernel_rfl)
          unfold Oper.wp
          go_simp
          exact ⟨_, rfl, rfl, But.refl g W, HC.out⟩
        · have t17 : a1.tmps.getD 17 undef = .pointer (some ⟨w.heap.size, 0, none⟩) := hdep ⟨3, .data⟩ (by simp) rfl _ rfl
          have hBW : Blk W w.heap.size 98 #[.slice (some ⟨gq, 0, none⟩) n cap, .slice AL nl cL] := Blk.but' HC.out.2.1 nb HB6.out
          have c0 : W.cell? ⟨w.heap.size, 0, none⟩ = some (.slice (some ⟨gq, 0, none⟩) n cap) := hBW.cell 0
          unfold Oper.wp
          go_simp
          exact ⟨_, rfl, rfl, But.refl g W, HC.out⟩
        · obtain t18 : Rg14 w.heap.size gq n cap _ 4 (a1.tmps.getD 18 undef) W := hdep ⟨4, .data⟩ (by simp) rfl _ rfl
          have t18q := (Array.getD_eq_getD_getElem? (xs := a1.tmps) (i := 18) (d := undef)).symm.trans t18
          unfold Oper.wp
          go_simp
          exact ⟨_, rfl, rfl, But.refl g W, HC.out⟩
        · have t16 : a1.tmps.getD 16 undef = .pointer (some ⟨g, 0, none⟩) := hdep ⟨2, .data⟩ (by simp) rfl _ rfl
          have t19 : a1.tmps.getD 19 undef = .int .i64 n := hdep ⟨5, .data⟩ (by simp) rfl _ rfl
          unfold Oper.wp
          go_simp
          refine (s_l01Next (a := a) (A := A) (c := c) (bs := bs) _ _ HC.out.1 (by omega)).mono ?_
          rintro e W2 ⟨x, rfl, hx, hS2, hu2⟩
          obtain ⟨j, rfl⟩ := Int.eq_ofNat_of_zero_le hx.1
          have hs2 := hu2.size
          have hWs := HC.out.2.2
          exact ⟨_, rfl, ⟨j, rfl, by omega⟩, hu2, hS2, HC.out.2.1.trans hu2, by omega⟩
        · obtain t15 : Rg14 w.heap.size gq n cap _ 1 (a1.tmps.getD 15 undef) W := hdep ⟨1, .data⟩ (by simp) rfl _ rfl
          have t15q := (Array.getD_eq_getD_getElem? (xs := a1.tmps) (i := 15) (d := undef)).symm.trans t15
          obtain ⟨j, t20, hj⟩ : Rg14 w.heap.size gq n cap _ 6 (a1.tmps.getD 20 undef) W := hdep ⟨6, .data⟩ (by simp) rfl _ rfl
          have t20q := (Array.getD_eq_getD_getElem? (xs := a1.tmps) (i := 20) (d := undef)).symm.trans t20
          have hj1 : (j : Int) < n := by omega
          unfold Oper.wp
          go_simp
          exact ⟨_, rfl, ⟨j, rfl, hj⟩, But.refl g W, HC.out⟩
        · obtain ⟨j, t21, hj⟩ : Rg14 w.heap.size gq n cap _ 7 (a1.tmps.getD 21 undef) W := hdep ⟨7, .data⟩ (by simp) rfl _ rfl
          have t21q := (Array.getD_eq_getD_getElem? (xs := a1.tmps) (i := 21) (d := undef)).symm.trans t21
          unfold Oper.wp
          go_simp
          exact ⟨_, rfl, ⟨j, rfl, hj⟩, But.refl g W, HC.out⟩
        · obtain ⟨j, t22, hj⟩ : Rg14 w.heap.size gq n cap _ 8 (a1.tmps.getD 22 undef) W := hdep ⟨8, .data⟩ (by simp) rfl _ rfl
          have t22q := (Array.getD_eq_getD_getElem? (xs := a1.tmps) (i := 22) (d := undef)).symm.trans t22
          have hS9 := HSL6.out.butN HC.out.2.1 hgq
          have hjl : j < ps.length := by have := HN.out; omega
          have d0 := (hS9.pl' hjl).1
          rw [Nat.zero_add] at d0
          obtain ⟨z, hze⟩ : ∃ z, z = ps.getD j plD := ⟨_, rfl⟩
          rw [← hze] at d0
          have hzl : z.1.length ≤ 17 := by rw [hze]; have := HLE.out _ (pl_mem hjl); omega
          clear hS9 hze
          unfold Oper.wp
          go_simp
          exact ⟨_, rfl, ⟨z.1, rfl, hzl⟩, But.refl g W, HC.out⟩
        · obtain ⟨t, t23, ht⟩ : Rg14 w.heap.size gq n cap _ 9 (a1.tmps.getD 23 undef) W := hdep ⟨9, .data⟩ (by simp) rfl _ rfl
          have t23q := (Array.getD_eq_getD_getElem? (xs := a1.tmps) (i := 23) (d := undef)).symm.trans t23
          unfold Oper.wp
          go_simp
          exact ⟨_, rfl, ⟨t, rfl, ht⟩, But.refl g W, HC.out⟩
      case hend =>
        intro a1 W hfr hR hC
        obtain ⟨t, t4, ht⟩ : Rg14 w.heap.size gq n cap _ 10 (a1.tmps.getD 4 undef) W := hR 10 _ (by omega) rfl
        have t4q := (Array.getD_eq_getD_getElem? (xs := a1.tmps) (i := 4) (d := undef)).symm.trans t4
        have HC := Lib.hid hC
        clear hC
        refine wpAny_end (by kernel_rfl) ?_
        have hsh := hfr.shape [false, false, false, false, true, false, false, false, false, false, false, false, false, false, true, true, true, true, true, true, true, true, true, true, false, false] (by rfl) (by kernel_rfl)
        simp only [mixL] at hsh
        rw [hsh]
        go_wp2_with fail
        go_meet
        exact ⟨t, by first | exact t4 | (simp [t4q]; done), ht, Lib.hid HC.out.1, Lib.hid HC.out.2.1⟩
    case rest =>
    obtain ⟨t, rfl, ht, HS7, HU7⟩ := hcut
    go_wp2
    go_ret
    exact ⟨t, rfl, ht, HS7.out, HU6.out.trans HU7.out⟩
end Go.Proofs.YtabdffponmmhoaaGreatDoor
