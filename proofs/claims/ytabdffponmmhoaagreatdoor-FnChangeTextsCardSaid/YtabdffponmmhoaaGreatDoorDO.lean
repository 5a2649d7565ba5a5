/- Texts of changes that are drawn. -/
import Derived.Test.YtabdffponmmhoaaGreatDoorDJ
import Derived.Test.YtabdffponmmhoaaGreatDoorT1
import Derived.Test.YtabdffponmmhoaaGreatDoorTJ
import Derived.Deep.RegionHeld3
import Derived.Deep.DeepCutAuto
import Derived.RegionTactic
import Derived.BigRegion
import Derived.WalkLawsBesides
import Derived.WalkSpells
import Derived.Lib.MinMax
import Derived.Outline
namespace Go.Proofs.YtabdffponmmhoaaGreatDoor
open Go.RowKit
attribute [local go_sem] ExtOf.cell ExtOf.frozen

theorem chT_small {y k : Int} {co ot la te : ByteArray} (hy : Num y) (hk : Num k) (h1 : co.size ≤ 60) (h2 : ot.size ≤ 60) (h3 : la.size ≤ 60) (h4 : te.size ≤ 60) : (chT y k co ot la te).length ≤ 400 := by
  have a1 := itoa_len hy
  have a2 := itoa_len hk
  have a4 := dtB_len (m := 60) h2 (by omega)
  have a5 := dtB_len (m := 60) h3 (by omega)
  have a6 := dtB_len (m := 60) h4 (by omega)
  have e := congrArg ByteArray.size (chT_tx y k co ot la te)
  rw [tx_size] at e
  simp only [ByteArray.size_append, tx_size] at e
  have e1 : (⟨#[47]⟩ : ByteArray).size = 1 := rfl
  simp only [e1] at e
  omega
set_option maxRecDepth 20000 in
set_option maxHeartbeats 12800000 in
theorem s_DrawReadChange (A : Option Addr) (c : Nat) (bs : List Int) (w : World) (h : SlAt w 1 encB A bs) (hb : ∀ b ∈ bs, 0 ≤ b ∧ b ≤ 255) (hl : bs.length ≤ 4096) :
    Calls Tryz.prog 23 #[.slice A bs.length c] w fun e w' => ∃ t : ByteArray, e = .returned (.string t) ∧ t.size ≤ 401 ∧ Ext w w' := by
  have HC1 := Lib.hid (s_l01From A c bs w h hb hl)
  have HC2 := Lib.hid (fun (W : World) (hW : Ext w W) => s_DrawIsChange A c bs W (h.ext hW) hb hl)
  clear h hb hl
  go_enter Tryz.func23, Tryz.ntmps23
  go_wp2_with fail
  refine HC1.out.mono ?_
  rintro e w1 ⟨g, rfl, hS1⟩
  have HS1 := Lib.hid hS1
  have HCA := Lib.hid (HC2.out w1 hS1.ext)
  clear hS1 HC1 HC2
  go_wp2_with fail
  refine HCA.out.mono ?_
  rintro e w2 ⟨y, k, co, ot, la, te, rfl, hok, hx2⟩
  have HX2 := Lib.hid hx2
  have HOK := Lib.hid hok
  have HI := Lib.hid (fun (W : World) => s_IsChange y k (tx co) (tx ot) (tx la) (tx te) W (by rw [tx_size]; have := hok.2.2.1; omega) (by rw [tx_size]; have := hok.2.2.2.1; omega) (by rw [tx_size]; have := hok.2.2.2.2.1; omega) (by rw [tx_size]; have := hok.2.2.2.2.2; omega))
  have HT : Hid (chB y k (tx co) (tx ot) (tx la) (tx te) = true → ∃ t : ByteArray, t.size ≤ 400 ∧ ∀ W, Calls Tryz.prog 46 #[.agg #[.int .i64 y, .int .i64 k, .string (tx co), .string (tx ot), .string (tx la), .string (tx te)]] W fun e w' => e = .returned (.string t) ∧ Ext W w') := Lib.hid (fun hc => by
    obtain ⟨f1, f2, f3⟩ := chB_facts hc
    refine ⟨tx (chT y k (tx co) (tx ot) (tx la) (tx te)), ?_, fun W => s_l13Text y k _ _ _ _ W f1 f2 f3 (by rw [tx_size]; have := hok.2.2.1; omega) (by rw [tx_size]; have := hok.2.2.2.1; omega) (by rw [tx_size]; have := hok.2.2.2.2.1; omega) (by rw [tx_size]; have := hok.2.2.2.2.2; omega)⟩
    rw [tx_size]
    exact chT_small f1 (by unfold Num; omega) (by rw [tx_size]; have := hok.2.2.1; omega) (by rw [tx_size]; have := hok.2.2.2.1; omega) (by rw [tx_size]; have := hok.2.2.2.2.1; omega) (by rw [tx_size]; have := hok.2.2.2.2.2; omega))
  generalize chB y k (tx co) (tx ot) (tx la) (tx te) = q at *
  generalize tx co = sc at *
  generalize tx ot = so at *
  generalize tx la = sl at *
  generalize tx te = st at *
  clear hok hx2 HCA
  go_upto_region 4 with (fail)
  go_cut [11] (fun v wx => v = .bool q ∧ Hid (Blk wx w2.heap.size 47 #[.int .i64 y, .int .i64 k, .string sc, .string so, .string sl, .string st]) ∧ Hid (Ext w2 wx))
  case first =>
    have HB : Hid (Blk (w2.alloc (.cells #[.int .i64 y, .int .i64 k, .string sc, .string so, .string sl, .string st] 47)) w2.heap.size 47 #[.int .i64 y, .int .i64 k, .string sc, .string so, .string sl, .string st]) := Lib.hid (Blk.eq (by (repeat (first | with_reducible assumption | ((with_reducible apply Blk.new); solve | simp | rfl) | with_reducible apply Blk.drew | with_reducible apply Blk.drewN | ((with_reducible apply Blk.far'); solve | omega | simp | (simp; omega)) | with_reducible apply Blk.set_ | with_reducible apply Blk.alloc | ((with_reducible apply Blk.ext'); with_reducible assumption) | ((with_reducible apply Blk.but'); (with_reducible assumption); solve | omega | (simp; omega))))) (by rfl))
    have HXa : Hid (Ext w2 (w2.alloc (.cells #[.int .i64 y, .int .i64 k, .string sc, .string so, .string sl, .string st] 47))) := Lib.hid (by (repeat (first | with_reducible exact Ext.refl _ | with_reducible assumption | ((with_reducible apply Src.ext); with_reducible assumption) | with_reducible refine Ext.alloc ?_ _ | with_reducible refine Ext.drew ?_ | with_reducible refine Ext.drewN ?_ _ | ((with_reducible refine Ext.setCell' ?_ ?_ _); solve | omega | simp | (simp; omega)) | (with_reducible refine Ext.trans ?_ (by with_reducible assumption)))))
    go_wp2_with fail
    refine (HI.out _).mono ?_
    rintro e w3 ⟨rfl, hx3⟩
    have HB3 := Lib.hid (HB.out.ext hx3)
    have HX3 := Lib.hid (HXa.out.trans hx3)
    clear hx3 HB HXa
    go_wp2
    go_meet
    exact ⟨rfl, HB3, HX3⟩
  case rest =>
  obtain ⟨rfl, HB, HX3⟩ := hcut
  obtain ⟨w3, rfl⟩ : ∃ z, z = wc := ⟨wc, rfl⟩
  go_upto_if 11 with (fail)
  go_cut [5] (fun v wx => ∃ t : ByteArray, v = .string t ∧ t.size ≤ 400 ∧ Hid (Ext w3 wx))
  case first =>
    cases q with
    | false =>
      go_wp2
      go_meet
      exact ⟨_, rfl, by decide, Lib.hid (Ext.refl w3)⟩
    | true =>
      obtain ⟨t, ht, hT⟩ := HT.out rfl
      have HTT := Lib.hid hT
      clear hT HT HI
      have hB := HB.out
      have c0 : w3.cell? ⟨w2.heap.size, 0, none⟩ = some (.int .i64 y) := hB.cell 0
      have c1 : w3.cell? ⟨w2.heap.size, 1, none⟩ = some (.int .i64 k) := hB.cell 1
      have c2 : w3.cell? ⟨w2.heap.size, 2, none⟩ = some (.string sc) := hB.cell 2
      have c3 : w3.cell? ⟨w2.heap.size, 3, none⟩ = some (.string so) := hB.cell 3
      have c4 : w3.cell? ⟨w2.heap.size, 4, none⟩ = some (.string sl) := hB.cell 4
      have c5 : w3.cell? ⟨w2.heap.size, 5, none⟩ = some (.string st) := hB.cell 5
      have hlB := hB.lt
      clear hB
      go_wp2_with fail
      refine (HTT.out _).mono ?_
      rintro e w4 ⟨rfl, hx4⟩
      have HX4 := Lib.hid hx4
      clear hx4
      go_wp2
      go_meet
      have hx4 := HX4.out
      exact ⟨t, rfl, ht, Lib.hid (by (repeat (first | with_reducible exact Ext.refl _ | with_reducible assumption | ((with_reducible apply Src.ext); with_reducible assumption) | with_reducible refine Ext.alloc ?_ _ | with_reducible refine Ext.drew ?_ | with_reducible refine Ext.drewN ?_ _ | ((with_reducible refine Ext.setCell' ?_ ?_ _); solve | omega | simp | (simp; omega)) | (with_reducible refine Ext.trans ?_ (by with_reducible assumption)))))⟩
  case rest =>
  obtain ⟨t, rfl, ht, HX5⟩ := hcut
  obtain ⟨w5, rfl⟩ : ∃ z, z = wc := ⟨wc, rfl⟩
  have HS5 := Lib.hid (HS1.out.on ((HX2.out.trans HX3.out).trans HX5.out))
  clear HB HI HT HX2 HX3 HX5 HS1
  go_wp2_with fail
  refine (s_l01Next (a := w) (A := A) (c := c) (bs := bs) _ _ HS5.out (by omega)).mono ?_
  rintro e w6 ⟨x6, rfl, hx6, hS6, hu6⟩
  have HS6 := Lib.hid hS6
  clear hS6 hu6 hx6
  cases e0 : (x6 == 0) with
  | false =>
    go_wp2
    go_ret
    exact ⟨t, rfl, by omega, HS6.out.ext⟩
  | true =>
    go_wp2_with fail
    refine (s_l01Damage (a := w) (A := A) (c := c) (bs := bs) t _ HS6.out (by omega)).mono ?_
    rintro e w7 ⟨t7, rfl, ht7, hS7, hu7⟩
    have HS7 := Lib.hid hS7
    clear hS7 hu7
    go_wp2
    go_ret
    exact ⟨t7, rfl, by omega, HS7.out.ext⟩
end Go.Proofs.YtabdffponmmhoaaGreatDoor
