/- Changes that are drawn from a code. -/
import Derived.Test.YtabdffponmmhoaaGreatDoorDI
import Derived.Deep.RegionHeld3
import Derived.Deep.DeepCutAuto
import Derived.RegionTactic
import Derived.BigRegion
import Derived.WalkLawsBesides
import Derived.WalkSpells
import Derived.Lib.MinMax
import Derived.Outline
namespace Go.Proofs.YtabdffponmmhoaaGreatDoor
open Go.RowKit
attribute [local go_sem] ExtOf.cell ExtOf.frozen

set_option maxRecDepth 20000 in
set_option maxHeartbeats 12800000 in
theorem s_DrawIsChange (A : Option Addr) (c : Nat) (bs : List Int) (w : World) (h : SlAt w 1 encB A bs) (hb : ∀ b ∈ bs, 0 ≤ b ∧ b ≤ 255) (hl : bs.length ≤ 4096) :
    Calls Tryz.prog 43 #[.slice A bs.length c] w fun e w' => ∃ (y k : Int) (co ot la te : List UInt8), e = .returned (.agg #[.int .i64 y, .int .i64 k, .string (tx co), .string (tx ot), .string (tx la), .string (tx te)]) ∧ ChOk y k co ot la te ∧ Ext w w' := by
  have HS := Lib.hid h
  have HB := Lib.hid hb
  clear h hb
  go_enter Tryz.func43, Tryz.ntmps43
  go_upto_region 1 with (fail)
  have HZ : Hid (Blk (w.alloc (.cells #[.int .i64 0, .int .i64 0, .string ⟨#[]⟩, .string ⟨#[]⟩, .string ⟨#[]⟩, .string ⟨#[]⟩] 47)) w.heap.size 47 #[.int .i64 0, .int .i64 0, .string ⟨#[]⟩, .string ⟨#[]⟩, .string ⟨#[]⟩, .string ⟨#[]⟩]) := Lib.hid (Blk.eq (by (repeat (first | with_reducible assumption | ((with_reducible apply Blk.new); solve | simp | rfl) | with_reducible apply Blk.drew | with_reducible apply Blk.drewN | ((with_reducible apply Blk.far'); solve | omega | simp | (simp; omega)) | with_reducible apply Blk.set_ | with_reducible apply Blk.alloc | ((with_reducible apply Blk.ext'); with_reducible assumption) | ((with_reducible apply Blk.but'); (with_reducible assumption); solve | omega | (simp; omega))))) (by rfl))
  have HX0 : Hid (Ext w (w.alloc (.cells #[.int .i64 0, .int .i64 0, .string ⟨#[]⟩, .string ⟨#[]⟩, .string ⟨#[]⟩, .string ⟨#[]⟩] 47))) := Lib.hid (by (repeat (first | with_reducible exact Ext.refl _ | with_reducible assumption | ((with_reducible apply Src.ext); with_reducible assumption) | with_reducible refine Ext.alloc ?_ _ | with_reducible refine Ext.drew ?_ | with_reducible refine Ext.drewN ?_ _ | ((with_reducible refine Ext.setCell' ?_ ?_ _); solve | omega | simp | (simp; omega)) | (with_reducible refine Ext.trans ?_ (by with_reducible assumption)))))
  generalize (w.alloc (.cells #[.int .i64 0, .int .i64 0, .string ⟨#[]⟩, .string ⟨#[]⟩, .string ⟨#[]⟩, .string ⟨#[]⟩] 47)) = a at *
  have hsa := HZ.out.lt
  have HC := Lib.hid (s_l01From A c bs a (HS.out.ext HX0.out) HB.out hl)
  clear hl
  go_wp2_with fail
  refine HC.out.mono ?_
  rintro e w1 ⟨g, rfl, hS1⟩
  have how := hS1.own
  have hlt := hS1.lt
  have nb : ¬ w.heap.size = g := by omega
  have hs1 := hS1.ext.size
  have HS1 := Lib.hid hS1
  have HZ1 := Lib.hid (HZ.out.ext hS1.ext)
  clear hS1 HC HZ
  go_wp2_with fail
  refine (s_l13Good (a := a) (A := A) (c := c) (bs := bs) w1 HS1.out).mono ?_
  rintro e w2 ⟨v, lv, ps, L, q1, b3, rfl, hps, hq, _, hW, hL, hS2, hu2⟩
  have hs2 := hu2.size
  have hown := hW.2.2.1.2
  rcases hown with ⟨_, e0⟩ | ⟨gq, cap, cur, rfl, hgb, _, hnc, hcm, _, _⟩
  · exact absurd (List.length_eq_zero_iff.1 e0) hps
  obtain ⟨A9, c9, e9, hS9, _, _, _⟩ := hW.2.2.1.sl len_encQ
  injection e9 with e9 _ e10
  subst e9
  subst e10
  obtain ⟨AL, cL, rfl, _, _, _, _⟩ := hL.2.1.sl len_encK
  have HLE : Hid (∀ p ∈ ps, p.1.length ≤ 16) := Lib.hid (fun p hp => (plB_facts (rg_mem hW.1 hp)).1)
  have hn10 := hW.len
  have hnp : 0 < ps.length := List.length_pos_iff.2 hps
  have HS9 := Lib.hid hS9
  have HS2 := Lib.hid hS2
  have HZ2 := Lib.hid (HZ1.out.but' hu2 nb)
  obtain ⟨n, hn⟩ : ∃ n, n = ps.length := ⟨_, rfl⟩
  rw [← hn] at hn10 hnp ⊢
  have HN := Lib.hid hn
  have hgq : ¬ gq = g := by omega
  have ngw : ¬ g = w2.heap.size := by omega
  generalize L.length = nl at *
  clear hW hL hS9 hS2 hu2 hn hps hnc hcm HS1 HZ1
  have HCC := Lib.hid (fun (W : World) (hW : Ext w2 W) => s_l13Change (a := a) (A := A) (c := c) (bs := bs) gq n cap AL nl cL ps W (HS2.out.on hW) (HS9.out.ext hW) HN.out hnp hn10 HLE.out hgq)
  have HZ3 := Lib.hid (fun (W : World) (hW : Ext w2 W) => HZ2.out.ext hW)
  clear HN HLE HS9
  go_wp2_with fail
  refine (HCC.out _ (by (repeat (first | with_reducible exact Ext.refl _ | with_reducible assumption | ((with_reducible apply Src.ext); with_reducible assumption) | with_reducible refine Ext.alloc ?_ _ | with_reducible refine Ext.drew ?_ | with_reducible refine Ext.drewN ?_ _ | ((with_reducible refine Ext.setCell' ?_ ?_ _); solve | omega | simp | (simp; omega)) | (with_reducible refine Ext.trans ?_ (by with_reducible assumption)))))).mono ?_
  rintro e w4 ⟨y, k, co, ot, la, te, rfl, hok, hS4, hu4⟩
  have hz4 : Blk w4 w.heap.size 47 #[.int .i64 0, .int .i64 0, .string ⟨#[]⟩, .string ⟨#[]⟩, .string ⟨#[]⟩, .string ⟨#[]⟩] := Blk.but' hu4 nb (HZ3.out _ (by (repeat (first | with_reducible exact Ext.refl _ | with_reducible assumption | ((with_reducible apply Src.ext); with_reducible assumption) | with_reducible refine Ext.alloc ?_ _ | with_reducible refine Ext.drew ?_ | with_reducible refine Ext.drewN ?_ _ | ((with_reducible refine Ext.setCell' ?_ ?_ _); solve | omega | simp | (simp; omega)) | (with_reducible refine Ext.trans ?_ (by with_reducible assumption))))))
  have HZ4 := Lib.hid hz4
  have HX4 := Lib.hid (HX0.out.trans hS4.ext)
  have HOK := Lib.hid hok
  have hl4 := hz4.lt
  have v0 : w4.cell? ⟨w.heap.size, 0, none⟩ = some (.int .i64 0) := hz4.cell 0
  have v1 : w4.cell? ⟨w.heap.size, 1, none⟩ = some (.int .i64 0) := hz4.cell 1
  have v2 : w4.cell? ⟨w.heap.size, 2, none⟩ = some (.string ⟨#[]⟩) := hz4.cell 2
  have v3 : w4.cell? ⟨w.heap.size, 3, none⟩ = some (.string ⟨#[]⟩) := hz4.cell 3
  have v4 : w4.cell? ⟨w.heap.size, 4, none⟩ = some (.string ⟨#[]⟩) := hz4.cell 4
  have v5 : w4.cell? ⟨w.heap.size, 5, none⟩ = some (.string ⟨#[]⟩) := hz4.cell 5
  have z0 := hz4.frozen 0
  have z1 := hz4.frozen 1
  have z2 := hz4.frozen 2
  have z3 := hz4.frozen 3
  have z4 := hz4.frozen 4
  have z5 := hz4.frozen 5
  clear hz4 hS4 hu4 hok HCC HZ3
  go_wp2
  have hz4 := HZ4.out
  have hx4 := HX4.out
  refine ret_ch (b0 := w.heap.size) (t := 47) (v := .agg #[.int .i64 y, .int .i64 k, .string (tx co), .string (tx ot), .string (tx la), .string (tx te)]) (Blk.eq (by (repeat (first | with_reducible assumption | ((with_reducible apply Blk.new); solve | simp | rfl) | with_reducible apply Blk.drew | with_reducible apply Blk.drewN | ((with_reducible apply Blk.far'); solve | omega | simp | (simp; omega)) | with_reducible apply Blk.set_ | with_reducible apply Blk.alloc | ((with_reducible apply Blk.ext'); with_reducible assumption) | ((with_reducible apply Blk.but'); (with_reducible assumption); solve | omega | (simp; omega))))) (by rfl)) rfl (by intro W' r0 r1 r2 r3 r4 r5; simp [results, Tryz.results43, go_sem, r0, r1, r2, r3, r4, r5]) ⟨y, k, co, ot, la, te, rfl, HOK.out, by (repeat (first | with_reducible exact Ext.refl _ | with_reducible assumption | ((with_reducible apply Src.ext); with_reducible assumption) | with_reducible refine Ext.alloc ?_ _ | with_reducible refine Ext.drew ?_ | with_reducible refine Ext.drewN ?_ _ | ((with_reducible refine Ext.setCell' ?_ ?_ _); solve | omega | simp | (simp; omega)) | (with_reducible refine Ext.trans ?_ (by with_reducible assumption))))⟩
set_option maxRecDepth 20000 in
set_option maxHeartbeats 12800000 in
theorem s_DrawChangeText (A : Option Addr) (c : Nat) (bs : List Int) (w : World) (h : SlAt w 1 encB A bs) (hb : ∀ b ∈ bs, 0 ≤ b ∧ b ≤ 255) (hl : bs.length ≤ 4096) :
    Calls Tryz.prog 20 #[.slice A bs.length c] w fun e w' => ∃ (y k : Int) (co ot la te : List UInt8), e = .returned (.agg #[.int .i64 y, .int .i64 k, .string (tx co), .string (tx ot), .string (tx la), .string (tx te)]) ∧ ChOk y k co ot la te ∧ Ext w w' := by
  have HC := Lib.hid (fun (W : World) (hW : Ext w W) => s_DrawIsChange A c bs W (h.ext hW) hb hl)
  clear h hb hl
  go_enter Tryz.func20, Tryz.ntmps20
  go_upto_region 1 with (fail)
  have HZ : Hid (Blk (w.alloc (.cells #[.int .i64 0, .int .i64 0, .string ⟨#[]⟩, .string ⟨#[]⟩, .string ⟨#[]⟩, .string ⟨#[]⟩] 47)) w.heap.size 47 #[.int .i64 0, .int .i64 0, .string ⟨#[]⟩, .string ⟨#[]⟩, .string ⟨#[]⟩, .string ⟨#[]⟩]) := Lib.hid (Blk.eq (by (repeat (first | with_reducible assumption | ((with_reducible apply Blk.new); solve | simp | rfl) | with_reducible apply Blk.drew | with_reducible apply Blk.drewN | ((with_reducible apply Blk.far'); solve | omega | simp | (simp; omega)) | with_reducible apply Blk.set_ | with_reducible apply Blk.alloc | ((with_reducible apply Blk.ext'); with_reducible assumption) | ((with_reducible apply Blk.but'); (with_reducible assumption); solve | omega | (simp; omega))))) (by rfl))
  have HX0 : Hid (Ext w (w.alloc (.cells #[.int .i64 0, .int .i64 0, .string ⟨#[]⟩, .string ⟨#[]⟩, .string ⟨#[]⟩, .string ⟨#[]⟩] 47))) := Lib.hid (by (repeat (first | with_reducible exact Ext.refl _ | with_reducible assumption | ((with_reducible apply Src.ext); with_reducible assumption) | with_reducible refine Ext.alloc ?_ _ | with_reducible refine Ext.drew ?_ | with_reducible refine Ext.drewN ?_ _ | ((with_reducible refine Ext.setCell' ?_ ?_ _); solve | omega | simp | (simp; omega)) | (with_reducible refine Ext.trans ?_ (by with_reducible assumption)))))
  generalize (w.alloc (.cells #[.int .i64 0, .int .i64 0, .string ⟨#[]⟩, .string ⟨#[]⟩, .string ⟨#[]⟩, .string ⟨#[]⟩] 47)) = a at *
  have HCA := Lib.hid (HC.out a HX0.out)
  clear HC
  go_wp2_with fail
  refine HCA.out.mono ?_
  rintro e w4 ⟨y, k, co, ot, la, te, rfl, hok, hx4⟩
  have hz4 := HZ.out.ext hx4
  have HZ4 := Lib.hid hz4
  have HX4 := Lib.hid (HX0.out.trans hx4)
  have HOK := Lib.hid hok
  have hl4 := hz4.lt
  have v0 : w4.cell? ⟨w.heap.size, 0, none⟩ = some (.int .i64 0) := hz4.cell 0
  have v1 : w4.cell? ⟨w.heap.size, 1, none⟩ = some (.int .i64 0) := hz4.cell 1
  have v2 : w4.cell? ⟨w.heap.size, 2, none⟩ = some (.string ⟨#[]⟩) := hz4.cell 2
  have v3 : w4.cell? ⟨w.heap.size, 3, none⟩ = some (.string ⟨#[]⟩) := hz4.cell 3
  have v4 : w4.cell? ⟨w.heap.size, 4, none⟩ = some (.string ⟨#[]⟩) := hz4.cell 4
  have v5 : w4.cell? ⟨w.heap.size, 5, none⟩ = some (.string ⟨#[]⟩) := hz4.cell 5
  have z0 := hz4.frozen 0
  have z1 := hz4.frozen 1
  have z2 := hz4.frozen 2
  have z3 := hz4.frozen 3
  have z4 := hz4.frozen 4
  have z5 := hz4.frozen 5
  clear hz4 hx4 hok HCA
  go_wp2
  have hz4 := HZ4.out
  have hx4 := HX4.out
  refine ret_ch (b0 := w.heap.size) (t := 47) (v := .agg #[.int .i64 y, .int .i64 k, .string (tx co), .string (tx ot), .string (tx la), .string (tx te)]) (Blk.eq (by (repeat (first | with_reducible assumption | ((with_reducible apply Blk.new); solve | simp | rfl) | with_reducible apply Blk.drew | with_reducible apply Blk.drewN | ((with_reducible apply Blk.far'); solve | omega | simp | (simp; omega)) | with_reducible apply Blk.set_ | with_reducible apply Blk.alloc | ((with_reducible apply Blk.ext'); with_reducible assumption) | ((with_reducible apply Blk.but'); (with_reducible assumption); solve | omega | (simp; omega))))) (by rfl)) rfl (by intro W' r0 r1 r2 r3 r4 r5; simp [results, Tryz.results20, go_sem, r0, r1, r2, r3, r4, r5]) ⟨y, k, co, ot, la, te, rfl, HOK.out, by (repeat (first | with_reducible exact Ext.refl _ | with_reducible assumption | ((with_reducible apply Src.ext); with_reducible assumption) | with_reducible refine Ext.alloc ?_ _ | with_reducible refine Ext.drew ?_ | with_reducible refine Ext.drewN ?_ _ | ((with_reducible refine Ext.setCell' ?_ ?_ _); solve | omega | simp | (simp; omega)) | (with_reducible refine Ext.trans ?_ (by with_reducible assumption))))⟩
end Go.Proofs.YtabdffponmmhoaaGreatDoor
