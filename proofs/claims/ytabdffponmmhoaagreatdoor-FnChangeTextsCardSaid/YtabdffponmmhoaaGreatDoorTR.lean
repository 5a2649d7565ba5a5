/- Reading a change, walked over the translation: the program; the law. -/
import Derived.Test.YtabdffponmmhoaaGreatDoorT4
import Derived.Test.YtabdffponmmhoaaGreatDoorKU
import Derived.Deep.RegionHeld3
import Derived.Deep.DeepCutAuto
import Derived.RegionTactic
import Derived.BigRegion
import Derived.WalkLawsBesides
import Derived.WalkSpells
import Derived.Lib.MinMax
import Derived.Outline
namespace Go.Proofs.YtabdffponmmhoaaGreatDoor
open Go.RowKit
attribute [local go_sem] ExtOf.cell ExtOf.frozen

set_option maxRecDepth 20000 in
set_option maxHeartbeats 12800000 in
theorem i_ReadChange (s : ByteArray) (w : World) (hs : s.size ≤ 1048576) (h : Ld w) :
    Calls Tryz.prog 24 #[.string s] w fun e w' => e = .returned (.tuple #[.agg #[.int .i64 (rcR s.data.toList).y, .int .i64 (rcR s.data.toList).k, .string (rcR s.data.toList).co, .string (rcR s.data.toList).ot, .string (rcR s.data.toList).la, .string (rcR s.data.toList).te], .int .i64 (rcC s.data.toList)]) ∧ Ext w w' := by
  have HL := Lib.hid h
  clear h
  have hsz := size_list s
  have HS := Lib.hid fun W hW => i_Split s 47 W hs hW
  have hg := fun k => sp_getD 47 s.data.toList k
  have hq := sp_len_le 47 s.data.toList
  have HX : Hid (∀ r, rdCh s.data.toList = r → (rcR s.data.toList).y = (r.getD chg0).y ∧ (rcR s.data.toList).k = (r.getD chg0).k ∧ (rcR s.data.toList).co = (r.getD chg0).co ∧ (rcR s.data.toList).ot = (r.getD chg0).ot ∧ (rcR s.data.toList).la = (r.getD chg0).la ∧ (rcR s.data.toList).te = (r.getD chg0).te ∧ rcC s.data.toList = if r.isSome then 0 else 6) := Lib.hid fun r hr => by unfold rcR rcC; rw [hr]; exact ⟨rfl, rfl, rfl, rfl, rfl, rfl, rfl⟩
  generalize (rcR s.data.toList).y = qy at *
  generalize (rcR s.data.toList).k = qk at *
  generalize (rcR s.data.toList).co = q2 at *
  generalize (rcR s.data.toList).ot = q3 at *
  generalize (rcR s.data.toList).la = q4 at *
  generalize (rcR s.data.toList).te = q5 at *
  generalize rcC s.data.toList = qc at *
  obtain ⟨l, hl⟩ : ∃ l, l = s.data.toList := ⟨_, rfl⟩
  have HLL := Lib.hid hl
  rw [← hl] at HS hg hq HX hsz
  obtain ⟨L, hL⟩ : ∃ L, L = sp 47 l := ⟨_, rfl⟩
  rw [← hL] at HS hg hq
  have HG : Hid (∀ k, (L.getD k []).length ≤ 1048576) := Lib.hid fun k => by have := hg k; omega
  have HLS := Lib.hid hL
  by_cases h6 : L.length = 6
  · obtain ⟨p0, p1, p2, p3, p4, p5, rfl⟩ : ∃ p0 p1 p2 p3 p4 p5, L = [p0, p1, p2, p3, p4, p5] := by
      match L, h6 with
      | [p0, p1, p2, p3, p4, p5], _ => exact ⟨p0, p1, p2, p3, p4, p5, rfl⟩
    have z0 : (tx p0).size ≤ 1048576 := by rw [tx_size]; exact HG.out 0
    have z1 : (tx p1).size ≤ 1048576 := by rw [tx_size]; exact HG.out 1
    have z2 : (tx p2).size ≤ 1048576 := by rw [tx_size]; exact HG.out 2
    have z3 : (tx p3).size ≤ 1048576 := by rw [tx_size]; exact HG.out 3
    have z4 : (tx p4).size ≤ 1048576 := by rw [tx_size]; exact HG.out 4
    have z5 : (tx p5).size ≤ 1048576 := by rw [tx_size]; exact HG.out 5
    have H1 := Lib.hid fun W hW => i_readNumber (tx p0) W z0 hW
    have H2 := Lib.hid fun W hW => i_readNumber (tx p1) W z1 hW
    have H3 := Lib.hid (i_fromDot (tx p3))
    have H4 := Lib.hid (i_fromDot (tx p4))
    have H5 := Lib.hid (i_fromDot (tx p5))
    have HF := Lib.hid fun v k b1 b2 => @six_i l p0 p1 p2 p3 p4 p5 v k b1 b2 hL.symm
    have HI := Lib.hid fun (v k : Int) W (hW : Ld W) => i_IsChange v k (tx p2) (frB (tx p3)) (frB (tx p4)) (frB (tx p5)) W z2 (frB_size z3) (frB_size z4) (frB_size z5) hW.mx
    have HT := Lib.hid fun (v k : Int) W a b c (hW : Ld W) => i_changeText v k (tx p2) (frB (tx p3)) (frB (tx p4)) (frB (tx p5)) W a b c z2 (frB_size z3) (frB_size z4) (frB_size z5) hW.tab
    generalize frB (tx p3) = f3 at *
    generalize frB (tx p4) = f4 at *
    generalize frB (tx p5) = f5 at *
    clear hl hg hq hL h6 z0 z1 z2 z3 z4 z5 HG HLS hsz
    go_enter Tryz.func24, Tryz.ntmps24
    go_wp2_with fail
    refine (HS.out _ (HL.out.mx.ext (by (repeat (first | with_reducible exact Ext.refl _ | with_reducible assumption | ((with_reducible apply Src.ext); with_reducible assumption) | with_reducible refine Ext.alloc ?_ _ | with_reducible refine Ext.drew ?_ | with_reducible refine Ext.drewN ?_ _ | ((with_reducible refine Ext.setCell' ?_ ?_ _); solve | omega | simp | (simp; omega)) | (with_reducible refine Ext.trans ?_ (by with_reducible assumption))))))).mono ?_
    rintro e w1 ⟨g, c', rfl, hS1, _, _, hx1⟩
    obtain ⟨g', off, hge, hgl, d0⟩ := hS1.st (k := 0) (by simp)
    injection hge with hge
    injection hge with hg1 hg2
    subst hg1
    subst hg2
    clear HS
    have d1 := SlAt.st' hS1 (k := 1) (by simp)
    have d2 := SlAt.st' hS1 (k := 2) (by simp)
    have d3 := SlAt.st' hS1 (k := 3) (by simp)
    have d4 := SlAt.st' hS1 (k := 4) (by simp)
    have d5 := SlAt.st' hS1 (k := 5) (by simp)
    simp at d0 d1 d2 d3 d4 d5
    obtain ⟨hc1, hf1⟩ := hx1.rules
    have hs1 := hx1.size
    (try simp at hs1)
    clear hS1
    simp only [List.length_cons, List.length_nil]
    have := (show w.heap.size < w1.heap.size from by omega)
    go_wp2_with fail
    refine (H1.out _ (HL.out.ext (by (repeat (first | with_reducible exact Ext.refl _ | with_reducible assumption | ((with_reducible apply Src.ext); with_reducible assumption) | with_reducible refine Ext.alloc ?_ _ | with_reducible refine Ext.drew ?_ | with_reducible refine Ext.drewN ?_ _ | ((with_reducible refine Ext.setCell' ?_ ?_ _); solve | omega | simp | (simp; omega)) | (with_reducible refine Ext.trans ?_ (by with_reducible assumption))))))).mono ?_
    rintro e w2 ⟨⟨v, b1, rfl, hr1⟩, hx2⟩
    have HR1 := Lib.hid hr1
    clear hr1
    obtain ⟨hc2, hf2⟩ := hx2.rules
    have hs2 := hx2.size
    (try simp at hs2)
    have := (show w.heap.size < w2.heap.size from by omega)
    have := (show g < w2.heap.size from by omega)
    go_wp2_with fail
    refine (H2.out _ (HL.out.ext (by (repeat (first | with_reducible exact Ext.refl _ | with_reducible assumption | ((with_reducible apply Src.ext); with_reducible assumption) | with_reducible refine Ext.alloc ?_ _ | with_reducible refine Ext.drew ?_ | with_reducible refine Ext.drewN ?_ _ | ((with_reducible refine Ext.setCell' ?_ ?_ _); solve | omega | simp | (simp; omega)) | (with_reducible refine Ext.trans ?_ (by with_reducible assumption))))))).mono ?_
    rintro e w3 ⟨⟨k, b2, rfl, hr2⟩, hx3⟩
    have HN := Lib.hid (HF.out v k b1 b2 HR1.out hr2)
    clear hr2 HF
    obtain ⟨hc3, hf3⟩ := hx3.rules
    have hs3 := hx3.size
    (try simp at hs3)
    have := (show w.heap.size < w3.heap.size from by omega)
    have := (show g < w3.heap.size from by omega)
    have HK : Hid (∀ W, Ext w1 W → W.cell? ⟨g, 2, none⟩ = some (.string (tx p2)) ∧ W.cell? ⟨g, 3, none⟩ = some (.string (tx p3)) ∧ W.cell? ⟨g, 4, none⟩ = some (.string (tx p4)) ∧ W.cell? ⟨g, 5, none⟩ = some (.string (tx p5))) := Lib.hid fun W hx => ⟨(hx.cell _ _ hgl).trans d2, (hx.cell _ _ hgl).trans d3, (hx.cell _ _ hgl).trans d4, (hx.cell _ _ hgl).trans d5⟩
    go_upto_region 6 with (fail)
    go_cut [9] (fun p wx => ∃ b9 : Nat, p = .pointer (some ⟨b9, 0, none⟩) ∧ Blk wx b9 47 #[.int .i64 v, .int .i64 k, .string (tx p2), .string f3, .string f4, .string f5] ∧ Ext w3 wx)
    case first =>
      go_region_held3 (fun w' => w'.cell? ⟨g, 2, none⟩ = some (.string (tx p2)) ∧ w'.cell? ⟨g, 3, none⟩ = some (.string (tx p3)) ∧ w'.cell? ⟨g, 4, none⟩ = some (.string (tx p4)) ∧ w'.cell? ⟨g, 5, none⟩ = some (.string (tx p5))) (first | exact HK.out _ (by (repeat (first | with_reducible exact Ext.refl _ | with_reducible assumption | ((with_reducible apply Src.ext); with_reducible assumption) | with_reducible refine Ext.alloc ?_ _ | with_reducible refine Ext.drew ?_ | with_reducible refine Ext.drewN ?_ _ | ((with_reducible refine Ext.setCell' ?_ ?_ _); solve | omega | simp | (simp; omega)) | (with_reducible refine Ext.trans ?_ (by with_reducible assumption))))) | go_keep) (first | ((go_at_call 52; refine (H3.out _).mono ?_; rintro e wa ⟨rfl, hxa⟩; obtain ⟨hca, hfa⟩ := hxa.rules; have hsa := hxa.size; (try simp at hsa); (try have := (show w3.heap.size < wa.heap.size from by omega)))) | ((go_at_call 52; refine (H4.out _).mono ?_; rintro e wb ⟨rfl, hxb⟩; obtain ⟨hcb, hfb⟩ := hxb.rules; have hsb := hxb.size; (try simp at hsb); (try have := (show w3.heap.size < wb.heap.size from by omega)); (try have := (show wa.heap.size < wb.heap.size from by omega)))) | ((go_at_call 52; refine (H5.out _).mono ?_; rintro e wd ⟨rfl, hxd⟩; obtain ⟨hcd, hfd⟩ := hxd.rules; have hsd := hxd.size; (try simp at hsd); (try have := (show w3.heap.size < wd.heap.size from by omega)); (try have := (show wa.heap.size < wd.heap.size from by omega)); (try have := (show wb.heap.size < wd.heap.size from by omega)))))
      all_goals (go_wp2_with fail; go_meet; exact ⟨_, rfl, Blk.eq (by (repeat (first | with_reducible assumption | ((with_reducible apply Blk.new); solve | simp | rfl) | with_reducible apply Blk.drew | with_reducible apply Blk.drewN | ((with_reducible apply Blk.far'); solve | omega | simp | (simp; omega)) | with_reducible apply Blk.set_ | with_reducible apply Blk.alloc | ((with_reducible apply Blk.ext'); with_reducible assumption) | ((with_reducible apply Blk.but'); (with_reducible assumption); solve | omega | (simp; omega))))) (by rfl), by (repeat (first | with_reducible exact Ext.refl _ | with_reducible assumption | ((with_reducible apply Src.ext); with_reducible assumption) | with_reducible refine Ext.alloc ?_ _ | with_reducible refine Ext.drew ?_ | with_reducible refine Ext.drewN ?_ _ | ((with_reducible refine Ext.setCell' ?_ ?_ _); solve | omega | simp | (simp; omega)) | (with_reducible refine Ext.trans ?_ (by with_reducible assumption))))⟩)
    case rest =>
    obtain ⟨b9, rfl, hB9, hxc⟩ := hcut
    have e0 : wc.cell? ⟨b9, 0, none⟩ = some (.int .i64 v) := hB9.cell 0
    have e1 : wc.cell? ⟨b9, 1, none⟩ = some (.int .i64 k) := hB9.cell 1
    have e2 : wc.cell? ⟨b9, 2, none⟩ = some (.string (tx p2)) := hB9.cell 2
    have e3 : wc.cell? ⟨b9, 3, none⟩ = some (.string f3) := hB9.cell 3
    have e4 : wc.cell? ⟨b9, 4, none⟩ = some (.string f4) := hB9.cell 4
    have e5 : wc.cell? ⟨b9, 5, none⟩ = some (.string f5) := hB9.cell 5
    have z9 := hB9.lt
    obtain ⟨hcc, hfc⟩ := hxc.rules
    have hsc := hxc.size
    have := (show w.heap.size < wc.heap.size from by omega)
    have HIv := Lib.hid (HI.out v k)
    have HTv := Lib.hid (HT.out v k)
    clear HI HT H1 H2 H3 H4 H5
    cases hb : chB v k (tx p2) f3 f4 f5 with
    | false =>
      rw [hb] at HIv
      have HNO := Lib.hid (HN.out (fun h => by obtain ⟨h, _⟩ := h; rw [hb] at h; cases h))
      have HQ := Lib.hid (HX.out _ HNO.out)
      clear HX HN
      clear hb
      go_wp2_with fail
      refine (HIv.out _ (HL.out.ext (by (repeat (first | with_reducible exact Ext.refl _ | with_reducible assumption | ((with_reducible apply Src.ext); with_reducible assumption) | with_reducible refine Ext.alloc ?_ _ | with_reducible refine Ext.drew ?_ | with_reducible refine Ext.drewN ?_ _ | ((with_reducible refine Ext.setCell' ?_ ?_ _); solve | omega | simp | (simp; omega)) | (with_reducible refine Ext.trans ?_ (by with_reducible assumption))))))).mono ?_
      rintro e w5 ⟨rfl, hx5⟩
      obtain ⟨hc5, hf5⟩ := hx5.rules
      have hs5 := hx5.size
      (try simp at hs5)
      have := (show w.heap.size < w5.heap.size from by omega)
      go_wp2
      refine ret_chg (b0 := w.heap.size) (t := 47) (v := .tuple #[.agg #[.int .i64 0, .int .i64 0, .string ⟨#[]⟩, .string ⟨#[]⟩, .string ⟨#[]⟩, .string ⟨#[]⟩], .int .i64 6]) (Blk.eq (by (repeat (first | with_reducible assumption | ((with_reducible apply Blk.new); solve | simp | rfl) | with_reducible apply Blk.drew | with_reducible apply Blk.drewN | ((with_reducible apply Blk.far'); solve | omega | simp | (simp; omega)) | with_reducible apply Blk.set_ | with_reducible apply Blk.alloc | ((with_reducible apply Blk.ext'); with_reducible assumption) | ((with_reducible apply Blk.but'); (with_reducible assumption); solve | omega | (simp; omega))))) (by rfl)) rfl (by intro W' r0 r1 r2 r3 r4 r5; simp [results, Tryz.results24, go_sem, r0, r1, r2, r3, r4, r5]) ?_
      obtain ⟨g1, g2, g3, g4, g5, g6, g7⟩ := HQ.out
      exact ⟨by rw [g1, g2, g3, g4, g5, g6, g7]; rfl, by (repeat (first | with_reducible exact Ext.refl _ | with_reducible assumption | ((with_reducible apply Src.ext); with_reducible assumption) | with_reducible refine Ext.alloc ?_ _ | with_reducible refine Ext.drew ?_ | with_reducible refine Ext.drewN ?_ _ | ((with_reducible refine Ext.setCell' ?_ ?_ _); solve | omega | simp | (simp; omega)) | (with_reducible refine Ext.trans ?_ (by with_reducible assumption))))⟩
    | true =>
      rw [hb] at HIv
      obtain ⟨n1, n2, n3⟩ := chB_facts hb
      by_cases hst : l = chT v k (tx p2) f3 f4 f5
      · have HY := Lib.hid (rdCh_yes (p := ⟨v, k, tx p2, f3, f4, f5⟩) hb hst)
        have hst2 : ((tx (chT v k (tx p2) f3 f4 f5)).toList == s.toList) = true := same_text.2 (eq_tx (HLL.out.symm.trans hst)).symm
        have HQ := Lib.hid (HX.out _ HY.out)
        have HTT := Lib.hid fun W (hW : Ld W) => HTv.out W n1 n2 n3 hW
        generalize chT v k (tx p2) f3 f4 f5 = tt at *
        clear hst HX HN HY hb
        go_wp2_with fail
        refine (HIv.out _ (HL.out.ext (by (repeat (first | with_reducible exact Ext.refl _ | with_reducible assumption | ((with_reducible apply Src.ext); with_reducible assumption) | with_reducible refine Ext.alloc ?_ _ | with_reducible refine Ext.drew ?_ | with_reducible refine Ext.drewN ?_ _ | ((with_reducible refine Ext.setCell' ?_ ?_ _); solve | omega | simp | (simp; omega)) | (with_reducible refine Ext.trans ?_ (by with_reducible assumption))))))).mono ?_
        rintro e w5 ⟨rfl, hx5⟩
        obtain ⟨hc5, hf5⟩ := hx5.rules
        have hs5 := hx5.size
        (try simp at hs5)
        have := (show w.heap.size < w5.heap.size from by omega)
        have := (show b9 < w5.heap.size from by omega)
        go_wp2_with fail
        refine (HTT.out _ (HL.out.ext (by (repeat (first | with_reducible exact Ext.refl _ | with_reducible assumption | ((with_reducible apply Src.ext); with_reducible assumption) | with_reducible refine Ext.alloc ?_ _ | with_reducible refine Ext.drew ?_ | with_reducible refine Ext.drewN ?_ _ | ((with_reducible refine Ext.setCell' ?_ ?_ _); solve | omega | simp | (simp; omega)) | (with_reducible refine Ext.trans ?_ (by with_reducible assumption))))))).mono ?_
        rintro e w6 ⟨rfl, hx6⟩
        obtain ⟨hc6, hf6⟩ := hx6.rules
        have hs6 := hx6.size
        (try simp at hs6)
        have := (show w.heap.size < w6.heap.size from by omega)
        have := (show b9 < w6.heap.size from by omega)
        go_wp2
        refine ret_chg (b0 := w.heap.size) (t := 47) (v := .tuple #[.agg #[.int .i64 v, .int .i64 k, .string (tx p2), .string f3, .string f4, .string f5], .int .i64 0]) (Blk.eq (by (repeat (first | with_reducible assumption | ((with_reducible apply Blk.new); solve | simp | rfl) | with_reducible apply Blk.drew | with_reducible apply Blk.drewN | ((with_reducible apply Blk.far'); solve | omega | simp | (simp; omega)) | with_reducible apply Blk.set_ | with_reducible apply Blk.alloc | ((with_reducible apply Blk.ext'); with_reducible assumption) | ((with_reducible apply Blk.but'); (with_reducible assumption); solve | omega | (simp; omega))))) (by rfl)) rfl (by intro W' r0 r1 r2 r3 r4 r5; simp [results, Tryz.results24, go_sem, r0, r1, r2, r3, r4, r5]) ?_
        obtain ⟨g1, g2, g3, g4, g5, g6, g7⟩ := HQ.out
        exact ⟨by rw [g1, g2, g3, g4, g5, g6, g7]; rfl, by (repeat (first | with_reducible exact Ext.refl _ | with_reducible assumption | ((with_reducible apply Src.ext); with_reducible assumption) | with_reducible refine Ext.alloc ?_ _ | with_reducible refine Ext.drew ?_ | with_reducible refine Ext.drewN ?_ _ | ((with_reducible refine Ext.setCell' ?_ ?_ _); solve | omega | simp | (simp; omega)) | (with_reducible refine Ext.trans ?_ (by with_reducible assumption))))⟩
      · have HNO := Lib.hid (HN.out (fun h => hst h.2))
        have hst2 : ((tx (chT v k (tx p2) f3 f4 f5)).toList == s.toList) = false := Bool.eq_false_iff.2 fun h => hst (HLL.out.trans (by rw [← same_text.1 h, tx_list]))
        have HQ := Lib.hid (HX.out _ HNO.out)
        have HTT := Lib.hid fun W (hW : Ld W) => HTv.out W n1 n2 n3 hW
        generalize chT v k (tx p2) f3 f4 f5 = tt at *
        clear hst HX HN hb
        go_wp2_with fail
        refine (HIv.out _ (HL.out.ext (by (repeat (first | with_reducible exact Ext.refl _ | with_reducible assumption | ((with_reducible apply Src.ext); with_reducible assumption) | with_reducible refine Ext.alloc ?_ _ | with_reducible refine Ext.drew ?_ | with_reducible refine Ext.drewN ?_ _ | ((with_reducible refine Ext.setCell' ?_ ?_ _); solve | omega | simp | (simp; omega)) | (with_reducible refine Ext.trans ?_ (by with_reducible assumption))))))).mono ?_
        rintro e w5 ⟨rfl, hx5⟩
        obtain ⟨hc5, hf5⟩ := hx5.rules
        have hs5 := hx5.size
        (try simp at hs5)
        have := (show w.heap.size < w5.heap.size from by omega)
        have := (show b9 < w5.heap.size from by omega)
        go_wp2_with fail
        refine (HTT.out _ (HL.out.ext (by (repeat (first | with_reducible exact Ext.refl _ | with_reducible assumption | ((with_reducible apply Src.ext); with_reducible assumption) | with_reducible refine Ext.alloc ?_ _ | with_reducible refine Ext.drew ?_ | with_reducible refine Ext.drewN ?_ _ | ((with_reducible refine Ext.setCell' ?_ ?_ _); solve | omega | simp | (simp; omega)) | (with_reducible refine Ext.trans ?_ (by with_reducible assumption))))))).mono ?_
        rintro e w6 ⟨rfl, hx6⟩
        obtain ⟨hc6, hf6⟩ := hx6.rules
        have hs6 := hx6.size
        (try simp at hs6)
        have := (show w.heap.size < w6.heap.size from by omega)
        have := (show b9 < w6.heap.size from by omega)
        go_wp2
        refine ret_chg (b0 := w.heap.size) (t := 47) (v := .tuple #[.agg #[.int .i64 0, .int .i64 0, .string ⟨#[]⟩, .string ⟨#[]⟩, .string ⟨#[]⟩, .string ⟨#[]⟩], .int .i64 6]) (Blk.eq (by (repeat (first | with_reducible assumption | ((with_reducible apply Blk.new); solve | simp | rfl) | with_reducible apply Blk.drew | with_reducible apply Blk.drewN | ((with_reducible apply Blk.far'); solve | omega | simp | (simp; omega)) | with_reducible apply Blk.set_ | with_reducible apply Blk.alloc | ((with_reducible apply Blk.ext'); with_reducible assumption) | ((with_reducible apply Blk.but'); (with_reducible assumption); solve | omega | (simp; omega))))) (by rfl)) rfl (by intro W' r0 r1 r2 r3 r4 r5; simp [results, Tryz.results24, go_sem, r0, r1, r2, r3, r4, r5]) ?_
        obtain ⟨g1, g2, g3, g4, g5, g6, g7⟩ := HQ.out
        exact ⟨by rw [g1, g2, g3, g4, g5, g6, g7]; rfl, by (repeat (first | with_reducible exact Ext.refl _ | with_reducible assumption | ((with_reducible apply Src.ext); with_reducible assumption) | with_reducible refine Ext.alloc ?_ _ | with_reducible refine Ext.drew ?_ | with_reducible refine Ext.drewN ?_ _ | ((with_reducible refine Ext.setCell' ?_ ?_ _); solve | omega | simp | (simp; omega)) | (with_reducible refine Ext.trans ?_ (by with_reducible assumption))))⟩
  · have hne : ((L.length : Int) != 6) = true := by simp; omega
    have HNO : Hid (rdCh l = none) := Lib.hid (chg_none6 (by rw [← hL]; exact h6))
    have HQ := Lib.hid (HX.out _ HNO.out)
    obtain ⟨n, hn⟩ : ∃ n, n = L.length := ⟨_, rfl⟩
    rw [← hn] at HS
    rw [← hn] at hne
    have HN := Lib.hid hn
    clear hn hl hg hq hL h6 HG hsz HLS HX
    go_enter Tryz.func24, Tryz.ntmps24
    go_wp2_with fail
    refine (HS.out _ (HL.out.mx.ext (by (repeat (first | with_reducible exact Ext.refl _ | with_reducible assumption | ((with_reducible apply Src.ext); with_reducible assumption) | with_reducible refine Ext.alloc ?_ _ | with_reducible refine Ext.drew ?_ | with_reducible refine Ext.drewN ?_ _ | ((with_reducible refine Ext.setCell' ?_ ?_ _); solve | omega | simp | (simp; omega)) | (with_reducible refine Ext.trans ?_ (by with_reducible assumption))))))).mono ?_
    rintro e w1 ⟨g, c', rfl, hS1, _, _, hx1⟩
    obtain ⟨hc1, hf1⟩ := hx1.rules
    have hs1 := hx1.size
    (try simp at hs1)
    have := (show w.heap.size < w1.heap.size from by omega)
    go_wp2
    refine ret_chg (b0 := w.heap.size) (t := 47) (v := .tuple #[.agg #[.int .i64 0, .int .i64 0, .string ⟨#[]⟩, .string ⟨#[]⟩, .string ⟨#[]⟩, .string ⟨#[]⟩], .int .i64 6]) (Blk.eq (by (repeat (first | with_reducible assumption | ((with_reducible apply Blk.new); solve | simp | rfl) | with_reducible apply Blk.drew | with_reducible apply Blk.drewN | ((with_reducible apply Blk.far'); solve | omega | simp | (simp; omega)) | with_reducible apply Blk.set_ | with_reducible apply Blk.alloc | ((with_reducible apply Blk.ext'); with_reducible assumption) | ((with_reducible apply Blk.but'); (with_reducible assumption); solve | omega | (simp; omega))))) (by rfl)) rfl (by intro W' r0 r1 r2 r3 r4 r5; simp [results, Tryz.results24, go_sem, r0, r1, r2, r3, r4, r5]) ?_
    obtain ⟨g1, g2, g3, g4, g5, g6, g7⟩ := HQ.out
    exact ⟨by rw [g1, g2, g3, g4, g5, g6, g7]; rfl, by (repeat (first | with_reducible exact Ext.refl _ | with_reducible assumption | ((with_reducible apply Src.ext); with_reducible assumption) | with_reducible refine Ext.alloc ?_ _ | with_reducible refine Ext.drew ?_ | with_reducible refine Ext.drewN ?_ _ | ((with_reducible refine Ext.setCell' ?_ ?_ _); solve | omega | simp | (simp; omega)) | (with_reducible refine Ext.trans ?_ (by with_reducible assumption))))⟩


end Go.Proofs.YtabdffponmmhoaaGreatDoor
