/- A register copied, as the specification does it. A place added, as the specification does it. -/
import Derived.Test.YtlnliajnipniaaaGreatDoorD6
namespace Go.Proofs.YtlnliajnipniaaaGreatDoor
open Go.RowKit
attribute [local go_sem] ExtOf.cell ExtOf.frozen
theorem elQd : ElT Tryz.prog 24 57 5 64 := ElT.mk' (z := .agg #[.string .empty, .int .i64 0, .int .i64 0, .int .i64 0, .slice none 0 0]) Tryz.underlying24 (by kernel_rfl) rfl (by omega)
abbrev OwQ (w : World) (base : Nat) (v : Value) (xs : List Pl) : Prop := Own encQ 5 57 w base v xs
theorem blk_q1 {w : World} {g : Nat} {t : TypeId} {p : Pl} {cs : Array Value} (h : Blk w g t cs) (e : cs = #[.string (tx p.1), .int .i64 p.2.1, .int .i64 p.2.2.1, .int .i64 p.2.2.2.1, .slice p.2.2.2.2.1 p.2.2.2.2.2.2.length p.2.2.2.2.2.1]) : SlAt w 5 encQ (some ⟨g, 0, none⟩) [p] := by
 subst e; exact h.sl rfl len_encQ
theorem Own.some_ {α : Type} {enc : α → List Value} {sz base : Nat} {t : TypeId} {w : World} {v : Value} {xs : List α} (h : Own enc sz t w base v xs) (hn : ¬ xs = []) : v ≠ .slice none 0 0 := fun e => by
 rcases h.2 with ⟨_, h0⟩ | ⟨_, _, _, e9, _⟩
 ·exact hn (List.length_eq_zero_iff.1 h0)
 ·rw [e] at e9; cases e9
def NewRow (base : Nat) (p : Pl) : Prop := ∀ z : Addr, p.2.2.2.2.1 = some z → base ≤ z.block
def RowsAt (w : World) (base : Nat) (v : Value) (ps : List Pl) : Prop := ∀ p ∈ ps, PlAt w p ∧ ∀ z : Addr, p.2.2.2.2.1 = some z → base ≤ z.block ∧ z.block < w.heap.size ∧ ¬ v.ownBlock = some z.block
theorem RowsAt.ext {w w' : World} {base : Nat} {v : Value} {ps : List Pl} (h : RowsAt w base v ps) (hx : Ext w w') : RowsAt w' base v ps := fun p hp => by
 obtain ⟨h1, h2⟩ := h p hp
 exact ⟨h1.ext hx, fun z hz => ⟨(h2 z hz).1, Nat.lt_of_lt_of_le (h2 z hz).2.1 hx.size, (h2 z hz).2.2⟩⟩
theorem RowsAt.step {w w' : World} {base : Nat} {v v' : Value} {ps : List Pl} {p : Pl} (hg : w.grownBy w' v.ownBlock) (hv : v'.ownBlock = v.ownBlock ∨ v'.ownBlock = some w.heap.size) (h : RowsAt w base v ps)
  (hp : PlAt w p) (hz : ∀ z : Addr, p.2.2.2.2.1 = some z → base ≤ z.block ∧ z.block < w.heap.size ∧ ¬ v.ownBlock = some z.block) : RowsAt w' base v' (ps ++ [p]) := fun q hq => by
 have hq2 : PlAt w q ∧ ∀ z : Addr, q.2.2.2.2.1 = some z → base ≤ z.block ∧ z.block < w.heap.size ∧ ¬ v.ownBlock = some z.block := by
  rcases List.mem_append.1 hq with e | e
  ·exact h q e
  ·rw [List.mem_singleton.1 e]; exact ⟨hp, hz⟩
 obtain ⟨h1, h2⟩ := hq2
 refine ⟨⟨h1.1.grown hg (fun z hz e => (h2 z hz).2.2 e.symm), h1.2⟩, fun z hz => ⟨(h2 z hz).1, Nat.lt_of_lt_of_le (h2 z hz).2.1 hg.size, fun e => ?_⟩⟩
 rcases hv with e2 | e2
 ·exact (h2 z hz).2.2 (e2.symm.trans e)
 ·rw [e2] at e
  injection e with e
  have := (h2 z hz).2.1
  omega
theorem take_snoc {α : Type} {L : List α} {k : Nat} (hk : k < L.length) (d : α) : L.take (k + 1) = L.take k ++ [L.getD k d] := by
 rw [List.take_add_one]
 simp [List.getD, hk]
def OwnPs (D : List Pd) (base : Nat) (e : Ending) (w' : World) : Prop := ∃ (v : Value) (ps' : List Pl), e = .returned v ∧ v ≠ .slice none 0 0 ∧ OwQ w' base v ps' ∧ psD ps' = D ∧ Places w' ps' ∧ (∀ p ∈ ps', NewRow base p) ∧ RowsAt w' base v ps'
set_option maxRecDepth 20000 in
set_option maxHeartbeats 12800000 in
theorem s_l11Own (A : Option Addr) (n c : Nat) (ps : List Pl) (w : World) (h : SlAt w 5 encQ A ps) (hp : Places w ps) (hn : n = ps.length) (hl : ps.length ≤ 1000000) :
  Calls Tryz.prog 123 #[.slice A n c] w fun e w' => OwnPs (psD ps) w.heap.size e w' ∧ Ext w w' := by
 have HN := hI hn
 have HS := hI h
 have HP := hI hp
 have hn2 : n ≤ 1000000 := by omega
 go_enter Tryz.func123, Tryz.ntmps123
 have HV0 : Hid (OwQ (w.alloc (.cells #[] 57)) w.heap.size (.slice (some ⟨w.heap.size, 0, none⟩) 0 0) ([] : List Pl)) := hI (World.ownsRow_made (base := w.heap.size) (e := 57) (size := 5) w #[] 0 (Nat.le_refl _) (Nat.zero_le _) rfl)
 clear h hp hn hl
 go_wp2
 go_loopw [3, 4] (fun v i wr => ∃ (k : Nat) (p1 : List Pl), i = .int .i64 k ∧ k ≤ n ∧ p1.length = k ∧ Hid (v ≠ .slice none 0 0) ∧ Hid (psD p1 = (psD ps).take k) ∧ Hid (OwQ wr w.heap.size v p1) ∧ Hid (RowsAt wr w.heap.size v p1) ∧ Hid (Ext w wr)) (fun _ i _ => n - (intOf i).toNat)
 case atStart => exact ⟨0, [], rfl, by omega, rfl, hI (fun e => by injection e with e1; cases e1), hI (by simp [psD]), HV0, hI (fun p hp => by simp at hp), hI (xA xR)⟩
 case round =>
  obtain ⟨k, p1, rfl, hk, hlen, HNZ, HD, HV, HR, HX⟩ := hrel
  obtain ⟨w5, rfl⟩ : ∃ x, x = wr := ⟨wr, rfl⟩
  have hxr := HX.out
  have hsr := hxr.size
  by_cases hlt : k < n
  ·have hkl : k < ps.length := by have := HN.out; omega
   obtain ⟨b, off, rfl, hb, d0, d1, d2, d3, d4⟩ := (HS.out.ext hxr).pl hkl
   have hvk := (HP.out _ (pl_mem hkl)).ext hxr
   have hat := psD_at hkl
   obtain ⟨v0, hve⟩ : ∃ v0, v0 = ps.getD k plD := ⟨_, rfl⟩
   rw [← hve] at d0 d1 d2 d3 d4 hvk hat
   obtain ⟨vc, vl, va, vb, vA, vcap, vns⟩ := v0
   simp only at d0 d1 d2 d3 d4
   have HTK : Hid ((psD ps).take (k + 1) = (psD ps).take k ++ [(vc, vl, va, vb, vns)]) := hI (by rw [take_snoc (by rw [psD_len]; exact hkl) pdD, hat]; rfl)
   have HVK := hI hvk
   have HVN : Hid (SlAt w5 5 encN vA vns) := hI hvk.1
   have HLN : Hid (vns.length ≤ 1048576) := hI hvk.2.2.2.1
   have HL1 : Hid (p1.length ≤ 1000000) := hI (by omega)
   have HO5 : Hid (∀ W q, Blk W q 117 #[] → w5.heap.size + 1 ≤ q → OwN W (w5.heap.size + 1) (.slice (some ⟨q, 0, none⟩) 0 0) []) := hI (fun W q hB hge => Own.of_blk (xs := []) hB len_encN rfl hge (Nat.zero_le _))
   clear hve hvk hat
   go_wp2_with (at_builtin; refine wpList_append_slA elN len_encN one_encN rfl _ _ rfl rfl (HO5.out _ _ (bN (by first|omega|simp)) (by first | exact Nat.le_refl _ | (simp; done) | (simp; omega))) (xs := vns) rfl (HVN.out.ext (xA (xA xR))) (by have := HLN.out; unfold maxLen; simp only [List.length_nil]; omega) (by have := HLN.out; simp only [List.length_nil]; omega) (by first | (simp; done) | (simp; omega)) ?_)
   intro v1 w6 hO1 hg1 _ _
   have hb6 := kept_of hg1
   have hx6 : Ext w5 w6 := Ext.grown (xA (xA xR)) hg1 (fun q hq => by rw [own_is hq]; first | exact Nat.le_refl _ | (simp; done) | (simp; omega))
   have B5 : Blk w6 w5.heap.size 57 #[.string (tx vc), .int .i64 vl, .int .i64 va, .int .i64 vb, .slice vA vns.length vcap] := hb6 _ _ _ (Blk.eq (bA (bN (by omega))) (by rfl)) (by first | omega | (simp; done) | (simp; omega))
   have hO1' : OwN w6 (w5.heap.size + 1) v1 vns := hO1
   obtain ⟨A1, c1, rfl, hS1, hc1, _, hr1⟩ := hO1'.sl len_encN
   have HX6 := hI hx6
   have HS1 := hI hS1
   have HR1 := hI hr1
   have HC1 := hI hc1
   have hs6 := hx6.size
   have hl6 := B5.lt
   have z0 := B5.frozen 0
   have z1 := B5.frozen 1
   have z2 := B5.frozen 2
   have z3 := B5.frozen 3
   have z4 := B5.frozen 4
   have y0 : w6.cell? ⟨w5.heap.size, 0, none⟩ = some (.string (tx vc)) := B5.cell 0
   have y1 : w6.cell? ⟨w5.heap.size, 1, none⟩ = some (.int .i64 vl) := B5.cell 1
   have y2 : w6.cell? ⟨w5.heap.size, 2, none⟩ = some (.int .i64 va) := B5.cell 2
   have y3 : w6.cell? ⟨w5.heap.size, 3, none⟩ = some (.int .i64 vb) := B5.cell 3
   have y4 : w6.cell? ⟨w5.heap.size, 4, none⟩ = some (.slice vA vns.length vcap) := B5.cell 4
   clear hO1 hO1' hg1 hb6 hS1 hr1 hc1 B5 d0 d1 d2 d3 d4 HO5 HVN
   go_wp2_with (at_builtin; refine wpList_append_slA elQd len_encQ one_encQ rfl _ _ rfl rfl (HV.out.ext (xA (xC (by omega) hx6))) (xs := [(vc, vl, va, vb, A1, c1, vns)]) rfl (blk_q1 (bN (by first|omega|simp)) rfl) (by have := HL1.out; unfold maxLen; simp; omega) (by have := HL1.out; simp; omega) (by have := HX.out.size; have := HX6.out.size; first | omega | (simp; omega)) ?_)
   intro v2 w8 hO2 hg2 _ ho2
   have hw9 := hI HV.out.row
   have HR2 : Hid (RowsAt w8 w.heap.size v2 (p1 ++ [(vc, vl, va, vb, A1, c1, vns)])) := hI (RowsAt.step hg2 (by rcases ho2 with e | e; exact .inl e; exact .inr (e.trans (by simp))) (HR.out.ext (xA (xC (by omega) hx6))) ⟨((HS1.out.setFar (fun z hz => by have := (HR1.out z hz).1; show ¬ z.block = w5.heap.size; omega) _).ext ((Ext.refl _).alloc _)), HC1.out, HVK.out.2.2⟩ (fun z hz => ⟨by have := (HR1.out z hz).1; omega, by have := (HR1.out z hz).2; simp; omega, fun e => by have := (hw9.out _ e).2; have := (HR1.out z hz).1; omega⟩))
   have HX8 : Hid (Ext w w8) := hI (Ext.grown (HX.out.trans (xA (xC (by omega) hx6))) hg2 (fun q hq => (hw9.out q hq).1))
   have HV8 : Hid (OwQ w8 w.heap.size v2 (p1 ++ [(vc, vl, va, vb, A1, c1, vns)])) := hI hO2
   clear hO2 hg2 ho2 hw9 hx6
   go_wp2
   go_roundw
   case rel => exact ⟨k + 1, p1 ++ [(vc, vl, va, vb, A1, c1, vns)], by go_num, by omega, by simp [hlen], hI (Own.some_ HV8.out (by simp)), hI (by rw [HTK.out, ← HD.out]; simp [psD, pdOf]), HV8, HR2, HX8⟩
   case measure => simp [intOf]; omega
  ·obtain rfl : k = n := by omega
   go_wp2
   go_ret
   exact ⟨⟨_, p1, rfl, HNZ.out, HV.out, by rw [HD.out, List.take_of_length_le (by rw [psD_len]; have := HN.out; omega)], fun p hp => (HR.out p hp).1, fun p hp z hz => ((HR.out p hp).2 z hz).1, HR.out⟩, hxr⟩
def AddPl (D : List Pd) (d : Pd) (base : Nat) (e : Ending) (w' : World) : Prop :=
 (∃ m : Int, ¬ m = 0 ∧ e = .returned (.tuple #[.slice none 0 0, .int .i64 m]) ∧ ¬ (D = [] ∧ plB d = true)) ∨
 (∃ (v : Value) (ps' : List Pl), e = .returned (.tuple #[v, .int .i64 0]) ∧ v ≠ .slice none 0 0 ∧ OwQ w' base v ps' ∧ rgB (psD ps') = true ∧ ps'.length = D.length + 1 ∧ Places w' ps' ∧ (∀ p ∈ ps', NewRow base p) ∧ RowsAt w' base v ps')
theorem rg_one {d : Pd} (h : plB d = true) : rgB [d] = true := rgB_iff.2 ⟨fun j hj => by
 have : j = 0 := by simp at hj; omega
 subst this
 show okR [d] 0 = true
 unfold okR
 simp [List.getD, h], by simp⟩
def plVd (p : Pl) : Value := .agg #[.string (tx p.1), .int .i64 p.2.1, .int .i64 p.2.2.1, .int .i64 p.2.2.2.1, .slice p.2.2.2.2.1 p.2.2.2.2.2.2.length p.2.2.2.2.2.1]
set_option maxRecDepth 20000 in
set_option maxHeartbeats 12800000 in
theorem s_AddPlace (base : Nat) (v : Value) (ps : List Pl) (p : Pl) (w : World) (h : OwQ w base v ps) (hv : v ≠ .slice none 0 0) (hp : Places w ps) (hpl : PlAt w p) (hl : ps.length ≤ 1000) :
  Calls Tryz.prog 108 #[v, .agg #[.string (tx p.1), .int .i64 p.2.1, .int .i64 p.2.2.1, .int .i64 p.2.2.2.1, .slice p.2.2.2.2.1 p.2.2.2.2.2.2.length p.2.2.2.2.2.1]] w fun e w' => AddPl (psD ps) (pdOf p) w.heap.size e w' ∧ Ext w w' := by
 rcases h.2 with ⟨e, _⟩ | ⟨g, cap, cur, rfl, hbase, hB, h1, h2, h3, h4⟩
 ·exact absurd e hv
 have hS : SlAt w 5 encQ (some ⟨g, 0, none⟩) ps := by
  obtain ⟨A, c, e, hS, _⟩ := h.sl len_encQ
  injection e with e1 e2 e3
  subst e1
  exact hS
 have hgw : g < w.heap.size := (Array.getElem?_eq_some_iff.1 hB).1
 have hcm : cap ≤ 9223372036854775807 := by unfold maxLen at h2; omega
 obtain ⟨n, hn⟩ : ∃ n, n = ps.length := ⟨_, rfl⟩
 have hn2 : n ≤ 1000 := by omega
 have hnc : n ≤ cap := by omega
 rw [← hn]
 have HS := hI hS
 have HN := hI hn
 have HP := hI hp
 have HPL := hI hpl
 have HC1 : Hid (∀ W, Ext w W → Calls Tryz.prog 83 #[.slice (some ⟨g, 0, none⟩) n cap] W fun e w' => e = .returned (.bool (rgB (psD ps))) ∧ Ext W w') := hI (fun W hW => s_IsRegister (some ⟨g, 0, none⟩) n cap ps W (hS.ext hW) (hp.ext hW) hn (by omega))
 have HSL : Hid (∀ W g t cs, Blk W g t cs → cs = #[.string (tx p.1), .int .i64 p.2.1, .int .i64 p.2.2.1, .int .i64 p.2.2.2.1, .slice p.2.2.2.2.1 p.2.2.2.2.2.2.length p.2.2.2.2.2.1] → SlAt W 5 encQ (some ⟨g, 0, none⟩) [p]) := hI (fun W g t cs hB e => blk_q1 hB e)
 have HC2 : Hid (∀ W, Ext w W → Calls Tryz.prog 132 #[.agg #[.string (tx p.1), .int .i64 p.2.1, .int .i64 p.2.2.1, .int .i64 p.2.2.2.1, .slice p.2.2.2.2.1 p.2.2.2.2.2.2.length p.2.2.2.2.2.1]] W fun e w' => e = .returned (.bool (plB (pdOf p))) ∧ Ext W w') := hI (fun W hW => s_IsPlace p.1 p.2.1 p.2.2.1 p.2.2.2.1 p.2.2.2.2.1 p.2.2.2.2.2.2.length p.2.2.2.2.2.1 p.2.2.2.2.2.2 W hpl.2.2.1 (hpl.1.ext hW) rfl hpl.2.2.2.1 hpl.2.2.2.2)
 generalize tx p.1 = sc at *
 generalize p.2.1 = vl at *
 generalize p.2.2.1 = va at *
 generalize p.2.2.2.1 = vb at *
 generalize (Value.slice p.2.2.2.2.1 p.2.2.2.2.2.2.length p.2.2.2.2.2.1) = vs at *
 generalize hq1 : rgB (psD ps) = q1 at *
 generalize hq2 : plB (pdOf p) = q2 at *
 have HQ1 := hI hq1
 have HQ2 := hI hq2
 clear h hv hp hpl hl hB h1 h2 h3 h4 hbase hS hn hq1 hq2
 cases q1 with
 | false =>
  go_enter Tryz.func108, Tryz.ntmps108
  (go_wp2_with fail; refine (HC1.out _ (xA xR)).mono ?_; rintro e w1 ⟨rfl, hx1⟩; obtain ⟨hc1, hf1, hs1⟩ := hx1.all; (try simp at hs1); have := (show w.heap.size < w1.heap.size from by omega))
  go_wp2
  go_ret2
  exact ⟨.inl ⟨1, by decide, rfl, fun e => by have := HQ1.out; rw [e.1] at this; exact absurd this (by decide)⟩, xT (xA xR) hx1⟩
 | true =>
  cases q2 with
  | false =>
   go_enter Tryz.func108, Tryz.ntmps108
   (go_wp2_with fail; refine (HC1.out _ (xA xR)).mono ?_; rintro e w1 ⟨rfl, hx1⟩; obtain ⟨hc1, hf1, hs1⟩ := hx1.all; (try simp at hs1); have := (show w.heap.size < w1.heap.size from by omega))
   (go_wp2_with fail; refine (HC2.out _ (xT (xA xR) hx1)).mono ?_; rintro e w2 ⟨rfl, hx2⟩; obtain ⟨hc2, hf2, hs2⟩ := hx2.all; (try simp at hs2); have := (show w.heap.size < w2.heap.size from by omega))
   go_wp2
   go_ret2
   exact ⟨.inl ⟨1, by decide, rfl, fun e => by have := HQ2.out; rw [this] at e; exact absurd e.2 (by decide)⟩, xT (xT (xA xR) hx1) hx2⟩
  | true =>
   go_enter Tryz.func108, Tryz.ntmps108
   (go_wp2_with fail; refine (HC1.out _ (xA xR)).mono ?_; rintro e w1 ⟨rfl, hx1⟩; obtain ⟨hc1, hf1, hs1⟩ := hx1.all; (try simp at hs1); have := (show w.heap.size < w1.heap.size from by omega))
   (go_wp2_with fail; refine (HC2.out _ (xT (xA xR) hx1)).mono ?_; rintro e w2 ⟨rfl, hx2⟩; obtain ⟨hc2, hf2, hs2⟩ := hx2.all; (try simp at hs2); have := (show w.heap.size < w2.heap.size from by omega))
   have HX2 : Hid (Ext w w2) := hI (xT (xT (xA xR) hx1) hx2)
   have hB0 : Blk w2 w.heap.size 57 #[.string sc, .int .i64 vl, .int .i64 va, .int .i64 vb, vs] := Blk.eq (bE hx2 (bE hx1 (bN (by omega)))) (by rfl)
   have HB0 := hI hB0
   have hgw2 := hB0.lt
   clear hB0 HC1 HC2
   go_wp2
   go_loopw [6] (fun i wr => ∃ k : Nat, k ≤ n ∧ i = .int .i64 k ∧ Hid (Ext w2 wr)) (fun i _ => n - (intOf i).toNat)
   case atStart => exact ⟨0, by omega, rfl, hI xR⟩
   case round =>
    obtain ⟨k, hk, rfl, HX3⟩ := hrel
    obtain ⟨w3, rfl⟩ : ∃ x, x = wr := ⟨wr, rfl⟩
    have hs3 := HX3.out.size
    go_upto_region 4 with (fail)
    go_cut [29] (fun v wx => ∃ q : Bool, v = .bool q ∧ (q = true → k < n) ∧ Hid (Ext w2 wx))
    case first =>
     have hB3 := HB0.out.ext HX3.out
     have y0 : w3.cell? ⟨w.heap.size, 0, none⟩ = some (.string sc) := hB3.cell 0
     have hx3 := HX3.out
     clear hB3
     by_cases hlt : k < n
     ·have hkl : k < ps.length := by have := HN.out; omega
      have d0 := (((HS.out.ext HX2.out).ext HX3.out).pl' hkl).1
      rw [Nat.zero_add] at d0
      generalize tx (ps.getD k plD).1 = z at *
      clear hkl
      cases hb : Op.bytesLess z.toList sc.toList with
      | true => go_quiet (fail); go_wp2; go_meet; exact ⟨_, rfl, fun _ => hlt, hI (xN hx3)⟩
      | false => go_quiet (fail); go_wp2; go_meet; exact ⟨_, rfl, fun _ => hlt, hI (xN hx3)⟩
     ·have hd : decide ((k : Int) < (n : Int)) = false := decide_eq_false (by omega)
      go_quiet (fail)
      go_wp2
      go_meet
      exact ⟨false, rfl, (fun e => absurd e (by decide)), hI (xN hx3)⟩
    case rest =>
    obtain ⟨q, rfl, hq, HX4⟩ := hcut
    obtain ⟨w4, rfl⟩ : ∃ x, x = wc := ⟨wc, rfl⟩
    have hs4 := HX4.out.size
    clear HX3 hs3
    cases q with
    | true =>
     have hlt := hq rfl
     go_wp2
     go_roundw
     case rel => exact ⟨k + 1, by omega, by go_num, HX4⟩
     case measure => simp [intOf]; omega
    | false =>
     clear hq
     have HX := hI (HX2.out.trans HX4.out)
     have HK : Hid (∀ W, Ext w4 W → W.cell? ⟨w.heap.size, 0, none⟩ = some (.string sc) ∧ W.cell? ⟨w.heap.size, 1, none⟩ = some (.int .i64 vl) ∧ W.cell? ⟨w.heap.size, 2, none⟩ = some (.int .i64 va) ∧ W.cell? ⟨w.heap.size, 3, none⟩ = some (.int .i64 vb) ∧ W.cell? ⟨w.heap.size, 4, none⟩ = some (vs)) := hI (fun W hW => have hB := (HB0.out.ext HX4.out).ext hW; ⟨hB.cell 0, hB.cell 1, hB.cell 2, hB.cell 3, hB.cell 4⟩)
     have hy := HK.out w4 (Ext.refl _)
     obtain ⟨y0, y1, y2, y3, y4⟩ := hy
     have HO5 : Hid (∀ W g', Blk W g' 57 #[] → w4.heap.size ≤ g' → OwQ W w4.heap.size (.slice (some ⟨g', 0, none⟩) 0 0) []) := hI (fun W g' hB hge => Own.of_blk (xs := []) hB len_encQ rfl hge (Nat.zero_le _))
     have HSW := hI (HS.out.ext HX.out)
     have hsz := HX.out.size
     have HT1 := hI (HSW.out.takeE k)
     have HTL : Hid ((ps.take k).length = k) := hI (by rw [List.length_take]; have := HN.out; omega)
     have HDL : Hid ((ps.drop k).length = n - k) := hI (by rw [List.length_drop]; have := HN.out; omega)
     have HDR : Hid (∀ W, Ext w4 W → SlAt W 5 encQ (some ⟨g, k * 5, none⟩) (ps.drop k)) := hI (fun W hW => by
      by_cases hkl : k < ps.length
      ·obtain ⟨b, off, e, _, h2⟩ := HSW.out.drop k hkl
       injection e with e
       injection e with e1 e2
       subst e1 e2
       rw [Nat.zero_add] at h2
       exact h2.ext hW
      ·exact SlAt.none_ (List.drop_eq_nil_of_le (by omega)))
     have HDN : Hid (∀ W, k = n → SlAt W 5 encQ (some ⟨g, 0, none⟩) (ps.drop k)) := hI (fun W e => SlAt.none_ (List.drop_eq_nil_of_le (by have := HN.out; omega)))
     have HPD : Hid (∀ q, q ∈ ps.take k ++ [p] ++ ps.drop k → PlAt w4 q) := hI (fun q hq => by
      rcases List.mem_append.1 hq with e | e
      ·rcases List.mem_append.1 e with e | e
       ·exact (HP.out q (List.mem_of_mem_take e)).ext HX.out
       ·rw [List.mem_singleton.1 e]; exact HPL.out.ext HX.out
      ·exact (HP.out q (List.mem_of_mem_drop e)).ext HX.out)
     have HLA : Hid ((ps.take k ++ [p] ++ ps.drop k).length = n + 1) := hI (by simp only [List.length_append, List.length_cons, List.length_nil]; rw [HTL.out, HDL.out]; omega)
     have HAD : Hid (¬ (psD (ps.take k ++ [p] ++ ps.drop k)).length = 1 ∨ rgB (psD (ps.take k ++ [p] ++ ps.drop k)) = true) := hI (by
      by_cases e : ps = []
      ·right
       subst e
       have : psD (List.take k [] ++ [p] ++ List.drop k []) = [pdOf p] := by simp [psD]
       rw [this]
       exact rg_one HQ2.out
      ·left
       rw [psD_len, HLA.out, HN.out]
       have := List.length_pos_iff.2 e
       omega)
     generalize hTT : ps.take k = TT at *
     generalize hDD : ps.drop k = DD at *
     clear hTT hDD HSW
     have f1 : (0 : Int) ≤ (k : Int) := by omega
     have f2 : (k : Int) ≤ (n : Int) := by omega
     have f3 : (k : Int) ≤ (cap : Int) := by omega
     have f4 : (n : Int) ≤ (cap : Int) := by omega
     go_upto_region 6 with (fail)
     go_cut [7] (fun v wx => Hid (OwQ wx w4.heap.size v (TT ++ [p] ++ DD)) ∧ Hid (Ext w4 wx))
     case first =>
      by_cases hk0 : k = 0
      ·subst hk0
       by_cases hkc : cap = 0
       ·subst hkc
        have hn0 : n = 0 := by omega
        subst hn0
        go_wp2_with fail
        go_region_held3 (fun w' => w'.cell? ⟨w.heap.size, 0, none⟩ = some (.string sc) ∧ w'.cell? ⟨w.heap.size, 1, none⟩ = some (.int .i64 vl) ∧ w'.cell? ⟨w.heap.size, 2, none⟩ = some (.int .i64 va) ∧ w'.cell? ⟨w.heap.size, 3, none⟩ = some (.int .i64 vb) ∧ w'.cell? ⟨w.heap.size, 4, none⟩ = some (vs)) (first | exact HK.out _ (by with_reducible first|exact hx5|exact hx6|exact hx7|exact xD xR|exact xA hx5|exact xD (xA xR)|exact xD (xA (xA xR))) | go_keep) (first | (refine step_append_sl elQd len_encQ one_encQ rfl _ _ rfl rfl (HO5.out _ _ (by with_reducible first|exact bD (bN (by omega))|exact bD (bA (bN (by omega)))|exact bD (bN (by first|omega|simp))) (by first | exact Nat.le_refl _ | omega | (simp; done) | (simp; omega))) (xs := TT) (eval_lnE rfl HTL.out) (HT1.out.ext (by with_reducible first|exact xD (xA xR)|exact xD (xA (xA xR)))) (by have := HTL.out; unfold maxLen; simp only [List.length_nil]; omega) (by have := HTL.out; simp only [List.length_nil]; omega) (by first | omega | (simp; done) | (simp; omega)) ?_; intro v5 w5 hO5 hg5 _; have hb5 := kept_ofE hg5; have hx5 : Ext w4 w5 := Ext.grown (by with_reducible first|exact xD (xA xR)|exact xD (xA (xA xR))) hg5 (fun q hq => by rw [own_isE hq]; first | exact Nat.le_refl _ | (simp; done) | (simp; omega))) | (refine step_append_sl elQd len_encQ one_encQ rfl _ _ rfl rfl (hO5.ext (by with_reducible first|exact xR|exact xA xR)) (xs := [p]) rfl (HSL.out _ _ _ _ (by first | exact hb5 _ _ _ (by with_reducible first|exact bD (bA (bN (by omega)))|exact bD (bN (by first|omega|simp))) (by first | omega | (simp; done) | (simp; omega)) | exact Blk.new rfl) (by rfl)) (by have := HTL.out; unfold maxLen; simp; omega) (by have := HTL.out; simp; omega) (by have := hx5.size; first | omega | (simp; omega)) ?_; intro v6 w6 hO6 hg6 _; have hx6 : Ext w4 w6 := Ext.grown (by with_reducible first|exact hx5|exact xA hx5) hg6 (fun q hq => (hO5.row q hq).1)) | (refine step_append_sl elQd len_encQ one_encQ rfl _ _ rfl rfl (hO6.ext xR) (xs := DD) (eval_lnE rfl HDL.out) (HDR.out _ hx6) (by have := HTL.out; have := HDL.out; unfold maxLen; simp only [List.length_append, List.length_cons, List.length_nil]; omega) (by have := HTL.out; have := HDL.out; simp only [List.length_append, List.length_cons, List.length_nil]; omega) (by have := hx6.size; first | omega | (simp; omega)) ?_; intro v7 w7 hO7 hg7 _; have hx7 : Ext w4 w7 := Ext.grown hx6 hg7 (fun q hq => (hO6.row q hq).1)))
        all_goals
         have HO7 : Hid (OwQ w7 w4.heap.size v7 (TT ++ [p] ++ DD)) := hI hO7
         have HX7 := hI hx7
         clear hO7 hg7 hx7 hO6 hg6 hx6 hO5 hg5 hb5 hx5
         go_wp2_with fail
         go_meet
         exact ⟨HO7, HX7⟩
       ·have hcc : ¬ cap = 0 := hkc
        go_wp2_with fail
        go_region_held3 (fun w' => w'.cell? ⟨w.heap.size, 0, none⟩ = some (.string sc) ∧ w'.cell? ⟨w.heap.size, 1, none⟩ = some (.int .i64 vl) ∧ w'.cell? ⟨w.heap.size, 2, none⟩ = some (.int .i64 va) ∧ w'.cell? ⟨w.heap.size, 3, none⟩ = some (.int .i64 vb) ∧ w'.cell? ⟨w.heap.size, 4, none⟩ = some (vs)) (first | exact HK.out _ (by with_reducible first|exact hx5|exact hx6|exact hx7|exact xD xR|exact xA hx5|exact xD (xA xR)|exact xD (xA (xA xR))) | go_keep) (first | (refine step_append_sl elQd len_encQ one_encQ rfl _ _ rfl rfl (HO5.out _ _ (by with_reducible first|exact bD (bN (by omega))|exact bD (bA (bN (by omega)))|exact bD (bN (by first|omega|simp))) (by first | exact Nat.le_refl _ | omega | (simp; done) | (simp; omega))) (xs := TT) (eval_lnE rfl HTL.out) (HT1.out.ext (by with_reducible first|exact xD (xA xR)|exact xD (xA (xA xR)))) (by have := HTL.out; unfold maxLen; simp only [List.length_nil]; omega) (by have := HTL.out; simp only [List.length_nil]; omega) (by first | omega | (simp; done) | (simp; omega)) ?_; intro v5 w5 hO5 hg5 _; have hb5 := kept_ofE hg5; have hx5 : Ext w4 w5 := Ext.grown (by with_reducible first|exact xD (xA xR)|exact xD (xA (xA xR))) hg5 (fun q hq => by rw [own_isE hq]; first | exact Nat.le_refl _ | (simp; done) | (simp; omega))) | (refine step_append_sl elQd len_encQ one_encQ rfl _ _ rfl rfl (hO5.ext (by with_reducible first|exact xR|exact xA xR)) (xs := [p]) rfl (HSL.out _ _ _ _ (by first | exact hb5 _ _ _ (by with_reducible first|exact bD (bA (bN (by omega)))|exact bD (bN (by first|omega|simp))) (by first | omega | (simp; done) | (simp; omega)) | exact Blk.new rfl) (by rfl)) (by have := HTL.out; unfold maxLen; simp; omega) (by have := HTL.out; simp; omega) (by have := hx5.size; first | omega | (simp; omega)) ?_; intro v6 w6 hO6 hg6 _; have hx6 : Ext w4 w6 := Ext.grown (by with_reducible first|exact hx5|exact xA hx5) hg6 (fun q hq => (hO5.row q hq).1)) | (refine step_append_sl elQd len_encQ one_encQ rfl _ _ rfl rfl (hO6.ext xR) (xs := DD) (eval_lnE rfl HDL.out) (HDR.out _ hx6) (by have := HTL.out; have := HDL.out; unfold maxLen; simp only [List.length_append, List.length_cons, List.length_nil]; omega) (by have := HTL.out; have := HDL.out; simp only [List.length_append, List.length_cons, List.length_nil]; omega) (by have := hx6.size; first | omega | (simp; omega)) ?_; intro v7 w7 hO7 hg7 _; have hx7 : Ext w4 w7 := Ext.grown hx6 hg7 (fun q hq => (hO6.row q hq).1)))
        all_goals
         have HO7 : Hid (OwQ w7 w4.heap.size v7 (TT ++ [p] ++ DD)) := hI hO7
         have HX7 := hI hx7
         clear hO7 hg7 hx7 hO6 hg6 hx6 hO5 hg5 hb5 hx5
         go_wp2_with fail
         go_meet
         exact ⟨HO7, HX7⟩
      ·by_cases hkc : cap = k
       ·have hkn : k = n := by omega
        subst hkc
        subst hkn
        have HDN2 : Hid (∀ W : World, SlAt W 5 encQ (some ⟨g, 0, none⟩) DD) := hI (fun W => HDN.out W rfl)
        replace HDL : Hid (DD.length = 0) := hI (by rw [HDL.out]; omega)
        go_wp2_with fail
        go_region_held3 (fun w' => w'.cell? ⟨w.heap.size, 0, none⟩ = some (.string sc) ∧ w'.cell? ⟨w.heap.size, 1, none⟩ = some (.int .i64 vl) ∧ w'.cell? ⟨w.heap.size, 2, none⟩ = some (.int .i64 va) ∧ w'.cell? ⟨w.heap.size, 3, none⟩ = some (.int .i64 vb) ∧ w'.cell? ⟨w.heap.size, 4, none⟩ = some (vs)) (first | exact HK.out _ (by with_reducible first|exact hx5|exact hx6|exact hx7|exact xD xR|exact xA hx5|exact xD (xA xR)|exact xD (xA (xA xR))) | go_keep) (first | (refine step_append_sl elQd len_encQ one_encQ rfl _ _ rfl rfl (HO5.out _ _ (by with_reducible first|exact bD (bN (by omega))|exact bD (bA (bN (by omega)))|exact bD (bN (by first|omega|simp))) (by first | exact Nat.le_refl _ | omega | (simp; done) | (simp; omega))) (xs := TT) (eval_lnE rfl HTL.out) (HT1.out.ext (by with_reducible first|exact xD (xA xR)|exact xD (xA (xA xR)))) (by have := HTL.out; unfold maxLen; simp only [List.length_nil]; omega) (by have := HTL.out; simp only [List.length_nil]; omega) (by first | omega | (simp; done) | (simp; omega)) ?_; intro v5 w5 hO5 hg5 _; have hb5 := kept_ofE hg5; have hx5 : Ext w4 w5 := Ext.grown (by with_reducible first|exact xD (xA xR)|exact xD (xA (xA xR))) hg5 (fun q hq => by rw [own_isE hq]; first | exact Nat.le_refl _ | (simp; done) | (simp; omega))) | (refine step_append_sl elQd len_encQ one_encQ rfl _ _ rfl rfl (hO5.ext (by with_reducible first|exact xR|exact xA xR)) (xs := [p]) rfl (HSL.out _ _ _ _ (by first | exact hb5 _ _ _ (by with_reducible first|exact bD (bA (bN (by omega)))|exact bD (bN (by first|omega|simp))) (by first | omega | (simp; done) | (simp; omega)) | exact Blk.new rfl) (by rfl)) (by have := HTL.out; unfold maxLen; simp; omega) (by have := HTL.out; simp; omega) (by have := hx5.size; first | omega | (simp; omega)) ?_; intro v6 w6 hO6 hg6 _; have hx6 : Ext w4 w6 := Ext.grown (by with_reducible first|exact hx5|exact xA hx5) hg6 (fun q hq => (hO5.row q hq).1)) | (refine step_append_sl elQd len_encQ one_encQ rfl _ _ rfl rfl (hO6.ext xR) (xs := DD) (eval_lnE rfl HDL.out) (HDN2.out _) (by have := HTL.out; have := HDL.out; unfold maxLen; simp only [List.length_append, List.length_cons, List.length_nil]; omega) (by have := HTL.out; have := HDL.out; simp only [List.length_append, List.length_cons, List.length_nil]; omega) (by have := hx6.size; first | omega | (simp; omega)) ?_; intro v7 w7 hO7 hg7 _; have hx7 : Ext w4 w7 := Ext.grown hx6 hg7 (fun q hq => (hO6.row q hq).1)))
        all_goals
         have HO7 : Hid (OwQ w7 w4.heap.size v7 (TT ++ [p] ++ DD)) := hI hO7
         have HX7 := hI hx7
         clear hO7 hg7 hx7 hO6 hg6 hx6 hO5 hg5 hb5 hx5
         go_wp2_with fail
         go_meet
         exact ⟨HO7, HX7⟩
       ·have hkc' : ¬ k = cap := fun e => hkc e.symm
        go_wp2_with fail
        go_region_held3 (fun w' => w'.cell? ⟨w.heap.size, 0, none⟩ = some (.string sc) ∧ w'.cell? ⟨w.heap.size, 1, none⟩ = some (.int .i64 vl) ∧ w'.cell? ⟨w.heap.size, 2, none⟩ = some (.int .i64 va) ∧ w'.cell? ⟨w.heap.size, 3, none⟩ = some (.int .i64 vb) ∧ w'.cell? ⟨w.heap.size, 4, none⟩ = some (vs)) (first | exact HK.out _ (by with_reducible first|exact hx5|exact hx6|exact hx7|exact xD xR|exact xA hx5|exact xD (xA xR)|exact xD (xA (xA xR))) | go_keep) (first | (refine step_append_sl elQd len_encQ one_encQ rfl _ _ rfl rfl (HO5.out _ _ (by with_reducible first|exact bD (bN (by omega))|exact bD (bA (bN (by omega)))|exact bD (bN (by first|omega|simp))) (by first | exact Nat.le_refl _ | omega | (simp; done) | (simp; omega))) (xs := TT) (eval_lnE rfl HTL.out) (HT1.out.ext (by with_reducible first|exact xD (xA xR)|exact xD (xA (xA xR)))) (by have := HTL.out; unfold maxLen; simp only [List.length_nil]; omega) (by have := HTL.out; simp only [List.length_nil]; omega) (by first | omega | (simp; done) | (simp; omega)) ?_; intro v5 w5 hO5 hg5 _; have hb5 := kept_ofE hg5; have hx5 : Ext w4 w5 := Ext.grown (by with_reducible first|exact xD (xA xR)|exact xD (xA (xA xR))) hg5 (fun q hq => by rw [own_isE hq]; first | exact Nat.le_refl _ | (simp; done) | (simp; omega))) | (refine step_append_sl elQd len_encQ one_encQ rfl _ _ rfl rfl (hO5.ext (by with_reducible first|exact xR|exact xA xR)) (xs := [p]) rfl (HSL.out _ _ _ _ (by first | exact hb5 _ _ _ (by with_reducible first|exact bD (bA (bN (by omega)))|exact bD (bN (by first|omega|simp))) (by first | omega | (simp; done) | (simp; omega)) | exact Blk.new rfl) (by rfl)) (by have := HTL.out; unfold maxLen; simp; omega) (by have := HTL.out; simp; omega) (by have := hx5.size; first | omega | (simp; omega)) ?_; intro v6 w6 hO6 hg6 _; have hx6 : Ext w4 w6 := Ext.grown (by with_reducible first|exact hx5|exact xA hx5) hg6 (fun q hq => (hO5.row q hq).1)) | (refine step_append_sl elQd len_encQ one_encQ rfl _ _ rfl rfl (hO6.ext xR) (xs := DD) (eval_lnE rfl HDL.out) (HDR.out _ hx6) (by have := HTL.out; have := HDL.out; unfold maxLen; simp only [List.length_append, List.length_cons, List.length_nil]; omega) (by have := HTL.out; have := HDL.out; simp only [List.length_append, List.length_cons, List.length_nil]; omega) (by have := hx6.size; first | omega | (simp; omega)) ?_; intro v7 w7 hO7 hg7 _; have hx7 : Ext w4 w7 := Ext.grown hx6 hg7 (fun q hq => (hO6.row q hq).1)))
        all_goals
         have HO7 : Hid (OwQ w7 w4.heap.size v7 (TT ++ [p] ++ DD)) := hI hO7
         have HX7 := hI hx7
         clear hO7 hg7 hx7 hO6 hg6 hx6 hO5 hg5 hb5 hx5
         go_wp2_with fail
         go_meet
         exact ⟨HO7, HX7⟩
     case rest =>
     obtain ⟨HV, HX5⟩ := hcut
     obtain ⟨w5, rfl⟩ : ∃ x, x = wc := ⟨wc, rfl⟩
     obtain ⟨A7, c7, rfl, hS7, hc7, _, _⟩ := HV.out.sl len_encQ
     have HS7 := hI hS7
     have HP5 : Hid (Places w5 (TT ++ [p] ++ DD)) := hI (fun q hq => (HPD.out q hq).ext HX5.out)
     obtain ⟨n7, hn7⟩ : ∃ n7, n7 = (TT ++ [p] ++ DD).length := ⟨_, rfl⟩
     rw [← hn7]
     have HN7 := hI hn7
     generalize hLL : TT ++ [p] ++ DD = LL at *
     clear hS7 hn7 HV HK HO5 HT1 HDR HDN y0 y1 y2 y3 y4
     go_wp2_with fail
     refine (s_IsRegister A7 n7 c7 LL w5 HS7.out HP5.out HN7.out (by rw [HLA.out]; omega)).mono ?_
     rintro e w6 ⟨rfl, hx6⟩
     have HX6 := hI (HX5.out.trans hx6)
     have hs6 := HX6.out.size
     cases hq : rgB (psD LL) with
     | false =>
      have HQ := hI hq
      clear hq
      go_wp2
      go_ret2
      refine ⟨.inl ⟨5, by decide, rfl, fun e => ?_⟩, HX.out.trans HX6.out⟩
      rcases HAD.out with h | h
      ·apply h
       rw [psD_len, HLA.out]
       have := congrArg List.length e.1
       rw [psD_len, ← HN.out] at this
       simpa using this
      ·rw [HQ.out] at h; cases h
     | true =>
      have HQ := hI hq
      have HS8 := hI (HS7.out.ext hx6)
      have HP8 := hI (HP5.out.ext hx6)
      clear hq hx6
      go_wp2_with fail
      refine (s_l11Own A7 n7 c7 LL w6 HS8.out HP8.out HN7.out (by rw [HLA.out]; omega)).mono ?_
      rintro e w7 ⟨⟨v7, p7, rfl, hnz, hO7, hD7, hP7, hN7, hA7⟩, hx7⟩
      have HX7 := hI (HX6.out.trans hx7)
      have HO7 := hI hO7
      have HD7 := hI hD7
      have HP7 := hI hP7
      have HNR := hI hN7
      have HAR := hI hA7
      have HNZ := hI hnz
      clear hx7 hO7 hD7 hP7 hN7 hnz hA7
      go_wp2
      go_ret2
      exact ⟨.inr ⟨v7, p7, rfl, HNZ.out, HO7.out.less (by omega), by rw [HD7.out]; exact HQ.out, by have := congrArg List.length HD7.out; rw [psD_len, psD_len, HLA.out] at this; rw [this, psD_len, ← HN.out], HP7.out, fun q hq z hz => by have := HNR.out q hq z hz; omega, fun q hq => ⟨(HAR.out q hq).1, fun z hz => ⟨by have := ((HAR.out q hq).2 z hz).1; omega, ((HAR.out q hq).2 z hz).2⟩⟩⟩, HX.out.trans HX7.out⟩
end Go.Proofs.YtlnliajnipniaaaGreatDoor
