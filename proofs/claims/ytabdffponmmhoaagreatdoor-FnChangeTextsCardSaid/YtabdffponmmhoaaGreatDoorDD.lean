/- A register copied, as the specification does it. -/
import Derived.Test.YtabdffponmmhoaaGreatDoorDC
import Derived.Test.YtabdffponmmhoaaGreatDoorW5
import Derived.Test.YtabdffponmmhoaaGreatDoorS1
import Derived.Deep.RegionHeld3
import Derived.Deep.DeepCutAuto
import Derived.RegionTactic
import Derived.BigRegion
import Derived.WalkLawsBesides
import Derived.WalkSpells
import Derived.Lib.MinMax
import Derived.Outline
namespace Go.Proofs.YtabdffponmmhoaaGreatDoor
open Go.RowKit
attribute [local go_sem] ExtOf.cell ExtOf.frozen

theorem elQ : ElT Tryz.prog 95 119 5 64 := ElT.mk' (z := .agg #[.string .empty, .int .i64 0, .int .i64 0, .int .i64 0, .slice none 0 0]) Tryz.underlying95 (by kernel_rfl) rfl (by omega)
abbrev OwQ (w : World) (base : Nat) (v : Value) (xs : List Pl) : Prop := Own encQ 5 119 w base v xs
theorem blk_q1 {w : World} {g : Nat} {t : TypeId} {p : Pl} {cs : Array Value} (h : Blk w g t cs) (e : cs = #[.string (tx p.1), .int .i64 p.2.1, .int .i64 p.2.2.1, .int .i64 p.2.2.2.1, .slice p.2.2.2.2.1 p.2.2.2.2.2.2.length p.2.2.2.2.2.1]) : SlAt w 5 encQ (some ⟨g, 0, none⟩) [p] := by
  subst e; exact h.sl rfl len_encQ
theorem Own.some_ {α : Type} {enc : α → List Value} {sz base : Nat} {t : TypeId} {w : World} {v : Value} {xs : List α} (h : Own enc sz t w base v xs) (hn : ¬ xs = []) : v ≠ .slice none 0 0 := fun e => by
  rcases h.2 with ⟨_, h0⟩ | ⟨_, _, _, e9, _⟩
  · exact hn (List.length_eq_zero_iff.1 h0)
  · rw [e] at e9; cases e9
/-- a place's row of names is new -/
def NewRow (base : Nat) (p : Pl) : Prop := ∀ z : Addr, p.2.2.2.2.1 = some z → base ≤ z.block
/-- places whose rows of names lie apart from the row that is appended to -/
def RowsAt (w : World) (base : Nat) (v : Value) (ps : List Pl) : Prop := ∀ p ∈ ps, PlAt w p ∧ ∀ z : Addr, p.2.2.2.2.1 = some z → base ≤ z.block ∧ z.block < w.heap.size ∧ ¬ v.ownBlock = some z.block
theorem RowsAt.ext {w w' : World} {base : Nat} {v : Value} {ps : List Pl} (h : RowsAt w base v ps) (hx : Ext w w') : RowsAt w' base v ps := fun p hp => by
  obtain ⟨h1, h2⟩ := h p hp
  exact ⟨h1.ext hx, fun z hz => ⟨(h2 z hz).1, Nat.lt_of_lt_of_le (h2 z hz).2.1 hx.size, (h2 z hz).2.2⟩⟩
theorem RowsAt.step {w w' : World} {base : Nat} {v v' : Value} {ps : List Pl} {p : Pl} (hg : w.grownBy w' v.ownBlock) (hv : v'.ownBlock = v.ownBlock ∨ v'.ownBlock = some w.heap.size) (h : RowsAt w base v ps)
    (hp : PlAt w p) (hz : ∀ z : Addr, p.2.2.2.2.1 = some z → base ≤ z.block ∧ z.block < w.heap.size ∧ ¬ v.ownBlock = some z.block) : RowsAt w' base v' (ps ++ [p]) := fun q hq => by
  have hq2 : PlAt w q ∧ ∀ z : Addr, q.2.2.2.2.1 = some z → base ≤ z.block ∧ z.block < w.heap.size ∧ ¬ v.ownBlock = some z.block := by
    rcases List.mem_append.1 hq with e | e
    · exact h q e
    · rw [List.mem_singleton.1 e]; exact ⟨hp, hz⟩
  obtain ⟨h1, h2⟩ := hq2
  refine ⟨⟨h1.1.grown hg (fun z hz e => (h2 z hz).2.2 e.symm), h1.2⟩, fun z hz => ⟨(h2 z hz).1, Nat.lt_of_lt_of_le (h2 z hz).2.1 hg.size, fun e => ?_⟩⟩
  rcases hv with e2 | e2
  · exact (h2 z hz).2.2 (e2.symm.trans e)
  · rw [e2] at e
    injection e with e
    have := (h2 z hz).2.1
    omega
theorem take_snoc {α : Type} {L : List α} {k : Nat} (hk : k < L.length) (d : α) : L.take (k + 1) = L.take k ++ [L.getD k d] := by
  rw [List.take_add_one]
  simp [List.getD, hk]
/-- what a copy of a register is -/
def OwnPs (D : List Pd) (base : Nat) (e : Ending) (w' : World) : Prop := ∃ (v : Value) (ps' : List Pl), e = .returned v ∧ v ≠ .slice none 0 0 ∧ OwQ w' base v ps' ∧ psD ps' = D ∧ Places w' ps' ∧ ∀ p ∈ ps', NewRow base p

set_option maxRecDepth 20000 in
set_option maxHeartbeats 12800000 in
theorem s_l11Own (A : Option Addr) (n c : Nat) (ps : List Pl) (w : World) (h : SlAt w 5 encQ A ps) (hp : Places w ps) (hn : n = ps.length) (hl : ps.length ≤ 1000000) :
    Calls Tryz.prog 141 #[.slice A n c] w fun e w' => OwnPs (psD ps) w.heap.size e w' ∧ Ext w w' := by
  have HN := Lib.hid hn
  have HS := Lib.hid h
  have HP := Lib.hid hp
  have hn2 : n ≤ 1000000 := by omega
  go_enter Tryz.func141, Tryz.ntmps141
  have HV0 : Hid (OwQ (w.alloc (.cells #[] 119)) w.heap.size (.slice (some ⟨w.heap.size, 0, none⟩) 0 0) ([] : List Pl)) := Lib.hid (World.ownsRow_made (base := w.heap.size) (e := 119) (size := 5) w #[] 0 (Nat.le_refl _) (Nat.zero_le _) rfl)
  clear h hp hn hl
  go_wp2
  go_loopw [3, 4] (fun v i wr => ∃ (k : Nat) (p1 : List Pl), i = .int .i64 k ∧ k ≤ n ∧ p1.length = k ∧ Hid (v ≠ .slice none 0 0) ∧ Hid (psD p1 = (psD ps).take k) ∧ Hid (OwQ wr w.heap.size v p1) ∧ Hid (RowsAt wr w.heap.size v p1) ∧ Hid (Ext w wr)) (fun _ i _ => n - (intOf i).toNat)
  case atStart => exact ⟨0, [], rfl, by omega, rfl, Lib.hid (fun e => by injection e with e1; cases e1), Lib.hid (by simp [psD]), HV0, Lib.hid (fun p hp => by simp at hp), Lib.hid (by (repeat (first | with_reducible exact Ext.refl _ | with_reducible assumption | ((with_reducible apply Src.ext); with_reducible assumption) | with_reducible refine Ext.alloc ?_ _ | with_reducible refine Ext.drew ?_ | with_reducible refine Ext.drewN ?_ _ | ((with_reducible refine Ext.setCell' ?_ ?_ _); solve | omega | simp | (simp; omega)) | (with_reducible refine Ext.trans ?_ (by with_reducible assumption)))))⟩
  case round =>
    obtain ⟨k, p1, rfl, hk, hlen, HNZ, HD, HV, HR, HX⟩ := hrel
    obtain ⟨w5, rfl⟩ : ∃ x, x = wr := ⟨wr, rfl⟩
    have hxr := HX.out
    have hsr := hxr.size
    by_cases hlt : k < n
    · have hkl : k < ps.length := by have := HN.out; omega
      obtain ⟨b, off, rfl, hb, d0, d1, d2, d3, d4⟩ := (HS.out.ext hxr).pl hkl
      have hvk := (HP.out _ (pl_mem hkl)).ext hxr
      have hat := psD_at hkl
      obtain ⟨v0, hve⟩ : ∃ v0, v0 = ps.getD k plD := ⟨_, rfl⟩
      rw [← hve] at d0 d1 d2 d3 d4 hvk hat
      obtain ⟨vc, vl, va, vb, vA, vcap, vns⟩ := v0
      simp only at d0 d1 d2 d3 d4
      have HTK : Hid ((psD ps).take (k + 1) = (psD ps).take k ++ [(vc, vl, va, vb, vns)]) := Lib.hid (by rw [take_snoc (by rw [psD_len]; exact hkl) pdD, hat]; rfl)
      have HVK := Lib.hid hvk
      have HVN : Hid (SlAt w5 5 encN vA vns) := Lib.hid hvk.1
      have HLN : Hid (vns.length ≤ 1048576) := Lib.hid hvk.2.2.2.1
      have HL1 : Hid (p1.length ≤ 1000000) := Lib.hid (by omega)
      have HO5 : Hid (∀ W q, Blk W q 123 #[] → w5.heap.size + 1 ≤ q → OwN W (w5.heap.size + 1) (.slice (some ⟨q, 0, none⟩) 0 0) []) := Lib.hid (fun W q hB hge => Own.of_blk (xs := []) hB len_encN rfl hge (Nat.zero_le _))
      clear hve hvk hat
      go_wp2_with (at_builtin; refine wpList_append_slA elN len_encN one_encN rfl _ _ rfl rfl (HO5.out _ _ (by (repeat (first | with_reducible assumption | ((with_reducible apply Blk.new); solve | simp | rfl) | with_reducible apply Blk.drew | with_reducible apply Blk.drewN | ((with_reducible apply Blk.far'); solve | omega | simp | (simp; omega)) | with_reducible apply Blk.set_ | with_reducible apply Blk.alloc | ((with_reducible apply Blk.ext'); with_reducible assumption) | ((with_reducible apply Blk.but'); (with_reducible assumption); solve | omega | (simp; omega))))) (by first | exact Nat.le_refl _ | (simp; done) | (simp; omega))) (xs := vns) rfl (HVN.out.ext (by (repeat (first | with_reducible exact Ext.refl _ | with_reducible assumption | ((with_reducible apply Src.ext); with_reducible assumption) | with_reducible refine Ext.alloc ?_ _ | with_reducible refine Ext.drew ?_ | with_reducible refine Ext.drewN ?_ _ | ((with_reducible refine Ext.setCell' ?_ ?_ _); solve | omega | simp | (simp; omega)) | (with_reducible refine Ext.trans ?_ (by with_reducible assumption)))))) (by have := HLN.out; unfold maxLen; simp only [List.length_nil]; omega) (by have := HLN.out; simp only [List.length_nil]; omega) (by first | (simp; done) | (simp; omega)) ?_)
      intro v1 w6 hO1 hg1 _ _
      have hb6 := kept_of hg1
      have hx6 : Ext w5 w6 := Ext.grown (by (repeat (first | with_reducible exact Ext.refl _ | with_reducible assumption | ((with_reducible apply Src.ext); with_reducible assumption) | with_reducible refine Ext.alloc ?_ _ | with_reducible refine Ext.drew ?_ | with_reducible refine Ext.drewN ?_ _ | ((with_reducible refine Ext.setCell' ?_ ?_ _); solve | omega | simp | (simp; omega)) | (with_reducible refine Ext.trans ?_ (by with_reducible assumption))))) hg1 (fun q hq => by rw [own_is hq]; first | exact Nat.le_refl _ | (simp; done) | (simp; omega))
      have B5 : Blk w6 w5.heap.size 119 #[.string (tx vc), .int .i64 vl, .int .i64 va, .int .i64 vb, .slice vA vns.length vcap] := hb6 _ _ _ (Blk.eq (by (repeat (first | with_reducible assumption | ((with_reducible apply Blk.new); solve | simp | rfl) | with_reducible apply Blk.drew | with_reducible apply Blk.drewN | ((with_reducible apply Blk.far'); solve | omega | simp | (simp; omega)) | with_reducible apply Blk.set_ | with_reducible apply Blk.alloc | ((with_reducible apply Blk.ext'); with_reducible assumption) | ((with_reducible apply Blk.but'); (with_reducible assumption); solve | omega | (simp; omega))))) (by rfl)) (by first | omega | (simp; done) | (simp; omega))
      have hO1' : OwN w6 (w5.heap.size + 1) v1 vns := hO1
      obtain ⟨A1, c1, rfl, hS1, hc1, _, hr1⟩ := hO1'.sl len_encN
      have HX6 := Lib.hid hx6
      have HS1 := Lib.hid hS1
      have HR1 := Lib.hid hr1
      have HC1 := Lib.hid hc1
      have hs6 := hx6.size
      have hl6 := B5.lt
      have z0 := B5.frozen 0
      have z1 := B5.frozen 1
      have z2 := B5.frozen 2
      have z3 := B5.frozen 3
      have z4 := B5.frozen 4
      have y0 : w6.cell? ⟨w5.heap.size, 0, none⟩ = some (.string (tx vc)) := B5.cell 0
      have y1 : w6.cell? ⟨w5.heap.size, 1, none⟩ = some (.int .i64 vl) := B5.cell 1
      have y2 : w6.cell? ⟨w5.heap.size, 2, none⟩ = some (.int .i64 va) := B5.cell 2
      have y3 : w6.cell? ⟨w5.heap.size, 3, none⟩ = some (.int .i64 vb) := B5.cell 3
      have y4 : w6.cell? ⟨w5.heap.size, 4, none⟩ = some (.slice vA vns.length vcap) := B5.cell 4
      clear hO1 hO1' hg1 hb6 hS1 hr1 hc1 B5 d0 d1 d2 d3 d4 HO5 HVN
      go_wp2_with (at_builtin; refine wpList_append_slA elQ len_encQ one_encQ rfl _ _ rfl rfl (HV.out.ext (by (repeat (first | with_reducible exact Ext.refl _ | with_reducible assumption | ((with_reducible apply Src.ext); with_reducible assumption) | with_reducible refine Ext.alloc ?_ _ | with_reducible refine Ext.drew ?_ | with_reducible refine Ext.drewN ?_ _ | ((with_reducible refine Ext.setCell' ?_ ?_ _); solve | omega | simp | (simp; omega)) | (with_reducible refine Ext.trans ?_ (by with_reducible assumption)))))) (xs := [(vc, vl, va, vb, A1, c1, vns)]) rfl (blk_q1 (by (repeat (first | with_reducible assumption | ((with_reducible apply Blk.new); solve | simp | rfl) | with_reducible apply Blk.drew | with_reducible apply Blk.drewN | ((with_reducible apply Blk.far'); solve | omega | simp | (simp; omega)) | with_reducible apply Blk.set_ | with_reducible apply Blk.alloc | ((with_reducible apply Blk.ext'); with_reducible assumption) | ((with_reducible apply Blk.but'); (with_reducible assumption); solve | omega | (simp; omega))))) rfl) (by have := HL1.out; unfold maxLen; simp; omega) (by have := HL1.out; simp; omega) (by have := HX.out.size; have := HX6.out.size; first | omega | (simp; omega)) ?_)
      intro v2 w8 hO2 hg2 _ ho2
      have hw9 := Lib.hid HV.out.row
      have HR2 : Hid (RowsAt w8 w.heap.size v2 (p1 ++ [(vc, vl, va, vb, A1, c1, vns)])) := Lib.hid (RowsAt.step hg2 (by rcases ho2 with e | e; exact .inl e; exact .inr (e.trans (by simp))) (HR.out.ext (by (repeat (first | with_reducible exact Ext.refl _ | with_reducible assumption | ((with_reducible apply Src.ext); with_reducible assumption) | with_reducible refine Ext.alloc ?_ _ | with_reducible refine Ext.drew ?_ | with_reducible refine Ext.drewN ?_ _ | ((with_reducible refine Ext.setCell' ?_ ?_ _); solve | omega | simp | (simp; omega)) | (with_reducible refine Ext.trans ?_ (by with_reducible assumption)))))) ⟨((HS1.out.setFar (fun z hz => by have := (HR1.out z hz).1; show ¬ z.block = w5.heap.size; omega) _).ext ((Ext.refl _).alloc _)), HC1.out, HVK.out.2.2⟩ (fun z hz => ⟨by have := (HR1.out z hz).1; omega, by have := (HR1.out z hz).2; simp; omega, fun e => by have := (hw9.out _ e).2; have := (HR1.out z hz).1; omega⟩))
      have HX8 : Hid (Ext w w8) := Lib.hid (Ext.grown (HX.out.trans (by (repeat (first | with_reducible exact Ext.refl _ | with_reducible assumption | ((with_reducible apply Src.ext); with_reducible assumption) | with_reducible refine Ext.alloc ?_ _ | with_reducible refine Ext.drew ?_ | with_reducible refine Ext.drewN ?_ _ | ((with_reducible refine Ext.setCell' ?_ ?_ _); solve | omega | simp | (simp; omega)) | (with_reducible refine Ext.trans ?_ (by with_reducible assumption)))))) hg2 (fun q hq => (hw9.out q hq).1))
      have HV8 : Hid (OwQ w8 w.heap.size v2 (p1 ++ [(vc, vl, va, vb, A1, c1, vns)])) := Lib.hid hO2
      clear hO2 hg2 ho2 hw9 hx6
      go_wp2
      go_roundw
      case rel => exact ⟨k + 1, p1 ++ [(vc, vl, va, vb, A1, c1, vns)], by go_num, by omega, by simp [hlen], Lib.hid (Own.some_ HV8.out (by simp)), Lib.hid (by rw [HTK.out, ← HD.out]; simp [psD, pdOf]), HV8, HR2, HX8⟩
      case measure => simp [intOf]; omega
    · obtain rfl : k = n := by omega
      go_wp2
      go_ret
      exact ⟨⟨_, p1, rfl, HNZ.out, HV.out, by rw [HD.out, List.take_of_length_le (by rw [psD_len]; have := HN.out; omega)], fun p hp => (HR.out p hp).1, fun p hp z hz => ((HR.out p hp).2 z hz).1⟩, hxr⟩
end Go.Proofs.YtabdffponmmhoaaGreatDoor
