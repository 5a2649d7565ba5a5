/- Contracts of the splitting of an area, walked over the translation. -/
import Derived.Test.YthhkmkhilnglkaaSC
import Derived.Deep.RegionHeld3
import Derived.Deep.DeepCutAuto
import Derived.RegionTactic
import Derived.BigRegion
import Derived.WalkLawsBesides
import Derived.WalkSpells
import Derived.Lib.MinMax
import Derived.Outline
namespace Go.Proofs.Ythhkmkhilnglkaa
open Go.RowKit
attribute [local go_sem] ExtOf.cell ExtOf.frozen

theorem eval_len {v : Value} {A : Option Addr} {n c : Nat} {xs : List (Int × Int)} (hv : v = .slice A n c) (e : xs.length = n) : v = .slice A xs.length c := by rw [hv, e]
theorem own_new {g n q : Nat} (hq : (Value.slice (some ⟨g, 0, none⟩) n n).ownBlock = some q) : g ≤ q := by
  cases hq; exact Nat.le_refl _
set_option maxRecDepth 20000 in
set_option maxHeartbeats 12800000 in
theorem s_Split_go (A : Option Addr) (c : Nat) (ps : List (Int × Int)) (a b : Nat) (w : World) (h : SlAt w 2 encP A ps) (hl : ps.length ≤ 1048576) (hr : ringB ps = true) (hab : a < b) (hb : b < ps.length) :
    Calls Try.prog 63 #[.slice A ps.length c, .int .i64 a, .int .i64 b] w fun e w' => ∃ v1 v2 m, e = .returned (.tuple #[v1, v2, .int .i64 (saC ps a b)]) ∧ OwP w' w.heap.size v1 (sa1 ps a b) ∧ OwP w' m v2 (sa2 ps a b) ∧ (∀ q, v1.ownBlock = some q → q < m) ∧ w.heap.size ≤ m ∧ Ext w w' := by
  have hrb : ∀ W, SlAt W 2 encP A ps → Calls Try.prog 70 #[.slice A ps.length c] W fun e w' => e = .returned (.bool true) ∧ Ext W w' := fun W h => as_bool (s_IsRing _ _ ps _ h hl) hr
  have HRB := Lib.hid hrb
  obtain ⟨h0, hl12, ho⟩ := ring_facts hr
  have HRR := Lib.hid hr
  have HO := Lib.hid ho
  obtain ⟨N, hN⟩ : ∃ N, N = normS ps := ⟨_, rfl⟩
  have hNl : N.length = ps.length := by rw [hN, normS_len]
  have HN := Lib.hid hN
  have g1 : ¬ (a : Int) < 0 := by omega
  have g2 : ¬ (b : Int) ≤ (a : Int) := by omega
  have g3 : ¬ (ps.length : Int) ≤ (b : Int) := by omega
  clear hrb ho hN
  go_enter Try.func63, Try.ntmps63
  (go_wp2_with fail; refine (HRB.out _ h).mono ?_; rintro e w1 ⟨rfl, hx1⟩; obtain ⟨hc1, hf1⟩ := hx1.rules; have hs1 := hx1.size; (try simp at hs1))
  go_wp2_with fail
  refine (s_normalR ps (h.ext (by (repeat (first | with_reducible exact Ext.refl _ | with_reducible assumption | ((with_reducible apply Src.ext); with_reducible assumption) | with_reducible refine Ext.alloc ?_ _ | with_reducible refine Ext.drew ?_ | with_reducible refine Ext.drewN ?_ _ | ((with_reducible refine Ext.setCell' ?_ ?_ _); solve | omega | simp | (simp; omega)) | (with_reducible refine Ext.trans ?_ (by with_reducible assumption)))))) HRR.out).mono ?_
  rintro e w2 ⟨v2, rfl, hO2, hx2⟩
  rw [← HN.out] at hO2
  obtain ⟨g, cap, cur, rfl, hg, hB, hn, hm, hs, ht⟩ := hO2.open_ (by omega)
  obtain ⟨A', c', e', hS, _⟩ := hO2.sl len_encP
  injection e' with ea eb ec
  subst ea ec
  clear hs ht hO2 eb
  rw [hNl] at hn ⊢
  have hgw : g < w2.heap.size := hB.lt
  have hX2 : Ext w w2 := by (repeat (first | with_reducible exact Ext.refl _ | with_reducible assumption | ((with_reducible apply Src.ext); with_reducible assumption) | with_reducible refine Ext.alloc ?_ _ | with_reducible refine Ext.drew ?_ | with_reducible refine Ext.drewN ?_ _ | ((with_reducible refine Ext.setCell' ?_ ?_ _); solve | omega | simp | (simp; omega)) | (with_reducible refine Ext.trans ?_ (by with_reducible assumption))))
  have hwa : IntKind.i64.wrap ((a : Int) + 1) = (a : Int) + 1 := IntWalk.i64_in _ (by omega)
  have hwb : IntKind.i64.wrap ((b : Int) + 1) = (b : Int) + 1 := IntWalk.i64_in _ (by omega)
  have hc1 : SlAt w2 2 encP (some ⟨g, a * 2, none⟩) (cut1 N a b) := by
    obtain ⟨b', off, e, _, hs⟩ := hS.drop a (by omega)
    injection e with e
    injection e with e1 e2
    subst e1 e2
    simp only [Nat.zero_add] at hs
    exact hs.take _
  have HC1 := Lib.hid hc1
  have hd1 : SlAt w2 2 encP (some ⟨g, b * 2, none⟩) (N.drop b) := by
    obtain ⟨b', off, e, _, hs⟩ := hS.drop b (by omega)
    injection e with e
    injection e with e1 e2
    subst e1 e2
    simp only [Nat.zero_add] at hs
    exact hs
  have HD := Lib.hid hd1
  have HT := Lib.hid (hS.take (a + 1))
  clear hc1 hd1
  obtain ⟨d0, _⟩ := hS.pt' (k := 0) (by omega)
  simp only [Nat.zero_add, Nat.zero_mul] at d0
  generalize (N.getD 0 (0, 0)).1 = x0 at d0
  have f1 : (0 : Int) ≤ (a : Int) := by omega
  have f2 : (a : Int) ≤ (b : Int) + 1 := by omega
  have f3 : (b : Int) + 1 ≤ (cap : Int) := by omega
  have f4 : (0 : Int) ≤ (b : Int) := by omega
  have f5 : (b : Int) ≤ (ps.length : Int) := by omega
  have f6 : (ps.length : Int) ≤ (cap : Int) := by omega
  have f7 : (0 : Int) ≤ (a : Int) + 1 := by omega
  have f8 : (a : Int) + 1 ≤ (cap : Int) := by omega
  have f9 : ¬ cap = a := by omega
  have f10 : ¬ cap = b := by omega
  have HL1 : Hid ((cut1 N a b).length = b + 1 - a) := Lib.hid (by rw [cut1_len hab (by omega)]; omega)
  have HL2 : Hid ((N.drop b).length = ps.length - b) := Lib.hid (by rw [List.length_drop, hNl])
  have HL3 : Hid ((N.take (a + 1)).length = a + 1) := Lib.hid (by rw [List.length_take, hNl]; omega)
  have hK1 : (cut1 N a b).length ≤ 1000 := by rw [HL1.out]; omega
  have hK2 : (N.drop b).length ≤ 1000 := by rw [HL2.out]; omega
  have hK3 : (N.take (a + 1)).length ≤ 1000 := by rw [HL3.out]; omega
  have HM : Hid (maxLen ≥ 1000000) := Lib.hid (by unfold maxLen; omega)
  have HO0 : Hid (OwP (w2.alloc (.cells #[] 33)) w2.heap.size (.slice (some ⟨w2.heap.size, 0, none⟩) 0 0) []) := Lib.hid (World.ownsRow_made (base := w2.heap.size) (e := 33) (size := 2) w2 #[] 0 (Nat.le_refl _) (Nat.zero_le _) rfl)
  go_wp2_with (at_builtin; refine wpList_append_sl elP len_encP one_encP rfl _ _ rfl rfl HO0.out (xs := cut1 N a b) (eval_len rfl HL1.out) (HC1.out.ext (by (repeat (first | with_reducible exact Ext.refl _ | with_reducible assumption | ((with_reducible apply Src.ext); with_reducible assumption) | with_reducible refine Ext.alloc ?_ _ | with_reducible refine Ext.drew ?_ | with_reducible refine Ext.drewN ?_ _ | ((with_reducible refine Ext.setCell' ?_ ?_ _); solve | omega | simp | (simp; omega)) | (with_reducible refine Ext.trans ?_ (by with_reducible assumption)))))) (by have := HM.out; simp only [List.length_nil]; omega) (by simp only [List.length_nil]; omega) (by simp) ?_)
  intro v3 w3 hO3 hg3 _
  have hx3 : Ext w2 w3 := by
    refine Ext.grown ?_ hg3 (fun q hq => ?_)
    · (repeat (first | with_reducible exact Ext.refl _ | with_reducible assumption | ((with_reducible apply Src.ext); with_reducible assumption) | with_reducible refine Ext.alloc ?_ _ | with_reducible refine Ext.drew ?_ | with_reducible refine Ext.drewN ?_ _ | ((with_reducible refine Ext.setCell' ?_ ?_ _); solve | omega | simp | (simp; omega)) | (with_reducible refine Ext.trans ?_ (by with_reducible assumption))))
    · simp [Value.ownBlock] at hq; omega
  clear hg3
  have hs3 := hx3.size
  have hX3 : Ext w w3 := hX2.trans hx3
  have hgw3 : g < w3.heap.size := by omega
  have d3 : w3.cell? ⟨g, 0, none⟩ = some (.int .i64 x0) := (hx3.cell g 0 hgw).trans d0
  have HX3 := Lib.hid hX3
  have HO3 := Lib.hid hO3
  have HO4 : Hid (OwP (w3.alloc (.cells #[] 33)) w3.heap.size (.slice (some ⟨w3.heap.size, 0, none⟩) 0 0) []) := Lib.hid (World.ownsRow_made (base := w3.heap.size) (e := 33) (size := 2) w3 #[] 0 (Nat.le_refl _) (Nat.zero_le _) rfl)
  clear hO3 hX3 HO0
  go_wp2
  go_region_held3 (fun w' => w'.cell? ⟨g, 0, none⟩ = some (.int .i64 x0)) (first | go_keep | exact (hx5.cell g 0 hgw3).trans d3 | exact (hx6.cell g 0 hgw3).trans d3) (first | (refine step_append_sl elP len_encP one_encP rfl _ _ rfl rfl (HO4.out.ext (by (repeat (first | with_reducible exact Ext.refl _ | with_reducible assumption | ((with_reducible apply Src.ext); with_reducible assumption) | with_reducible refine Ext.alloc ?_ _ | with_reducible refine Ext.drew ?_ | with_reducible refine Ext.drewN ?_ _ | ((with_reducible refine Ext.setCell' ?_ ?_ _); solve | omega | simp | (simp; omega)) | (with_reducible refine Ext.trans ?_ (by with_reducible assumption)))))) (xs := N.drop b) (eval_len rfl HL2.out) (HD.out.ext (by (repeat (first | with_reducible exact Ext.refl _ | with_reducible assumption | ((with_reducible apply Src.ext); with_reducible assumption) | with_reducible refine Ext.alloc ?_ _ | with_reducible refine Ext.drew ?_ | with_reducible refine Ext.drewN ?_ _ | ((with_reducible refine Ext.setCell' ?_ ?_ _); solve | omega | simp | (simp; omega)) | (with_reducible refine Ext.trans ?_ (by with_reducible assumption)))))) (by have := HM.out; simp only [List.length_nil]; omega) (by simp only [List.length_nil]; omega) (by simp) ?_; intro v5 w5 hO5 hg5 _; have hx5 : Ext w3 w5 := Ext.grown (by (repeat (first | with_reducible exact Ext.refl _ | with_reducible assumption | ((with_reducible apply Src.ext); with_reducible assumption) | with_reducible refine Ext.alloc ?_ _ | with_reducible refine Ext.drew ?_ | with_reducible refine Ext.drewN ?_ _ | ((with_reducible refine Ext.setCell' ?_ ?_ _); solve | omega | simp | (simp; omega)) | (with_reducible refine Ext.trans ?_ (by with_reducible assumption))))) hg5 (fun q hq => own_new hq)) | (refine step_append_sl elP len_encP one_encP rfl _ _ rfl rfl hO5 (xs := N.take (a + 1)) (eval_len rfl HL3.out) (HT.out.ext (hx3.trans hx5)) (by have := HM.out; simp only [List.length_append, List.length_nil]; omega) (by simp only [List.length_append, List.length_nil]; omega) (by have := hx5.size; exact this) ?_; intro v6 w6 hO6 hg6 _; have hx6 : Ext w3 w6 := Ext.grown hx5 hg6 (fun q hq => (hO5.row q hq).1)))
  all_goals
    have hO31 := HO3.out.ext hx6
    have hO61 : OwP w6 w3.heap.size v6 (cut2 N a b) := hO6
    have HX6 := Lib.hid hx6
    have hs6 := hx6.size
    obtain ⟨g1, k1, cu1, rfl, hg1, hB1, hn1, hm1, _, _⟩ := hO31.open_ (by rw [HL1.out]; omega)
    obtain ⟨g2, k2, cu2, rfl, hg2, hB2, hn2, hm2, _, _⟩ := hO61.open_ (by rw [cut2_len hab (by omega)]; omega)
    obtain ⟨_, _, e1, hS1, _⟩ := hO31.sl len_encP
    obtain ⟨_, _, e2, hS2, _⟩ := hO61.sl len_encP
    injection e1 with e1 e3 e4
    injection e2 with e2 e5 e6
    subst e1 e4 e2 e6
    have HS1 := Lib.hid hS1
    have HS2 := Lib.hid hS2
    have hl2 : (cut2 N a b).length ≤ 1000 := by rw [cut2_len hab (by omega)]; omega
    have hgl1 := hB1.lt
    have hgl2 := hB2.lt
    clear hO31 hO61 hO5 hO6 hg5 hg6 hx5 hx6 hB1 hB2 hS1 hS2 e3 e5
    rcases hmb : mapB [cut1 N a b, cut2 N a b] with _ | _
    · have hsc : saC ps a b = 5 := by
        unfold saC
        rw [if_pos HRR.out, if_pos ⟨by omega, by omega, by omega⟩, if_neg]
        rw [← HN.out]
        unfold cuts
        rw [Int.toNat_natCast, Int.toNat_natCast, hmb]
        simp
      have HSC := Lib.hid hsc
      clear hsc
      go_wp2_with fail
      refine (s_Map2 (cut1 N a b) (cut2 N a b) hmb (Blk.eq (by (repeat (first | with_reducible assumption | ((with_reducible apply Blk.new); solve | simp | rfl) | with_reducible apply Blk.drew | with_reducible apply Blk.drewN | ((with_reducible apply Blk.far'); solve | omega | simp | (simp; omega)) | with_reducible apply Blk.set_ | with_reducible apply Blk.alloc | ((with_reducible apply Blk.ext'); with_reducible assumption) | ((with_reducible apply Blk.but'); (with_reducible assumption); solve | omega | (simp; omega))))) (by rfl)) (HS1.out.ext (by (repeat (first | with_reducible exact Ext.refl _ | with_reducible assumption | ((with_reducible apply Src.ext); with_reducible assumption) | with_reducible refine Ext.alloc ?_ _ | with_reducible refine Ext.drew ?_ | with_reducible refine Ext.drewN ?_ _ | ((with_reducible refine Ext.setCell' ?_ ?_ _); solve | omega | simp | (simp; omega)) | (with_reducible refine Ext.trans ?_ (by with_reducible assumption)))))) (HS2.out.ext (by (repeat (first | with_reducible exact Ext.refl _ | with_reducible assumption | ((with_reducible apply Src.ext); with_reducible assumption) | with_reducible refine Ext.alloc ?_ _ | with_reducible refine Ext.drew ?_ | with_reducible refine Ext.drewN ?_ _ | ((with_reducible refine Ext.setCell' ?_ ?_ _); solve | omega | simp | (simp; omega)) | (with_reducible refine Ext.trans ?_ (by with_reducible assumption)))))) hn1 hn2 (by omega) (by omega)).mono ?_
      rintro e w9 ⟨rfl, hx9⟩
      have hX9 : Ext w6 w9 := by (repeat (first | with_reducible exact Ext.refl _ | with_reducible assumption | ((with_reducible apply Src.ext); with_reducible assumption) | with_reducible refine Ext.alloc ?_ _ | with_reducible refine Ext.drew ?_ | with_reducible refine Ext.drewN ?_ _ | ((with_reducible refine Ext.setCell' ?_ ?_ _); solve | omega | simp | (simp; omega)) | (with_reducible refine Ext.trans ?_ (by with_reducible assumption))))
      go_wp2
      go_ret3
      refine ⟨_, _, w.heap.size, by rw [HSC.out]; rfl, ?_, ?_, ?_, Nat.le_refl _, (HX3.out.trans HX6.out).trans hX9⟩
      · rw [show sa1 ps a b = [] by unfold sa1; rw [HSC.out]; rfl]; exact Own.nil _ _
      · rw [show sa2 ps a b = [] by unfold sa2; rw [HSC.out]; rfl]; exact Own.nil _ _
      · intro q hq; cases hq
    · have hsc : saC ps a b = 0 := by
        unfold saC
        rw [if_pos HRR.out, if_pos ⟨by omega, by omega, by omega⟩, if_pos]
        rw [← HN.out]
        unfold cuts
        rw [Int.toNat_natCast, Int.toNat_natCast, hmb]
      have hs1' : sa1 ps a b = normS (cut1 N a b) := by unfold sa1; rw [hsc, ← HN.out, Int.toNat_natCast, Int.toNat_natCast]; rfl
      have hs2' : sa2 ps a b = normS (cut2 N a b) := by unfold sa2; rw [hsc, ← HN.out, Int.toNat_natCast, Int.toNat_natCast]; rfl
      have HSC := Lib.hid hsc
      have HS1' := Lib.hid hs1'
      have HS2' := Lib.hid hs2'
      have HCR := Lib.hid (cuts_rings hmb)
      have hsum := cut_abs (ps := ps) hab hb (by rw [← HN.out]; exact mapB_iff.1 hmb)
      rw [← HN.out] at hsum
      obtain ⟨c10, c1l, c1o⟩ := ring_facts HCR.out.1
      obtain ⟨c20, c2l, c2o⟩ := ring_facts HCR.out.2
      have hb1 := areaA_bd HCR.out.1
      have hb2 := areaA_bd HCR.out.2
      have hb3 := areaA_bd HRR.out
      have HC1O := Lib.hid c1o
      have HC2O := Lib.hid c2o
      have e1 : areaA (cut1 N a b) = ((areaZ (cut1 N a b)).natAbs : Int) := rfl
      have e2 : areaA (cut2 N a b) = ((areaZ (cut2 N a b)).natAbs : Int) := rfl
      have e3 : areaA ps = ((areaZ ps).natAbs : Int) := rfl
      rw [e1] at hb1 hsum
      rw [e2] at hb2 hsum
      rw [e3] at hb3 hsum
      clear hsc hs1' hs2' c1o c2o e1 e2 e3
      go_wp2_with fail
      refine (s_Map2 (cut1 N a b) (cut2 N a b) hmb (Blk.eq (by (repeat (first | with_reducible assumption | ((with_reducible apply Blk.new); solve | simp | rfl) | with_reducible apply Blk.drew | with_reducible apply Blk.drewN | ((with_reducible apply Blk.far'); solve | omega | simp | (simp; omega)) | with_reducible apply Blk.set_ | with_reducible apply Blk.alloc | ((with_reducible apply Blk.ext'); with_reducible assumption) | ((with_reducible apply Blk.but'); (with_reducible assumption); solve | omega | (simp; omega))))) (by rfl)) (HS1.out.ext (by (repeat (first | with_reducible exact Ext.refl _ | with_reducible assumption | ((with_reducible apply Src.ext); with_reducible assumption) | with_reducible refine Ext.alloc ?_ _ | with_reducible refine Ext.drew ?_ | with_reducible refine Ext.drewN ?_ _ | ((with_reducible refine Ext.setCell' ?_ ?_ _); solve | omega | simp | (simp; omega)) | (with_reducible refine Ext.trans ?_ (by with_reducible assumption)))))) (HS2.out.ext (by (repeat (first | with_reducible exact Ext.refl _ | with_reducible assumption | ((with_reducible apply Src.ext); with_reducible assumption) | with_reducible refine Ext.alloc ?_ _ | with_reducible refine Ext.drew ?_ | with_reducible refine Ext.drewN ?_ _ | ((with_reducible refine Ext.setCell' ?_ ?_ _); solve | omega | simp | (simp; omega)) | (with_reducible refine Ext.trans ?_ (by with_reducible assumption)))))) hn1 hn2 (by omega) (by omega)).mono ?_
      rintro e w9 ⟨rfl, hx9⟩
      have hX9 : Ext w6 w9 := by (repeat (first | with_reducible exact Ext.refl _ | with_reducible assumption | ((with_reducible apply Src.ext); with_reducible assumption) | with_reducible refine Ext.alloc ?_ _ | with_reducible refine Ext.drew ?_ | with_reducible refine Ext.drewN ?_ _ | ((with_reducible refine Ext.setCell' ?_ ?_ _); solve | omega | simp | (simp; omega)) | (with_reducible refine Ext.trans ?_ (by with_reducible assumption))))
      have HX9 := Lib.hid hX9
      have HX09 := Lib.hid ((HX3.out.trans HX6.out).trans hX9)
      clear hmb hx9 hX9
      go_wp2_with fail
      refine (s_area _ _ (cut1 N a b) _ (HS1.out.ext HX9.out) c10 (by omega) HC1O.out).mono ?_
      rintro e w10 ⟨rfl, hx10⟩
      go_wp2_with fail
      refine (s_absN _ _ (by omega) (by omega)).mono ?_
      rintro e w' ⟨rfl, rfl⟩
      go_wp2_with fail
      refine (s_area _ _ (cut2 N a b) _ (HS2.out.ext (HX9.out.trans hx10)) c20 (by omega) HC2O.out).mono ?_
      rintro e w11 ⟨rfl, hx11⟩
      go_wp2_with fail
      refine (s_absN _ _ (by omega) (by omega)).mono ?_
      rintro e w' ⟨rfl, rfl⟩
      go_wp2_with fail
      refine (s_area _ _ ps _ (h.ext ((HX09.out.trans hx10).trans hx11)) h0 (by omega) HO.out).mono ?_
      rintro e w12 ⟨rfl, hx12⟩
      go_wp2_with fail
      refine (s_absN _ _ (by omega) (by omega)).mono ?_
      rintro e w' ⟨rfl, rfl⟩
      have hX12 := (hx10.trans hx11).trans hx12
      have HX12 := Lib.hid hX12
      clear hX12
      go_wp2_with fail
      refine (s_normalR (cut1 N a b) (HS1.out.ext (HX9.out.trans HX12.out)) HCR.out.1).mono ?_
      rintro e w13 ⟨v13, rfl, hO13, hx13⟩
      go_wp2_with fail
      refine (s_normalR (cut2 N a b) (HS2.out.ext ((HX9.out.trans HX12.out).trans hx13)) HCR.out.2).mono ?_
      rintro e w14 ⟨v14, rfl, hO14, hx14⟩
      go_wp2
      go_ret3
      have hsz := HX09.out.trans HX12.out
      refine ⟨v13, v14, w13.heap.size, by rw [HSC.out]; rfl, ?_, ?_, ?_, ?_, (hsz.trans hx13).trans hx14⟩
      · rw [HS1'.out]; exact (hO13.ext hx14).less hsz.size
      · rw [HS2'.out]; exact hO14
      · intro q hq; exact (hO13.row q hq).2
      · exact (hsz.trans hx13).size
theorem s_SplitArea (A : Option Addr) (c : Nat) (ps : List (Int × Int)) (a b : Int) (w : World) (h : SlAt w 2 encP A ps) (hl : ps.length ≤ 1048576) :
    Calls Try.prog 63 #[.slice A ps.length c, .int .i64 a, .int .i64 b] w fun e w' => ∃ v1 v2 m, e = .returned (.tuple #[v1, v2, .int .i64 (saC ps a b)]) ∧ OwP w' w.heap.size v1 (sa1 ps a b) ∧ OwP w' m v2 (sa2 ps a b) ∧ (∀ q, v1.ownBlock = some q → q < m) ∧ w.heap.size ≤ m ∧ Ext w w' := by
  by_cases hr : ringB ps = true
  · by_cases hi : inR ps.length a b
    · obtain ⟨h1, h2, h3⟩ := hi
      obtain ⟨x, rfl⟩ : ∃ n : Nat, a = n := ⟨a.toNat, by omega⟩
      obtain ⟨y, rfl⟩ : ∃ n : Nat, b = n := ⟨b.toNat, by omega⟩
      exact s_Split_go A c ps x y w h hl hr (by omega) (by omega)
    · exact s_Split_range A c ps a b w h hl hr hi
  · exact s_Split_no A c ps a b w h hl (Bool.eq_false_iff.2 hr)

end Go.Proofs.Ythhkmkhilnglkaa
