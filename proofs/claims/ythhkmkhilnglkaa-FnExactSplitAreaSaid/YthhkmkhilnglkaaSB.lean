/- Contracts of the splitting of an area, walked over the translation. -/
import Derived.Test.YthhkmkhilnglkaaSA
import Derived.Deep.RegionHeld3
import Derived.Deep.DeepCutAuto
import Derived.RegionTactic
import Derived.BigRegion
import Derived.WalkLawsBesides
import Derived.WalkSpells
import Derived.Lib.MinMax
import Derived.Outline
namespace Go.Proofs.Ythhkmkhilnglkaa
open Go.RowKit
attribute [local go_sem] ExtOf.cell ExtOf.frozen

def inR (n : Nat) (a b : Int) : Prop := 0 ≤ a ∧ a < b ∧ b < (n : Int)
def cuts (N : List (Int × Int)) (a b : Int) : List (List (Int × Int)) := [cut1 N a.toNat b.toNat, cut2 N a.toNat b.toNat]
open Classical in
/-- the code that SplitArea returns -/
noncomputable def saC (ps : List (Int × Int)) (a b : Int) : Int := if ringB ps = true then (if inR ps.length a b then (if mapB (cuts (normS ps) a b) = true then 0 else 5) else 2) else 1
noncomputable def sa1 (ps : List (Int × Int)) (a b : Int) : List (Int × Int) := if saC ps a b = 0 then normS (cut1 (normS ps) a.toNat b.toNat) else []
noncomputable def sa2 (ps : List (Int × Int)) (a b : Int) : List (Int × Int) := if saC ps a b = 0 then normS (cut2 (normS ps) a.toNat b.toNat) else []
theorem i_CloneN {A : Option Addr} {c n : Nat} (ps : List (Int × Int)) {w : World} (e1 : n = ps.length) (h : SlAt w 2 encP A ps) (hl : ps.length ≤ 1048576) :
    Calls Try.prog 115 #[.slice A n c] w fun e w' => ∃ v, e = .returned v ∧ OwP w' w.heap.size v ps ∧ Ext w w' := by
  subst e1
  exact i_CloneP _ _ ps _ h hl
theorem two_sl {w : World} {g : Nat} {A1 A2 : Option Addr} {c1 c2 : Nat} {p q : List (Int × Int)} (hB : Blk w g 26 #[.slice A1 p.length c1, .slice A2 q.length c2]) : SlAt w 1 encR (some ⟨g, 0, none⟩) [(A1, c1, p), (A2, c2, q)] := hB.sl (by rfl) len_encR
theorem two_rings {w : World} {A1 A2 : Option Addr} {c1 c2 : Nat} {p q : List (Int × Int)} (h1 : SlAt w 2 encP A1 p) (h2 : SlAt w 2 encP A2 q) (n1 : p.length ≤ c1) (n2 : q.length ≤ c2) (l1 : p.length ≤ 1048576) (l2 : q.length ≤ 1048576) : Rings w [(A1, c1, p), (A2, c2, q)] := fun r hr => by
  rcases List.mem_cons.1 hr with rfl | hr
  · exact ⟨h1, n1, l1⟩
  · rcases List.mem_cons.1 hr with rfl | hr
    · exact ⟨h2, n2, l2⟩
    · cases hr
theorem i_Map2 {g : Nat} {A1 A2 : Option Addr} {c1 c2 : Nat} (p q : List (Int × Int)) {w : World} {mb : Bool} (e : mapB [p, q] = mb) (hB : Blk w g 26 #[.slice A1 p.length c1, .slice A2 q.length c2]) (h1 : SlAt w 2 encP A1 p) (h2 : SlAt w 2 encP A2 q) (n1 : p.length ≤ c1) (n2 : q.length ≤ c2) (l1 : p.length ≤ 1048576) (l2 : q.length ≤ 1048576) :
    Calls Try.prog 54 #[.slice (some ⟨g, 0, none⟩) 2 2] w fun e w' => e = .returned (.bool mb) ∧ Ext w w' :=
  e ▸ i_IsMap _ 2 [(A1, c1, p), (A2, c2, q)] w (two_sl hB) (two_rings h1 h2 n1 n2 l1 l2) (by show 2 ≤ 1048576; omega) (Nat.le_refl _)
theorem s_Map2 {g : Nat} {A1 A2 : Option Addr} {c1 c2 : Nat} (p q : List (Int × Int)) {w : World} {mb : Bool} (e : mapB [p, q] = mb) (hB : Blk w g 26 #[.slice A1 p.length c1, .slice A2 q.length c2]) (h1 : SlAt w 2 encP A1 p) (h2 : SlAt w 2 encP A2 q) (n1 : p.length ≤ c1) (n2 : q.length ≤ c2) (l1 : p.length ≤ 1048576) (l2 : q.length ≤ 1048576) :
    Calls Try.prog 52 #[.slice (some ⟨g, 0, none⟩) 2 2] w fun e w' => e = .returned (.bool mb) ∧ Ext w w' :=
  e ▸ s_IsMap _ 2 [(A1, c1, p), (A2, c2, q)] w (two_sl hB) (two_rings h1 h2 n1 n2 l1 l2) (by show 2 ≤ 1048576; omega)
theorem i_normalR {A : Option Addr} {c : Nat} (ps : List (Int × Int)) {w : World} (h : SlAt w 2 encP A ps) (hr : ringB ps = true) :
    Calls Try.prog 100 #[.slice A ps.length c] w fun e w' => ∃ v, e = .returned v ∧ OwP w' w.heap.size v (normS ps) ∧ Ext w w' := by
  obtain ⟨h0, hl, ho⟩ := ring_facts hr
  rw [← norm_same (ringB_iff.1 hr)]
  exact i_normal _ _ ps _ h h0 (by omega) ho
theorem s_normalR {A : Option Addr} {c : Nat} (ps : List (Int × Int)) {w : World} (h : SlAt w 2 encP A ps) (hr : ringB ps = true) :
    Calls Try.prog 99 #[.slice A ps.length c] w fun e w' => ∃ v, e = .returned v ∧ OwP w' w.heap.size v (normS ps) ∧ Ext w w' := by
  obtain ⟨h0, hl, ho⟩ := ring_facts hr
  exact s_l16Normal _ _ ps _ h h0 (by omega) ho
theorem cuts_rings {p q : List (Int × Int)} (h : mapB [p, q] = true) : ringB p = true ∧ ringB q = true := ⟨(mapB_iff.1 h).2.1 0 (by simp), (mapB_iff.1 h).2.1 1 (by simp)⟩
set_option maxRecDepth 20000 in
set_option maxHeartbeats 12800000 in
theorem i_Split_go (A : Option Addr) (c : Nat) (ps : List (Int × Int)) (a b : Nat) (w : World) (h : SlAt w 2 encP A ps) (hl : ps.length ≤ 1048576) (hc : ps.length ≤ c) (hr : ringB ps = true) (hab : a < b) (hb : b < ps.length) :
    Calls Try.prog 64 #[.slice A ps.length c, .int .i64 a, .int .i64 b] w fun e w' => ∃ v1 v2 m, e = .returned (.tuple #[v1, v2, .int .i64 (saC ps a b)]) ∧ OwP w' w.heap.size v1 (sa1 ps a b) ∧ OwP w' m v2 (sa2 ps a b) ∧ (∀ q, v1.ownBlock = some q → q < m) ∧ w.heap.size ≤ m ∧ Ext w w' := by
  have hrb : ∀ W, SlAt W 2 encP A ps → Calls Try.prog 73 #[.slice A ps.length c] W fun e w' => e = .returned (.bool true) ∧ Ext W w' := fun W h => as_bool (i_IsRing _ _ ps _ h hl hc) hr
  have HRB := Lib.hid hrb
  obtain ⟨h0, hl12, ho⟩ := ring_facts hr
  have hns := norm_same (ringB_iff.1 hr)
  have HO := Lib.hid ho
  obtain ⟨N, hN⟩ : ∃ N, N = normS ps := ⟨_, rfl⟩
  have hNl : N.length = ps.length := by rw [hN, normS_len]
  rw [← hN] at hns
  have HNS := Lib.hid hns
  have HN := Lib.hid hN
  have hb1 : inB (b : Int) 0 ((ps.length : Int) - 1) = true := by simp [inB]; omega
  have hb2 : inB (a : Int) 0 ((b : Int) - 1) = true := by simp [inB]; omega
  clear hrb ho hns hN
  go_enter Try.func64, Try.ntmps64
  (go_wp2_with fail; refine (HRB.out _ h).mono ?_; rintro e w1 ⟨rfl, hx1⟩; obtain ⟨hc1, hf1⟩ := hx1.rules; have hs1 := hx1.size; (try simp at hs1))
  go_wp2_with (first | (go_at_call 114; refine (i_length _ _ _ _ (by omega)).mono ?_; rintro e w' ⟨rfl, rfl⟩) | (go_at_call 113; refine (within_any _ _ _ _).mono ?_; rintro e w' ⟨rfl, rfl⟩; first | rw [hb1] | rw [hb2]))
  go_wp2_with fail
  refine (i_normal _ _ ps _ (h.ext (by (repeat (first | with_reducible exact Ext.refl _ | with_reducible assumption | ((with_reducible apply Src.ext); with_reducible assumption) | with_reducible refine Ext.alloc ?_ _ | with_reducible refine Ext.drew ?_ | with_reducible refine Ext.drewN ?_ _ | ((with_reducible refine Ext.setCell' ?_ ?_ _); solve | omega | simp | (simp; omega)) | (with_reducible refine Ext.trans ?_ (by with_reducible assumption)))))) h0 (by omega) HO.out).mono ?_
  rintro e w2 ⟨v2, rfl, hO2, hx2⟩
  rw [HNS.out] at hO2
  obtain ⟨g, cap, cur, rfl, hg, hB, hn, hm, hs, ht⟩ := hO2.open_ (by omega)
  obtain ⟨A', c', e', hS, _⟩ := hO2.sl len_encP
  injection e' with ea eb ec
  subst ea ec
  clear hs ht hO2 eb
  rw [hNl] at hn ⊢
  have hgw : g < w2.heap.size := hB.lt
  have hX2 : Ext w w2 := by (repeat (first | with_reducible exact Ext.refl _ | with_reducible assumption | ((with_reducible apply Src.ext); with_reducible assumption) | with_reducible refine Ext.alloc ?_ _ | with_reducible refine Ext.drew ?_ | with_reducible refine Ext.drewN ?_ _ | ((with_reducible refine Ext.setCell' ?_ ?_ _); solve | omega | simp | (simp; omega)) | (with_reducible refine Ext.trans ?_ (by with_reducible assumption))))
  have hwa : IntKind.i64.wrap ((a : Int) + 1) = (a : Int) + 1 := IntWalk.i64_in _ (by omega)
  have hwb : IntKind.i64.wrap ((b : Int) + 1) = (b : Int) + 1 := IntWalk.i64_in _ (by omega)
  go_wp2
  have hc1 : SlAt w2 2 encP (some ⟨g, a * 2, none⟩) (cut1 N a b) := by
    obtain ⟨b', off, e, _, hs⟩ := hS.drop a (by omega)
    injection e with e
    injection e with e1 e2
    subst e1 e2
    simp only [Nat.zero_add] at hs
    exact hs.take _
  have HC1 := Lib.hid hc1
  have hd1 : SlAt w2 2 encP (some ⟨g, b * 2, none⟩) (N.drop b) := by
    obtain ⟨b', off, e, _, hs⟩ := hS.drop b (by omega)
    injection e with e
    injection e with e1 e2
    subst e1 e2
    simp only [Nat.zero_add] at hs
    exact hs
  have HD := Lib.hid hd1
  have HT := Lib.hid (hS.take (a + 1))
  clear hc1 hd1
  obtain ⟨d0, _⟩ := hS.pt' (k := 0) (by omega)
  simp only [Nat.zero_add, Nat.zero_mul] at d0
  generalize (N.getD 0 (0, 0)).1 = x0 at d0
  have f1 : (0 : Int) ≤ (a : Int) := by omega
  have f2 : (a : Int) ≤ (b : Int) + 1 := by omega
  have f3 : (b : Int) + 1 ≤ (cap : Int) := by omega
  have f4 : (0 : Int) ≤ (b : Int) := by omega
  have f5 : (b : Int) ≤ (ps.length : Int) := by omega
  have f6 : (ps.length : Int) ≤ (cap : Int) := by omega
  have f7 : (0 : Int) ≤ (a : Int) + 1 := by omega
  have f8 : (a : Int) + 1 ≤ (cap : Int) := by omega
  have f9 : ¬ cap = a := by omega
  have f10 : ¬ cap = b := by omega
  go_region_held3 (fun w' => w'.cell? ⟨g, 0, none⟩ = some (.int .i64 x0)) (first | go_keep | exact ((show Ext w2 w7 by (repeat (first | with_reducible exact Ext.refl _ | with_reducible assumption | ((with_reducible apply Src.ext); with_reducible assumption) | with_reducible refine Ext.alloc ?_ _ | with_reducible refine Ext.drew ?_ | with_reducible refine Ext.drewN ?_ _ | ((with_reducible refine Ext.setCell' ?_ ?_ _); solve | omega | simp | (simp; omega)) | (with_reducible refine Ext.trans ?_ (by with_reducible assumption))))).cell g 0 hgw).trans d0 | exact ((show Ext w2 w8 by (repeat (first | with_reducible exact Ext.refl _ | with_reducible assumption | ((with_reducible apply Src.ext); with_reducible assumption) | with_reducible refine Ext.alloc ?_ _ | with_reducible refine Ext.drew ?_ | with_reducible refine Ext.drewN ?_ _ | ((with_reducible refine Ext.setCell' ?_ ?_ _); solve | omega | simp | (simp; omega)) | (with_reducible refine Ext.trans ?_ (by with_reducible assumption))))).cell g 0 hgw).trans d0) (first | (go_at_call 115; refine (i_CloneN (cut1 N a b) (by rw [cut1_len hab (by omega)]; omega) (HC1.out.ext (by (repeat (first | with_reducible exact Ext.refl _ | with_reducible assumption | ((with_reducible apply Src.ext); with_reducible assumption) | with_reducible refine Ext.alloc ?_ _ | with_reducible refine Ext.drew ?_ | with_reducible refine Ext.drewN ?_ _ | ((with_reducible refine Ext.setCell' ?_ ?_ _); solve | omega | simp | (simp; omega)) | (with_reducible refine Ext.trans ?_ (by with_reducible assumption)))))) (by rw [cut1_len hab (by omega)]; omega)).mono ?_; rintro e w7 ⟨v7, rfl, hO7, hx7⟩) | (go_at_call 116; refine (i_ConcatP' _ _ _ (ps.length - b) (a + 1) _ _ (N.drop b) (N.take (a + 1)) _ (by rw [List.length_drop, hNl]) (by rw [List.length_take, hNl]; omega) (Blk.eq (by (repeat (first | with_reducible assumption | ((with_reducible apply Blk.new); solve | simp | rfl) | with_reducible apply Blk.drew | with_reducible apply Blk.drewN | ((with_reducible apply Blk.far'); solve | omega | simp | (simp; omega)) | with_reducible apply Blk.set_ | with_reducible apply Blk.alloc | ((with_reducible apply Blk.ext'); with_reducible assumption) | ((with_reducible apply Blk.but'); (with_reducible assumption); solve | omega | (simp; omega))))) (by rfl)) (HD.out.ext (by (repeat (first | with_reducible exact Ext.refl _ | with_reducible assumption | ((with_reducible apply Src.ext); with_reducible assumption) | with_reducible refine Ext.alloc ?_ _ | with_reducible refine Ext.drew ?_ | with_reducible refine Ext.drewN ?_ _ | ((with_reducible refine Ext.setCell' ?_ ?_ _); solve | omega | simp | (simp; omega)) | (with_reducible refine Ext.trans ?_ (by with_reducible assumption)))))) (HT.out.ext (by (repeat (first | with_reducible exact Ext.refl _ | with_reducible assumption | ((with_reducible apply Src.ext); with_reducible assumption) | with_reducible refine Ext.alloc ?_ _ | with_reducible refine Ext.drew ?_ | with_reducible refine Ext.drewN ?_ _ | ((with_reducible refine Ext.setCell' ?_ ?_ _); solve | omega | simp | (simp; omega)) | (with_reducible refine Ext.trans ?_ (by with_reducible assumption)))))) (by rw [List.length_drop, List.length_take, hNl]; omega)).mono ?_; rintro e w8 ⟨v8, rfl, hO8, hx8⟩))
  all_goals
    have hO71 := hO7.ext (w' := w8) (by (repeat (first | with_reducible exact Ext.refl _ | with_reducible assumption | ((with_reducible apply Src.ext); with_reducible assumption) | with_reducible refine Ext.alloc ?_ _ | with_reducible refine Ext.drew ?_ | with_reducible refine Ext.drewN ?_ _ | ((with_reducible refine Ext.setCell' ?_ ?_ _); solve | omega | simp | (simp; omega)) | (with_reducible refine Ext.trans ?_ (by with_reducible assumption)))))
    have hX8 : Ext w2 w8 := by (repeat (first | with_reducible exact Ext.refl _ | with_reducible assumption | ((with_reducible apply Src.ext); with_reducible assumption) | with_reducible refine Ext.alloc ?_ _ | with_reducible refine Ext.drew ?_ | with_reducible refine Ext.drewN ?_ _ | ((with_reducible refine Ext.setCell' ?_ ?_ _); solve | omega | simp | (simp; omega)) | (with_reducible refine Ext.trans ?_ (by with_reducible assumption))))
    have hs8 := hX8.size
    have HW8 := Lib.hid hX8
    obtain ⟨g1, k1, cu1, rfl, hg1, hB1, hn1, hm1, _, _⟩ := hO71.open_ (by rw [cut1_len hab (by omega)]; omega)
    obtain ⟨g2, k2, cu2, rfl, hg2, hB2, hn2, hm2, _, _⟩ := hO8.open_ (by show 0 < (cut2 N a b).length; rw [cut2_len hab (by omega)]; omega)
    obtain ⟨_, _, e1, hS1, _⟩ := hO71.sl len_encP
    obtain ⟨_, _, e2, hS2, _⟩ := hO8.sl len_encP
    injection e1 with e1 e3 e4
    injection e2 with e2 e5 e6
    subst e1 e4 e2 e6
    have HS1 := Lib.hid hS1
    have HS2 : Hid (SlAt w8 2 encP (some ⟨g2, 0, none⟩) (cut2 N a b)) := Lib.hid hS2
    have hl1 : (cut1 N a b).length ≤ 1000 := by rw [cut1_len hab (by omega)]; omega
    have hl2 : (cut2 N a b).length ≤ 1000 := by rw [cut2_len hab (by omega)]; omega
    have hgl1 := hB1.lt
    have hgl2 := hB2.lt
    clear hO71 hO8 hO7 hx7 hx8 hB1 hB2 hS1 hS2 e3 e5 hX8
    rw [show (N.drop b ++ N.take (a + 1)).length = (cut2 N a b).length from rfl] at hn2 ⊢
    rcases hmb : mapB [cut1 N a b, cut2 N a b] with _ | _
    · have hsc : saC ps a b = 5 := by
        unfold saC
        rw [if_pos hr, if_pos ⟨by omega, by omega, by omega⟩, if_neg]
        rw [← HN.out]
        unfold cuts
        rw [Int.toNat_natCast, Int.toNat_natCast, hmb]
        simp
      have HSC := Lib.hid hsc
      clear hsc
      go_wp2_with fail
      refine (i_Map2 (cut1 N a b) (cut2 N a b) hmb (Blk.eq (by (repeat (first | with_reducible assumption | ((with_reducible apply Blk.new); solve | simp | rfl) | with_reducible apply Blk.drew | with_reducible apply Blk.drewN | ((with_reducible apply Blk.far'); solve | omega | simp | (simp; omega)) | with_reducible apply Blk.set_ | with_reducible apply Blk.alloc | ((with_reducible apply Blk.ext'); with_reducible assumption) | ((with_reducible apply Blk.but'); (with_reducible assumption); solve | omega | (simp; omega))))) (by rfl)) (HS1.out.ext (by (repeat (first | with_reducible exact Ext.refl _ | with_reducible assumption | ((with_reducible apply Src.ext); with_reducible assumption) | with_reducible refine Ext.alloc ?_ _ | with_reducible refine Ext.drew ?_ | with_reducible refine Ext.drewN ?_ _ | ((with_reducible refine Ext.setCell' ?_ ?_ _); solve | omega | simp | (simp; omega)) | (with_reducible refine Ext.trans ?_ (by with_reducible assumption)))))) (HS2.out.ext (by (repeat (first | with_reducible exact Ext.refl _ | with_reducible assumption | ((with_reducible apply Src.ext); with_reducible assumption) | with_reducible refine Ext.alloc ?_ _ | with_reducible refine Ext.drew ?_ | with_reducible refine Ext.drewN ?_ _ | ((with_reducible refine Ext.setCell' ?_ ?_ _); solve | omega | simp | (simp; omega)) | (with_reducible refine Ext.trans ?_ (by with_reducible assumption)))))) hn1 hn2 (by omega) (by omega)).mono ?_
      rintro e w9 ⟨rfl, hx9⟩
      have hX9 : Ext w8 w9 := by (repeat (first | with_reducible exact Ext.refl _ | with_reducible assumption | ((with_reducible apply Src.ext); with_reducible assumption) | with_reducible refine Ext.alloc ?_ _ | with_reducible refine Ext.drew ?_ | with_reducible refine Ext.drewN ?_ _ | ((with_reducible refine Ext.setCell' ?_ ?_ _); solve | omega | simp | (simp; omega)) | (with_reducible refine Ext.trans ?_ (by with_reducible assumption))))
      go_wp2
      go_ret3
      refine ⟨_, _, w.heap.size, by rw [HSC.out]; rfl, ?_, ?_, ?_, Nat.le_refl _, (hX2.trans HW8.out).trans hX9⟩
      · rw [show sa1 ps a b = [] by unfold sa1; rw [HSC.out]; rfl]; exact Own.nil _ _
      · rw [show sa2 ps a b = [] by unfold sa2; rw [HSC.out]; rfl]; exact Own.nil _ _
      · intro q hq; cases hq
    · have hsc : saC ps a b = 0 := by
        unfold saC
        rw [if_pos hr, if_pos ⟨by omega, by omega, by omega⟩, if_pos]
        rw [← HN.out]
        unfold cuts
        rw [Int.toNat_natCast, Int.toNat_natCast, hmb]
      have hs1 : sa1 ps a b = normS (cut1 N a b) := by unfold sa1; rw [hsc, ← HN.out, Int.toNat_natCast, Int.toNat_natCast]; rfl
      have hs2 : sa2 ps a b = normS (cut2 N a b) := by unfold sa2; rw [hsc, ← HN.out, Int.toNat_natCast, Int.toNat_natCast]; rfl
      have HSC := Lib.hid hsc
      have HS1' := Lib.hid hs1
      have HS2' := Lib.hid hs2
      have HCR := Lib.hid (cuts_rings hmb)
      clear hsc hs1 hs2
      go_wp2_with fail
      refine (i_Map2 (cut1 N a b) (cut2 N a b) hmb (Blk.eq (by (repeat (first | with_reducible assumption | ((with_reducible apply Blk.new); solve | simp | rfl) | with_reducible apply Blk.drew | with_reducible apply Blk.drewN | ((with_reducible apply Blk.far'); solve | omega | simp | (simp; omega)) | with_reducible apply Blk.set_ | with_reducible apply Blk.alloc | ((with_reducible apply Blk.ext'); with_reducible assumption) | ((with_reducible apply Blk.but'); (with_reducible assumption); solve | omega | (simp; omega))))) (by rfl)) (HS1.out.ext (by (repeat (first | with_reducible exact Ext.refl _ | with_reducible assumption | ((with_reducible apply Src.ext); with_reducible assumption) | with_reducible refine Ext.alloc ?_ _ | with_reducible refine Ext.drew ?_ | with_reducible refine Ext.drewN ?_ _ | ((with_reducible refine Ext.setCell' ?_ ?_ _); solve | omega | simp | (simp; omega)) | (with_reducible refine Ext.trans ?_ (by with_reducible assumption)))))) (HS2.out.ext (by (repeat (first | with_reducible exact Ext.refl _ | with_reducible assumption | ((with_reducible apply Src.ext); with_reducible assumption) | with_reducible refine Ext.alloc ?_ _ | with_reducible refine Ext.drew ?_ | with_reducible refine Ext.drewN ?_ _ | ((with_reducible refine Ext.setCell' ?_ ?_ _); solve | omega | simp | (simp; omega)) | (with_reducible refine Ext.trans ?_ (by with_reducible assumption)))))) hn1 hn2 (by omega) (by omega)).mono ?_
      rintro e w9 ⟨rfl, hx9⟩
      have hX9 : Ext w8 w9 := by (repeat (first | with_reducible exact Ext.refl _ | with_reducible assumption | ((with_reducible apply Src.ext); with_reducible assumption) | with_reducible refine Ext.alloc ?_ _ | with_reducible refine Ext.drew ?_ | with_reducible refine Ext.drewN ?_ _ | ((with_reducible refine Ext.setCell' ?_ ?_ _); solve | omega | simp | (simp; omega)) | (with_reducible refine Ext.trans ?_ (by with_reducible assumption))))
      have HX9 := Lib.hid hX9
      clear hmb
      go_wp2_with fail
      refine (i_normalR (cut1 N a b) (HS1.out.ext hX9) HCR.out.1).mono ?_
      rintro e w10 ⟨v10, rfl, hO10, hx10⟩
      go_wp2_with fail
      refine (i_normalR (cut2 N a b) (HS2.out.ext (HX9.out.trans hx10)) HCR.out.2).mono ?_
      rintro e w11 ⟨v11, rfl, hO11, hx11⟩
      go_wp2
      go_ret3
      have hsz := (hX2.trans HW8.out).trans HX9.out
      refine ⟨v10, v11, w10.heap.size, by rw [HSC.out]; rfl, ?_, ?_, ?_, ?_, (hsz.trans hx10).trans hx11⟩
      · rw [HS1'.out]; exact (hO10.ext hx11).less hsz.size
      · rw [HS2'.out]; exact hO11
      · intro q hq; exact (hO10.row q hq).2
      · exact (hsz.trans hx10).size

end Go.Proofs.Ythhkmkhilnglkaa
