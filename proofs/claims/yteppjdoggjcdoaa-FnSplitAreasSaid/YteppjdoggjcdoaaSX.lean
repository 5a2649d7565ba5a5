/- Contracts of the splitting of an area, walked over the translation. Contracts of the splitting of an area, walked over the translation. Contracts of the splitting of an area, walked over the translation. -/
import Derived.Test.YteppjdoggjcdoaaSA
import Derived.Deep.RegionHeld3
import Derived.Deep.DeepCutAuto
import Derived.RegionTactic
import Derived.BigRegion
import Derived.WalkLawsBesides
import Derived.WalkSpells
import Derived.Lib.MinMax
import Derived.Outline
namespace Go.Proofs.Yteppjdoggjcdoaa
open Go.RowKit
attribute [local go_sem] ExtOf.cell ExtOf.frozen

def inR (n : Nat) (a b : Int) : Prop := 0 ≤ a ∧ a < b ∧ b < (n : Int)
def cuts (N : List (Int × Int)) (a b : Int) : List (List (Int × Int)) := [cut1 N a.toNat b.toNat, cut2 N a.toNat b.toNat]
open Classical in
/-- the code that SplitArea returns -/
noncomputable def saC (ps : List (Int × Int)) (a b : Int) : Int := if ringB ps = true then (if inR ps.length a b then (if mapB (cuts (normS ps) a b) = true then 0 else 5) else 2) else 1
noncomputable def sa1 (ps : List (Int × Int)) (a b : Int) : List (Int × Int) := if saC ps a b = 0 then normS (cut1 (normS ps) a.toNat b.toNat) else []
noncomputable def sa2 (ps : List (Int × Int)) (a b : Int) : List (Int × Int) := if saC ps a b = 0 then normS (cut2 (normS ps) a.toNat b.toNat) else []
theorem i_CloneN {A : Option Addr} {c n : Nat} (ps : List (Int × Int)) {w : World} (e1 : n = ps.length) (h : SlAt w 2 encP A ps) (hl : ps.length ≤ 1048576) :
    Calls Try.prog 91 #[.slice A n c] w fun e w' => ∃ v, e = .returned v ∧ OwP w' w.heap.size v ps ∧ Ext w w' := by
  subst e1
  exact i_CloneP _ _ ps _ h hl
theorem two_sl {w : World} {g : Nat} {A1 A2 : Option Addr} {c1 c2 : Nat} {p q : List (Int × Int)} (hB : Blk w g 24 #[.slice A1 p.length c1, .slice A2 q.length c2]) : SlAt w 1 encR (some ⟨g, 0, none⟩) [(A1, c1, p), (A2, c2, q)] := hB.sl (by rfl) len_encR
theorem two_rings {w : World} {A1 A2 : Option Addr} {c1 c2 : Nat} {p q : List (Int × Int)} (h1 : SlAt w 2 encP A1 p) (h2 : SlAt w 2 encP A2 q) (n1 : p.length ≤ c1) (n2 : q.length ≤ c2) (l1 : p.length ≤ 1048576) (l2 : q.length ≤ 1048576) : Rings w [(A1, c1, p), (A2, c2, q)] := fun r hr => by
  rcases List.mem_cons.1 hr with rfl | hr
  · exact ⟨h1, n1, l1⟩
  · rcases List.mem_cons.1 hr with rfl | hr
    · exact ⟨h2, n2, l2⟩
    · cases hr
theorem i_Map2 {g : Nat} {A1 A2 : Option Addr} {c1 c2 : Nat} (p q : List (Int × Int)) {w : World} {mb : Bool} (e : mapB [p, q] = mb) (hB : Blk w g 24 #[.slice A1 p.length c1, .slice A2 q.length c2]) (h1 : SlAt w 2 encP A1 p) (h2 : SlAt w 2 encP A2 q) (n1 : p.length ≤ c1) (n2 : q.length ≤ c2) (l1 : p.length ≤ 1048576) (l2 : q.length ≤ 1048576) :
    Calls Try.prog 44 #[.slice (some ⟨g, 0, none⟩) 2 2] w fun e w' => e = .returned (.bool mb) ∧ Ext w w' :=
  e ▸ i_IsMap _ 2 [(A1, c1, p), (A2, c2, q)] w (two_sl hB) (two_rings h1 h2 n1 n2 l1 l2) (by show 2 ≤ 1048576; omega) (Nat.le_refl _)
theorem s_Map2 {g : Nat} {A1 A2 : Option Addr} {c1 c2 : Nat} (p q : List (Int × Int)) {w : World} {mb : Bool} (e : mapB [p, q] = mb) (hB : Blk w g 24 #[.slice A1 p.length c1, .slice A2 q.length c2]) (h1 : SlAt w 2 encP A1 p) (h2 : SlAt w 2 encP A2 q) (n1 : p.length ≤ c1) (n2 : q.length ≤ c2) (l1 : p.length ≤ 1048576) (l2 : q.length ≤ 1048576) :
    Calls Try.prog 93 #[.slice (some ⟨g, 0, none⟩) 2 2] w fun e w' => e = .returned (.bool mb) ∧ Ext w w' :=
  e ▸ s_IsMap _ 2 [(A1, c1, p), (A2, c2, q)] w (two_sl hB) (two_rings h1 h2 n1 n2 l1 l2) (by show 2 ≤ 1048576; omega)
theorem i_normalR {A : Option Addr} {c : Nat} (ps : List (Int × Int)) {w : World} (h : SlAt w 2 encP A ps) (hr : ringB ps = true) :
    Calls Try.prog 58 #[.slice A ps.length c] w fun e w' => ∃ v, e = .returned v ∧ OwP w' w.heap.size v (normS ps) ∧ Ext w w' := by
  obtain ⟨h0, hl, ho⟩ := ring_facts hr
  rw [← norm_same (ringB_iff.1 hr)]
  exact i_normal _ _ ps _ h h0 (by omega) ho
theorem s_normalR {A : Option Addr} {c : Nat} (ps : List (Int × Int)) {w : World} (h : SlAt w 2 encP A ps) (hr : ringB ps = true) :
    Calls Try.prog 60 #[.slice A ps.length c] w fun e w' => ∃ v, e = .returned v ∧ OwP w' w.heap.size v (normS ps) ∧ Ext w w' := by
  obtain ⟨h0, hl, ho⟩ := ring_facts hr
  exact s_l16Normal _ _ ps _ h h0 (by omega) ho
theorem cuts_rings {p q : List (Int × Int)} (h : mapB [p, q] = true) : ringB p = true ∧ ringB q = true := ⟨(mapB_iff.1 h).2.1 0 (by simp), (mapB_iff.1 h).2.1 1 (by simp)⟩
set_option maxRecDepth 20000 in
set_option maxHeartbeats 12800000 in
theorem i_Split_go (A : Option Addr) (c : Nat) (ps : List (Int × Int)) (a b : Nat) (w : World) (h : SlAt w 2 encP A ps) (hl : ps.length ≤ 1048576) (hc : ps.length ≤ c) (hr : ringB ps = true) (hab : a < b) (hb : b < ps.length) :
    Calls Try.prog 35 #[.slice A ps.length c, .int .i64 a, .int .i64 b] w fun e w' => ∃ v1 v2 m, e = .returned (.tuple #[v1, v2, .int .i64 (saC ps a b)]) ∧ OwP w' w.heap.size v1 (sa1 ps a b) ∧ OwP w' m v2 (sa2 ps a b) ∧ (∀ q, v1.ownBlock = some q → q < m) ∧ w.heap.size ≤ m ∧ Ext w w' := by
  have hrb : ∀ W, SlAt W 2 encP A ps → Calls Try.prog 57 #[.slice A ps.length c] W fun e w' => e = .returned (.bool true) ∧ Ext W w' := fun W h => as_bool (i_IsRing _ _ ps _ h hl hc) hr
  have HRB := Lib.hid hrb
  obtain ⟨h0, hl12, ho⟩ := ring_facts hr
  have hns := norm_same (ringB_iff.1 hr)
  have HO := Lib.hid ho
  obtain ⟨N, hN⟩ : ∃ N, N = normS ps := ⟨_, rfl⟩
  have hNl : N.length = ps.length := by rw [hN, normS_len]
  rw [← hN] at hns
  have HNS := Lib.hid hns
  have HN := Lib.hid hN
  have hb1 : inB (b : Int) 0 ((ps.length : Int) - 1) = true := by simp [inB]; omega
  have hb2 : inB (a : Int) 0 ((b : Int) - 1) = true := by simp [inB]; omega
  clear hrb ho hns hN
  go_enter Try.func35, Try.ntmps35
  (go_wp2_with fail; refine (HRB.out _ h).mono ?_; rintro e w1 ⟨rfl, hx1⟩; obtain ⟨hc1, hf1⟩ := hx1.rules; have hs1 := hx1.size; (try simp at hs1))
  go_wp2_with (first | (go_at_call 90; refine (i_length _ _ _ _ (by omega)).mono ?_; rintro e w' ⟨rfl, rfl⟩) | (go_at_call 89; refine (within_any _ _ _ _).mono ?_; rintro e w' ⟨rfl, rfl⟩; first | rw [hb1] | rw [hb2]))
  go_wp2_with fail
  refine (i_normal _ _ ps _ (h.ext (by (repeat (first | with_reducible exact Ext.refl _ | with_reducible assumption | ((with_reducible apply Src.ext); with_reducible assumption) | with_reducible refine Ext.alloc ?_ _ | with_reducible refine Ext.drew ?_ | with_reducible refine Ext.drewN ?_ _ | ((with_reducible refine Ext.setCell' ?_ ?_ _); solve | omega | simp | (simp; omega)) | (with_reducible refine Ext.trans ?_ (by with_reducible assumption)))))) h0 (by omega) HO.out).mono ?_
  rintro e w2 ⟨v2, rfl, hO2, hx2⟩
  rw [HNS.out] at hO2
  obtain ⟨g, cap, cur, rfl, hg, hB, hn, hm, hs, ht⟩ := hO2.open_ (by omega)
  obtain ⟨A', c', e', hS, _⟩ := hO2.sl len_encP
  injection e' with ea eb ec
  subst ea ec
  clear hs ht hO2 eb
  rw [hNl] at hn ⊢
  have hgw : g < w2.heap.size := hB.lt
  have hX2 : Ext w w2 := by (repeat (first | with_reducible exact Ext.refl _ | with_reducible assumption | ((with_reducible apply Src.ext); with_reducible assumption) | with_reducible refine Ext.alloc ?_ _ | with_reducible refine Ext.drew ?_ | with_reducible refine Ext.drewN ?_ _ | ((with_reducible refine Ext.setCell' ?_ ?_ _); solve | omega | simp | (simp; omega)) | (with_reducible refine Ext.trans ?_ (by with_reducible assumption))))
  have hwa : IntKind.i64.wrap ((a : Int) + 1) = (a : Int) + 1 := IntWalk.i64_in _ (by omega)
  have hwb : IntKind.i64.wrap ((b : Int) + 1) = (b : Int) + 1 := IntWalk.i64_in _ (by omega)
  go_wp2
  have hc1 : SlAt w2 2 encP (some ⟨g, a * 2, none⟩) (cut1 N a b) := by
    obtain ⟨b', off, e, _, hs⟩ := hS.drop a (by omega)
    injection e with e
    injection e with e1 e2
    subst e1 e2
    simp only [Nat.zero_add] at hs
    exact hs.take _
  have HC1 := Lib.hid hc1
  have hd1 : SlAt w2 2 encP (some ⟨g, b * 2, none⟩) (N.drop b) := by
    obtain ⟨b', off, e, _, hs⟩ := hS.drop b (by omega)
    injection e with e
    injection e with e1 e2
    subst e1 e2
    simp only [Nat.zero_add] at hs
    exact hs
  have HD := Lib.hid hd1
  have HT := Lib.hid (hS.take (a + 1))
  clear hc1 hd1
  obtain ⟨d0, _⟩ := hS.pt' (k := 0) (by omega)
  simp only [Nat.zero_add, Nat.zero_mul] at d0
  generalize (N.getD 0 (0, 0)).1 = x0 at d0
  have f1 : (0 : Int) ≤ (a : Int) := by omega
  have f2 : (a : Int) ≤ (b : Int) + 1 := by omega
  have f3 : (b : Int) + 1 ≤ (cap : Int) := by omega
  have f4 : (0 : Int) ≤ (b : Int) := by omega
  have f5 : (b : Int) ≤ (ps.length : Int) := by omega
  have f6 : (ps.length : Int) ≤ (cap : Int) := by omega
  have f7 : (0 : Int) ≤ (a : Int) + 1 := by omega
  have f8 : (a : Int) + 1 ≤ (cap : Int) := by omega
  have f9 : ¬ cap = a := by omega
  have f10 : ¬ cap = b := by omega
  go_region_held3 (fun w' => w'.cell? ⟨g, 0, none⟩ = some (.int .i64 x0)) (first | go_keep | exact ((show Ext w2 w7 by (repeat (first | with_reducible exact Ext.refl _ | with_reducible assumption | ((with_reducible apply Src.ext); with_reducible assumption) | with_reducible refine Ext.alloc ?_ _ | with_reducible refine Ext.drew ?_ | with_reducible refine Ext.drewN ?_ _ | ((with_reducible refine Ext.setCell' ?_ ?_ _); solve | omega | simp | (simp; omega)) | (with_reducible refine Ext.trans ?_ (by with_reducible assumption))))).cell g 0 hgw).trans d0 | exact ((show Ext w2 w8 by (repeat (first | with_reducible exact Ext.refl _ | with_reducible assumption | ((with_reducible apply Src.ext); with_reducible assumption) | with_reducible refine Ext.alloc ?_ _ | with_reducible refine Ext.drew ?_ | with_reducible refine Ext.drewN ?_ _ | ((with_reducible refine Ext.setCell' ?_ ?_ _); solve | omega | simp | (simp; omega)) | (with_reducible refine Ext.trans ?_ (by with_reducible assumption))))).cell g 0 hgw).trans d0) (first | (go_at_call 91; refine (i_CloneN (cut1 N a b) (by rw [cut1_len hab (by omega)]; omega) (HC1.out.ext (by (repeat (first | with_reducible exact Ext.refl _ | with_reducible assumption | ((with_reducible apply Src.ext); with_reducible assumption) | with_reducible refine Ext.alloc ?_ _ | with_reducible refine Ext.drew ?_ | with_reducible refine Ext.drewN ?_ _ | ((with_reducible refine Ext.setCell' ?_ ?_ _); solve | omega | simp | (simp; omega)) | (with_reducible refine Ext.trans ?_ (by with_reducible assumption)))))) (by rw [cut1_len hab (by omega)]; omega)).mono ?_; rintro e w7 ⟨v7, rfl, hO7, hx7⟩) | (go_at_call 92; refine (i_ConcatP' _ _ _ (ps.length - b) (a + 1) _ _ (N.drop b) (N.take (a + 1)) _ (by rw [List.length_drop, hNl]) (by rw [List.length_take, hNl]; omega) (Blk.eq (by (repeat (first | with_reducible assumption | ((with_reducible apply Blk.new); solve | simp | rfl) | with_reducible apply Blk.drew | with_reducible apply Blk.drewN | ((with_reducible apply Blk.far'); solve | omega | simp | (simp; omega)) | with_reducible apply Blk.set_ | with_reducible apply Blk.alloc | ((with_reducible apply Blk.ext'); with_reducible assumption) | ((with_reducible apply Blk.but'); (with_reducible assumption); solve | omega | (simp; omega))))) (by rfl)) (HD.out.ext (by (repeat (first | with_reducible exact Ext.refl _ | with_reducible assumption | ((with_reducible apply Src.ext); with_reducible assumption) | with_reducible refine Ext.alloc ?_ _ | with_reducible refine Ext.drew ?_ | with_reducible refine Ext.drewN ?_ _ | ((with_reducible refine Ext.setCell' ?_ ?_ _); solve | omega | simp | (simp; omega)) | (with_reducible refine Ext.trans ?_ (by with_reducible assumption)))))) (HT.out.ext (by (repeat (first | with_reducible exact Ext.refl _ | with_reducible assumption | ((with_reducible apply Src.ext); with_reducible assumption) | with_reducible refine Ext.alloc ?_ _ | with_reducible refine Ext.drew ?_ | with_reducible refine Ext.drewN ?_ _ | ((with_reducible refine Ext.setCell' ?_ ?_ _); solve | omega | simp | (simp; omega)) | (with_reducible refine Ext.trans ?_ (by with_reducible assumption)))))) (by rw [List.length_drop, List.length_take, hNl]; omega)).mono ?_; rintro e w8 ⟨v8, rfl, hO8, hx8⟩))
  all_goals
    have hO71 := hO7.ext (w' := w8) (by (repeat (first | with_reducible exact Ext.refl _ | with_reducible assumption | ((with_reducible apply Src.ext); with_reducible assumption) | with_reducible refine Ext.alloc ?_ _ | with_reducible refine Ext.drew ?_ | with_reducible refine Ext.drewN ?_ _ | ((with_reducible refine Ext.setCell' ?_ ?_ _); solve | omega | simp | (simp; omega)) | (with_reducible refine Ext.trans ?_ (by with_reducible assumption)))))
    have hX8 : Ext w2 w8 := by (repeat (first | with_reducible exact Ext.refl _ | with_reducible assumption | ((with_reducible apply Src.ext); with_reducible assumption) | with_reducible refine Ext.alloc ?_ _ | with_reducible refine Ext.drew ?_ | with_reducible refine Ext.drewN ?_ _ | ((with_reducible refine Ext.setCell' ?_ ?_ _); solve | omega | simp | (simp; omega)) | (with_reducible refine Ext.trans ?_ (by with_reducible assumption))))
    have hs8 := hX8.size
    have HW8 := Lib.hid hX8
    obtain ⟨g1, k1, cu1, rfl, hg1, hB1, hn1, hm1, _, _⟩ := hO71.open_ (by rw [cut1_len hab (by omega)]; omega)
    obtain ⟨g2, k2, cu2, rfl, hg2, hB2, hn2, hm2, _, _⟩ := hO8.open_ (by show 0 < (cut2 N a b).length; rw [cut2_len hab (by omega)]; omega)
    obtain ⟨_, _, e1, hS1, _⟩ := hO71.sl len_encP
    obtain ⟨_, _, e2, hS2, _⟩ := hO8.sl len_encP
    injection e1 with e1 e3 e4
    injection e2 with e2 e5 e6
    subst e1 e4 e2 e6
    have HS1 := Lib.hid hS1
    have HS2 : Hid (SlAt w8 2 encP (some ⟨g2, 0, none⟩) (cut2 N a b)) := Lib.hid hS2
    have hl1 : (cut1 N a b).length ≤ 1000 := by rw [cut1_len hab (by omega)]; omega
    have hl2 : (cut2 N a b).length ≤ 1000 := by rw [cut2_len hab (by omega)]; omega
    have hgl1 := hB1.lt
    have hgl2 := hB2.lt
    clear hO71 hO8 hO7 hx7 hx8 hB1 hB2 hS1 hS2 e3 e5 hX8
    rw [show (N.drop b ++ N.take (a + 1)).length = (cut2 N a b).length from rfl] at hn2 ⊢
    rcases hmb : mapB [cut1 N a b, cut2 N a b] with _ | _
    · have hsc : saC ps a b = 5 := by
        unfold saC
        rw [if_pos hr, if_pos ⟨by omega, by omega, by omega⟩, if_neg]
        rw [← HN.out]
        unfold cuts
        rw [Int.toNat_natCast, Int.toNat_natCast, hmb]
        simp
      have HSC := Lib.hid hsc
      clear hsc
      go_wp2_with fail
      refine (i_Map2 (cut1 N a b) (cut2 N a b) hmb (Blk.eq (by (repeat (first | with_reducible assumption | ((with_reducible apply Blk.new); solve | simp | rfl) | with_reducible apply Blk.drew | with_reducible apply Blk.drewN | ((with_reducible apply Blk.far'); solve | omega | simp | (simp; omega)) | with_reducible apply Blk.set_ | with_reducible apply Blk.alloc | ((with_reducible apply Blk.ext'); with_reducible assumption) | ((with_reducible apply Blk.but'); (with_reducible assumption); solve | omega | (simp; omega))))) (by rfl)) (HS1.out.ext (by (repeat (first | with_reducible exact Ext.refl _ | with_reducible assumption | ((with_reducible apply Src.ext); with_reducible assumption) | with_reducible refine Ext.alloc ?_ _ | with_reducible refine Ext.drew ?_ | with_reducible refine Ext.drewN ?_ _ | ((with_reducible refine Ext.setCell' ?_ ?_ _); solve | omega | simp | (simp; omega)) | (with_reducible refine Ext.trans ?_ (by with_reducible assumption)))))) (HS2.out.ext (by (repeat (first | with_reducible exact Ext.refl _ | with_reducible assumption | ((with_reducible apply Src.ext); with_reducible assumption) | with_reducible refine Ext.alloc ?_ _ | with_reducible refine Ext.drew ?_ | with_reducible refine Ext.drewN ?_ _ | ((with_reducible refine Ext.setCell' ?_ ?_ _); solve | omega | simp | (simp; omega)) | (with_reducible refine Ext.trans ?_ (by with_reducible assumption)))))) hn1 hn2 (by omega) (by omega)).mono ?_
      rintro e w9 ⟨rfl, hx9⟩
      have hX9 : Ext w8 w9 := by (repeat (first | with_reducible exact Ext.refl _ | with_reducible assumption | ((with_reducible apply Src.ext); with_reducible assumption) | with_reducible refine Ext.alloc ?_ _ | with_reducible refine Ext.drew ?_ | with_reducible refine Ext.drewN ?_ _ | ((with_reducible refine Ext.setCell' ?_ ?_ _); solve | omega | simp | (simp; omega)) | (with_reducible refine Ext.trans ?_ (by with_reducible assumption))))
      go_wp2
      go_ret3
      refine ⟨_, _, w.heap.size, by rw [HSC.out]; rfl, ?_, ?_, ?_, Nat.le_refl _, (hX2.trans HW8.out).trans hX9⟩
      · rw [show sa1 ps a b = [] by unfold sa1; rw [HSC.out]; rfl]; exact Own.nil _ _
      · rw [show sa2 ps a b = [] by unfold sa2; rw [HSC.out]; rfl]; exact Own.nil _ _
      · intro q hq; cases hq
    · have hsc : saC ps a b = 0 := by
        unfold saC
        rw [if_pos hr, if_pos ⟨by omega, by omega, by omega⟩, if_pos]
        rw [← HN.out]
        unfold cuts
        rw [Int.toNat_natCast, Int.toNat_natCast, hmb]
      have hs1 : sa1 ps a b = normS (cut1 N a b) := by unfold sa1; rw [hsc, ← HN.out, Int.toNat_natCast, Int.toNat_natCast]; rfl
      have hs2 : sa2 ps a b = normS (cut2 N a b) := by unfold sa2; rw [hsc, ← HN.out, Int.toNat_natCast, Int.toNat_natCast]; rfl
      have HSC := Lib.hid hsc
      have HS1' := Lib.hid hs1
      have HS2' := Lib.hid hs2
      have HCR := Lib.hid (cuts_rings hmb)
      clear hsc hs1 hs2
      go_wp2_with fail
      refine (i_Map2 (cut1 N a b) (cut2 N a b) hmb (Blk.eq (by (repeat (first | with_reducible assumption | ((with_reducible apply Blk.new); solve | simp | rfl) | with_reducible apply Blk.drew | with_reducible apply Blk.drewN | ((with_reducible apply Blk.far'); solve | omega | simp | (simp; omega)) | with_reducible apply Blk.set_ | with_reducible apply Blk.alloc | ((with_reducible apply Blk.ext'); with_reducible assumption) | ((with_reducible apply Blk.but'); (with_reducible assumption); solve | omega | (simp; omega))))) (by rfl)) (HS1.out.ext (by (repeat (first | with_reducible exact Ext.refl _ | with_reducible assumption | ((with_reducible apply Src.ext); with_reducible assumption) | with_reducible refine Ext.alloc ?_ _ | with_reducible refine Ext.drew ?_ | with_reducible refine Ext.drewN ?_ _ | ((with_reducible refine Ext.setCell' ?_ ?_ _); solve | omega | simp | (simp; omega)) | (with_reducible refine Ext.trans ?_ (by with_reducible assumption)))))) (HS2.out.ext (by (repeat (first | with_reducible exact Ext.refl _ | with_reducible assumption | ((with_reducible apply Src.ext); with_reducible assumption) | with_reducible refine Ext.alloc ?_ _ | with_reducible refine Ext.drew ?_ | with_reducible refine Ext.drewN ?_ _ | ((with_reducible refine Ext.setCell' ?_ ?_ _); solve | omega | simp | (simp; omega)) | (with_reducible refine Ext.trans ?_ (by with_reducible assumption)))))) hn1 hn2 (by omega) (by omega)).mono ?_
      rintro e w9 ⟨rfl, hx9⟩
      have hX9 : Ext w8 w9 := by (repeat (first | with_reducible exact Ext.refl _ | with_reducible assumption | ((with_reducible apply Src.ext); with_reducible assumption) | with_reducible refine Ext.alloc ?_ _ | with_reducible refine Ext.drew ?_ | with_reducible refine Ext.drewN ?_ _ | ((with_reducible refine Ext.setCell' ?_ ?_ _); solve | omega | simp | (simp; omega)) | (with_reducible refine Ext.trans ?_ (by with_reducible assumption))))
      have HX9 := Lib.hid hX9
      clear hmb
      go_wp2_with fail
      refine (i_normalR (cut1 N a b) (HS1.out.ext hX9) HCR.out.1).mono ?_
      rintro e w10 ⟨v10, rfl, hO10, hx10⟩
      go_wp2_with fail
      refine (i_normalR (cut2 N a b) (HS2.out.ext (HX9.out.trans hx10)) HCR.out.2).mono ?_
      rintro e w11 ⟨v11, rfl, hO11, hx11⟩
      go_wp2
      go_ret3
      have hsz := (hX2.trans HW8.out).trans HX9.out
      refine ⟨v10, v11, w10.heap.size, by rw [HSC.out]; rfl, ?_, ?_, ?_, ?_, (hsz.trans hx10).trans hx11⟩
      · rw [HS1'.out]; exact (hO10.ext hx11).less hsz.size
      · rw [HS2'.out]; exact hO11
      · intro q hq; exact (hO10.row q hq).2
      · exact (hsz.trans hx10).size

end Go.Proofs.Yteppjdoggjcdoaa
namespace Go.Proofs.Yteppjdoggjcdoaa
open Go.RowKit
attribute [local go_sem] ExtOf.cell ExtOf.frozen

set_option maxHeartbeats 3200000 in
theorem i_Split_no (A : Option Addr) (c : Nat) (ps : List (Int × Int)) (a b : Int) (w : World) (h : SlAt w 2 encP A ps) (hl : ps.length ≤ 1048576) (hc : ps.length ≤ c) (hr : ringB ps = false) :
    Calls Try.prog 35 #[.slice A ps.length c, .int .i64 a, .int .i64 b] w fun e w' => ∃ v1 v2 m, e = .returned (.tuple #[v1, v2, .int .i64 (saC ps a b)]) ∧ OwP w' w.heap.size v1 (sa1 ps a b) ∧ OwP w' m v2 (sa2 ps a b) ∧ (∀ q, v1.ownBlock = some q → q < m) ∧ w.heap.size ≤ m ∧ Ext w w' := by
    have hrb : ∀ W, SlAt W 2 encP A ps → Calls Try.prog 57 #[.slice A ps.length c] W fun e w' => e = .returned (.bool false) ∧ Ext W w' := fun W h => as_bool (i_IsRing _ _ ps _ h hl hc) hr
    have HRB := Lib.hid hrb
    have hsc : saC ps a b = 1 := by unfold saC; rw [hr]; rfl
    have HSC := Lib.hid hsc
    clear hrb hsc
    go_enter Try.func35, Try.ntmps35
    (go_wp2_with fail; refine (HRB.out _ h).mono ?_; rintro e w1 ⟨rfl, hx1⟩; obtain ⟨hc1, hf1⟩ := hx1.rules; have hs1 := hx1.size; (try simp at hs1))
    go_wp2
    go_ret3
    refine ⟨_, _, w.heap.size, by rw [HSC.out]; rfl, ?_, ?_, ?_, Nat.le_refl _, by (repeat (first | with_reducible exact Ext.refl _ | with_reducible assumption | ((with_reducible apply Src.ext); with_reducible assumption) | with_reducible refine Ext.alloc ?_ _ | with_reducible refine Ext.drew ?_ | with_reducible refine Ext.drewN ?_ _ | ((with_reducible refine Ext.setCell' ?_ ?_ _); solve | omega | simp | (simp; omega)) | (with_reducible refine Ext.trans ?_ (by with_reducible assumption))))⟩
    · rw [show sa1 ps a b = [] by unfold sa1; rw [HSC.out]; rfl]; exact Own.nil _ _
    · rw [show sa2 ps a b = [] by unfold sa2; rw [HSC.out]; rfl]; exact Own.nil _ _
    · intro q hq; cases hq

set_option maxHeartbeats 3200000 in
theorem i_Split_range (A : Option Addr) (c : Nat) (ps : List (Int × Int)) (a b : Int) (w : World) (h : SlAt w 2 encP A ps) (hl : ps.length ≤ 1048576) (hc : ps.length ≤ c) (hr : ringB ps = true) (hi : ¬ inR ps.length a b) :
    Calls Try.prog 35 #[.slice A ps.length c, .int .i64 a, .int .i64 b] w fun e w' => ∃ v1 v2 m, e = .returned (.tuple #[v1, v2, .int .i64 (saC ps a b)]) ∧ OwP w' w.heap.size v1 (sa1 ps a b) ∧ OwP w' m v2 (sa2 ps a b) ∧ (∀ q, v1.ownBlock = some q → q < m) ∧ w.heap.size ≤ m ∧ Ext w w' := by
    have hrb : ∀ W, SlAt W 2 encP A ps → Calls Try.prog 57 #[.slice A ps.length c] W fun e w' => e = .returned (.bool true) ∧ Ext W w' := fun W h => as_bool (i_IsRing _ _ ps _ h hl hc) hr
    have HRB := Lib.hid hrb
    have hsc : saC ps a b = 2 := by unfold saC; rw [if_pos hr, if_neg hi]
    have HSC := Lib.hid hsc
    unfold inR at hi
    have h12 := (ring_facts hr).2.1
    clear hrb hsc

    by_cases hb : inB b 0 ((ps.length : Int) - 1) = true
    · have ha : inB a 0 (b - 1) = false := by simp [inB] at hb ⊢; omega
      have hb0 : 0 ≤ b ∧ b ≤ 12 := by simp [inB] at hb; omega
      go_enter Try.func35, Try.ntmps35
      (go_wp2_with fail; refine (HRB.out _ h).mono ?_; rintro e w1 ⟨rfl, hx1⟩; obtain ⟨hc1, hf1⟩ := hx1.rules; have hs1 := hx1.size; (try simp at hs1))
      go_wp2_with (first | (go_at_call 90; refine (i_length _ _ _ _ (by omega)).mono ?_; rintro e w' ⟨rfl, rfl⟩) | (go_at_call 89; refine (within_any _ _ _ _).mono ?_; rintro e w' ⟨rfl, rfl⟩; first | rw [hb] | rw [ha]))
      go_wp2
      go_ret3
      refine ⟨_, _, w.heap.size, by rw [HSC.out]; rfl, ?_, ?_, ?_, Nat.le_refl _, by (repeat (first | with_reducible exact Ext.refl _ | with_reducible assumption | ((with_reducible apply Src.ext); with_reducible assumption) | with_reducible refine Ext.alloc ?_ _ | with_reducible refine Ext.drew ?_ | with_reducible refine Ext.drewN ?_ _ | ((with_reducible refine Ext.setCell' ?_ ?_ _); solve | omega | simp | (simp; omega)) | (with_reducible refine Ext.trans ?_ (by with_reducible assumption))))⟩
      · rw [show sa1 ps a b = [] by unfold sa1; rw [HSC.out]; rfl]; exact Own.nil _ _
      · rw [show sa2 ps a b = [] by unfold sa2; rw [HSC.out]; rfl]; exact Own.nil _ _
      · intro q hq; cases hq
    · have hb' : inB b 0 ((ps.length : Int) - 1) = false := Bool.eq_false_iff.2 hb
      clear hb
      go_enter Try.func35, Try.ntmps35
      (go_wp2_with fail; refine (HRB.out _ h).mono ?_; rintro e w1 ⟨rfl, hx1⟩; obtain ⟨hc1, hf1⟩ := hx1.rules; have hs1 := hx1.size; (try simp at hs1))
      go_wp2_with (first | (go_at_call 90; refine (i_length _ _ _ _ (by omega)).mono ?_; rintro e w' ⟨rfl, rfl⟩) | (go_at_call 89; refine (within_any _ _ _ _).mono ?_; rintro e w' ⟨rfl, rfl⟩; rw [hb']))
      go_wp2
      go_ret3
      refine ⟨_, _, w.heap.size, by rw [HSC.out]; rfl, ?_, ?_, ?_, Nat.le_refl _, by (repeat (first | with_reducible exact Ext.refl _ | with_reducible assumption | ((with_reducible apply Src.ext); with_reducible assumption) | with_reducible refine Ext.alloc ?_ _ | with_reducible refine Ext.drew ?_ | with_reducible refine Ext.drewN ?_ _ | ((with_reducible refine Ext.setCell' ?_ ?_ _); solve | omega | simp | (simp; omega)) | (with_reducible refine Ext.trans ?_ (by with_reducible assumption))))⟩
      · rw [show sa1 ps a b = [] by unfold sa1; rw [HSC.out]; rfl]; exact Own.nil _ _
      · rw [show sa2 ps a b = [] by unfold sa2; rw [HSC.out]; rfl]; exact Own.nil _ _
      · intro q hq; cases hq

set_option maxHeartbeats 3200000 in
theorem s_Split_no (A : Option Addr) (c : Nat) (ps : List (Int × Int)) (a b : Int) (w : World) (h : SlAt w 2 encP A ps) (hl : ps.length ≤ 1048576) (hr : ringB ps = false) :
    Calls Try.prog 36 #[.slice A ps.length c, .int .i64 a, .int .i64 b] w fun e w' => ∃ v1 v2 m, e = .returned (.tuple #[v1, v2, .int .i64 (saC ps a b)]) ∧ OwP w' w.heap.size v1 (sa1 ps a b) ∧ OwP w' m v2 (sa2 ps a b) ∧ (∀ q, v1.ownBlock = some q → q < m) ∧ w.heap.size ≤ m ∧ Ext w w' := by
    have hrb : ∀ W, SlAt W 2 encP A ps → Calls Try.prog 59 #[.slice A ps.length c] W fun e w' => e = .returned (.bool false) ∧ Ext W w' := fun W h => as_bool (s_IsRing _ _ ps _ h hl) hr
    have HRB := Lib.hid hrb
    have hsc : saC ps a b = 1 := by unfold saC; rw [hr]; rfl
    have HSC := Lib.hid hsc
    clear hrb hsc
    go_enter Try.func36, Try.ntmps36
    (go_wp2_with fail; refine (HRB.out _ h).mono ?_; rintro e w1 ⟨rfl, hx1⟩; obtain ⟨hc1, hf1⟩ := hx1.rules; have hs1 := hx1.size; (try simp at hs1))
    go_wp2
    go_ret3
    refine ⟨_, _, w.heap.size, by rw [HSC.out]; rfl, ?_, ?_, ?_, Nat.le_refl _, by (repeat (first | with_reducible exact Ext.refl _ | with_reducible assumption | ((with_reducible apply Src.ext); with_reducible assumption) | with_reducible refine Ext.alloc ?_ _ | with_reducible refine Ext.drew ?_ | with_reducible refine Ext.drewN ?_ _ | ((with_reducible refine Ext.setCell' ?_ ?_ _); solve | omega | simp | (simp; omega)) | (with_reducible refine Ext.trans ?_ (by with_reducible assumption))))⟩
    · rw [show sa1 ps a b = [] by unfold sa1; rw [HSC.out]; rfl]; exact Own.nil _ _
    · rw [show sa2 ps a b = [] by unfold sa2; rw [HSC.out]; rfl]; exact Own.nil _ _
    · intro q hq; cases hq

set_option maxHeartbeats 3200000 in
theorem s_Split_range (A : Option Addr) (c : Nat) (ps : List (Int × Int)) (a b : Int) (w : World) (h : SlAt w 2 encP A ps) (hl : ps.length ≤ 1048576) (hr : ringB ps = true) (hi : ¬ inR ps.length a b) :
    Calls Try.prog 36 #[.slice A ps.length c, .int .i64 a, .int .i64 b] w fun e w' => ∃ v1 v2 m, e = .returned (.tuple #[v1, v2, .int .i64 (saC ps a b)]) ∧ OwP w' w.heap.size v1 (sa1 ps a b) ∧ OwP w' m v2 (sa2 ps a b) ∧ (∀ q, v1.ownBlock = some q → q < m) ∧ w.heap.size ≤ m ∧ Ext w w' := by
    have hrb : ∀ W, SlAt W 2 encP A ps → Calls Try.prog 59 #[.slice A ps.length c] W fun e w' => e = .returned (.bool true) ∧ Ext W w' := fun W h => as_bool (s_IsRing _ _ ps _ h hl) hr
    have HRB := Lib.hid hrb
    have hsc : saC ps a b = 2 := by unfold saC; rw [if_pos hr, if_neg hi]
    have HSC := Lib.hid hsc
    unfold inR at hi
    have h12 := (ring_facts hr).2.1
    clear hrb hsc

    rcases (show a < 0 ∨ (0 ≤ a ∧ b ≤ a) ∨ (0 ≤ a ∧ a < b ∧ (ps.length : Int) ≤ b) by omega) with h1 | h1 | h1
    all_goals
      go_enter Try.func36, Try.ntmps36
      (go_wp2_with fail; refine (HRB.out _ h).mono ?_; rintro e w1 ⟨rfl, hx1⟩; obtain ⟨hc1, hf1⟩ := hx1.rules; have hs1 := hx1.size; (try simp at hs1))
      go_wp2
      go_ret3
      refine ⟨_, _, w.heap.size, by rw [HSC.out]; rfl, ?_, ?_, ?_, Nat.le_refl _, by (repeat (first | with_reducible exact Ext.refl _ | with_reducible assumption | ((with_reducible apply Src.ext); with_reducible assumption) | with_reducible refine Ext.alloc ?_ _ | with_reducible refine Ext.drew ?_ | with_reducible refine Ext.drewN ?_ _ | ((with_reducible refine Ext.setCell' ?_ ?_ _); solve | omega | simp | (simp; omega)) | (with_reducible refine Ext.trans ?_ (by with_reducible assumption))))⟩
      · rw [show sa1 ps a b = [] by unfold sa1; rw [HSC.out]; rfl]; exact Own.nil _ _
      · rw [show sa2 ps a b = [] by unfold sa2; rw [HSC.out]; rfl]; exact Own.nil _ _
      · intro q hq; cases hq

theorem i_SplitArea (A : Option Addr) (c : Nat) (ps : List (Int × Int)) (a b : Int) (w : World) (h : SlAt w 2 encP A ps) (hl : ps.length ≤ 1048576) (hc : ps.length ≤ c) :
    Calls Try.prog 35 #[.slice A ps.length c, .int .i64 a, .int .i64 b] w fun e w' => ∃ v1 v2 m, e = .returned (.tuple #[v1, v2, .int .i64 (saC ps a b)]) ∧ OwP w' w.heap.size v1 (sa1 ps a b) ∧ OwP w' m v2 (sa2 ps a b) ∧ (∀ q, v1.ownBlock = some q → q < m) ∧ w.heap.size ≤ m ∧ Ext w w' := by
  by_cases hr : ringB ps = true
  · by_cases hi : inR ps.length a b
    · obtain ⟨h1, h2, h3⟩ := hi
      obtain ⟨x, rfl⟩ : ∃ n : Nat, a = n := ⟨a.toNat, by omega⟩
      obtain ⟨y, rfl⟩ : ∃ n : Nat, b = n := ⟨b.toNat, by omega⟩
      exact i_Split_go A c ps x y w h hl hc hr (by omega) (by omega)
    · exact i_Split_range A c ps a b w h hl hc hr hi
  · exact i_Split_no A c ps a b w h hl hc (Bool.eq_false_iff.2 hr)

end Go.Proofs.Yteppjdoggjcdoaa
namespace Go.Proofs.Yteppjdoggjcdoaa
open Go.RowKit
attribute [local go_sem] ExtOf.cell ExtOf.frozen

theorem eval_len {v : Value} {A : Option Addr} {n c : Nat} {xs : List (Int × Int)} (hv : v = .slice A n c) (e : xs.length = n) : v = .slice A xs.length c := by rw [hv, e]
theorem own_new {g n q : Nat} (hq : (Value.slice (some ⟨g, 0, none⟩) n n).ownBlock = some q) : g ≤ q := by
  cases hq; exact Nat.le_refl _
set_option maxRecDepth 20000 in
set_option maxHeartbeats 12800000 in
theorem s_Split_go (A : Option Addr) (c : Nat) (ps : List (Int × Int)) (a b : Nat) (w : World) (h : SlAt w 2 encP A ps) (hl : ps.length ≤ 1048576) (hr : ringB ps = true) (hab : a < b) (hb : b < ps.length) :
    Calls Try.prog 36 #[.slice A ps.length c, .int .i64 a, .int .i64 b] w fun e w' => ∃ v1 v2 m, e = .returned (.tuple #[v1, v2, .int .i64 (saC ps a b)]) ∧ OwP w' w.heap.size v1 (sa1 ps a b) ∧ OwP w' m v2 (sa2 ps a b) ∧ (∀ q, v1.ownBlock = some q → q < m) ∧ w.heap.size ≤ m ∧ Ext w w' := by
  have hrb : ∀ W, SlAt W 2 encP A ps → Calls Try.prog 59 #[.slice A ps.length c] W fun e w' => e = .returned (.bool true) ∧ Ext W w' := fun W h => as_bool (s_IsRing _ _ ps _ h hl) hr
  have HRB := Lib.hid hrb
  obtain ⟨h0, hl12, ho⟩ := ring_facts hr
  have HRR := Lib.hid hr
  have HO := Lib.hid ho
  obtain ⟨N, hN⟩ : ∃ N, N = normS ps := ⟨_, rfl⟩
  have hNl : N.length = ps.length := by rw [hN, normS_len]
  have HN := Lib.hid hN
  have g1 : ¬ (a : Int) < 0 := by omega
  have g2 : ¬ (b : Int) ≤ (a : Int) := by omega
  have g3 : ¬ (ps.length : Int) ≤ (b : Int) := by omega
  clear hrb ho hN
  go_enter Try.func36, Try.ntmps36
  (go_wp2_with fail; refine (HRB.out _ h).mono ?_; rintro e w1 ⟨rfl, hx1⟩; obtain ⟨hc1, hf1⟩ := hx1.rules; have hs1 := hx1.size; (try simp at hs1))
  go_wp2_with fail
  refine (s_normalR ps (h.ext (by (repeat (first | with_reducible exact Ext.refl _ | with_reducible assumption | ((with_reducible apply Src.ext); with_reducible assumption) | with_reducible refine Ext.alloc ?_ _ | with_reducible refine Ext.drew ?_ | with_reducible refine Ext.drewN ?_ _ | ((with_reducible refine Ext.setCell' ?_ ?_ _); solve | omega | simp | (simp; omega)) | (with_reducible refine Ext.trans ?_ (by with_reducible assumption)))))) HRR.out).mono ?_
  rintro e w2 ⟨v2, rfl, hO2, hx2⟩
  rw [← HN.out] at hO2
  obtain ⟨g, cap, cur, rfl, hg, hB, hn, hm, hs, ht⟩ := hO2.open_ (by omega)
  obtain ⟨A', c', e', hS, _⟩ := hO2.sl len_encP
  injection e' with ea eb ec
  subst ea ec
  clear hs ht hO2 eb
  rw [hNl] at hn ⊢
  have hgw : g < w2.heap.size := hB.lt
  have hX2 : Ext w w2 := by (repeat (first | with_reducible exact Ext.refl _ | with_reducible assumption | ((with_reducible apply Src.ext); with_reducible assumption) | with_reducible refine Ext.alloc ?_ _ | with_reducible refine Ext.drew ?_ | with_reducible refine Ext.drewN ?_ _ | ((with_reducible refine Ext.setCell' ?_ ?_ _); solve | omega | simp | (simp; omega)) | (with_reducible refine Ext.trans ?_ (by with_reducible assumption))))
  have hwa : IntKind.i64.wrap ((a : Int) + 1) = (a : Int) + 1 := IntWalk.i64_in _ (by omega)
  have hwb : IntKind.i64.wrap ((b : Int) + 1) = (b : Int) + 1 := IntWalk.i64_in _ (by omega)
  have hc1 : SlAt w2 2 encP (some ⟨g, a * 2, none⟩) (cut1 N a b) := by
    obtain ⟨b', off, e, _, hs⟩ := hS.drop a (by omega)
    injection e with e
    injection e with e1 e2
    subst e1 e2
    simp only [Nat.zero_add] at hs
    exact hs.take _
  have HC1 := Lib.hid hc1
  have hd1 : SlAt w2 2 encP (some ⟨g, b * 2, none⟩) (N.drop b) := by
    obtain ⟨b', off, e, _, hs⟩ := hS.drop b (by omega)
    injection e with e
    injection e with e1 e2
    subst e1 e2
    simp only [Nat.zero_add] at hs
    exact hs
  have HD := Lib.hid hd1
  have HT := Lib.hid (hS.take (a + 1))
  clear hc1 hd1
  obtain ⟨d0, _⟩ := hS.pt' (k := 0) (by omega)
  simp only [Nat.zero_add, Nat.zero_mul] at d0
  generalize (N.getD 0 (0, 0)).1 = x0 at d0
  have f1 : (0 : Int) ≤ (a : Int) := by omega
  have f2 : (a : Int) ≤ (b : Int) + 1 := by omega
  have f3 : (b : Int) + 1 ≤ (cap : Int) := by omega
  have f4 : (0 : Int) ≤ (b : Int) := by omega
  have f5 : (b : Int) ≤ (ps.length : Int) := by omega
  have f6 : (ps.length : Int) ≤ (cap : Int) := by omega
  have f7 : (0 : Int) ≤ (a : Int) + 1 := by omega
  have f8 : (a : Int) + 1 ≤ (cap : Int) := by omega
  have f9 : ¬ cap = a := by omega
  have f10 : ¬ cap = b := by omega
  have HL1 : Hid ((cut1 N a b).length = b + 1 - a) := Lib.hid (by rw [cut1_len hab (by omega)]; omega)
  have HL2 : Hid ((N.drop b).length = ps.length - b) := Lib.hid (by rw [List.length_drop, hNl])
  have HL3 : Hid ((N.take (a + 1)).length = a + 1) := Lib.hid (by rw [List.length_take, hNl]; omega)
  have hK1 : (cut1 N a b).length ≤ 1000 := by rw [HL1.out]; omega
  have hK2 : (N.drop b).length ≤ 1000 := by rw [HL2.out]; omega
  have hK3 : (N.take (a + 1)).length ≤ 1000 := by rw [HL3.out]; omega
  have HM : Hid (maxLen ≥ 1000000) := Lib.hid (by unfold maxLen; omega)
  have HO0 : Hid (OwP (w2.alloc (.cells #[] 33)) w2.heap.size (.slice (some ⟨w2.heap.size, 0, none⟩) 0 0) []) := Lib.hid (World.ownsRow_made (base := w2.heap.size) (e := 33) (size := 2) w2 #[] 0 (Nat.le_refl _) (Nat.zero_le _) rfl)
  go_wp2_with (at_builtin; refine wpList_append_sl elP len_encP one_encP rfl _ _ rfl rfl HO0.out (xs := cut1 N a b) (eval_len rfl HL1.out) (HC1.out.ext (by (repeat (first | with_reducible exact Ext.refl _ | with_reducible assumption | ((with_reducible apply Src.ext); with_reducible assumption) | with_reducible refine Ext.alloc ?_ _ | with_reducible refine Ext.drew ?_ | with_reducible refine Ext.drewN ?_ _ | ((with_reducible refine Ext.setCell' ?_ ?_ _); solve | omega | simp | (simp; omega)) | (with_reducible refine Ext.trans ?_ (by with_reducible assumption)))))) (by have := HM.out; simp only [List.length_nil]; omega) (by simp only [List.length_nil]; omega) (by simp) ?_)
  intro v3 w3 hO3 hg3 _
  have hx3 : Ext w2 w3 := by
    refine Ext.grown ?_ hg3 (fun q hq => ?_)
    · (repeat (first | with_reducible exact Ext.refl _ | with_reducible assumption | ((with_reducible apply Src.ext); with_reducible assumption) | with_reducible refine Ext.alloc ?_ _ | with_reducible refine Ext.drew ?_ | with_reducible refine Ext.drewN ?_ _ | ((with_reducible refine Ext.setCell' ?_ ?_ _); solve | omega | simp | (simp; omega)) | (with_reducible refine Ext.trans ?_ (by with_reducible assumption))))
    · simp [Value.ownBlock] at hq; omega
  clear hg3
  have hs3 := hx3.size
  have hX3 : Ext w w3 := hX2.trans hx3
  have hgw3 : g < w3.heap.size := by omega
  have d3 : w3.cell? ⟨g, 0, none⟩ = some (.int .i64 x0) := (hx3.cell g 0 hgw).trans d0
  have HX3 := Lib.hid hX3
  have HO3 := Lib.hid hO3
  have HO4 : Hid (OwP (w3.alloc (.cells #[] 33)) w3.heap.size (.slice (some ⟨w3.heap.size, 0, none⟩) 0 0) []) := Lib.hid (World.ownsRow_made (base := w3.heap.size) (e := 33) (size := 2) w3 #[] 0 (Nat.le_refl _) (Nat.zero_le _) rfl)
  clear hO3 hX3 HO0
  go_wp2
  go_region_held3 (fun w' => w'.cell? ⟨g, 0, none⟩ = some (.int .i64 x0)) (first | go_keep | exact (hx5.cell g 0 hgw3).trans d3 | exact (hx6.cell g 0 hgw3).trans d3) (first | (refine step_append_sl elP len_encP one_encP rfl _ _ rfl rfl (HO4.out.ext (by (repeat (first | with_reducible exact Ext.refl _ | with_reducible assumption | ((with_reducible apply Src.ext); with_reducible assumption) | with_reducible refine Ext.alloc ?_ _ | with_reducible refine Ext.drew ?_ | with_reducible refine Ext.drewN ?_ _ | ((with_reducible refine Ext.setCell' ?_ ?_ _); solve | omega | simp | (simp; omega)) | (with_reducible refine Ext.trans ?_ (by with_reducible assumption)))))) (xs := N.drop b) (eval_len rfl HL2.out) (HD.out.ext (by (repeat (first | with_reducible exact Ext.refl _ | with_reducible assumption | ((with_reducible apply Src.ext); with_reducible assumption) | with_reducible refine Ext.alloc ?_ _ | with_reducible refine Ext.drew ?_ | with_reducible refine Ext.drewN ?_ _ | ((with_reducible refine Ext.setCell' ?_ ?_ _); solve | omega | simp | (simp; omega)) | (with_reducible refine Ext.trans ?_ (by with_reducible assumption)))))) (by have := HM.out; simp only [List.length_nil]; omega) (by simp only [List.length_nil]; omega) (by simp) ?_; intro v5 w5 hO5 hg5 _; have hx5 : Ext w3 w5 := Ext.grown (by (repeat (first | with_reducible exact Ext.refl _ | with_reducible assumption | ((with_reducible apply Src.ext); with_reducible assumption) | with_reducible refine Ext.alloc ?_ _ | with_reducible refine Ext.drew ?_ | with_reducible refine Ext.drewN ?_ _ | ((with_reducible refine Ext.setCell' ?_ ?_ _); solve | omega | simp | (simp; omega)) | (with_reducible refine Ext.trans ?_ (by with_reducible assumption))))) hg5 (fun q hq => own_new hq)) | (refine step_append_sl elP len_encP one_encP rfl _ _ rfl rfl hO5 (xs := N.take (a + 1)) (eval_len rfl HL3.out) (HT.out.ext (hx3.trans hx5)) (by have := HM.out; simp only [List.length_append, List.length_nil]; omega) (by simp only [List.length_append, List.length_nil]; omega) (by have := hx5.size; exact this) ?_; intro v6 w6 hO6 hg6 _; have hx6 : Ext w3 w6 := Ext.grown hx5 hg6 (fun q hq => (hO5.row q hq).1)))
  all_goals
    have hO31 := HO3.out.ext hx6
    have hO61 : OwP w6 w3.heap.size v6 (cut2 N a b) := hO6
    have HX6 := Lib.hid hx6
    have hs6 := hx6.size
    obtain ⟨g1, k1, cu1, rfl, hg1, hB1, hn1, hm1, _, _⟩ := hO31.open_ (by rw [HL1.out]; omega)
    obtain ⟨g2, k2, cu2, rfl, hg2, hB2, hn2, hm2, _, _⟩ := hO61.open_ (by rw [cut2_len hab (by omega)]; omega)
    obtain ⟨_, _, e1, hS1, _⟩ := hO31.sl len_encP
    obtain ⟨_, _, e2, hS2, _⟩ := hO61.sl len_encP
    injection e1 with e1 e3 e4
    injection e2 with e2 e5 e6
    subst e1 e4 e2 e6
    have HS1 := Lib.hid hS1
    have HS2 := Lib.hid hS2
    have hl2 : (cut2 N a b).length ≤ 1000 := by rw [cut2_len hab (by omega)]; omega
    have hgl1 := hB1.lt
    have hgl2 := hB2.lt
    clear hO31 hO61 hO5 hO6 hg5 hg6 hx5 hx6 hB1 hB2 hS1 hS2 e3 e5
    rcases hmb : mapB [cut1 N a b, cut2 N a b] with _ | _
    · have hsc : saC ps a b = 5 := by
        unfold saC
        rw [if_pos HRR.out, if_pos ⟨by omega, by omega, by omega⟩, if_neg]
        rw [← HN.out]
        unfold cuts
        rw [Int.toNat_natCast, Int.toNat_natCast, hmb]
        simp
      have HSC := Lib.hid hsc
      clear hsc
      go_wp2_with fail
      refine (s_Map2 (cut1 N a b) (cut2 N a b) hmb (Blk.eq (by (repeat (first | with_reducible assumption | ((with_reducible apply Blk.new); solve | simp | rfl) | with_reducible apply Blk.drew | with_reducible apply Blk.drewN | ((with_reducible apply Blk.far'); solve | omega | simp | (simp; omega)) | with_reducible apply Blk.set_ | with_reducible apply Blk.alloc | ((with_reducible apply Blk.ext'); with_reducible assumption) | ((with_reducible apply Blk.but'); (with_reducible assumption); solve | omega | (simp; omega))))) (by rfl)) (HS1.out.ext (by (repeat (first | with_reducible exact Ext.refl _ | with_reducible assumption | ((with_reducible apply Src.ext); with_reducible assumption) | with_reducible refine Ext.alloc ?_ _ | with_reducible refine Ext.drew ?_ | with_reducible refine Ext.drewN ?_ _ | ((with_reducible refine Ext.setCell' ?_ ?_ _); solve | omega | simp | (simp; omega)) | (with_reducible refine Ext.trans ?_ (by with_reducible assumption)))))) (HS2.out.ext (by (repeat (first | with_reducible exact Ext.refl _ | with_reducible assumption | ((with_reducible apply Src.ext); with_reducible assumption) | with_reducible refine Ext.alloc ?_ _ | with_reducible refine Ext.drew ?_ | with_reducible refine Ext.drewN ?_ _ | ((with_reducible refine Ext.setCell' ?_ ?_ _); solve | omega | simp | (simp; omega)) | (with_reducible refine Ext.trans ?_ (by with_reducible assumption)))))) hn1 hn2 (by omega) (by omega)).mono ?_
      rintro e w9 ⟨rfl, hx9⟩
      have hX9 : Ext w6 w9 := by (repeat (first | with_reducible exact Ext.refl _ | with_reducible assumption | ((with_reducible apply Src.ext); with_reducible assumption) | with_reducible refine Ext.alloc ?_ _ | with_reducible refine Ext.drew ?_ | with_reducible refine Ext.drewN ?_ _ | ((with_reducible refine Ext.setCell' ?_ ?_ _); solve | omega | simp | (simp; omega)) | (with_reducible refine Ext.trans ?_ (by with_reducible assumption))))
      go_wp2
      go_ret3
      refine ⟨_, _, w.heap.size, by rw [HSC.out]; rfl, ?_, ?_, ?_, Nat.le_refl _, (HX3.out.trans HX6.out).trans hX9⟩
      · rw [show sa1 ps a b = [] by unfold sa1; rw [HSC.out]; rfl]; exact Own.nil _ _
      · rw [show sa2 ps a b = [] by unfold sa2; rw [HSC.out]; rfl]; exact Own.nil _ _
      · intro q hq; cases hq
    · have hsc : saC ps a b = 0 := by
        unfold saC
        rw [if_pos HRR.out, if_pos ⟨by omega, by omega, by omega⟩, if_pos]
        rw [← HN.out]
        unfold cuts
        rw [Int.toNat_natCast, Int.toNat_natCast, hmb]
      have hs1' : sa1 ps a b = normS (cut1 N a b) := by unfold sa1; rw [hsc, ← HN.out, Int.toNat_natCast, Int.toNat_natCast]; rfl
      have hs2' : sa2 ps a b = normS (cut2 N a b) := by unfold sa2; rw [hsc, ← HN.out, Int.toNat_natCast, Int.toNat_natCast]; rfl
      have HSC := Lib.hid hsc
      have HS1' := Lib.hid hs1'
      have HS2' := Lib.hid hs2'
      have HCR := Lib.hid (cuts_rings hmb)
      have hsum := cut_abs (ps := ps) hab hb (by rw [← HN.out]; exact mapB_iff.1 hmb)
      rw [← HN.out] at hsum
      obtain ⟨c10, c1l, c1o⟩ := ring_facts HCR.out.1
      obtain ⟨c20, c2l, c2o⟩ := ring_facts HCR.out.2
      have hb1 := areaA_bd HCR.out.1
      have hb2 := areaA_bd HCR.out.2
      have hb3 := areaA_bd HRR.out
      have HC1O := Lib.hid c1o
      have HC2O := Lib.hid c2o
      have e1 : areaA (cut1 N a b) = ((areaZ (cut1 N a b)).natAbs : Int) := rfl
      have e2 : areaA (cut2 N a b) = ((areaZ (cut2 N a b)).natAbs : Int) := rfl
      have e3 : areaA ps = ((areaZ ps).natAbs : Int) := rfl
      rw [e1] at hb1 hsum
      rw [e2] at hb2 hsum
      rw [e3] at hb3 hsum
      clear hsc hs1' hs2' c1o c2o e1 e2 e3
      go_wp2_with fail
      refine (s_Map2 (cut1 N a b) (cut2 N a b) hmb (Blk.eq (by (repeat (first | with_reducible assumption | ((with_reducible apply Blk.new); solve | simp | rfl) | with_reducible apply Blk.drew | with_reducible apply Blk.drewN | ((with_reducible apply Blk.far'); solve | omega | simp | (simp; omega)) | with_reducible apply Blk.set_ | with_reducible apply Blk.alloc | ((with_reducible apply Blk.ext'); with_reducible assumption) | ((with_reducible apply Blk.but'); (with_reducible assumption); solve | omega | (simp; omega))))) (by rfl)) (HS1.out.ext (by (repeat (first | with_reducible exact Ext.refl _ | with_reducible assumption | ((with_reducible apply Src.ext); with_reducible assumption) | with_reducible refine Ext.alloc ?_ _ | with_reducible refine Ext.drew ?_ | with_reducible refine Ext.drewN ?_ _ | ((with_reducible refine Ext.setCell' ?_ ?_ _); solve | omega | simp | (simp; omega)) | (with_reducible refine Ext.trans ?_ (by with_reducible assumption)))))) (HS2.out.ext (by (repeat (first | with_reducible exact Ext.refl _ | with_reducible assumption | ((with_reducible apply Src.ext); with_reducible assumption) | with_reducible refine Ext.alloc ?_ _ | with_reducible refine Ext.drew ?_ | with_reducible refine Ext.drewN ?_ _ | ((with_reducible refine Ext.setCell' ?_ ?_ _); solve | omega | simp | (simp; omega)) | (with_reducible refine Ext.trans ?_ (by with_reducible assumption)))))) hn1 hn2 (by omega) (by omega)).mono ?_
      rintro e w9 ⟨rfl, hx9⟩
      have hX9 : Ext w6 w9 := by (repeat (first | with_reducible exact Ext.refl _ | with_reducible assumption | ((with_reducible apply Src.ext); with_reducible assumption) | with_reducible refine Ext.alloc ?_ _ | with_reducible refine Ext.drew ?_ | with_reducible refine Ext.drewN ?_ _ | ((with_reducible refine Ext.setCell' ?_ ?_ _); solve | omega | simp | (simp; omega)) | (with_reducible refine Ext.trans ?_ (by with_reducible assumption))))
      have HX9 := Lib.hid hX9
      have HX09 := Lib.hid ((HX3.out.trans HX6.out).trans hX9)
      clear hmb hx9 hX9
      go_wp2_with fail
      refine (s_area _ _ (cut1 N a b) _ (HS1.out.ext HX9.out) c10 (by omega) HC1O.out).mono ?_
      rintro e w10 ⟨rfl, hx10⟩
      go_wp2_with fail
      refine (s_absN _ _ (by omega) (by omega)).mono ?_
      rintro e w' ⟨rfl, rfl⟩
      go_wp2_with fail
      refine (s_area _ _ (cut2 N a b) _ (HS2.out.ext (HX9.out.trans hx10)) c20 (by omega) HC2O.out).mono ?_
      rintro e w11 ⟨rfl, hx11⟩
      go_wp2_with fail
      refine (s_absN _ _ (by omega) (by omega)).mono ?_
      rintro e w' ⟨rfl, rfl⟩
      go_wp2_with fail
      refine (s_area _ _ ps _ (h.ext ((HX09.out.trans hx10).trans hx11)) h0 (by omega) HO.out).mono ?_
      rintro e w12 ⟨rfl, hx12⟩
      go_wp2_with fail
      refine (s_absN _ _ (by omega) (by omega)).mono ?_
      rintro e w' ⟨rfl, rfl⟩
      have hX12 := (hx10.trans hx11).trans hx12
      have HX12 := Lib.hid hX12
      clear hX12
      go_wp2_with fail
      refine (s_normalR (cut1 N a b) (HS1.out.ext (HX9.out.trans HX12.out)) HCR.out.1).mono ?_
      rintro e w13 ⟨v13, rfl, hO13, hx13⟩
      go_wp2_with fail
      refine (s_normalR (cut2 N a b) (HS2.out.ext ((HX9.out.trans HX12.out).trans hx13)) HCR.out.2).mono ?_
      rintro e w14 ⟨v14, rfl, hO14, hx14⟩
      go_wp2
      go_ret3
      have hsz := HX09.out.trans HX12.out
      refine ⟨v13, v14, w13.heap.size, by rw [HSC.out]; rfl, ?_, ?_, ?_, ?_, (hsz.trans hx13).trans hx14⟩
      · rw [HS1'.out]; exact (hO13.ext hx14).less hsz.size
      · rw [HS2'.out]; exact hO14
      · intro q hq; exact (hO13.row q hq).2
      · exact (hsz.trans hx13).size
theorem s_SplitArea (A : Option Addr) (c : Nat) (ps : List (Int × Int)) (a b : Int) (w : World) (h : SlAt w 2 encP A ps) (hl : ps.length ≤ 1048576) :
    Calls Try.prog 36 #[.slice A ps.length c, .int .i64 a, .int .i64 b] w fun e w' => ∃ v1 v2 m, e = .returned (.tuple #[v1, v2, .int .i64 (saC ps a b)]) ∧ OwP w' w.heap.size v1 (sa1 ps a b) ∧ OwP w' m v2 (sa2 ps a b) ∧ (∀ q, v1.ownBlock = some q → q < m) ∧ w.heap.size ≤ m ∧ Ext w w' := by
  by_cases hr : ringB ps = true
  · by_cases hi : inR ps.length a b
    · obtain ⟨h1, h2, h3⟩ := hi
      obtain ⟨x, rfl⟩ : ∃ n : Nat, a = n := ⟨a.toNat, by omega⟩
      obtain ⟨y, rfl⟩ : ∃ n : Nat, b = n := ⟨b.toNat, by omega⟩
      exact s_Split_go A c ps x y w h hl hr (by omega) (by omega)
    · exact s_Split_range A c ps a b w h hl hr hi
  · exact s_Split_no A c ps a b w h hl (Bool.eq_false_iff.2 hr)

end Go.Proofs.Yteppjdoggjcdoaa
