/- Draws of rings, without their texts, walked over the translation. -/
import Derived.Test.YteppjdoggjcdoaaJ
import Derived.Test.YteppjdoggjcdoaaND
import Derived.Deep.RegionHeld3
import Derived.Deep.DeepCutAuto
import Derived.RegionTactic
import Derived.BigRegion
import Derived.WalkLawsBesides
import Derived.WalkSpells
import Derived.Lib.MinMax
import Derived.Outline
namespace Go.Proofs.Yteppjdoggjcdoaa
open Go.RowKit
attribute [local go_sem] ExtOf.cell ExtOf.frozen

theorem blk_p1 {w : World} {g : Nat} {t : TypeId} {x z : Int} (h : Blk w g t #[.int .i64 x, .int .i64 z]) : SlAt w 2 encP (some ⟨g, 0, none⟩) [(x, z)] := h.sl rfl len_encP
theorem SlAt.butG {α : Type} {enc : α → List Value} {sz g : Nat} {w w' : World} {A : Option Addr} {xs : List α} (h : SlAt w sz enc A xs) (hm : But g w w') (ha : ∀ q, A = some q → ¬ q.block = g) : SlAt w' sz enc A xs := fun hn => by
  obtain ⟨b, off, e, hb, hc⟩ := h hn
  refine ⟨b, off, e, Nat.lt_of_lt_of_le hb hm.size, fun i x hi j u hj => ?_⟩
  exact (World.cell?_of_block (a := ⟨b, off + i * sz + j, none⟩) (hm.block b hb (ha _ e))).trans (hc i x hi j u hj)
theorem SlAt.but1 {α : Type} {enc : α → List Value} {sz g b off : Nat} {w w' : World} {xs : List α} (h : SlAt w sz enc (some ⟨b, off, none⟩) xs) (hm : But g w w') (ha : ¬ b = g) : SlAt w' sz enc (some ⟨b, off, none⟩) xs := h.butG hm fun q e => by injection e with e; rw [← e]; exact ha
/-- no corner beyond 0 and 8 -/
def small8 (q : List (Int × Int)) : Prop := ∀ i : Int, (0 ≤ ptx q i ∧ ptx q i ≤ 8) ∧ 0 ≤ ptz q i ∧ ptz q i ≤ 8
theorem small8_of {q : List (Int × Int)} (h : (q.all fun p => decide (0 ≤ p.1) && decide (p.1 ≤ 8) && decide (0 ≤ p.2) && decide (p.2 ≤ 8)) = true) : small8 q := fun i => by
  have hm : ∀ k, (0 ≤ (q.getD k (0, 0)).1 ∧ (q.getD k (0, 0)).1 ≤ 8) ∧ 0 ≤ (q.getD k (0, 0)).2 ∧ (q.getD k (0, 0)).2 ≤ 8 := fun k => by
    rcases Nat.lt_or_ge k q.length with hk | hk
    · have := List.all_eq_true.1 h (q.getD k (0, 0)) (by simp [List.getD, hk])
      simpa [and_assoc] using this
    · rw [List.getD_eq_getElem?_getD, List.getElem?_eq_none hk]
      simp
  exact hm _
theorem mul8 {sc p : Int} (h0 : 1 ≤ sc) (h1 : sc ≤ 3) (p0 : 0 ≤ p) (p1 : p ≤ 8) : 0 ≤ sc * p ∧ sc * p ≤ 24 := by
  rcases (show sc = 1 ∨ sc = 2 ∨ sc = 3 by omega) with rfl | rfl | rfl <;> omega
theorem oks_snoc {ps : List (Int × Int)} {x z : Int} (h : oks ps = true) (hx : -29 ≤ x ∧ x ≤ 29) (hz : -29 ≤ z ∧ z ≤ 29) : oks (ps ++ [(x, z)]) = true := by
  unfold oks at *
  rw [List.all_append, h]
  simp [okP, inB]
  omega
theorem Own.but {α : Type} {enc : α → List Value} {sz g base : Nat} {t : TypeId} {w w' : World} {v : Value} {xs : List α} (h : Own enc sz t w base v xs) (hm : But g w w') (hb : g < base) : Own enc sz t w' base v xs := by
  refine ⟨h.1, ?_⟩
  rcases h.2 with hn | ⟨q, cap, cur, rfl, hbb, hgg, rest⟩
  · exact .inl hn
  · refine .inr ⟨q, cap, cur, rfl, hbb, ?_, rest⟩
    rw [hm.block q (Array.getElem?_eq_some_iff.1 hgg).1 (by omega)]
    exact hgg

set_option maxRecDepth 20000 in
set_option maxHeartbeats 12800000 in
theorem s_l16Good {a : World} {A : Option Addr} {c : Nat} {bs : List Int} {g : Nat} (w : World) (h : Src a A c bs g w) :
    Calls Try.prog 105 #[.pointer (some ⟨g, 0, none⟩)] w fun e w' => ∃ v ps, e = .returned v ∧ OwP w' w.heap.size v ps ∧ (3 ≤ ps.length ∧ ps.length ≤ 10) ∧ oks ps = true ∧ Src a A c bs g w' ∧ But g w w' := by
  have hlt := h.lt
  have how := h.own
  have hasz := h.ext.size
  go_enter Try.func105, Try.ntmps105
  (go_wp2_with fail; refine (s_l01Next (a := a) (A := A) (c := c) (bs := bs) _ _ (by (repeat (first | with_reducible assumption | with_reducible refine Src.alloc ?_ _ | with_reducible refine Src.drew ?_ | with_reducible refine Src.drewN ?_ _ | ((with_reducible refine Src.far ?_ ?_ ?_ _); (solve | omega | (simp; omega) | simp); (solve | omega | (simp; omega) | simp)) | ((with_reducible apply Src.on'); with_reducible assumption)))) (by omega)).mono ?_; rintro e w1 ⟨x1, rfl, hb1, hS1, hu1⟩; obtain ⟨hc1, hf1⟩ := hu1.rules; have hs1 := hu1.size; (try simp at hs1); have := (show g < w1.heap.size from by omega))
  have HT : Hid (Blk w1 (w.heap.size + 1 + 1 + 1 + 1 + 1) 24 #[.slice (some ⟨w.heap.size, 0, none⟩) 4 4, .slice (some ⟨w.heap.size + 1, 0, none⟩) 3 3, .slice (some ⟨w.heap.size + 1 + 1, 0, none⟩) 6 6, .slice (some ⟨w.heap.size + 1 + 1 + 1, 0, none⟩) 8 8, .slice (some ⟨w.heap.size + 1 + 1 + 1 + 1, 0, none⟩) 10 10]) := Lib.hid (Blk.eq (by (repeat (first | with_reducible assumption | ((with_reducible apply Blk.new); solve | simp | rfl) | with_reducible apply Blk.drew | with_reducible apply Blk.drewN | ((with_reducible apply Blk.far'); solve | omega | simp | (simp; omega)) | with_reducible apply Blk.set_ | with_reducible apply Blk.alloc | ((with_reducible apply Blk.ext'); with_reducible assumption) | ((with_reducible apply Blk.but'); (with_reducible assumption); solve | omega | (simp; omega))))) (by rfl))
  have hpick : ∃ (g1 : Nat) (q : List (Int × Int)), w1.cell? ⟨w.heap.size + 1 + 1 + 1 + 1 + 1, x1.toNat, none⟩ = some (.slice (some ⟨g1, 0, none⟩) q.length q.length) ∧ SlAt w1 2 encP (some ⟨g1, 0, none⟩) q ∧ 3 ≤ q.length ∧ q.length ≤ 10 ∧ small8 q ∧ g1 < w1.heap.size ∧ ¬ g1 = g := by
    rcases (show x1 = 0 ∨ x1 = 1 ∨ x1 = 2 ∨ x1 = 3 ∨ x1 = 4 by omega) with rfl | rfl | rfl | rfl | rfl
    · have hB : Blk w1 (w.heap.size) 33 #[.int .i64 0, .int .i64 0, .int .i64 4, .int .i64 0, .int .i64 4, .int .i64 3, .int .i64 0, .int .i64 3] := Blk.eq (by (repeat (first | with_reducible assumption | ((with_reducible apply Blk.new); solve | simp | rfl) | with_reducible apply Blk.drew | with_reducible apply Blk.drewN | ((with_reducible apply Blk.far'); solve | omega | simp | (simp; omega)) | with_reducible apply Blk.set_ | with_reducible apply Blk.alloc | ((with_reducible apply Blk.ext'); with_reducible assumption) | ((with_reducible apply Blk.but'); (with_reducible assumption); solve | omega | (simp; omega))))) (by rfl)
      exact ⟨w.heap.size, [(0, 0), (4, 0), (4, 3), (0, 3)], HT.out.cell 0, hB.sl rfl len_encP, by decide, by decide, small8_of (by decide), hB.lt, by omega⟩
    · have hB : Blk w1 (w.heap.size + 1) 33 #[.int .i64 0, .int .i64 0, .int .i64 6, .int .i64 0, .int .i64 0, .int .i64 4] := Blk.eq (by (repeat (first | with_reducible assumption | ((with_reducible apply Blk.new); solve | simp | rfl) | with_reducible apply Blk.drew | with_reducible apply Blk.drewN | ((with_reducible apply Blk.far'); solve | omega | simp | (simp; omega)) | with_reducible apply Blk.set_ | with_reducible apply Blk.alloc | ((with_reducible apply Blk.ext'); with_reducible assumption) | ((with_reducible apply Blk.but'); (with_reducible assumption); solve | omega | (simp; omega))))) (by rfl)
      exact ⟨w.heap.size + 1, [(0, 0), (6, 0), (0, 4)], HT.out.cell 1, hB.sl rfl len_encP, by decide, by decide, small8_of (by decide), hB.lt, by omega⟩
    · have hB : Blk w1 (w.heap.size + 1 + 1) 33 #[.int .i64 0, .int .i64 0, .int .i64 6, .int .i64 0, .int .i64 6, .int .i64 6, .int .i64 4, .int .i64 6, .int .i64 4, .int .i64 2, .int .i64 0, .int .i64 2] := Blk.eq (by (repeat (first | with_reducible assumption | ((with_reducible apply Blk.new); solve | simp | rfl) | with_reducible apply Blk.drew | with_reducible apply Blk.drewN | ((with_reducible apply Blk.far'); solve | omega | simp | (simp; omega)) | with_reducible apply Blk.set_ | with_reducible apply Blk.alloc | ((with_reducible apply Blk.ext'); with_reducible assumption) | ((with_reducible apply Blk.but'); (with_reducible assumption); solve | omega | (simp; omega))))) (by rfl)
      exact ⟨w.heap.size + 1 + 1, [(0, 0), (6, 0), (6, 6), (4, 6), (4, 2), (0, 2)], HT.out.cell 2, hB.sl rfl len_encP, by decide, by decide, small8_of (by decide), hB.lt, by omega⟩
    · have hB : Blk w1 (w.heap.size + 1 + 1 + 1) 33 #[.int .i64 0, .int .i64 0, .int .i64 5, .int .i64 1, .int .i64 8, .int .i64 0, .int .i64 7, .int .i64 4, .int .i64 8, .int .i64 8, .int .i64 4, .int .i64 6, .int .i64 0, .int .i64 8, .int .i64 1, .int .i64 4] := Blk.eq (by (repeat (first | with_reducible assumption | ((with_reducible apply Blk.new); solve | simp | rfl) | with_reducible apply Blk.drew | with_reducible apply Blk.drewN | ((with_reducible apply Blk.far'); solve | omega | simp | (simp; omega)) | with_reducible apply Blk.set_ | with_reducible apply Blk.alloc | ((with_reducible apply Blk.ext'); with_reducible assumption) | ((with_reducible apply Blk.but'); (with_reducible assumption); solve | omega | (simp; omega))))) (by rfl)
      exact ⟨w.heap.size + 1 + 1 + 1, [(0, 0), (5, 1), (8, 0), (7, 4), (8, 8), (4, 6), (0, 8), (1, 4)], HT.out.cell 3, hB.sl rfl len_encP, by decide, by decide, small8_of (by decide), hB.lt, by omega⟩
    · have hB : Blk w1 (w.heap.size + 1 + 1 + 1 + 1) 33 #[.int .i64 0, .int .i64 0, .int .i64 8, .int .i64 0, .int .i64 8, .int .i64 5, .int .i64 6, .int .i64 5, .int .i64 6, .int .i64 2, .int .i64 4, .int .i64 2, .int .i64 4, .int .i64 5, .int .i64 2, .int .i64 5, .int .i64 2, .int .i64 2, .int .i64 0, .int .i64 2] := Blk.eq (by (repeat (first | with_reducible assumption | ((with_reducible apply Blk.new); solve | simp | rfl) | with_reducible apply Blk.drew | with_reducible apply Blk.drewN | ((with_reducible apply Blk.far'); solve | omega | simp | (simp; omega)) | with_reducible apply Blk.set_ | with_reducible apply Blk.alloc | ((with_reducible apply Blk.ext'); with_reducible assumption) | ((with_reducible apply Blk.but'); (with_reducible assumption); solve | omega | (simp; omega))))) (by rfl)
      exact ⟨w.heap.size + 1 + 1 + 1 + 1, [(0, 0), (8, 0), (8, 5), (6, 5), (6, 2), (4, 2), (4, 5), (2, 5), (2, 2), (0, 2)], HT.out.cell 4, hB.sl rfl len_encP, by decide, by decide, small8_of (by decide), hB.lt, by omega⟩
  obtain ⟨g1, q, hcell, hS, hq3, hq10, h8, hg1, hne⟩ := hpick
  obtain ⟨j, rfl⟩ := Int.eq_ofNat_of_zero_le hb1.1
  rw [Int.toNat_natCast] at hcell
  have H8 := Lib.hid h8
  have hj5 : j < 5 := by omega
  have hbt : w.heap.size + 1 + 1 + 1 + 1 + 1 < w1.heap.size := by omega
  clear h8 h
  (go_wp2_with fail; refine (s_l01Next (a := a) (A := A) (c := c) (bs := bs) _ _ (by (repeat (first | with_reducible assumption | with_reducible refine Src.alloc ?_ _ | with_reducible refine Src.drew ?_ | with_reducible refine Src.drewN ?_ _ | ((with_reducible refine Src.far ?_ ?_ ?_ _); (solve | omega | (simp; omega) | simp); (solve | omega | (simp; omega) | simp)) | ((with_reducible apply Src.on'); with_reducible assumption)))) (by omega)).mono ?_; rintro e w2 ⟨x2, rfl, hb2, hS2, hu2⟩; obtain ⟨hc2, hf2⟩ := hu2.rules; have hs2 := hu2.size; (try simp at hs2); have := (show g < w2.heap.size from by omega); have := (show g1 < w2.heap.size from by omega))
  obtain ⟨ox, hox⟩ : ∃ ox, ox = x2 - 5 := ⟨_, rfl⟩
  have hw2 : IntKind.i64.wrap (x2 - 5) = ox := by rw [hox]; exact IntWalk.i64_in _ (by omega)
  have hox0 : -5 ≤ ox ∧ ox ≤ 5 := by omega
  clear hox
  (go_wp2_with fail; refine (s_l01Next (a := a) (A := A) (c := c) (bs := bs) _ _ (by (repeat (first | with_reducible assumption | with_reducible refine Src.alloc ?_ _ | with_reducible refine Src.drew ?_ | with_reducible refine Src.drewN ?_ _ | ((with_reducible refine Src.far ?_ ?_ ?_ _); (solve | omega | (simp; omega) | simp); (solve | omega | (simp; omega) | simp)) | ((with_reducible apply Src.on'); with_reducible assumption)))) (by omega)).mono ?_; rintro e w3 ⟨x3, rfl, hb3, hS3, hu3⟩; obtain ⟨hc3, hf3⟩ := hu3.rules; have hs3 := hu3.size; (try simp at hs3); have := (show g < w3.heap.size from by omega); have := (show g1 < w3.heap.size from by omega))
  obtain ⟨oz, hoz⟩ : ∃ oz, oz = x3 - 5 := ⟨_, rfl⟩
  have hw3 : IntKind.i64.wrap (x3 - 5) = oz := by rw [hoz]; exact IntWalk.i64_in _ (by omega)
  have hoz0 : -5 ≤ oz ∧ oz ≤ 5 := by omega
  clear hoz
  (go_wp2_with fail; refine (s_l01Next (a := a) (A := A) (c := c) (bs := bs) _ _ (by (repeat (first | with_reducible assumption | with_reducible refine Src.alloc ?_ _ | with_reducible refine Src.drew ?_ | with_reducible refine Src.drewN ?_ _ | ((with_reducible refine Src.far ?_ ?_ ?_ _); (solve | omega | (simp; omega) | simp); (solve | omega | (simp; omega) | simp)) | ((with_reducible apply Src.on'); with_reducible assumption)))) (by omega)).mono ?_; rintro e w4 ⟨x4, rfl, hb4, hS4, hu4⟩; obtain ⟨hc4, hf4⟩ := hu4.rules; have hs4 := hu4.size; (try simp at hs4); have := (show g < w4.heap.size from by omega); have := (show g1 < w4.heap.size from by omega))
  obtain ⟨sc, hsc⟩ : ∃ sc, sc = 1 + x4 := ⟨_, rfl⟩
  have hw4 : IntKind.i64.wrap (1 + x4) = sc := by rw [hsc]; exact IntWalk.i64_in _ (by omega)
  have hsc0 : 1 ≤ sc ∧ sc ≤ 3 := by omega
  clear hsc
  (go_wp2_with fail; refine (s_l01Next (a := a) (A := A) (c := c) (bs := bs) _ _ (by (repeat (first | with_reducible assumption | with_reducible refine Src.alloc ?_ _ | with_reducible refine Src.drew ?_ | with_reducible refine Src.drewN ?_ _ | ((with_reducible refine Src.far ?_ ?_ ?_ _); (solve | omega | (simp; omega) | simp); (solve | omega | (simp; omega) | simp)) | ((with_reducible apply Src.on'); with_reducible assumption)))) (by omega)).mono ?_; rintro e w5 ⟨x5, rfl, hb5, hS5, hu5⟩; obtain ⟨hc5, hf5⟩ := hu5.rules; have hs5 := hu5.size; (try simp at hs5); have := (show g < w5.heap.size from by omega); have := (show g1 < w5.heap.size from by omega))
  (go_wp2_with fail; refine (s_l01Next (a := a) (A := A) (c := c) (bs := bs) _ _ (by (repeat (first | with_reducible assumption | with_reducible refine Src.alloc ?_ _ | with_reducible refine Src.drew ?_ | with_reducible refine Src.drewN ?_ _ | ((with_reducible refine Src.far ?_ ?_ ?_ _); (solve | omega | (simp; omega) | simp); (solve | omega | (simp; omega) | simp)) | ((with_reducible apply Src.on'); with_reducible assumption)))) (by omega)).mono ?_; rintro e w6 ⟨x6, rfl, hb6, hS6, hu6⟩; obtain ⟨hc6, hf6⟩ := hu6.rules; have hs6 := hu6.size; (try simp at hs6); have := (show g < w6.heap.size from by omega); have := (show g1 < w6.heap.size from by omega))
  have hU : But g w w6 := by (repeat (first | with_reducible exact But.refl _ _ | with_reducible assumption | with_reducible refine But.alloc ?_ _ | with_reducible refine But.drew ?_ | with_reducible refine But.drewN ?_ _ | with_reducible refine But.set_ ?_ _ _ | ((with_reducible refine But.new ?_ ?_ _); solve | omega | simp | (simp; omega)) | (with_reducible refine But.trans ?_ (by with_reducible assumption)) | (with_reducible refine But.trans ?_ (But.of (by with_reducible assumption)))))
  have hSq : SlAt w6 2 encP (some ⟨g1, 0, none⟩) q := ((((hS.but1 hu2 hne).but1 hu3 hne).but1 hu4 hne).but1 hu5 hne).but1 hu6 hne
  have hwu := hU.size
  obtain ⟨k0, rfl⟩ := Int.eq_ofNat_of_zero_le hb5.1
  have hk0 : k0 ≤ 10 := by omega
  clear hS hcell HT hu1 hu2 hu3 hu4 hu5 hu6 hS1 hS2 hS3 hS4 hS5 hc1 hf1 hc2 hf2 hc3 hf3 hc4 hf4 hc5 hf5 hc6 hf6 hb1 hb2 hb3 hb4 hb5
  have HS6 := Lib.hid hS6
  have HU := Lib.hid hU
  clear hS6 hU
  by_cases ht : x6 = 0
  · have hbt6 : (x6 == 0) = true := beq_iff_eq.2 ht
    clear ht
    go_wp2
    go_loopw [10, 11] (fun v i wr => ∃ (k : Nat) (ps : List (Int × Int)), k ≤ q.length ∧ i = .int .i64 k ∧ ps.length = k ∧ Hid (oks ps = true) ∧ Hid (OwP wr w6.heap.size v ps) ∧ Ext w6 wr) (fun _ i _ => q.length - (intOf i).toNat)
    case atStart => exact ⟨0, [], Nat.zero_le _, rfl, rfl, Lib.hid rfl, Lib.hid (World.ownsRow_made (base := w6.heap.size) (e := 33) (size := 2) w6 #[] 0 (Nat.le_refl _) (Nat.zero_le _) rfl), by (repeat (first | with_reducible exact Ext.refl _ | with_reducible assumption | ((with_reducible apply Src.ext); with_reducible assumption) | with_reducible refine Ext.alloc ?_ _ | with_reducible refine Ext.drew ?_ | with_reducible refine Ext.drewN ?_ _ | ((with_reducible refine Ext.setCell' ?_ ?_ _); solve | omega | simp | (simp; omega)) | (with_reducible refine Ext.trans ?_ (by with_reducible assumption))))⟩
    case round =>
      obtain ⟨k, ps, hk, rfl, hpk, HOK, HV, hxr⟩ := hrel
      have hpk2 : ps.length ≤ k := by omega
      have hpk3 : k ≤ ps.length := by omega
      have HPK := Lib.hid hpk
      clear hpk
      have hsr := hxr.size
      by_cases hkt : k < q.length
      · have hw5 : IntKind.i64.wrap ((k0 : Int) + (k : Int)) = (k0 : Int) + (k : Int) := IntWalk.i64_in _ (by omega)
        have h8 := H8.out ((k0 : Int) + (k : Int))
        have HC := Lib.hid (s_corner (some ⟨g1, 0, none⟩) q.length q ((k0 : Int) + (k : Int)) wr (hSq.ext hxr) (by omega) (by omega) (by omega) (by omega))
        generalize ptx q ((k0 : Int) + (k : Int)) = px at *
        generalize ptz q ((k0 : Int) + (k : Int)) = pz at *
        have m1 := mul8 hsc0.1 hsc0.2 h8.1.1 h8.1.2
        have m2 := mul8 hsc0.1 hsc0.2 h8.2.1 h8.2.2
        obtain ⟨mx, hmx⟩ : ∃ mx, mx = sc * px := ⟨_, rfl⟩
        obtain ⟨mz, hmz⟩ : ∃ mz, mz = sc * pz := ⟨_, rfl⟩
        have hv1 : IntKind.i64.wrap (sc * px) = mx := by rw [hmx]; exact IntWalk.i64_in _ (by omega)
        have hv2 : IntKind.i64.wrap (sc * pz) = mz := by rw [hmz]; exact IntWalk.i64_in _ (by omega)
        rw [← hmx] at m1
        rw [← hmz] at m2
        have hv3 : IntKind.i64.wrap (mx + ox) = mx + ox := IntWalk.i64_in _ (by omega)
        have hv4 : IntKind.i64.wrap (mz + oz) = mz + oz := IntWalk.i64_in _ (by omega)
        have hv5 : IntKind.i64.wrap (mz + ox) = mz + ox := IntWalk.i64_in _ (by omega)
        have hv6 : IntKind.i64.wrap (mx + oz) = mx + oz := IntWalk.i64_in _ (by omega)
        have HOK2 : Hid (oks (ps ++ [(mz + ox, mx + oz)]) = true) := Lib.hid (oks_snoc HOK.out (by omega) (by omega))
        have HMX := Lib.hid hmx
        have HMZ := Lib.hid hmz
        clear hmx hmz h8
        go_wp2_with fail
        refine HC.out.mono ?_
        rintro e w7 ⟨rfl, hx7⟩
        obtain ⟨hc7, hf7⟩ := hx7.rules
        have hs7 := hx7.size
        (try simp at hs7)
        go_wp2_with (at_builtin; refine wpList_append_sl elP len_encP one_encP rfl _ _ rfl rfl (HV.out.ext (by (repeat (first | with_reducible exact Ext.refl _ | with_reducible assumption | ((with_reducible apply Src.ext); with_reducible assumption) | with_reducible refine Ext.alloc ?_ _ | with_reducible refine Ext.drew ?_ | with_reducible refine Ext.drewN ?_ _ | ((with_reducible refine Ext.setCell' ?_ ?_ _); solve | omega | simp | (simp; omega)) | (with_reducible refine Ext.trans ?_ (by with_reducible assumption)))))) (xs := [(mz + ox, mx + oz)]) rfl (blk_p1 (by (repeat (first | with_reducible assumption | ((with_reducible apply Blk.new); solve | simp | rfl) | with_reducible apply Blk.drew | with_reducible apply Blk.drewN | ((with_reducible apply Blk.far'); solve | omega | simp | (simp; omega)) | with_reducible apply Blk.set_ | with_reducible apply Blk.alloc | ((with_reducible apply Blk.ext'); with_reducible assumption) | ((with_reducible apply Blk.but'); (with_reducible assumption); solve | omega | (simp; omega)))))) (by simp; unfold maxLen; omega) (by simp; omega) (by first | omega | (simp; omega)) ?_)
        intro v' w8 hown hgrow _
        have HV2 := Lib.hid hown
        have hx8 : Ext w6 w8 := by
          refine Ext.grown ?_ hgrow (fun q hq => ?_)
          · (repeat (first | with_reducible exact Ext.refl _ | with_reducible assumption | ((with_reducible apply Src.ext); with_reducible assumption) | with_reducible refine Ext.alloc ?_ _ | with_reducible refine Ext.drew ?_ | with_reducible refine Ext.drewN ?_ _ | ((with_reducible refine Ext.setCell' ?_ ?_ _); solve | omega | simp | (simp; omega)) | (with_reducible refine Ext.trans ?_ (by with_reducible assumption))))
          · have := (HV.out.row q hq).1
            omega
        clear hown hgrow
        go_wp2
        go_roundw
        case rel => exact ⟨k + 1, _, by omega, by go_num, by rw [List.length_append, HPK.out]; rfl, HOK2, HV2, hx8⟩
        case measure => simp [intOf]; omega
      · go_wp2
        go_ret
        refine ⟨_, ps, rfl, HV.out.less hwu, by omega, HOK.out, HS6.out.on hxr, HU.out.trans (But.of hxr)⟩
  · have hbt6 : (x6 == 0) = false := beq_eq_false_iff_ne.2 ht
    clear ht
    go_wp2
    go_loopw [10, 11] (fun v i wr => ∃ (k : Nat) (ps : List (Int × Int)), k ≤ q.length ∧ i = .int .i64 k ∧ ps.length = k ∧ Hid (oks ps = true) ∧ Hid (OwP wr w6.heap.size v ps) ∧ Ext w6 wr) (fun _ i _ => q.length - (intOf i).toNat)
    case atStart => exact ⟨0, [], Nat.zero_le _, rfl, rfl, Lib.hid rfl, Lib.hid (World.ownsRow_made (base := w6.heap.size) (e := 33) (size := 2) w6 #[] 0 (Nat.le_refl _) (Nat.zero_le _) rfl), by (repeat (first | with_reducible exact Ext.refl _ | with_reducible assumption | ((with_reducible apply Src.ext); with_reducible assumption) | with_reducible refine Ext.alloc ?_ _ | with_reducible refine Ext.drew ?_ | with_reducible refine Ext.drewN ?_ _ | ((with_reducible refine Ext.setCell' ?_ ?_ _); solve | omega | simp | (simp; omega)) | (with_reducible refine Ext.trans ?_ (by with_reducible assumption))))⟩
    case round =>
      obtain ⟨k, ps, hk, rfl, hpk, HOK, HV, hxr⟩ := hrel
      have hpk2 : ps.length ≤ k := by omega
      have hpk3 : k ≤ ps.length := by omega
      have HPK := Lib.hid hpk
      clear hpk
      have hsr := hxr.size
      by_cases hkt : k < q.length
      · have hw5 : IntKind.i64.wrap ((k0 : Int) + (k : Int)) = (k0 : Int) + (k : Int) := IntWalk.i64_in _ (by omega)
        have h8 := H8.out ((k0 : Int) + (k : Int))
        have HC := Lib.hid (s_corner (some ⟨g1, 0, none⟩) q.length q ((k0 : Int) + (k : Int)) wr (hSq.ext hxr) (by omega) (by omega) (by omega) (by omega))
        generalize ptx q ((k0 : Int) + (k : Int)) = px at *
        generalize ptz q ((k0 : Int) + (k : Int)) = pz at *
        have m1 := mul8 hsc0.1 hsc0.2 h8.1.1 h8.1.2
        have m2 := mul8 hsc0.1 hsc0.2 h8.2.1 h8.2.2
        obtain ⟨mx, hmx⟩ : ∃ mx, mx = sc * px := ⟨_, rfl⟩
        obtain ⟨mz, hmz⟩ : ∃ mz, mz = sc * pz := ⟨_, rfl⟩
        have hv1 : IntKind.i64.wrap (sc * px) = mx := by rw [hmx]; exact IntWalk.i64_in _ (by omega)
        have hv2 : IntKind.i64.wrap (sc * pz) = mz := by rw [hmz]; exact IntWalk.i64_in _ (by omega)
        rw [← hmx] at m1
        rw [← hmz] at m2
        have hv3 : IntKind.i64.wrap (mx + ox) = mx + ox := IntWalk.i64_in _ (by omega)
        have hv4 : IntKind.i64.wrap (mz + oz) = mz + oz := IntWalk.i64_in _ (by omega)
        have hv5 : IntKind.i64.wrap (mz + ox) = mz + ox := IntWalk.i64_in _ (by omega)
        have hv6 : IntKind.i64.wrap (mx + oz) = mx + oz := IntWalk.i64_in _ (by omega)
        have HOK2 : Hid (oks (ps ++ [(mx + ox, mz + oz)]) = true) := Lib.hid (oks_snoc HOK.out (by omega) (by omega))
        have HMX := Lib.hid hmx
        have HMZ := Lib.hid hmz
        clear hmx hmz h8
        go_wp2_with fail
        refine HC.out.mono ?_
        rintro e w7 ⟨rfl, hx7⟩
        obtain ⟨hc7, hf7⟩ := hx7.rules
        have hs7 := hx7.size
        (try simp at hs7)
        go_wp2_with (at_builtin; refine wpList_append_sl elP len_encP one_encP rfl _ _ rfl rfl (HV.out.ext (by (repeat (first | with_reducible exact Ext.refl _ | with_reducible assumption | ((with_reducible apply Src.ext); with_reducible assumption) | with_reducible refine Ext.alloc ?_ _ | with_reducible refine Ext.drew ?_ | with_reducible refine Ext.drewN ?_ _ | ((with_reducible refine Ext.setCell' ?_ ?_ _); solve | omega | simp | (simp; omega)) | (with_reducible refine Ext.trans ?_ (by with_reducible assumption)))))) (xs := [(mx + ox, mz + oz)]) rfl (blk_p1 (by (repeat (first | with_reducible assumption | ((with_reducible apply Blk.new); solve | simp | rfl) | with_reducible apply Blk.drew | with_reducible apply Blk.drewN | ((with_reducible apply Blk.far'); solve | omega | simp | (simp; omega)) | with_reducible apply Blk.set_ | with_reducible apply Blk.alloc | ((with_reducible apply Blk.ext'); with_reducible assumption) | ((with_reducible apply Blk.but'); (with_reducible assumption); solve | omega | (simp; omega)))))) (by simp; unfold maxLen; omega) (by simp; omega) (by first | omega | (simp; omega)) ?_)
        intro v' w8 hown hgrow _
        have HV2 := Lib.hid hown
        have hx8 : Ext w6 w8 := by
          refine Ext.grown ?_ hgrow (fun q hq => ?_)
          · (repeat (first | with_reducible exact Ext.refl _ | with_reducible assumption | ((with_reducible apply Src.ext); with_reducible assumption) | with_reducible refine Ext.alloc ?_ _ | with_reducible refine Ext.drew ?_ | with_reducible refine Ext.drewN ?_ _ | ((with_reducible refine Ext.setCell' ?_ ?_ _); solve | omega | simp | (simp; omega)) | (with_reducible refine Ext.trans ?_ (by with_reducible assumption))))
          · have := (HV.out.row q hq).1
            omega
        clear hown hgrow
        go_wp2
        go_roundw
        case rel => exact ⟨k + 1, _, by omega, by go_num, by rw [List.length_append, HPK.out]; rfl, HOK2, HV2, hx8⟩
        case measure => simp [intOf]; omega
      · go_wp2
        go_ret
        refine ⟨_, ps, rfl, HV.out.less hwu, by omega, HOK.out, HS6.out.on hxr, HU.out.trans (But.of hxr)⟩

theorem SlAt.set2 {w w' : World} {b off : Nat} {ps : List (Int × Int)} {k : Nat} {p : Int × Int} (h : SlAt w 2 encP (some ⟨b, off, none⟩) ps) (hs : w.heap.size ≤ w'.heap.size)
    (h0 : w'.cell? ⟨b, off + k * 2, none⟩ = some (.int .i64 p.1)) (h1 : w'.cell? ⟨b, off + k * 2 + 1, none⟩ = some (.int .i64 p.2)) (hr : ∀ o, ¬ o = off + k * 2 → ¬ o = off + k * 2 + 1 → w'.cell? ⟨b, o, none⟩ = w.cell? ⟨b, o, none⟩) :
    SlAt w' 2 encP (some ⟨b, off, none⟩) (ps.set k p) := fun hn => by
  obtain ⟨b', off', e, hb, hc⟩ := h (by simpa using hn)
  injection e with e
  injection e with e1 e2
  subst e1 e2
  refine ⟨b, off, rfl, Nat.lt_of_lt_of_le hb hs, fun i x hi j v hj => ?_⟩
  have hj2 : j < 2 := by
    have := (List.getElem?_eq_some_iff.1 hj).1
    simpa [encP] using this
  by_cases hik : i = k
  · subst hik
    have hlt : i < ps.length := by
      have := (List.getElem?_eq_some_iff.1 hi).1
      simpa using this
    rw [List.getElem?_set_self hlt] at hi
    injection hi with hi
    subst hi
    rcases (show j = 0 ∨ j = 1 by omega) with rfl | rfl
    · simp [encP] at hj; subst hj; simpa using h0
    · simp [encP] at hj; subst hj; exact h1
  · rw [List.getElem?_set_ne (by omega)] at hi
    rw [hr _ (by omega) (by omega)]
    exact hc i x hi j v hj
theorem Src.grownR {a w w' : World} {A : Option Addr} {c : Nat} {bs : List Int} {g : Nat} {row : Option Nat} (h : Src a A c bs g w) (hg : w.grownBy w' row) (hr : ∀ q, row = some q → g < q) : Src a A c bs g w' := by
  obtain ⟨k, s, h1, h2, h3, hB⟩ := h.blk
  exact ⟨h.ext.grown hg (fun q hq => by have := hr q hq; have := h.own; omega), h.own, h.code, h.byt, h.len, k, s, h1, h2, h3, (hg.block g h.lt (fun e => by have := hr g e.symm; omega)).trans hB⟩
theorem But.grownR {a w w' : World} {g : Nat} {row : Option Nat} (h : But g a w) (hg : w.grownBy w' row) (hr : ∀ q, row = some q → a.heap.size ≤ q) : But g a w' :=
  ⟨hg.os.trans h.os, hg.tape.trans h.tape, hg.output.trans h.output, Nat.le_trans h.size hg.size, fun k hk hc => (hg.block k (Nat.lt_of_lt_of_le hk h.size) (fun e => by have := hr k e.symm; omega)).trans (h.block k hk hc)⟩
set_option maxRecDepth 20000 in
set_option maxHeartbeats 12800000 in
theorem s_l16Draw {a : World} {A : Option Addr} {c : Nat} {bs : List Int} {g : Nat} (w : World) (h : Src a A c bs g w) :
    Calls Try.prog 55 #[.pointer (some ⟨g, 0, none⟩)] w fun e w' => ∃ A' c' ps, e = .returned (.slice A' ps.length c') ∧ SlAt w' 2 encP A' ps ∧ ps.length ≤ c' ∧ (2 ≤ ps.length ∧ ps.length ≤ 10) ∧ (∀ q, A' = some q → w.heap.size ≤ q.block) ∧ Src a A c bs g w' ∧ But g w w' := by
  have hlt := h.lt
  have how := h.own
  have hasz := h.ext.size
  go_enter Try.func55, Try.ntmps55
  (go_wp2_with fail; refine (s_l01Next (a := a) (A := A) (c := c) (bs := bs) _ _ (by (repeat (first | with_reducible assumption | with_reducible refine Src.alloc ?_ _ | with_reducible refine Src.drew ?_ | with_reducible refine Src.drewN ?_ _ | ((with_reducible refine Src.far ?_ ?_ ?_ _); (solve | omega | (simp; omega) | simp); (solve | omega | (simp; omega) | simp)) | ((with_reducible apply Src.on'); with_reducible assumption)))) (by omega)).mono ?_; rintro e w1 ⟨x1, rfl, hb1, hS1, hu1⟩; obtain ⟨hc1, hf1⟩ := hu1.rules; have hs1 := hu1.size; (try simp at hs1); have := (show g < w1.heap.size from by omega))
  by_cases h1 : x1 = 0
  · subst h1
    (go_wp2_with fail; refine (s_l01Next (a := a) (A := A) (c := c) (bs := bs) _ _ (by (repeat (first | with_reducible assumption | with_reducible refine Src.alloc ?_ _ | with_reducible refine Src.drew ?_ | with_reducible refine Src.drewN ?_ _ | ((with_reducible refine Src.far ?_ ?_ ?_ _); (solve | omega | (simp; omega) | simp); (solve | omega | (simp; omega) | simp)) | ((with_reducible apply Src.on'); with_reducible assumption)))) (by omega)).mono ?_; rintro e w2 ⟨x2, rfl, hb2, hS2, hu2⟩; obtain ⟨hc2, hf2⟩ := hu2.rules; have hs2 := hu2.size; (try simp at hs2); have := (show g < w2.heap.size from by omega))
    obtain ⟨n, rfl⟩ := Int.eq_ofNat_of_zero_le hb2.1
    have hn2 : n ≤ 2 := by omega
    have hw : IntKind.i64.wrap (3 + (n : Int)) = ((3 + n : Nat) : Int) := by rw [IntWalk.i64_in _ (by omega)]; omega
    have hgw1 : g < w1.heap.size := by omega
    have hv0 : OwP (w1.alloc (.cells #[] 33)) w1.heap.size (.slice (some ⟨w1.heap.size, 0, none⟩) 0 0) ([] : List (Int × Int)) := World.ownsRow_made (base := w1.heap.size) (e := 33) (size := 2) w1 #[] 0 (Nat.le_refl _) (Nat.zero_le _) rfl
    have HV0 := Lib.hid (hv0.but hu2 hgw1)
    clear hv0
    have HU1 := Lib.hid hu1
    have HU2 : Hid (But g w1 w2) := Lib.hid ((But.of ((Ext.refl w1).alloc _)).trans hu2)
    have HS2 := Lib.hid hS2
    clear hb1 hb2 hu1 hu2 hS1 hS2 h hc1 hf1 hc2 hf2
    go_wp2
    go_loopw [3, 4] (fun v i wr => ∃ (k : Nat) (ps : List (Int × Int)), k ≤ 3 + n ∧ i = .int .i64 k ∧ ps.length ≤ 3 + n - k ∧ 3 + n ≤ ps.length + k ∧ Hid (OwP wr w1.heap.size v ps) ∧ Hid (Src a A c bs g wr) ∧ Hid (But g w1 wr)) (fun _ i _ => (intOf i).toNat)
    case atStart => exact ⟨3 + n, [], Nat.le_refl _, rfl, by simp, by simp, HV0, HS2, HU2⟩
    case round =>
      obtain ⟨k, ps, hk, rfl, hpk, hpk2, HV, HSr, HUr⟩ := hrel
      have hglt := HSr.out.lt
      have hsr := HUr.out.size
      by_cases hk0 : 0 < k
      · go_wp2_with fail
        refine (s_l15Draw (a := a) (A := A) (c := c) (bs := bs) _ HSr.out).mono ?_
        rintro e w3 ⟨p, rfl, hb3, hS3, hu3⟩
        have hs3 := hu3.size
        have HV3 := Lib.hid (HV.out.but hu3 hgw1)
        obtain ⟨px, pz⟩ := p
        simp only at hb3
        have HU3 := Lib.hid (HUr.out.trans hu3)
        have HS3 := Lib.hid hS3
        have hw5 : IntKind.i64.wrap ((k : Int) - 1) = ((k - 1 : Nat) : Int) := by rw [IntWalk.i64_in _ (by omega)]; omega
        clear hu3 hS3
        go_wp2_with (at_builtin; refine wpList_append_sl elP len_encP one_encP rfl _ _ rfl rfl (HV3.out.ext (by (repeat (first | with_reducible exact Ext.refl _ | with_reducible assumption | ((with_reducible apply Src.ext); with_reducible assumption) | with_reducible refine Ext.alloc ?_ _ | with_reducible refine Ext.drew ?_ | with_reducible refine Ext.drewN ?_ _ | ((with_reducible refine Ext.setCell' ?_ ?_ _); solve | omega | simp | (simp; omega)) | (with_reducible refine Ext.trans ?_ (by with_reducible assumption)))))) (xs := [(px, pz)]) rfl (blk_p1 (by (repeat (first | with_reducible assumption | ((with_reducible apply Blk.new); solve | simp | rfl) | with_reducible apply Blk.drew | with_reducible apply Blk.drewN | ((with_reducible apply Blk.far'); solve | omega | simp | (simp; omega)) | with_reducible apply Blk.set_ | with_reducible apply Blk.alloc | ((with_reducible apply Blk.ext'); with_reducible assumption) | ((with_reducible apply Blk.but'); (with_reducible assumption); solve | omega | (simp; omega)))))) (by simp; unfold maxLen; omega) (by simp; omega) (by first | omega | (simp; omega)) ?_)
        intro v' w4 hown hgrow _
        have HV4 := Lib.hid hown
        have HS4 : Hid (Src a A c bs g w4) := Lib.hid ((HS3.out.alloc _).grownR hgrow (fun q hq => by have := (HV3.out.row q hq).1; omega))
        have HU4 : Hid (But g w1 w4) := Lib.hid ((HU3.out.alloc _).grownR hgrow (fun q hq => (HV3.out.row q hq).1))
        clear hown hgrow
        go_wp2
        go_roundw
        case rel => exact ⟨k - 1, ps ++ [(px, pz)], by omega, by go_num, by rw [List.length_append, List.length_singleton]; omega, by rw [List.length_append, List.length_singleton]; omega, HV4, HS4, HU4⟩
        case measure => simp [intOf]; omega
      · obtain rfl : k = 0 := by omega
        obtain ⟨A4, c4, rfl, hS4, hc4, _, hA4⟩ := HV.out.sl len_encP
        have hw1s := HU1.out.size
        go_wp2
        go_ret
        exact ⟨A4, c4, ps, rfl, hS4, hc4, ⟨by omega, by omega⟩, fun q hq => by have := hA4 q hq; omega, HSr.out, HU1.out.trans HUr.out⟩
  · have hb0 : (x1 == 0) = false := beq_eq_false_iff_ne.2 h1
    have HU1 := Lib.hid hu1
    have hgw1 : g < w1.heap.size := by omega
    go_wp2_with fail
    refine (s_l16Good (a := a) (A := A) (c := c) (bs := bs) _ hS1).mono ?_
    rintro e w2 ⟨v2, ps, rfl, hO2, hlen, hok, hS2, hu2⟩
    obtain ⟨hl3, hl10⟩ := hlen
    obtain ⟨g1, cap, cur, rfl, hbb, hB2, hcap, hmx, hcs, htk⟩ := hO2.open_ (by omega)
    obtain ⟨_, _, e2, hSl2, _⟩ := hO2.sl len_encP
    injection e2 with e2 e3 e4
    subst e2
    have hne : ¬ g1 = g := by omega
    have hs2 := hu2.size
    have HU2 := Lib.hid hu2
    have hg1w := hB2.lt
    clear hu1 hu2 hS1 hO2 htk e3 e4 hc1 hf1 h
    (go_wp2_with fail; refine (s_l01Next (a := a) (A := A) (c := c) (bs := bs) _ _ (by (repeat (first | with_reducible assumption | with_reducible refine Src.alloc ?_ _ | with_reducible refine Src.drew ?_ | with_reducible refine Src.drewN ?_ _ | ((with_reducible refine Src.far ?_ ?_ ?_ _); (solve | omega | (simp; omega) | simp); (solve | omega | (simp; omega) | simp)) | ((with_reducible apply Src.on'); with_reducible assumption)))) (by omega)).mono ?_; rintro e w3 ⟨x3, rfl, hb3, hS3, hu3⟩; obtain ⟨hc3, hf3⟩ := hu3.rules; have hs3 := hu3.size; (try simp at hs3); have := (show g < w3.heap.size from by omega); have := (show g1 < w3.heap.size from by omega))
    obtain ⟨k, rfl⟩ := Int.eq_ofNat_of_zero_le hb3.1
    have hk : k < ps.length := by omega
    (go_wp2_with fail; refine (s_l01Next (a := a) (A := A) (c := c) (bs := bs) _ _ (by (repeat (first | with_reducible assumption | with_reducible refine Src.alloc ?_ _ | with_reducible refine Src.drew ?_ | with_reducible refine Src.drewN ?_ _ | ((with_reducible refine Src.far ?_ ?_ ?_ _); (solve | omega | (simp; omega) | simp); (solve | omega | (simp; omega) | simp)) | ((with_reducible apply Src.on'); with_reducible assumption)))) (by omega)).mono ?_; rintro e w4 ⟨x4, rfl, hb4, hS4, hu4⟩; obtain ⟨hc4, hf4⟩ := hu4.rules; have hs4 := hu4.size; (try simp at hs4); have := (show g < w4.heap.size from by omega); have := (show g1 < w4.heap.size from by omega))
    have hB4 : Blk w4 g1 33 cur := Blk.but' hu4 hne (Blk.but' hu3 hne hB2)
    have hSl4 : SlAt w4 2 encP (some ⟨g1, 0, none⟩) ps := (hSl2.but1 hu3 hne).but1 hu4 hne
    have HU4 : Hid (But g w w4) := Lib.hid (((HU1.out.trans HU2.out).trans hu3).trans hu4)
    have hu4w := HU4.out.size
    clear hu3 hu4 hS2 hS3 hSl2 hB2 hc3 hf3 hc4 hf4
    by_cases h40 : x4 = 0
    · subst h40
      go_wp2_with fail
      refine (s_l15Draw (a := a) (A := A) (c := c) (bs := bs) _ hS4).mono ?_
      rintro e w5 ⟨p, rfl, hb5, hS5, hu5⟩
      obtain ⟨px, pz⟩ := p
      simp only at hb5
      have hB5 : Blk w5 g1 33 cur := Blk.but' hu5 hne hB4
      have HSL5 := Lib.hid (hSl4.but1 hu5 hne)
      have HU5 := Lib.hid (HU4.out.trans hu5)
      obtain ⟨u0, hu0⟩ : ∃ u, cur[k * 2]? = some u := ⟨_, Array.getElem?_eq_getElem (by omega)⟩
      obtain ⟨u1, hu1⟩ : ∃ u, cur[k * 2 + 1]? = some u := ⟨_, Array.getElem?_eq_getElem (by omega)⟩
      have c0 := (hB5.cell (k * 2)).trans hu0
      have c1 := (hB5.cell (k * 2 + 1)).trans hu1
      have f0 := hB5.frozen (k * 2)
      have f1 := hB5.frozen (k * 2 + 1)
      have hBl := hB5.lt
      have HB6 := Lib.hid ((hB5.set_ (k * 2) (.int .i64 px)).set_ (k * 2 + 1) (.int .i64 pz))
      have HB5 := Lib.hid hB5
      have HS5 := Lib.hid hS5
      have hu5w := HU5.out.size
      clear hu0 hu1 hu5 hS5 hS4 hSl4 hB4 hB5
      go_wp2
      go_ret
      refine ⟨some ⟨g1, 0, none⟩, cap, ps.set k (px, pz), by rw [List.length_set]; rfl, SlAt.set2 HSL5.out (by simp [World.setCell]) ?_ ?_ ?_, by rw [List.length_set]; exact hcap, by rw [List.length_set]; exact ⟨by omega, hl10⟩, fun q hq => by injection hq with hq; rw [← hq]; show w.heap.size ≤ g1; omega, ?_, ?_⟩
      · rw [Nat.zero_add, HB6.out.cell, Array.getElem?_setIfInBounds_ne (by omega), Array.getElem?_setIfInBounds_self_of_lt (by omega)]
      · rw [Nat.zero_add, HB6.out.cell, Array.getElem?_setIfInBounds_self_of_lt (by simp; omega)]
      · intro o h1 h2
        rw [HB6.out.cell, HB5.out.cell, Array.getElem?_setIfInBounds_ne (by omega), Array.getElem?_setIfInBounds_ne (by omega)]
      · exact Src.far (by show ¬ g = g1; omega) (by show a.heap.size ≤ g1; omega) (Src.far (by show ¬ g = g1; omega) (by show a.heap.size ≤ g1; omega) HS5.out _) _
      · exact (HU5.out.new (by show w.heap.size ≤ g1; omega) _).new (by show w.heap.size ≤ g1; omega) _
    · have hb40 : (x4 == 0) = false := beq_eq_false_iff_ne.2 h40
      by_cases h41 : x4 = 1
      · subst h41
        have hcap2 : 2 ≤ cap := by omega
        go_wp2
        go_ret
        exact ⟨some ⟨g1, 0, none⟩, cap, ps.take 2, by rw [List.length_take, Nat.min_eq_left (by omega)]; rfl, hSl4.take 2, by rw [List.length_take]; omega, ⟨by rw [List.length_take]; omega, by rw [List.length_take]; omega⟩, fun q hq => by injection hq with hq; rw [← hq]; show w.heap.size ≤ g1; omega, hS4, HU4.out⟩
      · have hb41 : (x4 == 1) = false := beq_eq_false_iff_ne.2 h41
        go_wp2
        go_ret
        exact ⟨_, _, ps, rfl, hSl4, hcap, ⟨by omega, hl10⟩, fun q hq => by injection hq with hq; rw [← hq]; show w.heap.size ≤ g1; omega, hS4, HU4.out⟩
set_option maxHeartbeats 6400000 in
theorem s_DrawNormalRing (A : Option Addr) (c : Nat) (bs : List Int) (w : World) (h : SlAt w 1 encB A bs) (hb : ∀ b ∈ bs, 0 ≤ b ∧ b ≤ 255) (hl : bs.length ≤ 4096) :
    Calls Try.prog 8 #[.slice A bs.length c] w fun e w' => ∃ A' c' ps, e = .returned (.slice A' ps.length c') ∧ SlAt w' 2 encP A' ps ∧ ps.length ≤ c' ∧ (2 ≤ ps.length ∧ ps.length ≤ 10) ∧ Ext w w' := by
  have HB := Lib.hid hb
  clear hb
  go_enter Try.func8, Try.ntmps8
  go_wp2_with fail
  refine (s_l01From _ _ bs _ (h.ext (by (repeat (first | with_reducible exact Ext.refl _ | with_reducible assumption | ((with_reducible apply Src.ext); with_reducible assumption) | with_reducible refine Ext.alloc ?_ _ | with_reducible refine Ext.drew ?_ | with_reducible refine Ext.drewN ?_ _ | ((with_reducible refine Ext.setCell' ?_ ?_ _); solve | omega | simp | (simp; omega)) | (with_reducible refine Ext.trans ?_ (by with_reducible assumption)))))) HB.out hl).mono ?_
  rintro e w0 ⟨g, rfl, hS0⟩
  go_wp2_with fail
  refine (s_l16Draw (a := w) (A := A) (c := c) (bs := bs) _ hS0).mono ?_
  rintro e w1 ⟨A', c', ps, rfl, hS1, hc1, hl1, _, hSr, _⟩
  have HX := Lib.hid hSr.ext
  go_wp2
  go_ret
  exact ⟨A', c', ps, rfl, hS1, hc1, hl1, HX.out⟩
set_option maxHeartbeats 6400000 in
theorem s_DrawEdgesOf (A : Option Addr) (c : Nat) (bs : List Int) (w : World) (h : SlAt w 1 encB A bs) (hb : ∀ b ∈ bs, 0 ≤ b ∧ b ≤ 255) (hl : bs.length ≤ 4096) :
    Calls Try.prog 37 #[.slice A bs.length c] w fun e w' => ∃ A' c' ps, e = .returned (.slice A' ps.length c') ∧ SlAt w' 2 encP A' ps ∧ ps.length ≤ c' ∧ (2 ≤ ps.length ∧ ps.length ≤ 10) ∧ Ext w w' := by
  have HB := Lib.hid hb
  clear hb
  go_enter Try.func37, Try.ntmps37
  go_wp2_with fail
  refine (s_l01From _ _ bs _ (h.ext (by (repeat (first | with_reducible exact Ext.refl _ | with_reducible assumption | ((with_reducible apply Src.ext); with_reducible assumption) | with_reducible refine Ext.alloc ?_ _ | with_reducible refine Ext.drew ?_ | with_reducible refine Ext.drewN ?_ _ | ((with_reducible refine Ext.setCell' ?_ ?_ _); solve | omega | simp | (simp; omega)) | (with_reducible refine Ext.trans ?_ (by with_reducible assumption)))))) HB.out hl).mono ?_
  rintro e w0 ⟨g, rfl, hS0⟩
  go_wp2_with fail
  refine (s_l16Draw (a := w) (A := A) (c := c) (bs := bs) _ hS0).mono ?_
  rintro e w1 ⟨A', c', ps, rfl, hS1, hc1, hl1, _, hSr, _⟩
  have HX := Lib.hid hSr.ext
  go_wp2
  go_ret
  exact ⟨A', c', ps, rfl, hS1, hc1, hl1, HX.out⟩
set_option maxHeartbeats 6400000 in
theorem s_DrawSideOf (A : Option Addr) (c : Nat) (bs : List Int) (w : World) (h : SlAt w 1 encB A bs) (hb : ∀ b ∈ bs, 0 ≤ b ∧ b ≤ 255) (hl : bs.length ≤ 4096) :
    Calls Try.prog 21 #[.slice A bs.length c] w fun e w' => ∃ (A' : Option Addr) (c' : Nat) (ps : List (Int × Int)) (x z : Int), e = .returned (.tuple #[.slice A' ps.length c', .agg #[.int .i64 x, .int .i64 z]]) ∧ SlAt w' 2 encP A' ps ∧ ps.length ≤ c' ∧ (2 ≤ ps.length ∧ ps.length ≤ 10) ∧ Ext w w' := by
  have HB := Lib.hid hb
  clear hb
  go_enter Try.func21, Try.ntmps21
  go_wp2_with fail
  refine (s_l01From _ _ bs _ (h.ext (by (repeat (first | with_reducible exact Ext.refl _ | with_reducible assumption | ((with_reducible apply Src.ext); with_reducible assumption) | with_reducible refine Ext.alloc ?_ _ | with_reducible refine Ext.drew ?_ | with_reducible refine Ext.drewN ?_ _ | ((with_reducible refine Ext.setCell' ?_ ?_ _); solve | omega | simp | (simp; omega)) | (with_reducible refine Ext.trans ?_ (by with_reducible assumption)))))) HB.out hl).mono ?_
  rintro e w0 ⟨g, rfl, hS0⟩
  have hx0 := hS0.ext
  obtain ⟨hg, hgl⟩ := src_facts hS0
  have hs0 := hx0.size
  simp at hg hs0
  have B0 : Blk w0 w.heap.size 33 #[.int .i64 0, .int .i64 0] := Blk.eq (by (repeat (first | with_reducible assumption | ((with_reducible apply Blk.new); solve | simp | rfl) | with_reducible apply Blk.drew | with_reducible apply Blk.drewN | ((with_reducible apply Blk.far'); solve | omega | simp | (simp; omega)) | with_reducible apply Blk.set_ | with_reducible apply Blk.alloc | ((with_reducible apply Blk.ext'); with_reducible assumption) | ((with_reducible apply Blk.but'); (with_reducible assumption); solve | omega | (simp; omega))))) (by rfl)
  have hq0 : ¬ w.heap.size = g := by omega
  have hSw : Src w A c bs g w0 := hS0.base (by (repeat (first | with_reducible exact Ext.refl _ | with_reducible assumption | ((with_reducible apply Src.ext); with_reducible assumption) | with_reducible refine Ext.alloc ?_ _ | with_reducible refine Ext.drew ?_ | with_reducible refine Ext.drewN ?_ _ | ((with_reducible refine Ext.setCell' ?_ ?_ _); solve | omega | simp | (simp; omega)) | (with_reducible refine Ext.trans ?_ (by with_reducible assumption))))) h
  clear hS0
  go_wp2_with fail
  refine (s_l16Draw (a := w) (A := A) (c := c) (bs := bs) _ hSw).mono ?_
  rintro e w1 ⟨A', c', ps, rfl, hS1, hc1, hl1, hA1, hSr1, hu1⟩
  have hs1 := hu1.size
  have B1 : Blk w1 w.heap.size 33 #[.int .i64 0, .int .i64 0] := B0.but' hu1 hq0
  obtain ⟨b, off, rfl, hb, d0, d1⟩ := hS1.pt (k := 0) (by omega)
  have hbw : w0.heap.size ≤ b := hA1 _ rfl
  generalize ps.getD 0 (0, 0) = p at *
  obtain ⟨x0, z0⟩ := p
  simp only [Nat.zero_mul, Nat.add_zero] at d0 d1
  have hgl1 := hSr1.lt
  have nb1 : ¬ w1.heap.size = g := by omega
  have nb2 : ¬ w1.heap.size = w.heap.size := by omega
  have nb3 : ¬ b = g := by omega
  have nb4 : ¬ b = w.heap.size := by omega
  have nb5 : ¬ w1.heap.size = b := by omega
  have HS1 := Lib.hid hS1
  have HC1 := Lib.hid hc1
  have HL1 := Lib.hid hl1
  clear hS1 hc1 hA1 hu1 hSw hx0 B0
  have nb6 : ¬ b = w1.heap.size := by omega
  have nb7 : ¬ w.heap.size = w1.heap.size := by omega
  have nb8 : w.heap.size < w1.heap.size := by omega
  have hxa : Ext w1 (w1.alloc (.cells #[.int .i64 x0, .int .i64 z0] 33)) := (Ext.refl w1).alloc _
  have B2 : Blk (w1.alloc (.cells #[.int .i64 x0, .int .i64 z0] 33)) w1.heap.size 33 #[.int .i64 x0, .int .i64 z0] := Blk.new rfl
  have B1a := B1.ext hxa
  have HSL := Lib.hid (HS1.out.ext hxa)
  have c20 : (w1.alloc (.cells #[.int .i64 x0, .int .i64 z0] 33)).cell? ⟨w1.heap.size, 0, none⟩ = some (.int .i64 x0) := B2.cell 0
  have hSA : Src w A c bs g (w1.alloc (.cells #[.int .i64 x0, .int .i64 z0] 33)) := hSr1.alloc _
  have hza : w1.heap.size < (w1.alloc (.cells #[.int .i64 x0, .int .i64 z0] 33)).heap.size := by simp
  go_upto_region 4 with (fail)
  go_cut [] (fun wx => ∃ x : Int, Hid (Blk wx w1.heap.size 33 #[.int .i64 x, .int .i64 z0]) ∧ Hid (Blk wx w.heap.size 33 #[.int .i64 0, .int .i64 0]) ∧ Hid (SlAt wx 2 encP (some ⟨b, off, none⟩) ps) ∧ Hid (Src w A c bs g wx) ∧ w1.heap.size < wx.heap.size)
  case first =>
    go_region_with (first | (go_at_call 71; refine (s_l01Next (a := w) (A := A) (c := c) (bs := bs) _ _ (by (repeat (first | with_reducible assumption | with_reducible refine Src.alloc ?_ _ | with_reducible refine Src.drew ?_ | with_reducible refine Src.drewN ?_ _ | ((with_reducible refine Src.far ?_ ?_ ?_ _); (solve | omega | (simp; omega) | simp); (solve | omega | (simp; omega) | simp)) | ((with_reducible apply Src.on'); with_reducible assumption)))) (by omega)).mono ?_; rintro e w3 ⟨x3, rfl, hb3, hS3, hu3⟩; obtain ⟨hc3, hf3⟩ := hu3.rules; have hs3 := hu3.size; (try simp at hs3); have hl3 : ∀ n, n < _ → n < w3.heap.size := fun n h => Nat.lt_of_lt_of_le h hu3.size; have := (show w.heap.size < w3.heap.size from by omega); have := (show w1.heap.size < w3.heap.size from by omega); have := (show b < w3.heap.size from by omega); have := (show g < w3.heap.size from by omega)))
    all_goals (go_wp2_with fail; go_meet; exact ⟨_, Lib.hid (Blk.eq (by (repeat (first | with_reducible assumption | ((with_reducible apply Blk.new); solve | simp | rfl) | with_reducible apply Blk.drew | with_reducible apply Blk.drewN | ((with_reducible apply Blk.far'); solve | omega | simp | (simp; omega)) | with_reducible apply Blk.set_ | with_reducible apply Blk.alloc | ((with_reducible apply Blk.ext'); with_reducible assumption) | ((with_reducible apply Blk.but'); (with_reducible assumption); solve | omega | (simp; omega))))) (by rfl)), Lib.hid (by (repeat (first | with_reducible assumption | ((with_reducible apply Blk.new); solve | simp | rfl) | with_reducible apply Blk.drew | with_reducible apply Blk.drewN | ((with_reducible apply Blk.far'); solve | omega | simp | (simp; omega)) | with_reducible apply Blk.set_ | with_reducible apply Blk.alloc | ((with_reducible apply Blk.ext'); with_reducible assumption) | ((with_reducible apply Blk.but'); (with_reducible assumption); solve | omega | (simp; omega))))), Lib.hid (((HSL.out.ext (by (repeat (first | with_reducible exact Ext.refl _ | with_reducible assumption | ((with_reducible apply Src.ext); with_reducible assumption) | with_reducible refine Ext.alloc ?_ _ | with_reducible refine Ext.drew ?_ | with_reducible refine Ext.drewN ?_ _ | ((with_reducible refine Ext.setCell' ?_ ?_ _); solve | omega | simp | (simp; omega)) | (with_reducible refine Ext.trans ?_ (by with_reducible assumption)))))).but1 hu3 nb3).but1 (g := w1.heap.size) (by (repeat (first | with_reducible exact But.refl _ _ | with_reducible assumption | with_reducible refine But.alloc ?_ _ | with_reducible refine But.drew ?_ | with_reducible refine But.drewN ?_ _ | with_reducible refine But.set_ ?_ _ _ | ((with_reducible refine But.new ?_ ?_ _); solve | omega | simp | (simp; omega)) | (with_reducible refine But.trans ?_ (by with_reducible assumption)) | (with_reducible refine But.trans ?_ (But.of (by with_reducible assumption)))))) nb6), Lib.hid (by (repeat (first | with_reducible assumption | with_reducible refine Src.alloc ?_ _ | with_reducible refine Src.drew ?_ | with_reducible refine Src.drewN ?_ _ | ((with_reducible refine Src.far ?_ ?_ ?_ _); (solve | omega | (simp; omega) | simp); (solve | omega | (simp; omega) | simp)) | ((with_reducible apply Src.on'); with_reducible assumption)))), by first | (simp; omega) | omega⟩)
  case rest =>
  obtain ⟨wd, rfl⟩ : ∃ x, x = wc := ⟨wc, rfl⟩
  obtain ⟨x, HB2, HB0, HSL2, HSr2, hlc⟩ := hcut
  have B3 := HB2.out
  have B03 := HB0.out
  have hSr3 := HSr2.out
  have c31 : wd.cell? ⟨w1.heap.size, 1, none⟩ = some (.int .i64 z0) := B3.cell 1
  have f30 : wd.frozen? ⟨w1.heap.size, 0, none⟩ = false := B3.frozen 0
  have f31 : wd.frozen? ⟨w1.heap.size, 1, none⟩ = false := B3.frozen 1
  have c30 : wd.cell? ⟨w1.heap.size, 0, none⟩ = some (.int .i64 x) := B3.cell 0
  have hq3 : ¬ wd.heap.size = g := by have := HSr2.out.lt; omega
  have hgl3 := hSr3.lt
  have hbl3 : b < wd.heap.size := by omega
  have hwl3 : w.heap.size < wd.heap.size := by omega
  clear B1 B1a B2 c20 hSA hza hxa HSL hSr1 d0 d1
  go_upto_region 5 with (fail)
  go_cut [] (fun wx => ∃ z : Int, Hid (Blk wx w1.heap.size 33 #[.int .i64 x, .int .i64 z]) ∧ Hid (Blk wx w.heap.size 33 #[.int .i64 0, .int .i64 0]) ∧ Hid (SlAt wx 2 encP (some ⟨b, off, none⟩) ps) ∧ Hid (Src w A c bs g wx) ∧ w1.heap.size < wx.heap.size)
  case first =>
    go_region_with (first | ((go_at_call 71; refine (s_l01Next (a := w) (A := A) (c := c) (bs := bs) _ _ (by (repeat (first | with_reducible assumption | with_reducible refine Src.alloc ?_ _ | with_reducible refine Src.drew ?_ | with_reducible refine Src.drewN ?_ _ | ((with_reducible refine Src.far ?_ ?_ ?_ _); (solve | omega | (simp; omega) | simp); (solve | omega | (simp; omega) | simp)) | ((with_reducible apply Src.on'); with_reducible assumption)))) (by omega)).mono ?_; rintro e w4 ⟨x4, rfl, hb4, hS4, hu4⟩; obtain ⟨hc4, hf4⟩ := hu4.rules; have hs4 := hu4.size; (try simp at hs4); have hl4 : ∀ n, n < _ → n < w4.heap.size := fun n h => Nat.lt_of_lt_of_le h hu4.size; have := (show w.heap.size < w4.heap.size from by omega); have := (show w1.heap.size < w4.heap.size from by omega); have := (show b < w4.heap.size from by omega); have := (show g < w4.heap.size from by omega)); have q1 : w4.cell? ⟨w1.heap.size, 1, none⟩ = some (.int .i64 z0) := (hc4 w1.heap.size 1 (by simpa using hlc) nb1).trans c31; have q2 : w4.frozen? ⟨w1.heap.size, 1, none⟩ = false := (hf4 w1.heap.size 1 (by simpa using hlc) nb1).trans f31; clear hc4 hf4))
    all_goals (go_wp2_with fail; go_meet; exact ⟨_, Lib.hid (Blk.eq (by (repeat (first | with_reducible assumption | ((with_reducible apply Blk.new); solve | simp | rfl) | with_reducible apply Blk.drew | with_reducible apply Blk.drewN | ((with_reducible apply Blk.far'); solve | omega | simp | (simp; omega)) | with_reducible apply Blk.set_ | with_reducible apply Blk.alloc | ((with_reducible apply Blk.ext'); with_reducible assumption) | ((with_reducible apply Blk.but'); (with_reducible assumption); solve | omega | (simp; omega))))) (by rfl)), Lib.hid (by (repeat (first | with_reducible assumption | ((with_reducible apply Blk.new); solve | simp | rfl) | with_reducible apply Blk.drew | with_reducible apply Blk.drewN | ((with_reducible apply Blk.far'); solve | omega | simp | (simp; omega)) | with_reducible apply Blk.set_ | with_reducible apply Blk.alloc | ((with_reducible apply Blk.ext'); with_reducible assumption) | ((with_reducible apply Blk.but'); (with_reducible assumption); solve | omega | (simp; omega))))), Lib.hid (((HSL2.out.ext (by (repeat (first | with_reducible exact Ext.refl _ | with_reducible assumption | ((with_reducible apply Src.ext); with_reducible assumption) | with_reducible refine Ext.alloc ?_ _ | with_reducible refine Ext.drew ?_ | with_reducible refine Ext.drewN ?_ _ | ((with_reducible refine Ext.setCell' ?_ ?_ _); solve | omega | simp | (simp; omega)) | (with_reducible refine Ext.trans ?_ (by with_reducible assumption)))))).but1 hu4 nb3).but1 (g := w1.heap.size) (by (repeat (first | with_reducible exact But.refl _ _ | with_reducible assumption | with_reducible refine But.alloc ?_ _ | with_reducible refine But.drew ?_ | with_reducible refine But.drewN ?_ _ | with_reducible refine But.set_ ?_ _ _ | ((with_reducible refine But.new ?_ ?_ _); solve | omega | simp | (simp; omega)) | (with_reducible refine But.trans ?_ (by with_reducible assumption)) | (with_reducible refine But.trans ?_ (But.of (by with_reducible assumption)))))) nb6), Lib.hid (by (repeat (first | with_reducible assumption | with_reducible refine Src.alloc ?_ _ | with_reducible refine Src.drew ?_ | with_reducible refine Src.drewN ?_ _ | ((with_reducible refine Src.far ?_ ?_ ?_ _); (solve | omega | (simp; omega) | simp); (solve | omega | (simp; omega) | simp)) | ((with_reducible apply Src.on'); with_reducible assumption)))), by first | (simp; omega) | omega⟩)
  case rest =>
  obtain ⟨we, rfl⟩ : ∃ x, x = wc := ⟨wc, rfl⟩
  obtain ⟨z, HB4, HB5, HSL4, HSr4, hlc4⟩ := hcut
  have B4 := HB4.out
  have B5 := HB5.out
  have hXe := HSr4.out.ext
  have c40 : we.cell? ⟨w1.heap.size, 0, none⟩ = some (.int .i64 x) := B4.cell 0
  have c41 : we.cell? ⟨w1.heap.size, 1, none⟩ = some (.int .i64 z) := B4.cell 1
  have c50 : we.cell? ⟨w.heap.size, 0, none⟩ = some (.int .i64 0) := B5.cell 0
  have c51 : we.cell? ⟨w.heap.size, 1, none⟩ = some (.int .i64 0) := B5.cell 1
  have f50 := B5.frozen 0
  have f51 := B5.frozen 1
  have hl5 := B5.lt
  clear B3 B03 hSr3 c31 c30 f30 f31
  go_upto_region 6 with (fail)
  go_region
  all_goals (go_wp2; refine ret_pts1 (b0 := w.heap.size) (t := 33) (v := .tuple #[.slice (some ⟨b, off, none⟩) ps.length c', .agg #[.int .i64 x, .int .i64 z]]) (Blk.eq (by (repeat (first | with_reducible assumption | ((with_reducible apply Blk.new); solve | simp | rfl) | with_reducible apply Blk.drew | with_reducible apply Blk.drewN | ((with_reducible apply Blk.far'); solve | omega | simp | (simp; omega)) | with_reducible apply Blk.set_ | with_reducible apply Blk.alloc | ((with_reducible apply Blk.ext'); with_reducible assumption) | ((with_reducible apply Blk.but'); (with_reducible assumption); solve | omega | (simp; omega))))) (by rfl)) rfl (by intro W' r0 r1; simp [results, Try.results21, go_sem, r0, r1]) ⟨_, c', ps, x, z, rfl, (HSL4.out.ext (by (repeat (first | with_reducible exact Ext.refl _ | with_reducible assumption | ((with_reducible apply Src.ext); with_reducible assumption) | with_reducible refine Ext.alloc ?_ _ | with_reducible refine Ext.drew ?_ | with_reducible refine Ext.drewN ?_ _ | ((with_reducible refine Ext.setCell' ?_ ?_ _); solve | omega | simp | (simp; omega)) | (with_reducible refine Ext.trans ?_ (by with_reducible assumption)))))).but1 (g := w.heap.size) (by (repeat (first | with_reducible exact But.refl _ _ | with_reducible assumption | with_reducible refine But.alloc ?_ _ | with_reducible refine But.drew ?_ | with_reducible refine But.drewN ?_ _ | with_reducible refine But.set_ ?_ _ _ | ((with_reducible refine But.new ?_ ?_ _); solve | omega | simp | (simp; omega)) | (with_reducible refine But.trans ?_ (by with_reducible assumption)) | (with_reducible refine But.trans ?_ (But.of (by with_reducible assumption)))))) nb4, HC1.out, HL1.out, by (repeat (first | with_reducible exact Ext.refl _ | with_reducible assumption | ((with_reducible apply Src.ext); with_reducible assumption) | with_reducible refine Ext.alloc ?_ _ | with_reducible refine Ext.drew ?_ | with_reducible refine Ext.drewN ?_ _ | ((with_reducible refine Ext.setCell' ?_ ?_ _); solve | omega | simp | (simp; omega)) | (with_reducible refine Ext.trans ?_ (by with_reducible assumption))))⟩)

end Go.Proofs.Yteppjdoggjcdoaa
