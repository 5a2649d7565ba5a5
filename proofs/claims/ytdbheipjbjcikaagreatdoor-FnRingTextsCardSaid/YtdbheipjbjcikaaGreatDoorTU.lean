/- Draws of rings, walked over the translation. -/
import Derived.Test.YtdbheipjbjcikaaGreatDoorTJ
import Derived.Test.YtdbheipjbjcikaaGreatDoorTM
import Derived.Deep.RegionHeld3
import Derived.Deep.DeepCutAuto
import Derived.RegionTactic
import Derived.BigRegion
import Derived.WalkLawsBesides
import Derived.WalkSpells
import Derived.Lib.MinMax
import Derived.Outline
namespace Go.Proofs.YtdbheipjbjcikaaGreatDoor
open Go.RowKit
attribute [local go_sem] ExtOf.cell ExtOf.frozen

theorem SlAt.butG {α : Type} {enc : α → List Value} {sz g : Nat} {w w' : World} {A : Option Addr} {xs : List α} (h : SlAt w sz enc A xs) (hm : But g w w') (ha : ∀ q, A = some q → ¬ q.block = g) : SlAt w' sz enc A xs := fun hn => by
  obtain ⟨b, off, e, hb, hc⟩ := h hn
  refine ⟨b, off, e, Nat.lt_of_lt_of_le hb hm.size, fun i x hi j u hj => ?_⟩
  exact (World.cell?_of_block (a := ⟨b, off + i * sz + j, none⟩) (hm.block b hb (ha _ e))).trans (hc i x hi j u hj)
theorem SlAt.but1 {α : Type} {enc : α → List Value} {sz g b off : Nat} {w w' : World} {xs : List α} (h : SlAt w sz enc (some ⟨b, off, none⟩) xs) (hm : But g w w') (ha : ¬ b = g) : SlAt w' sz enc (some ⟨b, off, none⟩) xs := h.butG hm fun q e => by injection e with e; rw [← e]; exact ha
/-- no corner beyond 0 and 8 -/
def small8 (q : List (Int × Int)) : Prop := ∀ i : Int, (0 ≤ ptx q i ∧ ptx q i ≤ 8) ∧ 0 ≤ ptz q i ∧ ptz q i ≤ 8
theorem small8_of {q : List (Int × Int)} (h : (q.all fun p => decide (0 ≤ p.1) && decide (p.1 ≤ 8) && decide (0 ≤ p.2) && decide (p.2 ≤ 8)) = true) : small8 q := fun i => by
  have hm : ∀ k, (0 ≤ (q.getD k (0, 0)).1 ∧ (q.getD k (0, 0)).1 ≤ 8) ∧ 0 ≤ (q.getD k (0, 0)).2 ∧ (q.getD k (0, 0)).2 ≤ 8 := fun k => by
    rcases Nat.lt_or_ge k q.length with hk | hk
    · have := List.all_eq_true.1 h (q.getD k (0, 0)) (by simp [List.getD, hk])
      simpa [and_assoc] using this
    · rw [List.getD_eq_getElem?_getD, List.getElem?_eq_none hk]
      simp
  exact hm _
theorem mul8 {sc p : Int} (h0 : 1 ≤ sc) (h1 : sc ≤ 3) (p0 : 0 ≤ p) (p1 : p ≤ 8) : 0 ≤ sc * p ∧ sc * p ≤ 24 := by
  rcases (show sc = 1 ∨ sc = 2 ∨ sc = 3 by omega) with rfl | rfl | rfl <;> omega
theorem oks_snoc {ps : List (Int × Int)} {x z : Int} (h : oks ps = true) (hx : -29 ≤ x ∧ x ≤ 29) (hz : -29 ≤ z ∧ z ≤ 29) : oks (ps ++ [(x, z)]) = true := by
  unfold oks at *
  rw [List.all_append, h]
  simp [okP, inB]
  omega
theorem Own.but {α : Type} {enc : α → List Value} {sz g base : Nat} {t : TypeId} {w w' : World} {v : Value} {xs : List α} (h : Own enc sz t w base v xs) (hm : But g w w') (hb : g < base) : Own enc sz t w' base v xs := by
  refine ⟨h.1, ?_⟩
  rcases h.2 with hn | ⟨q, cap, cur, rfl, hbb, hgg, rest⟩
  · exact .inl hn
  · refine .inr ⟨q, cap, cur, rfl, hbb, ?_, rest⟩
    rw [hm.block q (Array.getElem?_eq_some_iff.1 hgg).1 (by omega)]
    exact hgg

set_option maxRecDepth 20000 in
set_option maxHeartbeats 12800000 in
theorem s_l16Good {a : World} {A : Option Addr} {c : Nat} {bs : List Int} {g : Nat} (w : World) (h : Src a A c bs g w) :
    Calls Tryz.prog 68 #[.pointer (some ⟨g, 0, none⟩)] w fun e w' => ∃ v ps, e = .returned v ∧ OwP w' w.heap.size v ps ∧ (3 ≤ ps.length ∧ ps.length ≤ 10) ∧ oks ps = true ∧ Src a A c bs g w' ∧ But g w w' := by
  have hlt := h.lt
  have how := h.own
  have hasz := h.ext.size
  go_enter Tryz.func68, Tryz.ntmps68
  (go_wp2_with fail; refine (s_l01Next (a := a) (A := A) (c := c) (bs := bs) _ _ (by (repeat (first | with_reducible assumption | with_reducible refine Src.alloc ?_ _ | with_reducible refine Src.drew ?_ | with_reducible refine Src.drewN ?_ _ | ((with_reducible refine Src.far ?_ ?_ ?_ _); (solve | omega | (simp; omega) | simp); (solve | omega | (simp; omega) | simp)) | ((with_reducible apply Src.on'); with_reducible assumption)))) (by omega)).mono ?_; rintro e w1 ⟨x1, rfl, hb1, hS1, hu1⟩; obtain ⟨hc1, hf1⟩ := hu1.rules; have hs1 := hu1.size; (try simp at hs1); have := (show g < w1.heap.size from by omega))
  have HT : Hid (Blk w1 (w.heap.size + 1 + 1 + 1 + 1 + 1) 30 #[.slice (some ⟨w.heap.size, 0, none⟩) 4 4, .slice (some ⟨w.heap.size + 1, 0, none⟩) 3 3, .slice (some ⟨w.heap.size + 1 + 1, 0, none⟩) 6 6, .slice (some ⟨w.heap.size + 1 + 1 + 1, 0, none⟩) 8 8, .slice (some ⟨w.heap.size + 1 + 1 + 1 + 1, 0, none⟩) 10 10]) := Lib.hid (Blk.eq (by (repeat (first | with_reducible assumption | ((with_reducible apply Blk.new); solve | simp | rfl) | with_reducible apply Blk.drew | with_reducible apply Blk.drewN | ((with_reducible apply Blk.far'); solve | omega | simp | (simp; omega)) | with_reducible apply Blk.set_ | with_reducible apply Blk.alloc | ((with_reducible apply Blk.ext'); with_reducible assumption) | ((with_reducible apply Blk.but'); (with_reducible assumption); solve | omega | (simp; omega))))) (by rfl))
  have hpick : ∃ (g1 : Nat) (q : List (Int × Int)), w1.cell? ⟨w.heap.size + 1 + 1 + 1 + 1 + 1, x1.toNat, none⟩ = some (.slice (some ⟨g1, 0, none⟩) q.length q.length) ∧ SlAt w1 2 encP (some ⟨g1, 0, none⟩) q ∧ 3 ≤ q.length ∧ q.length ≤ 10 ∧ small8 q ∧ g1 < w1.heap.size ∧ ¬ g1 = g := by
    rcases (show x1 = 0 ∨ x1 = 1 ∨ x1 = 2 ∨ x1 = 3 ∨ x1 = 4 by omega) with rfl | rfl | rfl | rfl | rfl
    · have hB : Blk w1 (w.heap.size) 70 #[.int .i64 0, .int .i64 0, .int .i64 4, .int .i64 0, .int .i64 4, .int .i64 3, .int .i64 0, .int .i64 3] := Blk.eq (by (repeat (first | with_reducible assumption | ((with_reducible apply Blk.new); solve | simp | rfl) | with_reducible apply Blk.drew | with_reducible apply Blk.drewN | ((with_reducible apply Blk.far'); solve | omega | simp | (simp; omega)) | with_reducible apply Blk.set_ | with_reducible apply Blk.alloc | ((with_reducible apply Blk.ext'); with_reducible assumption) | ((with_reducible apply Blk.but'); (with_reducible assumption); solve | omega | (simp; omega))))) (by rfl)
      exact ⟨w.heap.size, [(0, 0), (4, 0), (4, 3), (0, 3)], HT.out.cell 0, hB.sl rfl len_encP, by decide, by decide, small8_of (by decide), hB.lt, by omega⟩
    · have hB : Blk w1 (w.heap.size + 1) 70 #[.int .i64 0, .int .i64 0, .int .i64 6, .int .i64 0, .int .i64 0, .int .i64 4] := Blk.eq (by (repeat (first | with_reducible assumption | ((with_reducible apply Blk.new); solve | simp | rfl) | with_reducible apply Blk.drew | with_reducible apply Blk.drewN | ((with_reducible apply Blk.far'); solve | omega | simp | (simp; omega)) | with_reducible apply Blk.set_ | with_reducible apply Blk.alloc | ((with_reducible apply Blk.ext'); with_reducible assumption) | ((with_reducible apply Blk.but'); (with_reducible assumption); solve | omega | (simp; omega))))) (by rfl)
      exact ⟨w.heap.size + 1, [(0, 0), (6, 0), (0, 4)], HT.out.cell 1, hB.sl rfl len_encP, by decide, by decide, small8_of (by decide), hB.lt, by omega⟩
    · have hB : Blk w1 (w.heap.size + 1 + 1) 70 #[.int .i64 0, .int .i64 0, .int .i64 6, .int .i64 0, .int .i64 6, .int .i64 6, .int .i64 4, .int .i64 6, .int .i64 4, .int .i64 2, .int .i64 0, .int .i64 2] := Blk.eq (by (repeat (first | with_reducible assumption | ((with_reducible apply Blk.new); solve | simp | rfl) | with_reducible apply Blk.drew | with_reducible apply Blk.drewN | ((with_reducible apply Blk.far'); solve | omega | simp | (simp; omega)) | with_reducible apply Blk.set_ | with_reducible apply Blk.alloc | ((with_reducible apply Blk.ext'); with_reducible assumption) | ((with_reducible apply Blk.but'); (with_reducible assumption); solve | omega | (simp; omega))))) (by rfl)
      exact ⟨w.heap.size + 1 + 1, [(0, 0), (6, 0), (6, 6), (4, 6), (4, 2), (0, 2)], HT.out.cell 2, hB.sl rfl len_encP, by decide, by decide, small8_of (by decide), hB.lt, by omega⟩
    · have hB : Blk w1 (w.heap.size + 1 + 1 + 1) 70 #[.int .i64 0, .int .i64 0, .int .i64 5, .int .i64 1, .int .i64 8, .int .i64 0, .int .i64 7, .int .i64 4, .int .i64 8, .int .i64 8, .int .i64 4, .int .i64 6, .int .i64 0, .int .i64 8, .int .i64 1, .int .i64 4] := Blk.eq (by (repeat (first | with_reducible assumption | ((with_reducible apply Blk.new); solve | simp | rfl) | with_reducible apply Blk.drew | with_reducible apply Blk.drewN | ((with_reducible apply Blk.far'); solve | omega | simp | (simp; omega)) | with_reducible apply Blk.set_ | with_reducible apply Blk.alloc | ((with_reducible apply Blk.ext'); with_reducible assumption) | ((with_reducible apply Blk.but'); (with_reducible assumption); solve | omega | (simp; omega))))) (by rfl)
      exact ⟨w.heap.size + 1 + 1 + 1, [(0, 0), (5, 1), (8, 0), (7, 4), (8, 8), (4, 6), (0, 8), (1, 4)], HT.out.cell 3, hB.sl rfl len_encP, by decide, by decide, small8_of (by decide), hB.lt, by omega⟩
    · have hB : Blk w1 (w.heap.size + 1 + 1 + 1 + 1) 70 #[.int .i64 0, .int .i64 0, .int .i64 8, .int .i64 0, .int .i64 8, .int .i64 5, .int .i64 6, .int .i64 5, .int .i64 6, .int .i64 2, .int .i64 4, .int .i64 2, .int .i64 4, .int .i64 5, .int .i64 2, .int .i64 5, .int .i64 2, .int .i64 2, .int .i64 0, .int .i64 2] := Blk.eq (by (repeat (first | with_reducible assumption | ((with_reducible apply Blk.new); solve | simp | rfl) | with_reducible apply Blk.drew | with_reducible apply Blk.drewN | ((with_reducible apply Blk.far'); solve | omega | simp | (simp; omega)) | with_reducible apply Blk.set_ | with_reducible apply Blk.alloc | ((with_reducible apply Blk.ext'); with_reducible assumption) | ((with_reducible apply Blk.but'); (with_reducible assumption); solve | omega | (simp; omega))))) (by rfl)
      exact ⟨w.heap.size + 1 + 1 + 1 + 1, [(0, 0), (8, 0), (8, 5), (6, 5), (6, 2), (4, 2), (4, 5), (2, 5), (2, 2), (0, 2)], HT.out.cell 4, hB.sl rfl len_encP, by decide, by decide, small8_of (by decide), hB.lt, by omega⟩
  obtain ⟨g1, q, hcell, hS, hq3, hq10, h8, hg1, hne⟩ := hpick
  obtain ⟨j, rfl⟩ := Int.eq_ofNat_of_zero_le hb1.1
  rw [Int.toNat_natCast] at hcell
  have H8 := Lib.hid h8
  have hj5 : j < 5 := by omega
  have hbt : w.heap.size + 1 + 1 + 1 + 1 + 1 < w1.heap.size := by omega
  clear h8 h
  (go_wp2_with fail; refine (s_l01Next (a := a) (A := A) (c := c) (bs := bs) _ _ (by (repeat (first | with_reducible assumption | with_reducible refine Src.alloc ?_ _ | with_reducible refine Src.drew ?_ | with_reducible refine Src.drewN ?_ _ | ((with_reducible refine Src.far ?_ ?_ ?_ _); (solve | omega | (simp; omega) | simp); (solve | omega | (simp; omega) | simp)) | ((with_reducible apply Src.on'); with_reducible assumption)))) (by omega)).mono ?_; rintro e w2 ⟨x2, rfl, hb2, hS2, hu2⟩; obtain ⟨hc2, hf2⟩ := hu2.rules; have hs2 := hu2.size; (try simp at hs2); have := (show g < w2.heap.size from by omega); have := (show g1 < w2.heap.size from by omega))
  obtain ⟨ox, hox⟩ : ∃ ox, ox = x2 - 5 := ⟨_, rfl⟩
  have hw2 : IntKind.i64.wrap (x2 - 5) = ox := by rw [hox]; exact IntWalk.i64_in _ (by omega)
  have hox0 : -5 ≤ ox ∧ ox ≤ 5 := by omega
  clear hox
  (go_wp2_with fail; refine (s_l01Next (a := a) (A := A) (c := c) (bs := bs) _ _ (by (repeat (first | with_reducible assumption | with_reducible refine Src.alloc ?_ _ | with_reducible refine Src.drew ?_ | with_reducible refine Src.drewN ?_ _ | ((with_reducible refine Src.far ?_ ?_ ?_ _); (solve | omega | (simp; omega) | simp); (solve | omega | (simp; omega) | simp)) | ((with_reducible apply Src.on'); with_reducible assumption)))) (by omega)).mono ?_; rintro e w3 ⟨x3, rfl, hb3, hS3, hu3⟩; obtain ⟨hc3, hf3⟩ := hu3.rules; have hs3 := hu3.size; (try simp at hs3); have := (show g < w3.heap.size from by omega); have := (show g1 < w3.heap.size from by omega))
  obtain ⟨oz, hoz⟩ : ∃ oz, oz = x3 - 5 := ⟨_, rfl⟩
  have hw3 : IntKind.i64.wrap (x3 - 5) = oz := by rw [hoz]; exact IntWalk.i64_in _ (by omega)
  have hoz0 : -5 ≤ oz ∧ oz ≤ 5 := by omega
  clear hoz
  (go_wp2_with fail; refine (s_l01Next (a := a) (A := A) (c := c) (bs := bs) _ _ (by (repeat (first | with_reducible assumption | with_reducible refine Src.alloc ?_ _ | with_reducible refine Src.drew ?_ | with_reducible refine Src.drewN ?_ _ | ((with_reducible refine Src.far ?_ ?_ ?_ _); (solve | omega | (simp; omega) | simp); (solve | omega | (simp; omega) | simp)) | ((with_reducible apply Src.on'); with_reducible assumption)))) (by omega)).mono ?_; rintro e w4 ⟨x4, rfl, hb4, hS4, hu4⟩; obtain ⟨hc4, hf4⟩ := hu4.rules; have hs4 := hu4.size; (try simp at hs4); have := (show g < w4.heap.size from by omega); have := (show g1 < w4.heap.size from by omega))
  obtain ⟨sc, hsc⟩ : ∃ sc, sc = 1 + x4 := ⟨_, rfl⟩
  have hw4 : IntKind.i64.wrap (1 + x4) = sc := by rw [hsc]; exact IntWalk.i64_in _ (by omega)
  have hsc0 : 1 ≤ sc ∧ sc ≤ 3 := by omega
  clear hsc
  (go_wp2_with fail; refine (s_l01Next (a := a) (A := A) (c := c) (bs := bs) _ _ (by (repeat (first | with_reducible assumption | with_reducible refine Src.alloc ?_ _ | with_reducible refine Src.drew ?_ | with_reducible refine Src.drewN ?_ _ | ((with_reducible refine Src.far ?_ ?_ ?_ _); (solve | omega | (simp; omega) | simp); (solve | omega | (simp; omega) | simp)) | ((with_reducible apply Src.on'); with_reducible assumption)))) (by omega)).mono ?_; rintro e w5 ⟨x5, rfl, hb5, hS5, hu5⟩; obtain ⟨hc5, hf5⟩ := hu5.rules; have hs5 := hu5.size; (try simp at hs5); have := (show g < w5.heap.size from by omega); have := (show g1 < w5.heap.size from by omega))
  (go_wp2_with fail; refine (s_l01Next (a := a) (A := A) (c := c) (bs := bs) _ _ (by (repeat (first | with_reducible assumption | with_reducible refine Src.alloc ?_ _ | with_reducible refine Src.drew ?_ | with_reducible refine Src.drewN ?_ _ | ((with_reducible refine Src.far ?_ ?_ ?_ _); (solve | omega | (simp; omega) | simp); (solve | omega | (simp; omega) | simp)) | ((with_reducible apply Src.on'); with_reducible assumption)))) (by omega)).mono ?_; rintro e w6 ⟨x6, rfl, hb6, hS6, hu6⟩; obtain ⟨hc6, hf6⟩ := hu6.rules; have hs6 := hu6.size; (try simp at hs6); have := (show g < w6.heap.size from by omega); have := (show g1 < w6.heap.size from by omega))
  have hU : But g w w6 := by (repeat (first | with_reducible exact But.refl _ _ | with_reducible assumption | with_reducible refine But.alloc ?_ _ | with_reducible refine But.drew ?_ | with_reducible refine But.drewN ?_ _ | with_reducible refine But.set_ ?_ _ _ | ((with_reducible refine But.new ?_ ?_ _); solve | omega | simp | (simp; omega)) | (with_reducible refine But.trans ?_ (by with_reducible assumption)) | (with_reducible refine But.trans ?_ (But.of (by with_reducible assumption)))))
  have hSq : SlAt w6 2 encP (some ⟨g1, 0, none⟩) q := ((((hS.but1 hu2 hne).but1 hu3 hne).but1 hu4 hne).but1 hu5 hne).but1 hu6 hne
  have hwu := hU.size
  obtain ⟨k0, rfl⟩ := Int.eq_ofNat_of_zero_le hb5.1
  have hk0 : k0 ≤ 10 := by omega
  clear hS hcell HT hu1 hu2 hu3 hu4 hu5 hu6 hS1 hS2 hS3 hS4 hS5 hc1 hf1 hc2 hf2 hc3 hf3 hc4 hf4 hc5 hf5 hc6 hf6 hb1 hb2 hb3 hb4 hb5
  have HS6 := Lib.hid hS6
  have HU := Lib.hid hU
  clear hS6 hU
  by_cases ht : x6 = 0
  · have hbt6 : (x6 == 0) = true := beq_iff_eq.2 ht
    clear ht
    go_wp2
    go_loopw [10, 11] (fun v i wr => ∃ (k : Nat) (ps : List (Int × Int)), k ≤ q.length ∧ i = .int .i64 k ∧ ps.length = k ∧ Hid (oks ps = true) ∧ Hid (OwP wr w6.heap.size v ps) ∧ Ext w6 wr) (fun _ i _ => q.length - (intOf i).toNat)
    case atStart => exact ⟨0, [], Nat.zero_le _, rfl, rfl, Lib.hid rfl, Lib.hid (World.ownsRow_made (base := w6.heap.size) (e := 70) (size := 2) w6 #[] 0 (Nat.le_refl _) (Nat.zero_le _) rfl), by (repeat (first | with_reducible exact Ext.refl _ | with_reducible assumption | ((with_reducible apply Src.ext); with_reducible assumption) | with_reducible refine Ext.alloc ?_ _ | with_reducible refine Ext.drew ?_ | with_reducible refine Ext.drewN ?_ _ | ((with_reducible refine Ext.setCell' ?_ ?_ _); solve | omega | simp | (simp; omega)) | (with_reducible refine Ext.trans ?_ (by with_reducible assumption))))⟩
    case round =>
      obtain ⟨k, ps, hk, rfl, hpk, HOK, HV, hxr⟩ := hrel
      have hpk2 : ps.length ≤ k := by omega
      have hpk3 : k ≤ ps.length := by omega
      have HPK := Lib.hid hpk
      clear hpk
      have hsr := hxr.size
      by_cases hkt : k < q.length
      · have hw5 : IntKind.i64.wrap ((k0 : Int) + (k : Int)) = (k0 : Int) + (k : Int) := IntWalk.i64_in _ (by omega)
        have h8 := H8.out ((k0 : Int) + (k : Int))
        have HC := Lib.hid (s_corner (some ⟨g1, 0, none⟩) q.length q ((k0 : Int) + (k : Int)) wr (hSq.ext hxr) (by omega) (by omega) (by omega) (by omega))
        generalize ptx q ((k0 : Int) + (k : Int)) = px at *
        generalize ptz q ((k0 : Int) + (k : Int)) = pz at *
        have m1 := mul8 hsc0.1 hsc0.2 h8.1.1 h8.1.2
        have m2 := mul8 hsc0.1 hsc0.2 h8.2.1 h8.2.2
        obtain ⟨mx, hmx⟩ : ∃ mx, mx = sc * px := ⟨_, rfl⟩
        obtain ⟨mz, hmz⟩ : ∃ mz, mz = sc * pz := ⟨_, rfl⟩
        have hv1 : IntKind.i64.wrap (sc * px) = mx := by rw [hmx]; exact IntWalk.i64_in _ (by omega)
        have hv2 : IntKind.i64.wrap (sc * pz) = mz := by rw [hmz]; exact IntWalk.i64_in _ (by omega)
        rw [← hmx] at m1
        rw [← hmz] at m2
        have hv3 : IntKind.i64.wrap (mx + ox) = mx + ox := IntWalk.i64_in _ (by omega)
        have hv4 : IntKind.i64.wrap (mz + oz) = mz + oz := IntWalk.i64_in _ (by omega)
        have hv5 : IntKind.i64.wrap (mz + ox) = mz + ox := IntWalk.i64_in _ (by omega)
        have hv6 : IntKind.i64.wrap (mx + oz) = mx + oz := IntWalk.i64_in _ (by omega)
        have HOK2 : Hid (oks (ps ++ [(mz + ox, mx + oz)]) = true) := Lib.hid (oks_snoc HOK.out (by omega) (by omega))
        have HMX := Lib.hid hmx
        have HMZ := Lib.hid hmz
        clear hmx hmz h8
        go_wp2_with fail
        refine HC.out.mono ?_
        rintro e w7 ⟨rfl, hx7⟩
        obtain ⟨hc7, hf7⟩ := hx7.rules
        have hs7 := hx7.size
        (try simp at hs7)
        go_wp2_with (at_builtin; refine wpList_append_sl elP len_encP one_encP rfl _ _ rfl rfl (HV.out.ext (by (repeat (first | with_reducible exact Ext.refl _ | with_reducible assumption | ((with_reducible apply Src.ext); with_reducible assumption) | with_reducible refine Ext.alloc ?_ _ | with_reducible refine Ext.drew ?_ | with_reducible refine Ext.drewN ?_ _ | ((with_reducible refine Ext.setCell' ?_ ?_ _); solve | omega | simp | (simp; omega)) | (with_reducible refine Ext.trans ?_ (by with_reducible assumption)))))) (xs := [(mz + ox, mx + oz)]) rfl (blk_p1 (by (repeat (first | with_reducible assumption | ((with_reducible apply Blk.new); solve | simp | rfl) | with_reducible apply Blk.drew | with_reducible apply Blk.drewN | ((with_reducible apply Blk.far'); solve | omega | simp | (simp; omega)) | with_reducible apply Blk.set_ | with_reducible apply Blk.alloc | ((with_reducible apply Blk.ext'); with_reducible assumption) | ((with_reducible apply Blk.but'); (with_reducible assumption); solve | omega | (simp; omega)))))) (by simp; unfold maxLen; omega) (by simp; omega) (by first | omega | (simp; omega)) ?_)
        intro v' w8 hown hgrow _
        have HV2 := Lib.hid hown
        have hx8 : Ext w6 w8 := by
          refine Ext.grown ?_ hgrow (fun q hq => ?_)
          · (repeat (first | with_reducible exact Ext.refl _ | with_reducible assumption | ((with_reducible apply Src.ext); with_reducible assumption) | with_reducible refine Ext.alloc ?_ _ | with_reducible refine Ext.drew ?_ | with_reducible refine Ext.drewN ?_ _ | ((with_reducible refine Ext.setCell' ?_ ?_ _); solve | omega | simp | (simp; omega)) | (with_reducible refine Ext.trans ?_ (by with_reducible assumption))))
          · have := (HV.out.row q hq).1
            omega
        clear hown hgrow
        go_wp2
        go_roundw
        case rel => exact ⟨k + 1, _, by omega, by go_num, by rw [List.length_append, HPK.out]; rfl, HOK2, HV2, hx8⟩
        case measure => simp [intOf]; omega
      · go_wp2
        go_ret
        refine ⟨_, ps, rfl, HV.out.less hwu, by omega, HOK.out, HS6.out.on hxr, HU.out.trans (But.of hxr)⟩
  · have hbt6 : (x6 == 0) = false := beq_eq_false_iff_ne.2 ht
    clear ht
    go_wp2
    go_loopw [10, 11] (fun v i wr => ∃ (k : Nat) (ps : List (Int × Int)), k ≤ q.length ∧ i = .int .i64 k ∧ ps.length = k ∧ Hid (oks ps = true) ∧ Hid (OwP wr w6.heap.size v ps) ∧ Ext w6 wr) (fun _ i _ => q.length - (intOf i).toNat)
    case atStart => exact ⟨0, [], Nat.zero_le _, rfl, rfl, Lib.hid rfl, Lib.hid (World.ownsRow_made (base := w6.heap.size) (e := 70) (size := 2) w6 #[] 0 (Nat.le_refl _) (Nat.zero_le _) rfl), by (repeat (first | with_reducible exact Ext.refl _ | with_reducible assumption | ((with_reducible apply Src.ext); with_reducible assumption) | with_reducible refine Ext.alloc ?_ _ | with_reducible refine Ext.drew ?_ | with_reducible refine Ext.drewN ?_ _ | ((with_reducible refine Ext.setCell' ?_ ?_ _); solve | omega | simp | (simp; omega)) | (with_reducible refine Ext.trans ?_ (by with_reducible assumption))))⟩
    case round =>
      obtain ⟨k, ps, hk, rfl, hpk, HOK, HV, hxr⟩ := hrel
      have hpk2 : ps.length ≤ k := by omega
      have hpk3 : k ≤ ps.length := by omega
      have HPK := Lib.hid hpk
      clear hpk
      have hsr := hxr.size
      by_cases hkt : k < q.length
      · have hw5 : IntKind.i64.wrap ((k0 : Int) + (k : Int)) = (k0 : Int) + (k : Int) := IntWalk.i64_in _ (by omega)
        have h8 := H8.out ((k0 : Int) + (k : Int))
        have HC := Lib.hid (s_corner (some ⟨g1, 0, none⟩) q.length q ((k0 : Int) + (k : Int)) wr (hSq.ext hxr) (by omega) (by omega) (by omega) (by omega))
        generalize ptx q ((k0 : Int) + (k : Int)) = px at *
        generalize ptz q ((k0 : Int) + (k : Int)) = pz at *
        have m1 := mul8 hsc0.1 hsc0.2 h8.1.1 h8.1.2
        have m2 := mul8 hsc0.1 hsc0.2 h8.2.1 h8.2.2
        obtain ⟨mx, hmx⟩ : ∃ mx, mx = sc * px := ⟨_, rfl⟩
        obtain ⟨mz, hmz⟩ : ∃ mz, mz = sc * pz := ⟨_, rfl⟩
        have hv1 : IntKind.i64.wrap (sc * px) = mx := by rw [hmx]; exact IntWalk.i64_in _ (by omega)
        have hv2 : IntKind.i64.wrap (sc * pz) = mz := by rw [hmz]; exact IntWalk.i64_in _ (by omega)
        rw [← hmx] at m1
        rw [← hmz] at m2
        have hv3 : IntKind.i64.wrap (mx + ox) = mx + ox := IntWalk.i64_in _ (by omega)
        have hv4 : IntKind.i64.wrap (mz + oz) = mz + oz := IntWalk.i64_in _ (by omega)
        have hv5 : IntKind.i64.wrap (mz + ox) = mz + ox := IntWalk.i64_in _ (by omega)
        have hv6 : IntKind.i64.wrap (mx + oz) = mx + oz := IntWalk.i64_in _ (by omega)
        have HOK2 : Hid (oks (ps ++ [(mx + ox, mz + oz)]) = true) := Lib.hid (oks_snoc HOK.out (by omega) (by omega))
        have HMX := Lib.hid hmx
        have HMZ := Lib.hid hmz
        clear hmx hmz h8
        go_wp2_with fail
        refine HC.out.mono ?_
        rintro e w7 ⟨rfl, hx7⟩
        obtain ⟨hc7, hf7⟩ := hx7.rules
        have hs7 := hx7.size
        (try simp at hs7)
        go_wp2_with (at_builtin; refine wpList_append_sl elP len_encP one_encP rfl _ _ rfl rfl (HV.out.ext (by (repeat (first | with_reducible exact Ext.refl _ | with_reducible assumption | ((with_reducible apply Src.ext); with_reducible assumption) | with_reducible refine Ext.alloc ?_ _ | with_reducible refine Ext.drew ?_ | with_reducible refine Ext.drewN ?_ _ | ((with_reducible refine Ext.setCell' ?_ ?_ _); solve | omega | simp | (simp; omega)) | (with_reducible refine Ext.trans ?_ (by with_reducible assumption)))))) (xs := [(mx + ox, mz + oz)]) rfl (blk_p1 (by (repeat (first | with_reducible assumption | ((with_reducible apply Blk.new); solve | simp | rfl) | with_reducible apply Blk.drew | with_reducible apply Blk.drewN | ((with_reducible apply Blk.far'); solve | omega | simp | (simp; omega)) | with_reducible apply Blk.set_ | with_reducible apply Blk.alloc | ((with_reducible apply Blk.ext'); with_reducible assumption) | ((with_reducible apply Blk.but'); (with_reducible assumption); solve | omega | (simp; omega)))))) (by simp; unfold maxLen; omega) (by simp; omega) (by first | omega | (simp; omega)) ?_)
        intro v' w8 hown hgrow _
        have HV2 := Lib.hid hown
        have hx8 : Ext w6 w8 := by
          refine Ext.grown ?_ hgrow (fun q hq => ?_)
          · (repeat (first | with_reducible exact Ext.refl _ | with_reducible assumption | ((with_reducible apply Src.ext); with_reducible assumption) | with_reducible refine Ext.alloc ?_ _ | with_reducible refine Ext.drew ?_ | with_reducible refine Ext.drewN ?_ _ | ((with_reducible refine Ext.setCell' ?_ ?_ _); solve | omega | simp | (simp; omega)) | (with_reducible refine Ext.trans ?_ (by with_reducible assumption))))
          · have := (HV.out.row q hq).1
            omega
        clear hown hgrow
        go_wp2
        go_roundw
        case rel => exact ⟨k + 1, _, by omega, by go_num, by rw [List.length_append, HPK.out]; rfl, HOK2, HV2, hx8⟩
        case measure => simp [intOf]; omega
      · go_wp2
        go_ret
        refine ⟨_, ps, rfl, HV.out.less hwu, by omega, HOK.out, HS6.out.on hxr, HU.out.trans (But.of hxr)⟩

end Go.Proofs.YtdbheipjbjcikaaGreatDoor
