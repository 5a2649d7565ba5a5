/- Draws of maps: the whole draws, walked over the translation. -/
import Derived.Test.YteppjdoggjcdoaaDM
import Derived.Deep.RegionHeld3
import Derived.Deep.DeepCutAuto
import Derived.RegionTactic
import Derived.BigRegion
import Derived.WalkLawsBesides
import Derived.WalkSpells
import Derived.Lib.MinMax
import Derived.Outline
namespace Go.Proofs.Yteppjdoggjcdoaa
open Go.RowKit
attribute [local go_sem] ExtOf.cell ExtOf.frozen


set_option maxRecDepth 20000 in
set_option maxHeartbeats 25600000 in
theorem s_l17Good {a : World} {A : Option Addr} {c : Nat} {bs : List Int} {g : Nat} (w : World) (h : Src a A c bs g w) :
    Calls Try.prog 126 #[.pointer (some ⟨g, 0, none⟩)] w fun e w' => ∃ v rs, e = .returned v ∧ OwR w' w.heap.size v rs ∧ rs.length ≤ 6 ∧ NewR w.heap.size w' rs ∧ Away v rs ∧ Src a A c bs g w' ∧ But g w w' := by
  have hlt := h.lt
  have how := h.own
  have hasz := h.ext.size
  go_enter Try.func126, Try.ntmps126
  (go_wp2_with fail; refine (s_l01Next (a := a) (A := A) (c := c) (bs := bs) _ _ (by (repeat (first | with_reducible assumption | with_reducible refine Src.alloc ?_ _ | with_reducible refine Src.drew ?_ | with_reducible refine Src.drewN ?_ _ | ((with_reducible refine Src.far ?_ ?_ ?_ _); (solve | omega | (simp; omega) | simp); (solve | omega | (simp; omega) | simp)) | ((with_reducible apply Src.on'); with_reducible assumption)))) (by omega)).mono ?_; rintro e w1 ⟨x1, rfl, hb1, hS1, hu1⟩; obtain ⟨hc1, hf1⟩ := hu1.rules; have hs1 := hu1.size; (try simp at hs1); have := (show g < w1.heap.size from by omega))
  obtain ⟨px, hpx⟩ : ∃ px, px = x1 - 4 := ⟨_, rfl⟩
  have hw1 : IntKind.i64.wrap (x1 - 4) = px := by rw [hpx]; exact IntWalk.i64_in _ (by omega)
  clear hpx
  (go_wp2_with fail; refine (s_l01Next (a := a) (A := A) (c := c) (bs := bs) _ _ (by (repeat (first | with_reducible assumption | with_reducible refine Src.alloc ?_ _ | with_reducible refine Src.drew ?_ | with_reducible refine Src.drewN ?_ _ | ((with_reducible refine Src.far ?_ ?_ ?_ _); (solve | omega | (simp; omega) | simp); (solve | omega | (simp; omega) | simp)) | ((with_reducible apply Src.on'); with_reducible assumption)))) (by omega)).mono ?_; rintro e w2 ⟨x2, rfl, hb2, hS2, hu2⟩; obtain ⟨hc2, hf2⟩ := hu2.rules; have hs2 := hu2.size; (try simp at hs2); have := (show g < w2.heap.size from by omega))
  have HT : Hid (Blk w2 (w.heap.size + 1 + 1 + 1 + 1 + 1 + 1) 65 #[.slice (some ⟨w.heap.size, 0, none⟩) 8 8, .slice (some ⟨w.heap.size + 1, 0, none⟩) 6 6, .slice (some ⟨w.heap.size + 1 + 1, 0, none⟩) 8 8, .slice (some ⟨w.heap.size + 1 + 1 + 1, 0, none⟩) 8 8, .slice (some ⟨w.heap.size + 1 + 1 + 1 + 1, 0, none⟩) 12 12, .slice (some ⟨w.heap.size + 1 + 1 + 1 + 1 + 1, 0, none⟩) 6 6]) := Lib.hid (Blk.eq (by (repeat (first | with_reducible assumption | ((with_reducible apply Blk.new); solve | simp | rfl) | with_reducible apply Blk.drew | with_reducible apply Blk.drewN | ((with_reducible apply Blk.far'); solve | omega | simp | (simp; omega)) | with_reducible apply Blk.set_ | with_reducible apply Blk.alloc | ((with_reducible apply Blk.ext'); with_reducible assumption) | ((with_reducible apply Blk.but'); (with_reducible assumption); solve | omega | (simp; omega))))) (by rfl))
  have hall : ∀ k : Nat, k < 6 → ∃ (gk n : Nat) (xs : List Int), w2.cell? ⟨w.heap.size + 1 + 1 + 1 + 1 + 1 + 1, k, none⟩ = some (.slice (some ⟨gk, 0, none⟩) n n) ∧ SlAt w2 1 encI (some ⟨gk, 0, none⟩) xs ∧ n = xs.length ∧ 6 ≤ n ∧ n ≤ 12 ∧ gk < w2.heap.size ∧ ¬ gk = g := fun k hk => by
    rcases (show k = 0 ∨ k = 1 ∨ k = 2 ∨ k = 3 ∨ k = 4 ∨ k = 5 by omega) with rfl | rfl | rfl | rfl | rfl | rfl
    · have hB : Blk w2 (w.heap.size) 2 #[.int .i64 0, .int .i64 0, .int .i64 4, .int .i64 0, .int .i64 4, .int .i64 4, .int .i64 0, .int .i64 4] := Blk.eq (by (repeat (first | with_reducible assumption | ((with_reducible apply Blk.new); solve | simp | rfl) | with_reducible apply Blk.drew | with_reducible apply Blk.drewN | ((with_reducible apply Blk.far'); solve | omega | simp | (simp; omega)) | with_reducible apply Blk.set_ | with_reducible apply Blk.alloc | ((with_reducible apply Blk.ext'); with_reducible assumption) | ((with_reducible apply Blk.but'); (with_reducible assumption); solve | omega | (simp; omega))))) (by rfl)
      exact ⟨w.heap.size, 8, [0, 0, 4, 0, 4, 4, 0, 4], HT.out.cell 0, hB.sl rfl len_encI, rfl, by omega, by omega, hB.lt, by omega⟩
    · have hB : Blk w2 (w.heap.size + 1) 2 #[.int .i64 4, .int .i64 0, .int .i64 9, .int .i64 0, .int .i64 4, .int .i64 4] := Blk.eq (by (repeat (first | with_reducible assumption | ((with_reducible apply Blk.new); solve | simp | rfl) | with_reducible apply Blk.drew | with_reducible apply Blk.drewN | ((with_reducible apply Blk.far'); solve | omega | simp | (simp; omega)) | with_reducible apply Blk.set_ | with_reducible apply Blk.alloc | ((with_reducible apply Blk.ext'); with_reducible assumption) | ((with_reducible apply Blk.but'); (with_reducible assumption); solve | omega | (simp; omega))))) (by rfl)
      exact ⟨w.heap.size + 1, 6, [4, 0, 9, 0, 4, 4], HT.out.cell 1, hB.sl rfl len_encI, rfl, by omega, by omega, hB.lt, by omega⟩
    · have hB : Blk w2 (w.heap.size + 1 + 1) 2 #[.int .i64 0, .int .i64 4, .int .i64 4, .int .i64 4, .int .i64 4, .int .i64 8, .int .i64 0, .int .i64 8] := Blk.eq (by (repeat (first | with_reducible assumption | ((with_reducible apply Blk.new); solve | simp | rfl) | with_reducible apply Blk.drew | with_reducible apply Blk.drewN | ((with_reducible apply Blk.far'); solve | omega | simp | (simp; omega)) | with_reducible apply Blk.set_ | with_reducible apply Blk.alloc | ((with_reducible apply Blk.ext'); with_reducible assumption) | ((with_reducible apply Blk.but'); (with_reducible assumption); solve | omega | (simp; omega))))) (by rfl)
      exact ⟨w.heap.size + 1 + 1, 8, [0, 4, 4, 4, 4, 8, 0, 8], HT.out.cell 2, hB.sl rfl len_encI, rfl, by omega, by omega, hB.lt, by omega⟩
    · have hB : Blk w2 (w.heap.size + 1 + 1 + 1) 2 #[.int .i64 4, .int .i64 4, .int .i64 9, .int .i64 0, .int .i64 9, .int .i64 8, .int .i64 4, .int .i64 8] := Blk.eq (by (repeat (first | with_reducible assumption | ((with_reducible apply Blk.new); solve | simp | rfl) | with_reducible apply Blk.drew | with_reducible apply Blk.drewN | ((with_reducible apply Blk.far'); solve | omega | simp | (simp; omega)) | with_reducible apply Blk.set_ | with_reducible apply Blk.alloc | ((with_reducible apply Blk.ext'); with_reducible assumption) | ((with_reducible apply Blk.but'); (with_reducible assumption); solve | omega | (simp; omega))))) (by rfl)
      exact ⟨w.heap.size + 1 + 1 + 1, 8, [4, 4, 9, 0, 9, 8, 4, 8], HT.out.cell 3, hB.sl rfl len_encI, rfl, by omega, by omega, hB.lt, by omega⟩
    · have hB : Blk w2 (w.heap.size + 1 + 1 + 1 + 1) 2 #[.int .i64 (-5), .int .i64 0, .int .i64 0, .int .i64 0, .int .i64 0, .int .i64 4, .int .i64 (-2), .int .i64 5, .int .i64 0, .int .i64 8, .int .i64 (-5), .int .i64 8] := Blk.eq (by (repeat (first | with_reducible assumption | ((with_reducible apply Blk.new); solve | simp | rfl) | with_reducible apply Blk.drew | with_reducible apply Blk.drewN | ((with_reducible apply Blk.far'); solve | omega | simp | (simp; omega)) | with_reducible apply Blk.set_ | with_reducible apply Blk.alloc | ((with_reducible apply Blk.ext'); with_reducible assumption) | ((with_reducible apply Blk.but'); (with_reducible assumption); solve | omega | (simp; omega))))) (by rfl)
      exact ⟨w.heap.size + 1 + 1 + 1 + 1, 12, [-5, 0, 0, 0, 0, 4, -2, 5, 0, 8, -5, 8], HT.out.cell 4, hB.sl rfl len_encI, rfl, by omega, by omega, hB.lt, by omega⟩
    · have hB : Blk w2 (w.heap.size + 1 + 1 + 1 + 1 + 1) 2 #[.int .i64 20, .int .i64 20, .int .i64 22, .int .i64 20, .int .i64 21, .int .i64 25] := Blk.eq (by (repeat (first | with_reducible assumption | ((with_reducible apply Blk.new); solve | simp | rfl) | with_reducible apply Blk.drew | with_reducible apply Blk.drewN | ((with_reducible apply Blk.far'); solve | omega | simp | (simp; omega)) | with_reducible apply Blk.set_ | with_reducible apply Blk.alloc | ((with_reducible apply Blk.ext'); with_reducible assumption) | ((with_reducible apply Blk.but'); (with_reducible assumption); solve | omega | (simp; omega))))) (by rfl)
      exact ⟨w.heap.size + 1 + 1 + 1 + 1 + 1, 6, [20, 20, 22, 20, 21, 25], HT.out.cell 5, hB.sl rfl len_encI, rfl, by omega, by omega, hB.lt, by omega⟩
  have hU : But g w w2 := by (repeat (first | with_reducible exact But.refl _ _ | with_reducible assumption | with_reducible refine But.alloc ?_ _ | with_reducible refine But.drew ?_ | with_reducible refine But.drewN ?_ _ | with_reducible refine But.set_ ?_ _ _ | ((with_reducible refine But.new ?_ ?_ _); solve | omega | simp | (simp; omega)) | (with_reducible refine But.trans ?_ (by with_reducible assumption)) | (with_reducible refine But.trans ?_ (But.of (by with_reducible assumption)))))
  have hS2w : w.heap.size + 1 + 1 + 1 + 1 + 1 + 1 < w2.heap.size := by omega
  have HALL := Lib.hid hall
  obtain ⟨ga, hga⟩ : ∃ ga, ga = w.heap.size + 1 + 1 + 1 + 1 + 1 + 1 := ⟨_, rfl⟩
  rw [← hga] at HALL hS2w ⊢
  have hgn : ¬ ga = g := by omega
  have HU := Lib.hid hU
  have hg2 : g < w2.heap.size := hS2.lt
  have hus := hU.size
  obtain ⟨pz, hpz⟩ : ∃ pz, pz = x2 - 4 := ⟨_, rfl⟩
  have hw2 : IntKind.i64.wrap (x2 - 4) = pz := by rw [hpz]; exact IntWalk.i64_in _ (by omega)
  have HS2a : Hid (Src a A c bs g (w2.alloc (.cells #[] 24))) := Lib.hid (hS2.alloc _)
  have HU2a : Hid (But g w2 (w2.alloc (.cells #[] 24))) := Lib.hid (But.of ((Ext.refl w2).alloc _))
  clear hpz hall hga hU hu1 hu2 hS1 hS2 hc1 hf1 hc2 hf2 HT h
  go_wp2
  go_loopw [6, 7] (fun v i wr => ∃ (k : Nat) (rs : List Rg), k ≤ 6 ∧ i = .int .i64 k ∧ rs.length ≤ k ∧ Hid (OwR wr w2.heap.size v rs) ∧ Hid (NewR w2.heap.size wr rs) ∧ Hid (Away v rs) ∧ Hid (Src a A c bs g wr) ∧ Hid (But g w2 wr)) (fun _ i _ => 6 - (intOf i).toNat)
  case atStart => exact ⟨0, [], by omega, rfl, by simp, Lib.hid (World.ownsRow_made (base := w2.heap.size) (e := 24) (size := 1) w2 #[] 0 (Nat.le_refl _) (Nat.zero_le _) rfl), Lib.hid (NewR.nil_ _ _), Lib.hid (fun k hk r hr => by cases hr), HS2a, HU2a⟩
  case round =>
    obtain ⟨k, rs, hk, rfl, hrk, HV, HN, HA, HSr, HUr⟩ := hrel
    obtain ⟨w5, rfl⟩ : ∃ x, x = wr := ⟨wr, rfl⟩
    have hg5 := HSr.out.lt
    have hs5 := HUr.out.size
    by_cases hlt : k < 6
    · have hS5 := HSr.out
      (go_wp2_with fail; refine (s_l01Next (a := a) (A := A) (c := c) (bs := bs) _ _ (by (repeat (first | with_reducible assumption | with_reducible refine Src.alloc ?_ _ | with_reducible refine Src.drew ?_ | with_reducible refine Src.drewN ?_ _ | ((with_reducible refine Src.far ?_ ?_ ?_ _); (solve | omega | (simp; omega) | simp); (solve | omega | (simp; omega) | simp)) | ((with_reducible apply Src.on'); with_reducible assumption)))) (by omega)).mono ?_; rintro e w3 ⟨x3, rfl, hb3, hS3, hu3⟩; obtain ⟨hc3, hf3⟩ := hu3.rules; have hs3 := hu3.size; (try simp at hs3); have := (show g < w3.heap.size from by omega))
      have hU3 : But g w2 w3 := HUr.out.trans hu3
      have HU3 := Lib.hid hU3
      have HS3 := Lib.hid hS3
      have HV3 := Lib.hid (HV.out.but hu3 hg2)
      have HN3 := Lib.hid (HN.out.but hu3 hg2)
      have hvl : ∀ q, Value.ownBlock _ = some q → q < w3.heap.size := fun q hq => (HV3.out.row q hq).2
      have HVL := Lib.hid hvl
      by_cases hx : 0 < x3
      · obtain ⟨gk, n, xs, hcc, hSx, hn, hn6, hn12, hgk, hgkn⟩ := HALL.out k hlt
        have hcc3 : w3.cell? ⟨ga, k, none⟩ = some (.slice (some ⟨gk, 0, none⟩) n n) := (hU3.rules.1 ga k hS2w hgn).trans hcc
        have hSx3 := hSx.but1 hU3 hgkn
        have hga3 : ga < w3.heap.size := by omega
        have HNX := Lib.hid hn
        have hxd : decide (0 < x3) = true := decide_eq_true hx
        clear hcc hSx hU3 hu3 hS3 hc3 hf3 hS5 hvl hx hn
        go_wp2_with fail
        refine (s_l17Points _ _ _ xs _ hSx3 HNX.out (by omega)).mono ?_
        rintro e w4 ⟨v4, ps, rfl, hO4, hpl, hx4⟩
        obtain ⟨g1, cap, cur, hv4, hb1, hB4, hcap, hmx, hcs, -⟩ := hO4.open_ (by omega)
        obtain ⟨A4, c4, e2, hSl4, -, -, -⟩ := hO4.sl len_encP
        rw [hv4] at e2
        injection e2 with e2 e3 e4
        subst e2
        clear e3 e4
        obtain ⟨m, hm⟩ : ∃ m, m = ps.length := ⟨_, rfl⟩
        rw [← hm] at hv4 hcap hpl
        subst hv4
        have HM : Hid (ps.length = m) := Lib.hid hm.symm
        have HSL4 := Lib.hid hSl4
        have HCS4 := Lib.hid hcs
        have HX4 := Lib.hid hx4
        have hs4 := hx4.size
        have hm12 : m ≤ 6 := by omega
        clear hm hO4 hSl4 hcs hx4 hSx3 hcc3
        go_wp2
        go_loopw [9] (fun i wr => ∃ (j : Nat) (cs : Array Value) (qs : List (Int × Int)), j ≤ m ∧ i = .int .i64 j ∧ Hid (qs.length = m) ∧ Blk wr g1 33 cs ∧ Hid (cs.size = cap * 2) ∧ Hid (SlAt wr 2 encP (some ⟨g1, 0, none⟩) qs) ∧ Hid (But g1 w4 wr)) (fun i _ => m - (intOf i).toNat)
        case atStart => exact ⟨0, cur, ps, by omega, rfl, HM, hB4, HCS4, HSL4, Lib.hid (But.refl _ _)⟩
        case round =>
          obtain ⟨j, cs, qs, hj, rfl, HQ, hB, HCS, HSL, HUI⟩ := hrel
          obtain ⟨w6, rfl⟩ : ∃ x, x = wr := ⟨wr, rfl⟩
          have hl6 := hB.lt
          by_cases hjm : j < m
          · obtain ⟨b', off', e1, hb', d0, d1⟩ := HSL.out.pt (k := j) (by rw [HQ.out]; exact hjm)
            injection e1 with e1
            injection e1 with e1 e5
            subst e1 e5
            simp only [Nat.zero_add] at d0 d1
            obtain ⟨qx, hqx⟩ : ∃ qx, qx = (qs.getD j (0, 0)).1 := ⟨_, rfl⟩
            obtain ⟨qz, hqz⟩ : ∃ qz, qz = (qs.getD j (0, 0)).2 := ⟨_, rfl⟩
            rw [← hqx] at d0
            rw [← hqz] at d1
            clear hqx hqz
            obtain ⟨ux, hux⟩ : ∃ ux, IntKind.i64.wrap (qx + px) = ux := ⟨_, rfl⟩
            obtain ⟨uz, huz⟩ : ∃ uz, IntKind.i64.wrap (qz + pz) = uz := ⟨_, rfl⟩
            have f0 := hB.frozen (j * 2)
            have f1 := hB.frozen (j * 2 + 1)
            have HB := Lib.hid hB
            have HB6 := Lib.hid ((hB.set_ (j * 2) (.int .i64 ux)).set_ (j * 2 + 1) (.int .i64 uz))
            have i1 : (0 : Int) ≤ (j : Int) := by omega
            have i2 : (j : Int) < (m : Int) := by omega
            have hsz : j * 2 + 1 < cs.size := by rw [HCS.out]; omega
            have HSZ := Lib.hid hsz
            clear hB hsz
            go_wp2
            go_region
            all_goals
              go_wp2
              go_roundw
              case rel =>
                refine ⟨j + 1, _, qs.set j (ux, uz), by omega, by go_num, Lib.hid (by rw [List.length_set]; exact HQ.out), HB6.out, Lib.hid (by simp; exact HCS.out), Lib.hid (SlAt.set2 HSL.out (by simp [World.setCell]) ?_ ?_ ?_), Lib.hid (by have := HUI.out; (repeat (first | with_reducible exact But.refl _ _ | with_reducible assumption | with_reducible refine But.alloc ?_ _ | with_reducible refine But.drew ?_ | with_reducible refine But.drewN ?_ _ | with_reducible refine But.set_ ?_ _ _ | ((with_reducible refine But.new ?_ ?_ _); solve | omega | simp | (simp; omega)) | (with_reducible refine But.trans ?_ (by with_reducible assumption)) | (with_reducible refine But.trans ?_ (But.of (by with_reducible assumption))))))⟩
                · rw [Nat.zero_add]
                  refine (HB6.out.cell _).trans ?_
                  rw [Array.getElem?_setIfInBounds_ne (by omega), Array.getElem?_setIfInBounds_self_of_lt (by have := HSZ.out; omega)]
                · rw [Nat.zero_add]
                  refine (HB6.out.cell _).trans ?_
                  rw [Array.getElem?_setIfInBounds_self_of_lt (by have := HSZ.out; simp; omega)]
                · intro o h1 h2
                  refine (HB6.out.cell o).trans (Eq.trans ?_ (HB.out.cell o).symm)
                  rw [Array.getElem?_setIfInBounds_ne (by omega), Array.getElem?_setIfInBounds_ne (by omega)]
              case measure => simp [intOf]; omega
          · obtain rfl : j = m := by omega
            have hX36 : Ext w3 w6 := But.ext HUI.out HX4.out hb1
            have HX36 := Lib.hid hX36
            have hs36 := hX36.size
            have hrl : rs.length ≤ 5 := by omega
            clear hX36
            go_wp2_with (at_builtin; refine wpList_append_near elR len_encR one_encR rfl _ _ rfl rfl ((HV3.out.ext HX36.out).ext (by (repeat (first | with_reducible exact Ext.refl _ | with_reducible assumption | ((with_reducible apply Src.ext); with_reducible assumption) | with_reducible refine Ext.alloc ?_ _ | with_reducible refine Ext.drew ?_ | with_reducible refine Ext.drewN ?_ _ | ((with_reducible refine Ext.setCell' ?_ ?_ _); solve | omega | simp | (simp; omega)) | (with_reducible refine Ext.trans ?_ (by with_reducible assumption)))))) (xs := [(some ⟨g1, 0, none⟩, cap, qs)]) rfl (blk_r1 (by (repeat (first | with_reducible assumption | ((with_reducible apply Blk.new); solve | simp | rfl) | with_reducible apply Blk.drew | with_reducible apply Blk.drewN | ((with_reducible apply Blk.far'); solve | omega | simp | (simp; omega)) | with_reducible apply Blk.set_ | with_reducible apply Blk.alloc | ((with_reducible apply Blk.ext'); with_reducible assumption) | ((with_reducible apply Blk.but'); (with_reducible assumption); solve | omega | (simp; omega))))) (by show _ = #[Value.slice (some ⟨g1, 0, none⟩) qs.length cap]; rw [HQ.out])) (by simp; unfold maxLen; omega) (by simp; omega) (by first | omega | (simp; omega)) ?_)
            intro v' w8 hown hgrow hnear
            have hX38 : Ext w3 (w6.alloc (.cells #[.slice (some ⟨g1, 0, none⟩) j cap] 24)) := HX36.out.alloc _
            have hN8 := HN3.out.ext hX38
            have hr8 : ∀ q : Addr, ((some ⟨g1, 0, none⟩, cap, qs) : Rg).1 = some q → w3.heap.size ≤ q.block ∧ q.block < (w6.alloc (.cells #[.slice (some ⟨g1, 0, none⟩) j cap] 24)).heap.size := fun q hq => by
              injection hq with hq
              rw [← hq]
              exact ⟨hb1, by simp; omega⟩
            have hAv := Away.snoc (w := w3) HA.out hN8 hr8 HVL.out (.inl rfl)
            have hAv' := Away.snoc (w := w3) HA.out hN8 hr8 HVL.out hnear
            have hU23 := HU3.out.size
            have HN9 := Lib.hid ((hN8.snoc (r := (some ⟨g1, 0, none⟩, cap, qs)) (HSL.out.ext ((Ext.refl w6).alloc _)) (by rw [HQ.out]; exact hcap) (by rw [HQ.out]; omega) (fun q hq => by have := hr8 q hq; omega)).grown hgrow hAv.row)
            have HA9 := Lib.hid hAv'
            have HS9 : Hid (Src a A c bs g w8) := Lib.hid ((HS3.out.on hX38).grownR hgrow (fun q hq => by have := (HV3.out.row q hq).1; omega))
            have HU9 : Hid (But g w2 w8) := Lib.hid ((HU3.out.trans (But.of hX38)).grownR hgrow (fun q hq => (HV3.out.row q hq).1))
            have HV9 := Lib.hid hown
            clear hown hgrow hnear hX38 hN8 hr8 hAv hAv'
            go_wp2
            go_roundw
            case rel => exact ⟨k + 1, rs ++ [(some ⟨g1, 0, none⟩, cap, qs)], by omega, by go_num, by simp; omega, HV9, HN9, HA9, HS9, HU9⟩
            case measure => simp [intOf]; omega
      · have hxd : decide (0 < x3) = false := decide_eq_false hx
        clear hU3 hu3 hS3 hc3 hf3 hS5 hvl
        go_wp2
        go_roundw
        case rel => exact ⟨k + 1, rs, by omega, by go_num, by omega, HV3, HN3, HA, HS3, HU3⟩
        case measure => simp [intOf]; omega
    · go_wp2
      go_ret
      exact ⟨_, rs, rfl, HV.out.less hus, by omega, HN.out.less hus, HA.out, HSr.out, HU.out.trans HUr.out⟩

end Go.Proofs.Yteppjdoggjcdoaa
