/- The law of the splitting of an area, walked over the translation. -/
import Derived.Test.YthhkmkhilnglkaaSD
import Derived.Deep.RegionHeld3
import Derived.Deep.DeepCutAuto
import Derived.RegionTactic
import Derived.BigRegion
import Derived.WalkLawsBesides
import Derived.WalkSpells
import Derived.Lib.MinMax
import Derived.Outline
namespace Go.Proofs.Ythhkmkhilnglkaa
open Go.RowKit
attribute [local go_sem] ExtOf.cell ExtOf.frozen

theorem sa_len (ps : List (Int × Int)) (a b : Int) : (sa1 ps a b).length ≤ 1000 ∧ (sa2 ps a b).length ≤ 1000 := by
  unfold sa1 sa2
  by_cases h : saC ps a b = 0
  · rw [if_pos h, if_pos h, normS_len, normS_len]
    unfold saC at h
    by_cases hr : ringB ps = true
    · rw [if_pos hr] at h
      by_cases hi : inR ps.length a b
      · have hl := (ring_facts hr).2.1
        obtain ⟨h1, h2, h3⟩ := hi
        have hb : b.toNat < (normS ps).length := by rw [normS_len]; omega
        rw [cut1_len (by omega) hb, cut2_len (by omega) hb, normS_len]
        omega
      · rw [if_neg hi] at h; omega
    · rw [if_neg hr] at h; omega
  · rw [if_neg h, if_neg h]; simp
set_option maxHeartbeats 6400000 in
theorem fnExactSplitArea_walk (A : Option Addr) (c : Nat) (ps : List (Int × Int)) (a b : Int) (w : World) (h : SlAt w 2 encP A ps) (hn : ps.length ≤ 140737488351232) :
    Calls Try.prog 12 #[.slice A ps.length c, .int .i64 a, .int .i64 b] w fun e w' => e = .returned (.bool true) ∧ Ext w w' := by
  by_cases hl : ps.length ≤ 1048576
  · have hs0 : szR 1048576 ps.length = 1048576 - ps.length := by unfold szR; rw [if_neg (by omega)]
    have hsz := l_szPointS A ps.length c 1048576 w hn (by omega) (by omega)
    rw [hs0] at hsz
    have HZ := Lib.hid hsz
    obtain ⟨hnl1, hnl2⟩ := sa_len ps a b
    obtain ⟨r1, hr1⟩ : ∃ r, r = sa1 ps a b := ⟨_, rfl⟩
    obtain ⟨r2, hr2⟩ : ∃ r, r = sa2 ps a b := ⟨_, rfl⟩
    obtain ⟨cd, hcd⟩ : ∃ r, r = saC ps a b := ⟨_, rfl⟩
    rw [← hr1] at hnl1
    rw [← hr2] at hnl2
    have hsp : ∀ (A : Option Addr) (c : Nat) (W : World), SlAt W 2 encP A ps → Calls Try.prog 63 #[.slice A ps.length c, .int .i64 a, .int .i64 b] W fun e w' => ∃ v1 v2 m, e = .returned (.tuple #[v1, v2, .int .i64 cd]) ∧ OwP w' W.heap.size v1 r1 ∧ OwP w' m v2 r2 ∧ (∀ q, v1.ownBlock = some q → q < m) ∧ W.heap.size ≤ m ∧ Ext W w' := fun A c W h => by rw [hr1, hr2, hcd]; exact s_SplitArea A c ps a b W h hl
    have hip : ∀ (A : Option Addr) (W : World), SlAt W 2 encP A ps → Calls Try.prog 64 #[.slice A ps.length ps.length, .int .i64 a, .int .i64 b] W fun e w' => ∃ v1 v2 m, e = .returned (.tuple #[v1, v2, .int .i64 cd]) ∧ OwP w' W.heap.size v1 r1 ∧ OwP w' m v2 r2 ∧ (∀ q, v1.ownBlock = some q → q < m) ∧ W.heap.size ≤ m ∧ Ext W w' := fun A W h => by rw [hr1, hr2, hcd]; exact i_SplitArea A _ ps a b W h hl (Nat.le_refl _)
    have HSP := Lib.hid hsp
    have HIP := Lib.hid hip
    obtain ⟨m1, hm1⟩ : ∃ m, m = r1.length := ⟨_, rfl⟩
    obtain ⟨m2, hm2⟩ : ∃ m, m = r2.length := ⟨_, rfl⟩
    rw [← hm1] at hnl1
    rw [← hm2] at hnl2
    have HM1 := Lib.hid hm1
    have HM2 := Lib.hid hm2
    have hm0 : ¬ ((1 : Int) + 2 * (m1 : Int) < 0) := by omega
    have hm0' : ¬ ((1 : Int) + 2 * (m1 : Int) + 2 * (m2 : Int) < 0) := by omega
    have hmm : ((1 : Int) + 2 * (m1 : Int) + 2 * (m2 : Int) != 1 + 2 * (m1 : Int) + 2 * (m2 : Int)) = false := by simp
    have hz0 : ¬ ((1 : Int) + 2 * (ps.length : Int) < 0) := by omega
    have hcc : (cd != cd) = false := by simp
    clear hs0 hsz hsp hip hm1 hm2 hr1 hr2 hcd
    go_enter Try.func12, Try.ntmps12
    (go_wp2_with fail; refine (HZ.out).mono ?_; rintro e w' ⟨rfl, rfl⟩)
    (go_wp2_with fail; refine (l_toPointS _ _ ps _ (h.ext (by (repeat (first | with_reducible exact Ext.refl _ | with_reducible assumption | ((with_reducible apply Src.ext); with_reducible assumption) | with_reducible refine Ext.alloc ?_ _ | with_reducible refine Ext.drew ?_ | with_reducible refine Ext.drewN ?_ _ | ((with_reducible refine Ext.setCell' ?_ ?_ _); solve | omega | simp | (simp; omega)) | (with_reducible refine Ext.trans ?_ (by with_reducible assumption)))))) hl).mono ?_; rintro e w1 ⟨cs1, rfl, hB1, hcs1, hx1⟩; (try simp at hB1); obtain ⟨hc1, hf1⟩ := hx1.rules; have hs1 := hx1.size; (try simp at hs1); have hlt1 := hB1.lt; have := (show w.heap.size < w1.heap.size from by omega))
    go_wp2_with fail
    refine (HSP.out _ _ _ (Blk.sl (by (repeat (first | with_reducible assumption | ((with_reducible apply Blk.new); solve | simp | rfl) | with_reducible apply Blk.drew | with_reducible apply Blk.drewN | ((with_reducible apply Blk.far'); solve | omega | simp | (simp; omega)) | with_reducible apply Blk.set_ | with_reducible apply Blk.alloc | ((with_reducible apply Blk.ext'); with_reducible assumption) | ((with_reducible apply Blk.but'); (with_reducible assumption); solve | omega | (simp; omega))))) hcs1 len_encP)).mono ?_
    rintro e w2 ⟨v2, u2, n2, rfl, hO2, hU2, hv2, hn2, hx2⟩
    have hs2 := hx2.size
    (try simp at hs2)
    obtain ⟨A2, c2, rfl, hS2, _, _, hA2⟩ := hO2.sl len_encP
    obtain ⟨B2, d2, rfl, hT2, _, _, hB2⟩ := hU2.sl len_encP
    rw [← HM1.out, ← HM2.out]
    have hX2 : Ext w w2 := by (repeat (first | with_reducible exact Ext.refl _ | with_reducible assumption | ((with_reducible apply Src.ext); with_reducible assumption) | with_reducible refine Ext.alloc ?_ _ | with_reducible refine Ext.drew ?_ | with_reducible refine Ext.drewN ?_ _ | ((with_reducible refine Ext.setCell' ?_ ?_ _); solve | omega | simp | (simp; omega)) | (with_reducible refine Ext.trans ?_ (by with_reducible assumption))))
    clear hO2 hU2 hv2
    go_wp2_with fail
    refine (l_toPointS _ _ ps _ (h.ext hX2) hl).mono ?_
    rintro e w3 ⟨cs3, rfl, hB3, hcs3, hx3⟩
    have hlt3 := hB3.lt
    go_wp2_with fail
    refine (HIP.out _ _ (hB3.sl hcs3 len_encP)).mono ?_
    rintro e w4 ⟨v4, u4, n4, rfl, hO4, hU4, hv4, hn4, hx4⟩
    have hs4 := hx4.size
    have HO4 := Lib.hid hO4
    have HU4 := Lib.hid hU4
    obtain ⟨A4, c4, rfl, hS4, _, _, hA4⟩ := hO4.sl len_encP
    obtain ⟨B4, d4, rfl, hT4, _, _, hB4⟩ := hU4.sl len_encP
    rw [← HM1.out] at HO4 hv4 ⊢
    rw [← HM2.out] at HU4 ⊢
    have HV4 := Lib.hid hv4
    have hX24 := hx3.trans hx4
    clear hO4 hU4 hv4
    go_wp2_with fail
    refine (l_eqP A4 A2 m1 c4 c2 r1 _ hS4 (hS2.ext hX24) HM1.out (by omega)).mono ?_
    rintro e w5 ⟨rfl, hx5⟩
    go_wp2_with fail
    refine (l_eqP B4 B2 m2 d4 d2 r2 _ (hT4.ext hx5) (hT2.ext (hX24.trans hx5)) HM2.out (by omega)).mono ?_
    rintro e w6 ⟨rfl, hx6⟩
    go_wp2_with fail
    refine (l_toPointS _ _ ps _ (h.ext (((hX2.trans hX24).trans hx5).trans hx6)) hl).mono ?_
    rintro e w7 ⟨cs7, rfl, hB7, hcs7, hx7⟩
    have hB37 := hB3.ext (((hx4.trans hx5).trans hx6).trans hx7)
    go_wp2_with fail
    refine (l_eqP _ _ _ _ _ ps _ (hB37.sl hcs3 len_encP) (hB7.sl hcs7 len_encP) rfl hl).mono ?_
    rintro e w8 ⟨rfl, hx8⟩
    have hX48 := ((hx5.trans hx6).trans hx7).trans hx8
    have hX28 := hX24.trans hX48
    have hX8 := hX2.trans hX28
    have hOx : OwP w8 w2.heap.size (.slice (some ⟨w2.heap.size, 0, none⟩) ps.length ps.length) ps := Own.of_blk (hB37.ext hx8) len_encP hcs3 (Nat.le_refl _) (by unfold maxLen; omega)
    have hS28 := hS2.ext hX28
    have hT28 := hT2.ext hX28
    have hS48 := hS4.ext hX48
    have hT48 := hT4.ext hX48
    have HO8 := Lib.hid (HO4.out.ext hX48)
    have HU8 := Lib.hid (HU4.out.ext hX48)
    clear hS2 hT2 hS4 hT4 HO4 HU4 hB3 hB7 hB37
    go_wp2_with fail
    refine (l_markPointS _ _ ps 1 _ hOx hl (by omega) (by omega)).mono ?_
    rintro e w9 ⟨rfl, hO9, hg9⟩
    have hX9 : Ext w w9 := hX8.grown hg9 (by rintro q hq; cases hq; have := hX2.size; omega)
    have hS29 := hS28.grown hg9 (by intro q hq; have := hA2 q hq; simp [Value.ownBlock]; omega)
    have hT29 := hT28.grown hg9 (by intro q hq; have := hB2 q hq; simp [Value.ownBlock]; omega)
    have hS49 := hS48.grown hg9 (by intro q hq; have := hA4 q hq; simp [Value.ownBlock]; omega)
    have hT49 := hT48.grown hg9 (by intro q hq; have := hB4 q hq; simp [Value.ownBlock]; omega)
    have HO9 := Lib.hid (HO8.out.kept hg9 (by
      rcases hv : (Value.slice A4 m1 c4).ownBlock with _ | q
      · exact .inl rfl
      · refine .inr ?_
        have := HO8.out.row q hv
        simp [Value.ownBlock]; omega))
    have HU9 := Lib.hid (HU8.out.kept hg9 (by
      rcases hv : (Value.slice B4 m2 d4).ownBlock with _ | q
      · exact .inl rfl
      · refine .inr ?_
        have := HU8.out.row q hv
        simp [Value.ownBlock]; omega))
    clear hg9 hO9 hOx hS28 hT28 hS48 hT48 HO8 HU8
    go_wp2_with fail
    refine (l_eqP A4 A2 m1 c4 c2 r1 _ hS49 hS29 HM1.out (by omega)).mono ?_
    rintro e w10 ⟨rfl, hx10⟩
    go_wp2_with fail
    refine (l_eqP B4 B2 m2 d4 d2 r2 _ (hT49.ext hx10) (hT29.ext hx10) HM2.out (by omega)).mono ?_
    rintro e w11 ⟨rfl, hx11⟩
    have hx911 := hx10.trans hx11
    have hX11 := hX9.trans hx911
    have HO11 := Lib.hid (HO9.out.ext hx911)
    have HU11 := Lib.hid (HU9.out.ext hx911)
    have hS211 := hS29.ext hx911
    have hT211 := hT29.ext hx911
    clear HO9 HU9 hS29 hT29 hS49 hT49
    go_wp2_with fail
    refine (l_markP _ _ _ m1 1 _ HO11.out HM1.out (by omega) (by omega) (by omega)).mono ?_
    rintro e w12 ⟨rfl, hO12, hg12⟩
    have hX12 : Ext w w12 := hX11.grown hg12 (fun q hq => by have := (HO11.out.row q hq).1; have := hX2.size; omega)
    have hS212 := hS211.grown hg12 (by intro q hq he; have := hA2 q hq; have := (HO11.out.row _ he.symm).1; omega)
    have hT212 := hT211.grown hg12 (by intro q hq he; have := hB2 q hq; have := (HO11.out.row _ he.symm).1; omega)
    have HU12 := Lib.hid (HU11.out.kept hg12 (by
      rcases hv : (Value.slice B4 m2 d4).ownBlock with _ | q
      · exact .inl rfl
      · refine .inr ?_
        have := HU11.out.row q hv
        intro he; have := HV4.out q he.symm; omega))
    obtain ⟨_, _, e', hS412, _⟩ := hO12.sl len_encP
    injection e' with ea eb ec
    subst ea
    clear hg12 hO12 HO11 HU11 hS211 hT211 eb ec
    go_wp2_with fail
    refine (l_markP _ _ _ m2 _ _ HU12.out HM2.out (by omega) (by omega) (by omega)).mono ?_
    rintro e w13 ⟨rfl, hU13, hg13⟩
    have hX13 : Ext w w13 := hX12.grown hg13 (fun q hq => by have := (HU12.out.row q hq).1; have := hX2.size; omega)
    have hS213 := hS212.grown hg13 (by intro q hq he; have := hA2 q hq; have := (HU12.out.row _ he.symm).1; omega)
    have hT213 := hT212.grown hg13 (by intro q hq he; have := hB2 q hq; have := (HU12.out.row _ he.symm).1; omega)
    have hS413 := hS412.grown hg13 (by
      intro q hq he
      have h1 := (HU12.out.row _ he.symm).1
      have h2 := HV4.out q.block (by rw [hq]; rfl)
      omega)
    obtain ⟨_, _, e', hT413, _⟩ := hU13.sl len_encP
    injection e' with ea eb ec
    subst ea
    clear hg13 hU13 HU12 hS212 hT212 hS412 eb ec
    go_wp2_with fail
    refine (l_heldPointS _ m1 _ 1 _ hS413 (by omega) (by omega) (by omega)).mono ?_
    rintro e w' ⟨rfl, rfl⟩
    go_wp2_with fail
    refine (l_heldPointS _ m2 _ _ _ hT413 (by omega) (by omega) (by omega)).mono ?_
    rintro e w' ⟨rfl, rfl⟩
    go_wp2_with fail
    refine (l_toPointS _ _ ps _ (h.ext hX13) hl).mono ?_
    rintro e w14 ⟨cs14, rfl, hB14, hcs14, hx14⟩
    go_wp2_with fail
    refine (HIP.out _ _ (hB14.sl hcs14 len_encP)).mono ?_
    rintro e w15 ⟨v15, u15, n15, rfl, hO15, hU15, _, _, hx15⟩
    obtain ⟨A15, c15, rfl, hS15, _, _, hA15⟩ := hO15.sl len_encP
    obtain ⟨B15, d15, rfl, hT15, _, _, hB15⟩ := hU15.sl len_encP
    rw [← HM1.out, ← HM2.out]
    have hx1315 := hx14.trans hx15
    clear hO15 hU15 hB14
    go_wp2_with fail
    refine (l_eqP A15 A2 m1 c15 c2 r1 _ hS15 (hS213.ext hx1315) HM1.out (by omega)).mono ?_
    rintro e w16 ⟨rfl, hx16⟩
    go_wp2_with fail
    refine (l_eqP B15 B2 m2 d15 d2 r2 _ (hT15.ext hx16) (hT213.ext (hx1315.trans hx16)) HM2.out (by omega)).mono ?_
    rintro e w17 ⟨rfl, hx17⟩
    have hx1317 := (hx1315.trans hx16).trans hx17
    go_wp2_with fail
    refine (l_heldPointS _ m1 _ 1 _ (hS413.ext hx1317) (by omega) (by omega) (by omega)).mono ?_
    rintro e w' ⟨rfl, rfl⟩
    go_wp2_with fail
    refine (l_heldPointS _ m2 _ _ _ (hT413.ext hx1317) (by omega) (by omega) (by omega)).mono ?_
    rintro e w' ⟨rfl, rfl⟩
    go_wp2
    go_ret
    exact ⟨rfl, hX13.trans hx1317⟩
  · have hs0 : szR 1048576 ps.length = -1 := by unfold szR; rw [if_pos (by omega)]
    have hsz := l_szPointS A ps.length c 1048576 w hn (by omega) (by omega)
    rw [hs0] at hsz
    have HZ := Lib.hid hsz
    clear hs0 hsz
    go_enter Try.func12, Try.ntmps12
    (go_wp2_with fail; refine (HZ.out).mono ?_; rintro e w' ⟨rfl, rfl⟩)
    go_wp2
    go_ret
    exact ⟨rfl, by (repeat (first | with_reducible exact Ext.refl _ | with_reducible assumption | ((with_reducible apply Src.ext); with_reducible assumption) | with_reducible refine Ext.alloc ?_ _ | with_reducible refine Ext.drew ?_ | with_reducible refine Ext.drewN ?_ _ | ((with_reducible refine Ext.setCell' ?_ ?_ _); solve | omega | simp | (simp; omega)) | (with_reducible refine Ext.trans ?_ (by with_reducible assumption))))⟩

end Go.Proofs.Ythhkmkhilnglkaa
