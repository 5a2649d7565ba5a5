/- The law of StateLine, walked over the translation. -/
import Derived.Test.YtapfokfbdmcokaaGreatDoorYXA
import Derived.Test.YtapfokfbdmcokaaGreatDoorYXB
import Derived.Test.YtapfokfbdmcokaaGreatDoorZA
import Derived.Test.YtapfokfbdmcokaaGreatDoorKX
import Derived.Deep.RegionHeld3
import Derived.Deep.DeepCutAuto
import Derived.RegionTactic
import Derived.BigRegion
import Derived.WalkLawsBesides
import Derived.WalkSpells
import Derived.Lib.MinMax
import Derived.Outline
namespace Go.Proofs.YtapfokfbdmcokaaGreatDoor
open Go.RowKit
attribute [local go_sem] ExtOf.cell ExtOf.frozen


set_option maxRecDepth 20000 in
set_option maxHeartbeats 12800000 in
theorem fnExactStateLine_walk (A : Option Addr) (c : Nat) (ps : List Pl) (A' : Option Addr) (c' : Nat) (L : List Lk) (sx : ByteArray) (Al : Option Addr) (cl : Nat) (ls : List (List UInt8)) (y : Int) (w : World) (h : ArgQ w A ps) (h' : ArgK w A' L) (hsx : sx.size ≤ maxLen) (h9 : ArgT w Al ls) (hM : Mx w) :
    Calls Tryz.prog 9 #[.agg #[.slice A ps.length c, .slice A' L.length c'], .string sx, .slice Al ls.length cl, .int .i64 y] w fun e w' => e = .returned (.bool true) ∧ Ext w w' := by
  unfold maxLen at hsx
  by_cases hox : 1048576 < sx.size
  · go_enter Tryz.func9, Tryz.ntmps9
    go_wp2
    go_ret
    exact ⟨rfl, by (repeat (first | with_reducible exact Ext.refl _ | with_reducible assumption | ((with_reducible apply Src.ext); with_reducible assumption) | with_reducible refine Ext.alloc ?_ _ | with_reducible refine Ext.drew ?_ | with_reducible refine Ext.drewN ?_ _ | ((with_reducible refine Ext.setCell' ?_ ?_ _); solve | omega | simp | (simp; omega)) | (with_reducible refine Ext.trans ?_ (by with_reducible assumption))))⟩
  obtain ⟨x, rfl⟩ : ∃ x : List UInt8, tx x = sx := ⟨sx.data.toList, rfl⟩
  have hszx := tx_size x
  have hlex : x.length ≤ 1048576 := by omega
  have H9 : Hid (∀ W, Ext w W → SlAt W 1 encS Al ls) := Lib.hid (fun W hW => h9.sl.ext hW)
  have H0 : Hid (∀ W, Ext w W → ArgQ W A ps ∧ ArgK W A' L) := Lib.hid (fun W hW => ⟨h.ext hW, h'.ext hW⟩)
  go_enter Tryz.func9, Tryz.ntmps9
  go_wp2_with fail
  refine (l_szWorld _ _ _ _ ps L 1048576 _ (H0.out _ (by (repeat (first | with_reducible exact Ext.refl _ | with_reducible assumption | ((with_reducible apply Src.ext); with_reducible assumption) | with_reducible refine Ext.alloc ?_ _ | with_reducible refine Ext.drew ?_ | with_reducible refine Ext.drewN ?_ _ | ((with_reducible refine Ext.setCell' ?_ ?_ _); solve | omega | simp | (simp; omega)) | (with_reducible refine Ext.trans ?_ (by with_reducible assumption)))))).1 (H0.out _ (by (repeat (first | with_reducible exact Ext.refl _ | with_reducible assumption | ((with_reducible apply Src.ext); with_reducible assumption) | with_reducible refine Ext.alloc ?_ _ | with_reducible refine Ext.drew ?_ | with_reducible refine Ext.drewN ?_ _ | ((with_reducible refine Ext.setCell' ?_ ?_ _); solve | omega | simp | (simp; omega)) | (with_reducible refine Ext.trans ?_ (by with_reducible assumption)))))).2 (by omega) (by omega)).mono ?_
  rintro e w0 ⟨⟨z, rfl, hz1, hz⟩, hx0⟩
  have B0 : Blk w0 w.heap.size 25 #[.slice A ps.length c, .slice A' L.length c'] := Blk.eq (by (repeat (first | with_reducible assumption | ((with_reducible apply Blk.new); solve | simp | rfl) | with_reducible apply Blk.drew | with_reducible apply Blk.drewN | ((with_reducible apply Blk.far'); solve | omega | simp | (simp; omega)) | with_reducible apply Blk.set_ | with_reducible apply Blk.alloc | ((with_reducible apply Blk.ext'); with_reducible assumption) | ((with_reducible apply Blk.but'); (with_reducible assumption); solve | omega | (simp; omega))))) (by rfl)
  have hX0 : Ext w w0 := by clear B0; (repeat (first | with_reducible exact Ext.refl _ | with_reducible assumption | ((with_reducible apply Src.ext); with_reducible assumption) | with_reducible refine Ext.alloc ?_ _ | with_reducible refine Ext.drew ?_ | with_reducible refine Ext.drewN ?_ _ | ((with_reducible refine Ext.setCell' ?_ ?_ _); solve | omega | simp | (simp; omega)) | (with_reducible refine Ext.trans ?_ (by with_reducible assumption))))
  rcases hz with rfl | ⟨hz0, hg⟩
  · go_wp2
    go_ret
    exact ⟨rfl, hX0⟩
  · have HG := Lib.hid hg
    have hl := hg.1
    have hl' := hg.2.2.1
    have hg4 := Lib.hid hg.2.2.2
    go_wp2_with fail
    refine (l_szStringS Al _ cl ls z _ (H9.out _ (by (repeat (first | with_reducible exact Ext.refl _ | with_reducible assumption | ((with_reducible apply Src.ext); with_reducible assumption) | with_reducible refine Ext.alloc ?_ _ | with_reducible refine Ext.drew ?_ | with_reducible refine Ext.drewN ?_ _ | ((with_reducible refine Ext.setCell' ?_ ?_ _); solve | omega | simp | (simp; omega)) | (with_reducible refine Ext.trans ?_ (by with_reducible assumption)))))) rfl h9.len h9.can hz0 hz1).mono ?_
    rintro e w' ⟨⟨zs, rfl, hzs⟩, rfl⟩
    by_cases hneg : zs < 0
    · go_wp2
      go_ret
      exact ⟨rfl, hX0⟩
    have hzs2 : ls.length ≤ 1048576 ∧ ∀ i, (ls.getD i []).length ≤ 1048576 := by
      rcases hzs.2 with q | q
      · omega
      · exact q.2
    obtain ⟨hll, hli⟩ := hzs2
    have hmem : ∀ s ∈ ls, s.length ≤ 1048576 := fun s hs => by
      obtain ⟨j, hj, rfl⟩ := List.mem_iff_getElem.1 hs
      have := hli j
      rwa [show ls.getD j [] = ls[j] by simp [List.getD, hj]] at this
    clear hzs hli h9
    obtain ⟨res, hres⟩ : ∃ res : Value, res = .tuple #[.string (tx (slR (psD ps) L x ls y)), .int .i64 (slC (psD ps) L x ls y)] := ⟨_, rfl⟩
    have HS : Hid (∀ (W : World) (q : List Pl) (b d g : Nat), psD q = psD ps → WIn W (some ⟨b, 0, none⟩) (some ⟨d, 0, none⟩) ps.length ps.length L.length L.length q L → Ext w W → SlAt W 1 encS (some ⟨g, 0, none⟩) ls → Calls Tryz.prog 37 #[.agg #[.slice (some ⟨b, 0, none⟩) ps.length ps.length, .slice (some ⟨d, 0, none⟩) L.length L.length], .string (tx x), .slice (some ⟨g, 0, none⟩) ls.length ls.length, .int .i64 y] W fun e w' => e = .returned (res) ∧ Ext W w') := Lib.hid (fun W q b d g hq hW hx hls => by
      have := s_StateLineW (c9 := ls.length) x y hW hls rfl hll hmem hlex
      rw [hq] at this
      rw [hres]
      exact this)
    have HI : Hid (∀ (W : World) (q : List Pl) (b d g : Nat), psD q = psD ps → WIn W (some ⟨b, 0, none⟩) (some ⟨d, 0, none⟩) ps.length ps.length L.length L.length q L → Ext w W → SlAt W 1 encS (some ⟨g, 0, none⟩) ls → Calls Tryz.prog 38 #[.agg #[.slice (some ⟨b, 0, none⟩) ps.length ps.length, .slice (some ⟨d, 0, none⟩) L.length L.length], .string (tx x), .slice (some ⟨g, 0, none⟩) ls.length ls.length, .int .i64 y] W fun e w' => e = .returned (res) ∧ Ext W w') := Lib.hid (fun W q b d g hq hW hx hls => by
      have := i_StateLineW (c9 := ls.length) x y hW hls rfl hll hmem hlex (hM.ext hx)
      rw [hq] at this
      rw [hres]
      exact this)
    have HBX : Hid (∀ W, Ext w0 W → W.cell? ⟨w.heap.size, 0, none⟩ = some (.slice A ps.length c) ∧ W.cell? ⟨w.heap.size, 1, none⟩ = some (.slice A' L.length c')) := Lib.hid (fun W hW => ⟨(B0.ext hW).cell 0, (B0.ext hW).cell 1⟩)
    clear hg h h' hx0 B0
    generalize tx x = tx at *
    obtain ⟨rs, hrs⟩ : ∃ rs : ByteArray, rs = ByteArray.mk (slR (psD ps) L x ls y).toArray := ⟨_, rfl⟩
    obtain ⟨cd, hcd⟩ : ∃ cd : Int, cd = slC (psD ps) L x ls y := ⟨_, rfl⟩
    have hres2 : res = .tuple #[.string rs, .int .i64 cd] := by rw [hres, hrs, hcd]; rfl
    clear hres
    subst hres2
    have hc2 : (cd != cd) = false := by simp
    clear hrs hcd
    obtain ⟨ga1, gb1⟩ := HBX.out w0 (Ext.refl _)
    go_wp2_with fail
    refine (l_toWorld _ _ _ _ ps L _ ((H0.out _ (by (repeat (first | with_reducible exact Ext.refl _ | with_reducible assumption | ((with_reducible apply Src.ext); with_reducible assumption) | with_reducible refine Ext.alloc ?_ _ | with_reducible refine Ext.drew ?_ | with_reducible refine Ext.drewN ?_ _ | ((with_reducible refine Ext.setCell' ?_ ?_ _); solve | omega | simp | (simp; omega)) | (with_reducible refine Ext.trans ?_ (by with_reducible assumption)))))).1) ((H0.out _ (by (repeat (first | with_reducible exact Ext.refl _ | with_reducible assumption | ((with_reducible apply Src.ext); with_reducible assumption) | with_reducible refine Ext.alloc ?_ _ | with_reducible refine Ext.drew ?_ | with_reducible refine Ext.drewN ?_ _ | ((with_reducible refine Ext.setCell' ?_ ?_ _); solve | omega | simp | (simp; omega)) | (with_reducible refine Ext.trans ?_ (by with_reducible assumption)))))).2) HG.out).mono ?_
    rintro e w1 ⟨q1, b1, d1, rfl, hq1, hp1, hW1, hx1⟩
    have HQ1 := Lib.hid hq1
    have HP1 := Lib.hid hp1
    have HW1 := Lib.hid hW1
    clear hq1 hp1 hW1 ga1 gb1
    have hX1a : Ext w w1 := hX0.trans hx1
    have HX1a := Lib.hid hX1a
    have HX01 := Lib.hid hx1
    clear hX1a hx1
    go_wp2_with fail
    refine (l_toStringS Al _ cl ls _ (H9.out _ HX1a.out) rfl hll).mono ?_
    rintro e w1b ⟨cs1, rfl, hB1b, hcs1, hx1b⟩
    have HL1b := Lib.hid (hB1b.sl hcs1 len_encS)
    have HX1b := Lib.hid hx1b
    clear hB1b hcs1
    have hX1 : Ext w w1b := HX1a.out.trans hx1b
    have hx1 : Ext w0 w1b := HX01.out.trans hx1b
    clear hx1b
    go_wp2_with fail
    refine (HS.out _ q1 b1 d1 _ HP1.out ((HW1.out.ext HX1b.out).win HQ1.out.symm hl rfl hl' hg4.out) hX1 HL1b.out).mono ?_
    rintro e w2 ⟨rfl, hx2⟩
    have hX2 : Ext w w2 := hX1.trans hx2
    obtain ⟨ga3, gb3⟩ := HBX.out w2 (hx1.trans hx2)
    go_wp2_with fail
    refine (l_toWorld _ _ _ _ ps L _ ((H0.out _ (by (repeat (first | with_reducible exact Ext.refl _ | with_reducible assumption | ((with_reducible apply Src.ext); with_reducible assumption) | with_reducible refine Ext.alloc ?_ _ | with_reducible refine Ext.drew ?_ | with_reducible refine Ext.drewN ?_ _ | ((with_reducible refine Ext.setCell' ?_ ?_ _); solve | omega | simp | (simp; omega)) | (with_reducible refine Ext.trans ?_ (by with_reducible assumption)))))).1) ((H0.out _ (by (repeat (first | with_reducible exact Ext.refl _ | with_reducible assumption | ((with_reducible apply Src.ext); with_reducible assumption) | with_reducible refine Ext.alloc ?_ _ | with_reducible refine Ext.drew ?_ | with_reducible refine Ext.drewN ?_ _ | ((with_reducible refine Ext.setCell' ?_ ?_ _); solve | omega | simp | (simp; omega)) | (with_reducible refine Ext.trans ?_ (by with_reducible assumption)))))).2) HG.out).mono ?_
    rintro e w3 ⟨q3, b3, d3, rfl, hq3, hp3, hW3, hx3⟩
    have HQ3 := Lib.hid hq3
    have HP3 := Lib.hid hp3
    have HW3 := Lib.hid hW3
    clear hq3 hp3 hW3 ga3 gb3
    have hX3 : Ext w w3 := hX2.trans hx3
    have HX3 := Lib.hid hX3
    clear hX3
    go_wp2_with fail
    refine (l_toStringS Al _ cl ls _ (H9.out _ (HX3.out.trans (by clear hX0 hX1 hX2; (repeat (first | with_reducible exact Ext.refl _ | with_reducible assumption | ((with_reducible apply Src.ext); with_reducible assumption) | with_reducible refine Ext.alloc ?_ _ | with_reducible refine Ext.drew ?_ | with_reducible refine Ext.drewN ?_ _ | ((with_reducible refine Ext.setCell' ?_ ?_ _); solve | omega | simp | (simp; omega)) | (with_reducible refine Ext.trans ?_ (by with_reducible assumption))))))) rfl hll).mono ?_
    rintro e w3b ⟨cs3, rfl, hB3b, hcs3, hx3b⟩
    (try simp only [World.size_alloc] at hB3b)
    have HCS3 := Lib.hid hcs3
    have HB3b := Lib.hid hB3b
    have B3b : Blk w3b w3.heap.size 33 #[.slice (some ⟨b3, 0, none⟩) ps.length ps.length, .slice (some ⟨d3, 0, none⟩) L.length L.length] := Blk.eq (by (repeat (first | with_reducible assumption | ((with_reducible apply Blk.new); solve | simp | rfl) | with_reducible apply Blk.drew | with_reducible apply Blk.drewN | ((with_reducible apply Blk.far'); solve | omega | simp | (simp; omega)) | with_reducible apply Blk.set_ | with_reducible apply Blk.alloc | ((with_reducible apply Blk.ext'); with_reducible assumption) | ((with_reducible apply Blk.but'); (with_reducible assumption); solve | omega | (simp; omega))))) (by rfl)
    have hx33b : Ext w3 w3b := by clear hX0 hX1 hX2; (repeat (first | with_reducible exact Ext.refl _ | with_reducible assumption | ((with_reducible apply Src.ext); with_reducible assumption) | with_reducible refine Ext.alloc ?_ _ | with_reducible refine Ext.drew ?_ | with_reducible refine Ext.drewN ?_ _ | ((with_reducible refine Ext.setCell' ?_ ?_ _); solve | omega | simp | (simp; omega)) | (with_reducible refine Ext.trans ?_ (by with_reducible assumption))))
    have HX33b := Lib.hid hx33b
    have y30 : w3b.cell? ⟨w3.heap.size, 0, none⟩ = some (.slice (some ⟨b3, 0, none⟩) ps.length ps.length) := B3b.cell 0
    have y31 : w3b.cell? ⟨w3.heap.size, 1, none⟩ = some (.slice (some ⟨d3, 0, none⟩) L.length L.length) := B3b.cell 1
    have HBW := Lib.hid B3b
    have hl3b := B3b.lt
    have hl3c := hB3b.lt
    clear hcs3 hB3b B3b hx3b hx33b
    go_wp2_with fail
    refine (HI.out _ q3 b3 d3 (w3.heap.size + 1) HP3.out ((HW3.out.ext HX33b.out).win HQ3.out.symm hl rfl hl' hg4.out) (HX3.out.trans HX33b.out) (HB3b.out.sl HCS3.out len_encS)).mono ?_
    rintro e w4 ⟨rfl, hx4⟩
    have B3 : Blk w4 w3.heap.size 33 #[.slice (some ⟨b3, 0, none⟩) ps.length ps.length, .slice (some ⟨d3, 0, none⟩) L.length L.length] := HBW.out.ext hx4
    have HB34 : Hid (Blk w4 (w3.heap.size + 1) 9 cs3) := Lib.hid (HB3b.out.ext hx4)
    have hx34 : Ext w3 w4 := HX33b.out.trans hx4
    have hX3 := HX3.out
    clear y30 y31
    have HBY : Hid (∀ W, Ext w4 W → W.cell? ⟨w3.heap.size, 0, none⟩ = some (.slice (some ⟨b3, 0, none⟩) ps.length ps.length) ∧ W.cell? ⟨w3.heap.size, 1, none⟩ = some (.slice (some ⟨d3, 0, none⟩) L.length L.length)) := Lib.hid (fun W hW => ⟨(B3.ext hW).cell 0, (B3.ext hW).cell 1⟩)
    have hX4 : Ext w w4 := hX3.trans hx34
    have HX34 := Lib.hid hx34
    obtain ⟨gc4, gd4⟩ := HBY.out w4 (Ext.refl _)
    have hx04 : Ext w0 w4 := ((hx1.trans hx2).trans hx3).trans hx34
    obtain ⟨ga4, gb4⟩ := HBX.out w4 hx04
    have HKK : Hid (∀ W, Ext w4 W → W.cell? ⟨w3.heap.size, 0, none⟩ = some (.slice (some ⟨b3, 0, none⟩) ps.length ps.length) ∧ W.cell? ⟨w3.heap.size, 1, none⟩ = some (.slice (some ⟨d3, 0, none⟩) L.length L.length) ∧ W.cell? ⟨w.heap.size, 0, none⟩ = some (.slice A ps.length c) ∧ W.cell? ⟨w.heap.size, 1, none⟩ = some (.slice A' L.length c')) := Lib.hid (fun W hW => ⟨(HBY.out W hW).1, (HBY.out W hW).2, (HBX.out W (hx04.trans hW)).1, (HBX.out W (hx04.trans hW)).2⟩)
    have HX4 := Lib.hid hX4
    clear hx4 B3 hX0 hX1 hX2 hX3 hX4 hx1 hx2 hx3 hx34 hx04
    go_wp2
    go_region_held3 (fun w' => w'.cell? ⟨w3.heap.size, 0, none⟩ = some (.slice (some ⟨b3, 0, none⟩) ps.length ps.length) ∧ w'.cell? ⟨w3.heap.size, 1, none⟩ = some (.slice (some ⟨d3, 0, none⟩) L.length L.length) ∧ w'.cell? ⟨w.heap.size, 0, none⟩ = some (.slice A ps.length c) ∧ w'.cell? ⟨w.heap.size, 1, none⟩ = some (.slice A' L.length c')) (first | go_keep | exact HKK.out _ (by (repeat (first | with_reducible exact Ext.refl _ | with_reducible assumption | ((with_reducible apply Src.ext); with_reducible assumption) | with_reducible refine Ext.alloc ?_ _ | with_reducible refine Ext.drew ?_ | with_reducible refine Ext.drewN ?_ _ | ((with_reducible refine Ext.setCell' ?_ ?_ _); solve | omega | simp | (simp; omega)) | (with_reducible refine Ext.trans ?_ (by with_reducible assumption)))))) (first | (go_at_call 14; refine (l_toWorld _ _ _ _ ps L _ (H0.out _ (HX4.out.trans (by (repeat (first | with_reducible exact Ext.refl _ | with_reducible assumption | ((with_reducible apply Src.ext); with_reducible assumption) | with_reducible refine Ext.alloc ?_ _ | with_reducible refine Ext.drew ?_ | with_reducible refine Ext.drewN ?_ _ | ((with_reducible refine Ext.setCell' ?_ ?_ _); solve | omega | simp | (simp; omega)) | (with_reducible refine Ext.trans ?_ (by with_reducible assumption))))))).1 (H0.out _ (HX4.out.trans (by (repeat (first | with_reducible exact Ext.refl _ | with_reducible assumption | ((with_reducible apply Src.ext); with_reducible assumption) | with_reducible refine Ext.alloc ?_ _ | with_reducible refine Ext.drew ?_ | with_reducible refine Ext.drewN ?_ _ | ((with_reducible refine Ext.setCell' ?_ ?_ _); solve | omega | simp | (simp; omega)) | (with_reducible refine Ext.trans ?_ (by with_reducible assumption))))))).2 HG.out).mono ?_; rintro e w5 ⟨q5, b5, d5, rfl, hq5, hp5, hW5, hx5⟩; have hs5 := hx5.size; have HQ5 := Lib.hid hq5; have HP5 := Lib.hid hp5; have HW5 := Lib.hid hW5; clear hq5 hp5 hW5) | (go_at_call 17; refine (l_eqWorld (HW3.out.ext (HX34.out.trans (by (repeat (first | with_reducible exact Ext.refl _ | with_reducible assumption | ((with_reducible apply Src.ext); with_reducible assumption) | with_reducible refine Ext.alloc ?_ _ | with_reducible refine Ext.drew ?_ | with_reducible refine Ext.drewN ?_ _ | ((with_reducible refine Ext.setCell' ?_ ?_ _); solve | omega | simp | (simp; omega)) | (with_reducible refine Ext.trans ?_ (by with_reducible assumption))))))) (HW5.out.ext (by (repeat (first | with_reducible exact Ext.refl _ | with_reducible assumption | ((with_reducible apply Src.ext); with_reducible assumption) | with_reducible refine Ext.alloc ?_ _ | with_reducible refine Ext.drew ?_ | with_reducible refine Ext.drewN ?_ _ | ((with_reducible refine Ext.setCell' ?_ ?_ _); solve | omega | simp | (simp; omega)) | (with_reducible refine Ext.trans ?_ (by with_reducible assumption)))))) (HP3.out.trans HP5.out.symm) _ _ _ _ _ _ HQ3.out.symm rfl hl hl').mono ?_; rintro e w6 ⟨rfl, hx6⟩; have hs6 := hx6.size))
    all_goals
      have hX46 : Ext w4 w6 := by (repeat (first | with_reducible exact Ext.refl _ | with_reducible assumption | ((with_reducible apply Src.ext); with_reducible assumption) | with_reducible refine Ext.alloc ?_ _ | with_reducible refine Ext.drew ?_ | with_reducible refine Ext.drewN ?_ _ | ((with_reducible refine Ext.setCell' ?_ ?_ _); solve | omega | simp | (simp; omega)) | (with_reducible refine Ext.trans ?_ (by with_reducible assumption))))
      have HX46 := Lib.hid hX46
      clear hX46 hx5 hx6 hs5 hs6
      go_wp2_with fail
      refine (l_toStringS Al _ cl ls _ (H9.out _ (HX4.out.trans HX46.out)) rfl hll).mono ?_
      rintro e w8 ⟨cs8, rfl, hB8, hcs8, hx8⟩
      have HL8 := Lib.hid (hB8.sl hcs8 len_encS)
      have HX8 := Lib.hid hx8
      clear hB8 hcs8 hx8
      go_wp2_with fail
      refine (l_eqS _ _ ls.length ls.length ls.length ls _ ((HB34.out.ext (HX46.out.trans HX8.out)).sl HCS3.out len_encS) HL8.out rfl hll).mono ?_
      rintro e w9 ⟨rfl, hx9⟩
      go_wp2
      go_ret
      exact ⟨rfl, ((HX4.out.trans HX46.out).trans HX8.out).trans hx9⟩

end Go.Proofs.YtapfokfbdmcokaaGreatDoor
