/- The law of SteadySpan, walked over the translation. -/
import Derived.Test.YtapfokfbdmcokaaGreatDoorYPC
import Derived.Test.YtapfokfbdmcokaaGreatDoorZA
import Derived.Deep.RegionHeld3
import Derived.Deep.DeepCutAuto
import Derived.RegionTactic
import Derived.BigRegion
import Derived.WalkLawsBesides
import Derived.WalkSpells
import Derived.Lib.MinMax
import Derived.Outline
namespace Go.Proofs.YtapfokfbdmcokaaGreatDoor
open Go.RowKit
attribute [local go_sem] ExtOf.cell ExtOf.frozen


set_option maxRecDepth 20000 in
set_option maxHeartbeats 12800000 in
theorem fnExactSteadySpan_walk (A : Option Addr) (c : Nat) (ps : List Pl) (A' : Option Addr) (c' : Nat) (L : List Lk) (sx : ByteArray) (y : Int) (w : World) (h : ArgQ w A ps) (h' : ArgK w A' L) (hsx : sx.size ≤ maxLen) (hM : Mx w) :
    Calls Tryz.prog 5 #[.agg #[.slice A ps.length c, .slice A' L.length c'], .string sx, .int .i64 y] w fun e w' => e = .returned (.bool true) ∧ Ext w w' := by
  unfold maxLen at hsx
  by_cases hox : 1048576 < sx.size
  · go_enter Tryz.func5, Tryz.ntmps5
    go_wp2
    go_ret
    exact ⟨rfl, by (repeat (first | with_reducible exact Ext.refl _ | with_reducible assumption | ((with_reducible apply Src.ext); with_reducible assumption) | with_reducible refine Ext.alloc ?_ _ | with_reducible refine Ext.drew ?_ | with_reducible refine Ext.drewN ?_ _ | ((with_reducible refine Ext.setCell' ?_ ?_ _); solve | omega | simp | (simp; omega)) | (with_reducible refine Ext.trans ?_ (by with_reducible assumption))))⟩
  obtain ⟨x, rfl⟩ : ∃ x : List UInt8, tx x = sx := ⟨sx.data.toList, rfl⟩
  have hszx := tx_size x
  have hlex : x.length ≤ 1048576 := by omega
  have H0 : Hid (∀ W, Ext w W → ArgQ W A ps ∧ ArgK W A' L) := Lib.hid (fun W hW => ⟨h.ext hW, h'.ext hW⟩)
  go_enter Tryz.func5, Tryz.ntmps5
  go_wp2_with fail
  refine (l_szWorld _ _ _ _ ps L 1048576 _ (H0.out _ (by (repeat (first | with_reducible exact Ext.refl _ | with_reducible assumption | ((with_reducible apply Src.ext); with_reducible assumption) | with_reducible refine Ext.alloc ?_ _ | with_reducible refine Ext.drew ?_ | with_reducible refine Ext.drewN ?_ _ | ((with_reducible refine Ext.setCell' ?_ ?_ _); solve | omega | simp | (simp; omega)) | (with_reducible refine Ext.trans ?_ (by with_reducible assumption)))))).1 (H0.out _ (by (repeat (first | with_reducible exact Ext.refl _ | with_reducible assumption | ((with_reducible apply Src.ext); with_reducible assumption) | with_reducible refine Ext.alloc ?_ _ | with_reducible refine Ext.drew ?_ | with_reducible refine Ext.drewN ?_ _ | ((with_reducible refine Ext.setCell' ?_ ?_ _); solve | omega | simp | (simp; omega)) | (with_reducible refine Ext.trans ?_ (by with_reducible assumption)))))).2 (by omega) (by omega)).mono ?_
  rintro e w0 ⟨⟨z, rfl, hz1, hz⟩, hx0⟩
  have B0 : Blk w0 w.heap.size 25 #[.slice A ps.length c, .slice A' L.length c'] := Blk.eq (by (repeat (first | with_reducible assumption | ((with_reducible apply Blk.new); solve | simp | rfl) | with_reducible apply Blk.drew | with_reducible apply Blk.drewN | ((with_reducible apply Blk.far'); solve | omega | simp | (simp; omega)) | with_reducible apply Blk.set_ | with_reducible apply Blk.alloc | ((with_reducible apply Blk.ext'); with_reducible assumption) | ((with_reducible apply Blk.but'); (with_reducible assumption); solve | omega | (simp; omega))))) (by rfl)
  have hX0 : Ext w w0 := by clear B0; (repeat (first | with_reducible exact Ext.refl _ | with_reducible assumption | ((with_reducible apply Src.ext); with_reducible assumption) | with_reducible refine Ext.alloc ?_ _ | with_reducible refine Ext.drew ?_ | with_reducible refine Ext.drewN ?_ _ | ((with_reducible refine Ext.setCell' ?_ ?_ _); solve | omega | simp | (simp; omega)) | (with_reducible refine Ext.trans ?_ (by with_reducible assumption))))
  rcases hz with rfl | ⟨hz0, hg⟩
  · go_wp2
    go_ret
    exact ⟨rfl, hX0⟩
  · have HG := Lib.hid hg
    have hl := hg.1
    have hl' := hg.2.2.1
    have hg4 := Lib.hid hg.2.2.2
    obtain ⟨res, hres⟩ : ∃ res : Value, res = .tuple #[.agg #[.int .i64 (ssA (psD ps) L x y), .int .i64 (ssZ (psD ps) L x y)], .int .i64 (ssC (psD ps) L x true y)] := ⟨_, rfl⟩
    have HS : Hid (∀ (W : World) (q : List Pl) (b d : Nat), psD q = psD ps → WIn W (some ⟨b, 0, none⟩) (some ⟨d, 0, none⟩) ps.length ps.length L.length L.length q L → Ext w W → Calls Tryz.prog 23 #[.agg #[.slice (some ⟨b, 0, none⟩) ps.length ps.length, .slice (some ⟨d, 0, none⟩) L.length L.length], .string (tx x), .int .i64 y] W fun e w' => e = .returned (res) ∧ Ext W w') := Lib.hid (fun W q b d hq hW hx => by
      have := s_SteadySpanW x y hW hlex
      rw [hq] at this
      rw [hres]
      exact this)
    have HI : Hid (∀ (W : World) (q : List Pl) (b d : Nat), psD q = psD ps → WIn W (some ⟨b, 0, none⟩) (some ⟨d, 0, none⟩) ps.length ps.length L.length L.length q L → Ext w W → Calls Tryz.prog 24 #[.agg #[.slice (some ⟨b, 0, none⟩) ps.length ps.length, .slice (some ⟨d, 0, none⟩) L.length L.length], .string (tx x), .int .i64 y] W fun e w' => e = .returned (res) ∧ Ext W w') := Lib.hid (fun W q b d hq hW hx => by
      have := i_SteadySpanW x y hW hlex (hM.ext hx)
      rw [hq] at this
      rw [hres]
      exact this)
    have HBX : Hid (∀ W, Ext w0 W → W.cell? ⟨w.heap.size, 0, none⟩ = some (.slice A ps.length c) ∧ W.cell? ⟨w.heap.size, 1, none⟩ = some (.slice A' L.length c')) := Lib.hid (fun W hW => ⟨(B0.ext hW).cell 0, (B0.ext hW).cell 1⟩)
    clear hg h h' hx0 B0
    generalize tx x = tx at *
    obtain ⟨ra, hra⟩ : ∃ ra : Int, ra = ssA (psD ps) L x y := ⟨_, rfl⟩
    obtain ⟨rz, hrz⟩ : ∃ rz : Int, rz = ssZ (psD ps) L x y := ⟨_, rfl⟩
    obtain ⟨cd, hcd⟩ : ∃ cd : Int, cd = ssC (psD ps) L x true y := ⟨_, rfl⟩
    rw [← hra, ← hrz, ← hcd] at hres
    subst hres
    have hc2 : (cd != cd) = false := by simp
    clear hra hrz hcd
    obtain ⟨ga1, gb1⟩ := HBX.out w0 (Ext.refl _)
    go_wp2_with fail
    refine (l_toWorld _ _ _ _ ps L _ ((H0.out _ (by (repeat (first | with_reducible exact Ext.refl _ | with_reducible assumption | ((with_reducible apply Src.ext); with_reducible assumption) | with_reducible refine Ext.alloc ?_ _ | with_reducible refine Ext.drew ?_ | with_reducible refine Ext.drewN ?_ _ | ((with_reducible refine Ext.setCell' ?_ ?_ _); solve | omega | simp | (simp; omega)) | (with_reducible refine Ext.trans ?_ (by with_reducible assumption)))))).1) ((H0.out _ (by (repeat (first | with_reducible exact Ext.refl _ | with_reducible assumption | ((with_reducible apply Src.ext); with_reducible assumption) | with_reducible refine Ext.alloc ?_ _ | with_reducible refine Ext.drew ?_ | with_reducible refine Ext.drewN ?_ _ | ((with_reducible refine Ext.setCell' ?_ ?_ _); solve | omega | simp | (simp; omega)) | (with_reducible refine Ext.trans ?_ (by with_reducible assumption)))))).2) HG.out).mono ?_
    rintro e w1 ⟨q1, b1, d1, rfl, hq1, hp1, hW1, hx1⟩
    have HQ1 := Lib.hid hq1
    have HP1 := Lib.hid hp1
    have HW1 := Lib.hid hW1
    clear hq1 hp1 hW1 ga1 gb1
    have hX1 : Ext w w1 := hX0.trans hx1
    go_wp2_with fail
    refine (HS.out _ q1 b1 d1 HP1.out ((HW1.out.ext (by (repeat (first | with_reducible exact Ext.refl _ | with_reducible assumption | ((with_reducible apply Src.ext); with_reducible assumption) | with_reducible refine Ext.alloc ?_ _ | with_reducible refine Ext.drew ?_ | with_reducible refine Ext.drewN ?_ _ | ((with_reducible refine Ext.setCell' ?_ ?_ _); solve | omega | simp | (simp; omega)) | (with_reducible refine Ext.trans ?_ (by with_reducible assumption)))))).win HQ1.out.symm hl rfl hl' hg4.out) (by (repeat (first | with_reducible exact Ext.refl _ | with_reducible assumption | ((with_reducible apply Src.ext); with_reducible assumption) | with_reducible refine Ext.alloc ?_ _ | with_reducible refine Ext.drew ?_ | with_reducible refine Ext.drewN ?_ _ | ((with_reducible refine Ext.setCell' ?_ ?_ _); solve | omega | simp | (simp; omega)) | (with_reducible refine Ext.trans ?_ (by with_reducible assumption)))))).mono ?_
    rintro e w2 ⟨rfl, hx2⟩
    have hX2 : Ext w w2 := hX1.trans hx2
    obtain ⟨ga3, gb3⟩ := HBX.out w2 (hx1.trans hx2)
    have hl2 := World.block_lt_of_cell? _ _ ga3
    go_wp2_with fail
    refine (l_toWorld _ _ _ _ ps L _ ((H0.out _ (by (repeat (first | with_reducible exact Ext.refl _ | with_reducible assumption | ((with_reducible apply Src.ext); with_reducible assumption) | with_reducible refine Ext.alloc ?_ _ | with_reducible refine Ext.drew ?_ | with_reducible refine Ext.drewN ?_ _ | ((with_reducible refine Ext.setCell' ?_ ?_ _); solve | omega | simp | (simp; omega)) | (with_reducible refine Ext.trans ?_ (by with_reducible assumption)))))).1) ((H0.out _ (by (repeat (first | with_reducible exact Ext.refl _ | with_reducible assumption | ((with_reducible apply Src.ext); with_reducible assumption) | with_reducible refine Ext.alloc ?_ _ | with_reducible refine Ext.drew ?_ | with_reducible refine Ext.drewN ?_ _ | ((with_reducible refine Ext.setCell' ?_ ?_ _); solve | omega | simp | (simp; omega)) | (with_reducible refine Ext.trans ?_ (by with_reducible assumption)))))).2) HG.out).mono ?_
    rintro e w3 ⟨q3, b3, d3, rfl, hq3, hp3, hW3, hx3⟩
    have HQ3 := Lib.hid hq3
    have HP3 := Lib.hid hp3
    have HW3 := Lib.hid hW3
    clear hq3 hp3 hW3 ga3 gb3
    have BW0 : Blk w3 w2.heap.size 41 #[.int .i64 ra, .int .i64 rz] := Blk.eq (by (repeat (first | with_reducible assumption | ((with_reducible apply Blk.new); solve | simp | rfl) | with_reducible apply Blk.drew | with_reducible apply Blk.drewN | ((with_reducible apply Blk.far'); solve | omega | simp | (simp; omega)) | with_reducible apply Blk.set_ | with_reducible apply Blk.alloc | ((with_reducible apply Blk.ext'); with_reducible assumption) | ((with_reducible apply Blk.but'); (with_reducible assumption); solve | omega | (simp; omega))))) (by rfl)
    have hx23 : Ext w2 w3 := by clear hX0 hX1 hX2 BW0; (repeat (first | with_reducible exact Ext.refl _ | with_reducible assumption | ((with_reducible apply Src.ext); with_reducible assumption) | with_reducible refine Ext.alloc ?_ _ | with_reducible refine Ext.drew ?_ | with_reducible refine Ext.drewN ?_ _ | ((with_reducible refine Ext.setCell' ?_ ?_ _); solve | omega | simp | (simp; omega)) | (with_reducible refine Ext.trans ?_ (by with_reducible assumption))))
    have hX3 : Ext w w3 := hX2.trans hx23
    have hlw := BW0.lt
    go_wp2_with fail
    refine (HI.out _ q3 b3 d3 HP3.out ((HW3.out.ext (by (repeat (first | with_reducible exact Ext.refl _ | with_reducible assumption | ((with_reducible apply Src.ext); with_reducible assumption) | with_reducible refine Ext.alloc ?_ _ | with_reducible refine Ext.drew ?_ | with_reducible refine Ext.drewN ?_ _ | ((with_reducible refine Ext.setCell' ?_ ?_ _); solve | omega | simp | (simp; omega)) | (with_reducible refine Ext.trans ?_ (by with_reducible assumption)))))).win HQ3.out.symm hl rfl hl' hg4.out) (by (repeat (first | with_reducible exact Ext.refl _ | with_reducible assumption | ((with_reducible apply Src.ext); with_reducible assumption) | with_reducible refine Ext.alloc ?_ _ | with_reducible refine Ext.drew ?_ | with_reducible refine Ext.drewN ?_ _ | ((with_reducible refine Ext.setCell' ?_ ?_ _); solve | omega | simp | (simp; omega)) | (with_reducible refine Ext.trans ?_ (by with_reducible assumption)))))).mono ?_
    rintro e w4 ⟨rfl, hx4⟩
    have B3 : Blk w4 w3.heap.size 33 #[.slice (some ⟨b3, 0, none⟩) ps.length ps.length, .slice (some ⟨d3, 0, none⟩) L.length L.length] := Blk.eq (by (repeat (first | with_reducible assumption | ((with_reducible apply Blk.new); solve | simp | rfl) | with_reducible apply Blk.drew | with_reducible apply Blk.drewN | ((with_reducible apply Blk.far'); solve | omega | simp | (simp; omega)) | with_reducible apply Blk.set_ | with_reducible apply Blk.alloc | ((with_reducible apply Blk.ext'); with_reducible assumption) | ((with_reducible apply Blk.but'); (with_reducible assumption); solve | omega | (simp; omega))))) (by rfl)
    have hx34 : Ext w3 w4 := by clear hX0 hX1 hX2 hX3 B3; (repeat (first | with_reducible exact Ext.refl _ | with_reducible assumption | ((with_reducible apply Src.ext); with_reducible assumption) | with_reducible refine Ext.alloc ?_ _ | with_reducible refine Ext.drew ?_ | with_reducible refine Ext.drewN ?_ _ | ((with_reducible refine Ext.setCell' ?_ ?_ _); solve | omega | simp | (simp; omega)) | (with_reducible refine Ext.trans ?_ (by with_reducible assumption))))
    have HBY : Hid (∀ W, Ext w4 W → W.cell? ⟨w3.heap.size, 0, none⟩ = some (.slice (some ⟨b3, 0, none⟩) ps.length ps.length) ∧ W.cell? ⟨w3.heap.size, 1, none⟩ = some (.slice (some ⟨d3, 0, none⟩) L.length L.length)) := Lib.hid (fun W hW => ⟨(B3.ext hW).cell 0, (B3.ext hW).cell 1⟩)
    have hX4 : Ext w w4 := hX3.trans hx34
    have HX34 := Lib.hid hx34
    obtain ⟨gc4, gd4⟩ := HBY.out w4 (Ext.refl _)
    have hx04 : Ext w0 w4 := ((hx1.trans hx2).trans hx23).trans hx34
    have BW4 : Blk w4 w2.heap.size 41 #[.int .i64 ra, .int .i64 rz] := BW0.ext hx34
    have v40 : w4.cell? ⟨w2.heap.size, 0, none⟩ = some (.int .i64 ra) := BW4.cell 0
    have v41 : w4.cell? ⟨w2.heap.size, 1, none⟩ = some (.int .i64 rz) := BW4.cell 1
    have hlv := BW4.lt
    obtain ⟨ga4, gb4⟩ := HBX.out w4 hx04
    have hl4 := World.block_lt_of_cell? _ _ ga4
    have hl5 := World.block_lt_of_cell? _ _ gc4
    have HKK : Hid (∀ W, Ext w4 W → W.cell? ⟨w3.heap.size, 0, none⟩ = some (.slice (some ⟨b3, 0, none⟩) ps.length ps.length) ∧ W.cell? ⟨w3.heap.size, 1, none⟩ = some (.slice (some ⟨d3, 0, none⟩) L.length L.length) ∧ W.cell? ⟨w.heap.size, 0, none⟩ = some (.slice A ps.length c) ∧ W.cell? ⟨w.heap.size, 1, none⟩ = some (.slice A' L.length c')) := Lib.hid (fun W hW => ⟨(HBY.out W hW).1, (HBY.out W hW).2, (HBX.out W (hx04.trans hW)).1, (HBX.out W (hx04.trans hW)).2⟩)
    have HX4 := Lib.hid hX4
    clear hx4 B3 hX0 hX1 hX2 hX3 hX4 hx1 hx2 hx3 hx23 hx34 hx04 BW0 BW4
    go_wp2_with fail
    refine (l_eqSpan_self _ _ _).mono ?_
    rintro e w9 ⟨rfl, hx9⟩
    obtain ⟨gc9, gd9, ga9, gb9⟩ := HKK.out w9 (by (repeat (first | with_reducible exact Ext.refl _ | with_reducible assumption | ((with_reducible apply Src.ext); with_reducible assumption) | with_reducible refine Ext.alloc ?_ _ | with_reducible refine Ext.drew ?_ | with_reducible refine Ext.drewN ?_ _ | ((with_reducible refine Ext.setCell' ?_ ?_ _); solve | omega | simp | (simp; omega)) | (with_reducible refine Ext.trans ?_ (by with_reducible assumption)))))
    go_wp2
    go_region_held3 (fun w' => w'.cell? ⟨w3.heap.size, 0, none⟩ = some (.slice (some ⟨b3, 0, none⟩) ps.length ps.length) ∧ w'.cell? ⟨w3.heap.size, 1, none⟩ = some (.slice (some ⟨d3, 0, none⟩) L.length L.length) ∧ w'.cell? ⟨w.heap.size, 0, none⟩ = some (.slice A ps.length c) ∧ w'.cell? ⟨w.heap.size, 1, none⟩ = some (.slice A' L.length c')) (first | go_keep | exact HKK.out _ (by (repeat (first | with_reducible exact Ext.refl _ | with_reducible assumption | ((with_reducible apply Src.ext); with_reducible assumption) | with_reducible refine Ext.alloc ?_ _ | with_reducible refine Ext.drew ?_ | with_reducible refine Ext.drewN ?_ _ | ((with_reducible refine Ext.setCell' ?_ ?_ _); solve | omega | simp | (simp; omega)) | (with_reducible refine Ext.trans ?_ (by with_reducible assumption)))))) (first | (go_at_call 14; refine (l_toWorld _ _ _ _ ps L _ (H0.out _ (HX4.out.trans (by (repeat (first | with_reducible exact Ext.refl _ | with_reducible assumption | ((with_reducible apply Src.ext); with_reducible assumption) | with_reducible refine Ext.alloc ?_ _ | with_reducible refine Ext.drew ?_ | with_reducible refine Ext.drewN ?_ _ | ((with_reducible refine Ext.setCell' ?_ ?_ _); solve | omega | simp | (simp; omega)) | (with_reducible refine Ext.trans ?_ (by with_reducible assumption))))))).1 (H0.out _ (HX4.out.trans (by (repeat (first | with_reducible exact Ext.refl _ | with_reducible assumption | ((with_reducible apply Src.ext); with_reducible assumption) | with_reducible refine Ext.alloc ?_ _ | with_reducible refine Ext.drew ?_ | with_reducible refine Ext.drewN ?_ _ | ((with_reducible refine Ext.setCell' ?_ ?_ _); solve | omega | simp | (simp; omega)) | (with_reducible refine Ext.trans ?_ (by with_reducible assumption))))))).2 HG.out).mono ?_; rintro e w5 ⟨q5, b5, d5, rfl, hq5, hp5, hW5, hx5⟩; have hs5 := hx5.size; have HQ5 := Lib.hid hq5; have HP5 := Lib.hid hp5; have HW5 := Lib.hid hW5; clear hq5 hp5 hW5) | (go_at_call 17; refine (l_eqWorld (HW3.out.ext (HX34.out.trans (by (repeat (first | with_reducible exact Ext.refl _ | with_reducible assumption | ((with_reducible apply Src.ext); with_reducible assumption) | with_reducible refine Ext.alloc ?_ _ | with_reducible refine Ext.drew ?_ | with_reducible refine Ext.drewN ?_ _ | ((with_reducible refine Ext.setCell' ?_ ?_ _); solve | omega | simp | (simp; omega)) | (with_reducible refine Ext.trans ?_ (by with_reducible assumption))))))) (HW5.out.ext (by (repeat (first | with_reducible exact Ext.refl _ | with_reducible assumption | ((with_reducible apply Src.ext); with_reducible assumption) | with_reducible refine Ext.alloc ?_ _ | with_reducible refine Ext.drew ?_ | with_reducible refine Ext.drewN ?_ _ | ((with_reducible refine Ext.setCell' ?_ ?_ _); solve | omega | simp | (simp; omega)) | (with_reducible refine Ext.trans ?_ (by with_reducible assumption)))))) (HP3.out.trans HP5.out.symm) _ _ _ _ _ _ HQ3.out.symm rfl hl hl').mono ?_; rintro e w6 ⟨rfl, hx6⟩; have hs6 := hx6.size))
    all_goals
      go_wp2
      go_ret
      exact ⟨rfl, HX4.out.trans (by (repeat (first | with_reducible exact Ext.refl _ | with_reducible assumption | ((with_reducible apply Src.ext); with_reducible assumption) | with_reducible refine Ext.alloc ?_ _ | with_reducible refine Ext.drew ?_ | with_reducible refine Ext.drewN ?_ _ | ((with_reducible refine Ext.setCell' ?_ ?_ _); solve | omega | simp | (simp; omega)) | (with_reducible refine Ext.trans ?_ (by with_reducible assumption)))))⟩

end Go.Proofs.YtapfokfbdmcokaaGreatDoor
