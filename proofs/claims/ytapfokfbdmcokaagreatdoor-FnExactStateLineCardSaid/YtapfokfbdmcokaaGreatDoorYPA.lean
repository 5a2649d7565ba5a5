/- Spans in which nothing changes, as the program sees them. -/
import Derived.Test.YtapfokfbdmcokaaGreatDoorYP
import Derived.Deep.RegionHeld3
import Derived.Deep.DeepCutAuto
import Derived.RegionTactic
import Derived.BigRegion
import Derived.WalkLawsBesides
import Derived.WalkSpells
import Derived.Lib.MinMax
import Derived.Outline
namespace Go.Proofs.YtapfokfbdmcokaaGreatDoor
open Go.RowKit
attribute [local go_sem] ExtOf.cell ExtOf.frozen


def cnum (w : World) (b i : Nat) : Int := intOf ((w.cell? ⟨b, i, none⟩).getD (.int .i64 0))
theorem cnum_blk0 {w : World} {b : Nat} {t : TypeId} {a : Int} {z : Value} (h : Blk w b t #[.int .i64 a, z]) : cnum w b 0 = a := by unfold cnum; rw [h.cell 0]; rfl
theorem cnum_blk1 {w : World} {b : Nat} {t : TypeId} {a : Int} {z : Value} (h : Blk w b t #[z, .int .i64 a]) : cnum w b 1 = a := by unfold cnum; rw [h.cell 1]; rfl
theorem cnum_lt0 {w : World} {b : Nat} {t : TypeId} {a s : Int} {z : Value} {k : Nat} (h : Blk w b t #[.int .i64 a, z]) (hk : (a - s).toNat < k) : (cnum w b 0 - s).toNat < k := by rw [cnum_blk0 h]; exact hk
theorem cnum_lt1 {w : World} {b : Nat} {t : TypeId} {a s : Int} {z : Value} {k : Nat} (h : Blk w b t #[z, .int .i64 a]) (hk : (s - a).toNat < k) : (s - cnum w b 1).toNat < k := by rw [cnum_blk1 h]; exact hk
section
variable {w : World} {A A' : Option Addr} {n c m c' : Nat} {ps : List Pl} {L : List Lk}
set_option maxRecDepth 20000 in
set_option maxHeartbeats 25600000 in
theorem i_SteadySpanW (x : List UInt8) (y : Int) (h : WIn w A A' n c m c' ps L) (hx : x.length ≤ 1048576) (hm : Mx w) :
    Calls Tryz.prog 24 #[.agg #[.slice A n c, .slice A' m c'], .string (tx x), .int .i64 y] w fun e w' => e = .returned (.tuple #[.agg #[.int .i64 (ssA (psD ps) L x y), .int .i64 (ssZ (psD ps) L x y)], .int .i64 (ssC (psD ps) L x true y)]) ∧ Ext w w' := by
  have HC := Lib.hid (fun W (hW : Ext w W) => i_placeCode (w := W) x y true (h.ext hW) hx (hm.ext hW))
  by_cases hz : ssC (psD ps) L x true y = 0
  · obtain ⟨hp, he⟩ := ssC_zero hz
    obtain ⟨hw, _, _, _, hs⟩ := plC_zero hp
    have HP := Lib.hid (fun W (hW : Ext w W) => i_placeP (w := W) x (h.ext hW) hw hs)
    have hlm : m ≤ 1048576 := by rw [h.hm]; exact h.hl'
    have HA : Hid (ssA (psD ps) L x y = loS (sbP ((fndP (psD ps) x).getD pdD) L y) y) := Lib.hid (by unfold ssA; rw [if_pos hz])
    have HZ : Hid (ssZ (psD ps) L x y = hiS (sbP ((fndP (psD ps) x).getD pdD) L y) y) := Lib.hid (by unfold ssZ; rw [if_pos hz])
    have HS : Hid (∀ W0 W v z, IsP W0 ((fndP (psD ps) x).getD pdD) v → Ext W0 W → Ext w W → -3001 ≤ z → z ≤ 3001 → Calls Tryz.prog 69 #[.agg #[.slice A n c, .slice A' m c'], v, .int .i64 z] W fun e w' => e = .returned (.bool (sdB ((fndP (psD ps) x).getD pdD) L z)) ∧ Ext W w') := Lib.hid (fun W0 W v z hP h0 hW h1 h2 => (hP.ext h0).steady (h.sk.ext hW) h.hm hlm (hm.ext hW) z h1 h2)
    rw [hz] at HC ⊢
    generalize (fndP (psD ps) x).getD pdD = d at *
    generalize ssA (psD ps) L x y = rA at *
    generalize ssZ (psD ps) L x y = rZ at *
    clear hz hp hw hs h hm hx hlm
    generalize tx x = sx at *
    go_enter Tryz.func24, Tryz.ntmps24
    go_wp2_with fail
    refine (HC.out _ (by (repeat (first | with_reducible exact Ext.refl _ | with_reducible assumption | ((with_reducible apply Src.ext); with_reducible assumption) | with_reducible refine Ext.alloc ?_ _ | with_reducible refine Ext.drew ?_ | with_reducible refine Ext.drewN ?_ _ | ((with_reducible refine Ext.setCell' ?_ ?_ _); solve | omega | simp | (simp; omega)) | (with_reducible refine Ext.trans ?_ (by with_reducible assumption)))))).mono ?_
    rintro e w1 ⟨rfl, hx1⟩
    obtain ⟨hc1, hf1⟩ := hx1.rules
    have hs1 := hx1.size
    (try simp at hs1)
    have := (show w.heap.size < w1.heap.size from by omega)
    have := (show w.heap.size + 1 < w1.heap.size from by omega)
    go_wp2_with fail
    refine (HP.out _ (by (repeat (first | with_reducible exact Ext.refl _ | with_reducible assumption | ((with_reducible apply Src.ext); with_reducible assumption) | with_reducible refine Ext.alloc ?_ _ | with_reducible refine Ext.drew ?_ | with_reducible refine Ext.drewN ?_ _ | ((with_reducible refine Ext.setCell' ?_ ?_ _); solve | omega | simp | (simp; omega)) | (with_reducible refine Ext.trans ?_ (by with_reducible assumption)))))).mono ?_
    rintro e w2 ⟨s0, s1, s2, s3, s4, s5, s6, HI0, rfl, hx2⟩
    obtain ⟨e2, e3, e9⟩ := HI0.out.yrs
    clear e9
    have HI := Lib.hid (HI0.out.ext hx2)
    have HE2 := Lib.hid e2
    have HE3 := Lib.hid e3
    obtain ⟨he1, he2⟩ := exB_iff.1 he
    rw [← e2] at he1
    rw [← e3] at he2
    have HEX := Lib.hid he
    have hbb : -3000 ≤ s2 ∧ s3 ≤ 3000 := by
      obtain ⟨p, _, _, g3, _⟩ := HI.out
      obtain ⟨a1, a2, a3⟩ := plB_sp g3
      omega
    obtain ⟨hb1, hb2⟩ := hbb
    have B3 : Blk w2 w.heap.size 33 #[.slice A n c, .slice A' m c'] := Blk.eq (by (repeat (first | with_reducible assumption | ((with_reducible apply Blk.new); solve | simp | rfl) | with_reducible apply Blk.drew | with_reducible apply Blk.drewN | ((with_reducible apply Blk.far'); solve | omega | simp | (simp; omega)) | with_reducible apply Blk.set_ | with_reducible apply Blk.alloc | ((with_reducible apply Blk.ext'); with_reducible assumption) | ((with_reducible apply Blk.but'); (with_reducible assumption); solve | omega | (simp; omega))))) (by rfl)
    have B6 : Blk w2 (w.heap.size + 1) 41 #[.int .i64 0, .int .i64 0] := Blk.eq (by (repeat (first | with_reducible assumption | ((with_reducible apply Blk.new); solve | simp | rfl) | with_reducible apply Blk.drew | with_reducible apply Blk.drewN | ((with_reducible apply Blk.far'); solve | omega | simp | (simp; omega)) | with_reducible apply Blk.set_ | with_reducible apply Blk.alloc | ((with_reducible apply Blk.ext'); with_reducible assumption) | ((with_reducible apply Blk.but'); (with_reducible assumption); solve | omega | (simp; omega))))) (by rfl)
    have hX2 : Ext w w2 := by clear B3 B6; (repeat (first | with_reducible exact Ext.refl _ | with_reducible assumption | ((with_reducible apply Src.ext); with_reducible assumption) | with_reducible refine Ext.alloc ?_ _ | with_reducible refine Ext.drew ?_ | with_reducible refine Ext.drewN ?_ _ | ((with_reducible refine Ext.setCell' ?_ ?_ _); solve | omega | simp | (simp; omega)) | (with_reducible refine Ext.trans ?_ (by with_reducible assumption))))
    have HX2 := Lib.hid hX2
    have z3 := B3.lt
    have z6 := B6.lt
    clear he e2 e3 hx1 hx2 hc1 hf1 hs1 HI0
    go_wp2
    go_loopw [] (fun wr => ∃ a : Int, Blk wr (w2.heap.size + 1) 41 #[.int .i64 a, .int .i64 y] ∧ Hid (UpS d L y a) ∧ Blk wr (w2.heap.size) 78 #[.string s0, .int .i64 s1, .int .i64 s2, .int .i64 s3, .slice s4 s5 s6] ∧ Blk wr w.heap.size 33 #[.slice A n c, .slice A' m c'] ∧ Blk wr (w.heap.size + 1) 41 #[.int .i64 0, .int .i64 0] ∧ Ext w2 wr ∧ s2 ≤ a ∧ a ≤ y) (fun wr => (cnum wr (w2.heap.size + 1) 0 - s2).toNat)
    case atStart => exact ⟨y, Blk.eq (by (repeat (first | with_reducible assumption | ((with_reducible apply Blk.new); solve | simp | rfl) | with_reducible apply Blk.drew | with_reducible apply Blk.drewN | ((with_reducible apply Blk.far'); solve | omega | simp | (simp; omega)) | with_reducible apply Blk.set_ | with_reducible apply Blk.alloc | ((with_reducible apply Blk.ext'); with_reducible assumption) | ((with_reducible apply Blk.but'); (with_reducible assumption); solve | omega | (simp; omega))))) (by rfl), Lib.hid (UpS.start HEX.out), Blk.eq (by (repeat (first | with_reducible assumption | ((with_reducible apply Blk.new); solve | simp | rfl) | with_reducible apply Blk.drew | with_reducible apply Blk.drewN | ((with_reducible apply Blk.far'); solve | omega | simp | (simp; omega)) | with_reducible apply Blk.set_ | with_reducible apply Blk.alloc | ((with_reducible apply Blk.ext'); with_reducible assumption) | ((with_reducible apply Blk.but'); (with_reducible assumption); solve | omega | (simp; omega))))) (by rfl), by (repeat (first | with_reducible assumption | ((with_reducible apply Blk.new); solve | simp | rfl) | with_reducible apply Blk.drew | with_reducible apply Blk.drewN | ((with_reducible apply Blk.far'); solve | omega | simp | (simp; omega)) | with_reducible apply Blk.set_ | with_reducible apply Blk.alloc | ((with_reducible apply Blk.ext'); with_reducible assumption) | ((with_reducible apply Blk.but'); (with_reducible assumption); solve | omega | (simp; omega)))), by (repeat (first | with_reducible assumption | ((with_reducible apply Blk.new); solve | simp | rfl) | with_reducible apply Blk.drew | with_reducible apply Blk.drewN | ((with_reducible apply Blk.far'); solve | omega | simp | (simp; omega)) | with_reducible apply Blk.set_ | with_reducible apply Blk.alloc | ((with_reducible apply Blk.ext'); with_reducible assumption) | ((with_reducible apply Blk.but'); (with_reducible assumption); solve | omega | (simp; omega)))), by (repeat (first | with_reducible exact Ext.refl _ | with_reducible assumption | ((with_reducible apply Src.ext); with_reducible assumption) | with_reducible refine Ext.alloc ?_ _ | with_reducible refine Ext.drew ?_ | with_reducible refine Ext.drewN ?_ _ | ((with_reducible refine Ext.setCell' ?_ ?_ _); solve | omega | simp | (simp; omega)) | (with_reducible refine Ext.trans ?_ (by with_reducible assumption)))), he1, Int.le_refl _⟩
    case round =>
      clear B3 B6
      obtain ⟨a, hB, HU, hB9, hB3, hB6, hxr, hla, hay⟩ := hrel
      obtain ⟨w5, rfl⟩ : ∃ x, x = wr := ⟨wr, rfl⟩
      have y0 : w5.cell? ⟨w2.heap.size + 1, 0, none⟩ = some (.int .i64 a) := hB.cell 0
      have y1 : w5.cell? ⟨w2.heap.size + 1, 1, none⟩ = some (.int .i64 y) := hB.cell 1
      have f0 := hB.frozen 0
      have f1 := hB.frozen 1
      have p0 : w5.cell? ⟨w2.heap.size, 0, none⟩ = some (.string s0) := hB9.cell 0
      have p1 : w5.cell? ⟨w2.heap.size, 1, none⟩ = some (.int .i64 s1) := hB9.cell 1
      have p2 : w5.cell? ⟨w2.heap.size, 2, none⟩ = some (.int .i64 s2) := hB9.cell 2
      have p3 : w5.cell? ⟨w2.heap.size, 3, none⟩ = some (.int .i64 s3) := hB9.cell 3
      have p4 : w5.cell? ⟨w2.heap.size, 4, none⟩ = some (.slice s4 s5 s6) := hB9.cell 4
      have t0 : w5.cell? ⟨w.heap.size, 0, none⟩ = some (.slice A n c) := hB3.cell 0
      have t1 : w5.cell? ⟨w.heap.size, 1, none⟩ = some (.slice A' m c') := hB3.cell 1
      have r0 : w5.cell? ⟨w.heap.size + 1, 0, none⟩ = some (.int .i64 0) := hB6.cell 0
      have r1 : w5.cell? ⟨w.heap.size + 1, 1, none⟩ = some (.int .i64 0) := hB6.cell 1
      have fr0 := hB6.frozen 0
      have fr1 := hB6.frozen 1
      have zB := hB.lt
      have z9 := hB9.lt
      have z3r := hB3.lt
      have z6r := hB6.lt
      have HBS := Lib.hid (And.intro hB (And.intro hB9 (And.intro hB3 hB6)))
      clear hB hB9 hB3 hB6
      have hwr : IntKind.i64.wrap (a - 1) = a - 1 := IntWalk.i64_in _ (by omega)
      by_cases hgt : s2 < a
      · have HSA := Lib.hid (fun W (hW : Ext w5 W) => HS.out w2 W _ a HI.out (hxr.trans hW) (HX2.out.trans (hxr.trans hW)) (by omega) (by omega))
        cases hq : sdB d L a with
        | true =>
          rw [hq] at HSA
          have HU2 := Lib.hid (HU.out.step (lo_step HEX.out hay HU.out.at (by rw [← HE2.out]; exact hgt) hq))
          clear hq
          go_wp2_with fail
          refine (HSA.out _ (by (repeat (first | with_reducible exact Ext.refl _ | with_reducible assumption | ((with_reducible apply Src.ext); with_reducible assumption) | with_reducible refine Ext.alloc ?_ _ | with_reducible refine Ext.drew ?_ | with_reducible refine Ext.drewN ?_ _ | ((with_reducible refine Ext.setCell' ?_ ?_ _); solve | omega | simp | (simp; omega)) | (with_reducible refine Ext.trans ?_ (by with_reducible assumption)))))).mono ?_
          rintro e w6 ⟨rfl, hx6⟩
          have hs6 := hx6.size
          have hB : Blk w6 (w2.heap.size + 1) 41 _ := HBS.out.1.ext (by (repeat (first | with_reducible exact Ext.refl _ | with_reducible assumption | ((with_reducible apply Src.ext); with_reducible assumption) | with_reducible refine Ext.alloc ?_ _ | with_reducible refine Ext.drew ?_ | with_reducible refine Ext.drewN ?_ _ | ((with_reducible refine Ext.setCell' ?_ ?_ _); solve | omega | simp | (simp; omega)) | (with_reducible refine Ext.trans ?_ (by with_reducible assumption)))))
          have hB9 : Blk w6 (w2.heap.size) 78 _ := HBS.out.2.1.ext (by (repeat (first | with_reducible exact Ext.refl _ | with_reducible assumption | ((with_reducible apply Src.ext); with_reducible assumption) | with_reducible refine Ext.alloc ?_ _ | with_reducible refine Ext.drew ?_ | with_reducible refine Ext.drewN ?_ _ | ((with_reducible refine Ext.setCell' ?_ ?_ _); solve | omega | simp | (simp; omega)) | (with_reducible refine Ext.trans ?_ (by with_reducible assumption)))))
          have hB3 : Blk w6 w.heap.size 33 _ := HBS.out.2.2.1.ext (by (repeat (first | with_reducible exact Ext.refl _ | with_reducible assumption | ((with_reducible apply Src.ext); with_reducible assumption) | with_reducible refine Ext.alloc ?_ _ | with_reducible refine Ext.drew ?_ | with_reducible refine Ext.drewN ?_ _ | ((with_reducible refine Ext.setCell' ?_ ?_ _); solve | omega | simp | (simp; omega)) | (with_reducible refine Ext.trans ?_ (by with_reducible assumption)))))
          have hB6 : Blk w6 (w.heap.size + 1) 41 _ := HBS.out.2.2.2.ext (by (repeat (first | with_reducible exact Ext.refl _ | with_reducible assumption | ((with_reducible apply Src.ext); with_reducible assumption) | with_reducible refine Ext.alloc ?_ _ | with_reducible refine Ext.drew ?_ | with_reducible refine Ext.drewN ?_ _ | ((with_reducible refine Ext.setCell' ?_ ?_ _); solve | omega | simp | (simp; omega)) | (with_reducible refine Ext.trans ?_ (by with_reducible assumption)))))
          have y06 : w6.cell? ⟨w2.heap.size + 1, 0, none⟩ = some (.int .i64 a) := hB.cell 0
          have y16 : w6.cell? ⟨w2.heap.size + 1, 1, none⟩ = some (.int .i64 y) := hB.cell 1
          have f06 := hB.frozen 0
          have f16 := hB.frozen 1
          have zB6 := hB.lt
          have p06 : w6.cell? ⟨w2.heap.size, 0, none⟩ = some (.string s0) := hB9.cell 0
          have p16 : w6.cell? ⟨w2.heap.size, 1, none⟩ = some (.int .i64 s1) := hB9.cell 1
          have p26 : w6.cell? ⟨w2.heap.size, 2, none⟩ = some (.int .i64 s2) := hB9.cell 2
          have p36 : w6.cell? ⟨w2.heap.size, 3, none⟩ = some (.int .i64 s3) := hB9.cell 3
          have p46 : w6.cell? ⟨w2.heap.size, 4, none⟩ = some (.slice s4 s5 s6) := hB9.cell 4
          have t06 : w6.cell? ⟨w.heap.size, 0, none⟩ = some (.slice A n c) := hB3.cell 0
          have t16 : w6.cell? ⟨w.heap.size, 1, none⟩ = some (.slice A' m c') := hB3.cell 1
          have r06 : w6.cell? ⟨w.heap.size + 1, 0, none⟩ = some (.int .i64 0) := hB6.cell 0
          have r16 : w6.cell? ⟨w.heap.size + 1, 1, none⟩ = some (.int .i64 0) := hB6.cell 1
          have fr06 := hB6.frozen 0
          have fr16 := hB6.frozen 1
          have zR6 := hB6.lt
          go_wp2
          go_roundw
          case rel => exact ⟨a - 1, Blk.eq (by (repeat (first | with_reducible assumption | ((with_reducible apply Blk.new); solve | simp | rfl) | with_reducible apply Blk.drew | with_reducible apply Blk.drewN | ((with_reducible apply Blk.far'); solve | omega | simp | (simp; omega)) | with_reducible apply Blk.set_ | with_reducible apply Blk.alloc | ((with_reducible apply Blk.ext'); with_reducible assumption) | ((with_reducible apply Blk.but'); (with_reducible assumption); solve | omega | (simp; omega))))) (by rfl), HU2, by (repeat (first | with_reducible assumption | ((with_reducible apply Blk.new); solve | simp | rfl) | with_reducible apply Blk.drew | with_reducible apply Blk.drewN | ((with_reducible apply Blk.far'); solve | omega | simp | (simp; omega)) | with_reducible apply Blk.set_ | with_reducible apply Blk.alloc | ((with_reducible apply Blk.ext'); with_reducible assumption) | ((with_reducible apply Blk.but'); (with_reducible assumption); solve | omega | (simp; omega)))), by (repeat (first | with_reducible assumption | ((with_reducible apply Blk.new); solve | simp | rfl) | with_reducible apply Blk.drew | with_reducible apply Blk.drewN | ((with_reducible apply Blk.far'); solve | omega | simp | (simp; omega)) | with_reducible apply Blk.set_ | with_reducible apply Blk.alloc | ((with_reducible apply Blk.ext'); with_reducible assumption) | ((with_reducible apply Blk.but'); (with_reducible assumption); solve | omega | (simp; omega)))), by (repeat (first | with_reducible assumption | ((with_reducible apply Blk.new); solve | simp | rfl) | with_reducible apply Blk.drew | with_reducible apply Blk.drewN | ((with_reducible apply Blk.far'); solve | omega | simp | (simp; omega)) | with_reducible apply Blk.set_ | with_reducible apply Blk.alloc | ((with_reducible apply Blk.ext'); with_reducible assumption) | ((with_reducible apply Blk.but'); (with_reducible assumption); solve | omega | (simp; omega)))), by (repeat (first | with_reducible exact Ext.refl _ | with_reducible assumption | ((with_reducible apply Src.ext); with_reducible assumption) | with_reducible refine Ext.alloc ?_ _ | with_reducible refine Ext.drew ?_ | with_reducible refine Ext.drewN ?_ _ | ((with_reducible refine Ext.setCell' ?_ ?_ _); solve | omega | simp | (simp; omega)) | (with_reducible refine Ext.trans ?_ (by with_reducible assumption)))), by omega, by omega⟩
          case measure => rw [cnum_blk0 HBS.out.1]; exact cnum_lt0 (a := a - 1) (z := .int .i64 y) (t := 41) (Blk.eq (by (repeat (first | with_reducible assumption | ((with_reducible apply Blk.new); solve | simp | rfl) | with_reducible apply Blk.drew | with_reducible apply Blk.drewN | ((with_reducible apply Blk.far'); solve | omega | simp | (simp; omega)) | with_reducible apply Blk.set_ | with_reducible apply Blk.alloc | ((with_reducible apply Blk.ext'); with_reducible assumption) | ((with_reducible apply Blk.but'); (with_reducible assumption); solve | omega | (simp; omega))))) (by rfl)) (by omega)
        | false =>
          rw [hq] at HSA
          have HLO := Lib.hid (HU.out.lo (lo_stop HEX.out hay HU.out.at (.inr hq)))
          clear hq
          go_wp2_with fail
          refine (HSA.out _ (by (repeat (first | with_reducible exact Ext.refl _ | with_reducible assumption | ((with_reducible apply Src.ext); with_reducible assumption) | with_reducible refine Ext.alloc ?_ _ | with_reducible refine Ext.drew ?_ | with_reducible refine Ext.drewN ?_ _ | ((with_reducible refine Ext.setCell' ?_ ?_ _); solve | omega | simp | (simp; omega)) | (with_reducible refine Ext.trans ?_ (by with_reducible assumption)))))).mono ?_
          rintro e w6 ⟨rfl, hx6⟩
          have hs6 := hx6.size
          have hB : Blk w6 (w2.heap.size + 1) 41 _ := HBS.out.1.ext (by (repeat (first | with_reducible exact Ext.refl _ | with_reducible assumption | ((with_reducible apply Src.ext); with_reducible assumption) | with_reducible refine Ext.alloc ?_ _ | with_reducible refine Ext.drew ?_ | with_reducible refine Ext.drewN ?_ _ | ((with_reducible refine Ext.setCell' ?_ ?_ _); solve | omega | simp | (simp; omega)) | (with_reducible refine Ext.trans ?_ (by with_reducible assumption)))))
          have hB9 : Blk w6 (w2.heap.size) 78 _ := HBS.out.2.1.ext (by (repeat (first | with_reducible exact Ext.refl _ | with_reducible assumption | ((with_reducible apply Src.ext); with_reducible assumption) | with_reducible refine Ext.alloc ?_ _ | with_reducible refine Ext.drew ?_ | with_reducible refine Ext.drewN ?_ _ | ((with_reducible refine Ext.setCell' ?_ ?_ _); solve | omega | simp | (simp; omega)) | (with_reducible refine Ext.trans ?_ (by with_reducible assumption)))))
          have hB3 : Blk w6 w.heap.size 33 _ := HBS.out.2.2.1.ext (by (repeat (first | with_reducible exact Ext.refl _ | with_reducible assumption | ((with_reducible apply Src.ext); with_reducible assumption) | with_reducible refine Ext.alloc ?_ _ | with_reducible refine Ext.drew ?_ | with_reducible refine Ext.drewN ?_ _ | ((with_reducible refine Ext.setCell' ?_ ?_ _); solve | omega | simp | (simp; omega)) | (with_reducible refine Ext.trans ?_ (by with_reducible assumption)))))
          have hB6 : Blk w6 (w.heap.size + 1) 41 _ := HBS.out.2.2.2.ext (by (repeat (first | with_reducible exact Ext.refl _ | with_reducible assumption | ((with_reducible apply Src.ext); with_reducible assumption) | with_reducible refine Ext.alloc ?_ _ | with_reducible refine Ext.drew ?_ | with_reducible refine Ext.drewN ?_ _ | ((with_reducible refine Ext.setCell' ?_ ?_ _); solve | omega | simp | (simp; omega)) | (with_reducible refine Ext.trans ?_ (by with_reducible assumption)))))
          have HBS2 := Lib.hid (And.intro hB (And.intro hB9 (And.intro hB3 hB6)))
          have hx26 : Ext w2 w6 := hxr.trans hx6
          clear hB hB9 hB3 hB6 HBS HSA HU y0 y1 f0 f1 p0 p1 p2 p3 p4 t0 t1 r0 r1 fr0 fr1 zB z9 z3r z6r hxr hx6 hs6
          have hB := HBS2.out.1
          have hB9 := HBS2.out.2.1
          have hB3 := HBS2.out.2.2.1
          have hB6 := HBS2.out.2.2.2
          go_wp2
          go_loopw [] (fun wr => ∃ b : Int, Blk wr (w2.heap.size + 1) 41 #[.int .i64 a, .int .i64 b] ∧ Hid (DnS d L y b) ∧ Blk wr (w2.heap.size) 78 #[.string s0, .int .i64 s1, .int .i64 s2, .int .i64 s3, .slice s4 s5 s6] ∧ Blk wr w.heap.size 33 #[.slice A n c, .slice A' m c'] ∧ Blk wr (w.heap.size + 1) 41 #[.int .i64 0, .int .i64 0] ∧ Ext w2 wr ∧ y ≤ b ∧ b ≤ s3) (fun wr => (s3 - cnum wr (w2.heap.size + 1) 1).toNat)
          case atStart => exact ⟨y, by (repeat (first | with_reducible assumption | ((with_reducible apply Blk.new); solve | simp | rfl) | with_reducible apply Blk.drew | with_reducible apply Blk.drewN | ((with_reducible apply Blk.far'); solve | omega | simp | (simp; omega)) | with_reducible apply Blk.set_ | with_reducible apply Blk.alloc | ((with_reducible apply Blk.ext'); with_reducible assumption) | ((with_reducible apply Blk.but'); (with_reducible assumption); solve | omega | (simp; omega)))), Lib.hid (DnS.start HEX.out), by (repeat (first | with_reducible assumption | ((with_reducible apply Blk.new); solve | simp | rfl) | with_reducible apply Blk.drew | with_reducible apply Blk.drewN | ((with_reducible apply Blk.far'); solve | omega | simp | (simp; omega)) | with_reducible apply Blk.set_ | with_reducible apply Blk.alloc | ((with_reducible apply Blk.ext'); with_reducible assumption) | ((with_reducible apply Blk.but'); (with_reducible assumption); solve | omega | (simp; omega)))), by (repeat (first | with_reducible assumption | ((with_reducible apply Blk.new); solve | simp | rfl) | with_reducible apply Blk.drew | with_reducible apply Blk.drewN | ((with_reducible apply Blk.far'); solve | omega | simp | (simp; omega)) | with_reducible apply Blk.set_ | with_reducible apply Blk.alloc | ((with_reducible apply Blk.ext'); with_reducible assumption) | ((with_reducible apply Blk.but'); (with_reducible assumption); solve | omega | (simp; omega)))), by (repeat (first | with_reducible assumption | ((with_reducible apply Blk.new); solve | simp | rfl) | with_reducible apply Blk.drew | with_reducible apply Blk.drewN | ((with_reducible apply Blk.far'); solve | omega | simp | (simp; omega)) | with_reducible apply Blk.set_ | with_reducible apply Blk.alloc | ((with_reducible apply Blk.ext'); with_reducible assumption) | ((with_reducible apply Blk.but'); (with_reducible assumption); solve | omega | (simp; omega)))), by (repeat (first | with_reducible exact Ext.refl _ | with_reducible assumption | ((with_reducible apply Src.ext); with_reducible assumption) | with_reducible refine Ext.alloc ?_ _ | with_reducible refine Ext.drew ?_ | with_reducible refine Ext.drewN ?_ _ | ((with_reducible refine Ext.setCell' ?_ ?_ _); solve | omega | simp | (simp; omega)) | (with_reducible refine Ext.trans ?_ (by with_reducible assumption)))), Int.le_refl _, he2⟩
          case round =>
            clear hB hB9 hB3 hB6
            obtain ⟨b, hB, HV, hB9, hB3, hB6, hxr, hlb, hby⟩ := hrel
            obtain ⟨w5, rfl⟩ : ∃ x, x = wr := ⟨wr, rfl⟩
            have y0 : w5.cell? ⟨w2.heap.size + 1, 0, none⟩ = some (.int .i64 a) := hB.cell 0
            have y1 : w5.cell? ⟨w2.heap.size + 1, 1, none⟩ = some (.int .i64 b) := hB.cell 1
            have f0 := hB.frozen 0
            have f1 := hB.frozen 1
            have p0 : w5.cell? ⟨w2.heap.size, 0, none⟩ = some (.string s0) := hB9.cell 0
            have p1 : w5.cell? ⟨w2.heap.size, 1, none⟩ = some (.int .i64 s1) := hB9.cell 1
            have p2 : w5.cell? ⟨w2.heap.size, 2, none⟩ = some (.int .i64 s2) := hB9.cell 2
            have p3 : w5.cell? ⟨w2.heap.size, 3, none⟩ = some (.int .i64 s3) := hB9.cell 3
            have p4 : w5.cell? ⟨w2.heap.size, 4, none⟩ = some (.slice s4 s5 s6) := hB9.cell 4
            have t0 : w5.cell? ⟨w.heap.size, 0, none⟩ = some (.slice A n c) := hB3.cell 0
            have t1 : w5.cell? ⟨w.heap.size, 1, none⟩ = some (.slice A' m c') := hB3.cell 1
            have r0 : w5.cell? ⟨w.heap.size + 1, 0, none⟩ = some (.int .i64 0) := hB6.cell 0
            have r1 : w5.cell? ⟨w.heap.size + 1, 1, none⟩ = some (.int .i64 0) := hB6.cell 1
            have fr0 := hB6.frozen 0
            have fr1 := hB6.frozen 1
            have zB := hB.lt
            have z9 := hB9.lt
            have z3r := hB3.lt
            have z6r := hB6.lt
            have HBS := Lib.hid (And.intro hB (And.intro hB9 (And.intro hB3 hB6)))
            clear hB hB9 hB3 hB6
            have hwr2 : IntKind.i64.wrap (b + 1) = b + 1 := IntWalk.i64_in _ (by omega)
            by_cases hgt2 : b < s3
            · have HSA := Lib.hid (fun W (hW : Ext w5 W) => HS.out w2 W _ (b + 1) HI.out (hxr.trans hW) (HX2.out.trans (hxr.trans hW)) (by omega) (by omega))
              cases hq : sdB d L (b + 1) with
              | true =>
                rw [hq] at HSA
                have HV2 := Lib.hid (HV.out.step (hi_step HEX.out hlb HV.out.at (by rw [← HE3.out]; exact hgt2) hq))
                clear hq
                go_wp2_with fail
                refine (HSA.out _ (by (repeat (first | with_reducible exact Ext.refl _ | with_reducible assumption | ((with_reducible apply Src.ext); with_reducible assumption) | with_reducible refine Ext.alloc ?_ _ | with_reducible refine Ext.drew ?_ | with_reducible refine Ext.drewN ?_ _ | ((with_reducible refine Ext.setCell' ?_ ?_ _); solve | omega | simp | (simp; omega)) | (with_reducible refine Ext.trans ?_ (by with_reducible assumption)))))).mono ?_
                rintro e w6 ⟨rfl, hx6⟩
                have hs6 := hx6.size
                have hB : Blk w6 (w2.heap.size + 1) 41 _ := HBS.out.1.ext (by (repeat (first | with_reducible exact Ext.refl _ | with_reducible assumption | ((with_reducible apply Src.ext); with_reducible assumption) | with_reducible refine Ext.alloc ?_ _ | with_reducible refine Ext.drew ?_ | with_reducible refine Ext.drewN ?_ _ | ((with_reducible refine Ext.setCell' ?_ ?_ _); solve | omega | simp | (simp; omega)) | (with_reducible refine Ext.trans ?_ (by with_reducible assumption)))))
                have hB9 : Blk w6 (w2.heap.size) 78 _ := HBS.out.2.1.ext (by (repeat (first | with_reducible exact Ext.refl _ | with_reducible assumption | ((with_reducible apply Src.ext); with_reducible assumption) | with_reducible refine Ext.alloc ?_ _ | with_reducible refine Ext.drew ?_ | with_reducible refine Ext.drewN ?_ _ | ((with_reducible refine Ext.setCell' ?_ ?_ _); solve | omega | simp | (simp; omega)) | (with_reducible refine Ext.trans ?_ (by with_reducible assumption)))))
                have hB3 : Blk w6 w.heap.size 33 _ := HBS.out.2.2.1.ext (by (repeat (first | with_reducible exact Ext.refl _ | with_reducible assumption | ((with_reducible apply Src.ext); with_reducible assumption) | with_reducible refine Ext.alloc ?_ _ | with_reducible refine Ext.drew ?_ | with_reducible refine Ext.drewN ?_ _ | ((with_reducible refine Ext.setCell' ?_ ?_ _); solve | omega | simp | (simp; omega)) | (with_reducible refine Ext.trans ?_ (by with_reducible assumption)))))
                have hB6 : Blk w6 (w.heap.size + 1) 41 _ := HBS.out.2.2.2.ext (by (repeat (first | with_reducible exact Ext.refl _ | with_reducible assumption | ((with_reducible apply Src.ext); with_reducible assumption) | with_reducible refine Ext.alloc ?_ _ | with_reducible refine Ext.drew ?_ | with_reducible refine Ext.drewN ?_ _ | ((with_reducible refine Ext.setCell' ?_ ?_ _); solve | omega | simp | (simp; omega)) | (with_reducible refine Ext.trans ?_ (by with_reducible assumption)))))
                have y06 : w6.cell? ⟨w2.heap.size + 1, 0, none⟩ = some (.int .i64 a) := hB.cell 0
                have y16 : w6.cell? ⟨w2.heap.size + 1, 1, none⟩ = some (.int .i64 b) := hB.cell 1
                have f06 := hB.frozen 0
                have f16 := hB.frozen 1
                have zB6 := hB.lt
                have p06 : w6.cell? ⟨w2.heap.size, 0, none⟩ = some (.string s0) := hB9.cell 0
                have p16 : w6.cell? ⟨w2.heap.size, 1, none⟩ = some (.int .i64 s1) := hB9.cell 1
                have p26 : w6.cell? ⟨w2.heap.size, 2, none⟩ = some (.int .i64 s2) := hB9.cell 2
                have p36 : w6.cell? ⟨w2.heap.size, 3, none⟩ = some (.int .i64 s3) := hB9.cell 3
                have p46 : w6.cell? ⟨w2.heap.size, 4, none⟩ = some (.slice s4 s5 s6) := hB9.cell 4
                have t06 : w6.cell? ⟨w.heap.size, 0, none⟩ = some (.slice A n c) := hB3.cell 0
                have t16 : w6.cell? ⟨w.heap.size, 1, none⟩ = some (.slice A' m c') := hB3.cell 1
                have r06 : w6.cell? ⟨w.heap.size + 1, 0, none⟩ = some (.int .i64 0) := hB6.cell 0
                have r16 : w6.cell? ⟨w.heap.size + 1, 1, none⟩ = some (.int .i64 0) := hB6.cell 1
                have fr06 := hB6.frozen 0
                have fr16 := hB6.frozen 1
                have zR6 := hB6.lt
                go_wp2
                go_roundw
                case rel => exact ⟨b + 1, Blk.eq (by (repeat (first | with_reducible assumption | ((with_reducible apply Blk.new); solve | simp | rfl) | with_reducible apply Blk.drew | with_reducible apply Blk.drewN | ((with_reducible apply Blk.far'); solve | omega | simp | (simp; omega)) | with_reducible apply Blk.set_ | with_reducible apply Blk.alloc | ((with_reducible apply Blk.ext'); with_reducible assumption) | ((with_reducible apply Blk.but'); (with_reducible assumption); solve | omega | (simp; omega))))) (by rfl), HV2, by (repeat (first | with_reducible assumption | ((with_reducible apply Blk.new); solve | simp | rfl) | with_reducible apply Blk.drew | with_reducible apply Blk.drewN | ((with_reducible apply Blk.far'); solve | omega | simp | (simp; omega)) | with_reducible apply Blk.set_ | with_reducible apply Blk.alloc | ((with_reducible apply Blk.ext'); with_reducible assumption) | ((with_reducible apply Blk.but'); (with_reducible assumption); solve | omega | (simp; omega)))), by (repeat (first | with_reducible assumption | ((with_reducible apply Blk.new); solve | simp | rfl) | with_reducible apply Blk.drew | with_reducible apply Blk.drewN | ((with_reducible apply Blk.far'); solve | omega | simp | (simp; omega)) | with_reducible apply Blk.set_ | with_reducible apply Blk.alloc | ((with_reducible apply Blk.ext'); with_reducible assumption) | ((with_reducible apply Blk.but'); (with_reducible assumption); solve | omega | (simp; omega)))), by (repeat (first | with_reducible assumption | ((with_reducible apply Blk.new); solve | simp | rfl) | with_reducible apply Blk.drew | with_reducible apply Blk.drewN | ((with_reducible apply Blk.far'); solve | omega | simp | (simp; omega)) | with_reducible apply Blk.set_ | with_reducible apply Blk.alloc | ((with_reducible apply Blk.ext'); with_reducible assumption) | ((with_reducible apply Blk.but'); (with_reducible assumption); solve | omega | (simp; omega)))), by (repeat (first | with_reducible exact Ext.refl _ | with_reducible assumption | ((with_reducible apply Src.ext); with_reducible assumption) | with_reducible refine Ext.alloc ?_ _ | with_reducible refine Ext.drew ?_ | with_reducible refine Ext.drewN ?_ _ | ((with_reducible refine Ext.setCell' ?_ ?_ _); solve | omega | simp | (simp; omega)) | (with_reducible refine Ext.trans ?_ (by with_reducible assumption)))), by omega, by omega⟩
                case measure => rw [cnum_blk1 HBS.out.1]; exact cnum_lt1 (a := b + 1) (z := .int .i64 a) (t := 41) (Blk.eq (by (repeat (first | with_reducible assumption | ((with_reducible apply Blk.new); solve | simp | rfl) | with_reducible apply Blk.drew | with_reducible apply Blk.drewN | ((with_reducible apply Blk.far'); solve | omega | simp | (simp; omega)) | with_reducible apply Blk.set_ | with_reducible apply Blk.alloc | ((with_reducible apply Blk.ext'); with_reducible assumption) | ((with_reducible apply Blk.but'); (with_reducible assumption); solve | omega | (simp; omega))))) (by rfl)) (by omega)
              | false =>
                rw [hq] at HSA
                have HHI := Lib.hid (HV.out.hi (hi_stop HEX.out hlb HV.out.at (.inr hq)))
                clear hq
                go_wp2_with fail
                refine (HSA.out _ (by (repeat (first | with_reducible exact Ext.refl _ | with_reducible assumption | ((with_reducible apply Src.ext); with_reducible assumption) | with_reducible refine Ext.alloc ?_ _ | with_reducible refine Ext.drew ?_ | with_reducible refine Ext.drewN ?_ _ | ((with_reducible refine Ext.setCell' ?_ ?_ _); solve | omega | simp | (simp; omega)) | (with_reducible refine Ext.trans ?_ (by with_reducible assumption)))))).mono ?_
                rintro e w6 ⟨rfl, hx6⟩
                have hs6 := hx6.size
                have hB : Blk w6 (w2.heap.size + 1) 41 _ := HBS.out.1.ext (by (repeat (first | with_reducible exact Ext.refl _ | with_reducible assumption | ((with_reducible apply Src.ext); with_reducible assumption) | with_reducible refine Ext.alloc ?_ _ | with_reducible refine Ext.drew ?_ | with_reducible refine Ext.drewN ?_ _ | ((with_reducible refine Ext.setCell' ?_ ?_ _); solve | omega | simp | (simp; omega)) | (with_reducible refine Ext.trans ?_ (by with_reducible assumption)))))
                have hB9 : Blk w6 (w2.heap.size) 78 _ := HBS.out.2.1.ext (by (repeat (first | with_reducible exact Ext.refl _ | with_reducible assumption | ((with_reducible apply Src.ext); with_reducible assumption) | with_reducible refine Ext.alloc ?_ _ | with_reducible refine Ext.drew ?_ | with_reducible refine Ext.drewN ?_ _ | ((with_reducible refine Ext.setCell' ?_ ?_ _); solve | omega | simp | (simp; omega)) | (with_reducible refine Ext.trans ?_ (by with_reducible assumption)))))
                have hB3 : Blk w6 w.heap.size 33 _ := HBS.out.2.2.1.ext (by (repeat (first | with_reducible exact Ext.refl _ | with_reducible assumption | ((with_reducible apply Src.ext); with_reducible assumption) | with_reducible refine Ext.alloc ?_ _ | with_reducible refine Ext.drew ?_ | with_reducible refine Ext.drewN ?_ _ | ((with_reducible refine Ext.setCell' ?_ ?_ _); solve | omega | simp | (simp; omega)) | (with_reducible refine Ext.trans ?_ (by with_reducible assumption)))))
                have hB6 : Blk w6 (w.heap.size + 1) 41 _ := HBS.out.2.2.2.ext (by (repeat (first | with_reducible exact Ext.refl _ | with_reducible assumption | ((with_reducible apply Src.ext); with_reducible assumption) | with_reducible refine Ext.alloc ?_ _ | with_reducible refine Ext.drew ?_ | with_reducible refine Ext.drewN ?_ _ | ((with_reducible refine Ext.setCell' ?_ ?_ _); solve | omega | simp | (simp; omega)) | (with_reducible refine Ext.trans ?_ (by with_reducible assumption)))))
                have y06 : w6.cell? ⟨w2.heap.size + 1, 0, none⟩ = some (.int .i64 a) := hB.cell 0
                have y16 : w6.cell? ⟨w2.heap.size + 1, 1, none⟩ = some (.int .i64 b) := hB.cell 1
                have f06 := hB.frozen 0
                have f16 := hB.frozen 1
                have zB6 := hB.lt
                have p06 : w6.cell? ⟨w2.heap.size, 0, none⟩ = some (.string s0) := hB9.cell 0
                have p16 : w6.cell? ⟨w2.heap.size, 1, none⟩ = some (.int .i64 s1) := hB9.cell 1
                have p26 : w6.cell? ⟨w2.heap.size, 2, none⟩ = some (.int .i64 s2) := hB9.cell 2
                have p36 : w6.cell? ⟨w2.heap.size, 3, none⟩ = some (.int .i64 s3) := hB9.cell 3
                have p46 : w6.cell? ⟨w2.heap.size, 4, none⟩ = some (.slice s4 s5 s6) := hB9.cell 4
                have t06 : w6.cell? ⟨w.heap.size, 0, none⟩ = some (.slice A n c) := hB3.cell 0
                have t16 : w6.cell? ⟨w.heap.size, 1, none⟩ = some (.slice A' m c') := hB3.cell 1
                have r06 : w6.cell? ⟨w.heap.size + 1, 0, none⟩ = some (.int .i64 0) := hB6.cell 0
                have r16 : w6.cell? ⟨w.heap.size + 1, 1, none⟩ = some (.int .i64 0) := hB6.cell 1
                have fr06 := hB6.frozen 0
                have fr16 := hB6.frozen 1
                have zR6 := hB6.lt
                go_wp2
                refine ret_pts1 (b0 := w.heap.size + 1) (t := 41) (v := .tuple #[.agg #[.int .i64 a, .int .i64 b], .int .i64 0]) (Blk.eq (by (repeat (first | with_reducible assumption | ((with_reducible apply Blk.new); solve | simp | rfl) | with_reducible apply Blk.drew | with_reducible apply Blk.drewN | ((with_reducible apply Blk.far'); solve | omega | simp | (simp; omega)) | with_reducible apply Blk.set_ | with_reducible apply Blk.alloc | ((with_reducible apply Blk.ext'); with_reducible assumption) | ((with_reducible apply Blk.but'); (with_reducible assumption); solve | omega | (simp; omega))))) (by rfl)) rfl (by intro W' r0 r1; simp [results, Tryz.results24, go_sem, r0, r1]) ?_
                exact ⟨by rw [HA.out, HZ.out, HLO.out, HHI.out], by (repeat (first | with_reducible exact Ext.refl _ | with_reducible assumption | ((with_reducible apply Src.ext); with_reducible assumption) | with_reducible refine Ext.alloc ?_ _ | with_reducible refine Ext.drew ?_ | with_reducible refine Ext.drewN ?_ _ | ((with_reducible refine Ext.setCell' ?_ ?_ _); solve | omega | simp | (simp; omega)) | (with_reducible refine Ext.trans ?_ (by with_reducible assumption))))⟩
            · have HHI := Lib.hid (HV.out.hi (hi_stop HEX.out hlb HV.out.at (.inl (by rw [← HE3.out]; exact hgt2))))
              have hB := HBS.out.1
              have hB9 := HBS.out.2.1
              have hB3 := HBS.out.2.2.1
              have hB6 := HBS.out.2.2.2
              go_wp2
              refine ret_pts1 (b0 := w.heap.size + 1) (t := 41) (v := .tuple #[.agg #[.int .i64 a, .int .i64 b], .int .i64 0]) (Blk.eq (by (repeat (first | with_reducible assumption | ((with_reducible apply Blk.new); solve | simp | rfl) | with_reducible apply Blk.drew | with_reducible apply Blk.drewN | ((with_reducible apply Blk.far'); solve | omega | simp | (simp; omega)) | with_reducible apply Blk.set_ | with_reducible apply Blk.alloc | ((with_reducible apply Blk.ext'); with_reducible assumption) | ((with_reducible apply Blk.but'); (with_reducible assumption); solve | omega | (simp; omega))))) (by rfl)) rfl (by intro W' r0 r1; simp [results, Tryz.results24, go_sem, r0, r1]) ?_
              exact ⟨by rw [HA.out, HZ.out, HLO.out, HHI.out], by (repeat (first | with_reducible exact Ext.refl _ | with_reducible assumption | ((with_reducible apply Src.ext); with_reducible assumption) | with_reducible refine Ext.alloc ?_ _ | with_reducible refine Ext.drew ?_ | with_reducible refine Ext.drewN ?_ _ | ((with_reducible refine Ext.setCell' ?_ ?_ _); solve | omega | simp | (simp; omega)) | (with_reducible refine Ext.trans ?_ (by with_reducible assumption))))⟩
      · have HLO := Lib.hid (HU.out.lo (lo_stop HEX.out hay HU.out.at (.inl (by rw [← HE2.out]; exact hgt))))
        have HBS2 := HBS
        clear HBS HU y0 y1 f0 f1 p1 t0 t1 r0 r1 fr0 fr1 zB z9 z3r z6r
        have hB := HBS2.out.1
        have y0 : w5.cell? ⟨w2.heap.size + 1, 0, none⟩ = some (.int .i64 a) := hB.cell 0
        clear hB
        have hB := HBS2.out.1
        have hB9 := HBS2.out.2.1
        have hB3 := HBS2.out.2.2.1
        have hB6 := HBS2.out.2.2.2
        go_wp2
        go_loopw [] (fun wr => ∃ b : Int, Blk wr (w2.heap.size + 1) 41 #[.int .i64 a, .int .i64 b] ∧ Hid (DnS d L y b) ∧ Blk wr (w2.heap.size) 78 #[.string s0, .int .i64 s1, .int .i64 s2, .int .i64 s3, .slice s4 s5 s6] ∧ Blk wr w.heap.size 33 #[.slice A n c, .slice A' m c'] ∧ Blk wr (w.heap.size + 1) 41 #[.int .i64 0, .int .i64 0] ∧ Ext w2 wr ∧ y ≤ b ∧ b ≤ s3) (fun wr => (s3 - cnum wr (w2.heap.size + 1) 1).toNat)
        case atStart => exact ⟨y, by (repeat (first | with_reducible assumption | ((with_reducible apply Blk.new); solve | simp | rfl) | with_reducible apply Blk.drew | with_reducible apply Blk.drewN | ((with_reducible apply Blk.far'); solve | omega | simp | (simp; omega)) | with_reducible apply Blk.set_ | with_reducible apply Blk.alloc | ((with_reducible apply Blk.ext'); with_reducible assumption) | ((with_reducible apply Blk.but'); (with_reducible assumption); solve | omega | (simp; omega)))), Lib.hid (DnS.start HEX.out), by (repeat (first | with_reducible assumption | ((with_reducible apply Blk.new); solve | simp | rfl) | with_reducible apply Blk.drew | with_reducible apply Blk.drewN | ((with_reducible apply Blk.far'); solve | omega | simp | (simp; omega)) | with_reducible apply Blk.set_ | with_reducible apply Blk.alloc | ((with_reducible apply Blk.ext'); with_reducible assumption) | ((with_reducible apply Blk.but'); (with_reducible assumption); solve | omega | (simp; omega)))), by (repeat (first | with_reducible assumption | ((with_reducible apply Blk.new); solve | simp | rfl) | with_reducible apply Blk.drew | with_reducible apply Blk.drewN | ((with_reducible apply Blk.far'); solve | omega | simp | (simp; omega)) | with_reducible apply Blk.set_ | with_reducible apply Blk.alloc | ((with_reducible apply Blk.ext'); with_reducible assumption) | ((with_reducible apply Blk.but'); (with_reducible assumption); solve | omega | (simp; omega)))), by (repeat (first | with_reducible assumption | ((with_reducible apply Blk.new); solve | simp | rfl) | with_reducible apply Blk.drew | with_reducible apply Blk.drewN | ((with_reducible apply Blk.far'); solve | omega | simp | (simp; omega)) | with_reducible apply Blk.set_ | with_reducible apply Blk.alloc | ((with_reducible apply Blk.ext'); with_reducible assumption) | ((with_reducible apply Blk.but'); (with_reducible assumption); solve | omega | (simp; omega)))), by (repeat (first | with_reducible exact Ext.refl _ | with_reducible assumption | ((with_reducible apply Src.ext); with_reducible assumption) | with_reducible refine Ext.alloc ?_ _ | with_reducible refine Ext.drew ?_ | with_reducible refine Ext.drewN ?_ _ | ((with_reducible refine Ext.setCell' ?_ ?_ _); solve | omega | simp | (simp; omega)) | (with_reducible refine Ext.trans ?_ (by with_reducible assumption)))), Int.le_refl _, he2⟩
        case round =>
          clear hB hB9 hB3 hB6
          obtain ⟨b, hB, HV, hB9, hB3, hB6, hxr, hlb, hby⟩ := hrel
          obtain ⟨w5, rfl⟩ : ∃ x, x = wr := ⟨wr, rfl⟩
          have y0 : w5.cell? ⟨w2.heap.size + 1, 0, none⟩ = some (.int .i64 a) := hB.cell 0
          have y1 : w5.cell? ⟨w2.heap.size + 1, 1, none⟩ = some (.int .i64 b) := hB.cell 1
          have f0 := hB.frozen 0
          have f1 := hB.frozen 1
          have p0 : w5.cell? ⟨w2.heap.size, 0, none⟩ = some (.string s0) := hB9.cell 0
          have p1 : w5.cell? ⟨w2.heap.size, 1, none⟩ = some (.int .i64 s1) := hB9.cell 1
          have p2 : w5.cell? ⟨w2.heap.size, 2, none⟩ = some (.int .i64 s2) := hB9.cell 2
          have p3 : w5.cell? ⟨w2.heap.size, 3, none⟩ = some (.int .i64 s3) := hB9.cell 3
          have p4 : w5.cell? ⟨w2.heap.size, 4, none⟩ = some (.slice s4 s5 s6) := hB9.cell 4
          have t0 : w5.cell? ⟨w.heap.size, 0, none⟩ = some (.slice A n c) := hB3.cell 0
          have t1 : w5.cell? ⟨w.heap.size, 1, none⟩ = some (.slice A' m c') := hB3.cell 1
          have r0 : w5.cell? ⟨w.heap.size + 1, 0, none⟩ = some (.int .i64 0) := hB6.cell 0
          have r1 : w5.cell? ⟨w.heap.size + 1, 1, none⟩ = some (.int .i64 0) := hB6.cell 1
          have fr0 := hB6.frozen 0
          have fr1 := hB6.frozen 1
          have zB := hB.lt
          have z9 := hB9.lt
          have z3r := hB3.lt
          have z6r := hB6.lt
          have HBS := Lib.hid (And.intro hB (And.intro hB9 (And.intro hB3 hB6)))
          clear hB hB9 hB3 hB6
          have hwr2 : IntKind.i64.wrap (b + 1) = b + 1 := IntWalk.i64_in _ (by omega)
          by_cases hgt2 : b < s3
          · have HSA := Lib.hid (fun W (hW : Ext w5 W) => HS.out w2 W _ (b + 1) HI.out (hxr.trans hW) (HX2.out.trans (hxr.trans hW)) (by omega) (by omega))
            cases hq : sdB d L (b + 1) with
            | true =>
              rw [hq] at HSA
              have HV2 := Lib.hid (HV.out.step (hi_step HEX.out hlb HV.out.at (by rw [← HE3.out]; exact hgt2) hq))
              clear hq
              go_wp2_with fail
              refine (HSA.out _ (by (repeat (first | with_reducible exact Ext.refl _ | with_reducible assumption | ((with_reducible apply Src.ext); with_reducible assumption) | with_reducible refine Ext.alloc ?_ _ | with_reducible refine Ext.drew ?_ | with_reducible refine Ext.drewN ?_ _ | ((with_reducible refine Ext.setCell' ?_ ?_ _); solve | omega | simp | (simp; omega)) | (with_reducible refine Ext.trans ?_ (by with_reducible assumption)))))).mono ?_
              rintro e w6 ⟨rfl, hx6⟩
              have hs6 := hx6.size
              have hB : Blk w6 (w2.heap.size + 1) 41 _ := HBS.out.1.ext (by (repeat (first | with_reducible exact Ext.refl _ | with_reducible assumption | ((with_reducible apply Src.ext); with_reducible assumption) | with_reducible refine Ext.alloc ?_ _ | with_reducible refine Ext.drew ?_ | with_reducible refine Ext.drewN ?_ _ | ((with_reducible refine Ext.setCell' ?_ ?_ _); solve | omega | simp | (simp; omega)) | (with_reducible refine Ext.trans ?_ (by with_reducible assumption)))))
              have hB9 : Blk w6 (w2.heap.size) 78 _ := HBS.out.2.1.ext (by (repeat (first | with_reducible exact Ext.refl _ | with_reducible assumption | ((with_reducible apply Src.ext); with_reducible assumption) | with_reducible refine Ext.alloc ?_ _ | with_reducible refine Ext.drew ?_ | with_reducible refine Ext.drewN ?_ _ | ((with_reducible refine Ext.setCell' ?_ ?_ _); solve | omega | simp | (simp; omega)) | (with_reducible refine Ext.trans ?_ (by with_reducible assumption)))))
              have hB3 : Blk w6 w.heap.size 33 _ := HBS.out.2.2.1.ext (by (repeat (first | with_reducible exact Ext.refl _ | with_reducible assumption | ((with_reducible apply Src.ext); with_reducible assumption) | with_reducible refine Ext.alloc ?_ _ | with_reducible refine Ext.drew ?_ | with_reducible refine Ext.drewN ?_ _ | ((with_reducible refine Ext.setCell' ?_ ?_ _); solve | omega | simp | (simp; omega)) | (with_reducible refine Ext.trans ?_ (by with_reducible assumption)))))
              have hB6 : Blk w6 (w.heap.size + 1) 41 _ := HBS.out.2.2.2.ext (by (repeat (first | with_reducible exact Ext.refl _ | with_reducible assumption | ((with_reducible apply Src.ext); with_reducible assumption) | with_reducible refine Ext.alloc ?_ _ | with_reducible refine Ext.drew ?_ | with_reducible refine Ext.drewN ?_ _ | ((with_reducible refine Ext.setCell' ?_ ?_ _); solve | omega | simp | (simp; omega)) | (with_reducible refine Ext.trans ?_ (by with_reducible assumption)))))
              have y06 : w6.cell? ⟨w2.heap.size + 1, 0, none⟩ = some (.int .i64 a) := hB.cell 0
              have y16 : w6.cell? ⟨w2.heap.size + 1, 1, none⟩ = some (.int .i64 b) := hB.cell 1
              have f06 := hB.frozen 0
              have f16 := hB.frozen 1
              have zB6 := hB.lt
              have p06 : w6.cell? ⟨w2.heap.size, 0, none⟩ = some (.string s0) := hB9.cell 0
              have p16 : w6.cell? ⟨w2.heap.size, 1, none⟩ = some (.int .i64 s1) := hB9.cell 1
              have p26 : w6.cell? ⟨w2.heap.size, 2, none⟩ = some (.int .i64 s2) := hB9.cell 2
              have p36 : w6.cell? ⟨w2.heap.size, 3, none⟩ = some (.int .i64 s3) := hB9.cell 3
              have p46 : w6.cell? ⟨w2.heap.size, 4, none⟩ = some (.slice s4 s5 s6) := hB9.cell 4
              have t06 : w6.cell? ⟨w.heap.size, 0, none⟩ = some (.slice A n c) := hB3.cell 0
              have t16 : w6.cell? ⟨w.heap.size, 1, none⟩ = some (.slice A' m c') := hB3.cell 1
              have r06 : w6.cell? ⟨w.heap.size + 1, 0, none⟩ = some (.int .i64 0) := hB6.cell 0
              have r16 : w6.cell? ⟨w.heap.size + 1, 1, none⟩ = some (.int .i64 0) := hB6.cell 1
              have fr06 := hB6.frozen 0
              have fr16 := hB6.frozen 1
              have zR6 := hB6.lt
              go_wp2
              go_roundw
              case rel => exact ⟨b + 1, Blk.eq (by (repeat (first | with_reducible assumption | ((with_reducible apply Blk.new); solve | simp | rfl) | with_reducible apply Blk.drew | with_reducible apply Blk.drewN | ((with_reducible apply Blk.far'); solve | omega | simp | (simp; omega)) | with_reducible apply Blk.set_ | with_reducible apply Blk.alloc | ((with_reducible apply Blk.ext'); with_reducible assumption) | ((with_reducible apply Blk.but'); (with_reducible assumption); solve | omega | (simp; omega))))) (by rfl), HV2, by (repeat (first | with_reducible assumption | ((with_reducible apply Blk.new); solve | simp | rfl) | with_reducible apply Blk.drew | with_reducible apply Blk.drewN | ((with_reducible apply Blk.far'); solve | omega | simp | (simp; omega)) | with_reducible apply Blk.set_ | with_reducible apply Blk.alloc | ((with_reducible apply Blk.ext'); with_reducible assumption) | ((with_reducible apply Blk.but'); (with_reducible assumption); solve | omega | (simp; omega)))), by (repeat (first | with_reducible assumption | ((with_reducible apply Blk.new); solve | simp | rfl) | with_reducible apply Blk.drew | with_reducible apply Blk.drewN | ((with_reducible apply Blk.far'); solve | omega | simp | (simp; omega)) | with_reducible apply Blk.set_ | with_reducible apply Blk.alloc | ((with_reducible apply Blk.ext'); with_reducible assumption) | ((with_reducible apply Blk.but'); (with_reducible assumption); solve | omega | (simp; omega)))), by (repeat (first | with_reducible assumption | ((with_reducible apply Blk.new); solve | simp | rfl) | with_reducible apply Blk.drew | with_reducible apply Blk.drewN | ((with_reducible apply Blk.far'); solve | omega | simp | (simp; omega)) | with_reducible apply Blk.set_ | with_reducible apply Blk.alloc | ((with_reducible apply Blk.ext'); with_reducible assumption) | ((with_reducible apply Blk.but'); (with_reducible assumption); solve | omega | (simp; omega)))), by (repeat (first | with_reducible exact Ext.refl _ | with_reducible assumption | ((with_reducible apply Src.ext); with_reducible assumption) | with_reducible refine Ext.alloc ?_ _ | with_reducible refine Ext.drew ?_ | with_reducible refine Ext.drewN ?_ _ | ((with_reducible refine Ext.setCell' ?_ ?_ _); solve | omega | simp | (simp; omega)) | (with_reducible refine Ext.trans ?_ (by with_reducible assumption)))), by omega, by omega⟩
              case measure => rw [cnum_blk1 HBS.out.1]; exact cnum_lt1 (a := b + 1) (z := .int .i64 a) (t := 41) (Blk.eq (by (repeat (first | with_reducible assumption | ((with_reducible apply Blk.new); solve | simp | rfl) | with_reducible apply Blk.drew | with_reducible apply Blk.drewN | ((with_reducible apply Blk.far'); solve | omega | simp | (simp; omega)) | with_reducible apply Blk.set_ | with_reducible apply Blk.alloc | ((with_reducible apply Blk.ext'); with_reducible assumption) | ((with_reducible apply Blk.but'); (with_reducible assumption); solve | omega | (simp; omega))))) (by rfl)) (by omega)
            | false =>
              rw [hq] at HSA
              have HHI := Lib.hid (HV.out.hi (hi_stop HEX.out hlb HV.out.at (.inr hq)))
              clear hq
              go_wp2_with fail
              refine (HSA.out _ (by (repeat (first | with_reducible exact Ext.refl _ | with_reducible assumption | ((with_reducible apply Src.ext); with_reducible assumption) | with_reducible refine Ext.alloc ?_ _ | with_reducible refine Ext.drew ?_ | with_reducible refine Ext.drewN ?_ _ | ((with_reducible refine Ext.setCell' ?_ ?_ _); solve | omega | simp | (simp; omega)) | (with_reducible refine Ext.trans ?_ (by with_reducible assumption)))))).mono ?_
              rintro e w6 ⟨rfl, hx6⟩
              have hs6 := hx6.size
              have hB : Blk w6 (w2.heap.size + 1) 41 _ := HBS.out.1.ext (by (repeat (first | with_reducible exact Ext.refl _ | with_reducible assumption | ((with_reducible apply Src.ext); with_reducible assumption) | with_reducible refine Ext.alloc ?_ _ | with_reducible refine Ext.drew ?_ | with_reducible refine Ext.drewN ?_ _ | ((with_reducible refine Ext.setCell' ?_ ?_ _); solve | omega | simp | (simp; omega)) | (with_reducible refine Ext.trans ?_ (by with_reducible assumption)))))
              have hB9 : Blk w6 (w2.heap.size) 78 _ := HBS.out.2.1.ext (by (repeat (first | with_reducible exact Ext.refl _ | with_reducible assumption | ((with_reducible apply Src.ext); with_reducible assumption) | with_reducible refine Ext.alloc ?_ _ | with_reducible refine Ext.drew ?_ | with_reducible refine Ext.drewN ?_ _ | ((with_reducible refine Ext.setCell' ?_ ?_ _); solve | omega | simp | (simp; omega)) | (with_reducible refine Ext.trans ?_ (by with_reducible assumption)))))
              have hB3 : Blk w6 w.heap.size 33 _ := HBS.out.2.2.1.ext (by (repeat (first | with_reducible exact Ext.refl _ | with_reducible assumption | ((with_reducible apply Src.ext); with_reducible assumption) | with_reducible refine Ext.alloc ?_ _ | with_reducible refine Ext.drew ?_ | with_reducible refine Ext.drewN ?_ _ | ((with_reducible refine Ext.setCell' ?_ ?_ _); solve | omega | simp | (simp; omega)) | (with_reducible refine Ext.trans ?_ (by with_reducible assumption)))))
              have hB6 : Blk w6 (w.heap.size + 1) 41 _ := HBS.out.2.2.2.ext (by (repeat (first | with_reducible exact Ext.refl _ | with_reducible assumption | ((with_reducible apply Src.ext); with_reducible assumption) | with_reducible refine Ext.alloc ?_ _ | with_reducible refine Ext.drew ?_ | with_reducible refine Ext.drewN ?_ _ | ((with_reducible refine Ext.setCell' ?_ ?_ _); solve | omega | simp | (simp; omega)) | (with_reducible refine Ext.trans ?_ (by with_reducible assumption)))))
              have y06 : w6.cell? ⟨w2.heap.size + 1, 0, none⟩ = some (.int .i64 a) := hB.cell 0
              have y16 : w6.cell? ⟨w2.heap.size + 1, 1, none⟩ = some (.int .i64 b) := hB.cell 1
              have f06 := hB.frozen 0
              have f16 := hB.frozen 1
              have zB6 := hB.lt
              have p06 : w6.cell? ⟨w2.heap.size, 0, none⟩ = some (.string s0) := hB9.cell 0
              have p16 : w6.cell? ⟨w2.heap.size, 1, none⟩ = some (.int .i64 s1) := hB9.cell 1
              have p26 : w6.cell? ⟨w2.heap.size, 2, none⟩ = some (.int .i64 s2) := hB9.cell 2
              have p36 : w6.cell? ⟨w2.heap.size, 3, none⟩ = some (.int .i64 s3) := hB9.cell 3
              have p46 : w6.cell? ⟨w2.heap.size, 4, none⟩ = some (.slice s4 s5 s6) := hB9.cell 4
              have t06 : w6.cell? ⟨w.heap.size, 0, none⟩ = some (.slice A n c) := hB3.cell 0
              have t16 : w6.cell? ⟨w.heap.size, 1, none⟩ = some (.slice A' m c') := hB3.cell 1
              have r06 : w6.cell? ⟨w.heap.size + 1, 0, none⟩ = some (.int .i64 0) := hB6.cell 0
              have r16 : w6.cell? ⟨w.heap.size + 1, 1, none⟩ = some (.int .i64 0) := hB6.cell 1
              have fr06 := hB6.frozen 0
              have fr16 := hB6.frozen 1
              have zR6 := hB6.lt
              go_wp2
              refine ret_pts1 (b0 := w.heap.size + 1) (t := 41) (v := .tuple #[.agg #[.int .i64 a, .int .i64 b], .int .i64 0]) (Blk.eq (by (repeat (first | with_reducible assumption | ((with_reducible apply Blk.new); solve | simp | rfl) | with_reducible apply Blk.drew | with_reducible apply Blk.drewN | ((with_reducible apply Blk.far'); solve | omega | simp | (simp; omega)) | with_reducible apply Blk.set_ | with_reducible apply Blk.alloc | ((with_reducible apply Blk.ext'); with_reducible assumption) | ((with_reducible apply Blk.but'); (with_reducible assumption); solve | omega | (simp; omega))))) (by rfl)) rfl (by intro W' r0 r1; simp [results, Tryz.results24, go_sem, r0, r1]) ?_
              exact ⟨by rw [HA.out, HZ.out, HLO.out, HHI.out], by (repeat (first | with_reducible exact Ext.refl _ | with_reducible assumption | ((with_reducible apply Src.ext); with_reducible assumption) | with_reducible refine Ext.alloc ?_ _ | with_reducible refine Ext.drew ?_ | with_reducible refine Ext.drewN ?_ _ | ((with_reducible refine Ext.setCell' ?_ ?_ _); solve | omega | simp | (simp; omega)) | (with_reducible refine Ext.trans ?_ (by with_reducible assumption))))⟩
          · have HHI := Lib.hid (HV.out.hi (hi_stop HEX.out hlb HV.out.at (.inl (by rw [← HE3.out]; exact hgt2))))
            have hB := HBS.out.1
            have hB9 := HBS.out.2.1
            have hB3 := HBS.out.2.2.1
            have hB6 := HBS.out.2.2.2
            go_wp2
            refine ret_pts1 (b0 := w.heap.size + 1) (t := 41) (v := .tuple #[.agg #[.int .i64 a, .int .i64 b], .int .i64 0]) (Blk.eq (by (repeat (first | with_reducible assumption | ((with_reducible apply Blk.new); solve | simp | rfl) | with_reducible apply Blk.drew | with_reducible apply Blk.drewN | ((with_reducible apply Blk.far'); solve | omega | simp | (simp; omega)) | with_reducible apply Blk.set_ | with_reducible apply Blk.alloc | ((with_reducible apply Blk.ext'); with_reducible assumption) | ((with_reducible apply Blk.but'); (with_reducible assumption); solve | omega | (simp; omega))))) (by rfl)) rfl (by intro W' r0 r1; simp [results, Tryz.results24, go_sem, r0, r1]) ?_
            exact ⟨by rw [HA.out, HZ.out, HLO.out, HHI.out], by (repeat (first | with_reducible exact Ext.refl _ | with_reducible assumption | ((with_reducible apply Src.ext); with_reducible assumption) | with_reducible refine Ext.alloc ?_ _ | with_reducible refine Ext.drew ?_ | with_reducible refine Ext.drewN ?_ _ | ((with_reducible refine Ext.setCell' ?_ ?_ _); solve | omega | simp | (simp; omega)) | (with_reducible refine Ext.trans ?_ (by with_reducible assumption))))⟩
  · have e1 : ssA (psD ps) L x y = 0 := by unfold ssA; rw [if_neg hz]
    have e2 : ssZ (psD ps) L x y = 0 := by unfold ssZ; rw [if_neg hz]
    rw [e1, e2]
    generalize ssC (psD ps) L x true y = cd at *
    have hcd : (cd != 0) = true := by simpa using hz
    clear h hm hx e1 e2
    generalize tx x = sx at *
    go_enter Tryz.func24, Tryz.ntmps24
    go_wp2_with fail
    refine (HC.out _ (by (repeat (first | with_reducible exact Ext.refl _ | with_reducible assumption | ((with_reducible apply Src.ext); with_reducible assumption) | with_reducible refine Ext.alloc ?_ _ | with_reducible refine Ext.drew ?_ | with_reducible refine Ext.drewN ?_ _ | ((with_reducible refine Ext.setCell' ?_ ?_ _); solve | omega | simp | (simp; omega)) | (with_reducible refine Ext.trans ?_ (by with_reducible assumption)))))).mono ?_
    rintro e w1 ⟨rfl, hx1⟩
    obtain ⟨hc1, hf1⟩ := hx1.rules
    have hs1 := hx1.size
    (try simp at hs1)
    have := (show w.heap.size < w1.heap.size from by omega)
    have := (show w.heap.size + 1 < w1.heap.size from by omega)
    go_wp2
    refine ret_pts1 (b0 := w.heap.size + 1) (t := 41) (v := .tuple #[.agg #[.int .i64 0, .int .i64 0], .int .i64 cd]) (Blk.eq (by (repeat (first | with_reducible assumption | ((with_reducible apply Blk.new); solve | simp | rfl) | with_reducible apply Blk.drew | with_reducible apply Blk.drewN | ((with_reducible apply Blk.far'); solve | omega | simp | (simp; omega)) | with_reducible apply Blk.set_ | with_reducible apply Blk.alloc | ((with_reducible apply Blk.ext'); with_reducible assumption) | ((with_reducible apply Blk.but'); (with_reducible assumption); solve | omega | (simp; omega))))) (by rfl)) rfl (by intro W' r0 r1; simp [results, Tryz.results24, go_sem, r0, r1]) ?_
    exact ⟨rfl, by (repeat (first | with_reducible exact Ext.refl _ | with_reducible assumption | ((with_reducible apply Src.ext); with_reducible assumption) | with_reducible refine Ext.alloc ?_ _ | with_reducible refine Ext.drew ?_ | with_reducible refine Ext.drewN ?_ _ | ((with_reducible refine Ext.setCell' ?_ ?_ _); solve | omega | simp | (simp; omega)) | (with_reducible refine Ext.trans ?_ (by with_reducible assumption))))⟩
end

end Go.Proofs.YtapfokfbdmcokaaGreatDoor
