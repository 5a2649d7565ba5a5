/- Spans in which nothing changes, as the program sees them. Spans in which nothing changes, as the specification tells them. -/
import Derived.Test.YtlnliajnipniaaaGreatDoorZ2
namespace Go.Proofs.YtlnliajnipniaaaGreatDoor
open Go.RowKit
attribute [local go_sem] ExtOf.cell ExtOf.frozen
def cnum (w : World) (b i : Nat) : Int := intOf ((w.cell? ⟨b, i, none⟩).getD (.int .i64 0))
theorem cnum_blk0 {w : World} {b : Nat} {t : TypeId} {a : Int} {z : Value} (h : Blk w b t #[.int .i64 a, z]) : cnum w b 0 = a := by unfold cnum; rw [h.cell 0]; rfl
theorem cnum_blk1 {w : World} {b : Nat} {t : TypeId} {a : Int} {z : Value} (h : Blk w b t #[z, .int .i64 a]) : cnum w b 1 = a := by unfold cnum; rw [h.cell 1]; rfl
theorem cnum_lt0 {w : World} {b : Nat} {t : TypeId} {a s : Int} {z : Value} {k : Nat} (h : Blk w b t #[.int .i64 a, z]) (hk : (a - s).toNat < k) : (cnum w b 0 - s).toNat < k := by rw [cnum_blk0 h]; exact hk
theorem cnum_lt1 {w : World} {b : Nat} {t : TypeId} {a s : Int} {z : Value} {k : Nat} (h : Blk w b t #[z, .int .i64 a]) (hk : (s - a).toNat < k) : (s - cnum w b 1).toNat < k := by rw [cnum_blk1 h]; exact hk
section
variable {w : World} {A A' : Option Addr} {n c m c' : Nat} {ps : List Pl} {L : List Lk}
set_option maxRecDepth 20000 in
set_option maxHeartbeats 25600000 in
theorem i_SteadySpanW (x : List UInt8) (y : Int) (h : WIn w A A' n c m c' ps L) (hx : x.length ≤ 1048576) (hm : Mx w) :
  Calls Tryz.prog 9 #[.agg #[.slice A n c, .slice A' m c'], .string (tx x), .int .i64 y] w fun e w' => e = .returned (.tuple #[.agg #[.int .i64 (ssA (psD ps) L x y), .int .i64 (ssZ (psD ps) L x y)], .int .i64 (ssC (psD ps) L x true y)]) ∧ Ext w w' := by
 have HC := hI (fun W (hW : Ext w W) => i_placeCode (w := W) x y true (h.ext hW) hx (hm.ext hW))
 by_cases hz : ssC (psD ps) L x true y = 0
 ·obtain ⟨hp, he⟩ := ssC_zero hz
  obtain ⟨hw, _, _, _, hs⟩ := plC_zero hp
  have HP := hI (fun W (hW : Ext w W) => i_placeP (w := W) x (h.ext hW) hw hs)
  have hlm : m ≤ 1048576 := by rw [h.hm]; exact h.hl'
  have HA : Hid (ssA (psD ps) L x y = loS (sbP ((fndP (psD ps) x).getD pdD) L y) y) := hI (by unfold ssA; rw [if_pos hz])
  have HZ : Hid (ssZ (psD ps) L x y = hiS (sbP ((fndP (psD ps) x).getD pdD) L y) y) := hI (by unfold ssZ; rw [if_pos hz])
  have HS : Hid (∀ W0 W v z, IsP W0 ((fndP (psD ps) x).getD pdD) v → Ext W0 W → Ext w W → -3001 ≤ z → z ≤ 3001 → Calls Tryz.prog 25 #[.agg #[.slice A n c, .slice A' m c'], v, .int .i64 z] W fun e w' => e = .returned (.bool (sdB ((fndP (psD ps) x).getD pdD) L z)) ∧ Ext W w') := hI (fun W0 W v z hP h0 hW h1 h2 => (hP.ext h0).steady (h.sk.ext hW) h.hm hlm (hm.ext hW) z h1 h2)
  rw [hz] at HC ⊢
  generalize (fndP (psD ps) x).getD pdD = d at *
  generalize ssA (psD ps) L x y = rA at *
  generalize ssZ (psD ps) L x y = rZ at *
  clear hz hp hw hs h hm hx hlm
  generalize tx x = sx at *
  go_enter Tryz.func9, Tryz.ntmps9
  go_wp2_with fail
  refine (HC.out _ (xA (xA xR))).mono ?_
  rintro e w1 ⟨rfl, hx1⟩
  obtain ⟨hc1, hf1⟩ := hx1.rules
  have hs1 := hx1.size
  (try simp at hs1)
  have := (show w.heap.size < w1.heap.size from by omega)
  have := (show w.heap.size + 1 < w1.heap.size from by omega)
  go_wp2_with fail
  refine (HP.out _ (xT (xA (xA xR)) hx1)).mono ?_
  rintro e w2 ⟨s0, s1, s2, s3, s4, s5, s6, HI0, rfl, hx2⟩
  obtain ⟨e2, e3, e9⟩ := HI0.out.yrs
  clear e9
  have HI := hI (HI0.out.ext hx2)
  have HE2 := hI e2
  have HE3 := hI e3
  obtain ⟨he1, he2⟩ := exB_iff.1 he
  rw [← e2] at he1
  rw [← e3] at he2
  have HEX := hI he
  have hbb : -3000 ≤ s2 ∧ s3 ≤ 3000 := by
   obtain ⟨p, _, _, g3, _⟩ := HI.out
   obtain ⟨a1, a2, a3⟩ := plB_sp g3
   omega
  obtain ⟨hb1, hb2⟩ := hbb
  have B3 : Blk w2 w.heap.size 27 #[.slice A n c, .slice A' m c'] := Blk.eq (bE hx2 (bE hx1 (bA (bN (by omega))))) (by rfl)
  have B6 : Blk w2 (w.heap.size + 1) 36 #[.int .i64 0, .int .i64 0] := Blk.eq (bE hx2 (bE hx1 (bN (by first|omega|simp)))) (by rfl)
  have hX2 : Ext w w2 := by clear B3 B6; exact xT (xT (xA (xA xR)) hx1) hx2
  have HX2 := hI hX2
  have z3 := B3.lt
  have z6 := B6.lt
  clear he e2 e3 hx1 hx2 hc1 hf1 hs1 HI0
  go_wp2
  go_loopw [] (fun wr => ∃ a : Int, Blk wr (w2.heap.size + 1) 36 #[.int .i64 a, .int .i64 y] ∧ Hid (UpS d L y a) ∧ Blk wr (w2.heap.size) 57 #[.string s0, .int .i64 s1, .int .i64 s2, .int .i64 s3, .slice s4 s5 s6] ∧ Blk wr w.heap.size 27 #[.slice A n c, .slice A' m c'] ∧ Blk wr (w.heap.size + 1) 36 #[.int .i64 0, .int .i64 0] ∧ Ext w2 wr ∧ s2 ≤ a ∧ a ≤ y) (fun wr => (cnum wr (w2.heap.size + 1) 0 - s2).toNat)
  case atStart => exact ⟨y, Blk.eq (bN (by first|omega|simp)) (by rfl), hI (UpS.start HEX.out), Blk.eq (bA (bN (by omega))) (by rfl), bA (bA B3), bA (bA B6), xA (xA xR), he1, Int.le_refl _⟩
  case round =>
   clear B3 B6
   obtain ⟨a, hB, HU, hB9, hB3, hB6, hxr, hla, hay⟩ := hrel
   obtain ⟨w5, rfl⟩ : ∃ x, x = wr := ⟨wr, rfl⟩
   have y0 : w5.cell? ⟨w2.heap.size + 1, 0, none⟩ = some (.int .i64 a) := hB.cell 0
   have y1 : w5.cell? ⟨w2.heap.size + 1, 1, none⟩ = some (.int .i64 y) := hB.cell 1
   have f0 := hB.frozen 0
   have f1 := hB.frozen 1
   have p0 : w5.cell? ⟨w2.heap.size, 0, none⟩ = some (.string s0) := hB9.cell 0
   have p1 : w5.cell? ⟨w2.heap.size, 1, none⟩ = some (.int .i64 s1) := hB9.cell 1
   have p2 : w5.cell? ⟨w2.heap.size, 2, none⟩ = some (.int .i64 s2) := hB9.cell 2
   have p3 : w5.cell? ⟨w2.heap.size, 3, none⟩ = some (.int .i64 s3) := hB9.cell 3
   have p4 : w5.cell? ⟨w2.heap.size, 4, none⟩ = some (.slice s4 s5 s6) := hB9.cell 4
   have t0 : w5.cell? ⟨w.heap.size, 0, none⟩ = some (.slice A n c) := hB3.cell 0
   have t1 : w5.cell? ⟨w.heap.size, 1, none⟩ = some (.slice A' m c') := hB3.cell 1
   have r0 : w5.cell? ⟨w.heap.size + 1, 0, none⟩ = some (.int .i64 0) := hB6.cell 0
   have r1 : w5.cell? ⟨w.heap.size + 1, 1, none⟩ = some (.int .i64 0) := hB6.cell 1
   have fr0 := hB6.frozen 0
   have fr1 := hB6.frozen 1
   have zB := hB.lt
   have z9 := hB9.lt
   have z3r := hB3.lt
   have z6r := hB6.lt
   have HBS := hI (And.intro hB (And.intro hB9 (And.intro hB3 hB6)))
   clear hB hB9 hB3 hB6
   have hwr : IntKind.i64.wrap (a - 1) = a - 1 := IntWalk.i64_in _ (by omega)
   by_cases hgt : s2 < a
   ·have HSA := hI (fun W (hW : Ext w5 W) => HS.out w2 W _ a HI.out (hxr.trans hW) (HX2.out.trans (hxr.trans hW)) (by omega) (by omega))
    cases hq : sdB d L a with
    | true =>
     rw [hq] at HSA
     have HU2 := hI (HU.out.step (lo_step HEX.out hay HU.out.at (by rw [← HE2.out]; exact hgt) hq))
     clear hq
     go_wp2_with fail
     refine (HSA.out _ xR).mono ?_
     rintro e w6 ⟨rfl, hx6⟩
     have hs6 := hx6.size
     have hB : Blk w6 (w2.heap.size + 1) 36 _ := HBS.out.1.ext hx6
     have hB9 : Blk w6 (w2.heap.size) 57 _ := HBS.out.2.1.ext hx6
     have hB3 : Blk w6 w.heap.size 27 _ := HBS.out.2.2.1.ext hx6
     have hB6 : Blk w6 (w.heap.size + 1) 36 _ := HBS.out.2.2.2.ext hx6
     have y06 : w6.cell? ⟨w2.heap.size + 1, 0, none⟩ = some (.int .i64 a) := hB.cell 0
     have y16 : w6.cell? ⟨w2.heap.size + 1, 1, none⟩ = some (.int .i64 y) := hB.cell 1
     have f06 := hB.frozen 0
     have f16 := hB.frozen 1
     have zB6 := hB.lt
     have p06 : w6.cell? ⟨w2.heap.size, 0, none⟩ = some (.string s0) := hB9.cell 0
     have p16 : w6.cell? ⟨w2.heap.size, 1, none⟩ = some (.int .i64 s1) := hB9.cell 1
     have p26 : w6.cell? ⟨w2.heap.size, 2, none⟩ = some (.int .i64 s2) := hB9.cell 2
     have p36 : w6.cell? ⟨w2.heap.size, 3, none⟩ = some (.int .i64 s3) := hB9.cell 3
     have p46 : w6.cell? ⟨w2.heap.size, 4, none⟩ = some (.slice s4 s5 s6) := hB9.cell 4
     have t06 : w6.cell? ⟨w.heap.size, 0, none⟩ = some (.slice A n c) := hB3.cell 0
     have t16 : w6.cell? ⟨w.heap.size, 1, none⟩ = some (.slice A' m c') := hB3.cell 1
     have r06 : w6.cell? ⟨w.heap.size + 1, 0, none⟩ = some (.int .i64 0) := hB6.cell 0
     have r16 : w6.cell? ⟨w.heap.size + 1, 1, none⟩ = some (.int .i64 0) := hB6.cell 1
     have fr06 := hB6.frozen 0
     have fr16 := hB6.frozen 1
     have zR6 := hB6.lt
     go_wp2
     go_roundw
     case rel => exact ⟨a - 1, Blk.eq (bS hB) (by rfl), HU2, bF (by omega) hB9, bF (by first|omega|simp) hB3, bF (by first|omega|simp) hB6, xC (by omega) (xT hxr hx6), by omega, by omega⟩
     case measure => rw [cnum_blk0 HBS.out.1]; exact cnum_lt0 (a := a - 1) (z := .int .i64 y) (t := 36) (Blk.eq (bS hB) (by rfl)) (by omega)
    | false =>
     rw [hq] at HSA
     have HLO := hI (HU.out.lo (lo_stop HEX.out hay HU.out.at (.inr hq)))
     clear hq
     go_wp2_with fail
     refine (HSA.out _ xR).mono ?_
     rintro e w6 ⟨rfl, hx6⟩
     have hs6 := hx6.size
     have hB : Blk w6 (w2.heap.size + 1) 36 _ := HBS.out.1.ext hx6
     have hB9 : Blk w6 (w2.heap.size) 57 _ := HBS.out.2.1.ext hx6
     have hB3 : Blk w6 w.heap.size 27 _ := HBS.out.2.2.1.ext hx6
     have hB6 : Blk w6 (w.heap.size + 1) 36 _ := HBS.out.2.2.2.ext hx6
     have HBS2 := hI (And.intro hB (And.intro hB9 (And.intro hB3 hB6)))
     have hx26 : Ext w2 w6 := hxr.trans hx6
     clear hB hB9 hB3 hB6 HBS HSA HU y0 y1 f0 f1 p0 p1 p2 p3 p4 t0 t1 r0 r1 fr0 fr1 zB z9 z3r z6r hxr hx6 hs6
     have hB := HBS2.out.1
     have hB9 := HBS2.out.2.1
     have hB3 := HBS2.out.2.2.1
     have hB6 := HBS2.out.2.2.2
     go_wp2
     go_loopw [] (fun wr => ∃ b : Int, Blk wr (w2.heap.size + 1) 36 #[.int .i64 a, .int .i64 b] ∧ Hid (DnS d L y b) ∧ Blk wr (w2.heap.size) 57 #[.string s0, .int .i64 s1, .int .i64 s2, .int .i64 s3, .slice s4 s5 s6] ∧ Blk wr w.heap.size 27 #[.slice A n c, .slice A' m c'] ∧ Blk wr (w.heap.size + 1) 36 #[.int .i64 0, .int .i64 0] ∧ Ext w2 wr ∧ y ≤ b ∧ b ≤ s3) (fun wr => (s3 - cnum wr (w2.heap.size + 1) 1).toNat)
     case atStart => exact ⟨y, hB, hI (DnS.start HEX.out), hB9, hB3, hB6, hx26, Int.le_refl _, he2⟩
     case round =>
      clear hB hB9 hB3 hB6
      obtain ⟨b, hB, HV, hB9, hB3, hB6, hxr, hlb, hby⟩ := hrel
      obtain ⟨w5, rfl⟩ : ∃ x, x = wr := ⟨wr, rfl⟩
      have y0 : w5.cell? ⟨w2.heap.size + 1, 0, none⟩ = some (.int .i64 a) := hB.cell 0
      have y1 : w5.cell? ⟨w2.heap.size + 1, 1, none⟩ = some (.int .i64 b) := hB.cell 1
      have f0 := hB.frozen 0
      have f1 := hB.frozen 1
      have p0 : w5.cell? ⟨w2.heap.size, 0, none⟩ = some (.string s0) := hB9.cell 0
      have p1 : w5.cell? ⟨w2.heap.size, 1, none⟩ = some (.int .i64 s1) := hB9.cell 1
      have p2 : w5.cell? ⟨w2.heap.size, 2, none⟩ = some (.int .i64 s2) := hB9.cell 2
      have p3 : w5.cell? ⟨w2.heap.size, 3, none⟩ = some (.int .i64 s3) := hB9.cell 3
      have p4 : w5.cell? ⟨w2.heap.size, 4, none⟩ = some (.slice s4 s5 s6) := hB9.cell 4
      have t0 : w5.cell? ⟨w.heap.size, 0, none⟩ = some (.slice A n c) := hB3.cell 0
      have t1 : w5.cell? ⟨w.heap.size, 1, none⟩ = some (.slice A' m c') := hB3.cell 1
      have r0 : w5.cell? ⟨w.heap.size + 1, 0, none⟩ = some (.int .i64 0) := hB6.cell 0
      have r1 : w5.cell? ⟨w.heap.size + 1, 1, none⟩ = some (.int .i64 0) := hB6.cell 1
      have fr0 := hB6.frozen 0
      have fr1 := hB6.frozen 1
      have zB := hB.lt
      have z9 := hB9.lt
      have z3r := hB3.lt
      have z6r := hB6.lt
      have HBS := hI (And.intro hB (And.intro hB9 (And.intro hB3 hB6)))
      clear hB hB9 hB3 hB6
      have hwr2 : IntKind.i64.wrap (b + 1) = b + 1 := IntWalk.i64_in _ (by omega)
      by_cases hgt2 : b < s3
      ·have HSA := hI (fun W (hW : Ext w5 W) => HS.out w2 W _ (b + 1) HI.out (hxr.trans hW) (HX2.out.trans (hxr.trans hW)) (by omega) (by omega))
       cases hq : sdB d L (b + 1) with
       | true =>
        rw [hq] at HSA
        have HV2 := hI (HV.out.step (hi_step HEX.out hlb HV.out.at (by rw [← HE3.out]; exact hgt2) hq))
        clear hq
        go_wp2_with fail
        refine (HSA.out _ xR).mono ?_
        rintro e w6 ⟨rfl, hx6⟩
        have hs6 := hx6.size
        have hB : Blk w6 (w2.heap.size + 1) 36 _ := HBS.out.1.ext hx6
        have hB9 : Blk w6 (w2.heap.size) 57 _ := HBS.out.2.1.ext hx6
        have hB3 : Blk w6 w.heap.size 27 _ := HBS.out.2.2.1.ext hx6
        have hB6 : Blk w6 (w.heap.size + 1) 36 _ := HBS.out.2.2.2.ext hx6
        have y06 : w6.cell? ⟨w2.heap.size + 1, 0, none⟩ = some (.int .i64 a) := hB.cell 0
        have y16 : w6.cell? ⟨w2.heap.size + 1, 1, none⟩ = some (.int .i64 b) := hB.cell 1
        have f06 := hB.frozen 0
        have f16 := hB.frozen 1
        have zB6 := hB.lt
        have p06 : w6.cell? ⟨w2.heap.size, 0, none⟩ = some (.string s0) := hB9.cell 0
        have p16 : w6.cell? ⟨w2.heap.size, 1, none⟩ = some (.int .i64 s1) := hB9.cell 1
        have p26 : w6.cell? ⟨w2.heap.size, 2, none⟩ = some (.int .i64 s2) := hB9.cell 2
        have p36 : w6.cell? ⟨w2.heap.size, 3, none⟩ = some (.int .i64 s3) := hB9.cell 3
        have p46 : w6.cell? ⟨w2.heap.size, 4, none⟩ = some (.slice s4 s5 s6) := hB9.cell 4
        have t06 : w6.cell? ⟨w.heap.size, 0, none⟩ = some (.slice A n c) := hB3.cell 0
        have t16 : w6.cell? ⟨w.heap.size, 1, none⟩ = some (.slice A' m c') := hB3.cell 1
        have r06 : w6.cell? ⟨w.heap.size + 1, 0, none⟩ = some (.int .i64 0) := hB6.cell 0
        have r16 : w6.cell? ⟨w.heap.size + 1, 1, none⟩ = some (.int .i64 0) := hB6.cell 1
        have fr06 := hB6.frozen 0
        have fr16 := hB6.frozen 1
        have zR6 := hB6.lt
        go_wp2
        go_roundw
        case rel => exact ⟨b + 1, Blk.eq (bS hB) (by rfl), HV2, bF (by omega) hB9, bF (by first|omega|simp) hB3, bF (by first|omega|simp) hB6, xC (by omega) (xT hxr hx6), by omega, by omega⟩
        case measure => rw [cnum_blk1 HBS.out.1]; exact cnum_lt1 (a := b + 1) (z := .int .i64 a) (t := 36) (Blk.eq (bS hB) (by rfl)) (by omega)
       | false =>
        rw [hq] at HSA
        have HHI := hI (HV.out.hi (hi_stop HEX.out hlb HV.out.at (.inr hq)))
        clear hq
        go_wp2_with fail
        refine (HSA.out _ xR).mono ?_
        rintro e w6 ⟨rfl, hx6⟩
        have hs6 := hx6.size
        have hB : Blk w6 (w2.heap.size + 1) 36 _ := HBS.out.1.ext hx6
        have hB9 : Blk w6 (w2.heap.size) 57 _ := HBS.out.2.1.ext hx6
        have hB3 : Blk w6 w.heap.size 27 _ := HBS.out.2.2.1.ext hx6
        have hB6 : Blk w6 (w.heap.size + 1) 36 _ := HBS.out.2.2.2.ext hx6
        have y06 : w6.cell? ⟨w2.heap.size + 1, 0, none⟩ = some (.int .i64 a) := hB.cell 0
        have y16 : w6.cell? ⟨w2.heap.size + 1, 1, none⟩ = some (.int .i64 b) := hB.cell 1
        have f06 := hB.frozen 0
        have f16 := hB.frozen 1
        have zB6 := hB.lt
        have p06 : w6.cell? ⟨w2.heap.size, 0, none⟩ = some (.string s0) := hB9.cell 0
        have p16 : w6.cell? ⟨w2.heap.size, 1, none⟩ = some (.int .i64 s1) := hB9.cell 1
        have p26 : w6.cell? ⟨w2.heap.size, 2, none⟩ = some (.int .i64 s2) := hB9.cell 2
        have p36 : w6.cell? ⟨w2.heap.size, 3, none⟩ = some (.int .i64 s3) := hB9.cell 3
        have p46 : w6.cell? ⟨w2.heap.size, 4, none⟩ = some (.slice s4 s5 s6) := hB9.cell 4
        have t06 : w6.cell? ⟨w.heap.size, 0, none⟩ = some (.slice A n c) := hB3.cell 0
        have t16 : w6.cell? ⟨w.heap.size, 1, none⟩ = some (.slice A' m c') := hB3.cell 1
        have r06 : w6.cell? ⟨w.heap.size + 1, 0, none⟩ = some (.int .i64 0) := hB6.cell 0
        have r16 : w6.cell? ⟨w.heap.size + 1, 1, none⟩ = some (.int .i64 0) := hB6.cell 1
        have fr06 := hB6.frozen 0
        have fr16 := hB6.frozen 1
        have zR6 := hB6.lt
        go_wp2
        refine ret_pts1 (b0 := w.heap.size + 1) (t := 36) (v := .tuple #[.agg #[.int .i64 a, .int .i64 b], .int .i64 0]) (Blk.eq (bS (bS hB6)) (by rfl)) rfl (by intro W' r0 r1; simp [results, Tryz.results9, go_sem, r0, r1]) ?_
        exact ⟨by rw [HA.out, HZ.out, HLO.out, HHI.out], xC (by omega) (xC (by omega) (xT (xT hX2 hxr) hx6))⟩
      ·have HHI := hI (HV.out.hi (hi_stop HEX.out hlb HV.out.at (.inl (by rw [← HE3.out]; exact hgt2))))
       have hB := HBS.out.1
       have hB9 := HBS.out.2.1
       have hB3 := HBS.out.2.2.1
       have hB6 := HBS.out.2.2.2
       go_wp2
       refine ret_pts1 (b0 := w.heap.size + 1) (t := 36) (v := .tuple #[.agg #[.int .i64 a, .int .i64 b], .int .i64 0]) (Blk.eq (bS (bS hB6)) (by rfl)) rfl (by intro W' r0 r1; simp [results, Tryz.results9, go_sem, r0, r1]) ?_
       exact ⟨by rw [HA.out, HZ.out, HLO.out, HHI.out], xC (by omega) (xC (by omega) (xT hX2 hxr))⟩
   ·have HLO := hI (HU.out.lo (lo_stop HEX.out hay HU.out.at (.inl (by rw [← HE2.out]; exact hgt))))
    have HBS2 := HBS
    clear HBS HU y0 y1 f0 f1 p1 t0 t1 r0 r1 fr0 fr1 zB z9 z3r z6r
    have hB := HBS2.out.1
    have y0 : w5.cell? ⟨w2.heap.size + 1, 0, none⟩ = some (.int .i64 a) := hB.cell 0
    clear hB
    have hB := HBS2.out.1
    have hB9 := HBS2.out.2.1
    have hB3 := HBS2.out.2.2.1
    have hB6 := HBS2.out.2.2.2
    go_wp2
    go_loopw [] (fun wr => ∃ b : Int, Blk wr (w2.heap.size + 1) 36 #[.int .i64 a, .int .i64 b] ∧ Hid (DnS d L y b) ∧ Blk wr (w2.heap.size) 57 #[.string s0, .int .i64 s1, .int .i64 s2, .int .i64 s3, .slice s4 s5 s6] ∧ Blk wr w.heap.size 27 #[.slice A n c, .slice A' m c'] ∧ Blk wr (w.heap.size + 1) 36 #[.int .i64 0, .int .i64 0] ∧ Ext w2 wr ∧ y ≤ b ∧ b ≤ s3) (fun wr => (s3 - cnum wr (w2.heap.size + 1) 1).toNat)
    case atStart => exact ⟨y, hB, hI (DnS.start HEX.out), hB9, hB3, hB6, hxr, Int.le_refl _, he2⟩
    case round =>
     clear hB hB9 hB3 hB6
     obtain ⟨b, hB, HV, hB9, hB3, hB6, hxr, hlb, hby⟩ := hrel
     obtain ⟨w5, rfl⟩ : ∃ x, x = wr := ⟨wr, rfl⟩
     have y0 : w5.cell? ⟨w2.heap.size + 1, 0, none⟩ = some (.int .i64 a) := hB.cell 0
     have y1 : w5.cell? ⟨w2.heap.size + 1, 1, none⟩ = some (.int .i64 b) := hB.cell 1
     have f0 := hB.frozen 0
     have f1 := hB.frozen 1
     have p0 : w5.cell? ⟨w2.heap.size, 0, none⟩ = some (.string s0) := hB9.cell 0
     have p1 : w5.cell? ⟨w2.heap.size, 1, none⟩ = some (.int .i64 s1) := hB9.cell 1
     have p2 : w5.cell? ⟨w2.heap.size, 2, none⟩ = some (.int .i64 s2) := hB9.cell 2
     have p3 : w5.cell? ⟨w2.heap.size, 3, none⟩ = some (.int .i64 s3) := hB9.cell 3
     have p4 : w5.cell? ⟨w2.heap.size, 4, none⟩ = some (.slice s4 s5 s6) := hB9.cell 4
     have t0 : w5.cell? ⟨w.heap.size, 0, none⟩ = some (.slice A n c) := hB3.cell 0
     have t1 : w5.cell? ⟨w.heap.size, 1, none⟩ = some (.slice A' m c') := hB3.cell 1
     have r0 : w5.cell? ⟨w.heap.size + 1, 0, none⟩ = some (.int .i64 0) := hB6.cell 0
     have r1 : w5.cell? ⟨w.heap.size + 1, 1, none⟩ = some (.int .i64 0) := hB6.cell 1
     have fr0 := hB6.frozen 0
     have fr1 := hB6.frozen 1
     have zB := hB.lt
     have z9 := hB9.lt
     have z3r := hB3.lt
     have z6r := hB6.lt
     have HBS := hI (And.intro hB (And.intro hB9 (And.intro hB3 hB6)))
     clear hB hB9 hB3 hB6
     have hwr2 : IntKind.i64.wrap (b + 1) = b + 1 := IntWalk.i64_in _ (by omega)
     by_cases hgt2 : b < s3
     ·have HSA := hI (fun W (hW : Ext w5 W) => HS.out w2 W _ (b + 1) HI.out (hxr.trans hW) (HX2.out.trans (hxr.trans hW)) (by omega) (by omega))
      cases hq : sdB d L (b + 1) with
      | true =>
       rw [hq] at HSA
       have HV2 := hI (HV.out.step (hi_step HEX.out hlb HV.out.at (by rw [← HE3.out]; exact hgt2) hq))
       clear hq
       go_wp2_with fail
       refine (HSA.out _ xR).mono ?_
       rintro e w6 ⟨rfl, hx6⟩
       have hs6 := hx6.size
       have hB : Blk w6 (w2.heap.size + 1) 36 _ := HBS.out.1.ext hx6
       have hB9 : Blk w6 (w2.heap.size) 57 _ := HBS.out.2.1.ext hx6
       have hB3 : Blk w6 w.heap.size 27 _ := HBS.out.2.2.1.ext hx6
       have hB6 : Blk w6 (w.heap.size + 1) 36 _ := HBS.out.2.2.2.ext hx6
       have y06 : w6.cell? ⟨w2.heap.size + 1, 0, none⟩ = some (.int .i64 a) := hB.cell 0
       have y16 : w6.cell? ⟨w2.heap.size + 1, 1, none⟩ = some (.int .i64 b) := hB.cell 1
       have f06 := hB.frozen 0
       have f16 := hB.frozen 1
       have zB6 := hB.lt
       have p06 : w6.cell? ⟨w2.heap.size, 0, none⟩ = some (.string s0) := hB9.cell 0
       have p16 : w6.cell? ⟨w2.heap.size, 1, none⟩ = some (.int .i64 s1) := hB9.cell 1
       have p26 : w6.cell? ⟨w2.heap.size, 2, none⟩ = some (.int .i64 s2) := hB9.cell 2
       have p36 : w6.cell? ⟨w2.heap.size, 3, none⟩ = some (.int .i64 s3) := hB9.cell 3
       have p46 : w6.cell? ⟨w2.heap.size, 4, none⟩ = some (.slice s4 s5 s6) := hB9.cell 4
       have t06 : w6.cell? ⟨w.heap.size, 0, none⟩ = some (.slice A n c) := hB3.cell 0
       have t16 : w6.cell? ⟨w.heap.size, 1, none⟩ = some (.slice A' m c') := hB3.cell 1
       have r06 : w6.cell? ⟨w.heap.size + 1, 0, none⟩ = some (.int .i64 0) := hB6.cell 0
       have r16 : w6.cell? ⟨w.heap.size + 1, 1, none⟩ = some (.int .i64 0) := hB6.cell 1
       have fr06 := hB6.frozen 0
       have fr16 := hB6.frozen 1
       have zR6 := hB6.lt
       go_wp2
       go_roundw
       case rel => exact ⟨b + 1, Blk.eq (bS hB) (by rfl), HV2, bF (by omega) hB9, bF (by first|omega|simp) hB3, bF (by first|omega|simp) hB6, xC (by omega) (xT hxr hx6), by omega, by omega⟩
       case measure => rw [cnum_blk1 HBS.out.1]; exact cnum_lt1 (a := b + 1) (z := .int .i64 a) (t := 36) (Blk.eq (bS hB) (by rfl)) (by omega)
      | false =>
       rw [hq] at HSA
       have HHI := hI (HV.out.hi (hi_stop HEX.out hlb HV.out.at (.inr hq)))
       clear hq
       go_wp2_with fail
       refine (HSA.out _ xR).mono ?_
       rintro e w6 ⟨rfl, hx6⟩
       have hs6 := hx6.size
       have hB : Blk w6 (w2.heap.size + 1) 36 _ := HBS.out.1.ext hx6
       have hB9 : Blk w6 (w2.heap.size) 57 _ := HBS.out.2.1.ext hx6
       have hB3 : Blk w6 w.heap.size 27 _ := HBS.out.2.2.1.ext hx6
       have hB6 : Blk w6 (w.heap.size + 1) 36 _ := HBS.out.2.2.2.ext hx6
       have y06 : w6.cell? ⟨w2.heap.size + 1, 0, none⟩ = some (.int .i64 a) := hB.cell 0
       have y16 : w6.cell? ⟨w2.heap.size + 1, 1, none⟩ = some (.int .i64 b) := hB.cell 1
       have f06 := hB.frozen 0
       have f16 := hB.frozen 1
       have zB6 := hB.lt
       have p06 : w6.cell? ⟨w2.heap.size, 0, none⟩ = some (.string s0) := hB9.cell 0
       have p16 : w6.cell? ⟨w2.heap.size, 1, none⟩ = some (.int .i64 s1) := hB9.cell 1
       have p26 : w6.cell? ⟨w2.heap.size, 2, none⟩ = some (.int .i64 s2) := hB9.cell 2
       have p36 : w6.cell? ⟨w2.heap.size, 3, none⟩ = some (.int .i64 s3) := hB9.cell 3
       have p46 : w6.cell? ⟨w2.heap.size, 4, none⟩ = some (.slice s4 s5 s6) := hB9.cell 4
       have t06 : w6.cell? ⟨w.heap.size, 0, none⟩ = some (.slice A n c) := hB3.cell 0
       have t16 : w6.cell? ⟨w.heap.size, 1, none⟩ = some (.slice A' m c') := hB3.cell 1
       have r06 : w6.cell? ⟨w.heap.size + 1, 0, none⟩ = some (.int .i64 0) := hB6.cell 0
       have r16 : w6.cell? ⟨w.heap.size + 1, 1, none⟩ = some (.int .i64 0) := hB6.cell 1
       have fr06 := hB6.frozen 0
       have fr16 := hB6.frozen 1
       have zR6 := hB6.lt
       go_wp2
       refine ret_pts1 (b0 := w.heap.size + 1) (t := 36) (v := .tuple #[.agg #[.int .i64 a, .int .i64 b], .int .i64 0]) (Blk.eq (bS (bS hB6)) (by rfl)) rfl (by intro W' r0 r1; simp [results, Tryz.results9, go_sem, r0, r1]) ?_
       exact ⟨by rw [HA.out, HZ.out, HLO.out, HHI.out], xC (by omega) (xC (by omega) (xT (xT hX2 hxr) hx6))⟩
     ·have HHI := hI (HV.out.hi (hi_stop HEX.out hlb HV.out.at (.inl (by rw [← HE3.out]; exact hgt2))))
      have hB := HBS.out.1
      have hB9 := HBS.out.2.1
      have hB3 := HBS.out.2.2.1
      have hB6 := HBS.out.2.2.2
      go_wp2
      refine ret_pts1 (b0 := w.heap.size + 1) (t := 36) (v := .tuple #[.agg #[.int .i64 a, .int .i64 b], .int .i64 0]) (Blk.eq (bS (bS hB6)) (by rfl)) rfl (by intro W' r0 r1; simp [results, Tryz.results9, go_sem, r0, r1]) ?_
      exact ⟨by rw [HA.out, HZ.out, HLO.out, HHI.out], xC (by omega) (xC (by omega) (xT hX2 hxr))⟩
 ·have e1 : ssA (psD ps) L x y = 0 := by unfold ssA; rw [if_neg hz]
  have e2 : ssZ (psD ps) L x y = 0 := by unfold ssZ; rw [if_neg hz]
  rw [e1, e2]
  generalize ssC (psD ps) L x true y = cd at *
  have hcd : (cd != 0) = true := by simpa using hz
  clear h hm hx e1 e2
  generalize tx x = sx at *
  go_enter Tryz.func9, Tryz.ntmps9
  go_wp2_with fail
  refine (HC.out _ (xA (xA xR))).mono ?_
  rintro e w1 ⟨rfl, hx1⟩
  obtain ⟨hc1, hf1⟩ := hx1.rules
  have hs1 := hx1.size
  (try simp at hs1)
  have := (show w.heap.size < w1.heap.size from by omega)
  have := (show w.heap.size + 1 < w1.heap.size from by omega)
  go_wp2
  refine ret_pts1 (b0 := w.heap.size + 1) (t := 36) (v := .tuple #[.agg #[.int .i64 0, .int .i64 0], .int .i64 cd]) (Blk.eq (bS (bS (bE hx1 (bN (by first|omega|simp))))) (by rfl)) rfl (by intro W' r0 r1; simp [results, Tryz.results9, go_sem, r0, r1]) ?_
  exact ⟨rfl, xC (by omega) (xC (by omega) (xT (xA (xA xR)) hx1))⟩
end
section
variable {w : World} {A A' : Option Addr} {n c m c' : Nat} {ps : List Pl} {L : List Lk}
set_option maxRecDepth 20000 in
set_option maxHeartbeats 25600000 in
theorem s_SteadySpanW (x : List UInt8) (y : Int) (h : WIn w A A' n c m c' ps L) (hx : x.length ≤ 1048576) :
  Calls Tryz.prog 10 #[.agg #[.slice A n c, .slice A' m c'], .string (tx x), .int .i64 y] w fun e w' => e = .returned (.tuple #[.agg #[.int .i64 (ssA (psD ps) L x y), .int .i64 (ssZ (psD ps) L x y)], .int .i64 (ssC (psD ps) L x true y)]) ∧ Ext w w' := by
 have HC := hI (fun W (hW : Ext w W) => s_l14Code x y (h.ext hW) hx)
 by_cases hp : plC (psD ps) L x true y = 0
 ·obtain ⟨hw, _, _, _, hs⟩ := plC_zero hp
  rw [hp] at HC
  have hsy : exB ((fndP (psD ps) x).getD pdD) y = true → ssC (psD ps) L x true y = 0 := ssC_yes hp
  have hsn : exB ((fndP (psD ps) x).getD pdD) y = false → ssC (psD ps) L x true y = 5 := ssC_no hp
  have hsa : ssC (psD ps) L x true y = 0 → ssA (psD ps) L x y = loS (sbP ((fndP (psD ps) x).getD pdD) L y) y := fun hz => by unfold ssA; rw [if_pos hz]
  have hsz : ssC (psD ps) L x true y = 0 → ssZ (psD ps) L x y = hiS (sbP ((fndP (psD ps) x).getD pdD) L y) y := fun hz => by unfold ssZ; rw [if_pos hz]
  have hna : ¬ ssC (psD ps) L x true y = 0 → ssA (psD ps) L x y = 0 := fun hz => by unfold ssA; rw [if_neg hz]
  have hnz : ¬ ssC (psD ps) L x true y = 0 → ssZ (psD ps) L x y = 0 := fun hz => by unfold ssZ; rw [if_neg hz]
  clear hp
  obtain ⟨k, hk1, hk2, hk3, hk4⟩ := fnd_some hs
  rw [psD_len] at hk2
  rw [psD_at hk2] at hk3
  have hln : n ≤ 1048576 := by rw [h.hn]; exact h.hl
  have HF := hI (fun W (hW : Ext w W) => s_l11Find A n c ps x W (h.sq.ext hW) h.hn hln)
  rw [hk1] at HF
  have hgd : (fndP (psD ps) x).getD pdD = pdOf (ps.getD k plD) := by rw [hk3]; rfl
  have HI0 : IsP w (pdOf (ps.getD k plD)) (.agg #[.string (tx (ps.getD k plD).1), .int .i64 (ps.getD k plD).2.1, .int .i64 (ps.getD k plD).2.2.1, .int .i64 (ps.getD k plD).2.2.2.1, .slice (ps.getD k plD).2.2.2.2.1 (ps.getD k plD).2.2.2.2.2.2.length (ps.getD k plD).2.2.2.2.2.1]) := isP_at h hw hk2
  obtain ⟨bb, off, hA, hb, d0, d1, d2, d3, d4⟩ := h.sq.pl hk2
  subst hA
  have hkn : k < n := by rw [h.hn]; exact hk2
  have hk0 : (0 : Int) ≤ (k : Int) := by omega
  have hlm : m ≤ 1048576 := by rw [h.hm]; exact h.hl'
  rw [hgd] at hsy hsn hsa hsz
  have HSK := hI h.sk
  have HHM := hI h.hm
  clear hk1 hk3 hk4 hgd hk2
  generalize pdOf (ps.getD k plD) = d at *
  generalize tx (ps.getD k plD).1 = s0 at *
  generalize (ps.getD k plD).2.1 = s1 at *
  generalize (ps.getD k plD).2.2.1 = s2 at *
  generalize (ps.getD k plD).2.2.2.1 = s3 at *
  generalize (ps.getD k plD).2.2.2.2.1 = s4 at *
  generalize (ps.getD k plD).2.2.2.2.2.2.length = s5 at *
  generalize (ps.getD k plD).2.2.2.2.2.1 = s6 at *
  have HX := hI (fun z W => HI0.ex z W)
  have HKR : Hid (∀ W, Ext w W → W.cell? ⟨bb, off + k * 5, none⟩ = some (.string s0) ∧ W.cell? ⟨bb, off + k * 5 + 1, none⟩ = some (.int .i64 s1) ∧ W.cell? ⟨bb, off + k * 5 + 2, none⟩ = some (.int .i64 s2) ∧ W.cell? ⟨bb, off + k * 5 + 3, none⟩ = some (.int .i64 s3) ∧ W.cell? ⟨bb, off + k * 5 + 4, none⟩ = some (.slice s4 s5 s6)) := hI (fun W hW => ⟨(hW.cell _ _ hb).trans d0, (hW.cell _ _ hb).trans d1, (hW.cell _ _ hb).trans d2, (hW.cell _ _ hb).trans d3, (hW.cell _ _ hb).trans d4⟩)
  have HI := hI HI0
  obtain ⟨e2, e3, e9⟩ := HI0.yrs
  have HE2 := hI e2
  have HE3 := hI e3
  clear d0 d1 d2 d3 d4 HI0 e9 e2 e3
  have HSM := hI (fun W (hW : Ext w W) a b => (HI.out.ext hW).same (A := some ⟨bb, off, none⟩) (n := n) (c := c) (c' := c') (HSK.out.ext hW) HHM.out hlm a b)
  generalize tx x = sx at *
  clear h hw hs hx
  cases he : exB d y with
  | false =>
   have HR1 := hI (hsn he)
   have HR2 := hI (hna (by rw [HR1.out]; omega))
   have HR3 := hI (hnz (by rw [HR1.out]; omega))
   rw [HR1.out, HR2.out, HR3.out]
   have HXA := hI (fun W => HX.out y W)
   rw [he] at HXA
   clear hsy hsn hsa hsz hna hnz he HR1 HR2 HR3
   go_enter Tryz.func10, Tryz.ntmps10
   go_wp2_with fail
   refine (HC.out _ (xA (xA xR))).mono ?_
   rintro e w1 ⟨rfl, hx1⟩
   obtain ⟨hc1, hf1⟩ := hx1.rules
   have hs1 := hx1.size
   (try simp at hs1)
   have := (show w.heap.size < w1.heap.size from by omega)
   have := (show w.heap.size + 1 < w1.heap.size from by omega)
   have HBX : Hid (Blk w1 w.heap.size 27 #[.slice (some ⟨bb, off, none⟩) n c, .slice A' m c']) := hI (Blk.eq (bE hx1 (bA (bN (by omega)))) (by rfl))
   have HB6 : Hid (Blk w1 (w.heap.size + 1) 36 #[.int .i64 0, .int .i64 0]) := hI (Blk.eq (bE hx1 (bN (by first|omega|simp))) (by rfl))
   have HX1 : Hid (Ext w w1) := hI (xT (xA (xA xR)) hx1)
   clear hc1 hf1
   have HKC : Hid (∀ W, Ext w1 W → W.cell? ⟨w.heap.size, 0, none⟩ = some (.slice (some ⟨bb, off, none⟩) n c) ∧ W.cell? ⟨w.heap.size, 1, none⟩ = some (.slice A' m c') ∧ W.cell? ⟨bb, off + k * 5, none⟩ = some (.string s0) ∧ W.cell? ⟨bb, off + k * 5 + 1, none⟩ = some (.int .i64 s1) ∧ W.cell? ⟨bb, off + k * 5 + 2, none⟩ = some (.int .i64 s2) ∧ W.cell? ⟨bb, off + k * 5 + 3, none⟩ = some (.int .i64 s3) ∧ W.cell? ⟨bb, off + k * 5 + 4, none⟩ = some (.slice s4 s5 s6)) := hI (fun W hW => ⟨(HBX.out.ext hW).cell 0, (HBX.out.ext hW).cell 1, HKR.out W (HX1.out.trans hW)⟩)
   have hX1 := HX1.out
   go_upto_region 4 with (fail)
   go_cut [9] (fun p wx => ∃ b9 : Nat, p = .pointer (some ⟨b9, 0, none⟩) ∧ Blk wx b9 57 #[.string s0, .int .i64 s1, .int .i64 s2, .int .i64 s3, .slice s4 s5 s6] ∧ Ext w1 wx)
   case first =>
    obtain ⟨k1, k2, k3, k4, k5, k6, k7⟩ := HKC.out w1 (Ext.refl _)
    go_region_held3 (fun w' => w'.cell? ⟨w.heap.size, 0, none⟩ = some (.slice (some ⟨bb, off, none⟩) n c) ∧ w'.cell? ⟨w.heap.size, 1, none⟩ = some (.slice A' m c') ∧ w'.cell? ⟨bb, off + k * 5, none⟩ = some (.string s0) ∧ w'.cell? ⟨bb, off + k * 5 + 1, none⟩ = some (.int .i64 s1) ∧ w'.cell? ⟨bb, off + k * 5 + 2, none⟩ = some (.int .i64 s2) ∧ w'.cell? ⟨bb, off + k * 5 + 3, none⟩ = some (.int .i64 s3) ∧ w'.cell? ⟨bb, off + k * 5 + 4, none⟩ = some (.slice s4 s5 s6)) (first | exact HKC.out _ (by with_reducible first|exact xD xR|exact xD (xA xR)) | go_keep) ((go_at_call 27; refine (HF.out _ (by with_reducible first|exact xD hX1|exact xD (xA hX1))).mono ?_; rintro e w7 ⟨rfl, rfl⟩))
    all_goals (go_wp2_with fail; go_meet; exact ⟨_, rfl, Blk.eq (bD (bN (by omega))) (by rfl), xD (xA xR)⟩)
   case rest =>
   obtain ⟨b9, rfl, hB9, hxc⟩ := hcut
   have p0 : wc.cell? ⟨b9, 0, none⟩ = some (.string s0) := hB9.cell 0
   have p1 : wc.cell? ⟨b9, 1, none⟩ = some (.int .i64 s1) := hB9.cell 1
   have p2 : wc.cell? ⟨b9, 2, none⟩ = some (.int .i64 s2) := hB9.cell 2
   have p3 : wc.cell? ⟨b9, 3, none⟩ = some (.int .i64 s3) := hB9.cell 3
   have p4 : wc.cell? ⟨b9, 4, none⟩ = some (.slice s4 s5 s6) := hB9.cell 4
   go_wp2_with fail
   refine (HXA.out _).mono ?_
   rintro e w6 ⟨rfl, hx6⟩
   have hB6 : Blk w6 (w.heap.size + 1) 36 #[.int .i64 0, .int .i64 0] := HB6.out.ext (xT hxc hx6)
   have r0 := hB6.cell 0
   have r1 := hB6.cell 1
   have fr0 := hB6.frozen 0
   have fr1 := hB6.frozen 1
   simp only [List.getElem?_toArray, List.getElem?_cons_zero, List.getElem?_cons_succ] at r0 r1
   have z6 := hB6.lt
   go_wp2
   refine ret_pts1 (b0 := w.heap.size + 1) (t := 36) (v := .tuple #[.agg #[.int .i64 0, .int .i64 0], .int .i64 5]) (Blk.eq (bS (bS hB6)) (by rfl)) rfl (by intro W' r0 r1; simp [results, Tryz.results10, go_sem, r0, r1]) ?_
   exact ⟨rfl, xC (by omega) (xC (by omega) (xT (xT hX1 hxc) hx6))⟩
  | true =>
   have HR1 := hI (hsy he)
   have HA := hI (hsa HR1.out)
   have HZ := hI (hsz HR1.out)
   rw [HR1.out]
   have HXY := hI (fun W => HX.out y W)
   rw [he] at HXY
   obtain ⟨he1, he2⟩ := exB_iff.1 he
   have hbb : -3000 ≤ s2 ∧ s3 ≤ 3000 := by
    rw [HE2.out, HE3.out]
    obtain ⟨p, _, _, g3, _⟩ := HI.out
    obtain ⟨a1, a2, a3⟩ := plB_sp g3
    exact ⟨a1, a3⟩
   obtain ⟨hb1, hb2⟩ := hbb
   rw [← HE2.out] at he1
   rw [← HE3.out] at he2
   have HEX := hI he
   generalize ssA (psD ps) L x y = rA at *
   generalize ssZ (psD ps) L x y = rZ at *
   clear hsy hsn hsa hsz hna hnz he HR1
   go_enter Tryz.func10, Tryz.ntmps10
   go_wp2_with fail
   refine (HC.out _ (xA (xA xR))).mono ?_
   rintro e w1 ⟨rfl, hx1⟩
   obtain ⟨hc1, hf1⟩ := hx1.rules
   have hs1 := hx1.size
   (try simp at hs1)
   have := (show w.heap.size < w1.heap.size from by omega)
   have := (show w.heap.size + 1 < w1.heap.size from by omega)
   have HBX : Hid (Blk w1 w.heap.size 27 #[.slice (some ⟨bb, off, none⟩) n c, .slice A' m c']) := hI (Blk.eq (bE hx1 (bA (bN (by omega)))) (by rfl))
   have HB6 : Hid (Blk w1 (w.heap.size + 1) 36 #[.int .i64 0, .int .i64 0]) := hI (Blk.eq (bE hx1 (bN (by first|omega|simp))) (by rfl))
   have HX1 : Hid (Ext w w1) := hI (xT (xA (xA xR)) hx1)
   clear hc1 hf1
   have HKC : Hid (∀ W, Ext w1 W → W.cell? ⟨w.heap.size, 0, none⟩ = some (.slice (some ⟨bb, off, none⟩) n c) ∧ W.cell? ⟨w.heap.size, 1, none⟩ = some (.slice A' m c') ∧ W.cell? ⟨bb, off + k * 5, none⟩ = some (.string s0) ∧ W.cell? ⟨bb, off + k * 5 + 1, none⟩ = some (.int .i64 s1) ∧ W.cell? ⟨bb, off + k * 5 + 2, none⟩ = some (.int .i64 s2) ∧ W.cell? ⟨bb, off + k * 5 + 3, none⟩ = some (.int .i64 s3) ∧ W.cell? ⟨bb, off + k * 5 + 4, none⟩ = some (.slice s4 s5 s6)) := hI (fun W hW => ⟨(HBX.out.ext hW).cell 0, (HBX.out.ext hW).cell 1, HKR.out W (HX1.out.trans hW)⟩)
   have hX1 := HX1.out
   go_upto_region 4 with (fail)
   go_cut [9] (fun p wx => ∃ b9 : Nat, p = .pointer (some ⟨b9, 0, none⟩) ∧ Blk wx b9 57 #[.string s0, .int .i64 s1, .int .i64 s2, .int .i64 s3, .slice s4 s5 s6] ∧ Ext w1 wx)
   case first =>
    obtain ⟨k1, k2, k3, k4, k5, k6, k7⟩ := HKC.out w1 (Ext.refl _)
    go_region_held3 (fun w' => w'.cell? ⟨w.heap.size, 0, none⟩ = some (.slice (some ⟨bb, off, none⟩) n c) ∧ w'.cell? ⟨w.heap.size, 1, none⟩ = some (.slice A' m c') ∧ w'.cell? ⟨bb, off + k * 5, none⟩ = some (.string s0) ∧ w'.cell? ⟨bb, off + k * 5 + 1, none⟩ = some (.int .i64 s1) ∧ w'.cell? ⟨bb, off + k * 5 + 2, none⟩ = some (.int .i64 s2) ∧ w'.cell? ⟨bb, off + k * 5 + 3, none⟩ = some (.int .i64 s3) ∧ w'.cell? ⟨bb, off + k * 5 + 4, none⟩ = some (.slice s4 s5 s6)) (first | exact HKC.out _ (by with_reducible first|exact xD xR|exact xD (xA xR)) | go_keep) ((go_at_call 27; refine (HF.out _ (by with_reducible first|exact xD hX1|exact xD (xA hX1))).mono ?_; rintro e w7 ⟨rfl, rfl⟩))
    all_goals (go_wp2_with fail; go_meet; exact ⟨_, rfl, Blk.eq (bD (bN (by omega))) (by rfl), xD (xA xR)⟩)
   case rest =>
   obtain ⟨b9, rfl, hB9, hxc⟩ := hcut
   have p0 : wc.cell? ⟨b9, 0, none⟩ = some (.string s0) := hB9.cell 0
   have p1 : wc.cell? ⟨b9, 1, none⟩ = some (.int .i64 s1) := hB9.cell 1
   have p2 : wc.cell? ⟨b9, 2, none⟩ = some (.int .i64 s2) := hB9.cell 2
   have p3 : wc.cell? ⟨b9, 3, none⟩ = some (.int .i64 s3) := hB9.cell 3
   have p4 : wc.cell? ⟨b9, 4, none⟩ = some (.slice s4 s5 s6) := hB9.cell 4
   have HB9 := hI hB9
   have z9c := hB9.lt
   have HXC := hI hxc
   clear hB9
   go_wp2_with fail
   refine (HXY.out _).mono ?_
   rintro e w2 ⟨rfl, hx2⟩
   have B9 : Blk w2 b9 57 #[.string s0, .int .i64 s1, .int .i64 s2, .int .i64 s3, .slice s4 s5 s6] := HB9.out.ext hx2
   have hx12 : Ext w1 w2 := HXC.out.trans hx2
   have B3 : Blk w2 w.heap.size 27 #[.slice (some ⟨bb, off, none⟩) n c, .slice A' m c'] := HBX.out.ext hx12
   have B6 : Blk w2 (w.heap.size + 1) 36 #[.int .i64 0, .int .i64 0] := HB6.out.ext hx12
   have hX2 : Ext w w2 := HX1.out.trans hx12
   have HX2 := hI hX2
   have z3 := B3.lt
   have z6 := B6.lt
   have z9 := B9.lt
   clear p0 p1 p2 p3 p4 hx2 hx12 hxc hX1 hx1 hs1
   go_wp2
   go_loopw [] (fun wr => ∃ a : Int, Blk wr (w2.heap.size) 36 #[.int .i64 a, .int .i64 y] ∧ Hid (UpS d L y a) ∧ Blk wr b9 57 #[.string s0, .int .i64 s1, .int .i64 s2, .int .i64 s3, .slice s4 s5 s6] ∧ Blk wr w.heap.size 27 #[.slice (some ⟨bb, off, none⟩) n c, .slice A' m c'] ∧ Blk wr (w.heap.size + 1) 36 #[.int .i64 0, .int .i64 0] ∧ Ext w2 wr ∧ s2 ≤ a ∧ a ≤ y) (fun wr => (cnum wr (w2.heap.size) 0 - s2).toNat)
   case atStart => exact ⟨y, Blk.eq (bN (by omega)) (by rfl), hI (UpS.start HEX.out), bA B9, bA B3, bA B6, xA xR, he1, Int.le_refl _⟩
   case round =>
    clear B3 B6 B9
    obtain ⟨a, hB, HU, hB9, hB3, hB6, hxr, hla, hay⟩ := hrel
    obtain ⟨w5, rfl⟩ : ∃ x, x = wr := ⟨wr, rfl⟩
    have y0 : w5.cell? ⟨w2.heap.size, 0, none⟩ = some (.int .i64 a) := hB.cell 0
    have y1 : w5.cell? ⟨w2.heap.size, 1, none⟩ = some (.int .i64 y) := hB.cell 1
    have f0 := hB.frozen 0
    have f1 := hB.frozen 1
    have p0 : w5.cell? ⟨b9, 0, none⟩ = some (.string s0) := hB9.cell 0
    have p1 : w5.cell? ⟨b9, 1, none⟩ = some (.int .i64 s1) := hB9.cell 1
    have p2 : w5.cell? ⟨b9, 2, none⟩ = some (.int .i64 s2) := hB9.cell 2
    have p3 : w5.cell? ⟨b9, 3, none⟩ = some (.int .i64 s3) := hB9.cell 3
    have p4 : w5.cell? ⟨b9, 4, none⟩ = some (.slice s4 s5 s6) := hB9.cell 4
    have t0 : w5.cell? ⟨w.heap.size, 0, none⟩ = some (.slice (some ⟨bb, off, none⟩) n c) := hB3.cell 0
    have t1 : w5.cell? ⟨w.heap.size, 1, none⟩ = some (.slice A' m c') := hB3.cell 1
    have r0 : w5.cell? ⟨w.heap.size + 1, 0, none⟩ = some (.int .i64 0) := hB6.cell 0
    have r1 : w5.cell? ⟨w.heap.size + 1, 1, none⟩ = some (.int .i64 0) := hB6.cell 1
    have fr0 := hB6.frozen 0
    have fr1 := hB6.frozen 1
    have zB := hB.lt
    have z9 := hB9.lt
    have z3r := hB3.lt
    have z6r := hB6.lt
    have HBS := hI (And.intro hB (And.intro hB9 (And.intro hB3 hB6)))
    clear hB hB9 hB3 hB6
    have hwr : IntKind.i64.wrap (a - 1) = a - 1 := IntWalk.i64_in _ (by omega)
    cases hx8 : exB d (a - 1) with
    | false =>
     have HLO := hI (HU.out.lo (sbP_ex hx8))
     have HXA := hI (fun W => HX.out (a - 1) W)
     rw [hx8] at HXA
     go_wp2_with fail
     refine (HXA.out _).mono ?_
     rintro e w6 ⟨rfl, hx6⟩
     have hs6 := hx6.size
     have hB : Blk w6 (w2.heap.size) 36 _ := HBS.out.1.ext hx6
     have hB9 : Blk w6 (b9) 57 _ := HBS.out.2.1.ext hx6
     have hB3 : Blk w6 w.heap.size 27 _ := HBS.out.2.2.1.ext hx6
     have hB6 : Blk w6 (w.heap.size + 1) 36 _ := HBS.out.2.2.2.ext hx6
     have y06 : w6.cell? ⟨w2.heap.size, 0, none⟩ = some (.int .i64 a) := hB.cell 0
     have y16 : w6.cell? ⟨w2.heap.size, 1, none⟩ = some (.int .i64 y) := hB.cell 1
     have f06 := hB.frozen 0
     have f16 := hB.frozen 1
     have zB6 := hB.lt
     have p06 : w6.cell? ⟨b9, 0, none⟩ = some (.string s0) := hB9.cell 0
     have p16 : w6.cell? ⟨b9, 1, none⟩ = some (.int .i64 s1) := hB9.cell 1
     have p26 : w6.cell? ⟨b9, 2, none⟩ = some (.int .i64 s2) := hB9.cell 2
     have p36 : w6.cell? ⟨b9, 3, none⟩ = some (.int .i64 s3) := hB9.cell 3
     have p46 : w6.cell? ⟨b9, 4, none⟩ = some (.slice s4 s5 s6) := hB9.cell 4
     have t06 : w6.cell? ⟨w.heap.size, 0, none⟩ = some (.slice (some ⟨bb, off, none⟩) n c) := hB3.cell 0
     have t16 : w6.cell? ⟨w.heap.size, 1, none⟩ = some (.slice A' m c') := hB3.cell 1
     have r06 : w6.cell? ⟨w.heap.size + 1, 0, none⟩ = some (.int .i64 0) := hB6.cell 0
     have r16 : w6.cell? ⟨w.heap.size + 1, 1, none⟩ = some (.int .i64 0) := hB6.cell 1
     have fr06 := hB6.frozen 0
     have fr16 := hB6.frozen 1
     have zR6 := hB6.lt
     clear hx8
     have HBS2 := hI (And.intro hB (And.intro hB9 (And.intro hB3 hB6)))
     have hx26 : Ext w2 w6 := hxr.trans hx6
     clear hB hB9 hB3 hB6 HBS HU y0 y1 f0 f1 p0 p1 p2 p3 p4 t0 t1 r0 r1 fr0 fr1 zB z9 z3r z6r hxr hx6 hs6 HXA
     have hB := HBS2.out.1
     have hB9 := HBS2.out.2.1
     have hB3 := HBS2.out.2.2.1
     have hB6 := HBS2.out.2.2.2
     go_wp2
     go_loopw [] (fun wr => ∃ b : Int, Blk wr (w2.heap.size) 36 #[.int .i64 a, .int .i64 b] ∧ Hid (DnS d L y b) ∧ Blk wr b9 57 #[.string s0, .int .i64 s1, .int .i64 s2, .int .i64 s3, .slice s4 s5 s6] ∧ Blk wr w.heap.size 27 #[.slice (some ⟨bb, off, none⟩) n c, .slice A' m c'] ∧ Blk wr (w.heap.size + 1) 36 #[.int .i64 0, .int .i64 0] ∧ Ext w2 wr ∧ y ≤ b ∧ b ≤ s3) (fun wr => (s3 - cnum wr (w2.heap.size) 1).toNat)
     case atStart => exact ⟨y, hB, hI (DnS.start HEX.out), hB9, hB3, hB6, hx26, Int.le_refl _, he2⟩
     case round =>
      clear hB hB9 hB3 hB6
      obtain ⟨b, hB, HV, hB9, hB3, hB6, hxr, hlb, hby⟩ := hrel
      obtain ⟨w5, rfl⟩ : ∃ x, x = wr := ⟨wr, rfl⟩
      have y0 : w5.cell? ⟨w2.heap.size, 0, none⟩ = some (.int .i64 a) := hB.cell 0
      have y1 : w5.cell? ⟨w2.heap.size, 1, none⟩ = some (.int .i64 b) := hB.cell 1
      have f0 := hB.frozen 0
      have f1 := hB.frozen 1
      have p0 : w5.cell? ⟨b9, 0, none⟩ = some (.string s0) := hB9.cell 0
      have p1 : w5.cell? ⟨b9, 1, none⟩ = some (.int .i64 s1) := hB9.cell 1
      have p2 : w5.cell? ⟨b9, 2, none⟩ = some (.int .i64 s2) := hB9.cell 2
      have p3 : w5.cell? ⟨b9, 3, none⟩ = some (.int .i64 s3) := hB9.cell 3
      have p4 : w5.cell? ⟨b9, 4, none⟩ = some (.slice s4 s5 s6) := hB9.cell 4
      have t0 : w5.cell? ⟨w.heap.size, 0, none⟩ = some (.slice (some ⟨bb, off, none⟩) n c) := hB3.cell 0
      have t1 : w5.cell? ⟨w.heap.size, 1, none⟩ = some (.slice A' m c') := hB3.cell 1
      have r0 : w5.cell? ⟨w.heap.size + 1, 0, none⟩ = some (.int .i64 0) := hB6.cell 0
      have r1 : w5.cell? ⟨w.heap.size + 1, 1, none⟩ = some (.int .i64 0) := hB6.cell 1
      have fr0 := hB6.frozen 0
      have fr1 := hB6.frozen 1
      have zB := hB.lt
      have z9 := hB9.lt
      have z3r := hB3.lt
      have z6r := hB6.lt
      have HBS := hI (And.intro hB (And.intro hB9 (And.intro hB3 hB6)))
      clear hB hB9 hB3 hB6
      have hwr2 : IntKind.i64.wrap (b + 1) = b + 1 := IntWalk.i64_in _ (by omega)
      cases hx8 : exB d (b + 1) with
      | false =>
       have HHI := hI (HV.out.hi (sbP_ex hx8))
       have HXA := hI (fun W => HX.out (b + 1) W)
       rw [hx8] at HXA
       go_wp2_with fail
       refine (HXA.out _).mono ?_
       rintro e w6 ⟨rfl, hx6⟩
       have hs6 := hx6.size
       have hB : Blk w6 (w2.heap.size) 36 _ := HBS.out.1.ext hx6
       have hB9 : Blk w6 (b9) 57 _ := HBS.out.2.1.ext hx6
       have hB3 : Blk w6 w.heap.size 27 _ := HBS.out.2.2.1.ext hx6
       have hB6 : Blk w6 (w.heap.size + 1) 36 _ := HBS.out.2.2.2.ext hx6
       have y06 : w6.cell? ⟨w2.heap.size, 0, none⟩ = some (.int .i64 a) := hB.cell 0
       have y16 : w6.cell? ⟨w2.heap.size, 1, none⟩ = some (.int .i64 b) := hB.cell 1
       have f06 := hB.frozen 0
       have f16 := hB.frozen 1
       have zB6 := hB.lt
       have p06 : w6.cell? ⟨b9, 0, none⟩ = some (.string s0) := hB9.cell 0
       have p16 : w6.cell? ⟨b9, 1, none⟩ = some (.int .i64 s1) := hB9.cell 1
       have p26 : w6.cell? ⟨b9, 2, none⟩ = some (.int .i64 s2) := hB9.cell 2
       have p36 : w6.cell? ⟨b9, 3, none⟩ = some (.int .i64 s3) := hB9.cell 3
       have p46 : w6.cell? ⟨b9, 4, none⟩ = some (.slice s4 s5 s6) := hB9.cell 4
       have t06 : w6.cell? ⟨w.heap.size, 0, none⟩ = some (.slice (some ⟨bb, off, none⟩) n c) := hB3.cell 0
       have t16 : w6.cell? ⟨w.heap.size, 1, none⟩ = some (.slice A' m c') := hB3.cell 1
       have r06 : w6.cell? ⟨w.heap.size + 1, 0, none⟩ = some (.int .i64 0) := hB6.cell 0
       have r16 : w6.cell? ⟨w.heap.size + 1, 1, none⟩ = some (.int .i64 0) := hB6.cell 1
       have fr06 := hB6.frozen 0
       have fr16 := hB6.frozen 1
       have zR6 := hB6.lt
       clear hx8
       go_wp2
       refine ret_pts1 (b0 := w.heap.size + 1) (t := 36) (v := .tuple #[.agg #[.int .i64 a, .int .i64 b], .int .i64 0]) (Blk.eq (bS (bS hB6)) (by rfl)) rfl (by intro W' r0 r1; simp [results, Tryz.results10, go_sem, r0, r1]) ?_
       exact ⟨by rw [HA.out, HZ.out, HLO.out, HHI.out], xC (by omega) (xC (by omega) (xT (xT hX2 hxr) hx6))⟩
      | true =>
       have hb8 : b + 1 ≤ s3 := by rw [HE3.out]; exact (exB_iff.1 hx8).2
       have HXA := hI (fun W => HX.out (b + 1) W)
       rw [hx8] at HXA
       go_wp2_with fail
       refine (HXA.out _).mono ?_
       rintro e w6 ⟨rfl, hx6⟩
       have hs6 := hx6.size
       have hB : Blk w6 (w2.heap.size) 36 _ := HBS.out.1.ext hx6
       have hB9 : Blk w6 (b9) 57 _ := HBS.out.2.1.ext hx6
       have hB3 : Blk w6 w.heap.size 27 _ := HBS.out.2.2.1.ext hx6
       have hB6 : Blk w6 (w.heap.size + 1) 36 _ := HBS.out.2.2.2.ext hx6
       have y06 : w6.cell? ⟨w2.heap.size, 0, none⟩ = some (.int .i64 a) := hB.cell 0
       have y16 : w6.cell? ⟨w2.heap.size, 1, none⟩ = some (.int .i64 b) := hB.cell 1
       have f06 := hB.frozen 0
       have f16 := hB.frozen 1
       have zB6 := hB.lt
       have p06 : w6.cell? ⟨b9, 0, none⟩ = some (.string s0) := hB9.cell 0
       have p16 : w6.cell? ⟨b9, 1, none⟩ = some (.int .i64 s1) := hB9.cell 1
       have p26 : w6.cell? ⟨b9, 2, none⟩ = some (.int .i64 s2) := hB9.cell 2
       have p36 : w6.cell? ⟨b9, 3, none⟩ = some (.int .i64 s3) := hB9.cell 3
       have p46 : w6.cell? ⟨b9, 4, none⟩ = some (.slice s4 s5 s6) := hB9.cell 4
       have t06 : w6.cell? ⟨w.heap.size, 0, none⟩ = some (.slice (some ⟨bb, off, none⟩) n c) := hB3.cell 0
       have t16 : w6.cell? ⟨w.heap.size, 1, none⟩ = some (.slice A' m c') := hB3.cell 1
       have r06 : w6.cell? ⟨w.heap.size + 1, 0, none⟩ = some (.int .i64 0) := hB6.cell 0
       have r16 : w6.cell? ⟨w.heap.size + 1, 1, none⟩ = some (.int .i64 0) := hB6.cell 1
       have fr06 := hB6.frozen 0
       have fr16 := hB6.frozen 1
       have zR6 := hB6.lt
       cases hq : stB d L y (b + 1) with
       | false =>
        have HHI := hI (HV.out.hi (by rw [sbP_stB hx8, stB_symm]; exact hq))
        clear hx8
        have HMA := hI (fun W (hW : Ext w W) => HSM.out W hW y (b + 1))
        rw [hq] at HMA
        go_wp2_with fail
        refine (HMA.out _ (HX2.out.trans (hxr.trans hx6))).mono ?_
        rintro e w7 ⟨rfl, hx7⟩
        clear hB hB9 hB3 hB6
        have hs7 := hx7.size
        have hB : Blk w7 (w2.heap.size) 36 _ := HBS.out.1.ext (xT hx6 hx7)
        have hB9 : Blk w7 (b9) 57 _ := HBS.out.2.1.ext (xT hx6 hx7)
        have hB3 : Blk w7 w.heap.size 27 _ := HBS.out.2.2.1.ext (xT hx6 hx7)
        have hB6 : Blk w7 (w.heap.size + 1) 36 _ := HBS.out.2.2.2.ext (xT hx6 hx7)
        have y07 : w7.cell? ⟨w2.heap.size, 0, none⟩ = some (.int .i64 a) := hB.cell 0
        have y17 : w7.cell? ⟨w2.heap.size, 1, none⟩ = some (.int .i64 b) := hB.cell 1
        have f07 := hB.frozen 0
        have f17 := hB.frozen 1
        have zB7 := hB.lt
        have p07 : w7.cell? ⟨b9, 0, none⟩ = some (.string s0) := hB9.cell 0
        have p17 : w7.cell? ⟨b9, 1, none⟩ = some (.int .i64 s1) := hB9.cell 1
        have p27 : w7.cell? ⟨b9, 2, none⟩ = some (.int .i64 s2) := hB9.cell 2
        have p37 : w7.cell? ⟨b9, 3, none⟩ = some (.int .i64 s3) := hB9.cell 3
        have p47 : w7.cell? ⟨b9, 4, none⟩ = some (.slice s4 s5 s6) := hB9.cell 4
        have t07 : w7.cell? ⟨w.heap.size, 0, none⟩ = some (.slice (some ⟨bb, off, none⟩) n c) := hB3.cell 0
        have t17 : w7.cell? ⟨w.heap.size, 1, none⟩ = some (.slice A' m c') := hB3.cell 1
        have r07 : w7.cell? ⟨w.heap.size + 1, 0, none⟩ = some (.int .i64 0) := hB6.cell 0
        have r17 : w7.cell? ⟨w.heap.size + 1, 1, none⟩ = some (.int .i64 0) := hB6.cell 1
        have fr07 := hB6.frozen 0
        have fr17 := hB6.frozen 1
        have zR7 := hB6.lt
        clear hq
        go_wp2
        refine ret_pts1 (b0 := w.heap.size + 1) (t := 36) (v := .tuple #[.agg #[.int .i64 a, .int .i64 b], .int .i64 0]) (Blk.eq (bS (bS hB6)) (by rfl)) rfl (by intro W' r0 r1; simp [results, Tryz.results10, go_sem, r0, r1]) ?_
        exact ⟨by rw [HA.out, HZ.out, HLO.out, HHI.out], xC (by omega) (xC (by omega) (xT (xT (xT hX2 hxr) hx6) hx7))⟩
       | true =>
        have HV2 := hI (HV.out.step (by rw [sbP_stB hx8, stB_symm]; exact hq))
        clear hx8
        have HMA := hI (fun W (hW : Ext w W) => HSM.out W hW y (b + 1))
        rw [hq] at HMA
        go_wp2_with fail
        refine (HMA.out _ (HX2.out.trans (hxr.trans hx6))).mono ?_
        rintro e w7 ⟨rfl, hx7⟩
        clear hB hB9 hB3 hB6
        have hs7 := hx7.size
        have hB : Blk w7 (w2.heap.size) 36 _ := HBS.out.1.ext (xT hx6 hx7)
        have hB9 : Blk w7 (b9) 57 _ := HBS.out.2.1.ext (xT hx6 hx7)
        have hB3 : Blk w7 w.heap.size 27 _ := HBS.out.2.2.1.ext (xT hx6 hx7)
        have hB6 : Blk w7 (w.heap.size + 1) 36 _ := HBS.out.2.2.2.ext (xT hx6 hx7)
        have y07 : w7.cell? ⟨w2.heap.size, 0, none⟩ = some (.int .i64 a) := hB.cell 0
        have y17 : w7.cell? ⟨w2.heap.size, 1, none⟩ = some (.int .i64 b) := hB.cell 1
        have f07 := hB.frozen 0
        have f17 := hB.frozen 1
        have zB7 := hB.lt
        have p07 : w7.cell? ⟨b9, 0, none⟩ = some (.string s0) := hB9.cell 0
        have p17 : w7.cell? ⟨b9, 1, none⟩ = some (.int .i64 s1) := hB9.cell 1
        have p27 : w7.cell? ⟨b9, 2, none⟩ = some (.int .i64 s2) := hB9.cell 2
        have p37 : w7.cell? ⟨b9, 3, none⟩ = some (.int .i64 s3) := hB9.cell 3
        have p47 : w7.cell? ⟨b9, 4, none⟩ = some (.slice s4 s5 s6) := hB9.cell 4
        have t07 : w7.cell? ⟨w.heap.size, 0, none⟩ = some (.slice (some ⟨bb, off, none⟩) n c) := hB3.cell 0
        have t17 : w7.cell? ⟨w.heap.size, 1, none⟩ = some (.slice A' m c') := hB3.cell 1
        have r07 : w7.cell? ⟨w.heap.size + 1, 0, none⟩ = some (.int .i64 0) := hB6.cell 0
        have r17 : w7.cell? ⟨w.heap.size + 1, 1, none⟩ = some (.int .i64 0) := hB6.cell 1
        have fr07 := hB6.frozen 0
        have fr17 := hB6.frozen 1
        have zR7 := hB6.lt
        clear hq
        go_wp2
        go_roundw
        case rel => exact ⟨b + 1, Blk.eq (bS hB) (by rfl), HV2, bF (by first|omega|simp) hB9, bF (by first|omega|simp) hB3, bF (by first|omega|simp) hB6, xC (by omega) (xT (xT hxr hx6) hx7), by omega, by omega⟩
        case measure => rw [cnum_blk1 HBS.out.1]; exact cnum_lt1 (a := b + 1) (z := .int .i64 a) (t := 36) (Blk.eq (bS hB) (by rfl)) (by omega)
    | true =>
     have hb8 : s2 ≤ a - 1 := by rw [HE2.out]; exact (exB_iff.1 hx8).1
     have HXA := hI (fun W => HX.out (a - 1) W)
     rw [hx8] at HXA
     go_wp2_with fail
     refine (HXA.out _).mono ?_
     rintro e w6 ⟨rfl, hx6⟩
     have hs6 := hx6.size
     have hB : Blk w6 (w2.heap.size) 36 _ := HBS.out.1.ext hx6
     have hB9 : Blk w6 (b9) 57 _ := HBS.out.2.1.ext hx6
     have hB3 : Blk w6 w.heap.size 27 _ := HBS.out.2.2.1.ext hx6
     have hB6 : Blk w6 (w.heap.size + 1) 36 _ := HBS.out.2.2.2.ext hx6
     have y06 : w6.cell? ⟨w2.heap.size, 0, none⟩ = some (.int .i64 a) := hB.cell 0
     have y16 : w6.cell? ⟨w2.heap.size, 1, none⟩ = some (.int .i64 y) := hB.cell 1
     have f06 := hB.frozen 0
     have f16 := hB.frozen 1
     have zB6 := hB.lt
     have p06 : w6.cell? ⟨b9, 0, none⟩ = some (.string s0) := hB9.cell 0
     have p16 : w6.cell? ⟨b9, 1, none⟩ = some (.int .i64 s1) := hB9.cell 1
     have p26 : w6.cell? ⟨b9, 2, none⟩ = some (.int .i64 s2) := hB9.cell 2
     have p36 : w6.cell? ⟨b9, 3, none⟩ = some (.int .i64 s3) := hB9.cell 3
     have p46 : w6.cell? ⟨b9, 4, none⟩ = some (.slice s4 s5 s6) := hB9.cell 4
     have t06 : w6.cell? ⟨w.heap.size, 0, none⟩ = some (.slice (some ⟨bb, off, none⟩) n c) := hB3.cell 0
     have t16 : w6.cell? ⟨w.heap.size, 1, none⟩ = some (.slice A' m c') := hB3.cell 1
     have r06 : w6.cell? ⟨w.heap.size + 1, 0, none⟩ = some (.int .i64 0) := hB6.cell 0
     have r16 : w6.cell? ⟨w.heap.size + 1, 1, none⟩ = some (.int .i64 0) := hB6.cell 1
     have fr06 := hB6.frozen 0
     have fr16 := hB6.frozen 1
     have zR6 := hB6.lt
     cases hq : stB d L (a - 1) y with
     | false =>
      have HLO := hI (HU.out.lo (by rw [sbP_stB hx8]; exact hq))
      clear hx8
      have HMA := hI (fun W (hW : Ext w W) => HSM.out W hW (a - 1) y)
      rw [hq] at HMA
      go_wp2_with fail
      refine (HMA.out _ (HX2.out.trans (hxr.trans hx6))).mono ?_
      rintro e w7 ⟨rfl, hx7⟩
      clear hB hB9 hB3 hB6
      have hs7 := hx7.size
      have hB : Blk w7 (w2.heap.size) 36 _ := HBS.out.1.ext (xT hx6 hx7)
      have hB9 : Blk w7 (b9) 57 _ := HBS.out.2.1.ext (xT hx6 hx7)
      have hB3 : Blk w7 w.heap.size 27 _ := HBS.out.2.2.1.ext (xT hx6 hx7)
      have hB6 : Blk w7 (w.heap.size + 1) 36 _ := HBS.out.2.2.2.ext (xT hx6 hx7)
      have y07 : w7.cell? ⟨w2.heap.size, 0, none⟩ = some (.int .i64 a) := hB.cell 0
      have y17 : w7.cell? ⟨w2.heap.size, 1, none⟩ = some (.int .i64 y) := hB.cell 1
      have f07 := hB.frozen 0
      have f17 := hB.frozen 1
      have zB7 := hB.lt
      have p07 : w7.cell? ⟨b9, 0, none⟩ = some (.string s0) := hB9.cell 0
      have p17 : w7.cell? ⟨b9, 1, none⟩ = some (.int .i64 s1) := hB9.cell 1
      have p27 : w7.cell? ⟨b9, 2, none⟩ = some (.int .i64 s2) := hB9.cell 2
      have p37 : w7.cell? ⟨b9, 3, none⟩ = some (.int .i64 s3) := hB9.cell 3
      have p47 : w7.cell? ⟨b9, 4, none⟩ = some (.slice s4 s5 s6) := hB9.cell 4
      have t07 : w7.cell? ⟨w.heap.size, 0, none⟩ = some (.slice (some ⟨bb, off, none⟩) n c) := hB3.cell 0
      have t17 : w7.cell? ⟨w.heap.size, 1, none⟩ = some (.slice A' m c') := hB3.cell 1
      have r07 : w7.cell? ⟨w.heap.size + 1, 0, none⟩ = some (.int .i64 0) := hB6.cell 0
      have r17 : w7.cell? ⟨w.heap.size + 1, 1, none⟩ = some (.int .i64 0) := hB6.cell 1
      have fr07 := hB6.frozen 0
      have fr17 := hB6.frozen 1
      have zR7 := hB6.lt
      clear hq
      have HBS2 := hI (And.intro hB (And.intro hB9 (And.intro hB3 hB6)))
      have hx27 : Ext w2 w7 := (hxr.trans hx6).trans hx7
      clear hB hB9 hB3 hB6 HBS HU y0 y1 f0 f1 p0 p1 p2 p3 p4 t0 t1 r0 r1 fr0 fr1 zB z9 z3r z6r hxr hx6 hs6 HXA y06 y16 f06 f16 zB6 p06 p16 p26 p36 p46 t06 t16 r06 r16 fr06 fr16 zR6 hx7 hs7 HMA
      have hB := HBS2.out.1
      have hB9 := HBS2.out.2.1
      have hB3 := HBS2.out.2.2.1
      have hB6 := HBS2.out.2.2.2
      go_wp2
      go_loopw [] (fun wr => ∃ b : Int, Blk wr (w2.heap.size) 36 #[.int .i64 a, .int .i64 b] ∧ Hid (DnS d L y b) ∧ Blk wr b9 57 #[.string s0, .int .i64 s1, .int .i64 s2, .int .i64 s3, .slice s4 s5 s6] ∧ Blk wr w.heap.size 27 #[.slice (some ⟨bb, off, none⟩) n c, .slice A' m c'] ∧ Blk wr (w.heap.size + 1) 36 #[.int .i64 0, .int .i64 0] ∧ Ext w2 wr ∧ y ≤ b ∧ b ≤ s3) (fun wr => (s3 - cnum wr (w2.heap.size) 1).toNat)
      case atStart => exact ⟨y, hB, hI (DnS.start HEX.out), hB9, hB3, hB6, hx27, Int.le_refl _, he2⟩
      case round =>
       clear hB hB9 hB3 hB6
       obtain ⟨b, hB, HV, hB9, hB3, hB6, hxr, hlb, hby⟩ := hrel
       obtain ⟨w5, rfl⟩ : ∃ x, x = wr := ⟨wr, rfl⟩
       have y0 : w5.cell? ⟨w2.heap.size, 0, none⟩ = some (.int .i64 a) := hB.cell 0
       have y1 : w5.cell? ⟨w2.heap.size, 1, none⟩ = some (.int .i64 b) := hB.cell 1
       have f0 := hB.frozen 0
       have f1 := hB.frozen 1
       have p0 : w5.cell? ⟨b9, 0, none⟩ = some (.string s0) := hB9.cell 0
       have p1 : w5.cell? ⟨b9, 1, none⟩ = some (.int .i64 s1) := hB9.cell 1
       have p2 : w5.cell? ⟨b9, 2, none⟩ = some (.int .i64 s2) := hB9.cell 2
       have p3 : w5.cell? ⟨b9, 3, none⟩ = some (.int .i64 s3) := hB9.cell 3
       have p4 : w5.cell? ⟨b9, 4, none⟩ = some (.slice s4 s5 s6) := hB9.cell 4
       have t0 : w5.cell? ⟨w.heap.size, 0, none⟩ = some (.slice (some ⟨bb, off, none⟩) n c) := hB3.cell 0
       have t1 : w5.cell? ⟨w.heap.size, 1, none⟩ = some (.slice A' m c') := hB3.cell 1
       have r0 : w5.cell? ⟨w.heap.size + 1, 0, none⟩ = some (.int .i64 0) := hB6.cell 0
       have r1 : w5.cell? ⟨w.heap.size + 1, 1, none⟩ = some (.int .i64 0) := hB6.cell 1
       have fr0 := hB6.frozen 0
       have fr1 := hB6.frozen 1
       have zB := hB.lt
       have z9 := hB9.lt
       have z3r := hB3.lt
       have z6r := hB6.lt
       have HBS := hI (And.intro hB (And.intro hB9 (And.intro hB3 hB6)))
       clear hB hB9 hB3 hB6
       have hwr2 : IntKind.i64.wrap (b + 1) = b + 1 := IntWalk.i64_in _ (by omega)
       cases hx8 : exB d (b + 1) with
       | false =>
        have HHI := hI (HV.out.hi (sbP_ex hx8))
        have HXA := hI (fun W => HX.out (b + 1) W)
        rw [hx8] at HXA
        go_wp2_with fail
        refine (HXA.out _).mono ?_
        rintro e w6 ⟨rfl, hx6⟩
        have hs6 := hx6.size
        have hB : Blk w6 (w2.heap.size) 36 _ := HBS.out.1.ext hx6
        have hB9 : Blk w6 (b9) 57 _ := HBS.out.2.1.ext hx6
        have hB3 : Blk w6 w.heap.size 27 _ := HBS.out.2.2.1.ext hx6
        have hB6 : Blk w6 (w.heap.size + 1) 36 _ := HBS.out.2.2.2.ext hx6
        have y06 : w6.cell? ⟨w2.heap.size, 0, none⟩ = some (.int .i64 a) := hB.cell 0
        have y16 : w6.cell? ⟨w2.heap.size, 1, none⟩ = some (.int .i64 b) := hB.cell 1
        have f06 := hB.frozen 0
        have f16 := hB.frozen 1
        have zB6 := hB.lt
        have p06 : w6.cell? ⟨b9, 0, none⟩ = some (.string s0) := hB9.cell 0
        have p16 : w6.cell? ⟨b9, 1, none⟩ = some (.int .i64 s1) := hB9.cell 1
        have p26 : w6.cell? ⟨b9, 2, none⟩ = some (.int .i64 s2) := hB9.cell 2
        have p36 : w6.cell? ⟨b9, 3, none⟩ = some (.int .i64 s3) := hB9.cell 3
        have p46 : w6.cell? ⟨b9, 4, none⟩ = some (.slice s4 s5 s6) := hB9.cell 4
        have t06 : w6.cell? ⟨w.heap.size, 0, none⟩ = some (.slice (some ⟨bb, off, none⟩) n c) := hB3.cell 0
        have t16 : w6.cell? ⟨w.heap.size, 1, none⟩ = some (.slice A' m c') := hB3.cell 1
        have r06 : w6.cell? ⟨w.heap.size + 1, 0, none⟩ = some (.int .i64 0) := hB6.cell 0
        have r16 : w6.cell? ⟨w.heap.size + 1, 1, none⟩ = some (.int .i64 0) := hB6.cell 1
        have fr06 := hB6.frozen 0
        have fr16 := hB6.frozen 1
        have zR6 := hB6.lt
        clear hx8
        go_wp2
        refine ret_pts1 (b0 := w.heap.size + 1) (t := 36) (v := .tuple #[.agg #[.int .i64 a, .int .i64 b], .int .i64 0]) (Blk.eq (bS (bS hB6)) (by rfl)) rfl (by intro W' r0 r1; simp [results, Tryz.results10, go_sem, r0, r1]) ?_
        exact ⟨by rw [HA.out, HZ.out, HLO.out, HHI.out], xC (by omega) (xC (by omega) (xT (xT hX2 hxr) hx6))⟩
       | true =>
        have hb8 : b + 1 ≤ s3 := by rw [HE3.out]; exact (exB_iff.1 hx8).2
        have HXA := hI (fun W => HX.out (b + 1) W)
        rw [hx8] at HXA
        go_wp2_with fail
        refine (HXA.out _).mono ?_
        rintro e w6 ⟨rfl, hx6⟩
        have hs6 := hx6.size
        have hB : Blk w6 (w2.heap.size) 36 _ := HBS.out.1.ext hx6
        have hB9 : Blk w6 (b9) 57 _ := HBS.out.2.1.ext hx6
        have hB3 : Blk w6 w.heap.size 27 _ := HBS.out.2.2.1.ext hx6
        have hB6 : Blk w6 (w.heap.size + 1) 36 _ := HBS.out.2.2.2.ext hx6
        have y06 : w6.cell? ⟨w2.heap.size, 0, none⟩ = some (.int .i64 a) := hB.cell 0
        have y16 : w6.cell? ⟨w2.heap.size, 1, none⟩ = some (.int .i64 b) := hB.cell 1
        have f06 := hB.frozen 0
        have f16 := hB.frozen 1
        have zB6 := hB.lt
        have p06 : w6.cell? ⟨b9, 0, none⟩ = some (.string s0) := hB9.cell 0
        have p16 : w6.cell? ⟨b9, 1, none⟩ = some (.int .i64 s1) := hB9.cell 1
        have p26 : w6.cell? ⟨b9, 2, none⟩ = some (.int .i64 s2) := hB9.cell 2
        have p36 : w6.cell? ⟨b9, 3, none⟩ = some (.int .i64 s3) := hB9.cell 3
        have p46 : w6.cell? ⟨b9, 4, none⟩ = some (.slice s4 s5 s6) := hB9.cell 4
        have t06 : w6.cell? ⟨w.heap.size, 0, none⟩ = some (.slice (some ⟨bb, off, none⟩) n c) := hB3.cell 0
        have t16 : w6.cell? ⟨w.heap.size, 1, none⟩ = some (.slice A' m c') := hB3.cell 1
        have r06 : w6.cell? ⟨w.heap.size + 1, 0, none⟩ = some (.int .i64 0) := hB6.cell 0
        have r16 : w6.cell? ⟨w.heap.size + 1, 1, none⟩ = some (.int .i64 0) := hB6.cell 1
        have fr06 := hB6.frozen 0
        have fr16 := hB6.frozen 1
        have zR6 := hB6.lt
        cases hq : stB d L y (b + 1) with
        | false =>
         have HHI := hI (HV.out.hi (by rw [sbP_stB hx8, stB_symm]; exact hq))
         clear hx8
         have HMA := hI (fun W (hW : Ext w W) => HSM.out W hW y (b + 1))
         rw [hq] at HMA
         go_wp2_with fail
         refine (HMA.out _ (HX2.out.trans (hxr.trans hx6))).mono ?_
         rintro e w7 ⟨rfl, hx7⟩
         clear hB hB9 hB3 hB6
         have hs7 := hx7.size
         have hB : Blk w7 (w2.heap.size) 36 _ := HBS.out.1.ext (xT hx6 hx7)
         have hB9 : Blk w7 (b9) 57 _ := HBS.out.2.1.ext (xT hx6 hx7)
         have hB3 : Blk w7 w.heap.size 27 _ := HBS.out.2.2.1.ext (xT hx6 hx7)
         have hB6 : Blk w7 (w.heap.size + 1) 36 _ := HBS.out.2.2.2.ext (xT hx6 hx7)
         have y07 : w7.cell? ⟨w2.heap.size, 0, none⟩ = some (.int .i64 a) := hB.cell 0
         have y17 : w7.cell? ⟨w2.heap.size, 1, none⟩ = some (.int .i64 b) := hB.cell 1
         have f07 := hB.frozen 0
         have f17 := hB.frozen 1
         have zB7 := hB.lt
         have p07 : w7.cell? ⟨b9, 0, none⟩ = some (.string s0) := hB9.cell 0
         have p17 : w7.cell? ⟨b9, 1, none⟩ = some (.int .i64 s1) := hB9.cell 1
         have p27 : w7.cell? ⟨b9, 2, none⟩ = some (.int .i64 s2) := hB9.cell 2
         have p37 : w7.cell? ⟨b9, 3, none⟩ = some (.int .i64 s3) := hB9.cell 3
         have p47 : w7.cell? ⟨b9, 4, none⟩ = some (.slice s4 s5 s6) := hB9.cell 4
         have t07 : w7.cell? ⟨w.heap.size, 0, none⟩ = some (.slice (some ⟨bb, off, none⟩) n c) := hB3.cell 0
         have t17 : w7.cell? ⟨w.heap.size, 1, none⟩ = some (.slice A' m c') := hB3.cell 1
         have r07 : w7.cell? ⟨w.heap.size + 1, 0, none⟩ = some (.int .i64 0) := hB6.cell 0
         have r17 : w7.cell? ⟨w.heap.size + 1, 1, none⟩ = some (.int .i64 0) := hB6.cell 1
         have fr07 := hB6.frozen 0
         have fr17 := hB6.frozen 1
         have zR7 := hB6.lt
         clear hq
         go_wp2
         refine ret_pts1 (b0 := w.heap.size + 1) (t := 36) (v := .tuple #[.agg #[.int .i64 a, .int .i64 b], .int .i64 0]) (Blk.eq (bS (bS hB6)) (by rfl)) rfl (by intro W' r0 r1; simp [results, Tryz.results10, go_sem, r0, r1]) ?_
         exact ⟨by rw [HA.out, HZ.out, HLO.out, HHI.out], xC (by omega) (xC (by omega) (xT (xT (xT hX2 hxr) hx6) hx7))⟩
        | true =>
         have HV2 := hI (HV.out.step (by rw [sbP_stB hx8, stB_symm]; exact hq))
         clear hx8
         have HMA := hI (fun W (hW : Ext w W) => HSM.out W hW y (b + 1))
         rw [hq] at HMA
         go_wp2_with fail
         refine (HMA.out _ (HX2.out.trans (hxr.trans hx6))).mono ?_
         rintro e w7 ⟨rfl, hx7⟩
         clear hB hB9 hB3 hB6
         have hs7 := hx7.size
         have hB : Blk w7 (w2.heap.size) 36 _ := HBS.out.1.ext (xT hx6 hx7)
         have hB9 : Blk w7 (b9) 57 _ := HBS.out.2.1.ext (xT hx6 hx7)
         have hB3 : Blk w7 w.heap.size 27 _ := HBS.out.2.2.1.ext (xT hx6 hx7)
         have hB6 : Blk w7 (w.heap.size + 1) 36 _ := HBS.out.2.2.2.ext (xT hx6 hx7)
         have y07 : w7.cell? ⟨w2.heap.size, 0, none⟩ = some (.int .i64 a) := hB.cell 0
         have y17 : w7.cell? ⟨w2.heap.size, 1, none⟩ = some (.int .i64 b) := hB.cell 1
         have f07 := hB.frozen 0
         have f17 := hB.frozen 1
         have zB7 := hB.lt
         have p07 : w7.cell? ⟨b9, 0, none⟩ = some (.string s0) := hB9.cell 0
         have p17 : w7.cell? ⟨b9, 1, none⟩ = some (.int .i64 s1) := hB9.cell 1
         have p27 : w7.cell? ⟨b9, 2, none⟩ = some (.int .i64 s2) := hB9.cell 2
         have p37 : w7.cell? ⟨b9, 3, none⟩ = some (.int .i64 s3) := hB9.cell 3
         have p47 : w7.cell? ⟨b9, 4, none⟩ = some (.slice s4 s5 s6) := hB9.cell 4
         have t07 : w7.cell? ⟨w.heap.size, 0, none⟩ = some (.slice (some ⟨bb, off, none⟩) n c) := hB3.cell 0
         have t17 : w7.cell? ⟨w.heap.size, 1, none⟩ = some (.slice A' m c') := hB3.cell 1
         have r07 : w7.cell? ⟨w.heap.size + 1, 0, none⟩ = some (.int .i64 0) := hB6.cell 0
         have r17 : w7.cell? ⟨w.heap.size + 1, 1, none⟩ = some (.int .i64 0) := hB6.cell 1
         have fr07 := hB6.frozen 0
         have fr17 := hB6.frozen 1
         have zR7 := hB6.lt
         clear hq
         go_wp2
         go_roundw
         case rel => exact ⟨b + 1, Blk.eq (bS hB) (by rfl), HV2, bF (by first|omega|simp) hB9, bF (by first|omega|simp) hB3, bF (by first|omega|simp) hB6, xC (by omega) (xT (xT hxr hx6) hx7), by omega, by omega⟩
         case measure => rw [cnum_blk1 HBS.out.1]; exact cnum_lt1 (a := b + 1) (z := .int .i64 a) (t := 36) (Blk.eq (bS hB) (by rfl)) (by omega)
     | true =>
      have HU2 := hI (HU.out.step (by rw [sbP_stB hx8]; exact hq))
      clear hx8
      have HMA := hI (fun W (hW : Ext w W) => HSM.out W hW (a - 1) y)
      rw [hq] at HMA
      go_wp2_with fail
      refine (HMA.out _ (HX2.out.trans (hxr.trans hx6))).mono ?_
      rintro e w7 ⟨rfl, hx7⟩
      clear hB hB9 hB3 hB6
      have hs7 := hx7.size
      have hB : Blk w7 (w2.heap.size) 36 _ := HBS.out.1.ext (xT hx6 hx7)
      have hB9 : Blk w7 (b9) 57 _ := HBS.out.2.1.ext (xT hx6 hx7)
      have hB3 : Blk w7 w.heap.size 27 _ := HBS.out.2.2.1.ext (xT hx6 hx7)
      have hB6 : Blk w7 (w.heap.size + 1) 36 _ := HBS.out.2.2.2.ext (xT hx6 hx7)
      have y07 : w7.cell? ⟨w2.heap.size, 0, none⟩ = some (.int .i64 a) := hB.cell 0
      have y17 : w7.cell? ⟨w2.heap.size, 1, none⟩ = some (.int .i64 y) := hB.cell 1
      have f07 := hB.frozen 0
      have f17 := hB.frozen 1
      have zB7 := hB.lt
      have p07 : w7.cell? ⟨b9, 0, none⟩ = some (.string s0) := hB9.cell 0
      have p17 : w7.cell? ⟨b9, 1, none⟩ = some (.int .i64 s1) := hB9.cell 1
      have p27 : w7.cell? ⟨b9, 2, none⟩ = some (.int .i64 s2) := hB9.cell 2
      have p37 : w7.cell? ⟨b9, 3, none⟩ = some (.int .i64 s3) := hB9.cell 3
      have p47 : w7.cell? ⟨b9, 4, none⟩ = some (.slice s4 s5 s6) := hB9.cell 4
      have t07 : w7.cell? ⟨w.heap.size, 0, none⟩ = some (.slice (some ⟨bb, off, none⟩) n c) := hB3.cell 0
      have t17 : w7.cell? ⟨w.heap.size, 1, none⟩ = some (.slice A' m c') := hB3.cell 1
      have r07 : w7.cell? ⟨w.heap.size + 1, 0, none⟩ = some (.int .i64 0) := hB6.cell 0
      have r17 : w7.cell? ⟨w.heap.size + 1, 1, none⟩ = some (.int .i64 0) := hB6.cell 1
      have fr07 := hB6.frozen 0
      have fr17 := hB6.frozen 1
      have zR7 := hB6.lt
      clear hq
      go_wp2
      go_roundw
      case rel => exact ⟨a - 1, Blk.eq (bS hB) (by rfl), HU2, bF (by first|omega|simp) hB9, bF (by first|omega|simp) hB3, bF (by first|omega|simp) hB6, xC (by omega) (xT (xT hxr hx6) hx7), by omega, by omega⟩
      case measure => rw [cnum_blk0 HBS.out.1]; exact cnum_lt0 (a := a - 1) (z := .int .i64 y) (t := 36) (Blk.eq (bS hB) (by rfl)) (by omega)
 ·have hz : ¬ ssC (psD ps) L x true y = 0 := fun q => hp (ssC_zero q).1
  have e1 : ssA (psD ps) L x y = 0 := by unfold ssA; rw [if_neg hz]
  have e2 : ssZ (psD ps) L x y = 0 := by unfold ssZ; rw [if_neg hz]
  rw [e1, e2, ssC_ne hp]
  generalize plC (psD ps) L x true y = cd at *
  have hcd : (cd != 0) = true := by simpa using hp
  clear h hx e1 e2 hz
  generalize tx x = sx at *
  go_enter Tryz.func10, Tryz.ntmps10
  go_wp2_with fail
  refine (HC.out _ (xA (xA xR))).mono ?_
  rintro e w1 ⟨rfl, hx1⟩
  obtain ⟨hc1, hf1⟩ := hx1.rules
  have hs1 := hx1.size
  (try simp at hs1)
  have := (show w.heap.size < w1.heap.size from by omega)
  have := (show w.heap.size + 1 < w1.heap.size from by omega)
  go_wp2
  refine ret_pts1 (b0 := w.heap.size + 1) (t := 36) (v := .tuple #[.agg #[.int .i64 0, .int .i64 0], .int .i64 cd]) (Blk.eq (bS (bS (bE hx1 (bN (by first|omega|simp))))) (by rfl)) rfl (by intro W' r0 r1; simp [results, Tryz.results10, go_sem, r0, r1]) ?_
  exact ⟨rfl, xC (by omega) (xC (by omega) (xT (xA (xA xR)) hx1))⟩
end
end Go.Proofs.YtlnliajnipniaaaGreatDoor
