/- Contracts of the draws: more points, walked over the translation. -/
import Derived.Test.YthhkmkhilnglkaaJ
import Derived.Deep.RegionHeld3
import Derived.Deep.DeepCutAuto
import Derived.RegionTactic
import Derived.BigRegion
import Derived.WalkLawsBesides
import Derived.WalkSpells
import Derived.Lib.MinMax
import Derived.Outline
namespace Go.Proofs.Ythhkmkhilnglkaa
open Go.RowKit
attribute [local go_sem] ExtOf.cell ExtOf.frozen








set_option maxHeartbeats 6400000 in
theorem s_DrawIsOn (A : Option Addr) (c : Nat) (bs : List Int) (w : World) (h : SlAt w 1 encB A bs) (hb : ∀ b ∈ bs, 0 ≤ b ∧ b ≤ 255) (hl : bs.length ≤ 4096) :
    Calls Try.prog 36 #[.slice A bs.length c] w fun e w' => ∃ p q r : Int × Int, e = .returned (.tuple #[.agg #[.int .i64 p.1, .int .i64 p.2], .agg #[.int .i64 q.1, .int .i64 q.2], .agg #[.int .i64 r.1, .int .i64 r.2]]) ∧ Ext w w' := by
  have HB := Lib.hid hb
  clear hb
  go_enter Try.func36, Try.ntmps36
  go_wp2_with fail
  refine (s_l01From _ _ bs _ (h.ext (by (repeat (first | with_reducible exact Ext.refl _ | with_reducible assumption | ((with_reducible apply Src.ext); with_reducible assumption) | with_reducible refine Ext.alloc ?_ _ | with_reducible refine Ext.drew ?_ | with_reducible refine Ext.drewN ?_ _ | ((with_reducible refine Ext.setCell' ?_ ?_ _); solve | omega | simp | (simp; omega)) | (with_reducible refine Ext.trans ?_ (by with_reducible assumption)))))) HB.out hl).mono ?_
  rintro e w0 ⟨g, rfl, hS0⟩
  have hx0 := hS0.ext
  obtain ⟨hg, hgl⟩ := src_facts hS0
  have hs0 := hx0.size
  simp at hg hs0
  have B00 : Blk w0 w.heap.size 33 #[.int .i64 0, .int .i64 0] := Blk.eq (by (repeat (first | with_reducible assumption | ((with_reducible apply Blk.new); solve | simp | rfl) | with_reducible apply Blk.drew | with_reducible apply Blk.drewN | ((with_reducible apply Blk.far'); solve | omega | simp | (simp; omega)) | with_reducible apply Blk.set_ | with_reducible apply Blk.alloc | ((with_reducible apply Blk.ext'); with_reducible assumption) | ((with_reducible apply Blk.but'); (with_reducible assumption); solve | omega | (simp; omega))))) (by rfl)
  have B01 : Blk w0 (w.heap.size + 1) 33 #[.int .i64 0, .int .i64 0] := Blk.eq (by (repeat (first | with_reducible assumption | ((with_reducible apply Blk.new); solve | simp | rfl) | with_reducible apply Blk.drew | with_reducible apply Blk.drewN | ((with_reducible apply Blk.far'); solve | omega | simp | (simp; omega)) | with_reducible apply Blk.set_ | with_reducible apply Blk.alloc | ((with_reducible apply Blk.ext'); with_reducible assumption) | ((with_reducible apply Blk.but'); (with_reducible assumption); solve | omega | (simp; omega))))) (by rfl)
  have B02 : Blk w0 (w.heap.size + 1 + 1) 33 #[.int .i64 0, .int .i64 0] := Blk.eq (by (repeat (first | with_reducible assumption | ((with_reducible apply Blk.new); solve | simp | rfl) | with_reducible apply Blk.drew | with_reducible apply Blk.drewN | ((with_reducible apply Blk.far'); solve | omega | simp | (simp; omega)) | with_reducible apply Blk.set_ | with_reducible apply Blk.alloc | ((with_reducible apply Blk.ext'); with_reducible assumption) | ((with_reducible apply Blk.but'); (with_reducible assumption); solve | omega | (simp; omega))))) (by rfl)
  have hSw : Src w A c bs g w0 := hS0.base (by (repeat (first | with_reducible exact Ext.refl _ | with_reducible assumption | ((with_reducible apply Src.ext); with_reducible assumption) | with_reducible refine Ext.alloc ?_ _ | with_reducible refine Ext.drew ?_ | with_reducible refine Ext.drewN ?_ _ | ((with_reducible refine Ext.setCell' ?_ ?_ _); solve | omega | simp | (simp; omega)) | (with_reducible refine Ext.trans ?_ (by with_reducible assumption))))) h
  clear hS0
  have hxw : Ext w w0 := hSw.ext
  have HX := Lib.hid hxw
  clear hxw hx0
  go_wp2_with fail
  refine (s_DrawTurnOf _ _ bs _ (h.ext HX.out) HB.out hl).mono ?_
  rintro e w1 ⟨x1, x2, x3, rfl, hx1⟩
  have hs1 := hx1.size
  have hSv : Src w A c bs g w1 := hSw.on hx1
  have B10 : Blk w1 w.heap.size 33 #[.int .i64 0, .int .i64 0] := B00.ext hx1
  have B11 : Blk w1 (w.heap.size + 1) 33 #[.int .i64 0, .int .i64 0] := B01.ext hx1
  have B12 : Blk w1 (w.heap.size + 1 + 1) 33 #[.int .i64 0, .int .i64 0] := B02.ext hx1
  have : ¬ w.heap.size = w.heap.size + 1 := by omega
  have : ¬ w.heap.size = w.heap.size + 1 + 1 := by omega
  have : ¬ w.heap.size = w1.heap.size := by omega
  have : ¬ w.heap.size = w1.heap.size + 1 := by omega
  have : ¬ w.heap.size = w1.heap.size + 1 + 1 := by omega
  have : ¬ w.heap.size = g := by omega
  have : ¬ w.heap.size + 1 = w.heap.size := by omega
  have : ¬ w.heap.size + 1 = w.heap.size + 1 + 1 := by omega
  have : ¬ w.heap.size + 1 = w1.heap.size := by omega
  have : ¬ w.heap.size + 1 = w1.heap.size + 1 := by omega
  have : ¬ w.heap.size + 1 = w1.heap.size + 1 + 1 := by omega
  have : ¬ w.heap.size + 1 = g := by omega
  have : ¬ w.heap.size + 1 + 1 = w.heap.size := by omega
  have : ¬ w.heap.size + 1 + 1 = w.heap.size + 1 := by omega
  have : ¬ w.heap.size + 1 + 1 = w1.heap.size := by omega
  have : ¬ w.heap.size + 1 + 1 = w1.heap.size + 1 := by omega
  have : ¬ w.heap.size + 1 + 1 = w1.heap.size + 1 + 1 := by omega
  have : ¬ w.heap.size + 1 + 1 = g := by omega
  have : ¬ w1.heap.size = w.heap.size := by omega
  have : ¬ w1.heap.size = w.heap.size + 1 := by omega
  have : ¬ w1.heap.size = w.heap.size + 1 + 1 := by omega
  have : ¬ w1.heap.size = w1.heap.size + 1 := by omega
  have : ¬ w1.heap.size = w1.heap.size + 1 + 1 := by omega
  have : ¬ w1.heap.size = g := by omega
  have : ¬ w1.heap.size + 1 = w.heap.size := by omega
  have : ¬ w1.heap.size + 1 = w.heap.size + 1 := by omega
  have : ¬ w1.heap.size + 1 = w.heap.size + 1 + 1 := by omega
  have : ¬ w1.heap.size + 1 = w1.heap.size := by omega
  have : ¬ w1.heap.size + 1 = w1.heap.size + 1 + 1 := by omega
  have : ¬ w1.heap.size + 1 = g := by omega
  have : ¬ w1.heap.size + 1 + 1 = w.heap.size := by omega
  have : ¬ w1.heap.size + 1 + 1 = w.heap.size + 1 := by omega
  have : ¬ w1.heap.size + 1 + 1 = w.heap.size + 1 + 1 := by omega
  have : ¬ w1.heap.size + 1 + 1 = w1.heap.size := by omega
  have : ¬ w1.heap.size + 1 + 1 = w1.heap.size + 1 := by omega
  have : ¬ w1.heap.size + 1 + 1 = g := by omega
  have : ¬ g = w.heap.size := by omega
  have : ¬ g = w.heap.size + 1 := by omega
  have : ¬ g = w.heap.size + 1 + 1 := by omega
  have : ¬ g = w1.heap.size := by omega
  have : ¬ g = w1.heap.size + 1 := by omega
  have : ¬ g = w1.heap.size + 1 + 1 := by omega
  (go_wp2_with fail; refine (s_l01Next (a := w) (A := A) (c := c) (bs := bs) _ _ (by (repeat (first | with_reducible assumption | with_reducible refine Src.alloc ?_ _ | with_reducible refine Src.drew ?_ | with_reducible refine Src.drewN ?_ _ | ((with_reducible refine Src.far ?_ ?_ ?_ _); (solve | omega | (simp; omega) | simp); (solve | omega | (simp; omega) | simp)) | ((with_reducible apply Src.on'); with_reducible assumption)))) (by omega)).mono ?_; rintro e w9 ⟨x9, rfl, hb9, hS9, hu9⟩; obtain ⟨hc9, hf9⟩ := hu9.rules; have hs9 := hu9.size; (try simp at hs9); have := (show w.heap.size < w9.heap.size from by omega); have := (show w.heap.size + 1 < w9.heap.size from by omega); have := (show w.heap.size + 1 + 1 < w9.heap.size from by omega); have := (show w1.heap.size < w9.heap.size from by omega); have := (show w1.heap.size + 1 < w9.heap.size from by omega); have := (show w1.heap.size + 1 + 1 < w9.heap.size from by omega); have := (show g < w9.heap.size from by omega))
  have B20 : Blk w9 w.heap.size 33 #[.int .i64 0, .int .i64 0] := Blk.eq (by (repeat (first | with_reducible assumption | ((with_reducible apply Blk.new); solve | simp | rfl) | with_reducible apply Blk.drew | with_reducible apply Blk.drewN | ((with_reducible apply Blk.far'); solve | omega | simp | (simp; omega)) | with_reducible apply Blk.set_ | with_reducible apply Blk.alloc | ((with_reducible apply Blk.ext'); with_reducible assumption) | ((with_reducible apply Blk.but'); (with_reducible assumption); solve | omega | (simp; omega))))) (by rfl)
  have f200 := B20.frozen 0
  have f201 := B20.frozen 1
  have c200 : w9.cell? ⟨w.heap.size, 0, none⟩ = some (.int .i64 0) := B20.cell 0
  have c201 : w9.cell? ⟨w.heap.size, 1, none⟩ = some (.int .i64 0) := B20.cell 1
  have B21 : Blk w9 (w.heap.size + 1) 33 #[.int .i64 0, .int .i64 0] := Blk.eq (by (repeat (first | with_reducible assumption | ((with_reducible apply Blk.new); solve | simp | rfl) | with_reducible apply Blk.drew | with_reducible apply Blk.drewN | ((with_reducible apply Blk.far'); solve | omega | simp | (simp; omega)) | with_reducible apply Blk.set_ | with_reducible apply Blk.alloc | ((with_reducible apply Blk.ext'); with_reducible assumption) | ((with_reducible apply Blk.but'); (with_reducible assumption); solve | omega | (simp; omega))))) (by rfl)
  have f210 := B21.frozen 0
  have f211 := B21.frozen 1
  have c210 : w9.cell? ⟨(w.heap.size + 1), 0, none⟩ = some (.int .i64 0) := B21.cell 0
  have c211 : w9.cell? ⟨(w.heap.size + 1), 1, none⟩ = some (.int .i64 0) := B21.cell 1
  have B22 : Blk w9 (w.heap.size + 1 + 1) 33 #[.int .i64 0, .int .i64 0] := Blk.eq (by (repeat (first | with_reducible assumption | ((with_reducible apply Blk.new); solve | simp | rfl) | with_reducible apply Blk.drew | with_reducible apply Blk.drewN | ((with_reducible apply Blk.far'); solve | omega | simp | (simp; omega)) | with_reducible apply Blk.set_ | with_reducible apply Blk.alloc | ((with_reducible apply Blk.ext'); with_reducible assumption) | ((with_reducible apply Blk.but'); (with_reducible assumption); solve | omega | (simp; omega))))) (by rfl)
  have f220 := B22.frozen 0
  have f221 := B22.frozen 1
  have c220 : w9.cell? ⟨(w.heap.size + 1 + 1), 0, none⟩ = some (.int .i64 0) := B22.cell 0
  have c221 : w9.cell? ⟨(w.heap.size + 1 + 1), 1, none⟩ = some (.int .i64 0) := B22.cell 1
  have B30 : Blk w9 w1.heap.size 33 #[.int .i64 x1.1, .int .i64 x1.2] := Blk.eq (by (repeat (first | with_reducible assumption | ((with_reducible apply Blk.new); solve | simp | rfl) | with_reducible apply Blk.drew | with_reducible apply Blk.drewN | ((with_reducible apply Blk.far'); solve | omega | simp | (simp; omega)) | with_reducible apply Blk.set_ | with_reducible apply Blk.alloc | ((with_reducible apply Blk.ext'); with_reducible assumption) | ((with_reducible apply Blk.but'); (with_reducible assumption); solve | omega | (simp; omega))))) (by rfl)
  have f300 := B30.frozen 0
  have f301 := B30.frozen 1
  have c300 : w9.cell? ⟨w1.heap.size, 0, none⟩ = some (.int .i64 x1.1) := B30.cell 0
  have c301 : w9.cell? ⟨w1.heap.size, 1, none⟩ = some (.int .i64 x1.2) := B30.cell 1
  have B31 : Blk w9 (w1.heap.size + 1) 33 #[.int .i64 x2.1, .int .i64 x2.2] := Blk.eq (by (repeat (first | with_reducible assumption | ((with_reducible apply Blk.new); solve | simp | rfl) | with_reducible apply Blk.drew | with_reducible apply Blk.drewN | ((with_reducible apply Blk.far'); solve | omega | simp | (simp; omega)) | with_reducible apply Blk.set_ | with_reducible apply Blk.alloc | ((with_reducible apply Blk.ext'); with_reducible assumption) | ((with_reducible apply Blk.but'); (with_reducible assumption); solve | omega | (simp; omega))))) (by rfl)
  have f310 := B31.frozen 0
  have f311 := B31.frozen 1
  have c310 : w9.cell? ⟨(w1.heap.size + 1), 0, none⟩ = some (.int .i64 x2.1) := B31.cell 0
  have c311 : w9.cell? ⟨(w1.heap.size + 1), 1, none⟩ = some (.int .i64 x2.2) := B31.cell 1
  have B32 : Blk w9 (w1.heap.size + 1 + 1) 33 #[.int .i64 x3.1, .int .i64 x3.2] := Blk.eq (by (repeat (first | with_reducible assumption | ((with_reducible apply Blk.new); solve | simp | rfl) | with_reducible apply Blk.drew | with_reducible apply Blk.drewN | ((with_reducible apply Blk.far'); solve | omega | simp | (simp; omega)) | with_reducible apply Blk.set_ | with_reducible apply Blk.alloc | ((with_reducible apply Blk.ext'); with_reducible assumption) | ((with_reducible apply Blk.but'); (with_reducible assumption); solve | omega | (simp; omega))))) (by rfl)
  have f320 := B32.frozen 0
  have f321 := B32.frozen 1
  have c320 : w9.cell? ⟨(w1.heap.size + 1 + 1), 0, none⟩ = some (.int .i64 x3.1) := B32.cell 0
  have c321 : w9.cell? ⟨(w1.heap.size + 1 + 1), 1, none⟩ = some (.int .i64 x3.2) := B32.cell 1
  clear hc9 hf9
  by_cases hq : x9 = 0
  · subst hq
    go_wp2
    go_region
    all_goals go_wp2
    all_goals (refine ret_pts3 (b0 := w.heap.size) (b1 := w.heap.size + 1) (b2 := w.heap.size + 1 + 1) (t := 33) (v := .tuple #[.agg #[.int .i64 x1.1, .int .i64 x1.2], .agg #[.int .i64 x2.1, .int .i64 x2.2], .agg #[.int .i64 (wrap64 ((wrap64 (x1.1 + x2.1)).tdiv 2)), .int .i64 (wrap64 ((wrap64 (x1.2 + x2.2)).tdiv 2))]]) (Blk.eq (by (repeat (first | with_reducible assumption | ((with_reducible apply Blk.new); solve | simp | rfl) | with_reducible apply Blk.drew | with_reducible apply Blk.drewN | ((with_reducible apply Blk.far'); solve | omega | simp | (simp; omega)) | with_reducible apply Blk.set_ | with_reducible apply Blk.alloc | ((with_reducible apply Blk.ext'); with_reducible assumption) | ((with_reducible apply Blk.but'); (with_reducible assumption); solve | omega | (simp; omega))))) (by rfl)) (Blk.eq (by (repeat (first | with_reducible assumption | ((with_reducible apply Blk.new); solve | simp | rfl) | with_reducible apply Blk.drew | with_reducible apply Blk.drewN | ((with_reducible apply Blk.far'); solve | omega | simp | (simp; omega)) | with_reducible apply Blk.set_ | with_reducible apply Blk.alloc | ((with_reducible apply Blk.ext'); with_reducible assumption) | ((with_reducible apply Blk.but'); (with_reducible assumption); solve | omega | (simp; omega))))) (by rfl)) (Blk.eq (by (repeat (first | with_reducible assumption | ((with_reducible apply Blk.new); solve | simp | rfl) | with_reducible apply Blk.drew | with_reducible apply Blk.drewN | ((with_reducible apply Blk.far'); solve | omega | simp | (simp; omega)) | with_reducible apply Blk.set_ | with_reducible apply Blk.alloc | ((with_reducible apply Blk.ext'); with_reducible assumption) | ((with_reducible apply Blk.but'); (with_reducible assumption); solve | omega | (simp; omega))))) (by rfl)) rfl (by intro W' r0 r1 r2 r3 r4 r5; simp [results, Try.results36, go_sem, r0, r1, r2, r3, r4, r5]) ⟨x1, x2, (wrap64 ((wrap64 (x1.1 + x2.1)).tdiv 2), wrap64 ((wrap64 (x1.2 + x2.2)).tdiv 2)), rfl, by (repeat (first | with_reducible exact Ext.refl _ | with_reducible assumption | ((with_reducible apply Src.ext); with_reducible assumption) | with_reducible refine Ext.alloc ?_ _ | with_reducible refine Ext.drew ?_ | with_reducible refine Ext.drewN ?_ _ | ((with_reducible refine Ext.setCell' ?_ ?_ _); solve | omega | simp | (simp; omega)) | (with_reducible refine Ext.trans ?_ (by with_reducible assumption))))⟩)
  · have hqb : (x9 == 0) = false := beq_eq_false_iff_ne.2 hq
    go_wp2
    go_region
    all_goals go_wp2
    all_goals (refine ret_pts3 (b0 := w.heap.size) (b1 := w.heap.size + 1) (b2 := w.heap.size + 1 + 1) (t := 33) (v := .tuple #[.agg #[.int .i64 x1.1, .int .i64 x1.2], .agg #[.int .i64 x2.1, .int .i64 x2.2], .agg #[.int .i64 x3.1, .int .i64 x3.2]]) (Blk.eq (by (repeat (first | with_reducible assumption | ((with_reducible apply Blk.new); solve | simp | rfl) | with_reducible apply Blk.drew | with_reducible apply Blk.drewN | ((with_reducible apply Blk.far'); solve | omega | simp | (simp; omega)) | with_reducible apply Blk.set_ | with_reducible apply Blk.alloc | ((with_reducible apply Blk.ext'); with_reducible assumption) | ((with_reducible apply Blk.but'); (with_reducible assumption); solve | omega | (simp; omega))))) (by rfl)) (Blk.eq (by (repeat (first | with_reducible assumption | ((with_reducible apply Blk.new); solve | simp | rfl) | with_reducible apply Blk.drew | with_reducible apply Blk.drewN | ((with_reducible apply Blk.far'); solve | omega | simp | (simp; omega)) | with_reducible apply Blk.set_ | with_reducible apply Blk.alloc | ((with_reducible apply Blk.ext'); with_reducible assumption) | ((with_reducible apply Blk.but'); (with_reducible assumption); solve | omega | (simp; omega))))) (by rfl)) (Blk.eq (by (repeat (first | with_reducible assumption | ((with_reducible apply Blk.new); solve | simp | rfl) | with_reducible apply Blk.drew | with_reducible apply Blk.drewN | ((with_reducible apply Blk.far'); solve | omega | simp | (simp; omega)) | with_reducible apply Blk.set_ | with_reducible apply Blk.alloc | ((with_reducible apply Blk.ext'); with_reducible assumption) | ((with_reducible apply Blk.but'); (with_reducible assumption); solve | omega | (simp; omega))))) (by rfl)) rfl (by intro W' r0 r1 r2 r3 r4 r5; simp [results, Try.results36, go_sem, r0, r1, r2, r3, r4, r5]) ⟨x1, x2, x3, rfl, by (repeat (first | with_reducible exact Ext.refl _ | with_reducible assumption | ((with_reducible apply Src.ext); with_reducible assumption) | with_reducible refine Ext.alloc ?_ _ | with_reducible refine Ext.drew ?_ | with_reducible refine Ext.drewN ?_ _ | ((with_reducible refine Ext.setCell' ?_ ?_ _); solve | omega | simp | (simp; omega)) | (with_reducible refine Ext.trans ?_ (by with_reducible assumption))))⟩)

set_option maxHeartbeats 6400000 in
theorem s_DrawDoCross (A : Option Addr) (c : Nat) (bs : List Int) (w : World) (h : SlAt w 1 encB A bs) (hb : ∀ b ∈ bs, 0 ≤ b ∧ b ≤ 255) (hl : bs.length ≤ 4096) :
    Calls Try.prog 39 #[.slice A bs.length c] w fun e w' => ∃ p q r s : Int × Int, e = .returned (.tuple #[.agg #[.int .i64 p.1, .int .i64 p.2], .agg #[.int .i64 q.1, .int .i64 q.2], .agg #[.int .i64 r.1, .int .i64 r.2], .agg #[.int .i64 s.1, .int .i64 s.2]]) ∧ Ext w w' := by
  have HB := Lib.hid hb
  clear hb
  go_enter Try.func39, Try.ntmps39
  go_wp2_with fail
  refine (s_l01From _ _ bs _ (h.ext (by (repeat (first | with_reducible exact Ext.refl _ | with_reducible assumption | ((with_reducible apply Src.ext); with_reducible assumption) | with_reducible refine Ext.alloc ?_ _ | with_reducible refine Ext.drew ?_ | with_reducible refine Ext.drewN ?_ _ | ((with_reducible refine Ext.setCell' ?_ ?_ _); solve | omega | simp | (simp; omega)) | (with_reducible refine Ext.trans ?_ (by with_reducible assumption)))))) HB.out hl).mono ?_
  rintro e w0 ⟨g, rfl, hS0⟩
  have hx0 := hS0.ext
  obtain ⟨hg, hgl⟩ := src_facts hS0
  have hs0 := hx0.size
  simp at hg hs0
  have B00 : Blk w0 w.heap.size 33 #[.int .i64 0, .int .i64 0] := Blk.eq (by (repeat (first | with_reducible assumption | ((with_reducible apply Blk.new); solve | simp | rfl) | with_reducible apply Blk.drew | with_reducible apply Blk.drewN | ((with_reducible apply Blk.far'); solve | omega | simp | (simp; omega)) | with_reducible apply Blk.set_ | with_reducible apply Blk.alloc | ((with_reducible apply Blk.ext'); with_reducible assumption) | ((with_reducible apply Blk.but'); (with_reducible assumption); solve | omega | (simp; omega))))) (by rfl)
  have B01 : Blk w0 (w.heap.size + 1) 33 #[.int .i64 0, .int .i64 0] := Blk.eq (by (repeat (first | with_reducible assumption | ((with_reducible apply Blk.new); solve | simp | rfl) | with_reducible apply Blk.drew | with_reducible apply Blk.drewN | ((with_reducible apply Blk.far'); solve | omega | simp | (simp; omega)) | with_reducible apply Blk.set_ | with_reducible apply Blk.alloc | ((with_reducible apply Blk.ext'); with_reducible assumption) | ((with_reducible apply Blk.but'); (with_reducible assumption); solve | omega | (simp; omega))))) (by rfl)
  have B02 : Blk w0 (w.heap.size + 1 + 1) 33 #[.int .i64 0, .int .i64 0] := Blk.eq (by (repeat (first | with_reducible assumption | ((with_reducible apply Blk.new); solve | simp | rfl) | with_reducible apply Blk.drew | with_reducible apply Blk.drewN | ((with_reducible apply Blk.far'); solve | omega | simp | (simp; omega)) | with_reducible apply Blk.set_ | with_reducible apply Blk.alloc | ((with_reducible apply Blk.ext'); with_reducible assumption) | ((with_reducible apply Blk.but'); (with_reducible assumption); solve | omega | (simp; omega))))) (by rfl)
  have B03 : Blk w0 (w.heap.size + 1 + 1 + 1) 33 #[.int .i64 0, .int .i64 0] := Blk.eq (by (repeat (first | with_reducible assumption | ((with_reducible apply Blk.new); solve | simp | rfl) | with_reducible apply Blk.drew | with_reducible apply Blk.drewN | ((with_reducible apply Blk.far'); solve | omega | simp | (simp; omega)) | with_reducible apply Blk.set_ | with_reducible apply Blk.alloc | ((with_reducible apply Blk.ext'); with_reducible assumption) | ((with_reducible apply Blk.but'); (with_reducible assumption); solve | omega | (simp; omega))))) (by rfl)
  have hSw : Src w A c bs g w0 := hS0.base (by (repeat (first | with_reducible exact Ext.refl _ | with_reducible assumption | ((with_reducible apply Src.ext); with_reducible assumption) | with_reducible refine Ext.alloc ?_ _ | with_reducible refine Ext.drew ?_ | with_reducible refine Ext.drewN ?_ _ | ((with_reducible refine Ext.setCell' ?_ ?_ _); solve | omega | simp | (simp; omega)) | (with_reducible refine Ext.trans ?_ (by with_reducible assumption))))) h
  clear hS0
  have hxw : Ext w w0 := hSw.ext
  have HX := Lib.hid hxw
  clear hxw hx0
  go_wp2_with fail
  refine (s_DrawTurnOf _ _ bs _ (h.ext HX.out) HB.out hl).mono ?_
  rintro e w1 ⟨x1, x2, x3, rfl, hx1⟩
  have hs1 := hx1.size
  have hSv : Src w A c bs g w1 := hSw.on hx1
  have B10 : Blk w1 w.heap.size 33 #[.int .i64 0, .int .i64 0] := B00.ext hx1
  have B11 : Blk w1 (w.heap.size + 1) 33 #[.int .i64 0, .int .i64 0] := B01.ext hx1
  have B12 : Blk w1 (w.heap.size + 1 + 1) 33 #[.int .i64 0, .int .i64 0] := B02.ext hx1
  have B13 : Blk w1 (w.heap.size + 1 + 1 + 1) 33 #[.int .i64 0, .int .i64 0] := B03.ext hx1
  have : ¬ w.heap.size = w.heap.size + 1 := by omega
  have : ¬ w.heap.size = w.heap.size + 1 + 1 := by omega
  have : ¬ w.heap.size = w.heap.size + 1 + 1 + 1 := by omega
  have : ¬ w.heap.size = w1.heap.size := by omega
  have : ¬ w.heap.size = w1.heap.size + 1 := by omega
  have : ¬ w.heap.size = w1.heap.size + 1 + 1 := by omega
  have : ¬ w.heap.size = g := by omega
  have : ¬ w.heap.size + 1 = w.heap.size := by omega
  have : ¬ w.heap.size + 1 = w.heap.size + 1 + 1 := by omega
  have : ¬ w.heap.size + 1 = w.heap.size + 1 + 1 + 1 := by omega
  have : ¬ w.heap.size + 1 = w1.heap.size := by omega
  have : ¬ w.heap.size + 1 = w1.heap.size + 1 := by omega
  have : ¬ w.heap.size + 1 = w1.heap.size + 1 + 1 := by omega
  have : ¬ w.heap.size + 1 = g := by omega
  have : ¬ w.heap.size + 1 + 1 = w.heap.size := by omega
  have : ¬ w.heap.size + 1 + 1 = w.heap.size + 1 := by omega
  have : ¬ w.heap.size + 1 + 1 = w.heap.size + 1 + 1 + 1 := by omega
  have : ¬ w.heap.size + 1 + 1 = w1.heap.size := by omega
  have : ¬ w.heap.size + 1 + 1 = w1.heap.size + 1 := by omega
  have : ¬ w.heap.size + 1 + 1 = w1.heap.size + 1 + 1 := by omega
  have : ¬ w.heap.size + 1 + 1 = g := by omega
  have : ¬ w.heap.size + 1 + 1 + 1 = w.heap.size := by omega
  have : ¬ w.heap.size + 1 + 1 + 1 = w.heap.size + 1 := by omega
  have : ¬ w.heap.size + 1 + 1 + 1 = w.heap.size + 1 + 1 := by omega
  have : ¬ w.heap.size + 1 + 1 + 1 = w1.heap.size := by omega
  have : ¬ w.heap.size + 1 + 1 + 1 = w1.heap.size + 1 := by omega
  have : ¬ w.heap.size + 1 + 1 + 1 = w1.heap.size + 1 + 1 := by omega
  have : ¬ w.heap.size + 1 + 1 + 1 = g := by omega
  have : ¬ w1.heap.size = w.heap.size := by omega
  have : ¬ w1.heap.size = w.heap.size + 1 := by omega
  have : ¬ w1.heap.size = w.heap.size + 1 + 1 := by omega
  have : ¬ w1.heap.size = w.heap.size + 1 + 1 + 1 := by omega
  have : ¬ w1.heap.size = w1.heap.size + 1 := by omega
  have : ¬ w1.heap.size = w1.heap.size + 1 + 1 := by omega
  have : ¬ w1.heap.size = g := by omega
  have : ¬ w1.heap.size + 1 = w.heap.size := by omega
  have : ¬ w1.heap.size + 1 = w.heap.size + 1 := by omega
  have : ¬ w1.heap.size + 1 = w.heap.size + 1 + 1 := by omega
  have : ¬ w1.heap.size + 1 = w.heap.size + 1 + 1 + 1 := by omega
  have : ¬ w1.heap.size + 1 = w1.heap.size := by omega
  have : ¬ w1.heap.size + 1 = w1.heap.size + 1 + 1 := by omega
  have : ¬ w1.heap.size + 1 = g := by omega
  have : ¬ w1.heap.size + 1 + 1 = w.heap.size := by omega
  have : ¬ w1.heap.size + 1 + 1 = w.heap.size + 1 := by omega
  have : ¬ w1.heap.size + 1 + 1 = w.heap.size + 1 + 1 := by omega
  have : ¬ w1.heap.size + 1 + 1 = w.heap.size + 1 + 1 + 1 := by omega
  have : ¬ w1.heap.size + 1 + 1 = w1.heap.size := by omega
  have : ¬ w1.heap.size + 1 + 1 = w1.heap.size + 1 := by omega
  have : ¬ w1.heap.size + 1 + 1 = g := by omega
  have : ¬ g = w.heap.size := by omega
  have : ¬ g = w.heap.size + 1 := by omega
  have : ¬ g = w.heap.size + 1 + 1 := by omega
  have : ¬ g = w.heap.size + 1 + 1 + 1 := by omega
  have : ¬ g = w1.heap.size := by omega
  have : ¬ g = w1.heap.size + 1 := by omega
  have : ¬ g = w1.heap.size + 1 + 1 := by omega
  have B20 : Blk w1 w.heap.size 33 #[.int .i64 0, .int .i64 0] := Blk.eq (by (repeat (first | with_reducible assumption | ((with_reducible apply Blk.new); solve | simp | rfl) | with_reducible apply Blk.drew | with_reducible apply Blk.drewN | ((with_reducible apply Blk.far'); solve | omega | simp | (simp; omega)) | with_reducible apply Blk.set_ | with_reducible apply Blk.alloc | ((with_reducible apply Blk.ext'); with_reducible assumption) | ((with_reducible apply Blk.but'); (with_reducible assumption); solve | omega | (simp; omega))))) (by rfl)
  have f200 := B20.frozen 0
  have f201 := B20.frozen 1
  have c200 : w1.cell? ⟨w.heap.size, 0, none⟩ = some (.int .i64 0) := B20.cell 0
  have c201 : w1.cell? ⟨w.heap.size, 1, none⟩ = some (.int .i64 0) := B20.cell 1
  have B21 : Blk w1 (w.heap.size + 1) 33 #[.int .i64 0, .int .i64 0] := Blk.eq (by (repeat (first | with_reducible assumption | ((with_reducible apply Blk.new); solve | simp | rfl) | with_reducible apply Blk.drew | with_reducible apply Blk.drewN | ((with_reducible apply Blk.far'); solve | omega | simp | (simp; omega)) | with_reducible apply Blk.set_ | with_reducible apply Blk.alloc | ((with_reducible apply Blk.ext'); with_reducible assumption) | ((with_reducible apply Blk.but'); (with_reducible assumption); solve | omega | (simp; omega))))) (by rfl)
  have f210 := B21.frozen 0
  have f211 := B21.frozen 1
  have c210 : w1.cell? ⟨(w.heap.size + 1), 0, none⟩ = some (.int .i64 0) := B21.cell 0
  have c211 : w1.cell? ⟨(w.heap.size + 1), 1, none⟩ = some (.int .i64 0) := B21.cell 1
  have B22 : Blk w1 (w.heap.size + 1 + 1) 33 #[.int .i64 0, .int .i64 0] := Blk.eq (by (repeat (first | with_reducible assumption | ((with_reducible apply Blk.new); solve | simp | rfl) | with_reducible apply Blk.drew | with_reducible apply Blk.drewN | ((with_reducible apply Blk.far'); solve | omega | simp | (simp; omega)) | with_reducible apply Blk.set_ | with_reducible apply Blk.alloc | ((with_reducible apply Blk.ext'); with_reducible assumption) | ((with_reducible apply Blk.but'); (with_reducible assumption); solve | omega | (simp; omega))))) (by rfl)
  have f220 := B22.frozen 0
  have f221 := B22.frozen 1
  have c220 : w1.cell? ⟨(w.heap.size + 1 + 1), 0, none⟩ = some (.int .i64 0) := B22.cell 0
  have c221 : w1.cell? ⟨(w.heap.size + 1 + 1), 1, none⟩ = some (.int .i64 0) := B22.cell 1
  have B23 : Blk w1 (w.heap.size + 1 + 1 + 1) 33 #[.int .i64 0, .int .i64 0] := Blk.eq (by (repeat (first | with_reducible assumption | ((with_reducible apply Blk.new); solve | simp | rfl) | with_reducible apply Blk.drew | with_reducible apply Blk.drewN | ((with_reducible apply Blk.far'); solve | omega | simp | (simp; omega)) | with_reducible apply Blk.set_ | with_reducible apply Blk.alloc | ((with_reducible apply Blk.ext'); with_reducible assumption) | ((with_reducible apply Blk.but'); (with_reducible assumption); solve | omega | (simp; omega))))) (by rfl)
  have f230 := B23.frozen 0
  have f231 := B23.frozen 1
  have c230 : w1.cell? ⟨(w.heap.size + 1 + 1 + 1), 0, none⟩ = some (.int .i64 0) := B23.cell 0
  have c231 : w1.cell? ⟨(w.heap.size + 1 + 1 + 1), 1, none⟩ = some (.int .i64 0) := B23.cell 1
  have : w.heap.size < w1.heap.size := by omega
  have : w.heap.size < w1.heap.size + 1 := by omega
  have : w.heap.size < w1.heap.size + 1 + 1 := by omega
  have : w.heap.size < w1.heap.size + 1 + 1 + 1 := by omega
  have : w.heap.size + 1 < w1.heap.size := by omega
  have : w.heap.size + 1 < w1.heap.size + 1 := by omega
  have : w.heap.size + 1 < w1.heap.size + 1 + 1 := by omega
  have : w.heap.size + 1 < w1.heap.size + 1 + 1 + 1 := by omega
  have : w.heap.size + 1 + 1 < w1.heap.size := by omega
  have : w.heap.size + 1 + 1 < w1.heap.size + 1 := by omega
  have : w.heap.size + 1 + 1 < w1.heap.size + 1 + 1 := by omega
  have : w.heap.size + 1 + 1 < w1.heap.size + 1 + 1 + 1 := by omega
  have : w.heap.size + 1 + 1 + 1 < w1.heap.size := by omega
  have : w.heap.size + 1 + 1 + 1 < w1.heap.size + 1 := by omega
  have : w.heap.size + 1 + 1 + 1 < w1.heap.size + 1 + 1 := by omega
  have : w.heap.size + 1 + 1 + 1 < w1.heap.size + 1 + 1 + 1 := by omega
  have : g < w1.heap.size := by omega
  have : g < w1.heap.size + 1 := by omega
  have : g < w1.heap.size + 1 + 1 := by omega
  have : g < w1.heap.size + 1 + 1 + 1 := by omega
  have BT : Blk (((w1.alloc (.cells #[.int .i64 x1.1, .int .i64 x1.2] 33)).alloc (.cells #[.int .i64 x2.1, .int .i64 x2.2] 33)).alloc (.cells #[.int .i64 x3.1, .int .i64 x3.2] 33)) (w1.heap.size + 1 + 1) 33 #[.int .i64 x3.1, .int .i64 x3.2] := Blk.new (by simp)
  have bt0 : (((w1.alloc (.cells #[.int .i64 x1.1, .int .i64 x1.2] 33)).alloc (.cells #[.int .i64 x2.1, .int .i64 x2.2] 33)).alloc (.cells #[.int .i64 x3.1, .int .i64 x3.2] 33)).cell? ⟨w1.heap.size + 1 + 1, 0, none⟩ = some (.int .i64 x3.1) := BT.cell 0
  have bt1 : (((w1.alloc (.cells #[.int .i64 x1.1, .int .i64 x1.2] 33)).alloc (.cells #[.int .i64 x2.1, .int .i64 x2.2] 33)).alloc (.cells #[.int .i64 x3.1, .int .i64 x3.2] 33)).cell? ⟨w1.heap.size + 1 + 1, 1, none⟩ = some (.int .i64 x3.2) := BT.cell 1
  have : w1.heap.size < w1.heap.size + 1 := by omega
  have : w1.heap.size < w1.heap.size + 1 + 1 := by omega
  have : w1.heap.size < w1.heap.size + 1 + 1 + 1 := by omega
  have : w1.heap.size + 1 < w1.heap.size + 1 + 1 := by omega
  have : w1.heap.size + 1 < w1.heap.size + 1 + 1 + 1 := by omega
  have : w1.heap.size + 1 + 1 < w1.heap.size + 1 + 1 + 1 := by omega
  go_wp2
  go_region_held3 (fun w' => w'.cell? ⟨w1.heap.size, 0, none⟩ = some (.int .i64 x1.1) ∧ w'.cell? ⟨w1.heap.size, 1, none⟩ = some (.int .i64 x1.2) ∧ w'.cell? ⟨w1.heap.size + 1, 0, none⟩ = some (.int .i64 x2.1) ∧ w'.cell? ⟨w1.heap.size + 1, 1, none⟩ = some (.int .i64 x2.2) ∧ w'.cell? ⟨w1.heap.size + 1 + 1, 0, none⟩ = some (.int .i64 x3.1) ∧ w'.cell? ⟨w1.heap.size + 1 + 1, 1, none⟩ = some (.int .i64 x3.2)) (go_keep) (first | (go_at_call 84; refine (s_l15Draw (a := w) (A := A) (c := c) (bs := bs) _ (by (repeat (first | with_reducible assumption | with_reducible refine Src.alloc ?_ _ | with_reducible refine Src.drew ?_ | with_reducible refine Src.drewN ?_ _ | ((with_reducible refine Src.far ?_ ?_ ?_ _); (solve | omega | (simp; omega) | simp); (solve | omega | (simp; omega) | simp)) | ((with_reducible apply Src.on'); with_reducible assumption))))).mono ?_; rintro e w4 ⟨x4, rfl, hb4, hS4, hu4⟩; obtain ⟨hc4, hf4⟩ := hu4.rules; have hs4 := hu4.size; (try simp at hs4); have hl4 : ∀ n, n < _ → n < w4.heap.size := fun n h => Nat.lt_of_lt_of_le h hu4.size; have := (show w.heap.size < w4.heap.size from by omega); have := (show w.heap.size + 1 < w4.heap.size from by omega); have := (show w.heap.size + 1 + 1 < w4.heap.size from by omega); have := (show w.heap.size + 1 + 1 + 1 < w4.heap.size from by omega); have := (show w1.heap.size < w4.heap.size from by omega); have := (show w1.heap.size + 1 < w4.heap.size from by omega); have := (show w1.heap.size + 1 + 1 < w4.heap.size from by omega)))
  all_goals go_wp2
  all_goals (refine ret_pts4 (b0 := w.heap.size) (b1 := w.heap.size + 1) (b2 := w.heap.size + 1 + 1) (b3 := w.heap.size + 1 + 1 + 1) (t := 33) (v := .tuple #[.agg #[.int .i64 x1.1, .int .i64 x1.2], .agg #[.int .i64 x2.1, .int .i64 x2.2], .agg #[.int .i64 x3.1, .int .i64 x3.2], .agg #[.int .i64 x4.1, .int .i64 x4.2]]) (Blk.eq (by (repeat (first | with_reducible assumption | ((with_reducible apply Blk.new); solve | simp | rfl) | with_reducible apply Blk.drew | with_reducible apply Blk.drewN | ((with_reducible apply Blk.far'); solve | omega | simp | (simp; omega)) | with_reducible apply Blk.set_ | with_reducible apply Blk.alloc | ((with_reducible apply Blk.ext'); with_reducible assumption) | ((with_reducible apply Blk.but'); (with_reducible assumption); solve | omega | (simp; omega))))) (by rfl)) (Blk.eq (by (repeat (first | with_reducible assumption | ((with_reducible apply Blk.new); solve | simp | rfl) | with_reducible apply Blk.drew | with_reducible apply Blk.drewN | ((with_reducible apply Blk.far'); solve | omega | simp | (simp; omega)) | with_reducible apply Blk.set_ | with_reducible apply Blk.alloc | ((with_reducible apply Blk.ext'); with_reducible assumption) | ((with_reducible apply Blk.but'); (with_reducible assumption); solve | omega | (simp; omega))))) (by rfl)) (Blk.eq (by (repeat (first | with_reducible assumption | ((with_reducible apply Blk.new); solve | simp | rfl) | with_reducible apply Blk.drew | with_reducible apply Blk.drewN | ((with_reducible apply Blk.far'); solve | omega | simp | (simp; omega)) | with_reducible apply Blk.set_ | with_reducible apply Blk.alloc | ((with_reducible apply Blk.ext'); with_reducible assumption) | ((with_reducible apply Blk.but'); (with_reducible assumption); solve | omega | (simp; omega))))) (by rfl)) (Blk.eq (by (repeat (first | with_reducible assumption | ((with_reducible apply Blk.new); solve | simp | rfl) | with_reducible apply Blk.drew | with_reducible apply Blk.drewN | ((with_reducible apply Blk.far'); solve | omega | simp | (simp; omega)) | with_reducible apply Blk.set_ | with_reducible apply Blk.alloc | ((with_reducible apply Blk.ext'); with_reducible assumption) | ((with_reducible apply Blk.but'); (with_reducible assumption); solve | omega | (simp; omega))))) (by rfl)) rfl (by intro W' r0 r1 r2 r3 r4 r5 r6 r7; simp [results, Try.results39, go_sem, r0, r1, r2, r3, r4, r5, r6, r7]) ⟨x1, x2, x3, x4, rfl, by (repeat (first | with_reducible exact Ext.refl _ | with_reducible assumption | ((with_reducible apply Src.ext); with_reducible assumption) | with_reducible refine Ext.alloc ?_ _ | with_reducible refine Ext.drew ?_ | with_reducible refine Ext.drewN ?_ _ | ((with_reducible refine Ext.setCell' ?_ ?_ _); solve | omega | simp | (simp; omega)) | (with_reducible refine Ext.trans ?_ (by with_reducible assumption))))⟩)
end Go.Proofs.Ythhkmkhilnglkaa
