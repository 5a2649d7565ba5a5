/- Contracts of the draws: points, walked over the translation. -/
import Derived.Test.YteppjdoggjcdoaaI
import Derived.Deep.RegionHeld3
import Derived.Deep.DeepCutAuto
import Derived.RegionTactic
import Derived.BigRegion
import Derived.WalkLawsBesides
import Derived.WalkSpells
import Derived.Lib.MinMax
import Derived.Outline
namespace Go.Proofs.Yteppjdoggjcdoaa
open Go.RowKit
attribute [local go_sem] ExtOf.cell ExtOf.frozen








set_option maxHeartbeats 3200000 in
theorem s_l15Draw {a : World} {A : Option Addr} {c : Nat} {bs : List Int} {g : Nat} (w : World) (h : Src a A c bs g w) :
    Calls Try.prog 104 #[.pointer (some ⟨g, 0, none⟩)] w fun e w' => ∃ p : Int × Int, e = .returned (.agg #[.int .i64 p.1, .int .i64 p.2]) ∧ ((-1001 ≤ p.1 ∧ p.1 ≤ 1001) ∧ -1000 ≤ p.2 ∧ p.2 ≤ 1000) ∧ Src a A c bs g w' ∧ But g w w' := by
  have hlt := h.lt
  have how := h.own
  have hasz := h.ext.size
  have nb : ¬ w.heap.size = g := by omega
  have nb' : ¬ g = w.heap.size := by omega
  go_enter Try.func104, Try.ntmps104
  (go_wp2_with fail; refine (s_l15Good (a := a) (A := A) (c := c) (bs := bs) _ (by (repeat (first | with_reducible assumption | with_reducible refine Src.alloc ?_ _ | with_reducible refine Src.drew ?_ | with_reducible refine Src.drewN ?_ _ | ((with_reducible refine Src.far ?_ ?_ ?_ _); (solve | omega | (simp; omega) | simp); (solve | omega | (simp; omega) | simp)) | ((with_reducible apply Src.on'); with_reducible assumption))))).mono ?_; rintro e w1 ⟨x1, rfl, hb1, hS1, hu1⟩; obtain ⟨hc1, hf1⟩ := hu1.rules; have hs1 := hu1.size; (try simp at hs1); have := (show w.heap.size < w1.heap.size from by omega); have := (show g < w1.heap.size from by omega))
  have B1 : Blk w1 w.heap.size 33 #[.int .i64 0, .int .i64 0] := Blk.eq (by (repeat (first | with_reducible assumption | ((with_reducible apply Blk.new); solve | simp | rfl) | with_reducible apply Blk.drew | with_reducible apply Blk.drewN | ((with_reducible apply Blk.far'); solve | omega | simp | (simp; omega)) | with_reducible apply Blk.set_ | with_reducible apply Blk.alloc | ((with_reducible apply Blk.ext'); with_reducible assumption) | ((with_reducible apply Blk.but'); (with_reducible assumption); solve | omega | (simp; omega))))) (by rfl)
  have z0 := B1.frozen 0
  have z1 := B1.frozen 1
  have cz0 : w1.cell? ⟨w.heap.size, 0, none⟩ = some (.int .i64 0) := B1.cell 0
  have cz1 : w1.cell? ⟨w.heap.size, 1, none⟩ = some (.int .i64 0) := B1.cell 1
  have nc : ¬ w1.heap.size = g := by omega
  have nc' : ¬ g = w1.heap.size := by omega
  have nd : ¬ w1.heap.size = w.heap.size := by omega
  have nd' : ¬ w.heap.size = w1.heap.size := by omega
  (go_wp2_with fail; refine (s_l01Next (a := a) (A := A) (c := c) (bs := bs) _ _ (by (repeat (first | with_reducible assumption | with_reducible refine Src.alloc ?_ _ | with_reducible refine Src.drew ?_ | with_reducible refine Src.drewN ?_ _ | ((with_reducible refine Src.far ?_ ?_ ?_ _); (solve | omega | (simp; omega) | simp); (solve | omega | (simp; omega) | simp)) | ((with_reducible apply Src.on'); with_reducible assumption)))) (by omega)).mono ?_; rintro e w2 ⟨x2, rfl, hb2, hS2, hu2⟩; obtain ⟨hc2, hf2⟩ := hu2.rules; have hs2 := hu2.size; (try simp at hs2); have := (show w.heap.size < w2.heap.size from by omega); have := (show w1.heap.size < w2.heap.size from by omega); have := (show g < w2.heap.size from by omega))
  have B2 : Blk w2 w1.heap.size 33 #[.int .i64 x1.1, .int .i64 x1.2] := Blk.eq (by (repeat (first | with_reducible assumption | ((with_reducible apply Blk.new); solve | simp | rfl) | with_reducible apply Blk.drew | with_reducible apply Blk.drewN | ((with_reducible apply Blk.far'); solve | omega | simp | (simp; omega)) | with_reducible apply Blk.set_ | with_reducible apply Blk.alloc | ((with_reducible apply Blk.ext'); with_reducible assumption) | ((with_reducible apply Blk.but'); (with_reducible assumption); solve | omega | (simp; omega))))) (by rfl)
  have y0 := B2.frozen 0
  have y1 := B2.frozen 1
  have cy0 : w2.cell? ⟨w1.heap.size, 0, none⟩ = some (.int .i64 x1.1) := B2.cell 0
  have cy1 : w2.cell? ⟨w1.heap.size, 1, none⟩ = some (.int .i64 x1.2) := B2.cell 1
  by_cases hq : x2 = 0
  · subst hq
    have ne : ¬ w2.heap.size = g := by omega
    (go_wp2_with fail; refine (s_l01Pick (a := a) (A := A) (c := c) (bs := bs) _ 0 _ [1000, 1001, -1001] _ (by (repeat (first | with_reducible assumption | with_reducible refine Src.alloc ?_ _ | with_reducible refine Src.drew ?_ | with_reducible refine Src.drewN ?_ _ | ((with_reducible refine Src.far ?_ ?_ ?_ _); (solve | omega | (simp; omega) | simp); (solve | omega | (simp; omega) | simp)) | ((with_reducible apply Src.on'); with_reducible assumption)))) (Blk.sl (by (repeat (first | with_reducible assumption | ((with_reducible apply Blk.new); solve | simp | rfl) | with_reducible apply Blk.drew | with_reducible apply Blk.drewN | ((with_reducible apply Blk.far'); solve | omega | simp | (simp; omega)) | with_reducible apply Blk.set_ | with_reducible apply Blk.alloc | ((with_reducible apply Blk.ext'); with_reducible assumption) | ((with_reducible apply Blk.but'); (with_reducible assumption); solve | omega | (simp; omega))))) (by rfl) (fun _ => rfl)) (by simp) (by simp) (by simp) (by omega)).mono ?_; rintro e w3 ⟨x3, rfl, hb3, hS3, hu3⟩; obtain ⟨hc3, hf3⟩ := hu3.rules; have hs3 := hu3.size; (try simp at hs3); have := (show w.heap.size < w3.heap.size from by omega); have := (show w1.heap.size < w3.heap.size from by omega); have := (show g < w3.heap.size from by omega))
    have B3 : Blk w3 w1.heap.size 33 #[.int .i64 x1.1, .int .i64 x1.2] := Blk.eq (by (repeat (first | with_reducible assumption | ((with_reducible apply Blk.new); solve | simp | rfl) | with_reducible apply Blk.drew | with_reducible apply Blk.drewN | ((with_reducible apply Blk.far'); solve | omega | simp | (simp; omega)) | with_reducible apply Blk.set_ | with_reducible apply Blk.alloc | ((with_reducible apply Blk.ext'); with_reducible assumption) | ((with_reducible apply Blk.but'); (with_reducible assumption); solve | omega | (simp; omega))))) (by rfl)
    have v0 := B3.frozen 0
    have v1 := B3.frozen 1
    have cv0 : w3.cell? ⟨w1.heap.size, 0, none⟩ = some (.int .i64 x1.1) := B3.cell 0
    have cv1 : w3.cell? ⟨w1.heap.size, 1, none⟩ = some (.int .i64 x1.2) := B3.cell 1
    have B4 : Blk w3 w.heap.size 33 #[.int .i64 0, .int .i64 0] := Blk.eq (by (repeat (first | with_reducible assumption | ((with_reducible apply Blk.new); solve | simp | rfl) | with_reducible apply Blk.drew | with_reducible apply Blk.drewN | ((with_reducible apply Blk.far'); solve | omega | simp | (simp; omega)) | with_reducible apply Blk.set_ | with_reducible apply Blk.alloc | ((with_reducible apply Blk.ext'); with_reducible assumption) | ((with_reducible apply Blk.but'); (with_reducible assumption); solve | omega | (simp; omega))))) (by rfl)
    have v2 := B4.frozen 0
    have v3 := B4.frozen 1
    have cv2 : w3.cell? ⟨w.heap.size, 0, none⟩ = some (.int .i64 0) := B4.cell 0
    have cv3 : w3.cell? ⟨w.heap.size, 1, none⟩ = some (.int .i64 0) := B4.cell 1
    clear hc3 hf3
    have hx3 : -1001 ≤ x3 ∧ x3 ≤ 1001 := by simp at hb3; omega
    go_wp2
    refine ret_pts1 (b0 := w.heap.size) (t := 33) (v := .agg #[.int .i64 x3, .int .i64 x1.2]) (Blk.eq (by (repeat (first | with_reducible assumption | ((with_reducible apply Blk.new); solve | simp | rfl) | with_reducible apply Blk.drew | with_reducible apply Blk.drewN | ((with_reducible apply Blk.far'); solve | omega | simp | (simp; omega)) | with_reducible apply Blk.set_ | with_reducible apply Blk.alloc | ((with_reducible apply Blk.ext'); with_reducible assumption) | ((with_reducible apply Blk.but'); (with_reducible assumption); solve | omega | (simp; omega))))) (by rfl)) rfl (by intro W' r0 r1; simp [results, Try.results104, go_sem, r0, r1]) ⟨(x3, x1.2), rfl, by simp; omega, by (repeat (first | with_reducible assumption | with_reducible refine Src.alloc ?_ _ | with_reducible refine Src.drew ?_ | with_reducible refine Src.drewN ?_ _ | ((with_reducible refine Src.far ?_ ?_ ?_ _); (solve | omega | (simp; omega) | simp); (solve | omega | (simp; omega) | simp)) | ((with_reducible apply Src.on'); with_reducible assumption))), by (repeat (first | with_reducible exact But.refl _ _ | with_reducible assumption | with_reducible refine But.alloc ?_ _ | with_reducible refine But.drew ?_ | with_reducible refine But.drewN ?_ _ | with_reducible refine But.set_ ?_ _ _ | ((with_reducible refine But.new ?_ ?_ _); solve | omega | simp | (simp; omega)) | (with_reducible refine But.trans ?_ (by with_reducible assumption)) | (with_reducible refine But.trans ?_ (But.of (by with_reducible assumption)))))⟩
  · have hqb : (x2 == 0) = false := beq_eq_false_iff_ne.2 hq
    go_wp2
    refine ret_pts1 (b0 := w.heap.size) (t := 33) (v := .agg #[.int .i64 x1.1, .int .i64 x1.2]) (Blk.eq (by (repeat (first | with_reducible assumption | ((with_reducible apply Blk.new); solve | simp | rfl) | with_reducible apply Blk.drew | with_reducible apply Blk.drewN | ((with_reducible apply Blk.far'); solve | omega | simp | (simp; omega)) | with_reducible apply Blk.set_ | with_reducible apply Blk.alloc | ((with_reducible apply Blk.ext'); with_reducible assumption) | ((with_reducible apply Blk.but'); (with_reducible assumption); solve | omega | (simp; omega))))) (by rfl)) rfl (by intro W' r0 r1; simp [results, Try.results104, go_sem, r0, r1]) ⟨x1, rfl, by omega, by (repeat (first | with_reducible assumption | with_reducible refine Src.alloc ?_ _ | with_reducible refine Src.drew ?_ | with_reducible refine Src.drewN ?_ _ | ((with_reducible refine Src.far ?_ ?_ ?_ _); (solve | omega | (simp; omega) | simp); (solve | omega | (simp; omega) | simp)) | ((with_reducible apply Src.on'); with_reducible assumption))), by (repeat (first | with_reducible exact But.refl _ _ | with_reducible assumption | with_reducible refine But.alloc ?_ _ | with_reducible refine But.drew ?_ | with_reducible refine But.drewN ?_ _ | with_reducible refine But.set_ ?_ _ _ | ((with_reducible refine But.new ?_ ?_ _); solve | omega | simp | (simp; omega)) | (with_reducible refine But.trans ?_ (by with_reducible assumption)) | (with_reducible refine But.trans ?_ (But.of (by with_reducible assumption)))))⟩

theorem Src.base {w a wk : World} {A : Option Addr} {c : Nat} {bs : List Int} {g : Nat} (h : Src a A c bs g wk) (hx : Ext w a) (hc : SlAt w 1 encB A bs) : Src w A c bs g wk :=
  ⟨hx.trans h.ext, Nat.le_trans hx.size h.own, hc, h.byt, h.len, h.blk⟩
theorem src_facts {w wk : World} {A : Option Addr} {c : Nat} {bs : List Int} {g : Nat} (h : Src w A c bs g wk) : w.heap.size ≤ g ∧ g < wk.heap.size := ⟨h.own, h.lt⟩

end Go.Proofs.Yteppjdoggjcdoaa
