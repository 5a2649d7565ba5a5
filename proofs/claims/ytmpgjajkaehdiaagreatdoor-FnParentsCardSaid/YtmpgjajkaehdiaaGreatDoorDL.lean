/- Links that are drawn, rarely others. -/
import Derived.Test.YtmpgjajkaehdiaaGreatDoorDK
namespace Go.Proofs.YtmpgjajkaehdiaaGreatDoor
open Go.RowKit
attribute [local go_sem] ExtOf.cell ExtOf.frozen

set_option maxRecDepth 20000 in
set_option maxHeartbeats 12800000 in
theorem s_l12Draw {a : World} {A : Option Addr} {c : Nat} {bs : List Int} {g : Nat} (w : World) (h : Src a A c bs g w) :
    Calls Tryz.prog 84 #[.pointer (some ⟨g, 0, none⟩)] w fun e w' => ∃ l : Lk, e = .returned (.agg #[.string (tx l.1), .string (tx l.2.1), .int .i64 l.2.2.1, .int .i64 l.2.2.2]) ∧ (l.1.length ≤ 17 ∧ l.2.1.length ≤ 17 ∧ (-3001 ≤ l.2.2.1 ∧ l.2.2.1 ≤ 3001) ∧ (-3001 ≤ l.2.2.2 ∧ l.2.2.2 ≤ 3001)) ∧ Src a A c bs g w' ∧ But g w w' := by
  have hlt := h.lt
  have how := h.own
  have hasz := h.ext.size
  have nb : ¬ w.heap.size = g := by omega
  have nb' : ¬ g = w.heap.size := by omega
  go_enter Tryz.func84, Tryz.ntmps84
  (go_wp2_with fail; refine (s_l12Good (a := a) (A := A) (c := c) (bs := bs) _ (by (repeat (first | with_reducible assumption | with_reducible refine Src.alloc ?_ _ | with_reducible refine Src.drew ?_ | with_reducible refine Src.drewN ?_ _ | ((with_reducible refine Src.far ?_ ?_ ?_ _); (solve | omega | (simp; omega) | simp); (solve | omega | (simp; omega) | simp)) | ((with_reducible apply Src.on'); with_reducible assumption))))).mono ?_; rintro e w1 ⟨x1, rfl, hb1, hS1, hu1⟩; obtain ⟨hc1, hf1⟩ := hu1.rules; have hs1 := hu1.size; (try simp at hs1); have := (show w.heap.size < w1.heap.size from by omega))
  obtain ⟨s, t, f, d⟩ := x1
  simp only at hb1
  have nd : ¬ w1.heap.size = g := by omega
  have nd2 : ¬ w1.heap.size = w.heap.size := by omega
  have nd' : ¬ w.heap.size = w1.heap.size := by omega
  have nd3 : ¬ g = w1.heap.size := by omega
  (go_wp2_with fail; refine (s_l01Next (a := a) (A := A) (c := c) (bs := bs) _ _ (by (repeat (first | with_reducible assumption | with_reducible refine Src.alloc ?_ _ | with_reducible refine Src.drew ?_ | with_reducible refine Src.drewN ?_ _ | ((with_reducible refine Src.far ?_ ?_ ?_ _); (solve | omega | (simp; omega) | simp); (solve | omega | (simp; omega) | simp)) | ((with_reducible apply Src.on'); with_reducible assumption)))) (by omega)).mono ?_; rintro e w2 ⟨x2, rfl, hb2, hS2, hu2⟩; obtain ⟨hc2, hf2⟩ := hu2.rules; have hs2 := hu2.size; (try simp at hs2); have := (show w.heap.size < w2.heap.size from by omega); have := (show w1.heap.size < w2.heap.size from by omega); have := (show g < w2.heap.size from by omega))
  have B2 : Blk w2 w1.heap.size 57 #[.string (tx s), .string (tx t), .int .i64 f, .int .i64 d] := Blk.eq (by (repeat (first | with_reducible assumption | ((with_reducible apply Blk.new); solve | simp | rfl) | with_reducible apply Blk.drew | with_reducible apply Blk.drewN | ((with_reducible apply Blk.far'); solve | omega | simp | (simp; omega)) | with_reducible apply Blk.set_ | with_reducible apply Blk.alloc | ((with_reducible apply Blk.ext'); with_reducible assumption) | ((with_reducible apply Blk.but'); (with_reducible assumption); solve | omega | (simp; omega))))) (by rfl)
  have B0 : Blk w2 w.heap.size 57 #[.string ⟨#[]⟩, .string ⟨#[]⟩, .int .i64 0, .int .i64 0] := Blk.eq (by (repeat (first | with_reducible assumption | ((with_reducible apply Blk.new); solve | simp | rfl) | with_reducible apply Blk.drew | with_reducible apply Blk.drewN | ((with_reducible apply Blk.far'); solve | omega | simp | (simp; omega)) | with_reducible apply Blk.set_ | with_reducible apply Blk.alloc | ((with_reducible apply Blk.ext'); with_reducible assumption) | ((with_reducible apply Blk.but'); (with_reducible assumption); solve | omega | (simp; omega))))) (by rfl)
  have ls : s.length ≤ 17 := by omega
  have lt : t.length ≤ 17 := by omega
  have lf : -3001 ≤ f ∧ f ≤ 3001 := by omega
  have ld : -3001 ≤ d ∧ d ≤ 3001 := by omega
  clear hb1
  have y0 := B2.frozen 0
  have y1 := B2.frozen 1
  have y2 := B2.frozen 2
  have y3 := B2.frozen 3
  have cy0 : w2.cell? ⟨w1.heap.size, 0, none⟩ = some (.string (tx s)) := B2.cell 0
  have cy1 : w2.cell? ⟨w1.heap.size, 1, none⟩ = some (.string (tx t)) := B2.cell 1
  have cy2 : w2.cell? ⟨w1.heap.size, 2, none⟩ = some (.int .i64 f) := B2.cell 2
  have cy3 : w2.cell? ⟨w1.heap.size, 3, none⟩ = some (.int .i64 d) := B2.cell 3
  have f0 : w2.cell? ⟨w.heap.size, 0, none⟩ = some (.string ⟨#[]⟩) := B0.cell 0
  have f1 : w2.cell? ⟨w.heap.size, 1, none⟩ = some (.string ⟨#[]⟩) := B0.cell 1
  have f2 : w2.cell? ⟨w.heap.size, 2, none⟩ = some (.int .i64 0) := B0.cell 2
  have f3 : w2.cell? ⟨w.heap.size, 3, none⟩ = some (.int .i64 0) := B0.cell 3
  have v0 := B0.frozen 0
  have v1 := B0.frozen 1
  have v2 := B0.frozen 2
  have v3 := B0.frozen 3
  have HB2 := Lib.hid B2
  have HB0 := Lib.hid B0
  by_cases q0 : x2 = 0
  · subst q0
    (go_wp2_with fail; refine (s_l01DrawWord (a := a) (A := A) (c := c) (bs := bs) _ (by (repeat (first | with_reducible assumption | with_reducible refine Src.alloc ?_ _ | with_reducible refine Src.drew ?_ | with_reducible refine Src.drewN ?_ _ | ((with_reducible refine Src.far ?_ ?_ ?_ _); (solve | omega | (simp; omega) | simp); (solve | omega | (simp; omega) | simp)) | ((with_reducible apply Src.on'); with_reducible assumption))))).mono ?_; rintro e w3 ⟨x3, rfl, hb3, hS3, hu3⟩; obtain ⟨hc3, hf3⟩ := hu3.rules; have hs3 := hu3.size; (try simp at hs3); have := (show w.heap.size < w3.heap.size from by omega); have := (show w1.heap.size < w3.heap.size from by omega); have := (show g < w3.heap.size from by omega))
    have B3 : Blk w3 w1.heap.size 57 #[.string (tx s), .string (tx t), .int .i64 f, .int .i64 d] := HB2.out.but' hu3 nd
    have B4 : Blk w3 w.heap.size 57 #[.string ⟨#[]⟩, .string ⟨#[]⟩, .int .i64 0, .int .i64 0] := HB0.out.but' hu3 nb
    clear HB2 HB0 B2 B0
    go_wp2
    refine ret_lk (b0 := w.heap.size) (t := 57) (v := .agg #[.string (tx s), .string (tx x3), .int .i64 f, .int .i64 d]) (Blk.eq (by (repeat (first | with_reducible assumption | ((with_reducible apply Blk.new); solve | simp | rfl) | with_reducible apply Blk.drew | with_reducible apply Blk.drewN | ((with_reducible apply Blk.far'); solve | omega | simp | (simp; omega)) | with_reducible apply Blk.set_ | with_reducible apply Blk.alloc | ((with_reducible apply Blk.ext'); with_reducible assumption) | ((with_reducible apply Blk.but'); (with_reducible assumption); solve | omega | (simp; omega))))) (by rfl)) rfl (by intro W' r0 r1 r2 r3; simp [results, Tryz.results84, go_sem, r0, r1, r2, r3]) ⟨(s, x3, f, d), rfl, ⟨ls, hb3, lf, ld⟩, by (repeat (first | with_reducible assumption | with_reducible refine Src.alloc ?_ _ | with_reducible refine Src.drew ?_ | with_reducible refine Src.drewN ?_ _ | ((with_reducible refine Src.far ?_ ?_ ?_ _); (solve | omega | (simp; omega) | simp); (solve | omega | (simp; omega) | simp)) | ((with_reducible apply Src.on'); with_reducible assumption))), by (repeat (first | with_reducible exact But.refl _ _ | with_reducible assumption | with_reducible refine But.alloc ?_ _ | with_reducible refine But.drew ?_ | with_reducible refine But.drewN ?_ _ | with_reducible refine But.set_ ?_ _ _ | ((with_reducible refine But.new ?_ ?_ _); solve | omega | simp | (simp; omega)) | (with_reducible refine But.trans ?_ (by with_reducible assumption)) | (with_reducible refine But.trans ?_ (But.of (by with_reducible assumption)))))⟩
  · have e0 : (x2 == 0) = false := beq_eq_false_iff_ne.2 q0
    by_cases q1 : x2 = 1
    · subst q1
      (go_wp2_with fail; refine (s_l02Draw (a := a) (A := A) (c := c) (bs := bs) _ (by (repeat (first | with_reducible assumption | with_reducible refine Src.alloc ?_ _ | with_reducible refine Src.drew ?_ | with_reducible refine Src.drewN ?_ _ | ((with_reducible refine Src.far ?_ ?_ ?_ _); (solve | omega | (simp; omega) | simp); (solve | omega | (simp; omega) | simp)) | ((with_reducible apply Src.on'); with_reducible assumption))))).mono ?_; rintro e w3 ⟨x3, rfl, hb3, hS3, hu3⟩; obtain ⟨hc3, hf3⟩ := hu3.rules; have hs3 := hu3.size; (try simp at hs3); have := (show w.heap.size < w3.heap.size from by omega); have := (show w1.heap.size < w3.heap.size from by omega); have := (show g < w3.heap.size from by omega))
      obtain ⟨u, v⟩ := x3
      have B3 : Blk w3 w1.heap.size 57 #[.string (tx s), .string (tx t), .int .i64 f, .int .i64 d] := HB2.out.but' hu3 nd
      have B4 : Blk w3 w.heap.size 57 #[.string ⟨#[]⟩, .string ⟨#[]⟩, .int .i64 0, .int .i64 0] := HB0.out.but' hu3 nb
      clear HB2 HB0 B2 B0
      go_wp2
      refine ret_lk (b0 := w.heap.size) (t := 57) (v := .agg #[.string (tx s), .string (tx t), .int .i64 u, .int .i64 v]) (Blk.eq (by (repeat (first | with_reducible assumption | ((with_reducible apply Blk.new); solve | simp | rfl) | with_reducible apply Blk.drew | with_reducible apply Blk.drewN | ((with_reducible apply Blk.far'); solve | omega | simp | (simp; omega)) | with_reducible apply Blk.set_ | with_reducible apply Blk.alloc | ((with_reducible apply Blk.ext'); with_reducible assumption) | ((with_reducible apply Blk.but'); (with_reducible assumption); solve | omega | (simp; omega))))) (by rfl)) rfl (by intro W' r0 r1 r2 r3; simp [results, Tryz.results84, go_sem, r0, r1, r2, r3]) ⟨(s, t, u, v), rfl, ⟨ls, lt, hb3.1, hb3.2⟩, by (repeat (first | with_reducible assumption | with_reducible refine Src.alloc ?_ _ | with_reducible refine Src.drew ?_ | with_reducible refine Src.drewN ?_ _ | ((with_reducible refine Src.far ?_ ?_ ?_ _); (solve | omega | (simp; omega) | simp); (solve | omega | (simp; omega) | simp)) | ((with_reducible apply Src.on'); with_reducible assumption))), by (repeat (first | with_reducible exact But.refl _ _ | with_reducible assumption | with_reducible refine But.alloc ?_ _ | with_reducible refine But.drew ?_ | with_reducible refine But.drewN ?_ _ | with_reducible refine But.set_ ?_ _ _ | ((with_reducible refine But.new ?_ ?_ _); solve | omega | simp | (simp; omega)) | (with_reducible refine But.trans ?_ (by with_reducible assumption)) | (with_reducible refine But.trans ?_ (But.of (by with_reducible assumption)))))⟩
    · have e1 : (x2 == 1) = false := beq_eq_false_iff_ne.2 q1
      go_wp2
      refine ret_lk (b0 := w.heap.size) (t := 57) (v := .agg #[.string (tx s), .string (tx t), .int .i64 f, .int .i64 d]) (Blk.eq (by (repeat (first | with_reducible assumption | ((with_reducible apply Blk.new); solve | simp | rfl) | with_reducible apply Blk.drew | with_reducible apply Blk.drewN | ((with_reducible apply Blk.far'); solve | omega | simp | (simp; omega)) | with_reducible apply Blk.set_ | with_reducible apply Blk.alloc | ((with_reducible apply Blk.ext'); with_reducible assumption) | ((with_reducible apply Blk.but'); (with_reducible assumption); solve | omega | (simp; omega))))) (by rfl)) rfl (by intro W' r0 r1 r2 r3; simp [results, Tryz.results84, go_sem, r0, r1, r2, r3]) ⟨(s, t, f, d), rfl, ⟨ls, lt, lf, ld⟩, by (repeat (first | with_reducible assumption | with_reducible refine Src.alloc ?_ _ | with_reducible refine Src.drew ?_ | with_reducible refine Src.drewN ?_ _ | ((with_reducible refine Src.far ?_ ?_ ?_ _); (solve | omega | (simp; omega) | simp); (solve | omega | (simp; omega) | simp)) | ((with_reducible apply Src.on'); with_reducible assumption))), by (repeat (first | with_reducible exact But.refl _ _ | with_reducible assumption | with_reducible refine But.alloc ?_ _ | with_reducible refine But.drew ?_ | with_reducible refine But.drewN ?_ _ | with_reducible refine But.set_ ?_ _ _ | ((with_reducible refine But.new ?_ ?_ _); solve | omega | simp | (simp; omega)) | (with_reducible refine But.trans ?_ (by with_reducible assumption)) | (with_reducible refine But.trans ?_ (But.of (by with_reducible assumption)))))⟩
end Go.Proofs.YtmpgjajkaehdiaaGreatDoor
