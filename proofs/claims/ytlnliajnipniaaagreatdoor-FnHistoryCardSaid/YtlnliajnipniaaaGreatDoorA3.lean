/- A changed world, as the specification makes it: that it comes back, and that it can be read. A world with a name changed or with other links, as the specification makes it: it can always be read. A region that draws its order: what is said of an operation may look at the value of one operation that it waits for. No program in sight. A change applied to a world, as the specification does it: it comes back with a world that can be read. -/
import Derived.Test.YtlnliajnipniaaaGreatDoorA2
namespace Go.Proofs.YtlnliajnipniaaaGreatDoor
open Go.RowKit
attribute [local go_sem] ExtOf.cell ExtOf.frozen
set_option maxRecDepth 20000 in
set_option maxHeartbeats 25600000 in
theorem s_l13Code (A A' : Option Addr) (n c m c' : Nat) (ps : List Pl) (L : List Lk) (y k : Int) (co ot la te : List UInt8) (w : World) (h : WIn w A A' n c m c' ps L) (hco : co.length ≤ 1048576) (hot : ot.length ≤ 1048576) (hla : la.length ≤ 1048576) (hte : te.length ≤ 1048576) (hy : -100000 ≤ y ∧ y ≤ 100000) :
  Calls Tryz.prog 116 #[.agg #[.slice A n c, .slice A' m c'], .agg #[.int .i64 y, .int .i64 k, .string (tx co), .string (tx ot), .string (tx la), .string (tx te)]] w fun e w' => ∃ q : Int, e = .returned (.int .i64 q) ∧ (q = 0 → CodeOk (psD ps) L y k co ot la te) ∧ Ext w w' := by
 have HW := hI (fun W (hW : Ext w W) => s_IsWorldW (h.ext hW))
 have HCH := hI (fun W => s_IsChange y k (tx co) (tx ot) (tx la) (tx te) W (by rw [tx_size]; exact hco) (by rw [tx_size]; exact hot) (by rw [tx_size]; exact hla) (by rw [tx_size]; exact hte))
 have HFF : Hid (∀ (s : ByteArray) (f : Int), ((s = tx co ∧ f = fnxP (psD ps) co) ∨ (s = tx ot ∧ f = fnxP (psD ps) ot)) → ∀ W, Ext w W → Calls Tryz.prog 27 #[.slice A n c, .string s] W fun e w' => e = .returned (.int .i64 f) ∧ W = w') := hI (fun s f hs W hW => by
  rcases hs with ⟨rfl, rfl⟩ | ⟨rfl, rfl⟩
  ·exact s_l11Find A n c ps co W (h.sq.ext hW) h.hn (by have := h.hn; have := h.hl; omega)
  ·exact s_l11Find A n c ps ot W (h.sq.ext hW) h.hn (by have := h.hn; have := h.hl; omega))
 have hw : IntKind.i64.wrap (y - 1) = y - 1 := IntWalk.i64_in _ (by omega)
 have HEX := hI (fun (p : Pl) (z : Int) (W : World) => s_l11Exists p z W)
 have HSQ := hI h.sq
 have HN := hI h.hn
 have HOE : Hid ((tx ot).toList.isEmpty = ot.isEmpty) := hI (tx_emp ot)
 have HOK : Hid (wdB (psD ps) L = true → chB y k (tx co) (tx ot) (tx la) (tx te) = true → ¬ fnxP (psD ps) co < 0 → (ot.isEmpty = true ∨ ¬ fnxP (psD ps) ot < 0) → CodeOk (psD ps) L y k co ot la te) := hI (fun a b c d => ⟨a, b, c, d.imp (fun e => List.isEmpty_iff.1 e) id⟩)
 have HH1 := hI (fun hh => @has_some (psD ps) co hh)
 have HH2 := hI (fun hh => @has_some (psD ps) ot hh)
 have HPL := hI (psD_len ps)
 clear h hco hot hla hte hy
 generalize CodeOk (psD ps) L y k co ot la te = OKP at *
 generalize wdB (psD ps) L = q1 at *
 generalize chB y k (tx co) (tx ot) (tx la) (tx te) = q2 at *
 generalize fnxP (psD ps) co = f1 at *
 generalize fnxP (psD ps) ot = f2 at *
 generalize ot.isEmpty = oe at *
 generalize tx co = s0 at *
 generalize tx ot = s1 at *
 generalize tx la = s2 at *
 generalize tx te = s3 at *
 cases q1 with
 | false =>
  go_enter Tryz.func116, Tryz.ntmps116
  (go_wp2_with fail; refine (HW.out _ (xA (xA xR))).mono ?_; rintro e w1 ⟨rfl, hx1⟩; obtain ⟨hc1, hf1, hs1⟩ := hx1.all; (try simp at hs1); have := (show w.heap.size < w1.heap.size from by omega); have := (show w.heap.size + 1 < w1.heap.size from by omega))
  go_wp2
  go_ret
  exact ⟨1, rfl, fun e => absurd e (by decide), xT (xA (xA xR)) hx1⟩
 | true =>
  cases q2 with
  | false =>
   go_enter Tryz.func116, Tryz.ntmps116
   (go_wp2_with fail; refine (HW.out _ (xA (xA xR))).mono ?_; rintro e w1 ⟨rfl, hx1⟩; obtain ⟨hc1, hf1, hs1⟩ := hx1.all; (try simp at hs1); have := (show w.heap.size < w1.heap.size from by omega); have := (show w.heap.size + 1 < w1.heap.size from by omega))
   (go_wp2_with fail; refine (HCH.out _).mono ?_; rintro e w2 ⟨rfl, hx2⟩; obtain ⟨hc2, hf2, hs2⟩ := hx2.all; (try simp at hs2); have := (show w.heap.size < w2.heap.size from by omega); have := (show w.heap.size + 1 < w2.heap.size from by omega))
   go_wp2
   go_ret
   exact ⟨1, rfl, fun e => absurd e (by decide), xT (xT (xA (xA xR)) hx1) hx2⟩
  | true =>
   by_cases hf1 : f1 < 0
   ·
    go_enter Tryz.func116, Tryz.ntmps116
    (go_wp2_with fail; refine (HW.out _ (xA (xA xR))).mono ?_; rintro e w1 ⟨rfl, hx1⟩; obtain ⟨hc1, hf1, hs1⟩ := hx1.all; (try simp at hs1); have := (show w.heap.size < w1.heap.size from by omega); have := (show w.heap.size + 1 < w1.heap.size from by omega))
    (go_wp2_with fail; refine (HCH.out _).mono ?_; rintro e w2 ⟨rfl, hx2⟩; obtain ⟨hc2, hf2, hs2⟩ := hx2.all; (try simp at hs2); have := (show w.heap.size < w2.heap.size from by omega); have := (show w.heap.size + 1 < w2.heap.size from by omega))
    have hB2 : Blk w2 w.heap.size 27 #[.slice A n c, .slice A' m c'] := Blk.eq (bE hx2 (bE hx1 (bA (bN (by omega))))) (by rfl)
    have hB3 : Blk w2 (w.heap.size + 1) 68 #[.int .i64 y, .int .i64 k, .string s0, .string s1, .string s2, .string s3] := Blk.eq (bE hx2 (bE hx1 (bN (by first|omega|simp)))) (by rfl)
    have g0 : w2.cell? ⟨w.heap.size, 0, none⟩ = some (.slice A n c) := hB2.cell 0
    have g1 : w2.cell? ⟨w.heap.size, 1, none⟩ = some (.slice A' m c') := hB2.cell 1
    have kc0 : w2.cell? ⟨w.heap.size + 1, 0, none⟩ = some (.int .i64 y) := hB3.cell 0
    have kc1 : w2.cell? ⟨w.heap.size + 1, 1, none⟩ = some (.int .i64 k) := hB3.cell 1
    have kc2 : w2.cell? ⟨w.heap.size + 1, 2, none⟩ = some (.string s0) := hB3.cell 2
    have kc3 : w2.cell? ⟨w.heap.size + 1, 3, none⟩ = some (.string s1) := hB3.cell 3
    have kc4 : w2.cell? ⟨w.heap.size + 1, 4, none⟩ = some (.string s2) := hB3.cell 4
    have kc5 : w2.cell? ⟨w.heap.size + 1, 5, none⟩ = some (.string s3) := hB3.cell 5
    have hl2 := hB2.lt
    have hl3 := hB3.lt
    have hX2 : Ext w w2 := by clear hB2 hB3; exact xT (xT (xA (xA xR)) hx1) hx2
    have HX2 := hI hX2
    go_wp2
    (refine wp_region_ext (by kernel_rfl) (by kernel_rfl) ?_; (repeat (go_big_quiet_step ((go_at_call 27; exact Calls_same (HFF.out _ _ (by first | exact .inl ⟨rfl, rfl⟩ | exact .inr ⟨rfl, rfl⟩) _ (HX2.out.trans (Ext.trans xR (ExtOf.ext _)))))))); refine wpQuiet_nil ?_; intro wq hxwq; obtain ⟨hcwq, hfwq, hswq⟩ := hxwq.all; (try simp at hswq))
    go_wp2
    all_goals go_ret
    all_goals exact ⟨4, rfl, fun e => absurd e (by decide), xT hX2 hxwq⟩
   ·obtain ⟨k1, e1, hk1, _⟩ := HH1.out hf1
    rw [HPL.out] at hk1
    have hk1n : k1 < n := by rw [HN.out]; exact hk1
    obtain ⟨b, off, hA, hb, p0, p1, p2, p3, p4⟩ := HSQ.out.pl hk1
    subst hA
    have HR1 : Hid (plV (ps.getD k1 plD) = .agg #[.string (tx (ps.getD k1 plD).1), .int .i64 (ps.getD k1 plD).2.1, .int .i64 (ps.getD k1 plD).2.2.1, .int .i64 (ps.getD k1 plD).2.2.2.1, .slice (ps.getD k1 plD).2.2.2.2.1 (ps.getD k1 plD).2.2.2.2.2.2.length (ps.getD k1 plD).2.2.2.2.2.1]) := hI rfl
    have HE1 := hI (fun W => HEX.out (ps.getD k1 plD) (y - 1) W)
    have HE2 := hI (fun W => HEX.out (ps.getD k1 plD) y W)
    rw [HR1.out] at HE1 HE2
    clear HR1
    generalize exB (pdOf (ps.getD k1 plD)) (y - 1) = E1 at *
    generalize exB (pdOf (ps.getD k1 plD)) y = E2 at *
    generalize ps.getD k1 plD = q1 at *
    generalize tx q1.1 = u0 at *
    generalize q1.2.1 = u1 at *
    generalize q1.2.2.1 = u2 at *
    generalize q1.2.2.2.1 = u3 at *
    generalize q1.2.2.2.2.1 = u4 at *
    generalize q1.2.2.2.2.2.2.length = u5 at *
    generalize q1.2.2.2.2.2.1 = u6 at *
    subst e1
    have h0k1 : (0 : Int) ≤ (k1 : Int) := by omega
    cases oe with
    | true =>
     have HEE : Hid (∀ (r : Value) (z : Int) (q : Bool), ((r = .agg #[.string u0, .int .i64 u1, .int .i64 u2, .int .i64 u3, .slice u4 u5 u6] ∧ z = y - 1 ∧ q = E1) ∨ (r = .agg #[.string u0, .int .i64 u1, .int .i64 u2, .int .i64 u3, .slice u4 u5 u6] ∧ z = y ∧ q = E2)) → ∀ W, Calls Tryz.prog 31 #[r, .int .i64 z] W fun e w' => e = .returned (.bool q) ∧ Ext W w') := hI (fun r z q hs W => by
      rcases hs with ⟨rfl, rfl, rfl⟩ | ⟨rfl, rfl, rfl⟩
      ·exact HE1.out W
      ·exact HE2.out W)
     clear HE1 HE2 HEX
     have HOK2 : Hid OKP := hI (HOK.out rfl rfl hf1 (.inl rfl))
     clear HOK
     have hoe := HOE.out
     go_enter Tryz.func116, Tryz.ntmps116
     (go_wp2_with fail; refine (HW.out _ (xA (xA xR))).mono ?_; rintro e w1 ⟨rfl, hx1⟩; obtain ⟨hc1, hf1, hs1⟩ := hx1.all; (try simp at hs1); have := (show w.heap.size < w1.heap.size from by omega); have := (show w.heap.size + 1 < w1.heap.size from by omega))
     (go_wp2_with fail; refine (HCH.out _).mono ?_; rintro e w2 ⟨rfl, hx2⟩; obtain ⟨hc2, hf2, hs2⟩ := hx2.all; (try simp at hs2); have := (show w.heap.size < w2.heap.size from by omega); have := (show w.heap.size + 1 < w2.heap.size from by omega))
     have hB2 : Blk w2 w.heap.size 27 #[.slice (some ⟨b, off, none⟩) n c, .slice A' m c'] := Blk.eq (bE hx2 (bE hx1 (bA (bN (by omega))))) (by rfl)
     have hB3 : Blk w2 (w.heap.size + 1) 68 #[.int .i64 y, .int .i64 k, .string s0, .string s1, .string s2, .string s3] := Blk.eq (bE hx2 (bE hx1 (bN (by first|omega|simp)))) (by rfl)
     have g0 : w2.cell? ⟨w.heap.size, 0, none⟩ = some (.slice (some ⟨b, off, none⟩) n c) := hB2.cell 0
     have g1 : w2.cell? ⟨w.heap.size, 1, none⟩ = some (.slice A' m c') := hB2.cell 1
     have kc0 : w2.cell? ⟨w.heap.size + 1, 0, none⟩ = some (.int .i64 y) := hB3.cell 0
     have kc1 : w2.cell? ⟨w.heap.size + 1, 1, none⟩ = some (.int .i64 k) := hB3.cell 1
     have kc2 : w2.cell? ⟨w.heap.size + 1, 2, none⟩ = some (.string s0) := hB3.cell 2
     have kc3 : w2.cell? ⟨w.heap.size + 1, 3, none⟩ = some (.string s1) := hB3.cell 3
     have kc4 : w2.cell? ⟨w.heap.size + 1, 4, none⟩ = some (.string s2) := hB3.cell 4
     have kc5 : w2.cell? ⟨w.heap.size + 1, 5, none⟩ = some (.string s3) := hB3.cell 5
     have hl2 := hB2.lt
     have hl3 := hB3.lt
     have hX2 : Ext w w2 := by clear hB2 hB3; exact xT (xT (xA (xA xR)) hx1) hx2
     have HX2 := hI hX2
     have x0 := (hX2.cell b _ hb).trans p0
     have x1 := (hX2.cell b _ hb).trans p1
     have x2 := (hX2.cell b _ hb).trans p2
     have x3 := (hX2.cell b _ hb).trans p3
     have x4 := (hX2.cell b _ hb).trans p4
     have hb2 : b < w2.heap.size := Nat.lt_of_lt_of_le hb hX2.size
     go_wp2
     (refine wp_region_ext (by kernel_rfl) (by kernel_rfl) ?_; (repeat (go_big_quiet_step ((go_at_call 27; exact Calls_same (HFF.out _ _ (by first | exact .inl ⟨rfl, rfl⟩ | exact .inr ⟨rfl, rfl⟩) _ (HX2.out.trans (Ext.trans xR (ExtOf.ext _)))))))); refine wpQuiet_nil ?_; intro wq hxwq; obtain ⟨hcwq, hfwq, hswq⟩ := hxwq.all; (try simp at hswq))
     (have := (show w.heap.size < wq.heap.size from by omega); have := (show w.heap.size + 1 < wq.heap.size from by omega); have := (show b < wq.heap.size from by omega))
     cases hv1 : E1 with
     | false =>
      rw [hv1] at HEE
      clear hv1
      go_wp2
      (refine wp_region_ext (by kernel_rfl) (by kernel_rfl) ?_; (repeat (go_big_quiet_step ((go_at_call 31; exact Calls_ext (HEE.out _ _ _ (by first | exact .inl ⟨rfl, rfl, rfl⟩ | exact .inr ⟨rfl, rfl, rfl⟩) _))))); refine wpQuiet_nil ?_; intro wr hxwr; obtain ⟨hcwr, hfwr, hswr⟩ := hxwr.all; (try simp at hswr))
      go_wp2
      go_ret
      exact ⟨5, rfl, fun e => absurd e (by decide), xT (xT hX2 hxwq) hxwr⟩
     | true =>
      rw [hv1] at HEE
      clear hv1
      rcases Decidable.em (k = 1) with hk1p | hk1p
      ·have hk1 : decide (k = 1) = true := decide_eq_true hk1p
       go_wp2
       (refine wp_region_ext (by kernel_rfl) (by kernel_rfl) ?_; (repeat (go_big_quiet_step ((go_at_call 31; exact Calls_ext (HEE.out _ _ _ (by first | exact .inl ⟨rfl, rfl, rfl⟩ | exact .inr ⟨rfl, rfl, rfl⟩) _))))); refine wpQuiet_nil ?_; intro wr hxwr; obtain ⟨hcwr, hfwr, hswr⟩ := hxwr.all; (try simp at hswr))
       go_wp2
       go_ret
       exact ⟨0, rfl, fun _ => HOK2.out, xT (xT hX2 hxwq) hxwr⟩
      ·have hk1 : decide (k = 1) = false := decide_eq_false hk1p
       have hk1b : (k != 1) = true := by simp [hk1p]
       clear hk1p
       cases hv2 : E2 with
       | false =>
        rw [hv2] at HEE
        clear hv2
        go_wp2
        (refine wp_region_ext (by kernel_rfl) (by kernel_rfl) ?_; (repeat (go_big_quiet_step ((go_at_call 31; exact Calls_ext (HEE.out _ _ _ (by first | exact .inl ⟨rfl, rfl, rfl⟩ | exact .inr ⟨rfl, rfl, rfl⟩) _))))); refine wpQuiet_nil ?_; intro wr hxwr; obtain ⟨hcwr, hfwr, hswr⟩ := hxwr.all; (try simp at hswr))
        go_wp2
        go_ret
        exact ⟨5, rfl, fun e => absurd e (by decide), xT (xT hX2 hxwq) hxwr⟩
       | true =>
        rw [hv2] at HEE
        clear hv2
        go_wp2
        (refine wp_region_ext (by kernel_rfl) (by kernel_rfl) ?_; (repeat (go_big_quiet_step ((go_at_call 31; exact Calls_ext (HEE.out _ _ _ (by first | exact .inl ⟨rfl, rfl, rfl⟩ | exact .inr ⟨rfl, rfl, rfl⟩) _))))); refine wpQuiet_nil ?_; intro wr hxwr; obtain ⟨hcwr, hfwr, hswr⟩ := hxwr.all; (try simp at hswr))
        go_wp2
        go_ret
        exact ⟨0, rfl, fun _ => HOK2.out, xT (xT hX2 hxwq) hxwr⟩
    | false =>
     have hoe := HOE.out
     by_cases hf2 : f2 < 0
     ·
      go_enter Tryz.func116, Tryz.ntmps116
      (go_wp2_with fail; refine (HW.out _ (xA (xA xR))).mono ?_; rintro e w1 ⟨rfl, hx1⟩; obtain ⟨hc1, hf1, hs1⟩ := hx1.all; (try simp at hs1); have := (show w.heap.size < w1.heap.size from by omega); have := (show w.heap.size + 1 < w1.heap.size from by omega))
      (go_wp2_with fail; refine (HCH.out _).mono ?_; rintro e w2 ⟨rfl, hx2⟩; obtain ⟨hc2, hf2, hs2⟩ := hx2.all; (try simp at hs2); have := (show w.heap.size < w2.heap.size from by omega); have := (show w.heap.size + 1 < w2.heap.size from by omega))
      have hB2 : Blk w2 w.heap.size 27 #[.slice (some ⟨b, off, none⟩) n c, .slice A' m c'] := Blk.eq (bE hx2 (bE hx1 (bA (bN (by omega))))) (by rfl)
      have hB3 : Blk w2 (w.heap.size + 1) 68 #[.int .i64 y, .int .i64 k, .string s0, .string s1, .string s2, .string s3] := Blk.eq (bE hx2 (bE hx1 (bN (by first|omega|simp)))) (by rfl)
      have g0 : w2.cell? ⟨w.heap.size, 0, none⟩ = some (.slice (some ⟨b, off, none⟩) n c) := hB2.cell 0
      have g1 : w2.cell? ⟨w.heap.size, 1, none⟩ = some (.slice A' m c') := hB2.cell 1
      have kc0 : w2.cell? ⟨w.heap.size + 1, 0, none⟩ = some (.int .i64 y) := hB3.cell 0
      have kc1 : w2.cell? ⟨w.heap.size + 1, 1, none⟩ = some (.int .i64 k) := hB3.cell 1
      have kc2 : w2.cell? ⟨w.heap.size + 1, 2, none⟩ = some (.string s0) := hB3.cell 2
      have kc3 : w2.cell? ⟨w.heap.size + 1, 3, none⟩ = some (.string s1) := hB3.cell 3
      have kc4 : w2.cell? ⟨w.heap.size + 1, 4, none⟩ = some (.string s2) := hB3.cell 4
      have kc5 : w2.cell? ⟨w.heap.size + 1, 5, none⟩ = some (.string s3) := hB3.cell 5
      have hl2 := hB2.lt
      have hl3 := hB3.lt
      have hX2 : Ext w w2 := by clear hB2 hB3; exact xT (xT (xA (xA xR)) hx1) hx2
      have HX2 := hI hX2
      have x0 := (hX2.cell b _ hb).trans p0
      have x1 := (hX2.cell b _ hb).trans p1
      have x2 := (hX2.cell b _ hb).trans p2
      have x3 := (hX2.cell b _ hb).trans p3
      have x4 := (hX2.cell b _ hb).trans p4
      have hb2 : b < w2.heap.size := Nat.lt_of_lt_of_le hb hX2.size
      go_wp2
      (refine wp_region_ext (by kernel_rfl) (by kernel_rfl) ?_; (repeat (go_big_quiet_step ((go_at_call 27; exact Calls_same (HFF.out _ _ (by first | exact .inl ⟨rfl, rfl⟩ | exact .inr ⟨rfl, rfl⟩) _ (HX2.out.trans (Ext.trans xR (ExtOf.ext _)))))))); refine wpQuiet_nil ?_; intro wq hxwq; obtain ⟨hcwq, hfwq, hswq⟩ := hxwq.all; (try simp at hswq))
      go_wp2
      go_ret
      exact ⟨4, rfl, fun e => absurd e (by decide), xT hX2 hxwq⟩
     ·obtain ⟨k2, e2, hk2, _⟩ := HH2.out hf2
      have HOK2 : Hid OKP := hI (HOK.out rfl rfl hf1 (.inr hf2))
      clear HOK
      rw [HPL.out] at hk2
      have hk2n : k2 < n := by rw [HN.out]; exact hk2
      obtain ⟨b', off', hA', hb', r0, r1, r2, r3, r4⟩ := HSQ.out.pl hk2
      injection hA' with hA'
      injection hA' with e3 e4
      subst e3 e4
      have HR2 : Hid (plV (ps.getD k2 plD) = .agg #[.string (tx (ps.getD k2 plD).1), .int .i64 (ps.getD k2 plD).2.1, .int .i64 (ps.getD k2 plD).2.2.1, .int .i64 (ps.getD k2 plD).2.2.2.1, .slice (ps.getD k2 plD).2.2.2.2.1 (ps.getD k2 plD).2.2.2.2.2.2.length (ps.getD k2 plD).2.2.2.2.2.1]) := hI rfl
      have HE3 := hI (fun W => HEX.out (ps.getD k2 plD) y W)
      rw [HR2.out] at HE3
      clear HR2
      generalize exB (pdOf (ps.getD k2 plD)) y = E3 at *
      generalize ps.getD k2 plD = q2 at *
      generalize tx q2.1 = t0 at *
      generalize q2.2.1 = t1 at *
      generalize q2.2.2.1 = t2 at *
      generalize q2.2.2.2.1 = t3 at *
      generalize q2.2.2.2.2.1 = t4 at *
      generalize q2.2.2.2.2.2.2.length = t5 at *
      generalize q2.2.2.2.2.2.1 = t6 at *
      subst e2
      have h0k2 : (0 : Int) ≤ (k2 : Int) := by omega
      have HEE : Hid (∀ (r : Value) (z : Int) (q : Bool), ((r = .agg #[.string u0, .int .i64 u1, .int .i64 u2, .int .i64 u3, .slice u4 u5 u6] ∧ z = y - 1 ∧ q = E1) ∨ (r = .agg #[.string u0, .int .i64 u1, .int .i64 u2, .int .i64 u3, .slice u4 u5 u6] ∧ z = y ∧ q = E2) ∨ (r = .agg #[.string t0, .int .i64 t1, .int .i64 t2, .int .i64 t3, .slice t4 t5 t6] ∧ z = y ∧ q = E3)) → ∀ W, Calls Tryz.prog 31 #[r, .int .i64 z] W fun e w' => e = .returned (.bool q) ∧ Ext W w') := hI (fun r z q hs W => by
       rcases hs with ⟨rfl, rfl, rfl⟩ | ⟨rfl, rfl, rfl⟩ | ⟨rfl, rfl, rfl⟩
       ·exact HE1.out W
       ·exact HE2.out W
       ·exact HE3.out W)
      clear HE1 HE2 HE3 HEX
      go_enter Tryz.func116, Tryz.ntmps116
      (go_wp2_with fail; refine (HW.out _ (xA (xA xR))).mono ?_; rintro e w1 ⟨rfl, hx1⟩; obtain ⟨hc1, hf1, hs1⟩ := hx1.all; (try simp at hs1); have := (show w.heap.size < w1.heap.size from by omega); have := (show w.heap.size + 1 < w1.heap.size from by omega))
      (go_wp2_with fail; refine (HCH.out _).mono ?_; rintro e w2 ⟨rfl, hx2⟩; obtain ⟨hc2, hf2, hs2⟩ := hx2.all; (try simp at hs2); have := (show w.heap.size < w2.heap.size from by omega); have := (show w.heap.size + 1 < w2.heap.size from by omega))
      have hB2 : Blk w2 w.heap.size 27 #[.slice (some ⟨b, off, none⟩) n c, .slice A' m c'] := Blk.eq (bE hx2 (bE hx1 (bA (bN (by omega))))) (by rfl)
      have hB3 : Blk w2 (w.heap.size + 1) 68 #[.int .i64 y, .int .i64 k, .string s0, .string s1, .string s2, .string s3] := Blk.eq (bE hx2 (bE hx1 (bN (by first|omega|simp)))) (by rfl)
      have g0 : w2.cell? ⟨w.heap.size, 0, none⟩ = some (.slice (some ⟨b, off, none⟩) n c) := hB2.cell 0
      have g1 : w2.cell? ⟨w.heap.size, 1, none⟩ = some (.slice A' m c') := hB2.cell 1
      have kc0 : w2.cell? ⟨w.heap.size + 1, 0, none⟩ = some (.int .i64 y) := hB3.cell 0
      have kc1 : w2.cell? ⟨w.heap.size + 1, 1, none⟩ = some (.int .i64 k) := hB3.cell 1
      have kc2 : w2.cell? ⟨w.heap.size + 1, 2, none⟩ = some (.string s0) := hB3.cell 2
      have kc3 : w2.cell? ⟨w.heap.size + 1, 3, none⟩ = some (.string s1) := hB3.cell 3
      have kc4 : w2.cell? ⟨w.heap.size + 1, 4, none⟩ = some (.string s2) := hB3.cell 4
      have kc5 : w2.cell? ⟨w.heap.size + 1, 5, none⟩ = some (.string s3) := hB3.cell 5
      have hl2 := hB2.lt
      have hl3 := hB3.lt
      have hX2 : Ext w w2 := by clear hB2 hB3; exact xT (xT (xA (xA xR)) hx1) hx2
      have HX2 := hI hX2
      have x0 := (hX2.cell b _ hb).trans p0
      have x1 := (hX2.cell b _ hb).trans p1
      have x2 := (hX2.cell b _ hb).trans p2
      have x3 := (hX2.cell b _ hb).trans p3
      have x4 := (hX2.cell b _ hb).trans p4
      have hb2 : b < w2.heap.size := Nat.lt_of_lt_of_le hb hX2.size
      have v0 := (hX2.cell b _ hb).trans r0
      have v1 := (hX2.cell b _ hb).trans r1
      have v2 := (hX2.cell b _ hb).trans r2
      have v3 := (hX2.cell b _ hb).trans r3
      have v4 := (hX2.cell b _ hb).trans r4
      go_wp2
      (refine wp_region_ext (by kernel_rfl) (by kernel_rfl) ?_; (repeat (go_big_quiet_step ((go_at_call 27; exact Calls_same (HFF.out _ _ (by first | exact .inl ⟨rfl, rfl⟩ | exact .inr ⟨rfl, rfl⟩) _ (HX2.out.trans (Ext.trans xR (ExtOf.ext _)))))))); refine wpQuiet_nil ?_; intro wq hxwq; obtain ⟨hcwq, hfwq, hswq⟩ := hxwq.all; (try simp at hswq))
      (have := (show w.heap.size < wq.heap.size from by omega); have := (show w.heap.size + 1 < wq.heap.size from by omega); have := (show b < wq.heap.size from by omega))
      cases hv1 : E1 with
      | false =>
       rw [hv1] at HEE
       clear hv1
       go_wp2
       (refine wp_region_ext (by kernel_rfl) (by kernel_rfl) ?_; (repeat (go_big_quiet_step ((go_at_call 31; exact Calls_ext (HEE.out _ _ _ (by first | exact .inl ⟨rfl, rfl, rfl⟩ | exact .inr (.inl ⟨rfl, rfl, rfl⟩) | exact .inr (.inr ⟨rfl, rfl, rfl⟩)) _))))); refine wpQuiet_nil ?_; intro wr hxwr; obtain ⟨hcwr, hfwr, hswr⟩ := hxwr.all; (try simp at hswr))
       go_wp2
       go_ret
       exact ⟨5, rfl, fun e => absurd e (by decide), xT (xT hX2 hxwq) hxwr⟩
      | true =>
       rw [hv1] at HEE
       clear hv1
       rcases Decidable.em (k = 1) with hk1p | hk1p
       ·have hk1 : decide (k = 1) = true := decide_eq_true hk1p
        cases hv3 : E3 with
        | false =>
         rw [hv3] at HEE
         clear hv3
         go_wp2
         (refine wp_region_ext (by kernel_rfl) (by kernel_rfl) ?_; (repeat (go_big_quiet_step ((go_at_call 31; exact Calls_ext (HEE.out _ _ _ (by first | exact .inl ⟨rfl, rfl, rfl⟩ | exact .inr (.inl ⟨rfl, rfl, rfl⟩) | exact .inr (.inr ⟨rfl, rfl, rfl⟩)) _))))); refine wpQuiet_nil ?_; intro wr hxwr; obtain ⟨hcwr, hfwr, hswr⟩ := hxwr.all; (try simp at hswr))
         go_wp2
         go_ret
         exact ⟨5, rfl, fun e => absurd e (by decide), xT (xT hX2 hxwq) hxwr⟩
        | true =>
         rw [hv3] at HEE
         clear hv3
         go_wp2
         (refine wp_region_ext (by kernel_rfl) (by kernel_rfl) ?_; (repeat (go_big_quiet_step ((go_at_call 31; exact Calls_ext (HEE.out _ _ _ (by first | exact .inl ⟨rfl, rfl, rfl⟩ | exact .inr (.inl ⟨rfl, rfl, rfl⟩) | exact .inr (.inr ⟨rfl, rfl, rfl⟩)) _))))); refine wpQuiet_nil ?_; intro wr hxwr; obtain ⟨hcwr, hfwr, hswr⟩ := hxwr.all; (try simp at hswr))
         go_wp2
         go_ret
         exact ⟨0, rfl, fun _ => HOK2.out, xT (xT hX2 hxwq) hxwr⟩
       ·have hk1 : decide (k = 1) = false := decide_eq_false hk1p
        have hk1b : (k != 1) = true := by simp [hk1p]
        clear hk1p
        cases hv2 : E2 with
        | false =>
         rw [hv2] at HEE
         clear hv2
         go_wp2
         (refine wp_region_ext (by kernel_rfl) (by kernel_rfl) ?_; (repeat (go_big_quiet_step ((go_at_call 31; exact Calls_ext (HEE.out _ _ _ (by first | exact .inl ⟨rfl, rfl, rfl⟩ | exact .inr (.inl ⟨rfl, rfl, rfl⟩) | exact .inr (.inr ⟨rfl, rfl, rfl⟩)) _))))); refine wpQuiet_nil ?_; intro wr hxwr; obtain ⟨hcwr, hfwr, hswr⟩ := hxwr.all; (try simp at hswr))
         go_wp2
         go_ret
         exact ⟨5, rfl, fun e => absurd e (by decide), xT (xT hX2 hxwq) hxwr⟩
        | true =>
         rw [hv2] at HEE
         clear hv2
         cases hv3 : E3 with
         | false =>
          rw [hv3] at HEE
          clear hv3
          go_wp2
          (refine wp_region_ext (by kernel_rfl) (by kernel_rfl) ?_; (repeat (go_big_quiet_step ((go_at_call 31; exact Calls_ext (HEE.out _ _ _ (by first | exact .inl ⟨rfl, rfl, rfl⟩ | exact .inr (.inl ⟨rfl, rfl, rfl⟩) | exact .inr (.inr ⟨rfl, rfl, rfl⟩)) _))))); refine wpQuiet_nil ?_; intro wr hxwr; obtain ⟨hcwr, hfwr, hswr⟩ := hxwr.all; (try simp at hswr))
          go_wp2
          go_ret
          exact ⟨5, rfl, fun e => absurd e (by decide), xT (xT hX2 hxwq) hxwr⟩
         | true =>
          rw [hv3] at HEE
          clear hv3
          go_wp2
          (refine wp_region_ext (by kernel_rfl) (by kernel_rfl) ?_; (repeat (go_big_quiet_step ((go_at_call 31; exact Calls_ext (HEE.out _ _ _ (by first | exact .inl ⟨rfl, rfl, rfl⟩ | exact .inr (.inl ⟨rfl, rfl, rfl⟩) | exact .inr (.inr ⟨rfl, rfl, rfl⟩)) _))))); refine wpQuiet_nil ?_; intro wr hxwr; obtain ⟨hcwr, hfwr, hswr⟩ := hxwr.all; (try simp at hswr))
          go_wp2
          go_ret
          exact ⟨0, rfl, fun _ => HOK2.out, xT (xT hX2 hxwq) hxwr⟩
def LkR (w : World) (A : Option Addr) (m c : Nat) (L : List Lk) : Prop := SlAt w 4 encK A L ∧ m = L.length ∧ m ≤ c ∧ Links L
theorem LkR.ext {w w' : World} {A : Option Addr} {m c : Nat} {L : List Lk} (h : LkR w A m c L) (hx : Ext w w') : LkR w' A m c L := ⟨h.1.ext hx, h.2⟩
def LkE (P : Value) (e : Ending) (w' : World) : Prop := ∃ (A2 : Option Addr) (m2 c2 : Nat) (L2 : List Lk) (q : Int), e = .returned (.tuple #[.agg #[P, .slice A2 m2 c2], .int .i64 q]) ∧ LkR w' A2 m2 c2 L2 ∧ m2 ≤ 21
theorem s_l13LinksR (A9 A8 A' : Option Addr) (n9 c9 n8 c8 m c' : Nat) (L8 LM : List Lk) (w : World) (h8 : LkR w A8 n8 c8 L8) (hn8 : n8 ≤ 21) (h : LkR w A' m c' LM) (hl : m ≤ 1048576) :
  Calls Tryz.prog 118 #[.agg #[.slice A9 n9 c9, .slice A8 n8 c8], .slice A' m c'] w fun e w' => LkE (.slice A9 n9 c9) e w' ∧ Ext w w' := by
 refine (s_l13Links A9 A8 A' n9 c9 n8 c8 m c' LM w h.1 h.2.1 (by have := h.2.1; omega) h.2.2.2).mono ?_
 rintro e w' ⟨hA, hx⟩
 rcases hA with ⟨e1, h20, _⟩ | ⟨code, _, e1⟩
 ·exact ⟨⟨_, _, _, _, _, e1, h.ext hx, by omega⟩, hx⟩
 ·exact ⟨⟨_, _, _, _, _, e1, h8.ext hx, hn8⟩, hx⟩
theorem set1 {cur : Array Value} {ps : List Pl} {k : Nat} {v : Value} (hs : ps.length * 5 ≤ cur.size) (hk : k < ps.length) (htk : cur.toList.take (ps.length * 5) = ps.flatMap encQ) :
  (∀ i, ¬ i / 5 = k → (cur.setIfInBounds (k * 5 + 4) v)[i]? = cur[i]?) ∧
  (∀ j u, [.string (tx (ps.getD k plD).1), .int .i64 (ps.getD k plD).2.1, .int .i64 (ps.getD k plD).2.2.1, .int .i64 (ps.getD k plD).2.2.2.1, v][j]? = some u → (cur.setIfInBounds (k * 5 + 4) v)[k * 5 + j]? = some u) := by
 have hb : k * 5 + 4 < cur.size := by omega
 refine ⟨fun i hi => by rw [sget hb, if_neg (by omega)], fun j u hj => ?_⟩
 have hj5 : j < 5 := (List.getElem?_eq_some_iff.1 hj).1
 rw [sget hb]
 by_cases e : j = 4
 ·subst e
  rw [if_pos rfl]
  exact hj
 ·rw [if_neg (by omega)]
  have hp : ps[k]? = some (ps.getD k plD) := by simp [List.getD, hk]
  have hj' : (encQ (ps.getD k plD))[j]? = some u := by
   rw [← hj]
   unfold encQ
   rcases j with _ | _ | _ | _ | _ | j
   ·rfl
   ·rfl
   ·rfl
   ·rfl
   ·exact absurd rfl e
   ·omega
  have hfm := flatMap_at (enc := encQ) (sz := 5) len_encQ ps k _ j u hp hj'
  rw [← htk, List.getElem?_take] at hfm
  split at hfm
  ·rw [← Array.getElem?_toList]; exact hfm
  ·cases hfm
def RnV (lo : Nat) (W : World) (v : Value) : Prop := ∃ ms : List Nm, OwN W lo v ms ∧ GNs ms ∧ ms.length ≤ 1000
theorem RnV.ext {lo : Nat} {W W' : World} {v : Value} (h : RnV lo W v) (hx : Ext W W') : RnV lo W' v := by
 obtain ⟨ms, h1, h2⟩ := h
 exact ⟨ms, h1.ext hx, h2⟩
def RgRn (lo : Nat) (p0 v1 k q3 q4 v5 p6 v7 p8 v9 p10 v11 : Value) : Nat → Value → World → Prop
 | 0, v, _ => v = p0
 | 1, v, _ => v = v1
 | 2, v, _ => v = k
 | 3, v, _ => v = q3
 | 4, v, _ => v = q4
 | 5, v, _ => v = v5
 | 6, v, _ => v = p6
 | 7, v, _ => v = v7
 | 8, v, _ => v = p8
 | 9, v, _ => v = v9
 | 10, v, _ => v = p10
 | 11, v, _ => v = v11
 | 12, v, W => ∃ (u : Value) (m : Int), v = .tuple #[u, .int .i64 m] ∧ RnV lo W u
 | 13, v, W => ∃ (u : Value) (m : Int), v = .tuple #[u, .int .i64 m] ∧ RnV lo W u
 | 14, v, W => RnV lo W v
 | 15, v, _ => ∃ m : Int, v = .int .i64 m
 | 16, v, W => RnV lo W v
 | 17, v, _ => ∃ m : Int, v = .int .i64 m
 | _, _, _ => True
theorem RgRn.stay {lo : Nat} {p0 v1 k q3 q4 v5 p6 v7 p8 v9 p10 v11 : Value} (i : Nat) (v : Value) (w w' : World) (hk : Ext w w') (h : RgRn lo p0 v1 k q3 q4 v5 p6 v7 p8 v9 p10 v11 i v w) : RgRn lo p0 v1 k q3 q4 v5 p6 v7 p8 v9 p10 v11 i v w' := by
 rcases i with _ | _ | _ | _ | _ | _ | _ | _ | _ | _ | _ | _ | _ | _ | _ | _ | _ | _ | i
 all_goals first | exact h | exact RnV.ext h hk | (obtain ⟨u, m, e, hr⟩ := h; exact ⟨u, m, e, hr.ext hk⟩) | trivial
set_option maxRecDepth 20000 in
set_option maxHeartbeats 25600000 in
theorem s_l13Rename (A A' : Option Addr) (n c m c' : Nat) (ps : List Pl) (L : List Lk) (y k : Int) (co ot la te : List UInt8) (w : World) (h : WIn w A A' n c m c' ps L) (hn : n ≤ 1000) (hm : m ≤ 1000) (hf : ¬ fnxP (psD ps) co < 0) (hla : la.length ≤ 1048576) (hte : te.length ≤ 1048576) (hy : -100000 ≤ y ∧ y ≤ 100000) :
  Calls Tryz.prog 117 #[.agg #[.slice A n c, .slice A' m c'], .agg #[.int .i64 y, .int .i64 k, .string (tx co), .string (tx ot), .string (tx la), .string (tx te)]] w fun e w' => RdA e w' ∧ Ext w w' := by
 have HF := hI (fun W (hW : Ext w W) => s_l11Find A n c ps co W (h.sq.ext hW) h.hn (by have := h.hn; have := h.hl; omega))
 obtain ⟨k1, e1, hk, _⟩ := has_some hf
 rw [psD_len] at hk
 have hkn : k1 < n := by rw [h.hn]; exact hk
 rw [e1] at HF
 obtain ⟨b, off, hA, hb, p0, p1, p2, p3, p4⟩ := h.sq.pl hk
 subst hA
 have hvk := h.pl _ (pl_mem hk)
 have HR := hI (fun W (hW : Ext w W) => s_RenameIn (ps.getD k1 plD).2.2.2.2.1 _ (ps.getD k1 plD).2.2.2.2.2.1 (ps.getD k1 plD).2.2.2.2.2.2 la te y W (hvk.1.ext hW) rfl hvk.2.2.2.1 hvk.2.2.2.2 hla hte hy)
 have HS := hI h.sq
 have HPP := hI h.pl
 have HN := hI h.hn
 have HSK : Hid (SlAt w 4 encK A' L ∧ m = L.length ∧ L.length ≤ 1048576 ∧ m ≤ c' ∧ Links L) := hI ⟨h.sk, h.hm, h.hl', h.cap, h.lg⟩
 have HWI := hI h
 have HK := hI hk
 have HC1 : Hid ((ps.getD k1 plD).1.length ≤ 1048576) := hI hvk.2.2.1
 have HPE : Hid (∀ (A7 : Option Addr) (c7 : Nat) (ms : List Nm), encQ ((ps.getD k1 plD).1, (ps.getD k1 plD).2.1, (ps.getD k1 plD).2.2.1, (ps.getD k1 plD).2.2.2.1, A7, c7, ms) = [.string (tx (ps.getD k1 plD).1), .int .i64 (ps.getD k1 plD).2.1, .int .i64 (ps.getD k1 plD).2.2.1, .int .i64 (ps.getD k1 plD).2.2.2.1, .slice A7 ms.length c7]) := hI (fun _ _ _ => rfl)
 clear h hf hvk e1 hla hte hy hk p0 p1 p2 p3
 obtain ⟨u4, hu4⟩ : ∃ u, u = (ps.getD k1 plD).2.2.2.2.1 := ⟨_, rfl⟩
 obtain ⟨u5, hu5⟩ : ∃ u, u = (ps.getD k1 plD).2.2.2.2.2.2.length := ⟨_, rfl⟩
 obtain ⟨u6, hu6⟩ : ∃ u, u = (ps.getD k1 plD).2.2.2.2.2.1 := ⟨_, rfl⟩
 rw [← hu4, ← hu5, ← hu6] at HR p4
 clear hu4 hu5 hu6
 generalize tx co = s0 at *
 generalize tx ot = s1 at *
 generalize tx la = s2 at *
 generalize tx te = s3 at *
 have h0k : (0 : Int) ≤ (k1 : Int) := by omega
 go_enter Tryz.func117, Tryz.ntmps117
 (go_wp2_with fail; refine (HF.out _ (xA (xA (xA xR)))).mono ?_; rintro e w' ⟨rfl, rfl⟩)
 go_upto_region 2 with (fail)
 obtain ⟨w1, hw1⟩ : ∃ z, z = (((w.alloc (.cells #[.slice (some ⟨b, off, none⟩) n c, .slice A' m c'] 27)).alloc (.cells #[.int .i64 y, .int .i64 k, .string s0, .string s1, .string s2, .string s3] 68)).alloc (.cells #[.slice none 0 0, .slice none 0 0] 27)) := ⟨_, rfl⟩
 have HX1 : Hid (Ext w w1) := hI (by rw [hw1]; exact xA (xA (xA xR)))
 have HB1 : Hid (Blk w1 w.heap.size 27 #[.slice (some ⟨b, off, none⟩) n c, .slice A' m c']) := hI (by rw [hw1]; exact bA (bA (bN (by omega))))
 have HB2 : Hid (Blk w1 (w.heap.size + 1) 68 #[.int .i64 y, .int .i64 k, .string s0, .string s1, .string s2, .string s3]) := hI (by rw [hw1]; exact bA (bN (by first|omega|simp)))
 have HB3 : Hid (Blk w1 (w.heap.size + 2) 27 #[.slice none 0 0, .slice none 0 0]) := hI (by rw [hw1]; exact bN (by first|omega|simp))
 rw [← hw1]
 clear hw1
 have hsz1 := HB3.out.lt
 go_cut [7, 8] (fun v q wx => ∃ m9 : Int, q = .int .i64 m9 ∧ Hid (RnV w1.heap.size wx v) ∧ Hid (Ext w1 wx))
 case first =>
  refine wp_region_rgb (m := 18) (C := Ext w1) (K := Ext) (R := RgRn w1.heap.size (.pointer (some ⟨w.heap.size, 0, none⟩)) (.slice (some ⟨b, off, none⟩) n c) (.int .i64 (k1 : Int)) (.pointer (some ⟨b, off + k1 * 5, none⟩)) (.pointer (some ⟨b, off + k1 * 5 + 4, none⟩)) (.slice u4 u5 u6) (.pointer (some ⟨w.heap.size + 1, 4, none⟩)) (.string s2) (.pointer (some ⟨w.heap.size + 1, 0, none⟩)) (.int .i64 y) (.pointer (some ⟨w.heap.size + 1, 5, none⟩)) (.string s3)) Tryz.f117.ntmps (by kernel_rfl) (by kernel_rfl) (by simp) (by rw [Tryz.ntmps117]; simp) (fun i v w w' => RgRn.stay i v w w') ?hC ?hstep ?hend
  case hC => exact (Ext.refl _).drew
  case hstep =>
   simp only [List.take_succ_cons, List.take_zero]
   refine AllFrom.cons ?_ <| AllFrom.cons ?_ <| AllFrom.cons ?_ <| AllFrom.cons ?_ <| AllFrom.cons ?_ <| AllFrom.cons ?_ <| AllFrom.cons ?_ <| AllFrom.cons ?_ <| AllFrom.cons ?_ <| AllFrom.cons ?_ <| AllFrom.cons ?_ <| AllFrom.cons ?_ <| AllFrom.cons ?_ <| AllFrom.cons ?_ <| AllFrom.cons ?_ <| AllFrom.cons ?_ <| AllFrom.cons ?_ <| AllFrom.cons ?_ AllFrom.nil
   all_goals (intro a1 W hfr hdep hC; have HC := hI hC; clear hC)
   ·have t2 : a1.tmps.getD 2 undef = .pointer (some ⟨w.heap.size, 0, none⟩) := hfr.at_ rfl (by kernel_rfl)
    unfold Oper.wp
    go_simp
    exact ⟨_, rfl, rfl, Ext.refl _, HC.out⟩
   ·have t16 : a1.tmps.getD 16 undef = .pointer (some ⟨w.heap.size, 0, none⟩) := hdep ⟨0, .data⟩ (by simp) rfl _ rfl
    have t16q := tq t16
    have c0 : W.cell? ⟨w.heap.size, 0, none⟩ = some (.slice (some ⟨b, off, none⟩) n c) := (HB1.out.ext HC.out).cell 0
    unfold Oper.wp
    go_simp
    exact ⟨_, rfl, rfl, Ext.refl _, HC.out⟩
   ·have t6 : a1.tmps.getD 6 undef = .int .i64 (k1 : Int) := hfr.at_ rfl (by kernel_rfl)
    unfold Oper.wp
    go_simp
    exact ⟨_, rfl, rfl, Ext.refl _, HC.out⟩
   ·have t17 : a1.tmps.getD 17 undef = .slice (some ⟨b, off, none⟩) n c := hdep ⟨1, .data⟩ (by simp) rfl _ rfl
    have t17q := tq t17
    have t18 : a1.tmps.getD 18 undef = .int .i64 (k1 : Int) := hdep ⟨2, .data⟩ (by simp) rfl _ rfl
    have t18q := tq t18
    unfold Oper.wp
    go_simp
    exact ⟨_, rfl, rfl, Ext.refl _, HC.out⟩
   ·have t19 : a1.tmps.getD 19 undef = .pointer (some ⟨b, off + k1 * 5, none⟩) := hdep ⟨3, .data⟩ (by simp) rfl _ rfl
    have t19q := tq t19
    unfold Oper.wp
    go_simp
    exact ⟨_, rfl, rfl, Ext.refl _, HC.out⟩
   ·have t20 : a1.tmps.getD 20 undef = .pointer (some ⟨b, off + k1 * 5 + 4, none⟩) := hdep ⟨4, .data⟩ (by simp) rfl _ rfl
    have t20q := tq t20
    have c4 := ((HX1.out.trans HC.out).cell b _ hb).trans p4
    unfold Oper.wp
    go_simp
    exact ⟨_, rfl, rfl, Ext.refl _, HC.out⟩
   ·have t3 : a1.tmps.getD 3 undef = .pointer (some ⟨w.heap.size + 1, 0, none⟩) := hfr.at_ rfl (by kernel_rfl)
    unfold Oper.wp
    go_simp
    exact ⟨_, rfl, rfl, Ext.refl _, HC.out⟩
   ·have t22 : a1.tmps.getD 22 undef = .pointer (some ⟨w.heap.size + 1, 4, none⟩) := hdep ⟨6, .data⟩ (by simp) rfl _ rfl
    have t22q := tq t22
    have c4 : W.cell? ⟨w.heap.size + 1, 4, none⟩ = some (.string s2) := (HB2.out.ext HC.out).cell 4
    unfold Oper.wp
    go_simp
    exact ⟨_, rfl, rfl, Ext.refl _, HC.out⟩
   ·have t3 : a1.tmps.getD 3 undef = .pointer (some ⟨w.heap.size + 1, 0, none⟩) := hfr.at_ rfl (by kernel_rfl)
    unfold Oper.wp
    go_simp
    exact ⟨_, rfl, rfl, Ext.refl _, HC.out⟩
   ·have t24 : a1.tmps.getD 24 undef = .pointer (some ⟨w.heap.size + 1, 0, none⟩) := hdep ⟨8, .data⟩ (by simp) rfl _ rfl
    have t24q := tq t24
    have c0 : W.cell? ⟨w.heap.size + 1, 0, none⟩ = some (.int .i64 y) := (HB2.out.ext HC.out).cell 0
    unfold Oper.wp
    go_simp
    exact ⟨_, rfl, rfl, Ext.refl _, HC.out⟩
   ·have t3 : a1.tmps.getD 3 undef = .pointer (some ⟨w.heap.size + 1, 0, none⟩) := hfr.at_ rfl (by kernel_rfl)
    unfold Oper.wp
    go_simp
    exact ⟨_, rfl, rfl, Ext.refl _, HC.out⟩
   ·have t26 : a1.tmps.getD 26 undef = .pointer (some ⟨w.heap.size + 1, 5, none⟩) := hdep ⟨10, .data⟩ (by simp) rfl _ rfl
    have t26q := tq t26
    have c5 : W.cell? ⟨w.heap.size + 1, 5, none⟩ = some (.string s3) := (HB2.out.ext HC.out).cell 5
    unfold Oper.wp
    go_simp
    exact ⟨_, rfl, rfl, Ext.refl _, HC.out⟩
   ·have t21 : a1.tmps.getD 21 undef = .slice u4 u5 u6 := hdep ⟨5, .data⟩ (by simp) rfl _ rfl
    have t21q := tq t21
    have t23 : a1.tmps.getD 23 undef = .string s2 := hdep ⟨7, .data⟩ (by simp) rfl _ rfl
    have t23q := tq t23
    have t25 : a1.tmps.getD 25 undef = .int .i64 y := hdep ⟨9, .data⟩ (by simp) rfl _ rfl
    have t25q := tq t25
    have t27 : a1.tmps.getD 27 undef = .string s3 := hdep ⟨11, .data⟩ (by simp) rfl _ rfl
    have t27q := tq t27
    unfold Oper.wp
    go_simp
    refine (HR.out _ (HX1.out.trans HC.out)).mono ?_
    rintro e W2 ⟨v, m9, rfl, ⟨ms, hO, hG, hL⟩, hx2⟩
    have hsw := HC.out.size
    exact ⟨_, rfl, ⟨v, m9, rfl, ms, hO.less hsw, hG, hL⟩, hx2, HC.out.trans hx2⟩
   ·obtain ⟨v9, m9, t28, hv9⟩ : RgRn _ _ _ _ _ _ _ _ _ _ _ _ _ 12 (a1.tmps.getD 28 undef) W := hdep ⟨12, .data⟩ (by simp) rfl _ rfl
    have t28q := tq t28
    unfold Oper.wp
    go_simp
    exact ⟨_, rfl, ⟨v9, m9, rfl, hv9⟩, Ext.refl _, HC.out⟩
   ·obtain ⟨v9, m9, t15, hv9⟩ : RgRn _ _ _ _ _ _ _ _ _ _ _ _ _ 13 (a1.tmps.getD 15 undef) W := hdep ⟨13, .data⟩ (by simp) rfl _ rfl
    have t15q := tq t15
    unfold Oper.wp
    go_simp
    exact ⟨_, rfl, hv9, Ext.refl _, HC.out⟩
   ·obtain ⟨v9, m9, t15, hv9⟩ : RgRn _ _ _ _ _ _ _ _ _ _ _ _ _ 13 (a1.tmps.getD 15 undef) W := hdep ⟨13, .data⟩ (by simp) rfl _ rfl
    have t15q := tq t15
    unfold Oper.wp
    go_simp
    exact ⟨_, rfl, ⟨m9, rfl⟩, Ext.refl _, HC.out⟩
   ·obtain ⟨v9, t29⟩ : ∃ v9, a1.tmps.getD 29 undef = v9 := ⟨_, rfl⟩
    have hv9 : RnV w1.heap.size W (a1.tmps.getD 29 undef) := hdep ⟨14, .data⟩ (by simp) rfl _ rfl
    rw [t29] at hv9
    have t29q := tq t29
    unfold Oper.wp
    go_simp
    exact ⟨_, rfl, hv9, Ext.refl _, HC.out⟩
   ·obtain ⟨m9, t30⟩ : RgRn _ _ _ _ _ _ _ _ _ _ _ _ _ 15 (a1.tmps.getD 30 undef) W := hdep ⟨15, .data⟩ (by simp) rfl _ rfl
    have t30q := tq t30
    unfold Oper.wp
    go_simp
    exact ⟨_, rfl, ⟨m9, rfl⟩, Ext.refl _, HC.out⟩
  case hend =>
   intro a1 W hfr hR hC
   have hv7 : RnV w1.heap.size W (a1.tmps.getD 7 undef) := hR 16 _ (by omega) rfl
   obtain ⟨m9, t8⟩ : RgRn _ _ _ _ _ _ _ _ _ _ _ _ _ 17 (a1.tmps.getD 8 undef) W := hR 17 _ (by omega) rfl
   have t8q := tq t8
   have HC := hI hC
   have HV7 := hI hv7
   clear hC hv7
   refine wpAny_end (by kernel_rfl) ?_
   have hsh := hfr.shape [false, false, false, false, false, false, false, true, true, false, false, false, false, false, false, true, true, true, true, true, true, true, true, true, true, true, true, true, true, true, true, false, false, false, false, false, false, false, false, false, false, false, false, false, false, false, false, false] (by rfl) (by kernel_rfl)
   simp only [mixL] at hsh
   rw [hsh]
   go_wp2_with fail
   go_meet
   exact ⟨m9, by first | exact t8 | (simp [t8q]; done), by first | exact HV7 | exact hI (by simpa using HV7.out), HC⟩
 case rest =>
 obtain ⟨m9, rfl, HV7, HX⟩ := hcut
 obtain ⟨w2, rfl⟩ : ∃ z, z = wc := ⟨wc, rfl⟩
 obtain ⟨ms, hO7, hG7, hL7⟩ := HV7.out
 obtain ⟨A7, c7, rfl, hS7, hc7, _, hr7⟩ := hO7.sl len_encN
 have HS7 := hI hS7
 have HG7 := hI hG7
 have HR7 := hI hr7
 have HC7 := hI hc7
 obtain ⟨l7, hl7⟩ : ∃ l, l = ms.length := ⟨_, rfl⟩
 rw [← hl7] at hL7 ⊢
 have HL7 := hI hl7
 have hB1 := HB1.out.ext HX.out
 have hB2 := HB2.out.ext HX.out
 have hB3 := HB3.out.ext HX.out
 have HX2 : Hid (Ext w w2) := hI (HX1.out.trans HX.out)
 have HB12 := hI hB1
 have HB32 := hI hB3
 have g0 : w2.cell? ⟨w.heap.size, 0, none⟩ = some (.slice (some ⟨b, off, none⟩) n c) := hB1.cell 0
 have g1 : w2.cell? ⟨w.heap.size, 1, none⟩ = some (.slice A' m c') := hB1.cell 1
 have f30 := hB3.frozen 0
 have f31 := hB3.frozen 1
 have d30 : w2.cell? ⟨w.heap.size + 2, 0, none⟩ = some (.slice none 0 0) := hB3.cell 0
 have d31 : w2.cell? ⟨w.heap.size + 2, 1, none⟩ = some (.slice none 0 0) := hB3.cell 1
 have hl1 := hB1.lt
 have hl3 := hB3.lt
 clear hO7 hG7 hS7 hr7 hc7 hl7 hB1 hB2 hB3 HV7 HR HF
 rcases Decidable.em (m9 = 0) with hm9 | hm9
 ·subst hm9
  clear f30 f31 d30 d31
  go_wp2_with (at_builtin; refine wpList_append_sl elQd len_encQ one_encQ rfl _ _ rfl rfl (base := w2.heap.size) (ys := []) (Own.of_blk (xs := []) (bN (by omega)) len_encQ rfl (by first | exact Nat.le_refl _ | (simp; done) | (simp; omega)) (Nat.zero_le _)) (xs := ps) (by rw [← HN.out]; first | done | rfl) (HS.out.ext (by have h2 := HX2.out; exact xA h2)) ?_ ?_ ?_ ?_)
  ·have := HN.out; simp; unfold maxLen; omega
  ·have := HN.out; simp; omega
  ·first | omega | (simp; done) | (simp; omega)
  intro v6 w6 hown hgrow _
  have hO6 : OwQ w6 w2.heap.size v6 ps := hown
  have hx6 : Ext w2 w6 := Ext.grown (xA xR) hgrow (fun q hq => by rw [own_is hq]; first | exact Nat.le_refl _ | (simp; done) | (simp; omega))
  have hX6 : Ext w w6 := HX2.out.trans hx6
  have hkp := HK.out
  obtain ⟨g, cap, cur, rfl, hgb, hB6, hnc, hcm, hcs, htk⟩ := hO6.open_ (by omega)
  have hsz : k1 * 5 + 4 < cur.size := by omega
  have HSE := hI (set1 (v := .slice A7 l7 c7) (by omega) hkp htk)
  have HB6 := hI hB6
  have HTK := hI htk
  have HX6 := hI hX6
  have HS76 : Hid (SlAt w6 5 encN A7 ms) := hI (HS7.out.ext hx6)
  have hl6 := hB6.lt
  have f4 := hB6.frozen (k1 * 5 + 4)
  obtain ⟨y4, v4⟩ : ∃ u, w6.cell? ⟨g, k1 * 5 + 4, none⟩ = some u := ⟨cur[k1 * 5 + 4], by rw [HB6.out.cell]; exact Array.getElem?_eq_getElem (by omega)⟩
  have hB16 := HB12.out.ext hx6
  have hB36 := HB32.out.ext hx6
  have HB36 := hI hB36
  have x0 : w6.cell? ⟨w.heap.size, 0, none⟩ = some (.slice (some ⟨b, off, none⟩) n c) := hB16.cell 0
  have x1 : w6.cell? ⟨w.heap.size, 1, none⟩ = some (.slice A' m c') := hB16.cell 1
  have f60 := hB36.frozen 0
  have f61 := hB36.frozen 1
  have d60 : w6.cell? ⟨w.heap.size + 2, 0, none⟩ = some (.slice none 0 0) := hB36.cell 0
  have d61 : w6.cell? ⟨w.heap.size + 2, 1, none⟩ = some (.slice none 0 0) := hB36.cell 1
  have hlz := hB36.lt
  have hly := hB16.lt
  have hcap : (ps.length : Int) ≤ (cap : Int) := by omega
  obtain ⟨n6, hn6⟩ : ∃ n6, n6 = ps.length := ⟨_, rfl⟩
  rw [← hn6] at hcap ⊢
  have hk6 : k1 < n6 := by omega
  have HN6 := hI hn6
  have hcapn : n6 ≤ cap := by omega
  have hgw : ¬ w.heap.size + 2 = g := by omega
  have hgw' : ¬ g = w.heap.size + 2 := by omega
  have hgw2 : ¬ w.heap.size = g := by omega
  have hgl : w.heap.size ≤ g := by omega
  have HNE : Hid ((∀ z : Addr, A7 = some z → ¬ z.block = g) ∧ ∀ z : Addr, A7 = some z → ¬ z.block = w.heap.size + 2) := hI ⟨fun z hz => by have := (HR7.out z hz).2; omega, fun z hz => by have := (HR7.out z hz).1; omega⟩
  have hn61 : n6 ≤ 1000 := by have := HN.out; omega
  clear hown hgrow hO6 hX6 hB6 htk hkp hn6 hnc hcm g0 g1 hB16 hB36 hx6 hsz1
  go_wp2
  have hB6 := HB6.out
  have hB36 := HB36.out
  have hx6 := HX6.out
  refine ret_pts1 (b0 := w.heap.size + 2) (t := 27) (v := .tuple #[.agg #[.slice (some ⟨g, 0, none⟩) n6 cap, .slice A' m c'], .int .i64 0]) (Blk.eq (bS (bS (bF hgw hB36))) (by rfl)) rfl (by intro W' r0 r1; simp [results, Tryz.results117, go_sem, r0, r1]) ⟨⟨some ⟨g, 0, none⟩, n6, cap, A', m, c', 0, ps.set k1 ((ps.getD k1 plD).1, (ps.getD k1 plD).2.1, (ps.getD k1 plD).2.2.1, (ps.getD k1 plD).2.2.2.1, A7, c7, ms), L, rfl, ?_, hn61, hm⟩, xC (by first|omega|simp) (xC (by first|omega|simp) (xC hgl hx6))⟩
  refine ⟨sl_row (cur := cur) (bF hgw' (bF hgw' (bS hB6))) HK.out HTK.out HSE.out.1 (fun j u hj => HSE.out.2 j u (by rw [HPE.out, ← HL7.out] at hj; exact hj)), Places.set (HPP.out.ext (xC (by first|omega|simp) (xC (by first|omega|simp) (xC hgl hx6)))) ⟨((HS76.out.setFar HNE.out.1 _).setFar HNE.out.2 _).setFar HNE.out.2 _, by have := HL7.out; have := HC7.out; omega, HC1.out, by show ms.length ≤ 1048576; have := HL7.out; omega, HG7.out.names⟩, by rw [List.length_set, HN6.out], by rw [List.length_set, ← HN6.out]; omega, HSK.out.1.ext (xC (by first|omega|simp) (xC (by first|omega|simp) (xC hgl hx6))), HSK.out.2.1, HSK.out.2.2.1, HSK.out.2.2.2.1, HSK.out.2.2.2.2⟩
 ·have hm9d : (m9 != 0) = true := by simp [hm9]
  have HM9 := hI hm9
  clear hm9
  go_wp2
  have hB3 := HB32.out
  have hx2 := HX2.out
  have HWX := hI HWI.out
  refine ret_pts1 (b0 := w.heap.size + 2) (t := 27) (v := .tuple #[.agg #[.slice (some ⟨b, off, none⟩) n c, .slice A' m c'], .int .i64 m9]) (Blk.eq (bS (bS hB3)) (by rfl)) rfl (by intro W' r0 r1; simp [results, Tryz.results117, go_sem, r0, r1]) ⟨⟨_, _, _, _, _, _, _, ps, L, rfl, HWI.out.ext (xC (by first|omega|simp) (xC (by first|omega|simp) hx2)), hn, hm⟩, xC (by first|omega|simp) (xC (by first|omega|simp) hx2)⟩
end Go.Proofs.YtlnliajnipniaaaGreatDoor
namespace Go.Proofs.YtlnliajnipniaaaGreatDoor
open Go
def ovq (ops : Array Oper) (look : Nat → Option Nat) (i : Nat) (a : Act) : Value := match look i with
 | none => undef
 | some q => match ops[q]? with
  | some o => ovl o a
  | none => undef
def lkOk (ops : Array Oper) (m : Nat) (look : Nat → Option Nat) : Bool := (List.range m).all fun i => match look i with
 | none => true
 | some q => match ops[i]? with
  | some o => o.after.any fun e => Region.binds .any e && e.on == q
  | none => false
structure RgAt2 (ops : Array Oper) (m : Nat) (look : Nat → Option Nat) (R : Nat → Value → Value → World → Prop) (C : World → Prop) (a0 : Act) (listed : Array Bool) (a : Act) (w : World) : Prop where
 lsz : listed.size = ops.size
 fr : RgFr ops m a0 a
 got : ∀ i o, i < m → ops[i]? = some o → listed.getD i false = true → R i (ovl o a) (ovq ops look i a) w
 rest : ∀ i, m ≤ i → i < ops.size → listed.getD i true = false
 shut : ∀ i o, i < m → ops[i]? = some o → listed.getD i false = true → ∀ e ∈ o.after, Region.binds .any e = true → listed.getD e.on false = true
 cls : C w
section
variable {P : Program} {ops : Array Oper} {Q : Exit → Act → World → Prop} {m : Nat} {look : Nat → Option Nat} {R : Nat → Value → Value → World → Prop} {C : World → Prop} {K : World → World → Prop} {a0 : Act}
theorem wpAny_rg2 (hm : m ≤ ops.size) (hK : ∀ i v u w w', K w w' → R i v u w → R i v u w')
  (hun : ∀ i o, i < m → ops[i]? = some o → o.guard = none)
  (hdst : ∀ i o d, i < m → ops[i]? = some o → o.dst = some d → d < a0.tmps.size ∧ ∀ j o', j < m → j ≠ i → ops[j]? = some o' → o'.dst ≠ some d)
  (htop : ∀ i o, i < m → ops[i]? = some o → ∀ e ∈ o.after, Region.binds .any e = true → e.on < i)
  (hlast : ∀ i, m ≤ i → i < ops.size → ∀ j, j < m → rch ops ops.size i j = true)
  (hlook : ∀ i o q, i < m → ops[i]? = some o → look i = some q → ∃ e ∈ o.after, Region.binds .any e = true ∧ e.on = q)
  (hstep : ∀ i o, i < m → ops[i]? = some o → ∀ a w, RgFr ops m a0 a → (∀ e ∈ o.after, Region.binds .any e = true → ∀ oe, ops[e.on]? = some oe → R e.on (ovl oe a) (ovq ops look e.on a) w) → C w →
   o.wp P a w (fun a' w' => ∃ v, a' = a.put o.dst v ∧ R i (match o.dst with | some _ => v | none => undef) (ovq ops look i a) w' ∧ K w w' ∧ C w') Q)
  (hend : ∀ a w, RgFr ops m a0 a → (∀ i o, i < m → ops[i]? = some o → R i (ovl o a) (ovq ops look i a) w) → C w → wpAny P .any ops Q (ops.size - m) (tailL ops.size m) a w) :
  ∀ (fuel : Nat) (listed : Array Bool) (a : Act) (w : World), RgAt2 ops m look R C a0 listed a w → unl listed = fuel → wpAny P .any ops Q fuel listed a w := by
 intro fuel
 induction fuel with
 | zero =>
  intro listed a w h hf
  have hall : ∀ i, i < m → listed.getD i false = true := fun i hi => by
   have hs : i < listed.size := by rw [h.lsz]; omega
   cases hc : listed.getD i true with
   | true => rw [← getD_cases hs]; exact hc
   | false =>
    have := unl_set hc
    omega
  have he := tail_is h.lsz hm hall h.rest
  have hu : ops.size - m = 0 := by rw [← unl_tail (n := ops.size) (m := m), ← he, hf]
  have := hend a w h.fr (fun i o hi ho => h.got i o hi ho (hall i hi)) h.cls
  rw [hu] at this
  rw [he]; exact this
 | succ fuel ih =>
  intro listed a w h hf
  by_cases hall : ∀ i, i < m → listed.getD i false = true
  ·have he := tail_is h.lsz hm hall h.rest
   have hu : ops.size - m = fuel + 1 := by rw [← unl_tail (n := ops.size) (m := m), ← he, hf]
   have := hend a w h.fr (fun i o hi ho => h.got i o hi ho (hall i hi)) h.cls
   rw [hu] at this
   rw [he]; exact this
  ·have hex : ∃ i, i < m ∧ ¬ listed.getD i false = true := by
    refine Classical.byContradiction fun hn => hall fun i hi => Classical.byContradiction fun hc => hn ⟨i, hi, hc⟩
   refine ⟨fun hr => ?_, fun i hi => ?_⟩
   ·exfalso
    obtain ⟨i, him, hnp, hl⟩ := exists_least hex
    have hio : i < ops.size := by omega
    have : i ∈ Region.ready .any ops listed := mem_ready.2 ⟨by
     have := getD_cases (listed := listed) (i := i) (by rw [h.lsz]; exact hio)
     rw [this]
     simpa using hnp, ops[i], Array.getElem?_eq_getElem hio, fun e he hb => hl _ (htop i _ him (Array.getElem?_eq_getElem hio) e he hb)⟩
    rw [hr] at this
    cases this
   ·obtain ⟨hu, o, ho, hdep⟩ := mem_ready.1 hi
    have him : i < m := by
     rcases Nat.lt_or_ge i m with c | c
     ·exact c
     ·exfalso
      obtain ⟨j, hj, hnj⟩ := hex
      exact hnj (rch_listed h.shut h.rest ops.size i j o ho hdep (hlast i c (Array.getElem?_eq_some_iff.1 ho).1 j hj))
    have hg := hun i o him ho
    have hs := hstep i o him ho a w h.fr (fun e he hb oe hoe => h.got e.on oe (by have := htop i o him ho e he hb; omega) hoe (hdep e he hb)) h.cls
    unfold wpOp
    simp only [ho]
    rw [if_pos (by unfold Region.wanted; rw [hg])]
    refine .inl (Oper.wp_mono (fun a' w' hh => ?_) hs)
    obtain ⟨v, rfl, hR, hKw, hC⟩ := hh
    refine ih _ _ _ ⟨by simp [h.lsz], ⟨?_, ?_, ?_⟩, ?_, ?_, ?_, hC⟩ (by have := unl_set hu; omega)
    ·unfold Act.put; split
     ·simp [h.fr.tsz]
     ·exact h.fr.tsz
    ·unfold Act.put; split
     ·exact h.fr.dfr
     ·exact h.fr.dfr
    ·intro t ht
     have hne := ht i o him ho
     unfold Act.put
     split
     ·rename_i d hd
      have hdt : d ≠ t := fun e => hne (by rw [← e]; exact hd)
      rw [← h.fr.keep t ht]
      simp [Array.getElem?_setIfInBounds_ne hdt]
     ·exact h.fr.keep t ht
    ·have hput : ∀ q oq, q < m → q ≠ i → ops[q]? = some oq → ovl oq (a.put o.dst v) = ovl oq a := fun q oq hq hqi hoq => by
      unfold ovl Act.put
      cases hd : oq.dst with
      | none => rfl
      | some d =>
       simp only
       split
       ·rename_i d' hd'
        have hdd : d' ≠ d := fun e => (hdst i o d' him ho hd').2 q oq hq hqi hoq (by rw [hd, e])
        simp [Array.getElem?_setIfInBounds_ne hdd]
       ·rfl
     have hlk : ∀ j, (∀ q, look j = some q → q < m ∧ q ≠ i) → ovq ops look j (a.put o.dst v) = ovq ops look j a := fun j hq => by
      unfold ovq
      cases hl : look j with
      | none => rfl
      | some q =>
       simp only
       cases hoq : ops[q]? with
       | none => rfl
       | some oq => exact hput q oq (hq q hl).1 (hq q hl).2 hoq
     intro j oj hj hoj hlj
     by_cases hji : j = i
     ·subst hji
      rw [ho] at hoj
      injection hoj with hoj
      subst hoj
      rw [hlk j (fun q hq => by
       obtain ⟨e, he, hb, rfl⟩ := hlook j o q hj ho hq
       have := htop j o hj ho e he hb
       exact ⟨by omega, by omega⟩)]
      unfold ovl Act.put
      cases hd : o.dst with
      | none => rw [hd] at hR; exact hR
      | some d =>
       rw [hd] at hR
       have hlt := (hdst j o d hj ho hd).1
       simp only at hR ⊢
       rw [show (a.tmps.setIfInBounds d v).getD d undef = v by simp [show d < a.tmps.size by rw [h.fr.tsz]; exact hlt]]
       exact hR
     ·rw [getD_set_ne false (Ne.symm hji)] at hlj
      have hRj := hK _ _ _ _ _ hKw (h.got j oj hj hoj hlj)
      rw [hput j oj hj hji hoj, hlk j (fun q hq => by
       obtain ⟨e, he, hb, rfl⟩ := hlook j oj q hj hoj hq
       have h1 := htop j oj hj hoj e he hb
       refine ⟨by omega, fun hqi => ?_⟩
       have h2 := h.shut j oj hj hoj hlj e he hb
       rw [hqi] at h2
       have h3 : i < listed.size := by
        refine Classical.byContradiction fun hn => ?_
        simp [Array.getElem?_eq_none (Nat.not_lt.1 hn)] at h2
       have h4 := getD_cases h3
       rw [h2, hu] at h4
       cases h4)]
      exact hRj
    ·intro j hmj hj
     rw [getD_set_ne true (by omega)]
     exact h.rest j hmj hj
    ·intro j oj hj hoj hlj e he hb
     by_cases hji : j = i
     ·subst hji
      rw [ho] at hoj
      injection hoj with hoj
      subst hoj
      exact getD_set_true (hdep e he hb)
     ·rw [getD_set_ne false (Ne.symm hji)] at hlj
      exact getD_set_true (h.shut j oj hj hoj hlj e he hb)
theorem wp_region_rg2 {id : Nat} {w : World} (hx : P.follows .mixedOrders = true) (hm : m ≤ ops.size) (hK : ∀ i v u w w', K w w' → R i v u w → R i v u w')
  (hun : ∀ i o, i < m → ops[i]? = some o → o.guard = none)
  (hdst : ∀ i o d, i < m → ops[i]? = some o → o.dst = some d → d < a0.tmps.size ∧ ∀ j o', j < m → j ≠ i → ops[j]? = some o' → o'.dst ≠ some d)
  (htop : ∀ i o, i < m → ops[i]? = some o → ∀ e ∈ o.after, Region.binds .any e = true → e.on < i)
  (hlast : ∀ i, m ≤ i → i < ops.size → ∀ j, j < m → rch ops ops.size i j = true)
  (hlook : ∀ i o q, i < m → ops[i]? = some o → look i = some q → ∃ e ∈ o.after, Region.binds .any e = true ∧ e.on = q)
  (hC : C { w with drawn := w.drawn + 1 })
  (hstep : ∀ i o, i < m → ops[i]? = some o → ∀ a w, RgFr ops m a0 a → (∀ e ∈ o.after, Region.binds .any e = true → ∀ oe, ops[e.on]? = some oe → R e.on (ovl oe a) (ovq ops look e.on a) w) → C w →
   o.wp P a w (fun a' w' => ∃ v, a' = a.put o.dst v ∧ R i (match o.dst with | some _ => v | none => undef) (ovq ops look i a) w' ∧ K w w' ∧ C w') Q)
  (hend : ∀ a w, RgFr ops m a0 a → (∀ i o, i < m → ops[i]? = some o → R i (ovl o a) (ovq ops look i a) w) → C w → wpAny P .any ops Q (ops.size - m) (tailL ops.size m) a w) : (Code.region id ops true).wp P Q a0 w := by
 refine wp_region_any hx (wpAny_rg2 hm hK hun hdst htop hlast hlook hstep hend _ _ _ _ ⟨by simp, ⟨rfl, rfl, fun _ _ => rfl⟩, fun i o _ _ h => ?_, fun i _ hi => by simp [hi], fun i o _ _ h => ?_, hC⟩ ?_)
 ·exfalso
  rcases Nat.lt_or_ge i ops.size with c | c
  ·simp [c] at h
  ·simp [Nat.not_lt.2 c] at h
 ·exfalso
  rcases Nat.lt_or_ge i ops.size with c | c
  ·simp [c] at h
  ·simp [Nat.not_lt.2 c] at h
 ·unfold unl; simp [List.countP_replicate]
theorem wp_region_rgb2 {id : Nat} {w : World} (n : Nat) (hx : P.follows .mixedOrders = true) (hok : rgOk ops m n = true) (hm : m ≤ ops.size) (hn : n ≤ a0.tmps.size) (hlk : lkOk ops m look = true) (hK : ∀ i v u w w', K w w' → R i v u w → R i v u w')
  (hC : C w.drew)
  (hstep : AllFrom (fun i o => ∀ a w, RgFr ops m a0 a → (∀ e ∈ o.after, Region.binds .any e = true → ∀ oe, ops[e.on]? = some oe → R e.on (ovl oe a) (ovq ops look e.on a) w) → C w →
   o.wp P a w (fun a' w' => ∃ v, a' = a.put o.dst v ∧ R i (match o.dst with | some _ => v | none => undef) (ovq ops look i a) w' ∧ K w w' ∧ C w') Q) 0 (ops.toList.take m))
  (hend : ∀ a w, RgFr ops m a0 a → (∀ i o, i < m → ops[i]? = some o → R i (ovl o a) (ovq ops look i a) w) → C w → wpAny P .any ops Q (ops.size - m) (tailL ops.size m) a w) : (Code.region id ops true).wp P Q a0 w := by
 have key : ∀ i o, ops[i]? = some o → (if i < m then o.guard.isNone && (o.after.all fun e => !Region.binds .any e || decide (e.on < i)) && (match o.dst with
   | none => true
   | some d => decide (d < n) && (List.range m).all fun j => j == i || (match ops[j]? with | some o' => o'.dst != some d | none => true))
  else (List.range m).all fun j => rch ops ops.size i j) = true := fun i o ho => by
  have hi : i < ops.size := (Array.getElem?_eq_some_iff.1 ho).1
  unfold rgOk at hok
  have := List.all_eq_true.1 hok i (List.mem_range.2 hi)
  rw [ho] at this
  exact this
 refine wp_region_rg2 hx hm hK (fun i o hi ho => ?_) (fun i o d hi ho hd => ?_) (fun i o hi ho e he hb => ?_) (fun i hi hio j hj => ?_) (fun i o q hi ho hq => ?_) hC (fun i o hi ho => ?_) hend
 ·have := key i o ho
  rw [if_pos hi] at this
  simp only [Bool.and_eq_true] at this
  simpa using this.1.1
 ·have := key i o ho
  rw [if_pos hi] at this
  simp only [Bool.and_eq_true] at this
  have h3 := this.2
  rw [hd] at h3
  simp only [Bool.and_eq_true, decide_eq_true_eq, List.all_eq_true, Bool.or_eq_true, beq_iff_eq] at h3
  refine ⟨Nat.lt_of_lt_of_le h3.1 hn, fun j o' hj hji ho' => ?_⟩
  have := h3.2 j (List.mem_range.2 hj)
  rw [ho'] at this
  rcases this with e | e
  ·exact absurd e hji
  ·simpa using e
 ·have := key i o ho
  rw [if_pos hi] at this
  simp only [Bool.and_eq_true] at this
  have h2 := this.1.2
  rw [Array.all_eq_true_iff_forall_mem] at h2
  have := h2 e he
  rw [hb] at this
  simpa using this
 ·have := key i ops[i] (Array.getElem?_eq_getElem hio)
  rw [if_neg (by omega)] at this
  exact List.all_eq_true.1 this j (List.mem_range.2 hj)
 ·unfold lkOk at hlk
  have := List.all_eq_true.1 hlk i (List.mem_range.2 hi)
  rw [hq] at this
  simp only [ho] at this
  rw [Array.any_eq_true'] at this
  obtain ⟨e, he, h⟩ := this
  simp only [Bool.and_eq_true, beq_iff_eq] at h
  exact ⟨e, he, h.1, h.2⟩
 ·have := hstep.at_ i o (by
   rw [List.getElem?_take_of_lt hi, Array.getElem?_toList]
   exact ho)
  rw [Nat.zero_add] at this
  exact this
end
end Go.Proofs.YtlnliajnipniaaaGreatDoor
namespace Go.Proofs.YtlnliajnipniaaaGreatDoor
open Go.RowKit
attribute [local go_sem] ExtOf.cell ExtOf.frozen
theorem SlAt.offW {α : Type} {enc : α → List Value} {sz r : Nat} {w : World} {A : Option Addr} {xs : List α} {t : TypeId} {a1 a2 : Option Addr} {n1 c1 n2 c2 : Nat} (h : SlAt w sz enc A xs) (henc : ∀ x, ∃ s, (enc x)[0]? = some (.string s))
  (hB : Blk w r t #[.slice a1 n1 c1, .slice a2 n2 c2]) (hn : 0 < xs.length) : ∀ z : Addr, A = some z → ¬ z.block = r := fun z hz e => by
 obtain ⟨b, off, eA, hb, hc⟩ := h hn
 rw [eA] at hz
 injection hz with hz
 subst hz
 obtain ⟨s, hs⟩ := henc xs[0]
 have h0 := hc 0 xs[0] (by simp [hn]) 0 _ hs
 simp only at e
 subst e
 rw [hB.cell] at h0
 rcases o : off + 0 * sz + 0 with _ | _ | k
 ·rw [o] at h0; simp at h0
 ·rw [o] at h0; simp at h0
 ·rw [o] at h0; simp at h0
theorem encQ_str (x : Pl) : ∃ s, (encQ x)[0]? = some (.string s) := ⟨_, rfl⟩
theorem encN_str (x : Nm) : ∃ s, (encN x)[0]? = some (.string s) := ⟨_, rfl⟩
theorem encK_str (x : Lk) : ∃ s, (encK x)[0]? = some (.string s) := ⟨_, rfl⟩
theorem encS_str (x : List UInt8) : ∃ s, (encS x)[0]? = some (.string s) := ⟨_, rfl⟩
section
variable {w : World} {A A' a1 a2 : Option Addr} {n c m c' n1 c1 n2 c2 r : Nat} {ps : List Pl} {L : List Lk} {t : TypeId}
theorem SlAt.putW {α : Type} {enc : α → List Value} {sz : Nat} {xs : List α} (h : SlAt w sz enc A xs) (henc : ∀ x, ∃ s, (enc x)[0]? = some (.string s)) (hB : Blk w r t #[.slice a1 n1 c1, .slice a2 n2 c2]) (u v : Value) : SlAt ((w.setCell ⟨r, 0, none⟩ u).setCell ⟨r, 1, none⟩ v) sz enc A xs :=
 (h.setE (p := ⟨r, 0, none⟩) (fun hn => h.offW henc hB hn) u).setE (p := ⟨r, 1, none⟩) (fun hn => h.offW henc hB hn) v
theorem LkR.putW (h : LkR w A m c L) (hB : Blk w r t #[.slice a1 n1 c1, .slice a2 n2 c2]) (u v : Value) : LkR ((w.setCell ⟨r, 0, none⟩ u).setCell ⟨r, 1, none⟩ v) A m c L := ⟨h.1.putW encK_str hB u v, h.2⟩
theorem WIn.putW (h : WIn w A A' n c m c' ps L) (hB : Blk w r t #[.slice a1 n1 c1, .slice a2 n2 c2]) (u v : Value) : WIn ((w.setCell ⟨r, 0, none⟩ u).setCell ⟨r, 1, none⟩ v) A A' n c m c' ps L :=
 ⟨h.sq.putW encQ_str hB u v, fun p hp => ⟨(h.pl p hp).1.putW encN_str hB u v, (h.pl p hp).2⟩, h.hn, h.hl, h.sk.putW encK_str hB u v, h.hm, h.hl', h.cap, h.lg⟩
end
def PW (w : World) (b : Nat) : Prop := ∃ (a1 : Option Addr) (n1 c1 : Nat) (a2 : Option Addr) (n2 c2 : Nat), Blk w b 27 #[.slice a1 n1 c1, .slice a2 n2 c2]
theorem PW.ext {w w' : World} {b : Nat} (h : PW w b) (hx : Ext w w') : PW w' b := by
 obtain ⟨a1, n1, c1, a2, n2, c2, hB⟩ := h
 exact ⟨a1, n1, c1, a2, n2, c2, hB.ext hx⟩
theorem blk_put {w : World} {b : Nat} {t : TypeId} {x0 x1 : Value} (h : Blk w b t #[x0, x1]) (u v : Value) : Blk ((w.setCell ⟨b, 0, none⟩ u).setCell ⟨b, 1, none⟩ v) b t #[u, v] := Blk.eq ((h.set_ 0 u).set_ 1 v) (by rfl)
theorem blk_puf {w : World} {b q : Nat} {t : TypeId} {cs : Array Value} (h : Blk w q t cs) (hn : ¬ q = b) (u v : Value) : Blk ((w.setCell ⟨b, 0, none⟩ u).setCell ⟨b, 1, none⟩ v) q t cs := (h.far (p := ⟨b, 0, none⟩) hn u).far (p := ⟨b, 1, none⟩) hn v
theorem PW.put {w : World} {b q : Nat} {a1 a2 : Option Addr} {n1 c1 n2 c2 : Nat} (hb : PW w b) (h : PW w q) : PW ((w.setCell ⟨b, 0, none⟩ (.slice a1 n1 c1)).setCell ⟨b, 1, none⟩ (.slice a2 n2 c2)) q := by
 by_cases e : q = b
 ·subst e
  obtain ⟨_, _, _, _, _, _, hB⟩ := hb
  exact ⟨_, _, _, _, _, _, blk_put hB _ _⟩
 ·obtain ⟨x1, x2, x3, x4, x5, x6, hB⟩ := h
  exact ⟨x1, x2, x3, x4, x5, x6, blk_puf hB e _ _⟩
def RdB (b : Nat) (v : Value) (W : World) : Prop := ∃ (A2 : Option Addr) (m2 c2 : Nat) (L2 : List Lk), Blk W b 27 #[v, .slice A2 m2 c2] ∧ LkR W A2 m2 c2 L2 ∧ m2 ≤ 21
def KAp (lo : Nat) (v : Value) (w w' : World) : Prop := (∀ A m c L, LkR w A m c L → LkR w' A m c L) ∧ (∀ b, lo ≤ b → PW w b → PW w' b) ∧ ∀ b, lo ≤ b → RdB b v w → RdB b v w'
theorem KAp.ext {lo : Nat} {v : Value} {w w' : World} (hx : Ext w w') : KAp lo v w w' := ⟨fun _ _ _ _ h => h.ext hx, fun _ _ h => h.ext hx, fun _ _ ⟨A2, m2, c2, L2, hB, hR, hl⟩ => ⟨A2, m2, c2, L2, hB.ext hx, hR.ext hx, hl⟩⟩
theorem RdB.put {b : Nat} {A2 a1 : Option Addr} {m2 c2 n1 c1 : Nat} {L2 : List Lk} {w : World} (hb : PW w b) (h : LkR w A2 m2 c2 L2) (hl : m2 ≤ 21) : RdB b (.slice a1 n1 c1) ((w.setCell ⟨b, 0, none⟩ (.slice a1 n1 c1)).setCell ⟨b, 1, none⟩ (.slice A2 m2 c2)) := by
 obtain ⟨_, _, _, _, _, _, hB⟩ := hb
 exact ⟨A2, m2, c2, L2, blk_put hB _ _, h.putW hB _ _, hl⟩
theorem KAp.put {lo b : Nat} {A2 a1 : Option Addr} {m2 c2 n1 c1 : Nat} {L2 : List Lk} {w : World} (hb : PW w b) (h : LkR w A2 m2 c2 L2) (hl : m2 ≤ 21) : KAp lo (.slice a1 n1 c1) w ((w.setCell ⟨b, 0, none⟩ (.slice a1 n1 c1)).setCell ⟨b, 1, none⟩ (.slice A2 m2 c2)) := by
 refine ⟨fun A m c L hR => ?_, fun q _ hq => PW.put hb hq, fun q _ hq => ?_⟩
 ·obtain ⟨_, _, _, _, _, _, hB⟩ := hb
  exact hR.putW hB _ _
 ·by_cases e : q = b
  ·subst e
   exact RdB.put hb h hl
  ·obtain ⟨A3, m3, c3, L3, hB3, hR3, hl3⟩ := hq
   obtain ⟨_, _, _, _, _, _, hB⟩ := hb
   exact ⟨A3, m3, c3, L3, blk_puf hB3 e _ _, hR3.putW hB _ _, hl3⟩
structure CAp (w : World) (cw cc : Array Value) (W : World) : Prop where
 ex : Ext w W
 b1 : Blk W w.heap.size 27 cw
 b2 : Blk W (w.heap.size + 1) 68 cc
 pw : PW W (w.heap.size + 2)
theorem CAp.ext {w W W' : World} {cw cc : Array Value} (h : CAp w cw cc W) (hx : Ext W W') : CAp w cw cc W' := ⟨h.ex.trans hx, h.b1.ext hx, h.b2.ext hx, h.pw.ext hx⟩
theorem CAp.put {w W : World} {cw cc : Array Value} {b : Nat} {a1 a2 : Option Addr} {n1 c1 n2 c2 : Nat} (h : CAp w cw cc W) (hb : PW W b) (hl : w.heap.size + 2 ≤ b) : CAp w cw cc ((W.setCell ⟨b, 0, none⟩ (.slice a1 n1 c1)).setCell ⟨b, 1, none⟩ (.slice a2 n2 c2)) :=
 ⟨(h.ex.setCell' (p := ⟨b, 0, none⟩) (by show w.heap.size ≤ b; omega) _).setCell' (p := ⟨b, 1, none⟩) (by show w.heap.size ≤ b; omega) _, blk_puf h.b1 (by omega) _ _, blk_puf h.b2 (by omega) _ _, PW.put hb h.pw⟩
def LkV (W : World) (v : Value) : Prop := ∃ (A7 : Option Addr) (m7 c7 : Nat) (L7 : List Lk), v = .slice A7 m7 c7 ∧ LkR W A7 m7 c7 L7 ∧ m7 ≤ 22
def LkT (s : Value) (W : World) (v : Value) : Prop := ∃ (A7 : Option Addr) (m7 c7 : Nat) (L7 : List Lk) (q : Int), v = .tuple #[.agg #[s, .slice A7 m7 c7], .int .i64 q] ∧ LkR W A7 m7 c7 L7 ∧ m7 ≤ 21
def LkG (s : Value) (W : World) (v : Value) : Prop := ∃ (A7 : Option Addr) (m7 c7 : Nat) (L7 : List Lk), v = .agg #[s, .slice A7 m7 c7] ∧ LkR W A7 m7 c7 L7 ∧ m7 ≤ 21
theorem LkV.kap {lo : Nat} {s v : Value} {W W' : World} (h : LkV W v) (hk : KAp lo s W W') : LkV W' v := by
 obtain ⟨A7, m7, c7, L7, e, hR, hl⟩ := h
 exact ⟨A7, m7, c7, L7, e, hk.1 _ _ _ _ hR, hl⟩
theorem LkT.kap {lo : Nat} {s s' v : Value} {W W' : World} (h : LkT s W v) (hk : KAp lo s' W W') : LkT s W' v := by
 obtain ⟨A7, m7, c7, L7, q, e, hR, hl⟩ := h
 exact ⟨A7, m7, c7, L7, q, e, hk.1 _ _ _ _ hR, hl⟩
theorem LkG.kap {lo : Nat} {s s' v : Value} {W W' : World} (h : LkG s W v) (hk : KAp lo s' W W') : LkG s W' v := by
 obtain ⟨A7, m7, c7, L7, e, hR, hl⟩ := h
 exact ⟨A7, m7, c7, L7, e, hk.1 _ _ _ _ hR, hl⟩
def RgA8 (r : Nat) (s ag p2 v3 p4 v5 p6 v7 : Value) : Nat → Value → World → Prop
 | 0, v, _ => v = ag
 | 1, v, _ => v = ag
 | 2, v, _ => v = p2
 | 3, v, _ => v = v3
 | 4, v, _ => v = p4
 | 5, v, _ => v = v5
 | 6, v, _ => v = p6
 | 7, v, _ => v = v7
 | 8, v, W => LkV W v
 | 9, v, W => LkT s W v
 | 10, v, W => LkG s W v
 | 11, v, _ => ∃ q : Int, v = .int .i64 q
 | 12, _, W => RdB r s W
 | 13, v, _ => ∃ q : Int, v = .int .i64 q
 | _, _, _ => True
theorem RgA8.stay {lo r : Nat} {s ag p2 v3 p4 v5 p6 v7 : Value} (hl : lo ≤ r) (i : Nat) (v : Value) (w w' : World) (hk : KAp lo s w w') (h : RgA8 r s ag p2 v3 p4 v5 p6 v7 i v w) : RgA8 r s ag p2 v3 p4 v5 p6 v7 i v w' := by
 rcases i with _ | _ | _ | _ | _ | _ | _ | _ | _ | _ | _ | _ | _ | _ | i
 all_goals first | exact h | exact LkV.kap h hk | exact LkT.kap h hk | exact LkG.kap h hk | exact hk.2.2 _ hl h | trivial
def RgA7 (lo : Nat) (s ag v2 v3 p4 v5 p6 v7 p8 v9 : Value) : Nat → Value → Value → World → Prop
 | 0, v, _, _ => v = ag
 | 1, v, _, _ => v = ag
 | 2, v, _, _ => v = v2
 | 3, v, _, _ => v = v3
 | 4, v, _, _ => v = p4
 | 5, v, _, _ => v = v5
 | 6, v, _, _ => v = p6
 | 7, v, _, _ => v = v7
 | 8, v, _, _ => v = p8
 | 9, v, _, _ => v = v9
 | 10, v, _, W => LkV W v
 | 11, v, _, W => LkT s W v
 | 12, v, _, W => LkT s W v
 | 13, v, _, W => LkG s W v
 | 14, v, _, _ => ∃ q : Int, v = .int .i64 q
 | 15, v, _, W => ∃ b, v = .pointer (some ⟨b, 0, none⟩) ∧ lo ≤ b ∧ PW W b
 | 16, _, u, W => ∃ b, u = .pointer (some ⟨b, 0, none⟩) ∧ lo ≤ b ∧ RdB b s W
 | 17, v, _, _ => ∃ q : Int, v = .int .i64 q
 | _, _, _, _ => True
theorem RgA7.stay {lo : Nat} {s ag v2 v3 p4 v5 p6 v7 p8 v9 : Value} (i : Nat) (v u : Value) (w w' : World) (hk : KAp lo s w w') (h : RgA7 lo s ag v2 v3 p4 v5 p6 v7 p8 v9 i v u w) : RgA7 lo s ag v2 v3 p4 v5 p6 v7 p8 v9 i v u w' := by
 rcases i with _ | _ | _ | _ | _ | _ | _ | _ | _ | _ | _ | _ | _ | _ | _ | _ | _ | _ | i
 all_goals first | exact h | exact LkV.kap h hk | exact LkT.kap h hk | exact LkG.kap h hk | (obtain ⟨b, h1, h2, h3⟩ := h; exact ⟨b, h1, h2, hk.2.1 b h2 h3⟩) | (obtain ⟨b, h1, h2, h3⟩ := h; exact ⟨b, h1, h2, hk.2.2 b h2 h3⟩) | trivial
structure ApL (w : World) (cw cc : Array Value) (s : Value) (b7 : Nat) (Ac : Option Addr) (ch : List (List UInt8)) (W : World) (A7 : Option Addr) (m7 c7 : Nat) (L7 : List Lk) : Prop where
 cp : CAp w cw cc W
 b7 : Blk W b7 27 #[s, .slice A7 m7 c7]
 lk : LkR W A7 m7 c7 L7
 l21 : m7 ≤ 21
 sc : SlAt W 1 encS Ac ch
section
variable {w W W' : World} {cw cc : Array Value} {s : Value} {b7 m7 c7 : Nat} {Ac A7 : Option Addr} {ch : List (List UInt8)} {L7 : List Lk}
theorem ApL.ext (h : ApL w cw cc s b7 Ac ch W A7 m7 c7 L7) (hx : Ext W W') : ApL w cw cc s b7 Ac ch W' A7 m7 c7 L7 := ⟨h.cp.ext hx, h.b7.ext hx, h.lk.ext hx, h.l21, h.sc.ext hx⟩
theorem ApL.put {b : Nat} {a1 a2 : Option Addr} {n1 c1 n2 c2 : Nat} (h : ApL w cw cc s b7 Ac ch W A7 m7 c7 L7) (hb : PW W b) (hl : w.heap.size + 2 ≤ b) (hn : ¬ b7 = b) : ApL w cw cc s b7 Ac ch ((W.setCell ⟨b, 0, none⟩ (.slice a1 n1 c1)).setCell ⟨b, 1, none⟩ (.slice a2 n2 c2)) A7 m7 c7 L7 := by
 have hcp := h.cp.put (a1 := a1) (n1 := n1) (c1 := c1) (a2 := a2) (n2 := n2) (c2 := c2) hb hl
 obtain ⟨_, _, _, _, _, _, hB⟩ := hb
 exact ⟨hcp, blk_puf h.b7 hn _ _, h.lk.putW hB _ _, h.l21, h.sc.putW encS_str hB _ _⟩
theorem ApL.next {A2 a1 : Option Addr} {m2 c2 n1 c1 : Nat} {L2 : List Lk} (h : ApL w cw cc (.slice a1 n1 c1) b7 Ac ch W A7 m7 c7 L7) (hl : w.heap.size + 2 ≤ b7) (hR : LkR W A2 m2 c2 L2) (h2 : m2 ≤ 21) : ApL w cw cc (.slice a1 n1 c1) b7 Ac ch ((W.setCell ⟨b7, 0, none⟩ (.slice a1 n1 c1)).setCell ⟨b7, 1, none⟩ (.slice A2 m2 c2)) A2 m2 c2 L2 :=
 ⟨h.cp.put ⟨_, _, _, _, _, _, h.b7⟩ hl, blk_put h.b7 _ _, hR.putW h.b7 _ _, h2, h.sc.putW encS_str h.b7 _ _⟩
end
end Go.Proofs.YtlnliajnipniaaaGreatDoor
