/- Names of places in a year, as the program and the specification see them. Who has another name in another year, as the program tells it. Who has another name in another year, as the specification tells it. -/
import Derived.Test.YtlnliajnipniaaaGreatDoorZ3
import Derived.Test.YtlnliajnipniaaaGreatDoorY1
namespace Go.Proofs.YtlnliajnipniaaaGreatDoor
open Go.RowKit
attribute [local go_sem] ExtOf.cell ExtOf.frozen
theorem nmO_no {d : Pd} {ls : List (List UInt8)} {y : Int} (h : bsN d ls y = -1) : nmO d ls y = d.1 := by unfold nmO; rw [h]; rfl
theorem nmO_at {d : Pd} {ls : List (List UInt8)} {y : Int} {i : Nat} (h : bsN d ls y = i) : nmO d ls y = (d.2.2.2.2.getD i nmD).1 := by
 unfold nmO
 rw [h, if_neg (by omega)]
 rfl
set_option maxRecDepth 20000 in
set_option maxHeartbeats 3200000 in
theorem i_nameOf (p : Pl) (A' : Option Addr) (m c' : Nat) (ls : List (List UInt8)) (y : Int) (w : World) (h : PlAt w p) (h' : SlAt w 1 encS A' ls) (hm : m = ls.length) (hl' : m ≤ 1048576) :
  Calls Tryz.prog 47 #[.agg #[.string (tx p.1), .int .i64 p.2.1, .int .i64 p.2.2.1, .int .i64 p.2.2.2.1, .slice p.2.2.2.2.1 p.2.2.2.2.2.2.length p.2.2.2.2.2.1], .slice A' m c', .int .i64 y] w fun e w' => e = .returned (.string (tx (nmO (pdOf p) ls y))) ∧ Ext w w' := by
 have HB := hI (fun W (hW : Ext w W) => i_bestIn p.2.2.2.2.1 A' p.2.2.2.2.2.2.length p.2.2.2.2.2.1 m c' p.2.2.2.2.2.2 ls y W (h.1.ext hW) (h'.ext hW) rfl hm h.2.2.2.1 hl')
 have HS := hI h.1
 rcases bsG_cases (ns := p.2.2.2.2.2.2) (y := y) ls with hc | ⟨i, hc, hi⟩
 ·rw [hc] at HB
  have hn : nmO (pdOf p) ls y = p.1 := nmO_no (d := pdOf p) (show bsN (pdOf p) ls y = -1 from hc)
  rw [hn]
  clear hc hn HS h h' hm
  generalize tx p.1 = s0 at *
  generalize p.2.1 = s1 at *
  generalize p.2.2.1 = s2 at *
  generalize p.2.2.2.1 = s3 at *
  generalize p.2.2.2.2.1 = s4 at *
  generalize p.2.2.2.2.2.1 = s6 at *
  generalize p.2.2.2.2.2.2.length = s5 at *
  go_enter Tryz.func47, Tryz.ntmps47
  go_wp2_with fail
  refine (HB.out _ (xA xR)).mono ?_
  rintro e w1 ⟨rfl, hx1⟩
  obtain ⟨hc1, hf1⟩ := hx1.rules
  have hs1 := hx1.size
  (try simp at hs1)
  have := (show w.heap.size < w1.heap.size from by omega)
  go_wp2
  go_ret
  exact ⟨rfl, xT (xA xR) hx1⟩
 ·rw [hc] at HB
  have hn : nmO (pdOf p) ls y = (p.2.2.2.2.2.2.getD i nmD).1 := nmO_at (d := pdOf p) (show bsN (pdOf p) ls y = i from hc)
  rw [hn]
  obtain ⟨b, off, hA, hb, d0, d1, d2, d3, d4⟩ := h.1.nm hi
  rw [hA] at HB ⊢
  have hi0 : (0 : Int) ≤ (i : Int) := by omega
  have hi1 : decide ((0 : Int) ≤ (i : Int)) = true := decide_eq_true hi0
  clear hc hn HS h h' hm hA d1 d2 d3 d4
  generalize tx (p.2.2.2.2.2.2.getD i nmD).1 = sn at *
  generalize tx p.1 = s0 at *
  generalize p.2.1 = s1 at *
  generalize p.2.2.1 = s2 at *
  generalize p.2.2.2.1 = s3 at *
  generalize p.2.2.2.2.2.1 = s6 at *
  generalize p.2.2.2.2.2.2.length = s5 at *
  go_enter Tryz.func47, Tryz.ntmps47
  go_wp2_with fail
  refine (HB.out _ (xA xR)).mono ?_
  rintro e w1 ⟨rfl, hx1⟩
  obtain ⟨hc1, hf1⟩ := hx1.rules
  have hs1 := hx1.size
  (try simp at hs1)
  have := (show w.heap.size < w1.heap.size from by omega)
  have := (show b < w.heap.size + 1 from by omega)
  go_wp2
  go_ret
  exact ⟨rfl, xT (xA xR) hx1⟩
section
variable {w : World} {A A' A9 : Option Addr} {n c m c' r c9 : Nat} {ps : List Pl} {L : List Lk} {ls : List (List UInt8)}
set_option maxRecDepth 20000 in
set_option maxHeartbeats 6400000 in
theorem s_l14Name (x : List UInt8) (y : Int) (h : WIn w A A' n c m c' ps L) (hw : wdB (psD ps) L = true) (hf : (fndP (psD ps) x).isSome = true) (h' : SlAt w 1 encS A9 ls) (hr : r = ls.length) (hl' : r ≤ 1048576) :
  Calls Tryz.prog 51 #[.agg #[.slice A n c, .slice A' m c'], .string (tx x), .slice A9 r c9, .int .i64 y] w fun e w' => e = .returned (.string (tx (nmO ((fndP (psD ps) x).getD pdD) ls y))) ∧ Ext w w' := by
 have hln : n ≤ 1048576 := by rw [h.hn]; exact h.hl
 have HF := hI (fun W (hW : Ext w W) => s_l11Find A n c ps x W (h.sq.ext hW) h.hn hln)
 obtain ⟨k, hk1, hk2, hk3, hk4⟩ := fnd_some hf
 rw [psD_len] at hk2
 rw [psD_at hk2] at hk3 hk4
 rw [hk1] at HF
 rw [hk3]
 have hkx : (ps.getD k plD).1 = x := hk4
 have hpl := h.pl _ (pl_mem hk2)
 have hnb : nsB (ps.getD k plD).2.2.2.2.2.2 = true := by
  have := wdB_pl hw (j := k) (by rw [psD_len]; exact hk2)
  rw [psD_at hk2] at this
  exact (plB_iff.1 this).2.2.2.1
 have h12 : (ps.getD k plD).2.2.2.2.2.2.length ≤ 12 := (nsB_iff.1 hnb).2
 have HB := hI (fun W (hW : Ext w W) => s_l09Best (ps.getD k plD).2.2.2.2.1 A9 (ps.getD k plD).2.2.2.2.2.2.length (ps.getD k plD).2.2.2.2.2.1 r c9 (ps.getD k plD).2.2.2.2.2.2 ls y W (hpl.1.ext hW) (h'.ext hW) rfl hr (by omega) hl')
 obtain ⟨bb, off, hA, hb, d0, d1, d2, d3, d4⟩ := h.sq.pl hk2
 subst hA
 have hkn : k < n := by rw [h.hn]; exact hk2
 have hk0 : (0 : Int) ≤ (k : Int) := by omega
 show Calls _ _ _ _ fun e w' => e = .returned (.string (tx (nmO (pdOf (ps.getD k plD)) ls y))) ∧ Ext w w'
 generalize ps.getD k plD = p at *
 rcases bsG_cases (ns := p.2.2.2.2.2.2) (y := y) ls with hc | ⟨i, hc, hi⟩
 ·rw [hc] at HB
  have hn : nmO (pdOf p) ls y = x := (nmO_no (d := pdOf p) (show bsN (pdOf p) ls y = -1 from hc)).trans hkx
  rw [hn]
  clear hc hn h h' hr hw hf hk1 hk2 hk3 hk4 hkx hpl hnb h12 d0 d1 d2 d3
  generalize p.2.2.2.2.1 = s4 at *
  generalize p.2.2.2.2.2.1 = s6 at *
  generalize p.2.2.2.2.2.2.length = s5 at *
  generalize tx x = sx at *
  go_enter Tryz.func51, Tryz.ntmps51
  go_wp2
  (refine wp_region_ext (by kernel_rfl) (by kernel_rfl) ?_; (repeat (go_big_quiet_step ((go_at_call 27; exact Calls_same (HF.out _ (Ext.trans (xA xR) (ExtOf.ext _))))))); refine wpQuiet_nil ?_; intro wq hxwq; obtain ⟨hcwq, hfwq, hswq⟩ := hxwq.all; (try simp at hswq))
  go_wp2_with fail
  refine (HB.out _ (xT (xA xR) hxwq)).mono ?_
  rintro e w1 ⟨rfl, hx1⟩
  go_wp2
  go_ret
  exact ⟨rfl, xT (xT (xA xR) hxwq) hx1⟩
 ·rw [hc] at HB
  have hn : nmO (pdOf p) ls y = (p.2.2.2.2.2.2.getD i nmD).1 := nmO_at (d := pdOf p) (show bsN (pdOf p) ls y = i from hc)
  rw [hn]
  obtain ⟨b2, off2, hA2, hb2, e0, e1, e2, e3, e4⟩ := hpl.1.nm hi
  rw [hA2] at HB d4
  have hi0 : ¬ ((i : Int) < 0) := by omega
  have hi1 : decide ((i : Int) < 0) = false := decide_eq_false hi0
  have hi2 : (0 : Int) ≤ (i : Int) := by omega
  clear hc hn h h' hr hw hf hk1 hk2 hk3 hk4 hkx hpl hnb h12 d0 d1 d2 d3 hA2 e1 e2 e3 e4
  generalize tx (p.2.2.2.2.2.2.getD i nmD).1 = sn at *
  generalize p.2.2.2.2.2.1 = s6 at *
  generalize p.2.2.2.2.2.2.length = s5 at *
  generalize tx x = sx at *
  go_enter Tryz.func51, Tryz.ntmps51
  go_wp2
  (refine wp_region_ext (by kernel_rfl) (by kernel_rfl) ?_; (repeat (go_big_quiet_step ((go_at_call 27; exact Calls_same (HF.out _ (Ext.trans (xA xR) (ExtOf.ext _))))))); refine wpQuiet_nil ?_; intro wq hxwq; obtain ⟨hcwq, hfwq, hswq⟩ := hxwq.all; (try simp at hswq))
  go_wp2_with fail
  refine (HB.out _ (xT (xA xR) hxwq)).mono ?_
  rintro e w1 ⟨rfl, hx1⟩
  obtain ⟨hc1, hf1⟩ := hx1.rules
  have hs1 := hx1.size
  (try simp at hs1)
  have := (show b2 < wq.heap.size from by omega)
  go_wp2
  go_ret
  exact ⟨rfl, xT (xT (xA xR) hxwq) hx1⟩
end
section
variable {w : World} {A A' A9 : Option Addr} {n c m c' r c9 : Nat} {ps : List Pl} {L : List Lk} {ls : List (List UInt8)}
end
section
variable {w : World} {A A' A9 : Option Addr} {n c m c' r c9 : Nat} {ps : List Pl} {L : List Lk} {ls : List (List UInt8)}
end
end Go.Proofs.YtlnliajnipniaaaGreatDoor
