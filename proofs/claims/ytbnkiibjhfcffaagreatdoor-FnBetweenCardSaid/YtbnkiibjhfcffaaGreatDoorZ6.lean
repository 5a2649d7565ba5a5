/- Names of places in a year, as the program and the specification see them. Who has another name in another year, as the program tells it. Who has another name in another year, as the specification tells it. -/
import Derived.Test.YtbnkiibjhfcffaaGreatDoorZ3
import Derived.Test.YtbnkiibjhfcffaaGreatDoorY1
import Derived.Deep.RegionHeld3
import Derived.Deep.DeepCutAuto
import Derived.RegionTactic
import Derived.BigRegion
import Derived.WalkLawsBesides
import Derived.WalkSpells
import Derived.Lib.MinMax
import Derived.Outline
namespace Go.Proofs.YtbnkiibjhfcffaaGreatDoor
open Go.RowKit
attribute [local go_sem] ExtOf.cell ExtOf.frozen


theorem fnd_self {ps : List Pl} (ha : AscP ps) {k : Nat} (hk : k < ps.length) : fndP (psD ps) (ps.getD k plD).1 = some (pdOf (ps.getD k plD)) := by
  have h := (fnx_some (D := psD ps) (x := (ps.getD k plD).1) (k := k) (by rw [psD_len]; exact hk) (fun j hj => by
    rw [psD_at (by omega : j < ps.length)]
    intro e
    have h1 := ha j k hj hk
    have h2 : (ps.getD j plD).1 = (ps.getD k plD).1 := e
    rw [h2] at h1
    exact tx_lt_irrefl _ h1) (by rw [psD_at hk]; rfl)).2
  rw [h, psD_at hk]
theorem nmO_no {d : Pd} {ls : List (List UInt8)} {y : Int} (h : bsN d ls y = -1) : nmO d ls y = d.1 := by unfold nmO; rw [h]; rfl
theorem nmO_at {d : Pd} {ls : List (List UInt8)} {y : Int} {i : Nat} (h : bsN d ls y = i) : nmO d ls y = (d.2.2.2.2.getD i nmD).1 := by
  unfold nmO
  rw [h, if_neg (by omega)]
  rfl
set_option maxRecDepth 20000 in
set_option maxHeartbeats 3200000 in
theorem i_nameOf (p : Pl) (A' : Option Addr) (m c' : Nat) (ls : List (List UInt8)) (y : Int) (w : World) (h : PlAt w p) (h' : SlAt w 1 encS A' ls) (hm : m = ls.length) (hl' : m ≤ 1048576) :
    Calls Tryz.prog 34 #[.agg #[.string (tx p.1), .int .i64 p.2.1, .int .i64 p.2.2.1, .int .i64 p.2.2.2.1, .slice p.2.2.2.2.1 p.2.2.2.2.2.2.length p.2.2.2.2.2.1], .slice A' m c', .int .i64 y] w fun e w' => e = .returned (.string (tx (nmO (pdOf p) ls y))) ∧ Ext w w' := by
  have HB := Lib.hid (fun W (hW : Ext w W) => i_bestIn p.2.2.2.2.1 A' p.2.2.2.2.2.2.length p.2.2.2.2.2.1 m c' p.2.2.2.2.2.2 ls y W (h.1.ext hW) (h'.ext hW) rfl hm h.2.2.2.1 hl')
  have HS := Lib.hid h.1
  rcases bsG_cases (ns := p.2.2.2.2.2.2) (y := y) ls with hc | ⟨i, hc, hi⟩
  · rw [hc] at HB
    have hn : nmO (pdOf p) ls y = p.1 := nmO_no (d := pdOf p) (show bsN (pdOf p) ls y = -1 from hc)
    rw [hn]
    clear hc hn HS h h' hm
    generalize tx p.1 = s0 at *
    generalize p.2.1 = s1 at *
    generalize p.2.2.1 = s2 at *
    generalize p.2.2.2.1 = s3 at *
    generalize p.2.2.2.2.1 = s4 at *
    generalize p.2.2.2.2.2.1 = s6 at *
    generalize p.2.2.2.2.2.2.length = s5 at *
    go_enter Tryz.func34, Tryz.ntmps34
    go_wp2_with fail
    refine (HB.out _ (by (with_reducible repeat (first | exact Ext.refl _ | assumption | (apply Src.ext; assumption) | refine Ext.alloc ?_ _ | refine Ext.drew ?_ | refine Ext.drewN ?_ _ | (refine Ext.setCell' ?_ ?_ _; solve | omega | simp | (simp; omega)) | refine Ext.trans ?_ (by assumption))))).mono ?_
    rintro e w1 ⟨rfl, hx1⟩
    obtain ⟨hc1, hf1⟩ := hx1.rules
    have hs1 := hx1.size
    (try simp at hs1)
    have := (show w.heap.size < w1.heap.size from by omega)
    go_wp2
    go_ret
    exact ⟨rfl, by (with_reducible repeat (first | exact Ext.refl _ | assumption | (apply Src.ext; assumption) | refine Ext.alloc ?_ _ | refine Ext.drew ?_ | refine Ext.drewN ?_ _ | (refine Ext.setCell' ?_ ?_ _; solve | omega | simp | (simp; omega)) | refine Ext.trans ?_ (by assumption)))⟩
  · rw [hc] at HB
    have hn : nmO (pdOf p) ls y = (p.2.2.2.2.2.2.getD i nmD).1 := nmO_at (d := pdOf p) (show bsN (pdOf p) ls y = i from hc)
    rw [hn]
    obtain ⟨b, off, hA, hb, d0, d1, d2, d3, d4⟩ := h.1.nm hi
    rw [hA] at HB ⊢
    have hi0 : (0 : Int) ≤ (i : Int) := by omega
    have hi1 : decide ((0 : Int) ≤ (i : Int)) = true := decide_eq_true hi0
    clear hc hn HS h h' hm hA d1 d2 d3 d4
    generalize tx (p.2.2.2.2.2.2.getD i nmD).1 = sn at *
    generalize tx p.1 = s0 at *
    generalize p.2.1 = s1 at *
    generalize p.2.2.1 = s2 at *
    generalize p.2.2.2.1 = s3 at *
    generalize p.2.2.2.2.2.1 = s6 at *
    generalize p.2.2.2.2.2.2.length = s5 at *
    go_enter Tryz.func34, Tryz.ntmps34
    go_wp2_with fail
    refine (HB.out _ (by (with_reducible repeat (first | exact Ext.refl _ | assumption | (apply Src.ext; assumption) | refine Ext.alloc ?_ _ | refine Ext.drew ?_ | refine Ext.drewN ?_ _ | (refine Ext.setCell' ?_ ?_ _; solve | omega | simp | (simp; omega)) | refine Ext.trans ?_ (by assumption))))).mono ?_
    rintro e w1 ⟨rfl, hx1⟩
    obtain ⟨hc1, hf1⟩ := hx1.rules
    have hs1 := hx1.size
    (try simp at hs1)
    have := (show w.heap.size < w1.heap.size from by omega)
    have := (show b < w.heap.size + 1 from by omega)
    go_wp2
    go_ret
    exact ⟨rfl, by (with_reducible repeat (first | exact Ext.refl _ | assumption | (apply Src.ext; assumption) | refine Ext.alloc ?_ _ | refine Ext.drew ?_ | refine Ext.drewN ?_ _ | (refine Ext.setCell' ?_ ?_ _; solve | omega | simp | (simp; omega)) | refine Ext.trans ?_ (by assumption)))⟩
section
variable {w : World} {A A' A9 : Option Addr} {n c m c' r c9 : Nat} {ps : List Pl} {L : List Lk} {ls : List (List UInt8)}
set_option maxRecDepth 20000 in
set_option maxHeartbeats 6400000 in
theorem s_l14Name (x : List UInt8) (y : Int) (h : WIn w A A' n c m c' ps L) (hw : wdB (psD ps) L = true) (hf : (fndP (psD ps) x).isSome = true) (h' : SlAt w 1 encS A9 ls) (hr : r = ls.length) (hl' : r ≤ 1048576) :
    Calls Tryz.prog 36 #[.agg #[.slice A n c, .slice A' m c'], .string (tx x), .slice A9 r c9, .int .i64 y] w fun e w' => e = .returned (.string (tx (nmO ((fndP (psD ps) x).getD pdD) ls y))) ∧ Ext w w' := by
  have hln : n ≤ 1048576 := by rw [h.hn]; exact h.hl
  have HF := Lib.hid (fun W (hW : Ext w W) => s_l11Find A n c ps x W (h.sq.ext hW) h.hn hln)
  obtain ⟨k, hk1, hk2, hk3, hk4⟩ := fnd_some hf
  rw [psD_len] at hk2
  rw [psD_at hk2] at hk3 hk4
  rw [hk1] at HF
  rw [hk3]
  have hkx : (ps.getD k plD).1 = x := hk4
  have hpl := h.pl _ (pl_mem hk2)
  have hnb : nsB (ps.getD k plD).2.2.2.2.2.2 = true := by
    have := wdB_pl hw (j := k) (by rw [psD_len]; exact hk2)
    rw [psD_at hk2] at this
    exact (plB_iff.1 this).2.2.2.1
  have h12 : (ps.getD k plD).2.2.2.2.2.2.length ≤ 12 := (nsB_iff.1 hnb).2
  have HB := Lib.hid (fun W (hW : Ext w W) => s_l09Best (ps.getD k plD).2.2.2.2.1 A9 (ps.getD k plD).2.2.2.2.2.2.length (ps.getD k plD).2.2.2.2.2.1 r c9 (ps.getD k plD).2.2.2.2.2.2 ls y W (hpl.1.ext hW) (h'.ext hW) rfl hr (by omega) hl')
  obtain ⟨bb, off, hA, hb, d0, d1, d2, d3, d4⟩ := h.sq.pl hk2
  subst hA
  have hkn : k < n := by rw [h.hn]; exact hk2
  have hk0 : (0 : Int) ≤ (k : Int) := by omega
  show Calls _ _ _ _ fun e w' => e = .returned (.string (tx (nmO (pdOf (ps.getD k plD)) ls y))) ∧ Ext w w'
  generalize ps.getD k plD = p at *
  rcases bsG_cases (ns := p.2.2.2.2.2.2) (y := y) ls with hc | ⟨i, hc, hi⟩
  · rw [hc] at HB
    have hn : nmO (pdOf p) ls y = x := (nmO_no (d := pdOf p) (show bsN (pdOf p) ls y = -1 from hc)).trans hkx
    rw [hn]
    clear hc hn h h' hr hw hf hk1 hk2 hk3 hk4 hkx hpl hnb h12 d0 d1 d2 d3
    generalize p.2.2.2.2.1 = s4 at *
    generalize p.2.2.2.2.2.1 = s6 at *
    generalize p.2.2.2.2.2.2.length = s5 at *
    generalize tx x = sx at *
    go_enter Tryz.func36, Tryz.ntmps36
    go_wp2
    (refine wp_region_ext (by kernel_rfl) (by kernel_rfl) ?_; (repeat (go_big_quiet_step ((go_at_call 62; exact Calls_same (HF.out _ (Ext.trans (by (with_reducible repeat (first | exact Ext.refl _ | assumption | (apply Src.ext; assumption) | refine Ext.alloc ?_ _ | refine Ext.drew ?_ | refine Ext.drewN ?_ _ | (refine Ext.setCell' ?_ ?_ _; solve | omega | simp | (simp; omega)) | refine Ext.trans ?_ (by assumption)))) (ExtOf.ext _))))))); refine wpQuiet_nil ?_; intro wq hxwq; obtain ⟨hcwq, hfwq⟩ := hxwq.rules; have hswq := hxwq.size; (try simp at hswq))
    go_wp2_with fail
    refine (HB.out _ (by (with_reducible repeat (first | exact Ext.refl _ | assumption | (apply Src.ext; assumption) | refine Ext.alloc ?_ _ | refine Ext.drew ?_ | refine Ext.drewN ?_ _ | (refine Ext.setCell' ?_ ?_ _; solve | omega | simp | (simp; omega)) | refine Ext.trans ?_ (by assumption))))).mono ?_
    rintro e w1 ⟨rfl, hx1⟩
    go_wp2
    go_ret
    exact ⟨rfl, by (with_reducible repeat (first | exact Ext.refl _ | assumption | (apply Src.ext; assumption) | refine Ext.alloc ?_ _ | refine Ext.drew ?_ | refine Ext.drewN ?_ _ | (refine Ext.setCell' ?_ ?_ _; solve | omega | simp | (simp; omega)) | refine Ext.trans ?_ (by assumption)))⟩
  · rw [hc] at HB
    have hn : nmO (pdOf p) ls y = (p.2.2.2.2.2.2.getD i nmD).1 := nmO_at (d := pdOf p) (show bsN (pdOf p) ls y = i from hc)
    rw [hn]
    obtain ⟨b2, off2, hA2, hb2, e0, e1, e2, e3, e4⟩ := hpl.1.nm hi
    rw [hA2] at HB d4
    have hi0 : ¬ ((i : Int) < 0) := by omega
    have hi1 : decide ((i : Int) < 0) = false := decide_eq_false hi0
    have hi2 : (0 : Int) ≤ (i : Int) := by omega
    clear hc hn h h' hr hw hf hk1 hk2 hk3 hk4 hkx hpl hnb h12 d0 d1 d2 d3 hA2 e1 e2 e3 e4
    generalize tx (p.2.2.2.2.2.2.getD i nmD).1 = sn at *
    generalize p.2.2.2.2.2.1 = s6 at *
    generalize p.2.2.2.2.2.2.length = s5 at *
    generalize tx x = sx at *
    go_enter Tryz.func36, Tryz.ntmps36
    go_wp2
    (refine wp_region_ext (by kernel_rfl) (by kernel_rfl) ?_; (repeat (go_big_quiet_step ((go_at_call 62; exact Calls_same (HF.out _ (Ext.trans (by (with_reducible repeat (first | exact Ext.refl _ | assumption | (apply Src.ext; assumption) | refine Ext.alloc ?_ _ | refine Ext.drew ?_ | refine Ext.drewN ?_ _ | (refine Ext.setCell' ?_ ?_ _; solve | omega | simp | (simp; omega)) | refine Ext.trans ?_ (by assumption)))) (ExtOf.ext _))))))); refine wpQuiet_nil ?_; intro wq hxwq; obtain ⟨hcwq, hfwq⟩ := hxwq.rules; have hswq := hxwq.size; (try simp at hswq))
    go_wp2_with fail
    refine (HB.out _ (by (with_reducible repeat (first | exact Ext.refl _ | assumption | (apply Src.ext; assumption) | refine Ext.alloc ?_ _ | refine Ext.drew ?_ | refine Ext.drewN ?_ _ | (refine Ext.setCell' ?_ ?_ _; solve | omega | simp | (simp; omega)) | refine Ext.trans ?_ (by assumption))))).mono ?_
    rintro e w1 ⟨rfl, hx1⟩
    obtain ⟨hc1, hf1⟩ := hx1.rules
    have hs1 := hx1.size
    (try simp at hs1)
    have := (show b2 < wq.heap.size from by omega)
    go_wp2
    go_ret
    exact ⟨rfl, by (with_reducible repeat (first | exact Ext.refl _ | assumption | (apply Src.ext; assumption) | refine Ext.alloc ?_ _ | refine Ext.drew ?_ | refine Ext.drewN ?_ _ | (refine Ext.setCell' ?_ ?_ _; solve | omega | simp | (simp; omega)) | refine Ext.trans ?_ (by assumption)))⟩
end

end Go.Proofs.YtbnkiibjhfcffaaGreatDoor
namespace Go.Proofs.YtbnkiibjhfcffaaGreatDoor
open Go.RowKit
attribute [local go_sem] ExtOf.cell ExtOf.frozen

set_option maxRecDepth 20000 in
set_option maxHeartbeats 6400000 in
theorem i_RenamedBetween1 (A' : Option Addr) (m c' : Nat) (ls : List (List UInt8)) (p : Pl) (a b : Int) (b3 b4 b5 : Nat) (w : World) (h : PlAt w p) (h' : SlAt w 1 encS A' ls) (hn : m = ls.length) (hl : m ≤ 1048576) (h3 : w.cell? ⟨b3, 0, none⟩ = some (.slice A' m c')) (h4 : w.cell? ⟨b4, 0, none⟩ = some (.int .i64 a)) (h5 : w.cell? ⟨b5, 0, none⟩ = some (.int .i64 b)) :
    Calls Tryz.prog 33 #[plV p, .pointer (some ⟨b4, 0, none⟩), .pointer (some ⟨b5, 0, none⟩), .pointer (some ⟨b3, 0, none⟩)] w fun e w' => e = .returned (.bool (renB ls a b (pdOf p))) ∧ Ext w w' := by
  have e4 : b4 < w.heap.size := World.block_lt_of_cell? _ _ h4
  have e5 : b5 < w.heap.size := World.block_lt_of_cell? _ _ h5
  have e3 : b3 < w.heap.size := World.block_lt_of_cell? _ _ h3
  have hpv : plV p = .agg #[.string (tx p.1), .int .i64 p.2.1, .int .i64 p.2.2.1, .int .i64 p.2.2.2.1, .slice p.2.2.2.2.1 p.2.2.2.2.2.2.length p.2.2.2.2.2.1] := rfl
  obtain ⟨q1, hq1⟩ : ∃ q, inB a p.2.2.1 p.2.2.2.1 = q := ⟨_, rfl⟩
  obtain ⟨q2, hq2⟩ : ∃ q, inB b p.2.2.1 p.2.2.2.1 = q := ⟨_, rfl⟩
  have HH : Hid (∀ z q, (z = a ∧ q = q1) ∨ (z = b ∧ q = q2) → ∀ W, Calls Tryz.prog 24 #[.agg #[.int .i64 p.2.2.1, .int .i64 p.2.2.2.1], .int .i64 z] W fun e w' => e = .returned (.bool q) ∧ Ext W w') := Lib.hid (fun z q hz W => by
    rcases hz with ⟨rfl, rfl⟩ | ⟨rfl, rfl⟩
    · rw [← hq1]; exact i_has _ _ _ W
    · rw [← hq2]; exact i_has _ _ _ W)
  obtain ⟨pa, hpa⟩ : ∃ pa, nmO (pdOf p) ls a = pa := ⟨_, rfl⟩
  obtain ⟨pb, hpb⟩ : ∃ pb, nmO (pdOf p) ls b = pb := ⟨_, rfl⟩
  have HP : Hid (∀ z (s : ByteArray), (z = a ∧ s = tx pa) ∨ (z = b ∧ s = tx pb) → ∀ W, Ext w W → Calls Tryz.prog 34 #[.agg #[.string (tx p.1), .int .i64 p.2.1, .int .i64 p.2.2.1, .int .i64 p.2.2.2.1, .slice p.2.2.2.2.1 p.2.2.2.2.2.2.length p.2.2.2.2.2.1], .slice A' m c', .int .i64 z] W fun e w' => e = .returned (.string s) ∧ Ext W w') := Lib.hid (fun z s hz W hW => by
    rcases hz with ⟨rfl, rfl⟩ | ⟨rfl, rfl⟩
    · rw [← hpa]; exact i_nameOf p A' m c' ls _ W (h.ext hW) (h'.ext hW) hn hl
    · rw [← hpb]; exact i_nameOf p A' m c' ls _ W (h.ext hW) (h'.ext hW) hn hl)
  have hq : renB ls a b (pdOf p) = (q1 && (q2 && !((tx pa).toList == (tx pb).toList))) := by
    rw [tx_toL, tx_toL, ← hpa, ← hpb, ← hq1, ← hq2]; rfl
  rw [hq, hpv]
  generalize tx pa = sa at *
  generalize tx pb = sb at *
  generalize tx p.1 = s0 at *
  clear hq hpv h h' hn hpa hpb hq1 hq2
  generalize p.2.1 = s1 at *
  generalize p.2.2.1 = s2 at *
  generalize p.2.2.2.1 = s3 at *
  generalize p.2.2.2.2.1 = s4 at *
  generalize p.2.2.2.2.2.1 = s6 at *
  generalize p.2.2.2.2.2.2.length = s5 at *
  cases q1 with
  | false =>
    go_enter Tryz.func33, Tryz.ntmps33
    go_wp2
    (refine wp_region_ext (by kernel_rfl) (by kernel_rfl) ?_; (repeat (go_big_quiet_step ((first | (go_at_call 24; exact Calls_ext (HH.out _ _ (by first | exact .inl ⟨rfl, rfl⟩ | exact .inr ⟨rfl, rfl⟩) _)) | (go_at_call 34; exact Calls_ext (HP.out _ _ (by first | exact .inl ⟨rfl, rfl⟩ | exact .inr ⟨rfl, rfl⟩) _ (Ext.trans (by (with_reducible repeat (first | exact Ext.refl _ | assumption | (apply Src.ext; assumption) | refine Ext.alloc ?_ _ | refine Ext.drew ?_ | refine Ext.drewN ?_ _ | (refine Ext.setCell' ?_ ?_ _; solve | omega | simp | (simp; omega)) | refine Ext.trans ?_ (by assumption)))) (ExtOf.ext _)))))))); refine wpQuiet_nil ?_; intro wq hxwq; obtain ⟨hcwq, hfwq⟩ := hxwq.rules; have hswq := hxwq.size; (try simp at hswq))
    go_wp2
    go_ret
    exact ⟨rfl, by (with_reducible repeat (first | exact Ext.refl _ | assumption | (apply Src.ext; assumption) | refine Ext.alloc ?_ _ | refine Ext.drew ?_ | refine Ext.drewN ?_ _ | (refine Ext.setCell' ?_ ?_ _; solve | omega | simp | (simp; omega)) | refine Ext.trans ?_ (by assumption)))⟩
  | true =>
    cases q2 with
    | false =>
      go_enter Tryz.func33, Tryz.ntmps33
      go_wp2
      (refine wp_region_ext (by kernel_rfl) (by kernel_rfl) ?_; (repeat (go_big_quiet_step ((first | (go_at_call 24; exact Calls_ext (HH.out _ _ (by first | exact .inl ⟨rfl, rfl⟩ | exact .inr ⟨rfl, rfl⟩) _)) | (go_at_call 34; exact Calls_ext (HP.out _ _ (by first | exact .inl ⟨rfl, rfl⟩ | exact .inr ⟨rfl, rfl⟩) _ (Ext.trans (by (with_reducible repeat (first | exact Ext.refl _ | assumption | (apply Src.ext; assumption) | refine Ext.alloc ?_ _ | refine Ext.drew ?_ | refine Ext.drewN ?_ _ | (refine Ext.setCell' ?_ ?_ _; solve | omega | simp | (simp; omega)) | refine Ext.trans ?_ (by assumption)))) (ExtOf.ext _)))))))); refine wpQuiet_nil ?_; intro wq hxwq; obtain ⟨hcwq, hfwq⟩ := hxwq.rules; have hswq := hxwq.size; (try simp at hswq))
      go_wp2
      go_ret
      exact ⟨rfl, by (with_reducible repeat (first | exact Ext.refl _ | assumption | (apply Src.ext; assumption) | refine Ext.alloc ?_ _ | refine Ext.drew ?_ | refine Ext.drewN ?_ _ | (refine Ext.setCell' ?_ ?_ _; solve | omega | simp | (simp; omega)) | refine Ext.trans ?_ (by assumption)))⟩
    | true =>
      go_enter Tryz.func33, Tryz.ntmps33
      go_wp2
      (refine wp_region_ext (by kernel_rfl) (by kernel_rfl) ?_; (repeat (go_big_quiet_step ((first | (go_at_call 24; exact Calls_ext (HH.out _ _ (by first | exact .inl ⟨rfl, rfl⟩ | exact .inr ⟨rfl, rfl⟩) _)) | (go_at_call 34; exact Calls_ext (HP.out _ _ (by first | exact .inl ⟨rfl, rfl⟩ | exact .inr ⟨rfl, rfl⟩) _ (Ext.trans (by (with_reducible repeat (first | exact Ext.refl _ | assumption | (apply Src.ext; assumption) | refine Ext.alloc ?_ _ | refine Ext.drew ?_ | refine Ext.drewN ?_ _ | (refine Ext.setCell' ?_ ?_ _; solve | omega | simp | (simp; omega)) | refine Ext.trans ?_ (by assumption)))) (ExtOf.ext _)))))))); refine wpQuiet_nil ?_; intro wq hxwq; obtain ⟨hcwq, hfwq⟩ := hxwq.rules; have hswq := hxwq.size; (try simp at hswq))
      go_wp2
      go_ret
      exact ⟨rfl, by (with_reducible repeat (first | exact Ext.refl _ | assumption | (apply Src.ext; assumption) | refine Ext.alloc ?_ _ | refine Ext.drew ?_ | refine Ext.drewN ?_ _ | (refine Ext.setCell' ?_ ?_ _; solve | omega | simp | (simp; omega)) | refine Ext.trans ?_ (by assumption)))⟩
theorem en_RenamedBetween1 (args : Array Value) (w : World) : (callFunc 33 args).run Tryz.prog w = .ok (.enter 33 args) w := enters_isSome Tryz.func33 (by kernel_rfl) (by kernel_rfl) args w

section
variable {w : World} {A A' A9 : Option Addr} {n c m c' r c9 : Nat} {ps : List Pl} {L : List Lk} {ls : List (List UInt8)}
set_option maxRecDepth 20000 in
set_option maxHeartbeats 12800000 in
theorem i_RenamedBetweenW (a b : Int) (h : WIn w A A' n c m c' ps L) (h9 : SlAt w 1 encS A9 ls) (hr : r = ls.length) (hr9 : r ≤ 1048576) (hs : ∀ s ∈ ls, s.length ≤ 1048576) (hm : Mx w) :
    Calls Tryz.prog 11 #[.agg #[.slice A n c, .slice A' m c'], .slice A9 r c9, .int .i64 a, .int .i64 b] w fun e w' => ∃ v, e = .returned (.tuple #[v, .int .i64 (wyC (psD ps) L (lgB ls) [a, b])]) ∧ OwS w' w.heap.size v (renR (psD ps) L ls a b) ∧ Ext w w' := by
  have HW := Lib.hid (fun W (hW : Ext w W) => i_areLanguages A9 r c9 ls W (h9.ext hW) hr hr9 hs)
  have HC : Hid (∀ W g, Ext w W → Blk W g 2 #[.int .i64 a, .int .i64 b] → Calls Tryz.prog 21 #[.agg #[.slice A n c, .slice A' m c'], .bool (lgB ls), .slice (some ⟨g, 0, none⟩) 2 2] W fun e w' => e = .returned (.int .i64 (wyC (psD ps) L (lgB ls) [a, b])) ∧ Ext W w') := Lib.hid (fun W g hW hB => i_worldCode (lgB ls) [a, b] _ 2 2 (h.ext hW) (hm.ext hW) (blk_i2 hB) rfl (by omega))
  have HK : Hid (∀ W, Ext ((((w.alloc (.cells #[.slice A n c, .slice A' m c'] 27)).alloc (.cells #[.slice A9 r c9] 30)).alloc (.cells #[.int .i64 a] 2)).alloc (.cells #[.int .i64 b] 2)) W → W.cell? ⟨w.heap.size, 0, none⟩ = some (.slice A n c) ∧ W.cell? ⟨w.heap.size, 1, none⟩ = some (.slice A' m c') ∧ W.cell? ⟨w.heap.size + 1, 0, none⟩ = some (.slice A9 r c9) ∧ W.cell? ⟨w.heap.size + 1 + 1, 0, none⟩ = some (.int .i64 a) ∧ W.cell? ⟨w.heap.size + 1 + 1 + 1, 0, none⟩ = some (.int .i64 b)) := Lib.hid (fun W hW => by
    have B0 := ((((Blk.new (cs := #[.slice A n c, .slice A' m c']) (t := 27) (w := w) rfl).alloc (.cells #[.slice A9 r c9] 30)).alloc (.cells #[.int .i64 a] 2)).alloc (.cells #[.int .i64 b] 2)).ext hW
    have B1 := (((Blk.new (cs := #[.slice A9 r c9]) (t := 30) (w := w.alloc (.cells #[.slice A n c, .slice A' m c'] 27)) rfl).alloc (.cells #[.int .i64 a] 2)).alloc (.cells #[.int .i64 b] 2)).ext hW
    have B2 := ((Blk.new (cs := #[.int .i64 a]) (t := 2) (w := (w.alloc (.cells #[.slice A n c, .slice A' m c'] 27)).alloc (.cells #[.slice A9 r c9] 30)) rfl).alloc (.cells #[.int .i64 b] 2)).ext hW
    have B3 := (Blk.new (cs := #[.int .i64 b]) (t := 2) (w := ((w.alloc (.cells #[.slice A n c, .slice A' m c'] 27)).alloc (.cells #[.slice A9 r c9] 30)).alloc (.cells #[.int .i64 a] 2)) rfl).ext hW
    simp only [World.size_alloc] at B1 B2 B3
    exact ⟨B0.cell 0, B0.cell 1, B1.cell 0, B2.cell 0, B3.cell 0⟩)
  have HKB : Hid (∀ W, Ext ((((w.alloc (.cells #[.slice A n c, .slice A' m c'] 27)).alloc (.cells #[.slice A9 r c9] 30)).alloc (.cells #[.int .i64 a] 2)).alloc (.cells #[.int .i64 b] 2)) W → Blk W (w.heap.size + 1) 30 #[.slice A9 r c9] ∧ Blk W (w.heap.size + 1 + 1) 2 #[.int .i64 a] ∧ Blk W (w.heap.size + 1 + 1 + 1) 2 #[.int .i64 b]) := Lib.hid (fun W hW => by
    have B1 := (((Blk.new (cs := #[.slice A9 r c9]) (t := 30) (w := w.alloc (.cells #[.slice A n c, .slice A' m c'] 27)) rfl).alloc (.cells #[.int .i64 a] 2)).alloc (.cells #[.int .i64 b] 2)).ext hW
    have B2 := ((Blk.new (cs := #[.int .i64 a]) (t := 2) (w := (w.alloc (.cells #[.slice A n c, .slice A' m c'] 27)).alloc (.cells #[.slice A9 r c9] 30)) rfl).alloc (.cells #[.int .i64 b] 2)).ext hW
    have B3 := (Blk.new (cs := #[.int .i64 b]) (t := 2) (w := ((w.alloc (.cells #[.slice A n c, .slice A' m c'] 27)).alloc (.cells #[.slice A9 r c9] 30)).alloc (.cells #[.int .i64 a] 2)) rfl).ext hW
    simp only [World.size_alloc] at B1 B2 B3
    exact ⟨B1, B2, B3⟩)
  by_cases hz : wyC (psD ps) L (lgB ls) [a, b] = 0
  · have h10 := wdB_len (wyC_zero hz).1
    rw [psD_len] at h10
    have hE : renR (psD ps) L ls a b = cdsP (renB ls a b) (psD ps) := by unfold renR; rw [if_pos hz]
    have HI : Hid (∀ W b3 b4 b5, Ext w W → Blk W b3 30 #[.slice A9 r c9] → Blk W b4 2 #[.int .i64 a] → Blk W b5 2 #[.int .i64 b] → Calls Tryz.prog 22 #[.slice A n c, .func (.func 33) #[] #[.pointer (some ⟨b4, 0, none⟩), .pointer (some ⟨b5, 0, none⟩), .pointer (some ⟨b3, 0, none⟩)]] W fun e w' => ∃ v, e = .returned v ∧ OwS w' W.heap.size v (renR (psD ps) L ls a b) ∧ Ext W w') := Lib.hid (fun W b3 b4 b5 hW h3 h4 h5 => by
      rw [hE]
      exact i_codesOf (renB ls a b) _ _ en_RenamedBetween1 A n c ps W (h.sq.ext hW) h.hn (by rw [h.hn]; omega) (fun p hp W' hW' => i_RenamedBetween1 A9 r c9 ls p a b b3 b4 b5 W' (((h.pl p hp).ext hW).ext hW') ((h9.ext hW).ext hW') hr hr9 ((h3.ext hW').cell 0) ((h4.ext hW').cell 0) ((h5.ext hW').cell 0)))
    rw [hz] at HC ⊢
    generalize renR (psD ps) L ls a b = res at *
    generalize lgB ls = q at *
    clear hE hz h hm h10 h9 hr hs
    obtain ⟨g0, g1, g2, g3, g4⟩ := HK.out _ (Ext.refl _)
    go_enter Tryz.func11, Tryz.ntmps11
    go_wp2
    go_region_held3 (fun w' => w'.cell? ⟨w.heap.size, 0, none⟩ = some (.slice A n c) ∧ w'.cell? ⟨w.heap.size, 1, none⟩ = some (.slice A' m c') ∧ w'.cell? ⟨w.heap.size + 1, 0, none⟩ = some (.slice A9 r c9) ∧ w'.cell? ⟨w.heap.size + 1 + 1, 0, none⟩ = some (.int .i64 a) ∧ w'.cell? ⟨w.heap.size + 1 + 1 + 1, 0, none⟩ = some (.int .i64 b)) (first | go_keep | exact HK.out _ (by (with_reducible repeat (first | exact Ext.refl _ | assumption | (apply Src.ext; assumption) | refine Ext.alloc ?_ _ | refine Ext.drew ?_ | refine Ext.drewN ?_ _ | (refine Ext.setCell' ?_ ?_ _; solve | omega | simp | (simp; omega)) | refine Ext.trans ?_ (by assumption))))) (first | (go_at_call 32; refine (HW.out _ (by (with_reducible repeat (first | exact Ext.refl _ | assumption | (apply Src.ext; assumption) | refine Ext.alloc ?_ _ | refine Ext.drew ?_ | refine Ext.drewN ?_ _ | (refine Ext.setCell' ?_ ?_ _; solve | omega | simp | (simp; omega)) | refine Ext.trans ?_ (by assumption))))).mono ?_; rintro e w7 ⟨rfl, hx7⟩; have hs7 := hx7.size; (try simp at hs7)) | (go_at_call 21; refine (HC.out _ _ (by (with_reducible repeat (first | exact Ext.refl _ | assumption | (apply Src.ext; assumption) | refine Ext.alloc ?_ _ | refine Ext.drew ?_ | refine Ext.drewN ?_ _ | (refine Ext.setCell' ?_ ?_ _; solve | omega | simp | (simp; omega)) | refine Ext.trans ?_ (by assumption)))) (by (with_reducible repeat (first | assumption | (apply Blk.new; solve | simp | with_unfolding_all rfl) | apply Blk.drew | apply Blk.drewN | (apply Blk.far'; solve | omega | simp | (simp; omega)) | apply Blk.set_ | apply Blk.alloc | (apply Blk.ext'; assumption) | (apply Blk.but'; assumption; solve | omega | (simp; omega)))))).mono ?_; rintro e w8 ⟨rfl, hx8⟩; have hs8 := hx8.size; (try simp at hs8); obtain ⟨y0, y1, y2, y3, y4⟩ := HK.out w8 (by (with_reducible repeat (first | exact Ext.refl _ | assumption | (apply Src.ext; assumption) | refine Ext.alloc ?_ _ | refine Ext.drew ?_ | refine Ext.drewN ?_ _ | (refine Ext.setCell' ?_ ?_ _; solve | omega | simp | (simp; omega)) | refine Ext.trans ?_ (by assumption))))))
    all_goals
      have hkb := HKB.out w8 (by (with_reducible repeat (first | exact Ext.refl _ | assumption | (apply Src.ext; assumption) | refine Ext.alloc ?_ _ | refine Ext.drew ?_ | refine Ext.drewN ?_ _ | (refine Ext.setCell' ?_ ?_ _; solve | omega | simp | (simp; omega)) | refine Ext.trans ?_ (by assumption))))
      have HKB8 := Lib.hid hkb
      clear hkb
      go_wp2_with fail
      refine (HI.out _ _ _ _ (by (with_reducible repeat (first | exact Ext.refl _ | assumption | (apply Src.ext; assumption) | refine Ext.alloc ?_ _ | refine Ext.drew ?_ | refine Ext.drewN ?_ _ | (refine Ext.setCell' ?_ ?_ _; solve | omega | simp | (simp; omega)) | refine Ext.trans ?_ (by assumption)))) (HKB8.out.1.ext (by (with_reducible repeat (first | exact Ext.refl _ | assumption | (apply Src.ext; assumption) | refine Ext.alloc ?_ _ | refine Ext.drew ?_ | refine Ext.drewN ?_ _ | (refine Ext.setCell' ?_ ?_ _; solve | omega | simp | (simp; omega)) | refine Ext.trans ?_ (by assumption))))) (HKB8.out.2.1.ext (by (with_reducible repeat (first | exact Ext.refl _ | assumption | (apply Src.ext; assumption) | refine Ext.alloc ?_ _ | refine Ext.drew ?_ | refine Ext.drewN ?_ _ | (refine Ext.setCell' ?_ ?_ _; solve | omega | simp | (simp; omega)) | refine Ext.trans ?_ (by assumption))))) (HKB8.out.2.2.ext (by (with_reducible repeat (first | exact Ext.refl _ | assumption | (apply Src.ext; assumption) | refine Ext.alloc ?_ _ | refine Ext.drew ?_ | refine Ext.drewN ?_ _ | (refine Ext.setCell' ?_ ?_ _; solve | omega | simp | (simp; omega)) | refine Ext.trans ?_ (by assumption)))))).mono ?_
      rintro e w2 ⟨v, rfl, hO, hx2⟩
      have HO := Lib.hid hO
      have hs0 : w.heap.size ≤ w8.heap.size := by omega
      clear hO
      go_wp2
      go_ret2
      exact ⟨_, rfl, HO.out.less (by first | exact hs0 | (simp; omega)), by (with_reducible repeat (first | exact Ext.refl _ | assumption | (apply Src.ext; assumption) | refine Ext.alloc ?_ _ | refine Ext.drew ?_ | refine Ext.drewN ?_ _ | (refine Ext.setCell' ?_ ?_ _; solve | omega | simp | (simp; omega)) | refine Ext.trans ?_ (by assumption)))⟩
  · have hR : renR (psD ps) L ls a b = [] := by unfold renR; rw [if_neg hz]
    rw [hR]
    generalize wyC (psD ps) L (lgB ls) [a, b] = cd at *
    have hcd : (cd != 0) = true := by simpa using hz
    generalize lgB ls = q at *
    clear h hm hR h9 hr hs
    obtain ⟨g0, g1, g2, g3, g4⟩ := HK.out _ (Ext.refl _)
    go_enter Tryz.func11, Tryz.ntmps11
    go_wp2
    go_region_held3 (fun w' => w'.cell? ⟨w.heap.size, 0, none⟩ = some (.slice A n c) ∧ w'.cell? ⟨w.heap.size, 1, none⟩ = some (.slice A' m c') ∧ w'.cell? ⟨w.heap.size + 1, 0, none⟩ = some (.slice A9 r c9) ∧ w'.cell? ⟨w.heap.size + 1 + 1, 0, none⟩ = some (.int .i64 a) ∧ w'.cell? ⟨w.heap.size + 1 + 1 + 1, 0, none⟩ = some (.int .i64 b)) (first | go_keep | exact HK.out _ (by (with_reducible repeat (first | exact Ext.refl _ | assumption | (apply Src.ext; assumption) | refine Ext.alloc ?_ _ | refine Ext.drew ?_ | refine Ext.drewN ?_ _ | (refine Ext.setCell' ?_ ?_ _; solve | omega | simp | (simp; omega)) | refine Ext.trans ?_ (by assumption))))) (first | (go_at_call 32; refine (HW.out _ (by (with_reducible repeat (first | exact Ext.refl _ | assumption | (apply Src.ext; assumption) | refine Ext.alloc ?_ _ | refine Ext.drew ?_ | refine Ext.drewN ?_ _ | (refine Ext.setCell' ?_ ?_ _; solve | omega | simp | (simp; omega)) | refine Ext.trans ?_ (by assumption))))).mono ?_; rintro e w7 ⟨rfl, hx7⟩; have hs7 := hx7.size; (try simp at hs7)) | (go_at_call 21; refine (HC.out _ _ (by (with_reducible repeat (first | exact Ext.refl _ | assumption | (apply Src.ext; assumption) | refine Ext.alloc ?_ _ | refine Ext.drew ?_ | refine Ext.drewN ?_ _ | (refine Ext.setCell' ?_ ?_ _; solve | omega | simp | (simp; omega)) | refine Ext.trans ?_ (by assumption)))) (by (with_reducible repeat (first | assumption | (apply Blk.new; solve | simp | with_unfolding_all rfl) | apply Blk.drew | apply Blk.drewN | (apply Blk.far'; solve | omega | simp | (simp; omega)) | apply Blk.set_ | apply Blk.alloc | (apply Blk.ext'; assumption) | (apply Blk.but'; assumption; solve | omega | (simp; omega)))))).mono ?_; rintro e w8 ⟨rfl, hx8⟩; have hs8 := hx8.size; (try simp at hs8); obtain ⟨y0, y1, y2, y3, y4⟩ := HK.out w8 (by (with_reducible repeat (first | exact Ext.refl _ | assumption | (apply Src.ext; assumption) | refine Ext.alloc ?_ _ | refine Ext.drew ?_ | refine Ext.drewN ?_ _ | (refine Ext.setCell' ?_ ?_ _; solve | omega | simp | (simp; omega)) | refine Ext.trans ?_ (by assumption))))))
    all_goals
      go_wp2
      go_ret2
      exact ⟨_, rfl, Own.nil _ _, by (with_reducible repeat (first | exact Ext.refl _ | assumption | (apply Src.ext; assumption) | refine Ext.alloc ?_ _ | refine Ext.drew ?_ | refine Ext.drewN ?_ _ | (refine Ext.setCell' ?_ ?_ _; solve | omega | simp | (simp; omega)) | refine Ext.trans ?_ (by assumption)))⟩
end

end Go.Proofs.YtbnkiibjhfcffaaGreatDoor
namespace Go.Proofs.YtbnkiibjhfcffaaGreatDoor
open Go.RowKit
attribute [local go_sem] ExtOf.cell ExtOf.frozen

section
variable {w : World} {A A' A9 : Option Addr} {n c m c' r c9 : Nat} {ps : List Pl} {L : List Lk} {ls : List (List UInt8)}
set_option maxRecDepth 20000 in
set_option maxHeartbeats 12800000 in
theorem s_RenamedBetweenW (a b : Int) (h : WIn w A A' n c m c' ps L) (h9 : SlAt w 1 encS A9 ls) (hr : r = ls.length) (hr9 : r ≤ 1048576) (hs : ∀ s ∈ ls, s.length ≤ 1048576) :
    Calls Tryz.prog 12 #[.agg #[.slice A n c, .slice A' m c'], .slice A9 r c9, .int .i64 a, .int .i64 b] w fun e w' => ∃ v, e = .returned (.tuple #[v, .int .i64 (wyC (psD ps) L (lgB ls) [a, b])]) ∧ OwS w' w.heap.size v (renR (psD ps) L ls a b) ∧ Ext w w' := by
  have HC := Lib.hid (fun W (hW : Ext w W) => s_l14Years (w := W) a b (h.ext hW))
  have HG := Lib.hid (fun W (hW : Ext w W) => s_l14Languages A9 r c9 ls W (h9.ext hW) hr hr9 hs)
  have HPA := Lib.hid (fun (hw : wdB (psD ps) L = true) x (hf : (fndP (psD ps) x).isSome = true) z W (hW : Ext w W) => s_l14Name (c9 := c9) x z (h.ext hW) hw hf (h9.ext hW) hr hr9)
  have HS := Lib.hid h.sq
  have HN := Lib.hid h.hn
  by_cases hz : wyC (psD ps) L (lgB ls) [a, b] = 0
  · have h10 := wdB_len (wyC_zero hz).1
    rw [psD_len, ← h.hn] at h10
    have hfin : cdsTo (renB ls a b) (psD ps) n = renR (psD ps) L ls a b := by unfold renR; rw [if_pos hz, h.hn, ← psD_len, cdsTo_all]
    have HFIN := Lib.hid hfin
    have hlg := (wyC_zero hz).2.1
    have hw := (wyC_zero hz).1
    have HSF := Lib.hid (fun k (hk : k < ps.length) => fnd_self (asc_of (wdB_iff.1 hw).1) hk)
    have HPW := Lib.hid (HPA.out hw)
    rw [hz]
    rw [hlg] at hz HG
    rw [hz] at HC
    clear hfin hz h HPA hlg hw h9 hr hs
    go_enter Tryz.func12, Tryz.ntmps12
    go_wp2_with fail
    refine (HG.out _ (by (with_reducible repeat (first | exact Ext.refl _ | assumption | (apply Src.ext; assumption) | refine Ext.alloc ?_ _ | refine Ext.drew ?_ | refine Ext.drewN ?_ _ | (refine Ext.setCell' ?_ ?_ _; solve | omega | simp | (simp; omega)) | refine Ext.trans ?_ (by assumption))))).mono ?_
    rintro e w0 ⟨rfl, hx0⟩
    obtain ⟨hc0, hf0⟩ := hx0.rules
    have hs0 := hx0.size
    (try simp at hs0)
    have := (show w.heap.size < w0.heap.size from by omega)
    go_wp2_with fail
    refine (HC.out _ (by (with_reducible repeat (first | exact Ext.refl _ | assumption | (apply Src.ext; assumption) | refine Ext.alloc ?_ _ | refine Ext.drew ?_ | refine Ext.drewN ?_ _ | (refine Ext.setCell' ?_ ?_ _; solve | omega | simp | (simp; omega)) | refine Ext.trans ?_ (by assumption))))).mono ?_
    rintro e w1 ⟨rfl, hx1⟩
    obtain ⟨hc1, hf1⟩ := hx1.rules
    have hs1 := hx1.size
    (try simp at hs1)
    have B3 : Blk w1 w.heap.size 27 #[.slice A n c, .slice A' m c'] := Blk.eq (by (with_reducible repeat (first | assumption | (apply Blk.new; solve | simp | with_unfolding_all rfl) | apply Blk.drew | apply Blk.drewN | (apply Blk.far'; solve | omega | simp | (simp; omega)) | apply Blk.set_ | apply Blk.alloc | (apply Blk.ext'; assumption) | (apply Blk.but'; assumption; solve | omega | (simp; omega))))) (by rfl)
    have hX1 : Ext w w1 := by clear B3; (with_reducible repeat (first | exact Ext.refl _ | assumption | (apply Src.ext; assumption) | refine Ext.alloc ?_ _ | refine Ext.drew ?_ | refine Ext.drewN ?_ _ | (refine Ext.setCell' ?_ ?_ _; solve | omega | simp | (simp; omega)) | refine Ext.trans ?_ (by assumption)))
    have z3 := B3.lt
    clear hc1 hf1 hx1 hc0 hf0 hx0
    go_wp2
    go_loopw [11, 12] (fun v i wr => ∃ k : Nat, k ≤ n ∧ i = .int .i64 k ∧ Hid (OwS wr (w.heap.size + 1) v (cdsTo (renB ls a b) (psD ps) k)) ∧ Blk wr w.heap.size 27 #[.slice A n c, .slice A' m c'] ∧ Ext w wr) (fun _ i _ => n - (intOf i).toNat)
    case atStart => exact ⟨0, by omega, rfl, Lib.hid (Own.of_blk (g := w1.heap.size) (cs := #[]) (xs := []) (by (with_reducible repeat (first | assumption | (apply Blk.new; solve | simp | with_unfolding_all rfl) | apply Blk.drew | apply Blk.drewN | (apply Blk.far'; solve | omega | simp | (simp; omega)) | apply Blk.set_ | apply Blk.alloc | (apply Blk.ext'; assumption) | (apply Blk.but'; assumption; solve | omega | (simp; omega))))) len_encS rfl (by omega) (by simp)), by (with_reducible repeat (first | assumption | (apply Blk.new; solve | simp | with_unfolding_all rfl) | apply Blk.drew | apply Blk.drewN | (apply Blk.far'; solve | omega | simp | (simp; omega)) | apply Blk.set_ | apply Blk.alloc | (apply Blk.ext'; assumption) | (apply Blk.but'; assumption; solve | omega | (simp; omega)))), by (with_reducible repeat (first | exact Ext.refl _ | assumption | (apply Src.ext; assumption) | refine Ext.alloc ?_ _ | refine Ext.drew ?_ | refine Ext.drewN ?_ _ | (refine Ext.setCell' ?_ ?_ _; solve | omega | simp | (simp; omega)) | refine Ext.trans ?_ (by assumption)))⟩
    case round =>
      obtain ⟨k, hk, rfl, HV, hB, hxr⟩ := hrel
      obtain ⟨w5, rfl⟩ : ∃ x, x = wr := ⟨wr, rfl⟩
      have hBl := hB.lt
      have HB := Lib.hid hB
      have y0 : w5.cell? ⟨w.heap.size, 0, none⟩ = some (.slice A n c) := hB.cell 0
      have y1 : w5.cell? ⟨w.heap.size, 1, none⟩ = some (.slice A' m c') := hB.cell 1
      clear hB
      by_cases hlt : k < n
      · have hkr : k < ps.length := by rw [← HN.out]; exact hlt
        obtain ⟨b9, off, hA, hb, d0, d1, d2, d3, d4⟩ := (HS.out.ext hxr).pl hkr
        have hsucc := cdsTo_succ (p := (renB ls a b)) (D := psD ps) (k := k) (by rw [psD_len]; exact hkr)
        rw [psD_at hkr] at hsucc
        have hln := cdsTo_len ((renB ls a b)) (psD ps) k
        obtain ⟨q1, hq1⟩ : ∃ q, exB (pdOf (ps.getD k plD)) a = q := ⟨_, rfl⟩
        obtain ⟨q2, hq2⟩ : ∃ q, exB (pdOf (ps.getD k plD)) b = q := ⟨_, rfl⟩
        have hHH : Hid (∀ z q, (z = a ∧ q = q1) ∨ (z = b ∧ q = q2) → ∀ W, Calls Tryz.prog 27 #[.agg #[.string (tx (ps.getD k plD).1), .int .i64 (ps.getD k plD).2.1, .int .i64 (ps.getD k plD).2.2.1, .int .i64 (ps.getD k plD).2.2.2.1, .slice (ps.getD k plD).2.2.2.2.1 (ps.getD k plD).2.2.2.2.2.2.length (ps.getD k plD).2.2.2.2.2.1], .int .i64 z] W fun e w' => e = .returned (.bool q) ∧ Ext W w') := Lib.hid (fun z q hz W => by
          rcases hz with ⟨rfl, rfl⟩ | ⟨rfl, rfl⟩
          · rw [← hq1]; exact s_l11Exists _ _ W
          · rw [← hq2]; exact s_l11Exists _ _ W)
        have HH := hHH
        clear hHH
        obtain ⟨pa, hpa⟩ : ∃ pa, nmO (pdOf (ps.getD k plD)) ls a = pa := ⟨_, rfl⟩
        obtain ⟨pb, hpb⟩ : ∃ pb, nmO (pdOf (ps.getD k plD)) ls b = pb := ⟨_, rfl⟩
        have HP : Hid (∀ z (s : ByteArray), (z = a ∧ s = tx pa) ∨ (z = b ∧ s = tx pb) → ∀ W, Ext w W → Calls Tryz.prog 36 #[.agg #[.slice A n c, .slice A' m c'], .string (tx (ps.getD k plD).1), .slice A9 r c9, .int .i64 z] W fun e w' => e = .returned (.string s) ∧ Ext W w') := Lib.hid (fun z s hz W hW => by
          rcases hz with ⟨rfl, rfl⟩ | ⟨rfl, rfl⟩
          · rw [← hpa]; have := HPW.out (ps.getD k plD).1 (by rw [HSF.out k hkr]; rfl) z W hW; rwa [HSF.out k hkr] at this
          · rw [← hpb]; have := HPW.out (ps.getD k plD).1 (by rw [HSF.out k hkr]; rfl) z W hW; rwa [HSF.out k hkr] at this)
        have hmov : renB ls a b (pdOf (ps.getD k plD)) = (q1 && (q2 && !((tx pa).toList == (tx pb).toList))) := by
          rw [tx_toL, tx_toL, ← hpa, ← hpb, ← hq1, ← hq2]; rfl
        clear hq1 hq2 hpa hpb
        subst hA
        generalize tx pa = sa at *
        generalize tx pb = sb at *
        cases q1 with
        | false =>
          have HSU : Hid (cdsTo (renB ls a b) (psD ps) (k + 1) = cdsTo (renB ls a b) (psD ps) k) := Lib.hid (by rw [hsucc, hmov]; simp)
          clear hsucc hmov hln
          generalize ps.getD k plD = l at *
          generalize tx l.1 = s0 at *
          generalize l.2.1 = s1 at *
          generalize l.2.2.1 = s2 at *
          generalize l.2.2.2.1 = s3 at *
          generalize l.2.2.2.2.1 = s4 at *
          generalize l.2.2.2.2.2.2.length = s5 at *
          generalize l.2.2.2.2.2.1 = s6 at *
          go_wp2
          (refine wp_region_ext (by kernel_rfl) (by kernel_rfl) ?_; (repeat (go_big_quiet_step ((first | (go_at_call 27; exact Calls_ext (HH.out _ _ (by first | exact .inl ⟨rfl, rfl⟩ | exact .inr ⟨rfl, rfl⟩) _)) | (go_at_call 36; exact Calls_ext (HP.out _ _ (by first | exact .inl ⟨rfl, rfl⟩ | exact .inr ⟨rfl, rfl⟩) _ (hxr.trans (Ext.trans (by (with_reducible repeat (first | exact Ext.refl _ | assumption | (apply Src.ext; assumption) | refine Ext.alloc ?_ _ | refine Ext.drew ?_ | refine Ext.drewN ?_ _ | (refine Ext.setCell' ?_ ?_ _; solve | omega | simp | (simp; omega)) | refine Ext.trans ?_ (by assumption)))) (ExtOf.ext _))))))))); refine wpQuiet_nil ?_; intro wq hxwq; obtain ⟨hcwq, hfwq⟩ := hxwq.rules; have hswq := hxwq.size; (try simp at hswq))
          go_wp2
          have z1 := (show w5.heap.size < wq.heap.size from by omega)
          have z2 := (show w.heap.size < wq.heap.size from by omega)
          go_wp2
          go_roundw
          case rel => exact ⟨k + 1, by omega, by go_num, Lib.hid (by rw [HSU.out]; exact HV.out.ext (by (with_reducible repeat (first | exact Ext.refl _ | assumption | (apply Src.ext; assumption) | refine Ext.alloc ?_ _ | refine Ext.drew ?_ | refine Ext.drewN ?_ _ | (refine Ext.setCell' ?_ ?_ _; solve | omega | simp | (simp; omega)) | refine Ext.trans ?_ (by assumption))))), HB.out.ext (by (with_reducible repeat (first | exact Ext.refl _ | assumption | (apply Src.ext; assumption) | refine Ext.alloc ?_ _ | refine Ext.drew ?_ | refine Ext.drewN ?_ _ | (refine Ext.setCell' ?_ ?_ _; solve | omega | simp | (simp; omega)) | refine Ext.trans ?_ (by assumption)))), by (with_reducible repeat (first | exact Ext.refl _ | assumption | (apply Src.ext; assumption) | refine Ext.alloc ?_ _ | refine Ext.drew ?_ | refine Ext.drewN ?_ _ | (refine Ext.setCell' ?_ ?_ _; solve | omega | simp | (simp; omega)) | refine Ext.trans ?_ (by assumption)))⟩
          case measure => simp [intOf]; omega
        | true =>
          cases q2 with
          | false =>
            have HSU : Hid (cdsTo (renB ls a b) (psD ps) (k + 1) = cdsTo (renB ls a b) (psD ps) k) := Lib.hid (by rw [hsucc, hmov]; simp)
            clear hsucc hmov hln
            generalize ps.getD k plD = l at *
            generalize tx l.1 = s0 at *
            generalize l.2.1 = s1 at *
            generalize l.2.2.1 = s2 at *
            generalize l.2.2.2.1 = s3 at *
            generalize l.2.2.2.2.1 = s4 at *
            generalize l.2.2.2.2.2.2.length = s5 at *
            generalize l.2.2.2.2.2.1 = s6 at *
            go_wp2
            (refine wp_region_ext (by kernel_rfl) (by kernel_rfl) ?_; (repeat (go_big_quiet_step ((first | (go_at_call 27; exact Calls_ext (HH.out _ _ (by first | exact .inl ⟨rfl, rfl⟩ | exact .inr ⟨rfl, rfl⟩) _)) | (go_at_call 36; exact Calls_ext (HP.out _ _ (by first | exact .inl ⟨rfl, rfl⟩ | exact .inr ⟨rfl, rfl⟩) _ (hxr.trans (Ext.trans (by (with_reducible repeat (first | exact Ext.refl _ | assumption | (apply Src.ext; assumption) | refine Ext.alloc ?_ _ | refine Ext.drew ?_ | refine Ext.drewN ?_ _ | (refine Ext.setCell' ?_ ?_ _; solve | omega | simp | (simp; omega)) | refine Ext.trans ?_ (by assumption)))) (ExtOf.ext _))))))))); refine wpQuiet_nil ?_; intro wq hxwq; obtain ⟨hcwq, hfwq⟩ := hxwq.rules; have hswq := hxwq.size; (try simp at hswq))
            go_wp2
            have z1 := (show w5.heap.size < wq.heap.size from by omega)
            have z2 := (show w.heap.size < wq.heap.size from by omega)
            go_wp2
            go_roundw
            case rel => exact ⟨k + 1, by omega, by go_num, Lib.hid (by rw [HSU.out]; exact HV.out.ext (by (with_reducible repeat (first | exact Ext.refl _ | assumption | (apply Src.ext; assumption) | refine Ext.alloc ?_ _ | refine Ext.drew ?_ | refine Ext.drewN ?_ _ | (refine Ext.setCell' ?_ ?_ _; solve | omega | simp | (simp; omega)) | refine Ext.trans ?_ (by assumption))))), HB.out.ext (by (with_reducible repeat (first | exact Ext.refl _ | assumption | (apply Src.ext; assumption) | refine Ext.alloc ?_ _ | refine Ext.drew ?_ | refine Ext.drewN ?_ _ | (refine Ext.setCell' ?_ ?_ _; solve | omega | simp | (simp; omega)) | refine Ext.trans ?_ (by assumption)))), by (with_reducible repeat (first | exact Ext.refl _ | assumption | (apply Src.ext; assumption) | refine Ext.alloc ?_ _ | refine Ext.drew ?_ | refine Ext.drewN ?_ _ | (refine Ext.setCell' ?_ ?_ _; solve | omega | simp | (simp; omega)) | refine Ext.trans ?_ (by assumption)))⟩
            case measure => simp [intOf]; omega
          | true =>
            cases he : (sa.toList == sb.toList) with
            | true =>
              rw [he] at hmov
              have hne : (!(sa.toList == sb.toList)) = false := by rw [he]; rfl
              have HSU : Hid (cdsTo (renB ls a b) (psD ps) (k + 1) = cdsTo (renB ls a b) (psD ps) k) := Lib.hid (by rw [hsucc, hmov]; simp)
              clear hsucc hmov hln
              generalize ps.getD k plD = l at *
              generalize tx l.1 = s0 at *
              generalize l.2.1 = s1 at *
              generalize l.2.2.1 = s2 at *
              generalize l.2.2.2.1 = s3 at *
              generalize l.2.2.2.2.1 = s4 at *
              generalize l.2.2.2.2.2.2.length = s5 at *
              generalize l.2.2.2.2.2.1 = s6 at *
              go_wp2
              (refine wp_region_ext (by kernel_rfl) (by kernel_rfl) ?_; (repeat (go_big_quiet_step ((first | (go_at_call 27; exact Calls_ext (HH.out _ _ (by first | exact .inl ⟨rfl, rfl⟩ | exact .inr ⟨rfl, rfl⟩) _)) | (go_at_call 36; exact Calls_ext (HP.out _ _ (by first | exact .inl ⟨rfl, rfl⟩ | exact .inr ⟨rfl, rfl⟩) _ (hxr.trans (Ext.trans (by (with_reducible repeat (first | exact Ext.refl _ | assumption | (apply Src.ext; assumption) | refine Ext.alloc ?_ _ | refine Ext.drew ?_ | refine Ext.drewN ?_ _ | (refine Ext.setCell' ?_ ?_ _; solve | omega | simp | (simp; omega)) | refine Ext.trans ?_ (by assumption)))) (ExtOf.ext _))))))))); refine wpQuiet_nil ?_; intro wq hxwq; obtain ⟨hcwq, hfwq⟩ := hxwq.rules; have hswq := hxwq.size; (try simp at hswq))
              go_wp2
              have z1 := (show w5.heap.size < wq.heap.size from by omega)
              have z2 := (show w.heap.size < wq.heap.size from by omega)
              go_wp2
              go_roundw
              case rel => exact ⟨k + 1, by omega, by go_num, Lib.hid (by rw [HSU.out]; exact HV.out.ext (by (with_reducible repeat (first | exact Ext.refl _ | assumption | (apply Src.ext; assumption) | refine Ext.alloc ?_ _ | refine Ext.drew ?_ | refine Ext.drewN ?_ _ | (refine Ext.setCell' ?_ ?_ _; solve | omega | simp | (simp; omega)) | refine Ext.trans ?_ (by assumption))))), HB.out.ext (by (with_reducible repeat (first | exact Ext.refl _ | assumption | (apply Src.ext; assumption) | refine Ext.alloc ?_ _ | refine Ext.drew ?_ | refine Ext.drewN ?_ _ | (refine Ext.setCell' ?_ ?_ _; solve | omega | simp | (simp; omega)) | refine Ext.trans ?_ (by assumption)))), by (with_reducible repeat (first | exact Ext.refl _ | assumption | (apply Src.ext; assumption) | refine Ext.alloc ?_ _ | refine Ext.drew ?_ | refine Ext.drewN ?_ _ | (refine Ext.setCell' ?_ ?_ _; solve | omega | simp | (simp; omega)) | refine Ext.trans ?_ (by assumption)))⟩
              case measure => simp [intOf]; omega
            | false =>
              rw [he] at hmov
              have hne : (!(sa.toList == sb.toList)) = true := by rw [he]; rfl
              have HSU : Hid (cdsTo (renB ls a b) (psD ps) (k + 1) = cdsTo (renB ls a b) (psD ps) k ++ [(ps.getD k plD).1]) := Lib.hid (by rw [hsucc, hmov]; simp; rfl)
              have HBL := Lib.hid (fun (W : World) (g : Nat) (hB : Blk W g 9 #[.string (tx (ps.getD k plD).1)]) => blk_s1c hB)
              have HLN : Hid ((cdsTo (renB ls a b) (psD ps) k).length ≤ 1000) := Lib.hid (by omega)
              clear hsucc hmov hln
              generalize ps.getD k plD = l at *
              generalize tx l.1 = s0 at *
              generalize l.2.1 = s1 at *
              generalize l.2.2.1 = s2 at *
              generalize l.2.2.2.1 = s3 at *
              generalize l.2.2.2.2.1 = s4 at *
              generalize l.2.2.2.2.2.2.length = s5 at *
              generalize l.2.2.2.2.2.1 = s6 at *
              have hsr := hxr.size
              go_wp2
              (refine wp_region_ext (by kernel_rfl) (by kernel_rfl) ?_; (repeat (go_big_quiet_step ((first | (go_at_call 27; exact Calls_ext (HH.out _ _ (by first | exact .inl ⟨rfl, rfl⟩ | exact .inr ⟨rfl, rfl⟩) _)) | (go_at_call 36; exact Calls_ext (HP.out _ _ (by first | exact .inl ⟨rfl, rfl⟩ | exact .inr ⟨rfl, rfl⟩) _ (hxr.trans (Ext.trans (by (with_reducible repeat (first | exact Ext.refl _ | assumption | (apply Src.ext; assumption) | refine Ext.alloc ?_ _ | refine Ext.drew ?_ | refine Ext.drewN ?_ _ | (refine Ext.setCell' ?_ ?_ _; solve | omega | simp | (simp; omega)) | refine Ext.trans ?_ (by assumption)))) (ExtOf.ext _))))))))); refine wpQuiet_nil ?_; intro wq hxwq; obtain ⟨hcwq, hfwq⟩ := hxwq.rules; have hswq := hxwq.size; (try simp at hswq))
              have z1 := (show w5.heap.size < wq.heap.size from by omega)
              have z2 := (show w.heap.size < wq.heap.size from by omega)
              have HV1 : Hid (OwS wq (w.heap.size + 1) _ (cdsTo (renB ls a b) (psD ps) k)) := Lib.hid (HV.out.ext (by (with_reducible repeat (first | exact Ext.refl _ | assumption | (apply Src.ext; assumption) | refine Ext.alloc ?_ _ | refine Ext.drew ?_ | refine Ext.drewN ?_ _ | (refine Ext.setCell' ?_ ?_ _; solve | omega | simp | (simp; omega)) | refine Ext.trans ?_ (by assumption)))))
              go_wp2_with (at_builtin; refine wpList_append_sl elS len_encS one_encS rfl _ _ rfl rfl (HV1.out.ext (by (with_reducible repeat (first | exact Ext.refl _ | assumption | (apply Src.ext; assumption) | refine Ext.alloc ?_ _ | refine Ext.drew ?_ | refine Ext.drewN ?_ _ | (refine Ext.setCell' ?_ ?_ _; solve | omega | simp | (simp; omega)) | refine Ext.trans ?_ (by assumption))))) (xs := [l.1]) rfl (HBL.out _ _ (by (with_reducible repeat (first | assumption | (apply Blk.new; solve | simp | with_unfolding_all rfl) | apply Blk.drew | apply Blk.drewN | (apply Blk.far'; solve | omega | simp | (simp; omega)) | apply Blk.set_ | apply Blk.alloc | (apply Blk.ext'; assumption) | (apply Blk.but'; assumption; solve | omega | (simp; omega)))))) (by have := HLN.out; simp; unfold maxLen; omega) (by have := HLN.out; simp; omega) (by first | omega | (simp; omega)) ?_)
              intro v' w6 hown hgrow _
              have HV2 := Lib.hid hown
              have hx6 : Ext w w6 := by
                refine Ext.grown ?_ hgrow (fun q hq => Nat.le_of_succ_le (HV.out.row q hq).1)
                (with_reducible repeat (first | exact Ext.refl _ | assumption | (apply Src.ext; assumption) | refine Ext.alloc ?_ _ | refine Ext.drew ?_ | refine Ext.drewN ?_ _ | (refine Ext.setCell' ?_ ?_ _; solve | omega | simp | (simp; omega)) | refine Ext.trans ?_ (by assumption)))
              have HB6 := Lib.hid (blk_keptE hgrow (HB.out.ext (by (with_reducible repeat (first | exact Ext.refl _ | assumption | (apply Src.ext; assumption) | refine Ext.alloc ?_ _ | refine Ext.drew ?_ | refine Ext.drewN ?_ _ | (refine Ext.setCell' ?_ ?_ _; solve | omega | simp | (simp; omega)) | refine Ext.trans ?_ (by assumption))))) (fun e => by have := (HV.out.row _ e.symm).1; omega))
              clear hown hgrow
              go_wp2
              go_roundw
              case rel => exact ⟨k + 1, by omega, by go_num, Lib.hid (by rw [HSU.out]; exact HV2.out), HB6.out, hx6⟩
              case measure => simp [intOf]; omega
      · obtain rfl : k = n := by omega
        have HO : Hid (OwS w5 (w.heap.size + 1) _ (renR (psD ps) L ls a b)) := Lib.hid (by rw [← HFIN.out]; exact HV.out)
        go_wp2
        go_ret2
        exact ⟨_, rfl, (HO.out.ext (by (with_reducible repeat (first | exact Ext.refl _ | assumption | (apply Src.ext; assumption) | refine Ext.alloc ?_ _ | refine Ext.drew ?_ | refine Ext.drewN ?_ _ | (refine Ext.setCell' ?_ ?_ _; solve | omega | simp | (simp; omega)) | refine Ext.trans ?_ (by assumption))))).less (Nat.le_succ _), by (with_reducible repeat (first | exact Ext.refl _ | assumption | (apply Src.ext; assumption) | refine Ext.alloc ?_ _ | refine Ext.drew ?_ | refine Ext.drewN ?_ _ | (refine Ext.setCell' ?_ ?_ _; solve | omega | simp | (simp; omega)) | refine Ext.trans ?_ (by assumption)))⟩
  · have hR : renR (psD ps) L ls a b = [] := by unfold renR; rw [if_neg hz]
    rw [hR]
    cases hlg : lgB ls with
    | false =>
      rw [hlg] at HG
      rw [wyC_no rfl]
      clear h hR HPA h9 hr hs HC hz
      go_enter Tryz.func12, Tryz.ntmps12
      go_wp2_with fail
      refine (HG.out _ (by (with_reducible repeat (first | exact Ext.refl _ | assumption | (apply Src.ext; assumption) | refine Ext.alloc ?_ _ | refine Ext.drew ?_ | refine Ext.drewN ?_ _ | (refine Ext.setCell' ?_ ?_ _; solve | omega | simp | (simp; omega)) | refine Ext.trans ?_ (by assumption))))).mono ?_
      rintro e w1 ⟨rfl, hx1⟩
      go_wp2
      go_ret2
      exact ⟨_, rfl, Own.nil _ _, by (with_reducible repeat (first | exact Ext.refl _ | assumption | (apply Src.ext; assumption) | refine Ext.alloc ?_ _ | refine Ext.drew ?_ | refine Ext.drewN ?_ _ | (refine Ext.setCell' ?_ ?_ _; solve | omega | simp | (simp; omega)) | refine Ext.trans ?_ (by assumption)))⟩
    | true =>
      rw [hlg] at HG hz
      generalize wyC (psD ps) L true [a, b] = cd at *
      have hcd : (cd != 0) = true := by simpa using hz
      clear h hR HPA h9 hr hs
      go_enter Tryz.func12, Tryz.ntmps12
      go_wp2_with fail
      refine (HG.out _ (by (with_reducible repeat (first | exact Ext.refl _ | assumption | (apply Src.ext; assumption) | refine Ext.alloc ?_ _ | refine Ext.drew ?_ | refine Ext.drewN ?_ _ | (refine Ext.setCell' ?_ ?_ _; solve | omega | simp | (simp; omega)) | refine Ext.trans ?_ (by assumption))))).mono ?_
      rintro e w0 ⟨rfl, hx0⟩
      obtain ⟨hc0, hf0⟩ := hx0.rules
      have hs0 := hx0.size
      (try simp at hs0)
      have := (show w.heap.size < w0.heap.size from by omega)
      go_wp2_with fail
      refine (HC.out _ (by (with_reducible repeat (first | exact Ext.refl _ | assumption | (apply Src.ext; assumption) | refine Ext.alloc ?_ _ | refine Ext.drew ?_ | refine Ext.drewN ?_ _ | (refine Ext.setCell' ?_ ?_ _; solve | omega | simp | (simp; omega)) | refine Ext.trans ?_ (by assumption))))).mono ?_
      rintro e w1 ⟨rfl, hx1⟩
      go_wp2
      go_ret2
      exact ⟨_, rfl, Own.nil _ _, by (with_reducible repeat (first | exact Ext.refl _ | assumption | (apply Src.ext; assumption) | refine Ext.alloc ?_ _ | refine Ext.drew ?_ | refine Ext.drewN ?_ _ | (refine Ext.setCell' ?_ ?_ _; solve | omega | simp | (simp; omega)) | refine Ext.trans ?_ (by assumption)))⟩
end

end Go.Proofs.YtbnkiibjhfcffaaGreatDoor
