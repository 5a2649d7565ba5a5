/- Who has another name in another year, as the program tells it. -/
import Derived.Test.YtapfokfbdmcokaaGreatDoorYV
import Derived.Deep.RegionHeld3
import Derived.Deep.DeepCutAuto
import Derived.RegionTactic
import Derived.BigRegion
import Derived.WalkLawsBesides
import Derived.WalkSpells
import Derived.Lib.MinMax
import Derived.Outline
namespace Go.Proofs.YtapfokfbdmcokaaGreatDoor
open Go.RowKit
attribute [local go_sem] ExtOf.cell ExtOf.frozen

set_option maxRecDepth 20000 in
set_option maxHeartbeats 6400000 in
theorem i_RenamedBetween1 (A' : Option Addr) (m c' : Nat) (ls : List (List UInt8)) (p : Pl) (a b : Int) (b3 b4 b5 : Nat) (w : World) (h : PlAt w p) (h' : SlAt w 1 encS A' ls) (hn : m = ls.length) (hl : m ≤ 1048576) (h3 : w.cell? ⟨b3, 0, none⟩ = some (.slice A' m c')) (h4 : w.cell? ⟨b4, 0, none⟩ = some (.int .i64 a)) (h5 : w.cell? ⟨b5, 0, none⟩ = some (.int .i64 b)) :
    Calls Tryz.prog 79 #[plV p, .pointer (some ⟨b4, 0, none⟩), .pointer (some ⟨b5, 0, none⟩), .pointer (some ⟨b3, 0, none⟩)] w fun e w' => e = .returned (.bool (renB ls a b (pdOf p))) ∧ Ext w w' := by
  have e4 : b4 < w.heap.size := World.block_lt_of_cell? _ _ h4
  have e5 : b5 < w.heap.size := World.block_lt_of_cell? _ _ h5
  have e3 : b3 < w.heap.size := World.block_lt_of_cell? _ _ h3
  have hpv : plV p = .agg #[.string (tx p.1), .int .i64 p.2.1, .int .i64 p.2.2.1, .int .i64 p.2.2.2.1, .slice p.2.2.2.2.1 p.2.2.2.2.2.2.length p.2.2.2.2.2.1] := rfl
  obtain ⟨q1, hq1⟩ : ∃ q, inB a p.2.2.1 p.2.2.2.1 = q := ⟨_, rfl⟩
  obtain ⟨q2, hq2⟩ : ∃ q, inB b p.2.2.1 p.2.2.2.1 = q := ⟨_, rfl⟩
  have HH : Hid (∀ z q, (z = a ∧ q = q1) ∨ (z = b ∧ q = q2) → ∀ W, Calls Tryz.prog 57 #[.agg #[.int .i64 p.2.2.1, .int .i64 p.2.2.2.1], .int .i64 z] W fun e w' => e = .returned (.bool q) ∧ Ext W w') := Lib.hid (fun z q hz W => by
    rcases hz with ⟨rfl, rfl⟩ | ⟨rfl, rfl⟩
    · rw [← hq1]; exact i_has _ _ _ W
    · rw [← hq2]; exact i_has _ _ _ W)
  obtain ⟨pa, hpa⟩ : ∃ pa, nmO (pdOf p) ls a = pa := ⟨_, rfl⟩
  obtain ⟨pb, hpb⟩ : ∃ pb, nmO (pdOf p) ls b = pb := ⟨_, rfl⟩
  have HP : Hid (∀ z (s : ByteArray), (z = a ∧ s = tx pa) ∨ (z = b ∧ s = tx pb) → ∀ W, Ext w W → Calls Tryz.prog 80 #[.agg #[.string (tx p.1), .int .i64 p.2.1, .int .i64 p.2.2.1, .int .i64 p.2.2.2.1, .slice p.2.2.2.2.1 p.2.2.2.2.2.2.length p.2.2.2.2.2.1], .slice A' m c', .int .i64 z] W fun e w' => e = .returned (.string s) ∧ Ext W w') := Lib.hid (fun z s hz W hW => by
    rcases hz with ⟨rfl, rfl⟩ | ⟨rfl, rfl⟩
    · rw [← hpa]; exact i_nameOf p A' m c' ls _ W (h.ext hW) (h'.ext hW) hn hl
    · rw [← hpb]; exact i_nameOf p A' m c' ls _ W (h.ext hW) (h'.ext hW) hn hl)
  have hq : renB ls a b (pdOf p) = (q1 && (q2 && !((tx pa).toList == (tx pb).toList))) := by
    rw [tx_toL, tx_toL, ← hpa, ← hpb, ← hq1, ← hq2]; rfl
  rw [hq, hpv]
  generalize tx pa = sa at *
  generalize tx pb = sb at *
  generalize tx p.1 = s0 at *
  clear hq hpv h h' hn hpa hpb hq1 hq2
  generalize p.2.1 = s1 at *
  generalize p.2.2.1 = s2 at *
  generalize p.2.2.2.1 = s3 at *
  generalize p.2.2.2.2.1 = s4 at *
  generalize p.2.2.2.2.2.1 = s6 at *
  generalize p.2.2.2.2.2.2.length = s5 at *
  cases q1 with
  | false =>
    go_enter Tryz.func79, Tryz.ntmps79
    go_wp2
    (refine wp_region_ext (by kernel_rfl) (by kernel_rfl) ?_; (repeat (go_big_quiet_step ((first | (go_at_call 57; exact Calls_ext (HH.out _ _ (by first | exact .inl ⟨rfl, rfl⟩ | exact .inr ⟨rfl, rfl⟩) _)) | (go_at_call 80; exact Calls_ext (HP.out _ _ (by first | exact .inl ⟨rfl, rfl⟩ | exact .inr ⟨rfl, rfl⟩) _ (Ext.trans (by (repeat (first | with_reducible exact Ext.refl _ | with_reducible assumption | ((with_reducible apply Src.ext); with_reducible assumption) | with_reducible refine Ext.alloc ?_ _ | with_reducible refine Ext.drew ?_ | with_reducible refine Ext.drewN ?_ _ | ((with_reducible refine Ext.setCell' ?_ ?_ _); solve | omega | simp | (simp; omega)) | (with_reducible refine Ext.trans ?_ (by with_reducible assumption))))) (ExtOf.ext _)))))))); refine wpQuiet_nil ?_; intro wq hxwq; obtain ⟨hcwq, hfwq⟩ := hxwq.rules; have hswq := hxwq.size; (try simp at hswq))
    go_wp2
    go_ret
    exact ⟨rfl, by (repeat (first | with_reducible exact Ext.refl _ | with_reducible assumption | ((with_reducible apply Src.ext); with_reducible assumption) | with_reducible refine Ext.alloc ?_ _ | with_reducible refine Ext.drew ?_ | with_reducible refine Ext.drewN ?_ _ | ((with_reducible refine Ext.setCell' ?_ ?_ _); solve | omega | simp | (simp; omega)) | (with_reducible refine Ext.trans ?_ (by with_reducible assumption))))⟩
  | true =>
    cases q2 with
    | false =>
      go_enter Tryz.func79, Tryz.ntmps79
      go_wp2
      (refine wp_region_ext (by kernel_rfl) (by kernel_rfl) ?_; (repeat (go_big_quiet_step ((first | (go_at_call 57; exact Calls_ext (HH.out _ _ (by first | exact .inl ⟨rfl, rfl⟩ | exact .inr ⟨rfl, rfl⟩) _)) | (go_at_call 80; exact Calls_ext (HP.out _ _ (by first | exact .inl ⟨rfl, rfl⟩ | exact .inr ⟨rfl, rfl⟩) _ (Ext.trans (by (repeat (first | with_reducible exact Ext.refl _ | with_reducible assumption | ((with_reducible apply Src.ext); with_reducible assumption) | with_reducible refine Ext.alloc ?_ _ | with_reducible refine Ext.drew ?_ | with_reducible refine Ext.drewN ?_ _ | ((with_reducible refine Ext.setCell' ?_ ?_ _); solve | omega | simp | (simp; omega)) | (with_reducible refine Ext.trans ?_ (by with_reducible assumption))))) (ExtOf.ext _)))))))); refine wpQuiet_nil ?_; intro wq hxwq; obtain ⟨hcwq, hfwq⟩ := hxwq.rules; have hswq := hxwq.size; (try simp at hswq))
      go_wp2
      go_ret
      exact ⟨rfl, by (repeat (first | with_reducible exact Ext.refl _ | with_reducible assumption | ((with_reducible apply Src.ext); with_reducible assumption) | with_reducible refine Ext.alloc ?_ _ | with_reducible refine Ext.drew ?_ | with_reducible refine Ext.drewN ?_ _ | ((with_reducible refine Ext.setCell' ?_ ?_ _); solve | omega | simp | (simp; omega)) | (with_reducible refine Ext.trans ?_ (by with_reducible assumption))))⟩
    | true =>
      go_enter Tryz.func79, Tryz.ntmps79
      go_wp2
      (refine wp_region_ext (by kernel_rfl) (by kernel_rfl) ?_; (repeat (go_big_quiet_step ((first | (go_at_call 57; exact Calls_ext (HH.out _ _ (by first | exact .inl ⟨rfl, rfl⟩ | exact .inr ⟨rfl, rfl⟩) _)) | (go_at_call 80; exact Calls_ext (HP.out _ _ (by first | exact .inl ⟨rfl, rfl⟩ | exact .inr ⟨rfl, rfl⟩) _ (Ext.trans (by (repeat (first | with_reducible exact Ext.refl _ | with_reducible assumption | ((with_reducible apply Src.ext); with_reducible assumption) | with_reducible refine Ext.alloc ?_ _ | with_reducible refine Ext.drew ?_ | with_reducible refine Ext.drewN ?_ _ | ((with_reducible refine Ext.setCell' ?_ ?_ _); solve | omega | simp | (simp; omega)) | (with_reducible refine Ext.trans ?_ (by with_reducible assumption))))) (ExtOf.ext _)))))))); refine wpQuiet_nil ?_; intro wq hxwq; obtain ⟨hcwq, hfwq⟩ := hxwq.rules; have hswq := hxwq.size; (try simp at hswq))
      go_wp2
      go_ret
      exact ⟨rfl, by (repeat (first | with_reducible exact Ext.refl _ | with_reducible assumption | ((with_reducible apply Src.ext); with_reducible assumption) | with_reducible refine Ext.alloc ?_ _ | with_reducible refine Ext.drew ?_ | with_reducible refine Ext.drewN ?_ _ | ((with_reducible refine Ext.setCell' ?_ ?_ _); solve | omega | simp | (simp; omega)) | (with_reducible refine Ext.trans ?_ (by with_reducible assumption))))⟩
theorem en_RenamedBetween1 (args : Array Value) (w : World) : (callFunc 79 args).run Tryz.prog w = .ok (.enter 79 args) w := enters_isSome Tryz.func79 (by kernel_rfl) (by kernel_rfl) args w

section
variable {w : World} {A A' A9 : Option Addr} {n c m c' r c9 : Nat} {ps : List Pl} {L : List Lk} {ls : List (List UInt8)}
set_option maxRecDepth 20000 in
set_option maxHeartbeats 12800000 in
theorem i_RenamedBetweenW (a b : Int) (h : WIn w A A' n c m c' ps L) (h9 : SlAt w 1 encS A9 ls) (hr : r = ls.length) (hr9 : r ≤ 1048576) (hs : ∀ s ∈ ls, s.length ≤ 1048576) (hm : Mx w) :
    Calls Tryz.prog 31 #[.agg #[.slice A n c, .slice A' m c'], .slice A9 r c9, .int .i64 a, .int .i64 b] w fun e w' => ∃ v, e = .returned (.tuple #[v, .int .i64 (wyC (psD ps) L (lgB ls) [a, b])]) ∧ OwS w' w.heap.size v (renR (psD ps) L ls a b) ∧ Ext w w' := by
  have HW := Lib.hid (fun W (hW : Ext w W) => i_areLanguages A9 r c9 ls W (h9.ext hW) hr hr9 hs)
  have HC : Hid (∀ W g, Ext w W → Blk W g 2 #[.int .i64 a, .int .i64 b] → Calls Tryz.prog 54 #[.agg #[.slice A n c, .slice A' m c'], .bool (lgB ls), .slice (some ⟨g, 0, none⟩) 2 2] W fun e w' => e = .returned (.int .i64 (wyC (psD ps) L (lgB ls) [a, b])) ∧ Ext W w') := Lib.hid (fun W g hW hB => i_worldCode (lgB ls) [a, b] _ 2 2 (h.ext hW) (hm.ext hW) (blk_i2 hB) rfl (by omega))
  have HK : Hid (∀ W, Ext ((((w.alloc (.cells #[.slice A n c, .slice A' m c'] 33)).alloc (.cells #[.slice A9 r c9] 27)).alloc (.cells #[.int .i64 a] 2)).alloc (.cells #[.int .i64 b] 2)) W → W.cell? ⟨w.heap.size, 0, none⟩ = some (.slice A n c) ∧ W.cell? ⟨w.heap.size, 1, none⟩ = some (.slice A' m c') ∧ W.cell? ⟨w.heap.size + 1, 0, none⟩ = some (.slice A9 r c9) ∧ W.cell? ⟨w.heap.size + 1 + 1, 0, none⟩ = some (.int .i64 a) ∧ W.cell? ⟨w.heap.size + 1 + 1 + 1, 0, none⟩ = some (.int .i64 b)) := Lib.hid (fun W hW => by
    have B0 := ((((Blk.new (cs := #[.slice A n c, .slice A' m c']) (t := 33) (w := w) rfl).alloc (.cells #[.slice A9 r c9] 27)).alloc (.cells #[.int .i64 a] 2)).alloc (.cells #[.int .i64 b] 2)).ext hW
    have B1 := (((Blk.new (cs := #[.slice A9 r c9]) (t := 27) (w := w.alloc (.cells #[.slice A n c, .slice A' m c'] 33)) rfl).alloc (.cells #[.int .i64 a] 2)).alloc (.cells #[.int .i64 b] 2)).ext hW
    have B2 := ((Blk.new (cs := #[.int .i64 a]) (t := 2) (w := (w.alloc (.cells #[.slice A n c, .slice A' m c'] 33)).alloc (.cells #[.slice A9 r c9] 27)) rfl).alloc (.cells #[.int .i64 b] 2)).ext hW
    have B3 := (Blk.new (cs := #[.int .i64 b]) (t := 2) (w := ((w.alloc (.cells #[.slice A n c, .slice A' m c'] 33)).alloc (.cells #[.slice A9 r c9] 27)).alloc (.cells #[.int .i64 a] 2)) rfl).ext hW
    simp only [World.size_alloc] at B1 B2 B3
    exact ⟨B0.cell 0, B0.cell 1, B1.cell 0, B2.cell 0, B3.cell 0⟩)
  have HKB : Hid (∀ W, Ext ((((w.alloc (.cells #[.slice A n c, .slice A' m c'] 33)).alloc (.cells #[.slice A9 r c9] 27)).alloc (.cells #[.int .i64 a] 2)).alloc (.cells #[.int .i64 b] 2)) W → Blk W (w.heap.size + 1) 27 #[.slice A9 r c9] ∧ Blk W (w.heap.size + 1 + 1) 2 #[.int .i64 a] ∧ Blk W (w.heap.size + 1 + 1 + 1) 2 #[.int .i64 b]) := Lib.hid (fun W hW => by
    have B1 := (((Blk.new (cs := #[.slice A9 r c9]) (t := 27) (w := w.alloc (.cells #[.slice A n c, .slice A' m c'] 33)) rfl).alloc (.cells #[.int .i64 a] 2)).alloc (.cells #[.int .i64 b] 2)).ext hW
    have B2 := ((Blk.new (cs := #[.int .i64 a]) (t := 2) (w := (w.alloc (.cells #[.slice A n c, .slice A' m c'] 33)).alloc (.cells #[.slice A9 r c9] 27)) rfl).alloc (.cells #[.int .i64 b] 2)).ext hW
    have B3 := (Blk.new (cs := #[.int .i64 b]) (t := 2) (w := ((w.alloc (.cells #[.slice A n c, .slice A' m c'] 33)).alloc (.cells #[.slice A9 r c9] 27)).alloc (.cells #[.int .i64 a] 2)) rfl).ext hW
    simp only [World.size_alloc] at B1 B2 B3
    exact ⟨B1, B2, B3⟩)
  by_cases hz : wyC (psD ps) L (lgB ls) [a, b] = 0
  · have h10 := wdB_len (wyC_zero hz).1
    rw [psD_len] at h10
    have hE : renR (psD ps) L ls a b = cdsP (renB ls a b) (psD ps) := by unfold renR; rw [if_pos hz]
    have HI : Hid (∀ W b3 b4 b5, Ext w W → Blk W b3 27 #[.slice A9 r c9] → Blk W b4 2 #[.int .i64 a] → Blk W b5 2 #[.int .i64 b] → Calls Tryz.prog 55 #[.slice A n c, .func (.func 79) #[] #[.pointer (some ⟨b4, 0, none⟩), .pointer (some ⟨b5, 0, none⟩), .pointer (some ⟨b3, 0, none⟩)]] W fun e w' => ∃ v, e = .returned v ∧ OwS w' W.heap.size v (renR (psD ps) L ls a b) ∧ Ext W w') := Lib.hid (fun W b3 b4 b5 hW h3 h4 h5 => by
      rw [hE]
      exact i_codesOf (renB ls a b) _ _ en_RenamedBetween1 A n c ps W (h.sq.ext hW) h.hn (by rw [h.hn]; omega) (fun p hp W' hW' => i_RenamedBetween1 A9 r c9 ls p a b b3 b4 b5 W' (((h.pl p hp).ext hW).ext hW') ((h9.ext hW).ext hW') hr hr9 ((h3.ext hW').cell 0) ((h4.ext hW').cell 0) ((h5.ext hW').cell 0)))
    rw [hz] at HC ⊢
    generalize renR (psD ps) L ls a b = res at *
    generalize lgB ls = q at *
    clear hE hz h hm h10 h9 hr hs
    obtain ⟨g0, g1, g2, g3, g4⟩ := HK.out _ (Ext.refl _)
    go_enter Tryz.func31, Tryz.ntmps31
    go_wp2
    go_region_held3 (fun w' => w'.cell? ⟨w.heap.size, 0, none⟩ = some (.slice A n c) ∧ w'.cell? ⟨w.heap.size, 1, none⟩ = some (.slice A' m c') ∧ w'.cell? ⟨w.heap.size + 1, 0, none⟩ = some (.slice A9 r c9) ∧ w'.cell? ⟨w.heap.size + 1 + 1, 0, none⟩ = some (.int .i64 a) ∧ w'.cell? ⟨w.heap.size + 1 + 1 + 1, 0, none⟩ = some (.int .i64 b)) (first | go_keep | exact HK.out _ (by (repeat (first | with_reducible exact Ext.refl _ | with_reducible assumption | ((with_reducible apply Src.ext); with_reducible assumption) | with_reducible refine Ext.alloc ?_ _ | with_reducible refine Ext.drew ?_ | with_reducible refine Ext.drewN ?_ _ | ((with_reducible refine Ext.setCell' ?_ ?_ _); solve | omega | simp | (simp; omega)) | (with_reducible refine Ext.trans ?_ (by with_reducible assumption)))))) (first | (go_at_call 78; refine (HW.out _ (by (repeat (first | with_reducible exact Ext.refl _ | with_reducible assumption | ((with_reducible apply Src.ext); with_reducible assumption) | with_reducible refine Ext.alloc ?_ _ | with_reducible refine Ext.drew ?_ | with_reducible refine Ext.drewN ?_ _ | ((with_reducible refine Ext.setCell' ?_ ?_ _); solve | omega | simp | (simp; omega)) | (with_reducible refine Ext.trans ?_ (by with_reducible assumption)))))).mono ?_; rintro e w7 ⟨rfl, hx7⟩; have hs7 := hx7.size; (try simp at hs7)) | (go_at_call 54; refine (HC.out _ _ (by (repeat (first | with_reducible exact Ext.refl _ | with_reducible assumption | ((with_reducible apply Src.ext); with_reducible assumption) | with_reducible refine Ext.alloc ?_ _ | with_reducible refine Ext.drew ?_ | with_reducible refine Ext.drewN ?_ _ | ((with_reducible refine Ext.setCell' ?_ ?_ _); solve | omega | simp | (simp; omega)) | (with_reducible refine Ext.trans ?_ (by with_reducible assumption))))) (by (repeat (first | with_reducible assumption | ((with_reducible apply Blk.new); solve | simp | rfl) | with_reducible apply Blk.drew | with_reducible apply Blk.drewN | ((with_reducible apply Blk.far'); solve | omega | simp | (simp; omega)) | with_reducible apply Blk.set_ | with_reducible apply Blk.alloc | ((with_reducible apply Blk.ext'); with_reducible assumption) | ((with_reducible apply Blk.but'); (with_reducible assumption); solve | omega | (simp; omega)))))).mono ?_; rintro e w8 ⟨rfl, hx8⟩; have hs8 := hx8.size; (try simp at hs8); obtain ⟨y0, y1, y2, y3, y4⟩ := HK.out w8 (by (repeat (first | with_reducible exact Ext.refl _ | with_reducible assumption | ((with_reducible apply Src.ext); with_reducible assumption) | with_reducible refine Ext.alloc ?_ _ | with_reducible refine Ext.drew ?_ | with_reducible refine Ext.drewN ?_ _ | ((with_reducible refine Ext.setCell' ?_ ?_ _); solve | omega | simp | (simp; omega)) | (with_reducible refine Ext.trans ?_ (by with_reducible assumption)))))))
    all_goals
      have hkb := HKB.out w8 (by (repeat (first | with_reducible exact Ext.refl _ | with_reducible assumption | ((with_reducible apply Src.ext); with_reducible assumption) | with_reducible refine Ext.alloc ?_ _ | with_reducible refine Ext.drew ?_ | with_reducible refine Ext.drewN ?_ _ | ((with_reducible refine Ext.setCell' ?_ ?_ _); solve | omega | simp | (simp; omega)) | (with_reducible refine Ext.trans ?_ (by with_reducible assumption)))))
      have HKB8 := Lib.hid hkb
      clear hkb
      go_wp2_with fail
      refine (HI.out _ _ _ _ (by (repeat (first | with_reducible exact Ext.refl _ | with_reducible assumption | ((with_reducible apply Src.ext); with_reducible assumption) | with_reducible refine Ext.alloc ?_ _ | with_reducible refine Ext.drew ?_ | with_reducible refine Ext.drewN ?_ _ | ((with_reducible refine Ext.setCell' ?_ ?_ _); solve | omega | simp | (simp; omega)) | (with_reducible refine Ext.trans ?_ (by with_reducible assumption))))) (HKB8.out.1.ext (by (repeat (first | with_reducible exact Ext.refl _ | with_reducible assumption | ((with_reducible apply Src.ext); with_reducible assumption) | with_reducible refine Ext.alloc ?_ _ | with_reducible refine Ext.drew ?_ | with_reducible refine Ext.drewN ?_ _ | ((with_reducible refine Ext.setCell' ?_ ?_ _); solve | omega | simp | (simp; omega)) | (with_reducible refine Ext.trans ?_ (by with_reducible assumption)))))) (HKB8.out.2.1.ext (by (repeat (first | with_reducible exact Ext.refl _ | with_reducible assumption | ((with_reducible apply Src.ext); with_reducible assumption) | with_reducible refine Ext.alloc ?_ _ | with_reducible refine Ext.drew ?_ | with_reducible refine Ext.drewN ?_ _ | ((with_reducible refine Ext.setCell' ?_ ?_ _); solve | omega | simp | (simp; omega)) | (with_reducible refine Ext.trans ?_ (by with_reducible assumption)))))) (HKB8.out.2.2.ext (by (repeat (first | with_reducible exact Ext.refl _ | with_reducible assumption | ((with_reducible apply Src.ext); with_reducible assumption) | with_reducible refine Ext.alloc ?_ _ | with_reducible refine Ext.drew ?_ | with_reducible refine Ext.drewN ?_ _ | ((with_reducible refine Ext.setCell' ?_ ?_ _); solve | omega | simp | (simp; omega)) | (with_reducible refine Ext.trans ?_ (by with_reducible assumption))))))).mono ?_
      rintro e w2 ⟨v, rfl, hO, hx2⟩
      have HO := Lib.hid hO
      have hs0 : w.heap.size ≤ w8.heap.size := by omega
      clear hO
      go_wp2
      go_ret2
      exact ⟨_, rfl, HO.out.less (by first | exact hs0 | (simp; omega)), by (repeat (first | with_reducible exact Ext.refl _ | with_reducible assumption | ((with_reducible apply Src.ext); with_reducible assumption) | with_reducible refine Ext.alloc ?_ _ | with_reducible refine Ext.drew ?_ | with_reducible refine Ext.drewN ?_ _ | ((with_reducible refine Ext.setCell' ?_ ?_ _); solve | omega | simp | (simp; omega)) | (with_reducible refine Ext.trans ?_ (by with_reducible assumption))))⟩
  · have hR : renR (psD ps) L ls a b = [] := by unfold renR; rw [if_neg hz]
    rw [hR]
    generalize wyC (psD ps) L (lgB ls) [a, b] = cd at *
    have hcd : (cd != 0) = true := by simpa using hz
    generalize lgB ls = q at *
    clear h hm hR h9 hr hs
    obtain ⟨g0, g1, g2, g3, g4⟩ := HK.out _ (Ext.refl _)
    go_enter Tryz.func31, Tryz.ntmps31
    go_wp2
    go_region_held3 (fun w' => w'.cell? ⟨w.heap.size, 0, none⟩ = some (.slice A n c) ∧ w'.cell? ⟨w.heap.size, 1, none⟩ = some (.slice A' m c') ∧ w'.cell? ⟨w.heap.size + 1, 0, none⟩ = some (.slice A9 r c9) ∧ w'.cell? ⟨w.heap.size + 1 + 1, 0, none⟩ = some (.int .i64 a) ∧ w'.cell? ⟨w.heap.size + 1 + 1 + 1, 0, none⟩ = some (.int .i64 b)) (first | go_keep | exact HK.out _ (by (repeat (first | with_reducible exact Ext.refl _ | with_reducible assumption | ((with_reducible apply Src.ext); with_reducible assumption) | with_reducible refine Ext.alloc ?_ _ | with_reducible refine Ext.drew ?_ | with_reducible refine Ext.drewN ?_ _ | ((with_reducible refine Ext.setCell' ?_ ?_ _); solve | omega | simp | (simp; omega)) | (with_reducible refine Ext.trans ?_ (by with_reducible assumption)))))) (first | (go_at_call 78; refine (HW.out _ (by (repeat (first | with_reducible exact Ext.refl _ | with_reducible assumption | ((with_reducible apply Src.ext); with_reducible assumption) | with_reducible refine Ext.alloc ?_ _ | with_reducible refine Ext.drew ?_ | with_reducible refine Ext.drewN ?_ _ | ((with_reducible refine Ext.setCell' ?_ ?_ _); solve | omega | simp | (simp; omega)) | (with_reducible refine Ext.trans ?_ (by with_reducible assumption)))))).mono ?_; rintro e w7 ⟨rfl, hx7⟩; have hs7 := hx7.size; (try simp at hs7)) | (go_at_call 54; refine (HC.out _ _ (by (repeat (first | with_reducible exact Ext.refl _ | with_reducible assumption | ((with_reducible apply Src.ext); with_reducible assumption) | with_reducible refine Ext.alloc ?_ _ | with_reducible refine Ext.drew ?_ | with_reducible refine Ext.drewN ?_ _ | ((with_reducible refine Ext.setCell' ?_ ?_ _); solve | omega | simp | (simp; omega)) | (with_reducible refine Ext.trans ?_ (by with_reducible assumption))))) (by (repeat (first | with_reducible assumption | ((with_reducible apply Blk.new); solve | simp | rfl) | with_reducible apply Blk.drew | with_reducible apply Blk.drewN | ((with_reducible apply Blk.far'); solve | omega | simp | (simp; omega)) | with_reducible apply Blk.set_ | with_reducible apply Blk.alloc | ((with_reducible apply Blk.ext'); with_reducible assumption) | ((with_reducible apply Blk.but'); (with_reducible assumption); solve | omega | (simp; omega)))))).mono ?_; rintro e w8 ⟨rfl, hx8⟩; have hs8 := hx8.size; (try simp at hs8); obtain ⟨y0, y1, y2, y3, y4⟩ := HK.out w8 (by (repeat (first | with_reducible exact Ext.refl _ | with_reducible assumption | ((with_reducible apply Src.ext); with_reducible assumption) | with_reducible refine Ext.alloc ?_ _ | with_reducible refine Ext.drew ?_ | with_reducible refine Ext.drewN ?_ _ | ((with_reducible refine Ext.setCell' ?_ ?_ _); solve | omega | simp | (simp; omega)) | (with_reducible refine Ext.trans ?_ (by with_reducible assumption)))))))
    all_goals
      go_wp2
      go_ret2
      exact ⟨_, rfl, Own.nil _ _, by (repeat (first | with_reducible exact Ext.refl _ | with_reducible assumption | ((with_reducible apply Src.ext); with_reducible assumption) | with_reducible refine Ext.alloc ?_ _ | with_reducible refine Ext.drew ?_ | with_reducible refine Ext.drewN ?_ _ | ((with_reducible refine Ext.setCell' ?_ ?_ _); solve | omega | simp | (simp; omega)) | (with_reducible refine Ext.trans ?_ (by with_reducible assumption))))⟩
end

end Go.Proofs.YtapfokfbdmcokaaGreatDoor
