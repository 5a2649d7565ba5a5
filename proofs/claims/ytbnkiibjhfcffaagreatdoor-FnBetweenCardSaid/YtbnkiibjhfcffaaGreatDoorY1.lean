/- What appears, moves and lies inside between years, as the program and the specification tell it. What appears, moves and lies inside between years, as the specification tells it; the number of places inside. -/
import Derived.Test.YtbnkiibjhfcffaaGreatDoorYJ
import Derived.Deep.RegionHeld3
import Derived.Deep.DeepCutAuto
import Derived.RegionTactic
import Derived.BigRegion
import Derived.WalkLawsBesides
import Derived.WalkSpells
import Derived.Lib.MinMax
import Derived.Outline
namespace Go.Proofs.YtbnkiibjhfcffaaGreatDoor
open Go.RowKit
attribute [local go_sem] ExtOf.cell ExtOf.frozen

set_option maxHeartbeats 3200000 in
theorem i_AppearedBetween1 (p : Pl) (a b : Int) (b4 b5 : Nat) (w : World) (h4 : w.cell? ⟨b4, 0, none⟩ = some (.int .i64 a)) (h5 : w.cell? ⟨b5, 0, none⟩ = some (.int .i64 b)) :
    Calls Tryz.prog 29 #[plV p, .pointer (some ⟨b5, 0, none⟩), .pointer (some ⟨b4, 0, none⟩)] w fun e w' => e = .returned (.bool (appB a b (pdOf p))) ∧ Ext w w' := by
  have e4 : b4 < w.heap.size := World.block_lt_of_cell? _ _ h4
  have e5 : b5 < w.heap.size := World.block_lt_of_cell? _ _ h5
  have hpv : plV p = .agg #[.string (tx p.1), .int .i64 p.2.1, .int .i64 p.2.2.1, .int .i64 p.2.2.2.1, .slice p.2.2.2.2.1 p.2.2.2.2.2.2.length p.2.2.2.2.2.1] := rfl
  have H1 := Lib.hid (fun W => i_has p.2.2.1 p.2.2.2.1 b W)
  have H2 := Lib.hid (fun W => i_has p.2.2.1 p.2.2.2.1 a W)
  have hq : appB a b (pdOf p) = (inB b p.2.2.1 p.2.2.2.1 && !inB a p.2.2.1 p.2.2.2.1) := rfl
  rw [hq, hpv]
  generalize inB b p.2.2.1 p.2.2.2.1 = q1 at *
  generalize inB a p.2.2.1 p.2.2.2.1 = q2 at *
  generalize tx p.1 = s0 at *
  clear hq hpv
  cases q1 with
  | false =>
    go_enter Tryz.func29, Tryz.ntmps29
    (go_wp2_with fail; refine (H1.out _).mono ?_; rintro e w1 ⟨rfl, hx1⟩; obtain ⟨hc1, hf1⟩ := hx1.rules; have hs1 := hx1.size; (try simp at hs1))
    go_wp2
    go_ret
    exact ⟨rfl, by (with_reducible repeat (first | exact Ext.refl _ | assumption | (apply Src.ext; assumption) | refine Ext.alloc ?_ _ | refine Ext.drew ?_ | refine Ext.drewN ?_ _ | (refine Ext.setCell' ?_ ?_ _; solve | omega | simp | (simp; omega)) | refine Ext.trans ?_ (by assumption)))⟩
  | true =>
    go_enter Tryz.func29, Tryz.ntmps29
    (go_wp2_with fail; refine (H1.out _).mono ?_; rintro e w1 ⟨rfl, hx1⟩; obtain ⟨hc1, hf1⟩ := hx1.rules; have hs1 := hx1.size; (try simp at hs1); have := (show b4 < w1.heap.size from by omega); have := (show w.heap.size < w1.heap.size from by omega))
    (go_wp2_with fail; refine (H2.out _).mono ?_; rintro e w2 ⟨rfl, hx2⟩; obtain ⟨hc2, hf2⟩ := hx2.rules; have hs2 := hx2.size; (try simp at hs2))
    go_wp2
    go_ret
    exact ⟨rfl, by (with_reducible repeat (first | exact Ext.refl _ | assumption | (apply Src.ext; assumption) | refine Ext.alloc ?_ _ | refine Ext.drew ?_ | refine Ext.drewN ?_ _ | (refine Ext.setCell' ?_ ?_ _; solve | omega | simp | (simp; omega)) | refine Ext.trans ?_ (by assumption)))⟩
theorem en_AppearedBetween1 (args : Array Value) (w : World) : (callFunc 29 args).run Tryz.prog w = .ok (.enter 29 args) w := enters_isSome Tryz.func29 (by kernel_rfl) (by kernel_rfl) args w
section
variable {w : World} {A A' : Option Addr} {n c m c' : Nat} {ps : List Pl} {L : List Lk}
set_option maxRecDepth 20000 in
set_option maxHeartbeats 6400000 in
theorem i_AppearedBetweenW (a b : Int) (h : WIn w A A' n c m c' ps L) (hm : Mx w) :
    Calls Tryz.prog 8 #[.agg #[.slice A n c, .slice A' m c'], .int .i64 a, .int .i64 b] w fun e w' => ∃ v, e = .returned (.tuple #[v, .int .i64 (wyC (psD ps) L true [a, b])]) ∧ OwS w' w.heap.size v (appR (psD ps) L a b) ∧ Ext w w' := by
  have HC : Hid (∀ W g, Ext w W → Blk W g 2 #[.int .i64 a, .int .i64 b] → Calls Tryz.prog 21 #[.agg #[.slice A n c, .slice A' m c'], .bool true, .slice (some ⟨g, 0, none⟩) 2 2] W fun e w' => e = .returned (.int .i64 (wyC (psD ps) L true [a, b])) ∧ Ext W w') := Lib.hid (fun W g hW hB => i_worldCode true [a, b] _ 2 2 (h.ext hW) (hm.ext hW) (blk_i2 hB) rfl (by omega))
  by_cases hz : wyC (psD ps) L true [a, b] = 0
  · have h10 := wdB_len (wyC_zero hz).1
    rw [psD_len] at h10
    have hE : appR (psD ps) L a b = cdsP (appB a b) (psD ps) := by unfold appR; rw [if_pos hz]
    have HI : Hid (∀ W b4 b5, Ext w W → Blk W b4 2 #[.int .i64 a] → Blk W b5 2 #[.int .i64 b] → Calls Tryz.prog 22 #[.slice A n c, .func (.func 29) #[] #[.pointer (some ⟨b5, 0, none⟩), .pointer (some ⟨b4, 0, none⟩)]] W fun e w' => ∃ v, e = .returned v ∧ OwS w' W.heap.size v (appR (psD ps) L a b) ∧ Ext W w') := Lib.hid (fun W b4 b5 hW h4 h5 => by
      rw [hE]
      exact i_codesOf (appB a b) _ _ en_AppearedBetween1 A n c ps W (h.sq.ext hW) h.hn (by rw [h.hn]; omega) (fun p _ W' hW' => i_AppearedBetween1 p a b b4 b5 W' ((h4.ext hW').cell 0) ((h5.ext hW').cell 0)))
    rw [hz] at HC ⊢
    generalize appR (psD ps) L a b = res at *
    clear hE hz h hm h10
    go_enter Tryz.func8, Tryz.ntmps8
    go_wp2_with fail
    refine (HC.out _ _ (by (with_reducible repeat (first | exact Ext.refl _ | assumption | (apply Src.ext; assumption) | refine Ext.alloc ?_ _ | refine Ext.drew ?_ | refine Ext.drewN ?_ _ | (refine Ext.setCell' ?_ ?_ _; solve | omega | simp | (simp; omega)) | refine Ext.trans ?_ (by assumption)))) (by (with_reducible repeat (first | assumption | (apply Blk.new; solve | simp | with_unfolding_all rfl) | apply Blk.drew | apply Blk.drewN | (apply Blk.far'; solve | omega | simp | (simp; omega)) | apply Blk.set_ | apply Blk.alloc | (apply Blk.ext'; assumption) | (apply Blk.but'; assumption; solve | omega | (simp; omega)))))).mono ?_
    rintro e w1 ⟨rfl, hx1⟩
    obtain ⟨hc1, hf1⟩ := hx1.rules
    have hs1 := hx1.size
    (try simp at hs1)
    have := (show w.heap.size < w1.heap.size from by omega)
    have := (show w.heap.size + 1 < w1.heap.size from by omega)
    have := (show w.heap.size + 1 + 1 < w1.heap.size from by omega)
    have B4 : Blk w1 (w.heap.size + 1) 2 #[.int .i64 a] := Blk.eq (by (with_reducible repeat (first | assumption | (apply Blk.new; solve | simp | with_unfolding_all rfl) | apply Blk.drew | apply Blk.drewN | (apply Blk.far'; solve | omega | simp | (simp; omega)) | apply Blk.set_ | apply Blk.alloc | (apply Blk.ext'; assumption) | (apply Blk.but'; assumption; solve | omega | (simp; omega))))) (by rfl)
    have B5 : Blk w1 (w.heap.size + 1 + 1) 2 #[.int .i64 b] := Blk.eq (by (with_reducible repeat (first | assumption | (apply Blk.new; solve | simp | with_unfolding_all rfl) | apply Blk.drew | apply Blk.drewN | (apply Blk.far'; solve | omega | simp | (simp; omega)) | apply Blk.set_ | apply Blk.alloc | (apply Blk.ext'; assumption) | (apply Blk.but'; assumption; solve | omega | (simp; omega))))) (by rfl)
    have HB := Lib.hid (And.intro B4 B5)
    clear B4 B5
    go_wp2_with fail
    refine (HI.out _ _ _ (by (with_reducible repeat (first | exact Ext.refl _ | assumption | (apply Src.ext; assumption) | refine Ext.alloc ?_ _ | refine Ext.drew ?_ | refine Ext.drewN ?_ _ | (refine Ext.setCell' ?_ ?_ _; solve | omega | simp | (simp; omega)) | refine Ext.trans ?_ (by assumption)))) (HB.out.1.ext (by (with_reducible repeat (first | exact Ext.refl _ | assumption | (apply Src.ext; assumption) | refine Ext.alloc ?_ _ | refine Ext.drew ?_ | refine Ext.drewN ?_ _ | (refine Ext.setCell' ?_ ?_ _; solve | omega | simp | (simp; omega)) | refine Ext.trans ?_ (by assumption))))) (HB.out.2.ext (by (with_reducible repeat (first | exact Ext.refl _ | assumption | (apply Src.ext; assumption) | refine Ext.alloc ?_ _ | refine Ext.drew ?_ | refine Ext.drewN ?_ _ | (refine Ext.setCell' ?_ ?_ _; solve | omega | simp | (simp; omega)) | refine Ext.trans ?_ (by assumption)))))).mono ?_
    rintro e w2 ⟨v, rfl, hO, hx2⟩
    have HO := Lib.hid hO
    have hs0 : w.heap.size ≤ w1.heap.size := by omega
    clear hO
    go_wp2
    go_ret2
    exact ⟨_, rfl, HO.out.less (by first | exact hs0 | (simp; omega)), by (with_reducible repeat (first | exact Ext.refl _ | assumption | (apply Src.ext; assumption) | refine Ext.alloc ?_ _ | refine Ext.drew ?_ | refine Ext.drewN ?_ _ | (refine Ext.setCell' ?_ ?_ _; solve | omega | simp | (simp; omega)) | refine Ext.trans ?_ (by assumption)))⟩
  · have hR : appR (psD ps) L a b = [] := by unfold appR; rw [if_neg hz]
    rw [hR]
    generalize wyC (psD ps) L true [a, b] = cd at *
    have hcd : (cd != 0) = true := by simpa using hz
    clear h hm hR
    go_enter Tryz.func8, Tryz.ntmps8
    go_wp2_with fail
    refine (HC.out _ _ (by (with_reducible repeat (first | exact Ext.refl _ | assumption | (apply Src.ext; assumption) | refine Ext.alloc ?_ _ | refine Ext.drew ?_ | refine Ext.drewN ?_ _ | (refine Ext.setCell' ?_ ?_ _; solve | omega | simp | (simp; omega)) | refine Ext.trans ?_ (by assumption)))) (by (with_reducible repeat (first | assumption | (apply Blk.new; solve | simp | with_unfolding_all rfl) | apply Blk.drew | apply Blk.drewN | (apply Blk.far'; solve | omega | simp | (simp; omega)) | apply Blk.set_ | apply Blk.alloc | (apply Blk.ext'; assumption) | (apply Blk.but'; assumption; solve | omega | (simp; omega)))))).mono ?_
    rintro e w1 ⟨rfl, hx1⟩
    go_wp2
    go_ret2
    exact ⟨_, rfl, Own.nil _ _, by (with_reducible repeat (first | exact Ext.refl _ | assumption | (apply Src.ext; assumption) | refine Ext.alloc ?_ _ | refine Ext.drew ?_ | refine Ext.drewN ?_ _ | (refine Ext.setCell' ?_ ?_ _; solve | omega | simp | (simp; omega)) | refine Ext.trans ?_ (by assumption)))⟩
end
set_option maxRecDepth 20000 in
set_option maxHeartbeats 6400000 in
theorem i_MovedBetween1 (A A' : Option Addr) (n c m c' : Nat) (L : List Lk) (p : Pl) (a b : Int) (b3 b4 b5 : Nat) (w : World) (h : SlAt w 4 encK A' L) (hn : m = L.length) (hl : m ≤ 1048576) (h3 : Blk w b3 27 #[.slice A n c, .slice A' m c']) (h4 : w.cell? ⟨b4, 0, none⟩ = some (.int .i64 a)) (h5 : w.cell? ⟨b5, 0, none⟩ = some (.int .i64 b)) :
    Calls Tryz.prog 23 #[plV p, .pointer (some ⟨b4, 0, none⟩), .pointer (some ⟨b5, 0, none⟩), .pointer (some ⟨b3, 0, none⟩)] w fun e w' => e = .returned (.bool (movB L a b (pdOf p))) ∧ Ext w w' := by
  have e4 : b4 < w.heap.size := World.block_lt_of_cell? _ _ h4
  have e5 : b5 < w.heap.size := World.block_lt_of_cell? _ _ h5
  have e3 : b3 < w.heap.size := h3.lt
  have g0 : w.cell? ⟨b3, 0, none⟩ = some (.slice A n c) := h3.cell 0
  have g1 : w.cell? ⟨b3, 1, none⟩ = some (.slice A' m c') := h3.cell 1
  have hpv : plV p = .agg #[.string (tx p.1), .int .i64 p.2.1, .int .i64 p.2.2.1, .int .i64 p.2.2.2.1, .slice p.2.2.2.2.1 p.2.2.2.2.2.2.length p.2.2.2.2.2.1] := rfl
  obtain ⟨q1, hq1⟩ : ∃ q, inB a p.2.2.1 p.2.2.2.1 = q := ⟨_, rfl⟩
  obtain ⟨q2, hq2⟩ : ∃ q, inB b p.2.2.1 p.2.2.2.1 = q := ⟨_, rfl⟩
  have HH : Hid (∀ z q, (z = a ∧ q = q1) ∨ (z = b ∧ q = q2) → ∀ W, Calls Tryz.prog 24 #[.agg #[.int .i64 p.2.2.1, .int .i64 p.2.2.2.1], .int .i64 z] W fun e w' => e = .returned (.bool q) ∧ Ext W w') := Lib.hid (fun z q hz W => by
    rcases hz with ⟨rfl, rfl⟩ | ⟨rfl, rfl⟩
    · rw [← hq1]; exact i_has _ _ _ W
    · rw [← hq2]; exact i_has _ _ _ W)
  obtain ⟨pa, hpa⟩ : ∃ pa, parT L p.1 a = pa := ⟨_, rfl⟩
  obtain ⟨pb, hpb⟩ : ∃ pb, parT L p.1 b = pb := ⟨_, rfl⟩
  have HP : Hid (∀ z (s : ByteArray), (z = a ∧ s = tx pa) ∨ (z = b ∧ s = tx pb) → ∀ W, Ext w W → Calls Tryz.prog 25 #[.agg #[.slice A n c, .slice A' m c'], .string (tx p.1), .int .i64 z] W fun e w' => e = .returned (.string s) ∧ Ext W w') := Lib.hid (fun z s hz W hW => by
    rcases hz with ⟨rfl, rfl⟩ | ⟨rfl, rfl⟩
    · rw [← hpa]; exact i_parentOf p.1 _ (h.ext hW) hn hl
    · rw [← hpb]; exact i_parentOf p.1 _ (h.ext hW) hn hl)
  have hq : movB L a b (pdOf p) = (q1 && (q2 && !((tx pa).toList == (tx pb).toList))) := by
    rw [tx_toL, tx_toL, ← hpa, ← hpb, ← hq1, ← hq2]; rfl
  rw [hq, hpv]
  generalize tx pa = sa at *
  generalize tx pb = sb at *
  generalize tx p.1 = s0 at *
  clear hq hpv h hn h3 hpa hpb hq1 hq2
  cases q1 with
  | false =>
    go_enter Tryz.func23, Tryz.ntmps23
    go_wp2
    (refine wp_region_ext (by kernel_rfl) (by kernel_rfl) ?_; (repeat (go_big_quiet_step ((first | (go_at_call 24; exact Calls_ext (HH.out _ _ (by first | exact .inl ⟨rfl, rfl⟩ | exact .inr ⟨rfl, rfl⟩) _)) | (go_at_call 25; exact Calls_ext (HP.out _ _ (by first | exact .inl ⟨rfl, rfl⟩ | exact .inr ⟨rfl, rfl⟩) _ (Ext.trans (by (with_reducible repeat (first | exact Ext.refl _ | assumption | (apply Src.ext; assumption) | refine Ext.alloc ?_ _ | refine Ext.drew ?_ | refine Ext.drewN ?_ _ | (refine Ext.setCell' ?_ ?_ _; solve | omega | simp | (simp; omega)) | refine Ext.trans ?_ (by assumption)))) (ExtOf.ext _)))))))); refine wpQuiet_nil ?_; intro wq hxwq; obtain ⟨hcwq, hfwq⟩ := hxwq.rules; have hswq := hxwq.size; (try simp at hswq))
    go_wp2
    go_ret
    exact ⟨rfl, by (with_reducible repeat (first | exact Ext.refl _ | assumption | (apply Src.ext; assumption) | refine Ext.alloc ?_ _ | refine Ext.drew ?_ | refine Ext.drewN ?_ _ | (refine Ext.setCell' ?_ ?_ _; solve | omega | simp | (simp; omega)) | refine Ext.trans ?_ (by assumption)))⟩
  | true =>
    cases q2 with
    | false =>
      go_enter Tryz.func23, Tryz.ntmps23
      go_wp2
      (refine wp_region_ext (by kernel_rfl) (by kernel_rfl) ?_; (repeat (go_big_quiet_step ((first | (go_at_call 24; exact Calls_ext (HH.out _ _ (by first | exact .inl ⟨rfl, rfl⟩ | exact .inr ⟨rfl, rfl⟩) _)) | (go_at_call 25; exact Calls_ext (HP.out _ _ (by first | exact .inl ⟨rfl, rfl⟩ | exact .inr ⟨rfl, rfl⟩) _ (Ext.trans (by (with_reducible repeat (first | exact Ext.refl _ | assumption | (apply Src.ext; assumption) | refine Ext.alloc ?_ _ | refine Ext.drew ?_ | refine Ext.drewN ?_ _ | (refine Ext.setCell' ?_ ?_ _; solve | omega | simp | (simp; omega)) | refine Ext.trans ?_ (by assumption)))) (ExtOf.ext _)))))))); refine wpQuiet_nil ?_; intro wq hxwq; obtain ⟨hcwq, hfwq⟩ := hxwq.rules; have hswq := hxwq.size; (try simp at hswq))
      go_wp2
      go_ret
      exact ⟨rfl, by (with_reducible repeat (first | exact Ext.refl _ | assumption | (apply Src.ext; assumption) | refine Ext.alloc ?_ _ | refine Ext.drew ?_ | refine Ext.drewN ?_ _ | (refine Ext.setCell' ?_ ?_ _; solve | omega | simp | (simp; omega)) | refine Ext.trans ?_ (by assumption)))⟩
    | true =>
      go_enter Tryz.func23, Tryz.ntmps23
      go_wp2
      (refine wp_region_ext (by kernel_rfl) (by kernel_rfl) ?_; (repeat (go_big_quiet_step ((first | (go_at_call 24; exact Calls_ext (HH.out _ _ (by first | exact .inl ⟨rfl, rfl⟩ | exact .inr ⟨rfl, rfl⟩) _)) | (go_at_call 25; exact Calls_ext (HP.out _ _ (by first | exact .inl ⟨rfl, rfl⟩ | exact .inr ⟨rfl, rfl⟩) _ (Ext.trans (by (with_reducible repeat (first | exact Ext.refl _ | assumption | (apply Src.ext; assumption) | refine Ext.alloc ?_ _ | refine Ext.drew ?_ | refine Ext.drewN ?_ _ | (refine Ext.setCell' ?_ ?_ _; solve | omega | simp | (simp; omega)) | refine Ext.trans ?_ (by assumption)))) (ExtOf.ext _)))))))); refine wpQuiet_nil ?_; intro wq hxwq; obtain ⟨hcwq, hfwq⟩ := hxwq.rules; have hswq := hxwq.size; (try simp at hswq))
      go_wp2
      go_ret
      exact ⟨rfl, by (with_reducible repeat (first | exact Ext.refl _ | assumption | (apply Src.ext; assumption) | refine Ext.alloc ?_ _ | refine Ext.drew ?_ | refine Ext.drewN ?_ _ | (refine Ext.setCell' ?_ ?_ _; solve | omega | simp | (simp; omega)) | refine Ext.trans ?_ (by assumption)))⟩
theorem en_MovedBetween1 (args : Array Value) (w : World) : (callFunc 23 args).run Tryz.prog w = .ok (.enter 23 args) w := enters_isSome Tryz.func23 (by kernel_rfl) (by kernel_rfl) args w
section
variable {w : World} {A A' : Option Addr} {n c m c' : Nat} {ps : List Pl} {L : List Lk}
set_option maxRecDepth 20000 in
set_option maxHeartbeats 6400000 in
theorem i_MovedBetweenW (a b : Int) (h : WIn w A A' n c m c' ps L) (hm : Mx w) :
    Calls Tryz.prog 6 #[.agg #[.slice A n c, .slice A' m c'], .int .i64 a, .int .i64 b] w fun e w' => ∃ v, e = .returned (.tuple #[v, .int .i64 (wyC (psD ps) L true [a, b])]) ∧ OwS w' w.heap.size v (movR (psD ps) L a b) ∧ Ext w w' := by
  have HC : Hid (∀ W g, Ext w W → Blk W g 2 #[.int .i64 a, .int .i64 b] → Calls Tryz.prog 21 #[.agg #[.slice A n c, .slice A' m c'], .bool true, .slice (some ⟨g, 0, none⟩) 2 2] W fun e w' => e = .returned (.int .i64 (wyC (psD ps) L true [a, b])) ∧ Ext W w') := Lib.hid (fun W g hW hB => i_worldCode true [a, b] _ 2 2 (h.ext hW) (hm.ext hW) (blk_i2 hB) rfl (by omega))
  by_cases hz : wyC (psD ps) L true [a, b] = 0
  · have h10 := wdB_len (wyC_zero hz).1
    rw [psD_len] at h10
    have hE : movR (psD ps) L a b = cdsP (movB L a b) (psD ps) := by unfold movR; rw [if_pos hz]
    have HI : Hid (∀ W b3 b4 b5, Ext w W → Blk W b3 27 #[.slice A n c, .slice A' m c'] → Blk W b4 2 #[.int .i64 a] → Blk W b5 2 #[.int .i64 b] → Calls Tryz.prog 22 #[.slice A n c, .func (.func 23) #[] #[.pointer (some ⟨b4, 0, none⟩), .pointer (some ⟨b5, 0, none⟩), .pointer (some ⟨b3, 0, none⟩)]] W fun e w' => ∃ v, e = .returned v ∧ OwS w' W.heap.size v (movR (psD ps) L a b) ∧ Ext W w') := Lib.hid (fun W b3 b4 b5 hW h3 h4 h5 => by
      rw [hE]
      exact i_codesOf (movB L a b) _ _ en_MovedBetween1 A n c ps W (h.sq.ext hW) h.hn (by rw [h.hn]; omega) (fun p _ W' hW' => i_MovedBetween1 A A' n c m c' L p a b b3 b4 b5 W' ((h.sk.ext hW).ext hW') h.hm (by rw [h.hm]; exact h.hl') (h3.ext hW') ((h4.ext hW').cell 0) ((h5.ext hW').cell 0)))
    rw [hz] at HC ⊢
    generalize movR (psD ps) L a b = res at *
    clear hE hz h hm h10
    go_enter Tryz.func6, Tryz.ntmps6
    go_wp2_with fail
    refine (HC.out _ _ (by (with_reducible repeat (first | exact Ext.refl _ | assumption | (apply Src.ext; assumption) | refine Ext.alloc ?_ _ | refine Ext.drew ?_ | refine Ext.drewN ?_ _ | (refine Ext.setCell' ?_ ?_ _; solve | omega | simp | (simp; omega)) | refine Ext.trans ?_ (by assumption)))) (by (with_reducible repeat (first | assumption | (apply Blk.new; solve | simp | with_unfolding_all rfl) | apply Blk.drew | apply Blk.drewN | (apply Blk.far'; solve | omega | simp | (simp; omega)) | apply Blk.set_ | apply Blk.alloc | (apply Blk.ext'; assumption) | (apply Blk.but'; assumption; solve | omega | (simp; omega)))))).mono ?_
    rintro e w1 ⟨rfl, hx1⟩
    obtain ⟨hc1, hf1⟩ := hx1.rules
    have hs1 := hx1.size
    (try simp at hs1)
    have := (show w.heap.size < w1.heap.size from by omega)
    have := (show w.heap.size + 1 < w1.heap.size from by omega)
    have := (show w.heap.size + 1 + 1 < w1.heap.size from by omega)
    have B3 : Blk w1 w.heap.size 27 #[.slice A n c, .slice A' m c'] := Blk.eq (by (with_reducible repeat (first | assumption | (apply Blk.new; solve | simp | with_unfolding_all rfl) | apply Blk.drew | apply Blk.drewN | (apply Blk.far'; solve | omega | simp | (simp; omega)) | apply Blk.set_ | apply Blk.alloc | (apply Blk.ext'; assumption) | (apply Blk.but'; assumption; solve | omega | (simp; omega))))) (by rfl)
    have B4 : Blk w1 (w.heap.size + 1) 2 #[.int .i64 a] := Blk.eq (by (with_reducible repeat (first | assumption | (apply Blk.new; solve | simp | with_unfolding_all rfl) | apply Blk.drew | apply Blk.drewN | (apply Blk.far'; solve | omega | simp | (simp; omega)) | apply Blk.set_ | apply Blk.alloc | (apply Blk.ext'; assumption) | (apply Blk.but'; assumption; solve | omega | (simp; omega))))) (by rfl)
    have B5 : Blk w1 (w.heap.size + 1 + 1) 2 #[.int .i64 b] := Blk.eq (by (with_reducible repeat (first | assumption | (apply Blk.new; solve | simp | with_unfolding_all rfl) | apply Blk.drew | apply Blk.drewN | (apply Blk.far'; solve | omega | simp | (simp; omega)) | apply Blk.set_ | apply Blk.alloc | (apply Blk.ext'; assumption) | (apply Blk.but'; assumption; solve | omega | (simp; omega))))) (by rfl)
    have HB := Lib.hid (And.intro B3 (And.intro B4 B5))
    clear B3 B4 B5
    go_wp2_with fail
    refine (HI.out _ _ _ _ (by (with_reducible repeat (first | exact Ext.refl _ | assumption | (apply Src.ext; assumption) | refine Ext.alloc ?_ _ | refine Ext.drew ?_ | refine Ext.drewN ?_ _ | (refine Ext.setCell' ?_ ?_ _; solve | omega | simp | (simp; omega)) | refine Ext.trans ?_ (by assumption)))) (HB.out.1.ext (by (with_reducible repeat (first | exact Ext.refl _ | assumption | (apply Src.ext; assumption) | refine Ext.alloc ?_ _ | refine Ext.drew ?_ | refine Ext.drewN ?_ _ | (refine Ext.setCell' ?_ ?_ _; solve | omega | simp | (simp; omega)) | refine Ext.trans ?_ (by assumption))))) (HB.out.2.1.ext (by (with_reducible repeat (first | exact Ext.refl _ | assumption | (apply Src.ext; assumption) | refine Ext.alloc ?_ _ | refine Ext.drew ?_ | refine Ext.drewN ?_ _ | (refine Ext.setCell' ?_ ?_ _; solve | omega | simp | (simp; omega)) | refine Ext.trans ?_ (by assumption))))) (HB.out.2.2.ext (by (with_reducible repeat (first | exact Ext.refl _ | assumption | (apply Src.ext; assumption) | refine Ext.alloc ?_ _ | refine Ext.drew ?_ | refine Ext.drewN ?_ _ | (refine Ext.setCell' ?_ ?_ _; solve | omega | simp | (simp; omega)) | refine Ext.trans ?_ (by assumption)))))).mono ?_
    rintro e w2 ⟨v, rfl, hO, hx2⟩
    have HO := Lib.hid hO
    have hs0 : w.heap.size ≤ w1.heap.size := by omega
    clear hO
    go_wp2
    go_ret2
    exact ⟨_, rfl, HO.out.less (by first | exact hs0 | (simp; omega)), by (with_reducible repeat (first | exact Ext.refl _ | assumption | (apply Src.ext; assumption) | refine Ext.alloc ?_ _ | refine Ext.drew ?_ | refine Ext.drewN ?_ _ | (refine Ext.setCell' ?_ ?_ _; solve | omega | simp | (simp; omega)) | refine Ext.trans ?_ (by assumption)))⟩
  · have hR : movR (psD ps) L a b = [] := by unfold movR; rw [if_neg hz]
    rw [hR]
    generalize wyC (psD ps) L true [a, b] = cd at *
    have hcd : (cd != 0) = true := by simpa using hz
    clear h hm hR
    go_enter Tryz.func6, Tryz.ntmps6
    go_wp2_with fail
    refine (HC.out _ _ (by (with_reducible repeat (first | exact Ext.refl _ | assumption | (apply Src.ext; assumption) | refine Ext.alloc ?_ _ | refine Ext.drew ?_ | refine Ext.drewN ?_ _ | (refine Ext.setCell' ?_ ?_ _; solve | omega | simp | (simp; omega)) | refine Ext.trans ?_ (by assumption)))) (by (with_reducible repeat (first | assumption | (apply Blk.new; solve | simp | with_unfolding_all rfl) | apply Blk.drew | apply Blk.drewN | (apply Blk.far'; solve | omega | simp | (simp; omega)) | apply Blk.set_ | apply Blk.alloc | (apply Blk.ext'; assumption) | (apply Blk.but'; assumption; solve | omega | (simp; omega)))))).mono ?_
    rintro e w1 ⟨rfl, hx1⟩
    go_wp2
    go_ret2
    exact ⟨_, rfl, Own.nil _ _, by (with_reducible repeat (first | exact Ext.refl _ | assumption | (apply Src.ext; assumption) | refine Ext.alloc ?_ _ | refine Ext.drew ?_ | refine Ext.drewN ?_ _ | (refine Ext.setCell' ?_ ?_ _; solve | omega | simp | (simp; omega)) | refine Ext.trans ?_ (by assumption)))⟩
end
end Go.Proofs.YtbnkiibjhfcffaaGreatDoor
namespace Go.Proofs.YtbnkiibjhfcffaaGreatDoor
open Go.RowKit
attribute [local go_sem] ExtOf.cell ExtOf.frozen

section
variable {w : World} {A A' : Option Addr} {n c m c' : Nat} {ps : List Pl} {L : List Lk}
set_option maxRecDepth 20000 in
set_option maxHeartbeats 12800000 in
theorem s_AppearedBetweenW (a b : Int) (h : WIn w A A' n c m c' ps L) :
    Calls Tryz.prog 9 #[.agg #[.slice A n c, .slice A' m c'], .int .i64 a, .int .i64 b] w fun e w' => ∃ v, e = .returned (.tuple #[v, .int .i64 (wyC (psD ps) L true [a, b])]) ∧ OwS w' w.heap.size v (appR (psD ps) L a b) ∧ Ext w w' := by
  have HC := Lib.hid (fun W (hW : Ext w W) => s_l14Years (w := W) a b (h.ext hW))
  have hlm : m ≤ 1048576 := by rw [h.hm]; exact h.hl'
  have HPA := Lib.hid (fun x z W (hW : Ext w W) => s_l12Parent A' m c' L x z W (h.sk.ext hW) h.hm hlm)
  have HS := Lib.hid h.sq
  have HN := Lib.hid h.hn
  by_cases hz : wyC (psD ps) L true [a, b] = 0
  · have h10 := wdB_len (wyC_zero hz).1
    rw [psD_len, ← h.hn] at h10
    have hfin : cdsTo (appB a b) (psD ps) n = appR (psD ps) L a b := by unfold appR; rw [if_pos hz, h.hn, ← psD_len, cdsTo_all]
    have HFIN := Lib.hid hfin
    rw [hz] at HC ⊢
    clear hfin hz h
    go_enter Tryz.func9, Tryz.ntmps9
    go_wp2_with fail
    refine (HC.out _ (by (with_reducible repeat (first | exact Ext.refl _ | assumption | (apply Src.ext; assumption) | refine Ext.alloc ?_ _ | refine Ext.drew ?_ | refine Ext.drewN ?_ _ | (refine Ext.setCell' ?_ ?_ _; solve | omega | simp | (simp; omega)) | refine Ext.trans ?_ (by assumption))))).mono ?_
    rintro e w1 ⟨rfl, hx1⟩
    obtain ⟨hc1, hf1⟩ := hx1.rules
    have hs1 := hx1.size
    (try simp at hs1)
    have B3 : Blk w1 w.heap.size 27 #[.slice A n c, .slice A' m c'] := Blk.eq (by (with_reducible repeat (first | assumption | (apply Blk.new; solve | simp | with_unfolding_all rfl) | apply Blk.drew | apply Blk.drewN | (apply Blk.far'; solve | omega | simp | (simp; omega)) | apply Blk.set_ | apply Blk.alloc | (apply Blk.ext'; assumption) | (apply Blk.but'; assumption; solve | omega | (simp; omega))))) (by rfl)
    have hX1 : Ext w w1 := by clear B3; (with_reducible repeat (first | exact Ext.refl _ | assumption | (apply Src.ext; assumption) | refine Ext.alloc ?_ _ | refine Ext.drew ?_ | refine Ext.drewN ?_ _ | (refine Ext.setCell' ?_ ?_ _; solve | omega | simp | (simp; omega)) | refine Ext.trans ?_ (by assumption)))
    have z3 := B3.lt
    clear hc1 hf1 hx1
    go_wp2
    go_loopw [9, 10] (fun v i wr => ∃ k : Nat, k ≤ n ∧ i = .int .i64 k ∧ Hid (OwS wr (w.heap.size + 1) v (cdsTo (appB a b) (psD ps) k)) ∧ Blk wr w.heap.size 27 #[.slice A n c, .slice A' m c'] ∧ Ext w wr) (fun _ i _ => n - (intOf i).toNat)
    case atStart => exact ⟨0, by omega, rfl, Lib.hid (Own.of_blk (g := w1.heap.size) (cs := #[]) (xs := []) (by (with_reducible repeat (first | assumption | (apply Blk.new; solve | simp | with_unfolding_all rfl) | apply Blk.drew | apply Blk.drewN | (apply Blk.far'; solve | omega | simp | (simp; omega)) | apply Blk.set_ | apply Blk.alloc | (apply Blk.ext'; assumption) | (apply Blk.but'; assumption; solve | omega | (simp; omega))))) len_encS rfl (by omega) (by simp)), by (with_reducible repeat (first | assumption | (apply Blk.new; solve | simp | with_unfolding_all rfl) | apply Blk.drew | apply Blk.drewN | (apply Blk.far'; solve | omega | simp | (simp; omega)) | apply Blk.set_ | apply Blk.alloc | (apply Blk.ext'; assumption) | (apply Blk.but'; assumption; solve | omega | (simp; omega)))), by (with_reducible repeat (first | exact Ext.refl _ | assumption | (apply Src.ext; assumption) | refine Ext.alloc ?_ _ | refine Ext.drew ?_ | refine Ext.drewN ?_ _ | (refine Ext.setCell' ?_ ?_ _; solve | omega | simp | (simp; omega)) | refine Ext.trans ?_ (by assumption)))⟩
    case round =>
      obtain ⟨k, hk, rfl, HV, hB, hxr⟩ := hrel
      obtain ⟨w5, rfl⟩ : ∃ x, x = wr := ⟨wr, rfl⟩
      have hBl := hB.lt
      have HB := Lib.hid hB
      have y0 : w5.cell? ⟨w.heap.size, 0, none⟩ = some (.slice A n c) := hB.cell 0
      have y1 : w5.cell? ⟨w.heap.size, 1, none⟩ = some (.slice A' m c') := hB.cell 1
      clear hB
      by_cases hlt : k < n
      · have hkr : k < ps.length := by rw [← HN.out]; exact hlt
        obtain ⟨b9, off, rfl, hb, d0, d1, d2, d3, d4⟩ := (HS.out.ext hxr).pl hkr
        have hsucc := cdsTo_succ (p := (appB a b)) (D := psD ps) (k := k) (by rw [psD_len]; exact hkr)
        rw [psD_at hkr] at hsucc
        have hln := cdsTo_len ((appB a b)) (psD ps) k
        obtain ⟨q1, hq1⟩ : ∃ q, exB (pdOf (ps.getD k plD)) a = q := ⟨_, rfl⟩
        obtain ⟨q2, hq2⟩ : ∃ q, exB (pdOf (ps.getD k plD)) b = q := ⟨_, rfl⟩
        have hHH : Hid (∀ z q, (z = a ∧ q = q1) ∨ (z = b ∧ q = q2) → ∀ W, Calls Tryz.prog 27 #[.agg #[.string (tx (ps.getD k plD).1), .int .i64 (ps.getD k plD).2.1, .int .i64 (ps.getD k plD).2.2.1, .int .i64 (ps.getD k plD).2.2.2.1, .slice (ps.getD k plD).2.2.2.2.1 (ps.getD k plD).2.2.2.2.2.2.length (ps.getD k plD).2.2.2.2.2.1], .int .i64 z] W fun e w' => e = .returned (.bool q) ∧ Ext W w') := Lib.hid (fun z q hz W => by
          rcases hz with ⟨rfl, rfl⟩ | ⟨rfl, rfl⟩
          · rw [← hq1]; exact s_l11Exists _ _ W
          · rw [← hq2]; exact s_l11Exists _ _ W)
        have HH := hHH
        clear hHH
        have hmov : appB a b (pdOf (ps.getD k plD)) = (q2 && !q1) := by unfold appB; rw [hq1, hq2]
        clear hq1 hq2
        cases q1 with
        | true =>
          have hmov2 : appB a b (pdOf (ps.getD k plD)) = false := by rw [hmov]; simp
          clear hmov
          have hmov := hmov2
          clear hmov2
          have HSU : Hid (cdsTo (appB a b) (psD ps) (k + 1) = cdsTo (appB a b) (psD ps) k) := Lib.hid (by rw [hsucc, hmov]; simp)
          clear hsucc hmov hln
          generalize ps.getD k plD = l at *
          generalize tx l.1 = s0 at *
          generalize l.2.1 = s1 at *
          generalize l.2.2.1 = s2 at *
          generalize l.2.2.2.1 = s3 at *
          generalize l.2.2.2.2.1 = s4 at *
          generalize l.2.2.2.2.2.2.length = s5 at *
          generalize l.2.2.2.2.2.1 = s6 at *
          (go_wp2_with fail; refine (HH.out _ _ (by first | exact .inl ⟨rfl, rfl⟩ | exact .inr ⟨rfl, rfl⟩) _).mono ?_; rintro e w1 ⟨rfl, hx1⟩; obtain ⟨hc1, hf1⟩ := hx1.rules; have hs1 := hx1.size; (try simp at hs1); have := (show w.heap.size < w1.heap.size from by omega))
          go_wp2
          go_roundw
          case rel => exact ⟨k + 1, by omega, by go_num, Lib.hid (by rw [HSU.out]; exact HV.out.ext (by (with_reducible repeat (first | exact Ext.refl _ | assumption | (apply Src.ext; assumption) | refine Ext.alloc ?_ _ | refine Ext.drew ?_ | refine Ext.drewN ?_ _ | (refine Ext.setCell' ?_ ?_ _; solve | omega | simp | (simp; omega)) | refine Ext.trans ?_ (by assumption))))), HB.out.ext (by (with_reducible repeat (first | exact Ext.refl _ | assumption | (apply Src.ext; assumption) | refine Ext.alloc ?_ _ | refine Ext.drew ?_ | refine Ext.drewN ?_ _ | (refine Ext.setCell' ?_ ?_ _; solve | omega | simp | (simp; omega)) | refine Ext.trans ?_ (by assumption)))), by (with_reducible repeat (first | exact Ext.refl _ | assumption | (apply Src.ext; assumption) | refine Ext.alloc ?_ _ | refine Ext.drew ?_ | refine Ext.drewN ?_ _ | (refine Ext.setCell' ?_ ?_ _; solve | omega | simp | (simp; omega)) | refine Ext.trans ?_ (by assumption)))⟩
          case measure => simp [intOf]; omega
        | false =>
          cases q2 with
          | false =>
            have HSU : Hid (cdsTo (appB a b) (psD ps) (k + 1) = cdsTo (appB a b) (psD ps) k) := Lib.hid (by rw [hsucc, hmov]; simp)
            clear hsucc hmov hln
            generalize ps.getD k plD = l at *
            generalize tx l.1 = s0 at *
            generalize l.2.1 = s1 at *
            generalize l.2.2.1 = s2 at *
            generalize l.2.2.2.1 = s3 at *
            generalize l.2.2.2.2.1 = s4 at *
            generalize l.2.2.2.2.2.2.length = s5 at *
            generalize l.2.2.2.2.2.1 = s6 at *
            (go_wp2_with fail; refine (HH.out _ _ (by first | exact .inl ⟨rfl, rfl⟩ | exact .inr ⟨rfl, rfl⟩) _).mono ?_; rintro e w1 ⟨rfl, hx1⟩; obtain ⟨hc1, hf1⟩ := hx1.rules; have hs1 := hx1.size; (try simp at hs1); have := (show w.heap.size < w1.heap.size from by omega); have := (show b9 < w1.heap.size from by omega))
            (go_wp2_with fail; refine (HH.out _ _ (by first | exact .inr ⟨rfl, rfl⟩ | exact .inl ⟨rfl, rfl⟩) _).mono ?_; rintro e w2 ⟨rfl, hx2⟩; obtain ⟨hc2, hf2⟩ := hx2.rules; have hs2 := hx2.size; (try simp at hs2); have := (show w.heap.size < w2.heap.size from by omega))
            go_wp2
            go_roundw
            case rel => exact ⟨k + 1, by omega, by go_num, Lib.hid (by rw [HSU.out]; exact HV.out.ext (by (with_reducible repeat (first | exact Ext.refl _ | assumption | (apply Src.ext; assumption) | refine Ext.alloc ?_ _ | refine Ext.drew ?_ | refine Ext.drewN ?_ _ | (refine Ext.setCell' ?_ ?_ _; solve | omega | simp | (simp; omega)) | refine Ext.trans ?_ (by assumption))))), HB.out.ext (by (with_reducible repeat (first | exact Ext.refl _ | assumption | (apply Src.ext; assumption) | refine Ext.alloc ?_ _ | refine Ext.drew ?_ | refine Ext.drewN ?_ _ | (refine Ext.setCell' ?_ ?_ _; solve | omega | simp | (simp; omega)) | refine Ext.trans ?_ (by assumption)))), by (with_reducible repeat (first | exact Ext.refl _ | assumption | (apply Src.ext; assumption) | refine Ext.alloc ?_ _ | refine Ext.drew ?_ | refine Ext.drewN ?_ _ | (refine Ext.setCell' ?_ ?_ _; solve | omega | simp | (simp; omega)) | refine Ext.trans ?_ (by assumption)))⟩
            case measure => simp [intOf]; omega
          | true =>
            have HSU : Hid (cdsTo (appB a b) (psD ps) (k + 1) = cdsTo (appB a b) (psD ps) k ++ [(ps.getD k plD).1]) := Lib.hid (by rw [hsucc, hmov]; simp; rfl)
            have HBL := Lib.hid (fun (W : World) (g : Nat) (hB : Blk W g 9 #[.string (tx (ps.getD k plD).1)]) => blk_s1c hB)
            have HLN : Hid ((cdsTo (appB a b) (psD ps) k).length ≤ 1000) := Lib.hid (by omega)
            clear hsucc hmov hln
            generalize ps.getD k plD = l at *
            generalize tx l.1 = s0 at *
            generalize l.2.1 = s1 at *
            generalize l.2.2.1 = s2 at *
            generalize l.2.2.2.1 = s3 at *
            generalize l.2.2.2.2.1 = s4 at *
            generalize l.2.2.2.2.2.2.length = s5 at *
            generalize l.2.2.2.2.2.1 = s6 at *
            have hsr := hxr.size
            (go_wp2_with fail; refine (HH.out _ _ (by first | exact .inl ⟨rfl, rfl⟩ | exact .inr ⟨rfl, rfl⟩) _).mono ?_; rintro e w1 ⟨rfl, hx1⟩; obtain ⟨hc1, hf1⟩ := hx1.rules; have hs1 := hx1.size; (try simp at hs1); have := (show w.heap.size < w1.heap.size from by omega); have := (show b9 < w1.heap.size from by omega))
            (go_wp2_with fail; refine (HH.out _ _ (by first | exact .inr ⟨rfl, rfl⟩ | exact .inl ⟨rfl, rfl⟩) _).mono ?_; rintro e w2 ⟨rfl, hx2⟩; obtain ⟨hc2, hf2⟩ := hx2.rules; have hs2 := hx2.size; (try simp at hs2); have := (show w.heap.size < w2.heap.size from by omega); have := (show b9 < w2.heap.size from by omega))
            have HV1 : Hid (OwS w2 (w.heap.size + 1) _ (cdsTo (appB a b) (psD ps) k)) := Lib.hid (HV.out.ext (by (with_reducible repeat (first | exact Ext.refl _ | assumption | (apply Src.ext; assumption) | refine Ext.alloc ?_ _ | refine Ext.drew ?_ | refine Ext.drewN ?_ _ | (refine Ext.setCell' ?_ ?_ _; solve | omega | simp | (simp; omega)) | refine Ext.trans ?_ (by assumption)))))
            go_wp2_with (at_builtin; refine wpList_append_sl elS len_encS one_encS rfl _ _ rfl rfl (HV1.out.ext (by (with_reducible repeat (first | exact Ext.refl _ | assumption | (apply Src.ext; assumption) | refine Ext.alloc ?_ _ | refine Ext.drew ?_ | refine Ext.drewN ?_ _ | (refine Ext.setCell' ?_ ?_ _; solve | omega | simp | (simp; omega)) | refine Ext.trans ?_ (by assumption))))) (xs := [l.1]) rfl (HBL.out _ _ (by (with_reducible repeat (first | assumption | (apply Blk.new; solve | simp | with_unfolding_all rfl) | apply Blk.drew | apply Blk.drewN | (apply Blk.far'; solve | omega | simp | (simp; omega)) | apply Blk.set_ | apply Blk.alloc | (apply Blk.ext'; assumption) | (apply Blk.but'; assumption; solve | omega | (simp; omega)))))) (by have := HLN.out; simp; unfold maxLen; omega) (by have := HLN.out; simp; omega) (by first | omega | (simp; omega)) ?_)
            intro v' w6 hown hgrow _
            have HV2 := Lib.hid hown
            have hx6 : Ext w w6 := by
              refine Ext.grown ?_ hgrow (fun q hq => Nat.le_of_succ_le (HV.out.row q hq).1)
              (with_reducible repeat (first | exact Ext.refl _ | assumption | (apply Src.ext; assumption) | refine Ext.alloc ?_ _ | refine Ext.drew ?_ | refine Ext.drewN ?_ _ | (refine Ext.setCell' ?_ ?_ _; solve | omega | simp | (simp; omega)) | refine Ext.trans ?_ (by assumption)))
            have HB6 := Lib.hid (blk_keptE hgrow (HB.out.ext (by (with_reducible repeat (first | exact Ext.refl _ | assumption | (apply Src.ext; assumption) | refine Ext.alloc ?_ _ | refine Ext.drew ?_ | refine Ext.drewN ?_ _ | (refine Ext.setCell' ?_ ?_ _; solve | omega | simp | (simp; omega)) | refine Ext.trans ?_ (by assumption))))) (fun e => by have := (HV.out.row _ e.symm).1; omega))
            clear hown hgrow
            go_wp2
            go_roundw
            case rel => exact ⟨k + 1, by omega, by go_num, Lib.hid (by rw [HSU.out]; exact HV2.out), HB6.out, hx6⟩
            case measure => simp [intOf]; omega
      · obtain rfl : k = n := by omega
        have HO : Hid (OwS w5 (w.heap.size + 1) _ (appR (psD ps) L a b)) := Lib.hid (by rw [← HFIN.out]; exact HV.out)
        go_wp2
        go_ret2
        exact ⟨_, rfl, (HO.out.ext (by (with_reducible repeat (first | exact Ext.refl _ | assumption | (apply Src.ext; assumption) | refine Ext.alloc ?_ _ | refine Ext.drew ?_ | refine Ext.drewN ?_ _ | (refine Ext.setCell' ?_ ?_ _; solve | omega | simp | (simp; omega)) | refine Ext.trans ?_ (by assumption))))).less (Nat.le_succ _), by (with_reducible repeat (first | exact Ext.refl _ | assumption | (apply Src.ext; assumption) | refine Ext.alloc ?_ _ | refine Ext.drew ?_ | refine Ext.drewN ?_ _ | (refine Ext.setCell' ?_ ?_ _; solve | omega | simp | (simp; omega)) | refine Ext.trans ?_ (by assumption)))⟩
  · have hR : appR (psD ps) L a b = [] := by unfold appR; rw [if_neg hz]
    rw [hR]
    generalize wyC (psD ps) L true [a, b] = cd at *
    have hcd : (cd != 0) = true := by simpa using hz
    clear h hR
    go_enter Tryz.func9, Tryz.ntmps9
    go_wp2_with fail
    refine (HC.out _ (by (with_reducible repeat (first | exact Ext.refl _ | assumption | (apply Src.ext; assumption) | refine Ext.alloc ?_ _ | refine Ext.drew ?_ | refine Ext.drewN ?_ _ | (refine Ext.setCell' ?_ ?_ _; solve | omega | simp | (simp; omega)) | refine Ext.trans ?_ (by assumption))))).mono ?_
    rintro e w1 ⟨rfl, hx1⟩
    go_wp2
    go_ret2
    exact ⟨_, rfl, Own.nil _ _, by (with_reducible repeat (first | exact Ext.refl _ | assumption | (apply Src.ext; assumption) | refine Ext.alloc ?_ _ | refine Ext.drew ?_ | refine Ext.drewN ?_ _ | (refine Ext.setCell' ?_ ?_ _; solve | omega | simp | (simp; omega)) | refine Ext.trans ?_ (by assumption)))⟩
set_option maxRecDepth 20000 in
set_option maxHeartbeats 12800000 in
theorem s_MovedBetweenW (a b : Int) (h : WIn w A A' n c m c' ps L) :
    Calls Tryz.prog 7 #[.agg #[.slice A n c, .slice A' m c'], .int .i64 a, .int .i64 b] w fun e w' => ∃ v, e = .returned (.tuple #[v, .int .i64 (wyC (psD ps) L true [a, b])]) ∧ OwS w' w.heap.size v (movR (psD ps) L a b) ∧ Ext w w' := by
  have HC := Lib.hid (fun W (hW : Ext w W) => s_l14Years (w := W) a b (h.ext hW))
  have hlm : m ≤ 1048576 := by rw [h.hm]; exact h.hl'
  have HPA := Lib.hid (fun x z W (hW : Ext w W) => s_l12Parent A' m c' L x z W (h.sk.ext hW) h.hm hlm)
  have HS := Lib.hid h.sq
  have HN := Lib.hid h.hn
  by_cases hz : wyC (psD ps) L true [a, b] = 0
  · have h10 := wdB_len (wyC_zero hz).1
    rw [psD_len, ← h.hn] at h10
    have hfin : cdsTo (movB L a b) (psD ps) n = movR (psD ps) L a b := by unfold movR; rw [if_pos hz, h.hn, ← psD_len, cdsTo_all]
    have HFIN := Lib.hid hfin
    rw [hz] at HC ⊢
    clear hfin hz h
    go_enter Tryz.func7, Tryz.ntmps7
    go_wp2_with fail
    refine (HC.out _ (by (with_reducible repeat (first | exact Ext.refl _ | assumption | (apply Src.ext; assumption) | refine Ext.alloc ?_ _ | refine Ext.drew ?_ | refine Ext.drewN ?_ _ | (refine Ext.setCell' ?_ ?_ _; solve | omega | simp | (simp; omega)) | refine Ext.trans ?_ (by assumption))))).mono ?_
    rintro e w1 ⟨rfl, hx1⟩
    obtain ⟨hc1, hf1⟩ := hx1.rules
    have hs1 := hx1.size
    (try simp at hs1)
    have B3 : Blk w1 w.heap.size 27 #[.slice A n c, .slice A' m c'] := Blk.eq (by (with_reducible repeat (first | assumption | (apply Blk.new; solve | simp | with_unfolding_all rfl) | apply Blk.drew | apply Blk.drewN | (apply Blk.far'; solve | omega | simp | (simp; omega)) | apply Blk.set_ | apply Blk.alloc | (apply Blk.ext'; assumption) | (apply Blk.but'; assumption; solve | omega | (simp; omega))))) (by rfl)
    have hX1 : Ext w w1 := by clear B3; (with_reducible repeat (first | exact Ext.refl _ | assumption | (apply Src.ext; assumption) | refine Ext.alloc ?_ _ | refine Ext.drew ?_ | refine Ext.drewN ?_ _ | (refine Ext.setCell' ?_ ?_ _; solve | omega | simp | (simp; omega)) | refine Ext.trans ?_ (by assumption)))
    have z3 := B3.lt
    clear hc1 hf1 hx1
    go_wp2
    go_loopw [9, 10] (fun v i wr => ∃ k : Nat, k ≤ n ∧ i = .int .i64 k ∧ Hid (OwS wr (w.heap.size + 1) v (cdsTo (movB L a b) (psD ps) k)) ∧ Blk wr w.heap.size 27 #[.slice A n c, .slice A' m c'] ∧ Ext w wr) (fun _ i _ => n - (intOf i).toNat)
    case atStart => exact ⟨0, by omega, rfl, Lib.hid (Own.of_blk (g := w1.heap.size) (cs := #[]) (xs := []) (by (with_reducible repeat (first | assumption | (apply Blk.new; solve | simp | with_unfolding_all rfl) | apply Blk.drew | apply Blk.drewN | (apply Blk.far'; solve | omega | simp | (simp; omega)) | apply Blk.set_ | apply Blk.alloc | (apply Blk.ext'; assumption) | (apply Blk.but'; assumption; solve | omega | (simp; omega))))) len_encS rfl (by omega) (by simp)), by (with_reducible repeat (first | assumption | (apply Blk.new; solve | simp | with_unfolding_all rfl) | apply Blk.drew | apply Blk.drewN | (apply Blk.far'; solve | omega | simp | (simp; omega)) | apply Blk.set_ | apply Blk.alloc | (apply Blk.ext'; assumption) | (apply Blk.but'; assumption; solve | omega | (simp; omega)))), by (with_reducible repeat (first | exact Ext.refl _ | assumption | (apply Src.ext; assumption) | refine Ext.alloc ?_ _ | refine Ext.drew ?_ | refine Ext.drewN ?_ _ | (refine Ext.setCell' ?_ ?_ _; solve | omega | simp | (simp; omega)) | refine Ext.trans ?_ (by assumption)))⟩
    case round =>
      obtain ⟨k, hk, rfl, HV, hB, hxr⟩ := hrel
      obtain ⟨w5, rfl⟩ : ∃ x, x = wr := ⟨wr, rfl⟩
      have hBl := hB.lt
      have HB := Lib.hid hB
      have y0 : w5.cell? ⟨w.heap.size, 0, none⟩ = some (.slice A n c) := hB.cell 0
      have y1 : w5.cell? ⟨w.heap.size, 1, none⟩ = some (.slice A' m c') := hB.cell 1
      clear hB
      by_cases hlt : k < n
      · have hkr : k < ps.length := by rw [← HN.out]; exact hlt
        obtain ⟨b9, off, rfl, hb, d0, d1, d2, d3, d4⟩ := (HS.out.ext hxr).pl hkr
        have hsucc := cdsTo_succ (p := (movB L a b)) (D := psD ps) (k := k) (by rw [psD_len]; exact hkr)
        rw [psD_at hkr] at hsucc
        have hln := cdsTo_len ((movB L a b)) (psD ps) k
        obtain ⟨q1, hq1⟩ : ∃ q, exB (pdOf (ps.getD k plD)) a = q := ⟨_, rfl⟩
        obtain ⟨q2, hq2⟩ : ∃ q, exB (pdOf (ps.getD k plD)) b = q := ⟨_, rfl⟩
        have hHH : Hid (∀ z q, (z = a ∧ q = q1) ∨ (z = b ∧ q = q2) → ∀ W, Calls Tryz.prog 27 #[.agg #[.string (tx (ps.getD k plD).1), .int .i64 (ps.getD k plD).2.1, .int .i64 (ps.getD k plD).2.2.1, .int .i64 (ps.getD k plD).2.2.2.1, .slice (ps.getD k plD).2.2.2.2.1 (ps.getD k plD).2.2.2.2.2.2.length (ps.getD k plD).2.2.2.2.2.1], .int .i64 z] W fun e w' => e = .returned (.bool q) ∧ Ext W w') := Lib.hid (fun z q hz W => by
          rcases hz with ⟨rfl, rfl⟩ | ⟨rfl, rfl⟩
          · rw [← hq1]; exact s_l11Exists _ _ W
          · rw [← hq2]; exact s_l11Exists _ _ W)
        have HH := hHH
        clear hHH
        obtain ⟨pa, hpa⟩ : ∃ pa, parT L (ps.getD k plD).1 a = pa := ⟨_, rfl⟩
        obtain ⟨pb, hpb⟩ : ∃ pb, parT L (ps.getD k plD).1 b = pb := ⟨_, rfl⟩
        have HP : Hid (∀ z (s : ByteArray), (z = a ∧ s = tx pa) ∨ (z = b ∧ s = tx pb) → ∀ W, Ext w W → Calls Tryz.prog 28 #[.slice A' m c', .string (tx (ps.getD k plD).1), .int .i64 z] W fun e w' => e = .returned (.string s) ∧ Ext W w') := Lib.hid (fun z s hz W hW => by
          rcases hz with ⟨rfl, rfl⟩ | ⟨rfl, rfl⟩
          · rw [← hpa]; exact HPA.out _ _ W hW
          · rw [← hpb]; exact HPA.out _ _ W hW)
        have hmov : movB L a b (pdOf (ps.getD k plD)) = (q1 && (q2 && !((tx pa).toList == (tx pb).toList))) := by
          rw [tx_toL, tx_toL, ← hpa, ← hpb, ← hq1, ← hq2]; rfl
        clear hq1 hq2 hpa hpb
        generalize tx pa = sa at *
        generalize tx pb = sb at *
        cases q1 with
        | false =>
          have HSU : Hid (cdsTo (movB L a b) (psD ps) (k + 1) = cdsTo (movB L a b) (psD ps) k) := Lib.hid (by rw [hsucc, hmov]; simp)
          clear hsucc hmov hln
          generalize ps.getD k plD = l at *
          generalize tx l.1 = s0 at *
          generalize l.2.1 = s1 at *
          generalize l.2.2.1 = s2 at *
          generalize l.2.2.2.1 = s3 at *
          generalize l.2.2.2.2.1 = s4 at *
          generalize l.2.2.2.2.2.2.length = s5 at *
          generalize l.2.2.2.2.2.1 = s6 at *
          go_wp2
          (refine wp_region_ext (by kernel_rfl) (by kernel_rfl) ?_; (repeat (go_big_quiet_step ((first | (go_at_call 27; exact Calls_ext (HH.out _ _ (by first | exact .inl ⟨rfl, rfl⟩ | exact .inr ⟨rfl, rfl⟩) _)) | (go_at_call 28; exact Calls_ext (HP.out _ _ (by first | exact .inl ⟨rfl, rfl⟩ | exact .inr ⟨rfl, rfl⟩) _ (hxr.trans (Ext.trans (by (with_reducible repeat (first | exact Ext.refl _ | assumption | (apply Src.ext; assumption) | refine Ext.alloc ?_ _ | refine Ext.drew ?_ | refine Ext.drewN ?_ _ | (refine Ext.setCell' ?_ ?_ _; solve | omega | simp | (simp; omega)) | refine Ext.trans ?_ (by assumption)))) (ExtOf.ext _))))))))); refine wpQuiet_nil ?_; intro wq hxwq; obtain ⟨hcwq, hfwq⟩ := hxwq.rules; have hswq := hxwq.size; (try simp at hswq))
          go_wp2
          have z1 := (show w5.heap.size < wq.heap.size from by omega)
          have z2 := (show w.heap.size < wq.heap.size from by omega)
          go_wp2
          go_roundw
          case rel => exact ⟨k + 1, by omega, by go_num, Lib.hid (by rw [HSU.out]; exact HV.out.ext (by (with_reducible repeat (first | exact Ext.refl _ | assumption | (apply Src.ext; assumption) | refine Ext.alloc ?_ _ | refine Ext.drew ?_ | refine Ext.drewN ?_ _ | (refine Ext.setCell' ?_ ?_ _; solve | omega | simp | (simp; omega)) | refine Ext.trans ?_ (by assumption))))), HB.out.ext (by (with_reducible repeat (first | exact Ext.refl _ | assumption | (apply Src.ext; assumption) | refine Ext.alloc ?_ _ | refine Ext.drew ?_ | refine Ext.drewN ?_ _ | (refine Ext.setCell' ?_ ?_ _; solve | omega | simp | (simp; omega)) | refine Ext.trans ?_ (by assumption)))), by (with_reducible repeat (first | exact Ext.refl _ | assumption | (apply Src.ext; assumption) | refine Ext.alloc ?_ _ | refine Ext.drew ?_ | refine Ext.drewN ?_ _ | (refine Ext.setCell' ?_ ?_ _; solve | omega | simp | (simp; omega)) | refine Ext.trans ?_ (by assumption)))⟩
          case measure => simp [intOf]; omega
        | true =>
          cases q2 with
          | false =>
            have HSU : Hid (cdsTo (movB L a b) (psD ps) (k + 1) = cdsTo (movB L a b) (psD ps) k) := Lib.hid (by rw [hsucc, hmov]; simp)
            clear hsucc hmov hln
            generalize ps.getD k plD = l at *
            generalize tx l.1 = s0 at *
            generalize l.2.1 = s1 at *
            generalize l.2.2.1 = s2 at *
            generalize l.2.2.2.1 = s3 at *
            generalize l.2.2.2.2.1 = s4 at *
            generalize l.2.2.2.2.2.2.length = s5 at *
            generalize l.2.2.2.2.2.1 = s6 at *
            go_wp2
            (refine wp_region_ext (by kernel_rfl) (by kernel_rfl) ?_; (repeat (go_big_quiet_step ((first | (go_at_call 27; exact Calls_ext (HH.out _ _ (by first | exact .inl ⟨rfl, rfl⟩ | exact .inr ⟨rfl, rfl⟩) _)) | (go_at_call 28; exact Calls_ext (HP.out _ _ (by first | exact .inl ⟨rfl, rfl⟩ | exact .inr ⟨rfl, rfl⟩) _ (hxr.trans (Ext.trans (by (with_reducible repeat (first | exact Ext.refl _ | assumption | (apply Src.ext; assumption) | refine Ext.alloc ?_ _ | refine Ext.drew ?_ | refine Ext.drewN ?_ _ | (refine Ext.setCell' ?_ ?_ _; solve | omega | simp | (simp; omega)) | refine Ext.trans ?_ (by assumption)))) (ExtOf.ext _))))))))); refine wpQuiet_nil ?_; intro wq hxwq; obtain ⟨hcwq, hfwq⟩ := hxwq.rules; have hswq := hxwq.size; (try simp at hswq))
            go_wp2
            have z1 := (show w5.heap.size < wq.heap.size from by omega)
            have z2 := (show w.heap.size < wq.heap.size from by omega)
            go_wp2
            go_roundw
            case rel => exact ⟨k + 1, by omega, by go_num, Lib.hid (by rw [HSU.out]; exact HV.out.ext (by (with_reducible repeat (first | exact Ext.refl _ | assumption | (apply Src.ext; assumption) | refine Ext.alloc ?_ _ | refine Ext.drew ?_ | refine Ext.drewN ?_ _ | (refine Ext.setCell' ?_ ?_ _; solve | omega | simp | (simp; omega)) | refine Ext.trans ?_ (by assumption))))), HB.out.ext (by (with_reducible repeat (first | exact Ext.refl _ | assumption | (apply Src.ext; assumption) | refine Ext.alloc ?_ _ | refine Ext.drew ?_ | refine Ext.drewN ?_ _ | (refine Ext.setCell' ?_ ?_ _; solve | omega | simp | (simp; omega)) | refine Ext.trans ?_ (by assumption)))), by (with_reducible repeat (first | exact Ext.refl _ | assumption | (apply Src.ext; assumption) | refine Ext.alloc ?_ _ | refine Ext.drew ?_ | refine Ext.drewN ?_ _ | (refine Ext.setCell' ?_ ?_ _; solve | omega | simp | (simp; omega)) | refine Ext.trans ?_ (by assumption)))⟩
            case measure => simp [intOf]; omega
          | true =>
            cases he : (sa.toList == sb.toList) with
            | true =>
              rw [he] at hmov
              have hne : (!(sa.toList == sb.toList)) = false := by rw [he]; rfl
              have HSU : Hid (cdsTo (movB L a b) (psD ps) (k + 1) = cdsTo (movB L a b) (psD ps) k) := Lib.hid (by rw [hsucc, hmov]; simp)
              clear hsucc hmov hln
              generalize ps.getD k plD = l at *
              generalize tx l.1 = s0 at *
              generalize l.2.1 = s1 at *
              generalize l.2.2.1 = s2 at *
              generalize l.2.2.2.1 = s3 at *
              generalize l.2.2.2.2.1 = s4 at *
              generalize l.2.2.2.2.2.2.length = s5 at *
              generalize l.2.2.2.2.2.1 = s6 at *
              go_wp2
              (refine wp_region_ext (by kernel_rfl) (by kernel_rfl) ?_; (repeat (go_big_quiet_step ((first | (go_at_call 27; exact Calls_ext (HH.out _ _ (by first | exact .inl ⟨rfl, rfl⟩ | exact .inr ⟨rfl, rfl⟩) _)) | (go_at_call 28; exact Calls_ext (HP.out _ _ (by first | exact .inl ⟨rfl, rfl⟩ | exact .inr ⟨rfl, rfl⟩) _ (hxr.trans (Ext.trans (by (with_reducible repeat (first | exact Ext.refl _ | assumption | (apply Src.ext; assumption) | refine Ext.alloc ?_ _ | refine Ext.drew ?_ | refine Ext.drewN ?_ _ | (refine Ext.setCell' ?_ ?_ _; solve | omega | simp | (simp; omega)) | refine Ext.trans ?_ (by assumption)))) (ExtOf.ext _))))))))); refine wpQuiet_nil ?_; intro wq hxwq; obtain ⟨hcwq, hfwq⟩ := hxwq.rules; have hswq := hxwq.size; (try simp at hswq))
              go_wp2
              have z1 := (show w5.heap.size < wq.heap.size from by omega)
              have z2 := (show w.heap.size < wq.heap.size from by omega)
              go_wp2
              go_roundw
              case rel => exact ⟨k + 1, by omega, by go_num, Lib.hid (by rw [HSU.out]; exact HV.out.ext (by (with_reducible repeat (first | exact Ext.refl _ | assumption | (apply Src.ext; assumption) | refine Ext.alloc ?_ _ | refine Ext.drew ?_ | refine Ext.drewN ?_ _ | (refine Ext.setCell' ?_ ?_ _; solve | omega | simp | (simp; omega)) | refine Ext.trans ?_ (by assumption))))), HB.out.ext (by (with_reducible repeat (first | exact Ext.refl _ | assumption | (apply Src.ext; assumption) | refine Ext.alloc ?_ _ | refine Ext.drew ?_ | refine Ext.drewN ?_ _ | (refine Ext.setCell' ?_ ?_ _; solve | omega | simp | (simp; omega)) | refine Ext.trans ?_ (by assumption)))), by (with_reducible repeat (first | exact Ext.refl _ | assumption | (apply Src.ext; assumption) | refine Ext.alloc ?_ _ | refine Ext.drew ?_ | refine Ext.drewN ?_ _ | (refine Ext.setCell' ?_ ?_ _; solve | omega | simp | (simp; omega)) | refine Ext.trans ?_ (by assumption)))⟩
              case measure => simp [intOf]; omega
            | false =>
              rw [he] at hmov
              have hne : (!(sa.toList == sb.toList)) = true := by rw [he]; rfl
              have HSU : Hid (cdsTo (movB L a b) (psD ps) (k + 1) = cdsTo (movB L a b) (psD ps) k ++ [(ps.getD k plD).1]) := Lib.hid (by rw [hsucc, hmov]; simp; rfl)
              have HBL := Lib.hid (fun (W : World) (g : Nat) (hB : Blk W g 9 #[.string (tx (ps.getD k plD).1)]) => blk_s1c hB)
              have HLN : Hid ((cdsTo (movB L a b) (psD ps) k).length ≤ 1000) := Lib.hid (by omega)
              clear hsucc hmov hln
              generalize ps.getD k plD = l at *
              generalize tx l.1 = s0 at *
              generalize l.2.1 = s1 at *
              generalize l.2.2.1 = s2 at *
              generalize l.2.2.2.1 = s3 at *
              generalize l.2.2.2.2.1 = s4 at *
              generalize l.2.2.2.2.2.2.length = s5 at *
              generalize l.2.2.2.2.2.1 = s6 at *
              have hsr := hxr.size
              go_wp2
              (refine wp_region_ext (by kernel_rfl) (by kernel_rfl) ?_; (repeat (go_big_quiet_step ((first | (go_at_call 27; exact Calls_ext (HH.out _ _ (by first | exact .inl ⟨rfl, rfl⟩ | exact .inr ⟨rfl, rfl⟩) _)) | (go_at_call 28; exact Calls_ext (HP.out _ _ (by first | exact .inl ⟨rfl, rfl⟩ | exact .inr ⟨rfl, rfl⟩) _ (hxr.trans (Ext.trans (by (with_reducible repeat (first | exact Ext.refl _ | assumption | (apply Src.ext; assumption) | refine Ext.alloc ?_ _ | refine Ext.drew ?_ | refine Ext.drewN ?_ _ | (refine Ext.setCell' ?_ ?_ _; solve | omega | simp | (simp; omega)) | refine Ext.trans ?_ (by assumption)))) (ExtOf.ext _))))))))); refine wpQuiet_nil ?_; intro wq hxwq; obtain ⟨hcwq, hfwq⟩ := hxwq.rules; have hswq := hxwq.size; (try simp at hswq))
              have z1 := (show w5.heap.size < wq.heap.size from by omega)
              have z2 := (show w.heap.size < wq.heap.size from by omega)
              have HV1 : Hid (OwS wq (w.heap.size + 1) _ (cdsTo (movB L a b) (psD ps) k)) := Lib.hid (HV.out.ext (by (with_reducible repeat (first | exact Ext.refl _ | assumption | (apply Src.ext; assumption) | refine Ext.alloc ?_ _ | refine Ext.drew ?_ | refine Ext.drewN ?_ _ | (refine Ext.setCell' ?_ ?_ _; solve | omega | simp | (simp; omega)) | refine Ext.trans ?_ (by assumption)))))
              go_wp2_with (at_builtin; refine wpList_append_sl elS len_encS one_encS rfl _ _ rfl rfl (HV1.out.ext (by (with_reducible repeat (first | exact Ext.refl _ | assumption | (apply Src.ext; assumption) | refine Ext.alloc ?_ _ | refine Ext.drew ?_ | refine Ext.drewN ?_ _ | (refine Ext.setCell' ?_ ?_ _; solve | omega | simp | (simp; omega)) | refine Ext.trans ?_ (by assumption))))) (xs := [l.1]) rfl (HBL.out _ _ (by (with_reducible repeat (first | assumption | (apply Blk.new; solve | simp | with_unfolding_all rfl) | apply Blk.drew | apply Blk.drewN | (apply Blk.far'; solve | omega | simp | (simp; omega)) | apply Blk.set_ | apply Blk.alloc | (apply Blk.ext'; assumption) | (apply Blk.but'; assumption; solve | omega | (simp; omega)))))) (by have := HLN.out; simp; unfold maxLen; omega) (by have := HLN.out; simp; omega) (by first | omega | (simp; omega)) ?_)
              intro v' w6 hown hgrow _
              have HV2 := Lib.hid hown
              have hx6 : Ext w w6 := by
                refine Ext.grown ?_ hgrow (fun q hq => Nat.le_of_succ_le (HV.out.row q hq).1)
                (with_reducible repeat (first | exact Ext.refl _ | assumption | (apply Src.ext; assumption) | refine Ext.alloc ?_ _ | refine Ext.drew ?_ | refine Ext.drewN ?_ _ | (refine Ext.setCell' ?_ ?_ _; solve | omega | simp | (simp; omega)) | refine Ext.trans ?_ (by assumption)))
              have HB6 := Lib.hid (blk_keptE hgrow (HB.out.ext (by (with_reducible repeat (first | exact Ext.refl _ | assumption | (apply Src.ext; assumption) | refine Ext.alloc ?_ _ | refine Ext.drew ?_ | refine Ext.drewN ?_ _ | (refine Ext.setCell' ?_ ?_ _; solve | omega | simp | (simp; omega)) | refine Ext.trans ?_ (by assumption))))) (fun e => by have := (HV.out.row _ e.symm).1; omega))
              clear hown hgrow
              go_wp2
              go_roundw
              case rel => exact ⟨k + 1, by omega, by go_num, Lib.hid (by rw [HSU.out]; exact HV2.out), HB6.out, hx6⟩
              case measure => simp [intOf]; omega
      · obtain rfl : k = n := by omega
        have HO : Hid (OwS w5 (w.heap.size + 1) _ (movR (psD ps) L a b)) := Lib.hid (by rw [← HFIN.out]; exact HV.out)
        go_wp2
        go_ret2
        exact ⟨_, rfl, (HO.out.ext (by (with_reducible repeat (first | exact Ext.refl _ | assumption | (apply Src.ext; assumption) | refine Ext.alloc ?_ _ | refine Ext.drew ?_ | refine Ext.drewN ?_ _ | (refine Ext.setCell' ?_ ?_ _; solve | omega | simp | (simp; omega)) | refine Ext.trans ?_ (by assumption))))).less (Nat.le_succ _), by (with_reducible repeat (first | exact Ext.refl _ | assumption | (apply Src.ext; assumption) | refine Ext.alloc ?_ _ | refine Ext.drew ?_ | refine Ext.drewN ?_ _ | (refine Ext.setCell' ?_ ?_ _; solve | omega | simp | (simp; omega)) | refine Ext.trans ?_ (by assumption)))⟩
  · have hR : movR (psD ps) L a b = [] := by unfold movR; rw [if_neg hz]
    rw [hR]
    generalize wyC (psD ps) L true [a, b] = cd at *
    have hcd : (cd != 0) = true := by simpa using hz
    clear h hR
    go_enter Tryz.func7, Tryz.ntmps7
    go_wp2_with fail
    refine (HC.out _ (by (with_reducible repeat (first | exact Ext.refl _ | assumption | (apply Src.ext; assumption) | refine Ext.alloc ?_ _ | refine Ext.drew ?_ | refine Ext.drewN ?_ _ | (refine Ext.setCell' ?_ ?_ _; solve | omega | simp | (simp; omega)) | refine Ext.trans ?_ (by assumption))))).mono ?_
    rintro e w1 ⟨rfl, hx1⟩
    go_wp2
    go_ret2
    exact ⟨_, rfl, Own.nil _ _, by (with_reducible repeat (first | exact Ext.refl _ | assumption | (apply Src.ext; assumption) | refine Ext.alloc ?_ _ | refine Ext.drew ?_ | refine Ext.drewN ?_ _ | (refine Ext.setCell' ?_ ?_ _; solve | omega | simp | (simp; omega)) | refine Ext.trans ?_ (by assumption)))⟩
end
end Go.Proofs.YtbnkiibjhfcffaaGreatDoor
