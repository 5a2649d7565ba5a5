/- What appears, moves and lies inside between years, as the program and the specification tell it. -/
import Derived.Test.YtapfokfbdmcokaaGreatDoorYJ
import Derived.Deep.RegionHeld3
import Derived.Deep.DeepCutAuto
import Derived.RegionTactic
import Derived.BigRegion
import Derived.WalkLawsBesides
import Derived.WalkSpells
import Derived.Lib.MinMax
import Derived.Outline
namespace Go.Proofs.YtapfokfbdmcokaaGreatDoor
open Go.RowKit
attribute [local go_sem] ExtOf.cell ExtOf.frozen

set_option maxHeartbeats 3200000 in
theorem i_AppearedBetween1 (p : Pl) (a b : Int) (b4 b5 : Nat) (w : World) (h4 : w.cell? ⟨b4, 0, none⟩ = some (.int .i64 a)) (h5 : w.cell? ⟨b5, 0, none⟩ = some (.int .i64 b)) :
    Calls Tryz.prog 56 #[plV p, .pointer (some ⟨b5, 0, none⟩), .pointer (some ⟨b4, 0, none⟩)] w fun e w' => e = .returned (.bool (appB a b (pdOf p))) ∧ Ext w w' := by
  have e4 : b4 < w.heap.size := World.block_lt_of_cell? _ _ h4
  have e5 : b5 < w.heap.size := World.block_lt_of_cell? _ _ h5
  have hpv : plV p = .agg #[.string (tx p.1), .int .i64 p.2.1, .int .i64 p.2.2.1, .int .i64 p.2.2.2.1, .slice p.2.2.2.2.1 p.2.2.2.2.2.2.length p.2.2.2.2.2.1] := rfl
  have H1 := Lib.hid (fun W => i_has p.2.2.1 p.2.2.2.1 b W)
  have H2 := Lib.hid (fun W => i_has p.2.2.1 p.2.2.2.1 a W)
  have hq : appB a b (pdOf p) = (inB b p.2.2.1 p.2.2.2.1 && !inB a p.2.2.1 p.2.2.2.1) := rfl
  rw [hq, hpv]
  generalize inB b p.2.2.1 p.2.2.2.1 = q1 at *
  generalize inB a p.2.2.1 p.2.2.2.1 = q2 at *
  generalize tx p.1 = s0 at *
  clear hq hpv
  cases q1 with
  | false =>
    go_enter Tryz.func56, Tryz.ntmps56
    (go_wp2_with fail; refine (H1.out _).mono ?_; rintro e w1 ⟨rfl, hx1⟩; obtain ⟨hc1, hf1⟩ := hx1.rules; have hs1 := hx1.size; (try simp at hs1))
    go_wp2
    go_ret
    exact ⟨rfl, by (repeat (first | with_reducible exact Ext.refl _ | with_reducible assumption | ((with_reducible apply Src.ext); with_reducible assumption) | with_reducible refine Ext.alloc ?_ _ | with_reducible refine Ext.drew ?_ | with_reducible refine Ext.drewN ?_ _ | ((with_reducible refine Ext.setCell' ?_ ?_ _); solve | omega | simp | (simp; omega)) | (with_reducible refine Ext.trans ?_ (by with_reducible assumption))))⟩
  | true =>
    go_enter Tryz.func56, Tryz.ntmps56
    (go_wp2_with fail; refine (H1.out _).mono ?_; rintro e w1 ⟨rfl, hx1⟩; obtain ⟨hc1, hf1⟩ := hx1.rules; have hs1 := hx1.size; (try simp at hs1); have := (show b4 < w1.heap.size from by omega); have := (show w.heap.size < w1.heap.size from by omega))
    (go_wp2_with fail; refine (H2.out _).mono ?_; rintro e w2 ⟨rfl, hx2⟩; obtain ⟨hc2, hf2⟩ := hx2.rules; have hs2 := hx2.size; (try simp at hs2))
    go_wp2
    go_ret
    exact ⟨rfl, by (repeat (first | with_reducible exact Ext.refl _ | with_reducible assumption | ((with_reducible apply Src.ext); with_reducible assumption) | with_reducible refine Ext.alloc ?_ _ | with_reducible refine Ext.drew ?_ | with_reducible refine Ext.drewN ?_ _ | ((with_reducible refine Ext.setCell' ?_ ?_ _); solve | omega | simp | (simp; omega)) | (with_reducible refine Ext.trans ?_ (by with_reducible assumption))))⟩
theorem en_AppearedBetween1 (args : Array Value) (w : World) : (callFunc 56 args).run Tryz.prog w = .ok (.enter 56 args) w := enters_isSome Tryz.func56 (by kernel_rfl) (by kernel_rfl) args w
section
variable {w : World} {A A' : Option Addr} {n c m c' : Nat} {ps : List Pl} {L : List Lk}
set_option maxRecDepth 20000 in
set_option maxHeartbeats 6400000 in
theorem i_AppearedBetweenW (a b : Int) (h : WIn w A A' n c m c' ps L) (hm : Mx w) :
    Calls Tryz.prog 15 #[.agg #[.slice A n c, .slice A' m c'], .int .i64 a, .int .i64 b] w fun e w' => ∃ v, e = .returned (.tuple #[v, .int .i64 (wyC (psD ps) L true [a, b])]) ∧ OwS w' w.heap.size v (appR (psD ps) L a b) ∧ Ext w w' := by
  have HC : Hid (∀ W g, Ext w W → Blk W g 2 #[.int .i64 a, .int .i64 b] → Calls Tryz.prog 54 #[.agg #[.slice A n c, .slice A' m c'], .bool true, .slice (some ⟨g, 0, none⟩) 2 2] W fun e w' => e = .returned (.int .i64 (wyC (psD ps) L true [a, b])) ∧ Ext W w') := Lib.hid (fun W g hW hB => i_worldCode true [a, b] _ 2 2 (h.ext hW) (hm.ext hW) (blk_i2 hB) rfl (by omega))
  by_cases hz : wyC (psD ps) L true [a, b] = 0
  · have h10 := wdB_len (wyC_zero hz).1
    rw [psD_len] at h10
    have hE : appR (psD ps) L a b = cdsP (appB a b) (psD ps) := by unfold appR; rw [if_pos hz]
    have HI : Hid (∀ W b4 b5, Ext w W → Blk W b4 2 #[.int .i64 a] → Blk W b5 2 #[.int .i64 b] → Calls Tryz.prog 55 #[.slice A n c, .func (.func 56) #[] #[.pointer (some ⟨b5, 0, none⟩), .pointer (some ⟨b4, 0, none⟩)]] W fun e w' => ∃ v, e = .returned v ∧ OwS w' W.heap.size v (appR (psD ps) L a b) ∧ Ext W w') := Lib.hid (fun W b4 b5 hW h4 h5 => by
      rw [hE]
      exact i_codesOf (appB a b) _ _ en_AppearedBetween1 A n c ps W (h.sq.ext hW) h.hn (by rw [h.hn]; omega) (fun p _ W' hW' => i_AppearedBetween1 p a b b4 b5 W' ((h4.ext hW').cell 0) ((h5.ext hW').cell 0)))
    rw [hz] at HC ⊢
    generalize appR (psD ps) L a b = res at *
    clear hE hz h hm h10
    go_enter Tryz.func15, Tryz.ntmps15
    go_wp2_with fail
    refine (HC.out _ _ (by (repeat (first | with_reducible exact Ext.refl _ | with_reducible assumption | ((with_reducible apply Src.ext); with_reducible assumption) | with_reducible refine Ext.alloc ?_ _ | with_reducible refine Ext.drew ?_ | with_reducible refine Ext.drewN ?_ _ | ((with_reducible refine Ext.setCell' ?_ ?_ _); solve | omega | simp | (simp; omega)) | (with_reducible refine Ext.trans ?_ (by with_reducible assumption))))) (by (repeat (first | with_reducible assumption | ((with_reducible apply Blk.new); solve | simp | rfl) | with_reducible apply Blk.drew | with_reducible apply Blk.drewN | ((with_reducible apply Blk.far'); solve | omega | simp | (simp; omega)) | with_reducible apply Blk.set_ | with_reducible apply Blk.alloc | ((with_reducible apply Blk.ext'); with_reducible assumption) | ((with_reducible apply Blk.but'); (with_reducible assumption); solve | omega | (simp; omega)))))).mono ?_
    rintro e w1 ⟨rfl, hx1⟩
    obtain ⟨hc1, hf1⟩ := hx1.rules
    have hs1 := hx1.size
    (try simp at hs1)
    have := (show w.heap.size < w1.heap.size from by omega)
    have := (show w.heap.size + 1 < w1.heap.size from by omega)
    have := (show w.heap.size + 1 + 1 < w1.heap.size from by omega)
    have B4 : Blk w1 (w.heap.size + 1) 2 #[.int .i64 a] := Blk.eq (by (repeat (first | with_reducible assumption | ((with_reducible apply Blk.new); solve | simp | rfl) | with_reducible apply Blk.drew | with_reducible apply Blk.drewN | ((with_reducible apply Blk.far'); solve | omega | simp | (simp; omega)) | with_reducible apply Blk.set_ | with_reducible apply Blk.alloc | ((with_reducible apply Blk.ext'); with_reducible assumption) | ((with_reducible apply Blk.but'); (with_reducible assumption); solve | omega | (simp; omega))))) (by rfl)
    have B5 : Blk w1 (w.heap.size + 1 + 1) 2 #[.int .i64 b] := Blk.eq (by (repeat (first | with_reducible assumption | ((with_reducible apply Blk.new); solve | simp | rfl) | with_reducible apply Blk.drew | with_reducible apply Blk.drewN | ((with_reducible apply Blk.far'); solve | omega | simp | (simp; omega)) | with_reducible apply Blk.set_ | with_reducible apply Blk.alloc | ((with_reducible apply Blk.ext'); with_reducible assumption) | ((with_reducible apply Blk.but'); (with_reducible assumption); solve | omega | (simp; omega))))) (by rfl)
    have HB := Lib.hid (And.intro B4 B5)
    clear B4 B5
    go_wp2_with fail
    refine (HI.out _ _ _ (by (repeat (first | with_reducible exact Ext.refl _ | with_reducible assumption | ((with_reducible apply Src.ext); with_reducible assumption) | with_reducible refine Ext.alloc ?_ _ | with_reducible refine Ext.drew ?_ | with_reducible refine Ext.drewN ?_ _ | ((with_reducible refine Ext.setCell' ?_ ?_ _); solve | omega | simp | (simp; omega)) | (with_reducible refine Ext.trans ?_ (by with_reducible assumption))))) (HB.out.1.ext (by (repeat (first | with_reducible exact Ext.refl _ | with_reducible assumption | ((with_reducible apply Src.ext); with_reducible assumption) | with_reducible refine Ext.alloc ?_ _ | with_reducible refine Ext.drew ?_ | with_reducible refine Ext.drewN ?_ _ | ((with_reducible refine Ext.setCell' ?_ ?_ _); solve | omega | simp | (simp; omega)) | (with_reducible refine Ext.trans ?_ (by with_reducible assumption)))))) (HB.out.2.ext (by (repeat (first | with_reducible exact Ext.refl _ | with_reducible assumption | ((with_reducible apply Src.ext); with_reducible assumption) | with_reducible refine Ext.alloc ?_ _ | with_reducible refine Ext.drew ?_ | with_reducible refine Ext.drewN ?_ _ | ((with_reducible refine Ext.setCell' ?_ ?_ _); solve | omega | simp | (simp; omega)) | (with_reducible refine Ext.trans ?_ (by with_reducible assumption))))))).mono ?_
    rintro e w2 ⟨v, rfl, hO, hx2⟩
    have HO := Lib.hid hO
    have hs0 : w.heap.size ≤ w1.heap.size := by omega
    clear hO
    go_wp2
    go_ret2
    exact ⟨_, rfl, HO.out.less (by first | exact hs0 | (simp; omega)), by (repeat (first | with_reducible exact Ext.refl _ | with_reducible assumption | ((with_reducible apply Src.ext); with_reducible assumption) | with_reducible refine Ext.alloc ?_ _ | with_reducible refine Ext.drew ?_ | with_reducible refine Ext.drewN ?_ _ | ((with_reducible refine Ext.setCell' ?_ ?_ _); solve | omega | simp | (simp; omega)) | (with_reducible refine Ext.trans ?_ (by with_reducible assumption))))⟩
  · have hR : appR (psD ps) L a b = [] := by unfold appR; rw [if_neg hz]
    rw [hR]
    generalize wyC (psD ps) L true [a, b] = cd at *
    have hcd : (cd != 0) = true := by simpa using hz
    clear h hm hR
    go_enter Tryz.func15, Tryz.ntmps15
    go_wp2_with fail
    refine (HC.out _ _ (by (repeat (first | with_reducible exact Ext.refl _ | with_reducible assumption | ((with_reducible apply Src.ext); with_reducible assumption) | with_reducible refine Ext.alloc ?_ _ | with_reducible refine Ext.drew ?_ | with_reducible refine Ext.drewN ?_ _ | ((with_reducible refine Ext.setCell' ?_ ?_ _); solve | omega | simp | (simp; omega)) | (with_reducible refine Ext.trans ?_ (by with_reducible assumption))))) (by (repeat (first | with_reducible assumption | ((with_reducible apply Blk.new); solve | simp | rfl) | with_reducible apply Blk.drew | with_reducible apply Blk.drewN | ((with_reducible apply Blk.far'); solve | omega | simp | (simp; omega)) | with_reducible apply Blk.set_ | with_reducible apply Blk.alloc | ((with_reducible apply Blk.ext'); with_reducible assumption) | ((with_reducible apply Blk.but'); (with_reducible assumption); solve | omega | (simp; omega)))))).mono ?_
    rintro e w1 ⟨rfl, hx1⟩
    go_wp2
    go_ret2
    exact ⟨_, rfl, Own.nil _ _, by (repeat (first | with_reducible exact Ext.refl _ | with_reducible assumption | ((with_reducible apply Src.ext); with_reducible assumption) | with_reducible refine Ext.alloc ?_ _ | with_reducible refine Ext.drew ?_ | with_reducible refine Ext.drewN ?_ _ | ((with_reducible refine Ext.setCell' ?_ ?_ _); solve | omega | simp | (simp; omega)) | (with_reducible refine Ext.trans ?_ (by with_reducible assumption))))⟩
end
set_option maxRecDepth 20000 in
set_option maxHeartbeats 6400000 in
theorem i_MovedBetween1 (A A' : Option Addr) (n c m c' : Nat) (L : List Lk) (p : Pl) (a b : Int) (b3 b4 b5 : Nat) (w : World) (h : SlAt w 4 encK A' L) (hn : m = L.length) (hl : m ≤ 1048576) (h3 : Blk w b3 33 #[.slice A n c, .slice A' m c']) (h4 : w.cell? ⟨b4, 0, none⟩ = some (.int .i64 a)) (h5 : w.cell? ⟨b5, 0, none⟩ = some (.int .i64 b)) :
    Calls Tryz.prog 62 #[plV p, .pointer (some ⟨b4, 0, none⟩), .pointer (some ⟨b5, 0, none⟩), .pointer (some ⟨b3, 0, none⟩)] w fun e w' => e = .returned (.bool (movB L a b (pdOf p))) ∧ Ext w w' := by
  have e4 : b4 < w.heap.size := World.block_lt_of_cell? _ _ h4
  have e5 : b5 < w.heap.size := World.block_lt_of_cell? _ _ h5
  have e3 : b3 < w.heap.size := h3.lt
  have g0 : w.cell? ⟨b3, 0, none⟩ = some (.slice A n c) := h3.cell 0
  have g1 : w.cell? ⟨b3, 1, none⟩ = some (.slice A' m c') := h3.cell 1
  have hpv : plV p = .agg #[.string (tx p.1), .int .i64 p.2.1, .int .i64 p.2.2.1, .int .i64 p.2.2.2.1, .slice p.2.2.2.2.1 p.2.2.2.2.2.2.length p.2.2.2.2.2.1] := rfl
  obtain ⟨q1, hq1⟩ : ∃ q, inB a p.2.2.1 p.2.2.2.1 = q := ⟨_, rfl⟩
  obtain ⟨q2, hq2⟩ : ∃ q, inB b p.2.2.1 p.2.2.2.1 = q := ⟨_, rfl⟩
  have HH : Hid (∀ z q, (z = a ∧ q = q1) ∨ (z = b ∧ q = q2) → ∀ W, Calls Tryz.prog 57 #[.agg #[.int .i64 p.2.2.1, .int .i64 p.2.2.2.1], .int .i64 z] W fun e w' => e = .returned (.bool q) ∧ Ext W w') := Lib.hid (fun z q hz W => by
    rcases hz with ⟨rfl, rfl⟩ | ⟨rfl, rfl⟩
    · rw [← hq1]; exact i_has _ _ _ W
    · rw [← hq2]; exact i_has _ _ _ W)
  obtain ⟨pa, hpa⟩ : ∃ pa, parT L p.1 a = pa := ⟨_, rfl⟩
  obtain ⟨pb, hpb⟩ : ∃ pb, parT L p.1 b = pb := ⟨_, rfl⟩
  have HP : Hid (∀ z (s : ByteArray), (z = a ∧ s = tx pa) ∨ (z = b ∧ s = tx pb) → ∀ W, Ext w W → Calls Tryz.prog 63 #[.agg #[.slice A n c, .slice A' m c'], .string (tx p.1), .int .i64 z] W fun e w' => e = .returned (.string s) ∧ Ext W w') := Lib.hid (fun z s hz W hW => by
    rcases hz with ⟨rfl, rfl⟩ | ⟨rfl, rfl⟩
    · rw [← hpa]; exact i_parentOf p.1 _ (h.ext hW) hn hl
    · rw [← hpb]; exact i_parentOf p.1 _ (h.ext hW) hn hl)
  have hq : movB L a b (pdOf p) = (q1 && (q2 && !((tx pa).toList == (tx pb).toList))) := by
    rw [tx_toL, tx_toL, ← hpa, ← hpb, ← hq1, ← hq2]; rfl
  rw [hq, hpv]
  generalize tx pa = sa at *
  generalize tx pb = sb at *
  generalize tx p.1 = s0 at *
  clear hq hpv h hn h3 hpa hpb hq1 hq2
  cases q1 with
  | false =>
    go_enter Tryz.func62, Tryz.ntmps62
    go_wp2
    (refine wp_region_ext (by kernel_rfl) (by kernel_rfl) ?_; (repeat (go_big_quiet_step ((first | (go_at_call 57; exact Calls_ext (HH.out _ _ (by first | exact .inl ⟨rfl, rfl⟩ | exact .inr ⟨rfl, rfl⟩) _)) | (go_at_call 63; exact Calls_ext (HP.out _ _ (by first | exact .inl ⟨rfl, rfl⟩ | exact .inr ⟨rfl, rfl⟩) _ (Ext.trans (by (repeat (first | with_reducible exact Ext.refl _ | with_reducible assumption | ((with_reducible apply Src.ext); with_reducible assumption) | with_reducible refine Ext.alloc ?_ _ | with_reducible refine Ext.drew ?_ | with_reducible refine Ext.drewN ?_ _ | ((with_reducible refine Ext.setCell' ?_ ?_ _); solve | omega | simp | (simp; omega)) | (with_reducible refine Ext.trans ?_ (by with_reducible assumption))))) (ExtOf.ext _)))))))); refine wpQuiet_nil ?_; intro wq hxwq; obtain ⟨hcwq, hfwq⟩ := hxwq.rules; have hswq := hxwq.size; (try simp at hswq))
    go_wp2
    go_ret
    exact ⟨rfl, by (repeat (first | with_reducible exact Ext.refl _ | with_reducible assumption | ((with_reducible apply Src.ext); with_reducible assumption) | with_reducible refine Ext.alloc ?_ _ | with_reducible refine Ext.drew ?_ | with_reducible refine Ext.drewN ?_ _ | ((with_reducible refine Ext.setCell' ?_ ?_ _); solve | omega | simp | (simp; omega)) | (with_reducible refine Ext.trans ?_ (by with_reducible assumption))))⟩
  | true =>
    cases q2 with
    | false =>
      go_enter Tryz.func62, Tryz.ntmps62
      go_wp2
      (refine wp_region_ext (by kernel_rfl) (by kernel_rfl) ?_; (repeat (go_big_quiet_step ((first | (go_at_call 57; exact Calls_ext (HH.out _ _ (by first | exact .inl ⟨rfl, rfl⟩ | exact .inr ⟨rfl, rfl⟩) _)) | (go_at_call 63; exact Calls_ext (HP.out _ _ (by first | exact .inl ⟨rfl, rfl⟩ | exact .inr ⟨rfl, rfl⟩) _ (Ext.trans (by (repeat (first | with_reducible exact Ext.refl _ | with_reducible assumption | ((with_reducible apply Src.ext); with_reducible assumption) | with_reducible refine Ext.alloc ?_ _ | with_reducible refine Ext.drew ?_ | with_reducible refine Ext.drewN ?_ _ | ((with_reducible refine Ext.setCell' ?_ ?_ _); solve | omega | simp | (simp; omega)) | (with_reducible refine Ext.trans ?_ (by with_reducible assumption))))) (ExtOf.ext _)))))))); refine wpQuiet_nil ?_; intro wq hxwq; obtain ⟨hcwq, hfwq⟩ := hxwq.rules; have hswq := hxwq.size; (try simp at hswq))
      go_wp2
      go_ret
      exact ⟨rfl, by (repeat (first | with_reducible exact Ext.refl _ | with_reducible assumption | ((with_reducible apply Src.ext); with_reducible assumption) | with_reducible refine Ext.alloc ?_ _ | with_reducible refine Ext.drew ?_ | with_reducible refine Ext.drewN ?_ _ | ((with_reducible refine Ext.setCell' ?_ ?_ _); solve | omega | simp | (simp; omega)) | (with_reducible refine Ext.trans ?_ (by with_reducible assumption))))⟩
    | true =>
      go_enter Tryz.func62, Tryz.ntmps62
      go_wp2
      (refine wp_region_ext (by kernel_rfl) (by kernel_rfl) ?_; (repeat (go_big_quiet_step ((first | (go_at_call 57; exact Calls_ext (HH.out _ _ (by first | exact .inl ⟨rfl, rfl⟩ | exact .inr ⟨rfl, rfl⟩) _)) | (go_at_call 63; exact Calls_ext (HP.out _ _ (by first | exact .inl ⟨rfl, rfl⟩ | exact .inr ⟨rfl, rfl⟩) _ (Ext.trans (by (repeat (first | with_reducible exact Ext.refl _ | with_reducible assumption | ((with_reducible apply Src.ext); with_reducible assumption) | with_reducible refine Ext.alloc ?_ _ | with_reducible refine Ext.drew ?_ | with_reducible refine Ext.drewN ?_ _ | ((with_reducible refine Ext.setCell' ?_ ?_ _); solve | omega | simp | (simp; omega)) | (with_reducible refine Ext.trans ?_ (by with_reducible assumption))))) (ExtOf.ext _)))))))); refine wpQuiet_nil ?_; intro wq hxwq; obtain ⟨hcwq, hfwq⟩ := hxwq.rules; have hswq := hxwq.size; (try simp at hswq))
      go_wp2
      go_ret
      exact ⟨rfl, by (repeat (first | with_reducible exact Ext.refl _ | with_reducible assumption | ((with_reducible apply Src.ext); with_reducible assumption) | with_reducible refine Ext.alloc ?_ _ | with_reducible refine Ext.drew ?_ | with_reducible refine Ext.drewN ?_ _ | ((with_reducible refine Ext.setCell' ?_ ?_ _); solve | omega | simp | (simp; omega)) | (with_reducible refine Ext.trans ?_ (by with_reducible assumption))))⟩
theorem en_MovedBetween1 (args : Array Value) (w : World) : (callFunc 62 args).run Tryz.prog w = .ok (.enter 62 args) w := enters_isSome Tryz.func62 (by kernel_rfl) (by kernel_rfl) args w
section
variable {w : World} {A A' : Option Addr} {n c m c' : Nat} {ps : List Pl} {L : List Lk}
set_option maxRecDepth 20000 in
set_option maxHeartbeats 6400000 in
theorem i_MovedBetweenW (a b : Int) (h : WIn w A A' n c m c' ps L) (hm : Mx w) :
    Calls Tryz.prog 22 #[.agg #[.slice A n c, .slice A' m c'], .int .i64 a, .int .i64 b] w fun e w' => ∃ v, e = .returned (.tuple #[v, .int .i64 (wyC (psD ps) L true [a, b])]) ∧ OwS w' w.heap.size v (movR (psD ps) L a b) ∧ Ext w w' := by
  have HC : Hid (∀ W g, Ext w W → Blk W g 2 #[.int .i64 a, .int .i64 b] → Calls Tryz.prog 54 #[.agg #[.slice A n c, .slice A' m c'], .bool true, .slice (some ⟨g, 0, none⟩) 2 2] W fun e w' => e = .returned (.int .i64 (wyC (psD ps) L true [a, b])) ∧ Ext W w') := Lib.hid (fun W g hW hB => i_worldCode true [a, b] _ 2 2 (h.ext hW) (hm.ext hW) (blk_i2 hB) rfl (by omega))
  by_cases hz : wyC (psD ps) L true [a, b] = 0
  · have h10 := wdB_len (wyC_zero hz).1
    rw [psD_len] at h10
    have hE : movR (psD ps) L a b = cdsP (movB L a b) (psD ps) := by unfold movR; rw [if_pos hz]
    have HI : Hid (∀ W b3 b4 b5, Ext w W → Blk W b3 33 #[.slice A n c, .slice A' m c'] → Blk W b4 2 #[.int .i64 a] → Blk W b5 2 #[.int .i64 b] → Calls Tryz.prog 55 #[.slice A n c, .func (.func 62) #[] #[.pointer (some ⟨b4, 0, none⟩), .pointer (some ⟨b5, 0, none⟩), .pointer (some ⟨b3, 0, none⟩)]] W fun e w' => ∃ v, e = .returned v ∧ OwS w' W.heap.size v (movR (psD ps) L a b) ∧ Ext W w') := Lib.hid (fun W b3 b4 b5 hW h3 h4 h5 => by
      rw [hE]
      exact i_codesOf (movB L a b) _ _ en_MovedBetween1 A n c ps W (h.sq.ext hW) h.hn (by rw [h.hn]; omega) (fun p _ W' hW' => i_MovedBetween1 A A' n c m c' L p a b b3 b4 b5 W' ((h.sk.ext hW).ext hW') h.hm (by rw [h.hm]; exact h.hl') (h3.ext hW') ((h4.ext hW').cell 0) ((h5.ext hW').cell 0)))
    rw [hz] at HC ⊢
    generalize movR (psD ps) L a b = res at *
    clear hE hz h hm h10
    go_enter Tryz.func22, Tryz.ntmps22
    go_wp2_with fail
    refine (HC.out _ _ (by (repeat (first | with_reducible exact Ext.refl _ | with_reducible assumption | ((with_reducible apply Src.ext); with_reducible assumption) | with_reducible refine Ext.alloc ?_ _ | with_reducible refine Ext.drew ?_ | with_reducible refine Ext.drewN ?_ _ | ((with_reducible refine Ext.setCell' ?_ ?_ _); solve | omega | simp | (simp; omega)) | (with_reducible refine Ext.trans ?_ (by with_reducible assumption))))) (by (repeat (first | with_reducible assumption | ((with_reducible apply Blk.new); solve | simp | rfl) | with_reducible apply Blk.drew | with_reducible apply Blk.drewN | ((with_reducible apply Blk.far'); solve | omega | simp | (simp; omega)) | with_reducible apply Blk.set_ | with_reducible apply Blk.alloc | ((with_reducible apply Blk.ext'); with_reducible assumption) | ((with_reducible apply Blk.but'); (with_reducible assumption); solve | omega | (simp; omega)))))).mono ?_
    rintro e w1 ⟨rfl, hx1⟩
    obtain ⟨hc1, hf1⟩ := hx1.rules
    have hs1 := hx1.size
    (try simp at hs1)
    have := (show w.heap.size < w1.heap.size from by omega)
    have := (show w.heap.size + 1 < w1.heap.size from by omega)
    have := (show w.heap.size + 1 + 1 < w1.heap.size from by omega)
    have B3 : Blk w1 w.heap.size 33 #[.slice A n c, .slice A' m c'] := Blk.eq (by (repeat (first | with_reducible assumption | ((with_reducible apply Blk.new); solve | simp | rfl) | with_reducible apply Blk.drew | with_reducible apply Blk.drewN | ((with_reducible apply Blk.far'); solve | omega | simp | (simp; omega)) | with_reducible apply Blk.set_ | with_reducible apply Blk.alloc | ((with_reducible apply Blk.ext'); with_reducible assumption) | ((with_reducible apply Blk.but'); (with_reducible assumption); solve | omega | (simp; omega))))) (by rfl)
    have B4 : Blk w1 (w.heap.size + 1) 2 #[.int .i64 a] := Blk.eq (by (repeat (first | with_reducible assumption | ((with_reducible apply Blk.new); solve | simp | rfl) | with_reducible apply Blk.drew | with_reducible apply Blk.drewN | ((with_reducible apply Blk.far'); solve | omega | simp | (simp; omega)) | with_reducible apply Blk.set_ | with_reducible apply Blk.alloc | ((with_reducible apply Blk.ext'); with_reducible assumption) | ((with_reducible apply Blk.but'); (with_reducible assumption); solve | omega | (simp; omega))))) (by rfl)
    have B5 : Blk w1 (w.heap.size + 1 + 1) 2 #[.int .i64 b] := Blk.eq (by (repeat (first | with_reducible assumption | ((with_reducible apply Blk.new); solve | simp | rfl) | with_reducible apply Blk.drew | with_reducible apply Blk.drewN | ((with_reducible apply Blk.far'); solve | omega | simp | (simp; omega)) | with_reducible apply Blk.set_ | with_reducible apply Blk.alloc | ((with_reducible apply Blk.ext'); with_reducible assumption) | ((with_reducible apply Blk.but'); (with_reducible assumption); solve | omega | (simp; omega))))) (by rfl)
    have HB := Lib.hid (And.intro B3 (And.intro B4 B5))
    clear B3 B4 B5
    go_wp2_with fail
    refine (HI.out _ _ _ _ (by (repeat (first | with_reducible exact Ext.refl _ | with_reducible assumption | ((with_reducible apply Src.ext); with_reducible assumption) | with_reducible refine Ext.alloc ?_ _ | with_reducible refine Ext.drew ?_ | with_reducible refine Ext.drewN ?_ _ | ((with_reducible refine Ext.setCell' ?_ ?_ _); solve | omega | simp | (simp; omega)) | (with_reducible refine Ext.trans ?_ (by with_reducible assumption))))) (HB.out.1.ext (by (repeat (first | with_reducible exact Ext.refl _ | with_reducible assumption | ((with_reducible apply Src.ext); with_reducible assumption) | with_reducible refine Ext.alloc ?_ _ | with_reducible refine Ext.drew ?_ | with_reducible refine Ext.drewN ?_ _ | ((with_reducible refine Ext.setCell' ?_ ?_ _); solve | omega | simp | (simp; omega)) | (with_reducible refine Ext.trans ?_ (by with_reducible assumption)))))) (HB.out.2.1.ext (by (repeat (first | with_reducible exact Ext.refl _ | with_reducible assumption | ((with_reducible apply Src.ext); with_reducible assumption) | with_reducible refine Ext.alloc ?_ _ | with_reducible refine Ext.drew ?_ | with_reducible refine Ext.drewN ?_ _ | ((with_reducible refine Ext.setCell' ?_ ?_ _); solve | omega | simp | (simp; omega)) | (with_reducible refine Ext.trans ?_ (by with_reducible assumption)))))) (HB.out.2.2.ext (by (repeat (first | with_reducible exact Ext.refl _ | with_reducible assumption | ((with_reducible apply Src.ext); with_reducible assumption) | with_reducible refine Ext.alloc ?_ _ | with_reducible refine Ext.drew ?_ | with_reducible refine Ext.drewN ?_ _ | ((with_reducible refine Ext.setCell' ?_ ?_ _); solve | omega | simp | (simp; omega)) | (with_reducible refine Ext.trans ?_ (by with_reducible assumption))))))).mono ?_
    rintro e w2 ⟨v, rfl, hO, hx2⟩
    have HO := Lib.hid hO
    have hs0 : w.heap.size ≤ w1.heap.size := by omega
    clear hO
    go_wp2
    go_ret2
    exact ⟨_, rfl, HO.out.less (by first | exact hs0 | (simp; omega)), by (repeat (first | with_reducible exact Ext.refl _ | with_reducible assumption | ((with_reducible apply Src.ext); with_reducible assumption) | with_reducible refine Ext.alloc ?_ _ | with_reducible refine Ext.drew ?_ | with_reducible refine Ext.drewN ?_ _ | ((with_reducible refine Ext.setCell' ?_ ?_ _); solve | omega | simp | (simp; omega)) | (with_reducible refine Ext.trans ?_ (by with_reducible assumption))))⟩
  · have hR : movR (psD ps) L a b = [] := by unfold movR; rw [if_neg hz]
    rw [hR]
    generalize wyC (psD ps) L true [a, b] = cd at *
    have hcd : (cd != 0) = true := by simpa using hz
    clear h hm hR
    go_enter Tryz.func22, Tryz.ntmps22
    go_wp2_with fail
    refine (HC.out _ _ (by (repeat (first | with_reducible exact Ext.refl _ | with_reducible assumption | ((with_reducible apply Src.ext); with_reducible assumption) | with_reducible refine Ext.alloc ?_ _ | with_reducible refine Ext.drew ?_ | with_reducible refine Ext.drewN ?_ _ | ((with_reducible refine Ext.setCell' ?_ ?_ _); solve | omega | simp | (simp; omega)) | (with_reducible refine Ext.trans ?_ (by with_reducible assumption))))) (by (repeat (first | with_reducible assumption | ((with_reducible apply Blk.new); solve | simp | rfl) | with_reducible apply Blk.drew | with_reducible apply Blk.drewN | ((with_reducible apply Blk.far'); solve | omega | simp | (simp; omega)) | with_reducible apply Blk.set_ | with_reducible apply Blk.alloc | ((with_reducible apply Blk.ext'); with_reducible assumption) | ((with_reducible apply Blk.but'); (with_reducible assumption); solve | omega | (simp; omega)))))).mono ?_
    rintro e w1 ⟨rfl, hx1⟩
    go_wp2
    go_ret2
    exact ⟨_, rfl, Own.nil _ _, by (repeat (first | with_reducible exact Ext.refl _ | with_reducible assumption | ((with_reducible apply Src.ext); with_reducible assumption) | with_reducible refine Ext.alloc ?_ _ | with_reducible refine Ext.drew ?_ | with_reducible refine Ext.drewN ?_ _ | ((with_reducible refine Ext.setCell' ?_ ?_ _); solve | omega | simp | (simp; omega)) | (with_reducible refine Ext.trans ?_ (by with_reducible assumption))))⟩
end
end Go.Proofs.YtapfokfbdmcokaaGreatDoor
