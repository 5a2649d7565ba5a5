/- Children of a place and what lies inside it, as the program tells them. -/
import Derived.Test.YtmpgjajkaehdiaaGreatDoorZG
import Derived.Test.YtmpgjajkaehdiaaGreatDoorZF
import Derived.Deep.RegionHeld3
import Derived.Deep.DeepCutAuto
import Derived.RegionTactic
import Derived.BigRegion
import Derived.WalkLawsBesides
import Derived.WalkSpells
import Derived.Lib.MinMax
import Derived.Outline
namespace Go.Proofs.YtmpgjajkaehdiaaGreatDoor
open Go.RowKit
attribute [local go_sem] ExtOf.cell ExtOf.frozen


set_option maxHeartbeats 3200000 in
theorem i_ChildrenIn1 (A : Option Addr) (n c : Nat) (L : List Lk) (x s : List UInt8) (y : Int) (b3 b4 b5 : Nat) (w : World) (h : SlAt w 4 encK A L) (hn : n = L.length) (hl : n ≤ 1048576) (h3 : w.cell? ⟨b3, 0, none⟩ = some (.slice A n c)) (h4 : w.cell? ⟨b4, 0, none⟩ = some (.string (tx x))) (h5 : w.cell? ⟨b5, 0, none⟩ = some (.int .i64 y)) :
    Calls Tryz.prog 79 #[.string (tx s), .pointer (some ⟨b3, 0, none⟩), .pointer (some ⟨b5, 0, none⟩), .pointer (some ⟨b4, 0, none⟩)] w fun e w' => e = .returned (.bool (chiB L x y s)) ∧ Ext w w' := by
  have e3 : b3 < w.heap.size := World.block_lt_of_cell? _ _ h3
  have e4 : b4 < w.heap.size := World.block_lt_of_cell? _ _ h4
  have e5 : b5 < w.heap.size := World.block_lt_of_cell? _ _ h5
  have HP := Lib.hid (fun W hW => i_parentIn A n c L s y W hW hn hl)
  have HS := Lib.hid h
  have hq : chiB L x y s = ((tx (parT L s y)).toList == (tx x).toList) := by unfold chiB; rw [tx_toL, tx_toL]
  rw [hq]
  generalize (par L s y).isSome = q at *
  generalize tx (parT L s y) = sp at *
  generalize tx s = ss at *
  generalize tx x = sx at *
  clear hq h hn
  go_enter Tryz.func79, Tryz.ntmps79
  (go_wp2_with fail; refine (HP.out _ (HS.out.ext (by (repeat (first | with_reducible exact Ext.refl _ | with_reducible assumption | ((with_reducible apply Src.ext); with_reducible assumption) | with_reducible refine Ext.alloc ?_ _ | with_reducible refine Ext.drew ?_ | with_reducible refine Ext.drewN ?_ _ | ((with_reducible refine Ext.setCell' ?_ ?_ _); solve | omega | simp | (simp; omega)) | (with_reducible refine Ext.trans ?_ (by with_reducible assumption))))))).mono ?_; rintro e w1 ⟨rfl, hx1⟩; obtain ⟨hc1, hf1⟩ := hx1.rules; have hs1 := hx1.size; (try simp at hs1); have := (show b4 < w1.heap.size from by omega))
  go_wp2
  go_ret
  exact ⟨rfl, by (repeat (first | with_reducible exact Ext.refl _ | with_reducible assumption | ((with_reducible apply Src.ext); with_reducible assumption) | with_reducible refine Ext.alloc ?_ _ | with_reducible refine Ext.drew ?_ | with_reducible refine Ext.drewN ?_ _ | ((with_reducible refine Ext.setCell' ?_ ?_ _); solve | omega | simp | (simp; omega)) | (with_reducible refine Ext.trans ?_ (by with_reducible assumption))))⟩
theorem en_ChildrenIn1 (args : Array Value) (w : World) : (callFunc 79 args).run Tryz.prog w = .ok (.enter 79 args) w := enters_isSome Tryz.func79 (by kernel_rfl) (by kernel_rfl) args w
set_option maxHeartbeats 6400000 in
theorem i_InsideIn1 (A : Option Addr) (n c : Nat) (L : List Lk) (x s : List UInt8) (y : Int) (b3 b4 b5 : Nat) (w : World) (h : SlAt w 4 encK A L) (hn : n = L.length) (hl : n ≤ 1048576) (h3 : w.cell? ⟨b3, 0, none⟩ = some (.slice A n c)) (h4 : w.cell? ⟨b4, 0, none⟩ = some (.string (tx x))) (h5 : w.cell? ⟨b5, 0, none⟩ = some (.int .i64 y)) :
    Calls Tryz.prog 64 #[.string (tx s), .pointer (some ⟨b4, 0, none⟩), .pointer (some ⟨b3, 0, none⟩), .pointer (some ⟨b5, 0, none⟩)] w fun e w' => e = .returned (.bool (insB L x y s)) ∧ Ext w w' := by
  have HK : Hid (∀ W, Ext w W → W.cell? ⟨b3, 0, none⟩ = some (.slice A n c) ∧ W.cell? ⟨b4, 0, none⟩ = some (.string (tx x)) ∧ W.cell? ⟨b5, 0, none⟩ = some (.int .i64 y)) := Lib.hid (fun W hW => ⟨(hW.cell _ _ (World.block_lt_of_cell? _ _ h3)).trans h3, (hW.cell _ _ (World.block_lt_of_cell? _ _ h4)).trans h4, (hW.cell _ _ (World.block_lt_of_cell? _ _ h5)).trans h5⟩)
  have HU := Lib.hid (fun W hW => i_wayUp A n c L s y W hW hn hl)
  have HS := Lib.hid h
  have HC : Hid (∀ W v base, OwS W base v (wayU L s y).1 → Calls Tryz.prog 52 #[v, .string (tx x)] W fun e w' => e = .returned (.bool (decide (x ∈ (wayU L s y).1))) ∧ Ext W w') := Lib.hid (fun W v base hO => by
    obtain ⟨Aw, cw, rfl, hSw, _, _, _⟩ := hO.sl len_encS
    exact i_ContainsS Aw _ cw _ x W hSw rfl (by obtain ⟨_, _, hle⟩ := wayU_ne L s y; omega))
  have hq : insB L x y s = (!((tx s).toList == (tx x).toList) && decide (x ∈ (wayU L s y).1)) := by unfold insB; rw [tx_toL, tx_toL]
  rw [hq]
  generalize decide (x ∈ (wayU L s y).1) = q at *
  generalize (wayU L s y).1 = ws at *
  generalize tx s = ss at *
  generalize tx x = sx at *
  clear hq h hn
  have e3 : b3 < w.heap.size := World.block_lt_of_cell? _ _ h3
  have e4 : b4 < w.heap.size := World.block_lt_of_cell? _ _ h4
  have e5 : b5 < w.heap.size := World.block_lt_of_cell? _ _ h5
  cases he : (ss.toList == sx.toList) with
  | true =>
    have he2 : (!(ss.toList == sx.toList)) = false := by rw [he]; rfl
    clear HK HU HC HS
    go_enter Tryz.func64, Tryz.ntmps64
    go_wp2
    (refine wp_region_ext (by kernel_rfl) (by kernel_rfl) ?_; (repeat (go_big_quiet_step (fail))); refine wpQuiet_nil ?_; intro wq hxwq; obtain ⟨hcwq, hfwq⟩ := hxwq.rules; have hswq := hxwq.size; (try simp at hswq))
    go_wp2
    go_ret
    exact ⟨rfl, by (repeat (first | with_reducible exact Ext.refl _ | with_reducible assumption | ((with_reducible apply Src.ext); with_reducible assumption) | with_reducible refine Ext.alloc ?_ _ | with_reducible refine Ext.drew ?_ | with_reducible refine Ext.drewN ?_ _ | ((with_reducible refine Ext.setCell' ?_ ?_ _); solve | omega | simp | (simp; omega)) | (with_reducible refine Ext.trans ?_ (by with_reducible assumption))))⟩
  | false =>
    go_enter Tryz.func64, Tryz.ntmps64
    go_wp2
    go_region_held3 (fun w' => w'.cell? ⟨b3, 0, none⟩ = some (.slice A n c) ∧ w'.cell? ⟨b4, 0, none⟩ = some (.string sx) ∧ w'.cell? ⟨b5, 0, none⟩ = some (.int .i64 y)) (first | go_keep | exact HK.out _ (by (repeat (first | with_reducible exact Ext.refl _ | with_reducible assumption | ((with_reducible apply Src.ext); with_reducible assumption) | with_reducible refine Ext.alloc ?_ _ | with_reducible refine Ext.drew ?_ | with_reducible refine Ext.drewN ?_ _ | ((with_reducible refine Ext.setCell' ?_ ?_ _); solve | omega | simp | (simp; omega)) | (with_reducible refine Ext.trans ?_ (by with_reducible assumption)))))) (first | (go_at_call 53; refine (HU.out _ (HS.out.ext (by (repeat (first | with_reducible exact Ext.refl _ | with_reducible assumption | ((with_reducible apply Src.ext); with_reducible assumption) | with_reducible refine Ext.alloc ?_ _ | with_reducible refine Ext.drew ?_ | with_reducible refine Ext.drewN ?_ _ | ((with_reducible refine Ext.setCell' ?_ ?_ _); solve | omega | simp | (simp; omega)) | (with_reducible refine Ext.trans ?_ (by with_reducible assumption))))))).mono ?_; rintro e w7 ⟨v7, rfl, hO7, hx7⟩; have hs7 := hx7.size; have HO7 := Lib.hid hO7; clear hO7) | (go_at_call 52; refine (HC.out _ _ _ (HO7.out.ext (by (repeat (first | with_reducible exact Ext.refl _ | with_reducible assumption | ((with_reducible apply Src.ext); with_reducible assumption) | with_reducible refine Ext.alloc ?_ _ | with_reducible refine Ext.drew ?_ | with_reducible refine Ext.drewN ?_ _ | ((with_reducible refine Ext.setCell' ?_ ?_ _); solve | omega | simp | (simp; omega)) | (with_reducible refine Ext.trans ?_ (by with_reducible assumption))))))).mono ?_; rintro e w8 ⟨rfl, hx8⟩; have hs8 := hx8.size))
    all_goals
      go_wp2
      go_ret
      exact ⟨rfl, by (repeat (first | with_reducible exact Ext.refl _ | with_reducible assumption | ((with_reducible apply Src.ext); with_reducible assumption) | with_reducible refine Ext.alloc ?_ _ | with_reducible refine Ext.drew ?_ | with_reducible refine Ext.drewN ?_ _ | ((with_reducible refine Ext.setCell' ?_ ?_ _); solve | omega | simp | (simp; omega)) | (with_reducible refine Ext.trans ?_ (by with_reducible assumption))))⟩
theorem en_InsideIn1 (args : Array Value) (w : World) : (callFunc 64 args).run Tryz.prog w = .ok (.enter 64 args) w := enters_isSome Tryz.func64 (by kernel_rfl) (by kernel_rfl) args w

set_option maxRecDepth 20000 in
set_option maxHeartbeats 6400000 in
theorem i_ChildrenIn (A : Option Addr) (n c : Nat) (L : List Lk) (x : List UInt8) (y : Int) (w : World) (h : SlAt w 4 encK A L) (hn : n = L.length) (hl : L.length ≤ 1048576) (hcap : n ≤ c) (hg : Links L) (hx : x.length ≤ 1048576) :
    Calls Tryz.prog 30 #[.slice A n c, .string (tx x), .int .i64 y] w fun e w' => ∃ v, e = .returned (.tuple #[v, .int .i64 (lkC L [x] y)]) ∧ OwS w' w.heap.size v (chiR L x y) ∧ Ext w w' := by
  have HC : Hid (∀ W g, Ext w W → Blk W g 9 #[.string (tx x)] → Calls Tryz.prog 50 #[.slice A n c, .int .i64 y, .slice (some ⟨g, 0, none⟩) 1 1] W fun e w' => e = .returned (.int .i64 (lkC L [x] y)) ∧ Ext W w') := Lib.hid (fun W g hW hB => i_linkCode A _ n c 1 1 L [x] y W (h.ext hW) hn hl hcap hg (blk_s1 hB) rfl (by omega) (fun k => by
    rcases k with _ | k
    · exact hx
    · simp [List.getD]))
  by_cases hz : lkC L [x] y = 0
  · have h20 := (lksB_iff.1 (lkC_zero hz).1).1.2
    have hE : sortA ((L.filter fun l => lkHas l y && chiB L x y l.1).map fun l => l.1) = chiR L x y := chi_eq hz
    have HI : Hid (∀ W b3 b4 b5, Ext w W → Blk W b3 24 #[.slice A n c] → Blk W b4 9 #[.string (tx x)] → Blk W b5 2 #[.int .i64 y] → Calls Tryz.prog 63 #[.slice A n c, .int .i64 y, .func (.func 79) #[] #[.pointer (some ⟨b3, 0, none⟩), .pointer (some ⟨b5, 0, none⟩), .pointer (some ⟨b4, 0, none⟩)]] W fun e w' => ∃ v, e = .returned v ∧ OwS w' W.heap.size v (chiR L x y) ∧ Ext W w') := Lib.hid (fun W b3 b4 b5 hW h3 h4 h5 => by
      rw [← hE]
      exact i_childrenOf (chiB L x y) _ _ en_ChildrenIn1 A n c L y W (h.ext hW) hn (by omega) (fun l _ W' hW' => i_ChildrenIn1 A n c L x l.1 y b3 b4 b5 W' ((h.ext hW).ext hW') hn (by omega) ((h3.ext hW').cell 0) ((h4.ext hW').cell 0) ((h5.ext hW').cell 0)))
    rw [hz] at HC ⊢
    generalize chiR L x y = res at *
    generalize tx x = sx at *
    clear hE hz h hn hl hcap hg hx h20
    go_enter Tryz.func30, Tryz.ntmps30
    go_wp2_with fail
    refine (HC.out _ _ (by (repeat (first | with_reducible exact Ext.refl _ | with_reducible assumption | ((with_reducible apply Src.ext); with_reducible assumption) | with_reducible refine Ext.alloc ?_ _ | with_reducible refine Ext.drew ?_ | with_reducible refine Ext.drewN ?_ _ | ((with_reducible refine Ext.setCell' ?_ ?_ _); solve | omega | simp | (simp; omega)) | (with_reducible refine Ext.trans ?_ (by with_reducible assumption))))) (by (repeat (first | with_reducible assumption | ((with_reducible apply Blk.new); solve | simp | rfl) | with_reducible apply Blk.drew | with_reducible apply Blk.drewN | ((with_reducible apply Blk.far'); solve | omega | simp | (simp; omega)) | with_reducible apply Blk.set_ | with_reducible apply Blk.alloc | ((with_reducible apply Blk.ext'); with_reducible assumption) | ((with_reducible apply Blk.but'); (with_reducible assumption); solve | omega | (simp; omega)))))).mono ?_
    rintro e w1 ⟨rfl, hx1⟩
    obtain ⟨hc1, hf1⟩ := hx1.rules
    have hs1 := hx1.size
    (try simp at hs1)
    have := (show w.heap.size < w1.heap.size from by omega)
    have := (show w.heap.size + 1 < w1.heap.size from by omega)
    have := (show w.heap.size + 1 + 1 < w1.heap.size from by omega)
    have B3 : Blk w1 w.heap.size 24 #[.slice A n c] := Blk.eq (by (repeat (first | with_reducible assumption | ((with_reducible apply Blk.new); solve | simp | rfl) | with_reducible apply Blk.drew | with_reducible apply Blk.drewN | ((with_reducible apply Blk.far'); solve | omega | simp | (simp; omega)) | with_reducible apply Blk.set_ | with_reducible apply Blk.alloc | ((with_reducible apply Blk.ext'); with_reducible assumption) | ((with_reducible apply Blk.but'); (with_reducible assumption); solve | omega | (simp; omega))))) (by rfl)
    have B4 : Blk w1 (w.heap.size + 1) 9 #[.string sx] := Blk.eq (by (repeat (first | with_reducible assumption | ((with_reducible apply Blk.new); solve | simp | rfl) | with_reducible apply Blk.drew | with_reducible apply Blk.drewN | ((with_reducible apply Blk.far'); solve | omega | simp | (simp; omega)) | with_reducible apply Blk.set_ | with_reducible apply Blk.alloc | ((with_reducible apply Blk.ext'); with_reducible assumption) | ((with_reducible apply Blk.but'); (with_reducible assumption); solve | omega | (simp; omega))))) (by rfl)
    have B5 : Blk w1 (w.heap.size + 1 + 1) 2 #[.int .i64 y] := Blk.eq (by (repeat (first | with_reducible assumption | ((with_reducible apply Blk.new); solve | simp | rfl) | with_reducible apply Blk.drew | with_reducible apply Blk.drewN | ((with_reducible apply Blk.far'); solve | omega | simp | (simp; omega)) | with_reducible apply Blk.set_ | with_reducible apply Blk.alloc | ((with_reducible apply Blk.ext'); with_reducible assumption) | ((with_reducible apply Blk.but'); (with_reducible assumption); solve | omega | (simp; omega))))) (by rfl)
    have HB := Lib.hid (And.intro B3 (And.intro B4 B5))
    clear B3 B4 B5
    go_wp2_with fail
    refine (HI.out _ _ _ _ (by (repeat (first | with_reducible exact Ext.refl _ | with_reducible assumption | ((with_reducible apply Src.ext); with_reducible assumption) | with_reducible refine Ext.alloc ?_ _ | with_reducible refine Ext.drew ?_ | with_reducible refine Ext.drewN ?_ _ | ((with_reducible refine Ext.setCell' ?_ ?_ _); solve | omega | simp | (simp; omega)) | (with_reducible refine Ext.trans ?_ (by with_reducible assumption))))) (HB.out.1.ext (by (repeat (first | with_reducible exact Ext.refl _ | with_reducible assumption | ((with_reducible apply Src.ext); with_reducible assumption) | with_reducible refine Ext.alloc ?_ _ | with_reducible refine Ext.drew ?_ | with_reducible refine Ext.drewN ?_ _ | ((with_reducible refine Ext.setCell' ?_ ?_ _); solve | omega | simp | (simp; omega)) | (with_reducible refine Ext.trans ?_ (by with_reducible assumption)))))) (HB.out.2.1.ext (by (repeat (first | with_reducible exact Ext.refl _ | with_reducible assumption | ((with_reducible apply Src.ext); with_reducible assumption) | with_reducible refine Ext.alloc ?_ _ | with_reducible refine Ext.drew ?_ | with_reducible refine Ext.drewN ?_ _ | ((with_reducible refine Ext.setCell' ?_ ?_ _); solve | omega | simp | (simp; omega)) | (with_reducible refine Ext.trans ?_ (by with_reducible assumption)))))) (HB.out.2.2.ext (by (repeat (first | with_reducible exact Ext.refl _ | with_reducible assumption | ((with_reducible apply Src.ext); with_reducible assumption) | with_reducible refine Ext.alloc ?_ _ | with_reducible refine Ext.drew ?_ | with_reducible refine Ext.drewN ?_ _ | ((with_reducible refine Ext.setCell' ?_ ?_ _); solve | omega | simp | (simp; omega)) | (with_reducible refine Ext.trans ?_ (by with_reducible assumption))))))).mono ?_
    rintro e w2 ⟨v, rfl, hO, hx2⟩
    have HO := Lib.hid hO
    have hs0 : w.heap.size ≤ w1.heap.size := by omega
    clear hO
    go_wp2
    go_ret2
    exact ⟨_, rfl, HO.out.less (by first | exact hs0 | (simp; omega)), by (repeat (first | with_reducible exact Ext.refl _ | with_reducible assumption | ((with_reducible apply Src.ext); with_reducible assumption) | with_reducible refine Ext.alloc ?_ _ | with_reducible refine Ext.drew ?_ | with_reducible refine Ext.drewN ?_ _ | ((with_reducible refine Ext.setCell' ?_ ?_ _); solve | omega | simp | (simp; omega)) | (with_reducible refine Ext.trans ?_ (by with_reducible assumption))))⟩
  · have hR : chiR L x y = [] := by unfold chiR; rw [if_neg hz]
    rw [hR]
    generalize lkC L [x] y = cd at *
    have hcd : (cd != 0) = true := by simpa using hz
    generalize tx x = sx at *
    clear h hn hg hx hl hR hcap
    go_enter Tryz.func30, Tryz.ntmps30
    go_wp2_with fail
    refine (HC.out _ _ (by (repeat (first | with_reducible exact Ext.refl _ | with_reducible assumption | ((with_reducible apply Src.ext); with_reducible assumption) | with_reducible refine Ext.alloc ?_ _ | with_reducible refine Ext.drew ?_ | with_reducible refine Ext.drewN ?_ _ | ((with_reducible refine Ext.setCell' ?_ ?_ _); solve | omega | simp | (simp; omega)) | (with_reducible refine Ext.trans ?_ (by with_reducible assumption))))) (by (repeat (first | with_reducible assumption | ((with_reducible apply Blk.new); solve | simp | rfl) | with_reducible apply Blk.drew | with_reducible apply Blk.drewN | ((with_reducible apply Blk.far'); solve | omega | simp | (simp; omega)) | with_reducible apply Blk.set_ | with_reducible apply Blk.alloc | ((with_reducible apply Blk.ext'); with_reducible assumption) | ((with_reducible apply Blk.but'); (with_reducible assumption); solve | omega | (simp; omega)))))).mono ?_
    rintro e w1 ⟨rfl, hx1⟩
    go_wp2
    go_ret2
    exact ⟨_, rfl, Own.nil _ _, by (repeat (first | with_reducible exact Ext.refl _ | with_reducible assumption | ((with_reducible apply Src.ext); with_reducible assumption) | with_reducible refine Ext.alloc ?_ _ | with_reducible refine Ext.drew ?_ | with_reducible refine Ext.drewN ?_ _ | ((with_reducible refine Ext.setCell' ?_ ?_ _); solve | omega | simp | (simp; omega)) | (with_reducible refine Ext.trans ?_ (by with_reducible assumption))))⟩

set_option maxRecDepth 20000 in
set_option maxHeartbeats 6400000 in
theorem i_InsideIn (A : Option Addr) (n c : Nat) (L : List Lk) (x : List UInt8) (y : Int) (w : World) (h : SlAt w 4 encK A L) (hn : n = L.length) (hl : L.length ≤ 1048576) (hcap : n ≤ c) (hg : Links L) (hx : x.length ≤ 1048576) :
    Calls Tryz.prog 18 #[.slice A n c, .string (tx x), .int .i64 y] w fun e w' => ∃ v, e = .returned (.tuple #[v, .int .i64 (lkC L [x] y)]) ∧ OwS w' w.heap.size v (insR L x y) ∧ Ext w w' := by
  have HC : Hid (∀ W g, Ext w W → Blk W g 9 #[.string (tx x)] → Calls Tryz.prog 50 #[.slice A n c, .int .i64 y, .slice (some ⟨g, 0, none⟩) 1 1] W fun e w' => e = .returned (.int .i64 (lkC L [x] y)) ∧ Ext W w') := Lib.hid (fun W g hW hB => i_linkCode A _ n c 1 1 L [x] y W (h.ext hW) hn hl hcap hg (blk_s1 hB) rfl (by omega) (fun k => by
    rcases k with _ | k
    · exact hx
    · simp [List.getD]))
  by_cases hz : lkC L [x] y = 0
  · have h20 := (lksB_iff.1 (lkC_zero hz).1).1.2
    have hE : sortA ((L.filter fun l => lkHas l y && insB L x y l.1).map fun l => l.1) = insR L x y := ins_eq hz
    have HI : Hid (∀ W b3 b4 b5, Ext w W → Blk W b3 24 #[.slice A n c] → Blk W b4 9 #[.string (tx x)] → Blk W b5 2 #[.int .i64 y] → Calls Tryz.prog 63 #[.slice A n c, .int .i64 y, .func (.func 64) #[] #[.pointer (some ⟨b4, 0, none⟩), .pointer (some ⟨b3, 0, none⟩), .pointer (some ⟨b5, 0, none⟩)]] W fun e w' => ∃ v, e = .returned v ∧ OwS w' W.heap.size v (insR L x y) ∧ Ext W w') := Lib.hid (fun W b3 b4 b5 hW h3 h4 h5 => by
      rw [← hE]
      exact i_childrenOf (insB L x y) _ _ en_InsideIn1 A n c L y W (h.ext hW) hn (by omega) (fun l _ W' hW' => i_InsideIn1 A n c L x l.1 y b3 b4 b5 W' ((h.ext hW).ext hW') hn (by omega) ((h3.ext hW').cell 0) ((h4.ext hW').cell 0) ((h5.ext hW').cell 0)))
    rw [hz] at HC ⊢
    generalize insR L x y = res at *
    generalize tx x = sx at *
    clear hE hz h hn hl hcap hg hx h20
    go_enter Tryz.func18, Tryz.ntmps18
    go_wp2_with fail
    refine (HC.out _ _ (by (repeat (first | with_reducible exact Ext.refl _ | with_reducible assumption | ((with_reducible apply Src.ext); with_reducible assumption) | with_reducible refine Ext.alloc ?_ _ | with_reducible refine Ext.drew ?_ | with_reducible refine Ext.drewN ?_ _ | ((with_reducible refine Ext.setCell' ?_ ?_ _); solve | omega | simp | (simp; omega)) | (with_reducible refine Ext.trans ?_ (by with_reducible assumption))))) (by (repeat (first | with_reducible assumption | ((with_reducible apply Blk.new); solve | simp | rfl) | with_reducible apply Blk.drew | with_reducible apply Blk.drewN | ((with_reducible apply Blk.far'); solve | omega | simp | (simp; omega)) | with_reducible apply Blk.set_ | with_reducible apply Blk.alloc | ((with_reducible apply Blk.ext'); with_reducible assumption) | ((with_reducible apply Blk.but'); (with_reducible assumption); solve | omega | (simp; omega)))))).mono ?_
    rintro e w1 ⟨rfl, hx1⟩
    obtain ⟨hc1, hf1⟩ := hx1.rules
    have hs1 := hx1.size
    (try simp at hs1)
    have := (show w.heap.size < w1.heap.size from by omega)
    have := (show w.heap.size + 1 < w1.heap.size from by omega)
    have := (show w.heap.size + 1 + 1 < w1.heap.size from by omega)
    have B3 : Blk w1 w.heap.size 24 #[.slice A n c] := Blk.eq (by (repeat (first | with_reducible assumption | ((with_reducible apply Blk.new); solve | simp | rfl) | with_reducible apply Blk.drew | with_reducible apply Blk.drewN | ((with_reducible apply Blk.far'); solve | omega | simp | (simp; omega)) | with_reducible apply Blk.set_ | with_reducible apply Blk.alloc | ((with_reducible apply Blk.ext'); with_reducible assumption) | ((with_reducible apply Blk.but'); (with_reducible assumption); solve | omega | (simp; omega))))) (by rfl)
    have B4 : Blk w1 (w.heap.size + 1) 9 #[.string sx] := Blk.eq (by (repeat (first | with_reducible assumption | ((with_reducible apply Blk.new); solve | simp | rfl) | with_reducible apply Blk.drew | with_reducible apply Blk.drewN | ((with_reducible apply Blk.far'); solve | omega | simp | (simp; omega)) | with_reducible apply Blk.set_ | with_reducible apply Blk.alloc | ((with_reducible apply Blk.ext'); with_reducible assumption) | ((with_reducible apply Blk.but'); (with_reducible assumption); solve | omega | (simp; omega))))) (by rfl)
    have B5 : Blk w1 (w.heap.size + 1 + 1) 2 #[.int .i64 y] := Blk.eq (by (repeat (first | with_reducible assumption | ((with_reducible apply Blk.new); solve | simp | rfl) | with_reducible apply Blk.drew | with_reducible apply Blk.drewN | ((with_reducible apply Blk.far'); solve | omega | simp | (simp; omega)) | with_reducible apply Blk.set_ | with_reducible apply Blk.alloc | ((with_reducible apply Blk.ext'); with_reducible assumption) | ((with_reducible apply Blk.but'); (with_reducible assumption); solve | omega | (simp; omega))))) (by rfl)
    have HB := Lib.hid (And.intro B3 (And.intro B4 B5))
    clear B3 B4 B5
    go_wp2_with fail
    refine (HI.out _ _ _ _ (by (repeat (first | with_reducible exact Ext.refl _ | with_reducible assumption | ((with_reducible apply Src.ext); with_reducible assumption) | with_reducible refine Ext.alloc ?_ _ | with_reducible refine Ext.drew ?_ | with_reducible refine Ext.drewN ?_ _ | ((with_reducible refine Ext.setCell' ?_ ?_ _); solve | omega | simp | (simp; omega)) | (with_reducible refine Ext.trans ?_ (by with_reducible assumption))))) (HB.out.1.ext (by (repeat (first | with_reducible exact Ext.refl _ | with_reducible assumption | ((with_reducible apply Src.ext); with_reducible assumption) | with_reducible refine Ext.alloc ?_ _ | with_reducible refine Ext.drew ?_ | with_reducible refine Ext.drewN ?_ _ | ((with_reducible refine Ext.setCell' ?_ ?_ _); solve | omega | simp | (simp; omega)) | (with_reducible refine Ext.trans ?_ (by with_reducible assumption)))))) (HB.out.2.1.ext (by (repeat (first | with_reducible exact Ext.refl _ | with_reducible assumption | ((with_reducible apply Src.ext); with_reducible assumption) | with_reducible refine Ext.alloc ?_ _ | with_reducible refine Ext.drew ?_ | with_reducible refine Ext.drewN ?_ _ | ((with_reducible refine Ext.setCell' ?_ ?_ _); solve | omega | simp | (simp; omega)) | (with_reducible refine Ext.trans ?_ (by with_reducible assumption)))))) (HB.out.2.2.ext (by (repeat (first | with_reducible exact Ext.refl _ | with_reducible assumption | ((with_reducible apply Src.ext); with_reducible assumption) | with_reducible refine Ext.alloc ?_ _ | with_reducible refine Ext.drew ?_ | with_reducible refine Ext.drewN ?_ _ | ((with_reducible refine Ext.setCell' ?_ ?_ _); solve | omega | simp | (simp; omega)) | (with_reducible refine Ext.trans ?_ (by with_reducible assumption))))))).mono ?_
    rintro e w2 ⟨v, rfl, hO, hx2⟩
    have HO := Lib.hid hO
    have hs0 : w.heap.size ≤ w1.heap.size := by omega
    clear hO
    go_wp2
    go_ret2
    exact ⟨_, rfl, HO.out.less (by first | exact hs0 | (simp; omega)), by (repeat (first | with_reducible exact Ext.refl _ | with_reducible assumption | ((with_reducible apply Src.ext); with_reducible assumption) | with_reducible refine Ext.alloc ?_ _ | with_reducible refine Ext.drew ?_ | with_reducible refine Ext.drewN ?_ _ | ((with_reducible refine Ext.setCell' ?_ ?_ _); solve | omega | simp | (simp; omega)) | (with_reducible refine Ext.trans ?_ (by with_reducible assumption))))⟩
  · have hR : insR L x y = [] := by unfold insR; rw [if_neg hz]
    rw [hR]
    generalize lkC L [x] y = cd at *
    have hcd : (cd != 0) = true := by simpa using hz
    generalize tx x = sx at *
    clear h hn hg hx hl hR hcap
    go_enter Tryz.func18, Tryz.ntmps18
    go_wp2_with fail
    refine (HC.out _ _ (by (repeat (first | with_reducible exact Ext.refl _ | with_reducible assumption | ((with_reducible apply Src.ext); with_reducible assumption) | with_reducible refine Ext.alloc ?_ _ | with_reducible refine Ext.drew ?_ | with_reducible refine Ext.drewN ?_ _ | ((with_reducible refine Ext.setCell' ?_ ?_ _); solve | omega | simp | (simp; omega)) | (with_reducible refine Ext.trans ?_ (by with_reducible assumption))))) (by (repeat (first | with_reducible assumption | ((with_reducible apply Blk.new); solve | simp | rfl) | with_reducible apply Blk.drew | with_reducible apply Blk.drewN | ((with_reducible apply Blk.far'); solve | omega | simp | (simp; omega)) | with_reducible apply Blk.set_ | with_reducible apply Blk.alloc | ((with_reducible apply Blk.ext'); with_reducible assumption) | ((with_reducible apply Blk.but'); (with_reducible assumption); solve | omega | (simp; omega)))))).mono ?_
    rintro e w1 ⟨rfl, hx1⟩
    go_wp2
    go_ret2
    exact ⟨_, rfl, Own.nil _ _, by (repeat (first | with_reducible exact Ext.refl _ | with_reducible assumption | ((with_reducible apply Src.ext); with_reducible assumption) | with_reducible refine Ext.alloc ?_ _ | with_reducible refine Ext.drew ?_ | with_reducible refine Ext.drewN ?_ _ | ((with_reducible refine Ext.setCell' ?_ ?_ _); solve | omega | simp | (simp; omega)) | (with_reducible refine Ext.trans ?_ (by with_reducible assumption))))⟩

end Go.Proofs.YtmpgjajkaehdiaaGreatDoor
