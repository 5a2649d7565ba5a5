/- The law of YearsInside, walked over the translation. -/
import Derived.Test.YtmpgjajkaehdiaaGreatDoorUK
import Derived.Test.YtmpgjajkaehdiaaGreatDoorZA
import Derived.Test.YtmpgjajkaehdiaaGreatDoorKW
import Derived.Deep.RegionHeld3
import Derived.Deep.DeepCutAuto
import Derived.RegionTactic
import Derived.BigRegion
import Derived.WalkLawsBesides
import Derived.WalkSpells
import Derived.Lib.MinMax
import Derived.Outline
namespace Go.Proofs.YtmpgjajkaehdiaaGreatDoor
open Go.RowKit
attribute [local go_sem] ExtOf.cell ExtOf.frozen

theorem take_cellsN {ps : List (Int × Int)} {cs : Array Value} (hs : ps.length * 2 ≤ cs.size) (h : ∀ j, j < ps.length → cs[j * 2]? = some (.int .i64 (ps.getD j (0, 0)).1) ∧ cs[j * 2 + 1]? = some (.int .i64 (ps.getD j (0, 0)).2)) : cs.toList.take (ps.length * 2) = ps.flatMap encSn := by
  apply List.ext_getElem?
  intro i
  rcases Nat.lt_or_ge i (ps.length * 2) with hi | hi
  · rw [List.getElem?_take_of_lt hi, Array.getElem?_toList]
    have hq : i / 2 < ps.length := by omega
    have hg : ps[i / 2]? = some (ps.getD (i / 2) (0, 0)) := by simp [List.getD, hq]
    have hc := h (i / 2) hq
    rcases Nat.mod_two_eq_zero_or_one i with e | e
    · have h0 := flatMap_at (enc := encSn) (sz := 2) len_encSn ps (i / 2) _ 0 _ hg rfl
      rw [show i / 2 * 2 + 0 = i by omega] at h0
      rw [h0, ← hc.1, show i / 2 * 2 = i by omega]
    · have h0 := flatMap_at (enc := encSn) (sz := 2) len_encSn ps (i / 2) _ 1 _ hg rfl
      rw [show i / 2 * 2 + 1 = i by omega] at h0
      rw [h0, ← hc.2, show i / 2 * 2 + 1 = i by omega]
  · have hle : (cs.toList.take (ps.length * 2)).length ≤ i := by simp; omega
    rw [List.getElem?_eq_none hle, List.getElem?_eq_none (by rw [flatMap_len len_encSn]; exact hi)]
/-- marks in a row of spans -/
def marksN (k : Int) (n : Nat) : List (Int × Int) := (List.range n).map fun i : Nat => (k + 2 * (i : Int), k + 2 * (i : Int) + 1)
theorem marksN_len (k : Int) (n : Nat) : (marksN k n).length = n := by simp [marksN]
theorem marksN_at (k : Int) {n i : Nat} (hi : i < n) : (marksN k n).getD i (0, 0) = (k + 2 * (i : Int), k + 2 * (i : Int) + 1) := by simp [marksN, List.getD, hi]
def MarkN (k : Int) (j sz : Nat) (cs : Array Value) : Prop := cs.size = sz ∧ ∀ q, q < j → cs[q * 2]? = some (.int .i64 (k + 2 * (q : Int))) ∧ cs[q * 2 + 1]? = some (.int .i64 (k + 2 * (q : Int) + 1))
theorem MarkN.step {k : Int} {j sz : Nat} {cs : Array Value} (h : MarkN k j sz cs) (hs : j * 2 + 1 < sz) : MarkN k (j + 1) sz ((cs.setIfInBounds (j * 2) (.int .i64 (k + 2 * (j : Int)))).setIfInBounds (j * 2 + 1) (.int .i64 (k + 2 * (j : Int) + 1))) := by
  have hz := h.1
  refine ⟨by simpa using h.1, fun q hq => ?_⟩
  by_cases e : q = j
  · subst e
    constructor
    · rw [Array.getElem?_setIfInBounds_ne (by omega), Array.getElem?_setIfInBounds_self_of_lt (by omega)]
    · rw [Array.getElem?_setIfInBounds_self_of_lt (by simp; omega)]
  · have := h.2 q (by omega)
    constructor
    · rw [Array.getElem?_setIfInBounds_ne (by omega), Array.getElem?_setIfInBounds_ne (by omega)]; exact this.1
    · rw [Array.getElem?_setIfInBounds_ne (by omega), Array.getElem?_setIfInBounds_ne (by omega)]; exact this.2
theorem MarkN.done {k : Int} {n sz : Nat} {cs : Array Value} (h : MarkN k n sz cs) (hs : n * 2 ≤ sz) : cs.toList.take (n * 2) = (marksN k n).flatMap encSn := by
  have hz := h.1
  have := take_cellsN (ps := marksN k n) (cs := cs) (by rw [marksN_len]; omega) (fun j hj => by
    rw [marksN_len] at hj
    rw [marksN_at k hj]
    exact h.2 j hj)
  rwa [marksN_len] at this
set_option maxHeartbeats 1600000 in
theorem l_markSn0 (base : Nat) (v : Value) (ps : List (Int × Int)) (k : Int) (w : World) (h : OwSn w base v ps) (hl : ps.length ≤ 1048576) (hk : 0 ≤ k) (hk' : k ≤ 1000000000000) :
    Calls Tryz.prog 46 #[v, .int .i64 k] w fun e w' => e = .returned (.int .i64 (k + 2 * (ps.length : Int))) ∧ OwSn w' base v (marksN k ps.length) ∧ w.grownBy w' v.ownBlock := by
  rcases Nat.eq_zero_or_pos ps.length with h0 | h0
  · have hps : ps = [] := List.length_eq_zero_iff.1 h0
    subst hps
    have hv : ∃ A c, v = .slice A 0 c := by obtain ⟨A, c, e, _⟩ := h.sl len_encSn; exact ⟨A, c, e⟩
    obtain ⟨A, c, rfl⟩ := hv
    have HH := Lib.hid h
    clear h
    go_enter Tryz.func46, Tryz.ntmps46
    go_wp2
    go_loop [1, 5] (fun m i => i = .int .i64 0 ∧ m = .int .i64 k) (fun _ _ => 0)
    case atStart => exact ⟨rfl, rfl⟩
    case round =>
      obtain ⟨rfl, rfl⟩ := hrel
      go_wp2
      go_ret
      exact ⟨by simp, HH.out, World.grownBy.refl _ _⟩
  · obtain ⟨g, cap, cur, rfl, hb, hB, hn, hm, hs, ht⟩ := h.open_ h0
    have HM := Lib.hid hm
    have HC : Hid (MarkN k 0 cur.size cur) := Lib.hid ⟨rfl, fun q hq => absurd hq (by omega)⟩
    clear ht h hm
    go_enter Tryz.func46, Tryz.ntmps46
    go_wp2
    go_loopw [1, 5] (fun m i wr => ∃ (j : Nat) (cs : Array Value), j ≤ ps.length ∧ i = .int .i64 j ∧ m = .int .i64 (k + 2 * (j : Int)) ∧ Blk wr g 55 cs ∧ Hid (MarkN k j cur.size cs) ∧ But g w wr) (fun _ i _ => ps.length - (intOf i).toNat)
    case atStart => exact ⟨0, cur, by omega, rfl, by simp, hB, HC, But.refl g w⟩
    case round =>
      obtain ⟨j, cs, hj, rfl, rfl, hBr, HC, HG⟩ := hrel
      have hgr := hBr.lt
      by_cases hlt : j < ps.length
      · have hcz := HC.out.1
        obtain ⟨u0, hu0⟩ : ∃ u, cs[j * 2]? = some u := ⟨_, Array.getElem?_eq_getElem (by omega)⟩
        obtain ⟨u1, hu1⟩ : ∃ u, cs[j * 2 + 1]? = some u := ⟨_, Array.getElem?_eq_getElem (by omega)⟩
        rw [← hBr.cell] at hu0 hu1
        have f0 := hBr.frozen (j * 2)
        have f1 := hBr.frozen (j * 2 + 1)
        have HS := Lib.hid (HC.out.step (by omega))
        clear hcz
        go_wp2
        go_roundw
        case rel => exact ⟨j + 1, _, by omega, by go_num, by congr 1; omega, Blk.eq (by (repeat (first | with_reducible assumption | ((with_reducible apply Blk.new); solve | simp | rfl) | with_reducible apply Blk.drew | with_reducible apply Blk.drewN | ((with_reducible apply Blk.far'); solve | omega | simp | (simp; omega)) | with_reducible apply Blk.set_ | with_reducible apply Blk.alloc | ((with_reducible apply Blk.ext'); with_reducible assumption) | ((with_reducible apply Blk.but'); (with_reducible assumption); solve | omega | (simp; omega))))) (by rfl), HS, by (repeat (first | with_reducible exact But.refl _ _ | with_reducible assumption | with_reducible refine But.alloc ?_ _ | with_reducible refine But.drew ?_ | with_reducible refine But.drewN ?_ _ | with_reducible refine But.set_ ?_ _ _ | ((with_reducible refine But.new ?_ ?_ _); solve | omega | simp | (simp; omega)) | (with_reducible refine But.trans ?_ (by with_reducible assumption)) | (with_reducible refine But.trans ?_ (But.of (by with_reducible assumption)))))⟩
        case measure => simp [intOf]; omega
      · obtain rfl : j = ps.length := by omega
        go_wp2
        go_ret
        refine ⟨rfl, ⟨?_, .inr ⟨g, cap, cs, ?_, hb, hBr, ?_, HM.out, ?_, ?_⟩⟩, ?_⟩
        · rw [flatMap_len len_encSn]
        · rw [marksN_len]
        · rw [marksN_len]; exact hn
        · rw [HC.out.1, hs]
        · rw [marksN_len]; exact HC.out.done (by omega)
        · exact HG.grown
theorem l_heldSn0 (A : Option Addr) (n c : Nat) (k : Int) (w : World) (h : SlAt w 2 encSn A (marksN k n)) (hl : n ≤ 1048576) (hk : 0 ≤ k) (hk' : k ≤ 1000000000000) :
    Calls Tryz.prog 47 #[.slice A n c, .int .i64 k] w fun e w' => e = .returned (.int .i64 (k + 2 * (n : Int))) ∧ w = w' := by
  go_enter Tryz.func47, Tryz.ntmps47
  go_wp2
  go_loop [1, 5] (fun m i => ∃ j : Nat, j ≤ n ∧ i = .int .i64 j ∧ m = .int .i64 (k + 2 * (j : Int))) (fun _ i => n - (intOf i).toNat)
  case atStart => exact ⟨0, by omega, rfl, by simp⟩
  case round =>
    obtain ⟨j, hj, rfl, rfl⟩ := hrel
    by_cases hlt : j < n
    · obtain ⟨b, off, rfl, hb, d0, d1⟩ := h.sn (k := j) (by rw [marksN_len]; exact hlt)
      rw [marksN_at k hlt] at d0 d1
      go_wp2
      go_round
      case rel => exact ⟨j + 1, by omega, by go_num, by congr 1; omega⟩
      case measure => simp [intOf]; omega
    · obtain rfl : j = n := by omega
      go_wp2
      go_ret
      exact ⟨rfl, rfl⟩


theorem l_markSn (base : Nat) (v : Value) (S : List Sn) (n k : Nat) (w : World) (h : OwSn w base v S) (hn : n = S.length) (hl : n ≤ 1048576) (hk : 0 < k) (hk' : k ≤ 1000000000000) :
    Calls Tryz.prog 46 #[v, .int .i64 k] w fun e w' => e = .returned (.int .i64 ((k + 2 * n : Nat) : Int)) ∧ OwSn w' base v (marksN (k : Int) n) ∧ w.grownBy w' v.ownBlock := by
  subst hn
  have := l_markSn0 base v S (k : Int) w h hl (by omega) (by omega)
  rwa [show (k : Int) + 2 * (S.length : Int) = ((k + 2 * S.length : Nat) : Int) by omega] at this
theorem l_heldSn (A : Option Addr) (n c k : Nat) (w : World) (h : SlAt w 2 encSn A (marksN (k : Int) n)) (hl : n ≤ 1048576) (hk : 0 < k) (hk' : k ≤ 1000000000000) :
    Calls Tryz.prog 47 #[.slice A n c, .int .i64 k] w fun e w' => e = .returned (.int .i64 ((k + 2 * n : Nat) : Int)) ∧ Ext w w' := by
  have := l_heldSn0 A n c (k : Int) w h hl (by omega) (by omega)
  rw [show (k : Int) + 2 * (n : Int) = ((k + 2 * n : Nat) : Int) by omega] at this
  exact this.mono (fun e w' ⟨h1, h2⟩ => ⟨h1, h2 ▸ Ext.refl _⟩)
set_option maxHeartbeats 1600000 in
theorem l_eqSn (A A' : Option Addr) (n c c' : Nat) (S : List Sn) (w : World) (h : SlAt w 2 encSn A S) (h' : SlAt w 2 encSn A' S) (hn : n = S.length) (hl : n ≤ 1048576) :
    Calls Tryz.prog 43 #[.slice A n c, .slice A' n c'] w fun e w' => e = .returned (.bool true) ∧ Ext w w' := by
  have hn1 : (((n : Nat) : Int) != (n : Int)) = false := by simp
  have HN := Lib.hid hn
  clear hn
  go_enter Tryz.func43, Tryz.ntmps43
  go_wp2
  go_loopw [5] (fun i wr => ∃ k : Nat, k ≤ n ∧ i = .int .i64 k ∧ Ext w wr) (fun i _ => n - (intOf i).toNat)
  case atStart => exact ⟨0, Nat.zero_le _, rfl, by (repeat (first | with_reducible exact Ext.refl _ | with_reducible assumption | ((with_reducible apply Src.ext); with_reducible assumption) | with_reducible refine Ext.alloc ?_ _ | with_reducible refine Ext.drew ?_ | with_reducible refine Ext.drewN ?_ _ | ((with_reducible refine Ext.setCell' ?_ ?_ _); solve | omega | simp | (simp; omega)) | (with_reducible refine Ext.trans ?_ (by with_reducible assumption))))⟩
  case round =>
    obtain ⟨k, hk, rfl, hx⟩ := hrel
    by_cases hlt : k < n
    · obtain ⟨b, off, rfl, hb, d0, d1⟩ := (h.ext hx).sn (k := k) (by rw [← HN.out]; exact hlt)
      obtain ⟨b', off', rfl, hb', e0, e1⟩ := (h'.ext hx).sn (k := k) (by rw [← HN.out]; exact hlt)
      generalize S.getD k (0, 0) = p at *
      obtain ⟨x, z⟩ := p
      simp only at d0 d1 e0 e1
      go_wp2
      (refine wp_region_ext (by kernel_rfl) (by kernel_rfl) ?_; (repeat (go_big_quiet_step ((go_at_call 90; exact Calls_ext (l_eqSpan_self _ _ _))))); refine wpQuiet_nil ?_; intro wq hxwq; obtain ⟨hcwq, hfwq⟩ := hxwq.rules; have hswq := hxwq.size; (try simp at hswq))
      go_wp2
      go_roundw
      case rel => exact ⟨k + 1, by omega, by go_num, by (repeat (first | with_reducible exact Ext.refl _ | with_reducible assumption | ((with_reducible apply Src.ext); with_reducible assumption) | with_reducible refine Ext.alloc ?_ _ | with_reducible refine Ext.drew ?_ | with_reducible refine Ext.drewN ?_ _ | ((with_reducible refine Ext.setCell' ?_ ?_ _); solve | omega | simp | (simp; omega)) | (with_reducible refine Ext.trans ?_ (by with_reducible assumption))))⟩
      case measure => simp [intOf]; omega
    · go_wp2
      go_ret
      exact ⟨rfl, by (repeat (first | with_reducible exact Ext.refl _ | with_reducible assumption | ((with_reducible apply Src.ext); with_reducible assumption) | with_reducible refine Ext.alloc ?_ _ | with_reducible refine Ext.drew ?_ | with_reducible refine Ext.drewN ?_ _ | ((with_reducible refine Ext.setCell' ?_ ?_ _); solve | omega | simp | (simp; omega)) | (with_reducible refine Ext.trans ?_ (by with_reducible assumption))))⟩
theorem yiV_len (L : List Lk) (a b : List UInt8) : (yiV L a b).length ≤ 12 := by
  unfold yiV
  split
  · rename_i h
    unfold yiC at h
    split at h
    · split at h
      · omega
      · split at h
        · omega
        · omega
    · omega
  · exact Nat.zero_le _

set_option maxRecDepth 20000 in
set_option maxHeartbeats 12800000 in
theorem fnExactYearsInside_walk (A : Option Addr) (c : Nat) (L : List Lk) (sa1 : ByteArray) (sb1 : ByteArray) (w : World) (h : ArgK w A L) (hsa1 : sa1.size ≤ maxLen) (hsb1 : sb1.size ≤ maxLen) :
    Calls Tryz.prog 5 #[.slice A L.length c, .string sa1, .string sb1] w fun e w' => e = .returned (.bool true) ∧ Ext w w' := by
  unfold maxLen at hsa1
  unfold maxLen at hsb1
  by_cases hoa1 : 1048576 < sa1.size
  · go_enter Tryz.func5, Tryz.ntmps5
    go_wp2
    go_ret
    exact ⟨rfl, by (repeat (first | with_reducible exact Ext.refl _ | with_reducible assumption | ((with_reducible apply Src.ext); with_reducible assumption) | with_reducible refine Ext.alloc ?_ _ | with_reducible refine Ext.drew ?_ | with_reducible refine Ext.drewN ?_ _ | ((with_reducible refine Ext.setCell' ?_ ?_ _); solve | omega | simp | (simp; omega)) | (with_reducible refine Ext.trans ?_ (by with_reducible assumption))))⟩
  by_cases hob1 : 1048576 < sb1.size
  · go_enter Tryz.func5, Tryz.ntmps5
    go_wp2
    go_ret
    exact ⟨rfl, by (repeat (first | with_reducible exact Ext.refl _ | with_reducible assumption | ((with_reducible apply Src.ext); with_reducible assumption) | with_reducible refine Ext.alloc ?_ _ | with_reducible refine Ext.drew ?_ | with_reducible refine Ext.drewN ?_ _ | ((with_reducible refine Ext.setCell' ?_ ?_ _); solve | omega | simp | (simp; omega)) | (with_reducible refine Ext.trans ?_ (by with_reducible assumption))))⟩
  obtain ⟨a1, rfl⟩ : ∃ a1 : List UInt8, tx a1 = sa1 := ⟨sa1.data.toList, rfl⟩
  have hsza1 := tx_size a1
  have hlea1 : a1.length ≤ 1048576 := by omega
  obtain ⟨b1, rfl⟩ : ∃ b1 : List UInt8, tx b1 = sb1 := ⟨sb1.data.toList, rfl⟩
  have hszb1 := tx_size b1
  have hleb1 : b1.length ≤ 1048576 := by omega
  go_enter Tryz.func5, Tryz.ntmps5
  go_wp2_with fail
  refine (l_szLinkS _ _ _ L 1048576 _ h.sl rfl h.len h.can (by omega) (by omega)).mono ?_
  rintro e w0 ⟨⟨z, rfl, hz1, hz⟩, hx0⟩
  rcases hz with rfl | ⟨hz0, hl, hg⟩
  · go_wp2
    go_ret
    exact ⟨rfl, hx0⟩
  · have HG := Lib.hid hg
    obtain ⟨cd, hcd⟩ : ∃ cd, cd = yiC L a1 b1 := ⟨_, rfl⟩
    have HCD := Lib.hid hcd
    have hcc : (cd != cd) = false := by simp
    obtain ⟨m, hm⟩ : ∃ m, m = (yiV L a1 b1).length := ⟨_, rfl⟩
    have hml : m ≤ 1000000 := by rw [hm]; have := yiV_len L a1 b1; omega
    have HM := Lib.hid hm
    have hm0 : ¬ (((1 + 2 * m : Nat) : Int) < 0) := by omega
    have hm1 : ((((1 + 2 * m : Nat) : Int)) != ((1 + 2 * m : Nat) : Int)) = false := by simp
    have HS : Hid (∀ (W : World) (A : Option Addr) (c : Nat) (_ : L.length ≤ c), SlAt W 4 encK A L → Calls Tryz.prog 9 #[.slice A L.length c, .string (tx a1), .string (tx b1)] W fun e w' => ∃ v, e = .returned (.tuple #[v, .int .i64 cd]) ∧ OwSn w' W.heap.size v (yiV L a1 b1) ∧ Ext W w') := Lib.hid (fun W A c hcp hS => by
      rw [HCD.out]
      exact s_YearsInside A L.length c L a1 b1 W hS rfl hl HG.out hlea1 hleb1)
    have HI : Hid (∀ (W : World) (A : Option Addr) (c : Nat) (_ : L.length ≤ c), SlAt W 4 encK A L → Calls Tryz.prog 8 #[.slice A L.length c, .string (tx a1), .string (tx b1)] W fun e w' => ∃ v, e = .returned (.tuple #[v, .int .i64 cd]) ∧ OwSn w' W.heap.size v (yiV L a1 b1) ∧ Ext W w') := Lib.hid (fun W A c hcp hS => by
      rw [HCD.out]
      exact i_YearsInside A L.length c L a1 b1 W hS rfl hl hcp HG.out hlea1 hleb1)
    clear hg hcd hm
    generalize tx a1 = ta1 at *
    generalize tx b1 = tb1 at *
    go_wp2_with fail
    refine (l_toLinkS _ _ _ L _ (h.ext hx0).sl rfl hl).mono ?_
    rintro e w1 ⟨cs1, rfl, hB1, hc1, hx1⟩
    have HC1 := Lib.hid hc1
    have HB1 := Lib.hid hB1
    clear hc1 hB1
    go_wp2_with fail
    refine ((HS.out _ _ _ (Nat.le_refl _) (HB1.out.sl HC1.out len_encK))).mono ?_
    rintro e w2 ⟨v2, rfl, hO2, hx2⟩
    have HO2 := Lib.hid hO2
    obtain ⟨A2, c2, rfl, hS2, _, _, hA2⟩ := hO2.sl len_encSn
    rw [← HM.out] at HO2 ⊢
    have HA2 := Lib.hid hA2
    clear hO2 hA2
    have hX2 := (hx0.trans hx1).trans hx2
    have hs2 : w.heap.size ≤ w2.heap.size := hX2.size
    go_wp2_with fail
    refine (l_toLinkS _ _ _ L _ (h.ext hX2).sl rfl hl).mono ?_
    rintro e w3 ⟨cs3, rfl, hB3, hc3, hx3⟩
    have HC3 := Lib.hid hc3
    have HB3 := Lib.hid hB3
    clear hc3 hB3
    go_wp2_with fail
    refine ((HI.out _ _ _ (Nat.le_refl _) (HB3.out.sl HC3.out len_encK))).mono ?_
    rintro e w4 ⟨v4, rfl, hO4, hx4⟩
    have HO4 := Lib.hid hO4
    obtain ⟨A4, c4, rfl, hS4, _, _, hA4⟩ := hO4.sl len_encSn
    rw [← HM.out] at HO4 ⊢
    have HA4 := Lib.hid hA4
    clear hO4 hA4
    have hX4 := (hX2.trans hx3).trans hx4
    go_wp2_with fail
    refine (l_eqSn A4 A2 m c4 c2 (yiV L a1 b1) _ hS4 (hS2.ext (hx3.trans hx4)) HM.out (by omega)).mono ?_
    rintro e w5 ⟨rfl, hx5⟩
    have hX5 := hX4.trans hx5
    go_wp2_with fail
    refine (l_toLinkS _ _ _ L _ (h.ext hX5).sl rfl hl).mono ?_
    rintro e w6 ⟨cs6, rfl, hB6, hc6, hx6⟩
    have HC6 := Lib.hid hc6
    have HB6 := Lib.hid hB6
    clear hc6 hB6
    go_wp2_with fail
    refine (l_eqLinkS _ _ _ _ _ L _ ((((HB3.out.ext hx4).ext hx5).ext hx6).sl HC3.out len_encK) (HB6.out.sl HC6.out len_encK) rfl hl).mono ?_
    rintro e w7 ⟨rfl, hx7⟩
    have hX47 : Ext w4 w7 := (hx5.trans hx6).trans hx7
    have hX37 : Ext w3 w7 := hx4.trans hX47
    have hX27 : Ext w2 w7 := hx3.trans hX37
    have hX7 : Ext w w7 := hX2.trans hX27
    have hS27 := hS2.ext hX27
    have hS47 := hS4.ext hX47
    have HO47 := Lib.hid (HO4.out.ext hX47)
    have HB37 := Lib.hid (HB3.out.ext hX37)
    have hcs3 : cs3.size = L.length * 4 := by rw [← Array.length_toList, HC3.out, flatMap_len len_encK]
    have hb3 : w2.heap.size < w3.heap.size := HB3.out.lt
    have h37 := hX37.size
    clear HO4 hS4 hS2 HB3
    go_wp2_with fail
    refine (l_markLinkS _ _ _ 1 cs3 _ HB37.out hcs3 hl (by omega) (by omega)).mono ?_
    rintro e w8 ⟨rfl, _, hu8⟩
    have hz8 : ¬ (((1 + 4 * L.length : Nat) : Int) < 0) := by omega
    have hX8 : Ext w w8 := hu8.ext hX7 hs2
    have hS28 := hS27.butG hu8 (fun q hq => by have := HA2.out q hq; omega)
    have hS48 := hS47.butG hu8 (fun q hq => by have := HA4.out q hq; omega)
    have HO48 := Lib.hid (HO47.out.butG hu8 hb3)
    have h78 := hu8.size
    clear hu8 hS27 hS47 HO47 HB37
    go_wp2_with fail
    refine (l_eqSn A4 A2 m c4 c2 (yiV L a1 b1) _ hS48 hS28 HM.out (by omega)).mono ?_
    rintro e w9 ⟨rfl, hx9⟩
    have HO9 := Lib.hid (HO48.out.ext hx9)
    have hS29 := hS28.ext hx9
    have hX9 := hX8.trans hx9
    clear HO48 hS28 hS48
    go_wp2_with fail
    refine (l_markSn _ _ _ m 1 _ HO9.out HM.out (by omega) (by omega) (by omega)).mono ?_
    rintro e w10 ⟨rfl, hO10, hg10⟩
    have hX10 : Ext w w10 := hX9.grown hg10 (fun q hq => by have := (HO9.out.row q hq).1; omega)
    have hS210 := hS29.grown hg10 (by intro q hq he; have := HA2.out q hq; have := (HO9.out.row _ he.symm).1; omega)
    obtain ⟨_, _, e', hS410, _⟩ := hO10.sl len_encSn
    injection e' with ea eb ec
    subst ea
    clear hg10 hS29 HO9 eb ec hO10
    go_wp2_with fail
    refine (l_heldSn _ m _ 1 _ hS410 (by omega) (by omega) (by omega)).mono ?_
    rintro e w11 ⟨rfl, hx11⟩
    have hX11 := hX10.trans hx11
    go_wp2_with fail
    refine (l_toLinkS _ _ _ L _ (h.ext hX11).sl rfl hl).mono ?_
    rintro e w12 ⟨cs12, rfl, hB12, hc12, hx12⟩
    have HC12 := Lib.hid hc12
    have HB12 := Lib.hid hB12
    clear hc12 hB12
    go_wp2_with fail
    refine ((HI.out _ _ _ (Nat.le_refl _) (HB12.out.sl HC12.out len_encK))).mono ?_
    rintro e w13 ⟨v13, rfl, hO13, hx13⟩
    have HO13 := Lib.hid hO13
    obtain ⟨A13, c13, rfl, hS13, _, _, hA13⟩ := hO13.sl len_encSn
    rw [← HM.out] at HO13 ⊢
    have HA13 := Lib.hid hA13
    clear hO13 hA13
    go_wp2_with fail
    refine (l_eqSn A13 A2 m c13 c2 (yiV L a1 b1) _ hS13 (hS210.ext ((hx11.trans hx12).trans hx13)) HM.out (by omega)).mono ?_
    rintro e w14 ⟨rfl, hx14⟩
    go_wp2_with fail
    refine (l_heldSn _ m _ 1 _ (hS410.ext (((hx11.trans hx12).trans hx13).trans hx14)) (by omega) (by omega) (by omega)).mono ?_
    rintro e w15 ⟨rfl, hx15⟩
    go_wp2
    go_ret
    exact ⟨rfl, (((hX11.trans hx12).trans hx13).trans hx14).trans hx15⟩

end Go.Proofs.YtmpgjajkaehdiaaGreatDoor
