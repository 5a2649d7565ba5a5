/- Contracts of the laws over lists of places, walked over the translation. -/
import Derived.Test.YtapfokfbdmcokaaGreatDoorZA
import Derived.Test.YtapfokfbdmcokaaGreatDoorGV
import Derived.Test.YtapfokfbdmcokaaGreatDoorHN
import Derived.Test.YtapfokfbdmcokaaGreatDoorKW
import Derived.Deep.RegionHeld3
import Derived.Deep.DeepCutAuto
import Derived.RegionTactic
import Derived.BigRegion
import Derived.WalkLawsBesides
import Derived.WalkSpells
import Derived.Lib.MinMax
import Derived.Outline
namespace Go.Proofs.YtapfokfbdmcokaaGreatDoor
open Go.RowKit
attribute [local go_sem] ExtOf.cell ExtOf.frozen

theorem getD_snoc {α : Type} {xs : List α} {x d : α} {k : Nat} (hk : k < xs.length + 1) : (xs ++ [x]).getD k d = if k < xs.length then xs.getD k d else x := by
  split
  · rename_i h
    simp [List.getD, List.getElem?_append_left h]
  · obtain rfl : k = xs.length := by omega
    simp [List.getD]
/-- nothing of a place is long -/
def GoodQ (p : Pl) : Prop := p.1.length ≤ 1048576 ∧ p.2.2.2.2.2.2.length ≤ 1048576 ∧ Names p.2.2.2.2.2.2
/-- what is known of a size that was reckoned over a place -/
def SzQ (p : Pl) (z : Int) : Prop := z ≤ 1048576 ∧ (z = -1 ∨ (0 ≤ z ∧ GoodQ p))
set_option maxHeartbeats 3200000 in
theorem l_szPlace (p : Pl) (left : Int) (w : World) (h : ArgP1 w p) (h0 : 0 ≤ left) (h1 : left ≤ 1048576) :
    Calls Tryz.prog 101 #[.agg #[.string (tx p.1), .int .i64 p.2.1, .int .i64 p.2.2.1, .int .i64 p.2.2.2.1, .slice p.2.2.2.2.1 p.2.2.2.2.2.2.length p.2.2.2.2.2.1], .int .i64 left] w fun e w' => (∃ z : Int, e = .returned (.int .i64 z) ∧ SzQ p z) ∧ Ext w w' := by
  obtain ⟨hS, c1, c2, c3⟩ := h
  have hsz := tx_size p.1
  obtain ⟨s, hse⟩ : ∃ s, s = tx p.1 := ⟨_, rfl⟩
  rw [← hse] at hsz ⊢
  have HC3 := Lib.hid c3
  clear hse c3
  by_cases hz : left - (p.1.length : Int) < 0
  · go_enter Tryz.func101, Tryz.ntmps101
    go_wp2
    go_ret
    exact ⟨⟨-1, rfl, by omega, .inl rfl⟩, by (repeat (first | with_reducible exact Ext.refl _ | with_reducible assumption | ((with_reducible apply Src.ext); with_reducible assumption) | with_reducible refine Ext.alloc ?_ _ | with_reducible refine Ext.drew ?_ | with_reducible refine Ext.drewN ?_ _ | ((with_reducible refine Ext.setCell' ?_ ?_ _); solve | omega | simp | (simp; omega)) | (with_reducible refine Ext.trans ?_ (by with_reducible assumption))))⟩
  · have HC := Lib.hid (fun W hx => l_szNameS p.2.2.2.2.1 p.2.2.2.2.2.2.length p.2.2.2.2.2.1 p.2.2.2.2.2.2 (left - (p.1.length : Int)) W (hS.ext hx) rfl c2 HC3.out (by omega) (by omega))
    have hlen : p.1.length ≤ 1048576 := by omega
    clear hS
    go_enter Tryz.func101, Tryz.ntmps101
    go_wp2_with fail
    refine (HC.out _ (by (repeat (first | with_reducible exact Ext.refl _ | with_reducible assumption | ((with_reducible apply Src.ext); with_reducible assumption) | with_reducible refine Ext.alloc ?_ _ | with_reducible refine Ext.drew ?_ | with_reducible refine Ext.drewN ?_ _ | ((with_reducible refine Ext.setCell' ?_ ?_ _); solve | omega | simp | (simp; omega)) | (with_reducible refine Ext.trans ?_ (by with_reducible assumption)))))).mono ?_
    rintro e w' ⟨⟨z, rfl, hz1, hzz⟩, hx'⟩
    rcases hzz with rfl | ⟨hz0, hl, hL⟩
    · go_wp2
      go_ret
      exact ⟨⟨-1, rfl, by omega, .inl rfl⟩, by (repeat (first | with_reducible exact Ext.refl _ | with_reducible assumption | ((with_reducible apply Src.ext); with_reducible assumption) | with_reducible refine Ext.alloc ?_ _ | with_reducible refine Ext.drew ?_ | with_reducible refine Ext.drewN ?_ _ | ((with_reducible refine Ext.setCell' ?_ ?_ _); solve | omega | simp | (simp; omega)) | (with_reducible refine Ext.trans ?_ (by with_reducible assumption))))⟩
    · have HL := Lib.hid hL
      clear hL
      go_wp2
      go_ret
      exact ⟨⟨z, rfl, hz1, .inr ⟨hz0, hlen, hl, HL.out⟩⟩, by (repeat (first | with_reducible exact Ext.refl _ | with_reducible assumption | ((with_reducible apply Src.ext); with_reducible assumption) | with_reducible refine Ext.alloc ?_ _ | with_reducible refine Ext.drew ?_ | with_reducible refine Ext.drewN ?_ _ | ((with_reducible refine Ext.setCell' ?_ ?_ _); solve | omega | simp | (simp; omega)) | (with_reducible refine Ext.trans ?_ (by with_reducible assumption))))⟩
def SzQs (ps : List Pl) (z : Int) : Prop := z ≤ 1048576 ∧ (z = -1 ∨ (0 ≤ z ∧ ps.length ≤ 1048576 ∧ ∀ i, i < ps.length → GoodQ (ps.getD i plD)))
set_option maxHeartbeats 3200000 in
theorem l_szPlaceS (A : Option Addr) (c : Nat) (ps : List Pl) (left : Int) (w : World) (h : SlAt w 5 encQ A ps) (hn : ps.length ≤ 9223372036854775807) (hr : ∀ i, i < ps.length → ArgP1 w (ps.getD i plD)) (h0 : 0 ≤ left) (h1 : left ≤ 1048576) :
    Calls Tryz.prog 50 #[.slice A ps.length c, .int .i64 left] w fun e w' => (∃ z : Int, e = .returned (.int .i64 z) ∧ SzQs ps z) ∧ Ext w w' := by
  have HR := Lib.hid hr
  clear hr
  by_cases hc : left - (ps.length : Int) < 0
  · go_enter Tryz.func50, Tryz.ntmps50
    go_wp2
    go_ret
    exact ⟨⟨-1, rfl, by omega, .inl rfl⟩, by (repeat (first | with_reducible exact Ext.refl _ | with_reducible assumption | ((with_reducible apply Src.ext); with_reducible assumption) | with_reducible refine Ext.alloc ?_ _ | with_reducible refine Ext.drew ?_ | with_reducible refine Ext.drewN ?_ _ | ((with_reducible refine Ext.setCell' ?_ ?_ _); solve | omega | simp | (simp; omega)) | (with_reducible refine Ext.trans ?_ (by with_reducible assumption))))⟩
  · have hl : ps.length ≤ 1048576 := by omega
    go_enter Tryz.func50, Tryz.ntmps50
    go_wp2
    go_loopw [1, 5] (fun l i wr => ∃ (k : Nat) (z : Int), k ≤ ps.length ∧ i = .int .i64 k ∧ l = .int .i64 z ∧ 0 ≤ z ∧ z ≤ 1048576 ∧ Hid (∀ i, i < k → GoodQ (ps.getD i plD)) ∧ Ext w wr) (fun _ i _ => ps.length - (intOf i).toNat)
    case atStart => exact ⟨0, left - ps.length, by omega, rfl, rfl, by omega, by omega, fun j hj => absurd hj (by omega), by (repeat (first | with_reducible exact Ext.refl _ | with_reducible assumption | ((with_reducible apply Src.ext); with_reducible assumption) | with_reducible refine Ext.alloc ?_ _ | with_reducible refine Ext.drew ?_ | with_reducible refine Ext.drewN ?_ _ | ((with_reducible refine Ext.setCell' ?_ ?_ _); solve | omega | simp | (simp; omega)) | (with_reducible refine Ext.trans ?_ (by with_reducible assumption))))⟩
    case round =>
      obtain ⟨k, z, hk, rfl, rfl, hz0, hz1, HJ, hxr⟩ := hrel
      by_cases hlt : k < ps.length
      · obtain ⟨b, off, rfl, hb, d0, d1, d2, d3, d4⟩ := (h.ext hxr).pl hlt
        have hm := HR.out k hlt
        obtain ⟨v, hve⟩ : ∃ v, v = ps.getD k plD := ⟨_, rfl⟩
        rw [← hve] at d0 d1 d2 d3 d4 hm
        have HV := Lib.hid hve
        have HC := Lib.hid (l_szPlace v z wr ⟨hm.1.ext hxr, hm.2⟩ hz0 hz1)
        clear hve hm
        go_wp2_with fail
        refine HC.out.mono ?_
        rintro e w' ⟨⟨z', rfl, hz2, hzz⟩, hx'⟩
        rcases hzz with rfl | ⟨hz3, hg⟩
        · go_wp2
          go_ret
          exact ⟨⟨-1, rfl, by omega, .inl rfl⟩, by (repeat (first | with_reducible exact Ext.refl _ | with_reducible assumption | ((with_reducible apply Src.ext); with_reducible assumption) | with_reducible refine Ext.alloc ?_ _ | with_reducible refine Ext.drew ?_ | with_reducible refine Ext.drewN ?_ _ | ((with_reducible refine Ext.setCell' ?_ ?_ _); solve | omega | simp | (simp; omega)) | (with_reducible refine Ext.trans ?_ (by with_reducible assumption))))⟩
        · have HJ2 := Lib.hid (upTo_succ HJ.out (show GoodQ (ps.getD k plD) by rw [← HV.out]; exact hg))
          clear hg
          go_wp2
          go_roundw
          case rel => exact ⟨k + 1, z', by omega, by go_num, rfl, by omega, by omega, HJ2, by (repeat (first | with_reducible exact Ext.refl _ | with_reducible assumption | ((with_reducible apply Src.ext); with_reducible assumption) | with_reducible refine Ext.alloc ?_ _ | with_reducible refine Ext.drew ?_ | with_reducible refine Ext.drewN ?_ _ | ((with_reducible refine Ext.setCell' ?_ ?_ _); solve | omega | simp | (simp; omega)) | (with_reducible refine Ext.trans ?_ (by with_reducible assumption))))⟩
          case measure => simp [intOf]; omega
      · obtain rfl : k = ps.length := by omega
        go_wp2
        go_ret
        exact ⟨⟨z, rfl, by omega, .inr ⟨hz0, hl, HJ.out⟩⟩, by (repeat (first | with_reducible exact Ext.refl _ | with_reducible assumption | ((with_reducible apply Src.ext); with_reducible assumption) | with_reducible refine Ext.alloc ?_ _ | with_reducible refine Ext.drew ?_ | with_reducible refine Ext.drewN ?_ _ | ((with_reducible refine Ext.setCell' ?_ ?_ _); solve | omega | simp | (simp; omega)) | (with_reducible refine Ext.trans ?_ (by with_reducible assumption))))⟩
set_option maxHeartbeats 3200000 in
theorem l_toPlace (p : Pl) (w : World) (hS : SlAt w 5 encN p.2.2.2.2.1 p.2.2.2.2.2.2) (hl : p.2.2.2.2.2.2.length ≤ 1048576) :
    Calls Tryz.prog 103 #[.agg #[.string (tx p.1), .int .i64 p.2.1, .int .i64 p.2.2.1, .int .i64 p.2.2.2.1, .slice p.2.2.2.2.1 p.2.2.2.2.2.2.length p.2.2.2.2.2.1]] w
      fun e w' => ∃ g cs, e = .returned (.agg #[.string (tx p.1), .int .i64 p.2.1, .int .i64 p.2.2.1, .int .i64 p.2.2.2.1, .slice (some ⟨g, 0, none⟩) p.2.2.2.2.2.2.length p.2.2.2.2.2.2.length]) ∧ w.heap.size ≤ g ∧ Blk w' g 143 cs ∧ cs.toList = p.2.2.2.2.2.2.flatMap encN ∧ Ext w w' := by
  have HC := Lib.hid (fun W hx => l_toNameS p.2.2.2.2.1 p.2.2.2.2.2.2.length p.2.2.2.2.2.1 p.2.2.2.2.2.2 W (hS.ext hx) rfl hl)
  generalize tx p.1 = h at *
  generalize p.2.1 = cl at *
  generalize p.2.2.1 = a at *
  generalize p.2.2.2.1 = b at *
  generalize p.2.2.2.2.1 = A at *
  generalize p.2.2.2.2.2.1 = c at *
  generalize p.2.2.2.2.2.2 = ns at *
  generalize hn : ns.length = n at *
  clear hS hl hn
  go_enter Tryz.func103, Tryz.ntmps103
  (go_wp2_with fail; refine (l_toSpan _ _ _).mono ?_; rintro e w1 ⟨rfl, hx1⟩; obtain ⟨hc1, hf1⟩ := hx1.rules; have hs1 := hx1.size; (try simp at hs1); have := (show w.heap.size < w1.heap.size from by omega); have := (show w.heap.size + 1 < w1.heap.size from by omega); have := (show w.heap.size + 1 + 1 < w1.heap.size from by omega))
  go_wp2_with fail
  refine (HC.out _ (by (repeat (first | with_reducible exact Ext.refl _ | with_reducible assumption | ((with_reducible apply Src.ext); with_reducible assumption) | with_reducible refine Ext.alloc ?_ _ | with_reducible refine Ext.drew ?_ | with_reducible refine Ext.drewN ?_ _ | ((with_reducible refine Ext.setCell' ?_ ?_ _); solve | omega | simp | (simp; omega)) | (with_reducible refine Ext.trans ?_ (by with_reducible assumption)))))).mono ?_
  rintro e w2 ⟨cs, rfl, hB, hcs, hx2⟩
  (try simp at hB)
  have HCS := Lib.hid hcs
  obtain ⟨hc2, hf2⟩ := hx2.rules
  have hs2 := hx2.size
  (try simp at hs2)
  have := (show w.heap.size < w2.heap.size from by omega)
  have := (show w.heap.size + 1 < w2.heap.size from by omega)
  have := (show w.heap.size + 1 + 1 < w2.heap.size from by omega)
  clear hcs
  go_wp2
  refine ret_b5 (b0 := w.heap.size + 1) (t := 78) (v := .agg #[.string h, .int .i64 cl, .int .i64 a, .int .i64 b, .slice (some ⟨w1.heap.size, 0, none⟩) n n]) (Blk.eq (by (repeat (first | with_reducible assumption | ((with_reducible apply Blk.new); solve | simp | rfl) | with_reducible apply Blk.drew | with_reducible apply Blk.drewN | ((with_reducible apply Blk.far'); solve | omega | simp | (simp; omega)) | with_reducible apply Blk.set_ | with_reducible apply Blk.alloc | ((with_reducible apply Blk.ext'); with_reducible assumption) | ((with_reducible apply Blk.but'); (with_reducible assumption); solve | omega | (simp; omega))))) (by rfl)) rfl (by intro W' r0 r1 r2 r3 r4; simp [results, Tryz.results103, go_sem, r0, r1, r2, r3, r4]) ⟨w1.heap.size, cs, rfl, by omega, ?_, HCS.out, ?_⟩
  · (repeat (first | with_reducible assumption | ((with_reducible apply Blk.new); solve | simp | rfl) | with_reducible apply Blk.drew | with_reducible apply Blk.drewN | ((with_reducible apply Blk.far'); solve | omega | simp | (simp; omega)) | with_reducible apply Blk.set_ | with_reducible apply Blk.alloc | ((with_reducible apply Blk.ext'); with_reducible assumption) | ((with_reducible apply Blk.but'); (with_reducible assumption); solve | omega | (simp; omega))))
  · (repeat (first | with_reducible exact Ext.refl _ | with_reducible assumption | ((with_reducible apply Src.ext); with_reducible assumption) | with_reducible refine Ext.alloc ?_ _ | with_reducible refine Ext.drew ?_ | with_reducible refine Ext.drewN ?_ _ | ((with_reducible refine Ext.setCell' ?_ ?_ _); solve | omega | simp | (simp; omega)) | (with_reducible refine Ext.trans ?_ (by with_reducible assumption))))
/-- places whose names lie in blocks of the call's own, one behind the other -/
def blkQ (v : Pl) : Nat := match v.2.2.2.2.1 with
  | some q => q.block
  | none => 0
def PlOwn (w : World) (base : Nat) (vs : List Pl) : Prop := ∀ k, k < vs.length → ∃ g cs, (vs.getD k plD).2.2.2.2.1 = some ⟨g, 0, none⟩ ∧ (vs.getD k plD).2.2.2.2.2.1 = (vs.getD k plD).2.2.2.2.2.2.length ∧ base < g ∧ Blk w g 143 cs ∧
  cs.toList = (vs.getD k plD).2.2.2.2.2.2.flatMap encN ∧ (∀ j, j < k → blkQ (vs.getD j plD) < g) ∧ GoodQ (vs.getD k plD)
theorem PlOwn.mono {w w' : World} {base : Nat} {vs : List Pl} (h : PlOwn w base vs) (hb : ∀ g t cs, base < g → Blk w g t cs → Blk w' g t cs) : PlOwn w' base vs := fun k hk => by
  obtain ⟨g, cs, a, a', b, c, d⟩ := h k hk
  exact ⟨g, cs, a, a', b, hb g _ cs b c, d⟩
theorem PlOwn.ext {w w' : World} {base : Nat} {vs : List Pl} (h : PlOwn w base vs) (hx : Ext w w') : PlOwn w' base vs := h.mono fun _ _ _ _ hB => hB.ext hx
theorem PlOwn.snoc {w : World} {base g : Nat} {cs : Array Value} {vs : List Pl} {v : Pl} (h : PlOwn w base vs) (hg : base < g) (hv : v.2.2.2.2.1 = some ⟨g, 0, none⟩) (hv2 : v.2.2.2.2.2.1 = v.2.2.2.2.2.2.length) (hB : Blk w g 143 cs) (hcs : cs.toList = v.2.2.2.2.2.2.flatMap encN) (hlt : ∀ j, j < vs.length → blkQ (vs.getD j plD) < g)
    (hG : GoodQ v) : PlOwn w base (vs ++ [v]) := fun k hk => by
  rw [List.length_append, List.length_singleton] at hk
  rw [getD_snoc hk]
  split
  · rename_i hkl
    obtain ⟨g', cs', a, a', b, c, d, e, f⟩ := h k hkl
    exact ⟨g', cs', a, a', b, c, d, fun j hj => by rw [getD_snoc (by omega), if_pos (by omega)]; exact e j hj, f⟩
  · obtain rfl : k = vs.length := by omega
    exact ⟨g, cs, hv, hv2, hg, hB, hcs, fun j hj => by rw [getD_snoc (by omega), if_pos hj]; exact hlt j hj, hG⟩
theorem PlOwn.places {w : World} {base : Nat} {vs : List Pl} (h : PlOwn w base vs) : Places w vs := fun v hv => by
  obtain ⟨k, hk, rfl⟩ := List.mem_iff_getElem.1 hv
  obtain ⟨g, cs, a, a', b, c, d, e, f⟩ := h k hk
  have hge : vs.getD k plD = vs[k] := by simp [List.getD, hk]
  rw [hge] at a a' d f
  refine ⟨?_, ?_, f⟩
  · rw [a]; exact c.sl d len_encN
  · rw [a']; exact Nat.le_refl _
theorem PlOwn.blk_lt {w : World} {base : Nat} {vs : List Pl} (h : PlOwn w base vs) {k : Nat} (hk : k < vs.length) : blkQ (vs.getD k plD) < w.heap.size ∧ base < blkQ (vs.getD k plD) := by
  obtain ⟨g, cs, a, a', b, c, _⟩ := h k hk
  unfold blkQ
  rw [a]
  exact ⟨c.lt, b⟩
theorem elQ : ElT Tryz.prog 30 78 5 64 := ElT.mk' (z := .agg #[.string .empty, .int .i64 0, .int .i64 0, .int .i64 0, .slice none 0 0]) Tryz.underlying30 (by kernel_rfl) rfl (by omega)
/-- the first elements of a row of places have been written -/
def FillQ (n : Nat) (vs : List Pl) (cs : Array Value) : Prop := cs.size = n * 5 ∧ ∀ j, j < vs.length * 5 → cs[j]? = (vs.flatMap encQ)[j]?
theorem FillQ.step {n : Nat} {vs : List Pl} {cs : Array Value} {v : Pl} (h : FillQ n vs cs) (hl : vs.length < n) :
    FillQ n (vs ++ [v]) (((((cs.setIfInBounds (vs.length * 5) (.string (tx v.1))).setIfInBounds (vs.length * 5 + 1) (.int .i64 v.2.1)).setIfInBounds (vs.length * 5 + 2) (.int .i64 v.2.2.1)).setIfInBounds (vs.length * 5 + 3) (.int .i64 v.2.2.2.1)).setIfInBounds (vs.length * 5 + 4) (.slice v.2.2.2.2.1 v.2.2.2.2.2.2.length v.2.2.2.2.2.1)) := by
  have hs := h.1
  have hlen := flatMap_len len_encQ vs
  refine ⟨by simpa using h.1, fun j hj => ?_⟩
  rw [List.flatMap_append]
  by_cases e : j < vs.length * 5
  · rw [Array.getElem?_setIfInBounds_ne (by omega), Array.getElem?_setIfInBounds_ne (by omega), Array.getElem?_setIfInBounds_ne (by omega), Array.getElem?_setIfInBounds_ne (by omega), Array.getElem?_setIfInBounds_ne (by omega), List.getElem?_append_left (by omega)]
    exact h.2 j e
  · rw [List.length_append, List.length_singleton] at hj
    rw [List.getElem?_append_right (by omega), hlen]
    obtain ⟨i, rfl⟩ : ∃ i, j = vs.length * 5 + i := ⟨j - vs.length * 5, by omega⟩
    rw [show vs.length * 5 + i - vs.length * 5 = i by omega]
    rcases (show i = 0 ∨ i = 1 ∨ i = 2 ∨ i = 3 ∨ i = 4 by omega) with rfl | rfl | rfl | rfl | rfl
    · rw [Array.getElem?_setIfInBounds_ne (by omega), Array.getElem?_setIfInBounds_ne (by omega), Array.getElem?_setIfInBounds_ne (by omega), Array.getElem?_setIfInBounds_ne (by omega), Nat.add_zero, Array.getElem?_setIfInBounds_self_of_lt (by omega)]; rfl
    · rw [Array.getElem?_setIfInBounds_ne (by omega), Array.getElem?_setIfInBounds_ne (by omega), Array.getElem?_setIfInBounds_ne (by omega), Array.getElem?_setIfInBounds_self_of_lt (by simp; omega)]; rfl
    · rw [Array.getElem?_setIfInBounds_ne (by omega), Array.getElem?_setIfInBounds_ne (by omega), Array.getElem?_setIfInBounds_self_of_lt (by simp; omega)]; rfl
    · rw [Array.getElem?_setIfInBounds_ne (by omega), Array.getElem?_setIfInBounds_self_of_lt (by simp; omega)]; rfl
    · rw [Array.getElem?_setIfInBounds_self_of_lt (by simp; omega)]; rfl
theorem FillQ.done {vs : List Pl} {cs : Array Value} (h : FillQ vs.length vs cs) : cs.toList = vs.flatMap encQ := by
  apply List.ext_getElem?
  intro j
  rcases Nat.lt_or_ge j (vs.length * 5) with hj | hj
  · rw [Array.getElem?_toList]; exact h.2 j hj
  · rw [List.getElem?_eq_none (by rw [Array.length_toList, h.1]; exact hj), List.getElem?_eq_none (by rw [flatMap_len len_encQ]; exact hj)]
set_option maxHeartbeats 6400000 in
theorem l_toPlaceS (A : Option Addr) (c : Nat) (vs : List Pl) (w : World) (h : SlAt w 5 encQ A vs) (hr : ∀ i, i < vs.length → ArgP1 w (vs.getD i plD)) (hl : vs.length ≤ 1048576) (hs : ∀ i, i < vs.length → GoodQ (vs.getD i plD)) :
    Calls Tryz.prog 53 #[.slice A vs.length c] w fun e w' => ∃ (vs' : List Pl) (cs : Array Value), e = .returned (.slice (some ⟨w.heap.size, 0, none⟩) vs.length vs.length) ∧ vs'.length = vs.length ∧ psD vs' = psD vs ∧ Blk w' w.heap.size 78 cs ∧ cs.toList = vs'.flatMap encQ ∧ PlOwn w' w.heap.size vs' ∧ Ext w w' := by
  obtain ⟨hu, ⟨i0, z0, hi, hz, hz1, hz2, hz3⟩, _⟩ := elQ
  have hzz : i0.zero = some (.agg #[.string .empty, .int .i64 0, .int .i64 0, .int .i64 0, .slice none 0 0]) := by
    have : (Tryz.prog.info? 78).map (fun i => i.zero) = some (some (.agg #[.string .empty, .int .i64 0, .int .i64 0, .int .i64 0, .slice none 0 0])) := by kernel_rfl
    rw [hi] at this
    injection this
  have hmk : ∀ u : World, (Instr.makeSlice 30 (.int .i64 (vs.length : Int)) (.int .i64 (vs.length : Int))).run Tryz.prog u =
      .ok (.slice (some ⟨u.heap.size, 0, none⟩) vs.length vs.length) (u.alloc (.cells (madeCells #[.string .empty, .int .i64 0, .int .i64 0, .int .i64 0, .slice none 0 0] (vs.length * 5)) 78)) := fun u => by
    have h := run_make (P := Tryz.prog) u 30 78 i0 (.agg #[.string .empty, .int .i64 0, .int .i64 0, .int .i64 0, .slice none 0 0]) hu hi hzz .i64 .i64 (vs.length : Int) (vs.length : Int) (by omega) (Int.le_refl _) (by rw [hz2]; omega) (by omega)
    simpa [hz1, Value.cells] using h
  have HR := Lib.hid hr
  have HS := Lib.hid hs
  clear hr hs hz hz3
  go_enter Tryz.func53, Tryz.ntmps53
  go_wp2
  go_loopw [4] (fun i wr => ∃ (k : Nat) (q : List Pl) (cs : Array Value), k ≤ vs.length ∧ i = .int .i64 k ∧ q.length = k ∧ Hid (psD q = (psD vs).take k) ∧ Blk wr w.heap.size 78 cs ∧ Hid (FillQ vs.length q cs) ∧ Hid (PlOwn wr w.heap.size q) ∧ Ext w wr) (fun i _ => vs.length - (intOf i).toNat)
  case atStart => exact ⟨0, [], _, Nat.zero_le _, rfl, rfl, rfl, Blk.new rfl, ⟨by simp [madeCells], fun q hq => absurd hq (by simp)⟩, fun k hk => absurd hk (by simp), by (repeat (first | with_reducible exact Ext.refl _ | with_reducible assumption | ((with_reducible apply Src.ext); with_reducible assumption) | with_reducible refine Ext.alloc ?_ _ | with_reducible refine Ext.drew ?_ | with_reducible refine Ext.drewN ?_ _ | ((with_reducible refine Ext.setCell' ?_ ?_ _); solve | omega | simp | (simp; omega)) | (with_reducible refine Ext.trans ?_ (by with_reducible assumption))))⟩
  case round =>
    obtain ⟨k, q, cs, hk, rfl, hq, HP, hB, HF, HO, hxr⟩ := hrel
    have HQ := Lib.hid hq
    clear hq
    by_cases hlt : k < vs.length
    · obtain ⟨b, off, rfl, hb, d0, d1, d2, d3, d4⟩ := (h.ext hxr).pl hlt
      have hrk := (HR.out k hlt).1.ext hxr
      have hsk := HS.out k hlt
      have HAT := Lib.hid (psD_at hlt)
      obtain ⟨v, hve⟩ : ∃ v, v = vs.getD k plD := ⟨_, rfl⟩
      rw [← hve] at d0 d1 d2 d3 d4 hrk hsk HAT
      have HSK := Lib.hid hsk
      have HC := Lib.hid (l_toPlace v wr hrk hsk.2.1)
      clear hve hrk hsk
      have hcz := HF.out.1
      obtain ⟨u0, hu0⟩ : ∃ u, cs[k * 5]? = some u := ⟨_, Array.getElem?_eq_getElem (by omega)⟩
      obtain ⟨u1, hu1⟩ : ∃ u, cs[k * 5 + 1]? = some u := ⟨_, Array.getElem?_eq_getElem (by omega)⟩
      obtain ⟨u2, hu2⟩ : ∃ u, cs[k * 5 + 2]? = some u := ⟨_, Array.getElem?_eq_getElem (by omega)⟩
      obtain ⟨u3, hu3⟩ : ∃ u, cs[k * 5 + 3]? = some u := ⟨_, Array.getElem?_eq_getElem (by omega)⟩
      obtain ⟨u4, hu4⟩ : ∃ u, cs[k * 5 + 4]? = some u := ⟨_, Array.getElem?_eq_getElem (by omega)⟩
      have c0 := (hB.cell (k * 5)).trans hu0
      have c1 := (hB.cell (k * 5 + 1)).trans hu1
      have c2 := (hB.cell (k * 5 + 2)).trans hu2
      have c3 := (hB.cell (k * 5 + 3)).trans hu3
      have c4 := (hB.cell (k * 5 + 4)).trans hu4
      have f0 := hB.frozen (k * 5)
      have f1 := hB.frozen (k * 5 + 1)
      have f2 := hB.frozen (k * 5 + 2)
      have f3 := hB.frozen (k * 5 + 3)
      have f4 := hB.frozen (k * 5 + 4)
      have hBl := hB.lt
      clear hu0 hu1 hu2 hu3 hu4 hcz
      go_wp2_with fail
      refine HC.out.mono ?_
      rintro e w1 ⟨g1, cs1, rfl, hg1, hB1, hcs1, hx1⟩
      obtain ⟨hc1, hf1⟩ := hx1.rules
      have hs1 := hx1.size
      have hl1 : w.heap.size < w1.heap.size := by omega
      have HCS := Lib.hid hcs1
      clear hcs1
      go_wp2
      go_roundw
      case rel =>
        refine ⟨k + 1, q ++ [(v.1, v.2.1, v.2.2.1, v.2.2.2.1, some ⟨g1, 0, none⟩, v.2.2.2.2.2.2.length, v.2.2.2.2.2.2)], _, by omega, by go_num, by rw [List.length_append, HQ.out]; rfl, ?_, Blk.eq ((((((hB.ext hx1).set_ _ _).set_ _ _).set_ _ _).set_ _ _).set_ _ _) rfl, ?_, ?_, by (repeat (first | with_reducible exact Ext.refl _ | with_reducible assumption | ((with_reducible apply Src.ext); with_reducible assumption) | with_reducible refine Ext.alloc ?_ _ | with_reducible refine Ext.drew ?_ | with_reducible refine Ext.drewN ?_ _ | ((with_reducible refine Ext.setCell' ?_ ?_ _); solve | omega | simp | (simp; omega)) | (with_reducible refine Ext.trans ?_ (by with_reducible assumption))))⟩
        · have hkp : k < (psD vs).length := by rw [psD_len]; exact hlt
          have hpk : (psD vs)[k] = pdOf v := by
            have := HAT.out
            rw [← this]; simp [List.getD, hkp]
          refine Lib.hid ?_
          rw [List.take_succ_eq_append_getElem hkp, ← HP.out, hpk]
          simp [psD, pdOf]
        · have := HF.out.step (v := (v.1, v.2.1, v.2.2.1, v.2.2.2.1, some ⟨g1, 0, none⟩, v.2.2.2.2.2.2.length, v.2.2.2.2.2.2)) (by rw [HQ.out]; exact hlt)
          rw [HQ.out] at this
          exact Lib.hid this
        · have hne : ∀ g, w.heap.size < g → ¬ g = w.heap.size := fun g h => by omega
          refine Lib.hid (PlOwn.snoc (g := g1) (cs := cs1) ((HO.out.ext hx1).mono fun g t cs hg hB => ((((hB.far (hne g hg) _).far (hne g hg) _).far (hne g hg) _).far (hne g hg) _).far (hne g hg) _) (by omega) rfl rfl
            (((((hB1.far (hne g1 (by omega)) _).far (hne g1 (by omega)) _).far (hne g1 (by omega)) _).far (hne g1 (by omega)) _).far (hne g1 (by omega)) _) HCS.out
            (fun j hj => Nat.lt_of_lt_of_le (HO.out.blk_lt hj).1 hg1) ⟨HSK.out.1, HSK.out.2.1, HSK.out.2.2⟩)
      case measure => simp [intOf]; omega
    · go_wp2
      go_ret
      obtain rfl : k = vs.length := by omega
      have hf := HF.out
      rw [show vs.length = q.length from HQ.out.symm] at hf
      exact ⟨q, cs, rfl, HQ.out, by rw [HP.out, ← psD_len vs, List.take_length], hB, hf.done, HO.out, hxr⟩
set_option maxHeartbeats 1600000 in
theorem l_eqPlace (v v' : Pl) (w : World) (h : SlAt w 5 encN v.2.2.2.2.1 v.2.2.2.2.2.2) (h' : SlAt w 5 encN v'.2.2.2.2.1 v.2.2.2.2.2.2) (hl : v.2.2.2.2.2.2.length ≤ 1048576) :
    Calls Tryz.prog 106 #[.agg #[.string (tx v.1), .int .i64 v.2.1, .int .i64 v.2.2.1, .int .i64 v.2.2.2.1, .slice v.2.2.2.2.1 v.2.2.2.2.2.2.length v.2.2.2.2.2.1], .agg #[.string (tx v.1), .int .i64 v.2.1, .int .i64 v.2.2.1, .int .i64 v.2.2.2.1, .slice v'.2.2.2.2.1 v.2.2.2.2.2.2.length v'.2.2.2.2.2.1]] w fun e w' => e = .returned (.bool true) ∧ Ext w w' := by
  have HC := Lib.hid (fun W hx => l_eqNameS v.2.2.2.2.1 v'.2.2.2.2.1 v.2.2.2.2.2.2.length v.2.2.2.2.2.1 v'.2.2.2.2.2.1 v.2.2.2.2.2.2 W (h.ext hx) (h'.ext hx) rfl hl)
  generalize tx v.1 = x at *
  generalize v.2.1 = cl at *
  generalize v.2.2.1 = a at *
  generalize v.2.2.2.1 = b at *
  generalize v.2.2.2.2.1 = A at *
  generalize v.2.2.2.2.2.1 = c at *
  generalize v'.2.2.2.2.1 = A' at *
  generalize v'.2.2.2.2.2.1 = c' at *
  generalize v.2.2.2.2.2.2.length = n at *
  have hxx : (x.toList == x.toList) = true := by simp
  have hcl : (cl != cl) = false := by simp
  clear h h' hl
  go_enter Tryz.func106, Tryz.ntmps106
  (go_wp2_with fail; refine (l_eqSpan_self _ _ _).mono ?_; rintro e w1 ⟨rfl, hx1⟩; obtain ⟨hc1, hf1⟩ := hx1.rules; have hs1 := hx1.size; (try simp at hs1); have := (show w.heap.size < w1.heap.size from by omega); have := (show w.heap.size + 1 < w1.heap.size from by omega))
  have B0 : Blk w1 w.heap.size 78 #[.string x, .int .i64 cl, .int .i64 a, .int .i64 b, .slice A n c] := Blk.eq (by (repeat (first | with_reducible assumption | ((with_reducible apply Blk.new); solve | simp | rfl) | with_reducible apply Blk.drew | with_reducible apply Blk.drewN | ((with_reducible apply Blk.far'); solve | omega | simp | (simp; omega)) | with_reducible apply Blk.set_ | with_reducible apply Blk.alloc | ((with_reducible apply Blk.ext'); with_reducible assumption) | ((with_reducible apply Blk.but'); (with_reducible assumption); solve | omega | (simp; omega))))) (by rfl)
  have B1 : Blk w1 (w.heap.size + 1) 78 #[.string x, .int .i64 cl, .int .i64 a, .int .i64 b, .slice A' n c'] := Blk.eq (by (repeat (first | with_reducible assumption | ((with_reducible apply Blk.new); solve | simp | rfl) | with_reducible apply Blk.drew | with_reducible apply Blk.drewN | ((with_reducible apply Blk.far'); solve | omega | simp | (simp; omega)) | with_reducible apply Blk.set_ | with_reducible apply Blk.alloc | ((with_reducible apply Blk.ext'); with_reducible assumption) | ((with_reducible apply Blk.but'); (with_reducible assumption); solve | omega | (simp; omega))))) (by rfl)
  have e0 : w1.cell? ⟨w.heap.size, 4, none⟩ = some (.slice A n c) := B0.cell 4
  have e1 : w1.cell? ⟨w.heap.size + 1, 4, none⟩ = some (.slice A' n c') := B1.cell 4
  clear B0 B1
  go_wp2_with fail
  refine (HC.out _ (by (repeat (first | with_reducible exact Ext.refl _ | with_reducible assumption | ((with_reducible apply Src.ext); with_reducible assumption) | with_reducible refine Ext.alloc ?_ _ | with_reducible refine Ext.drew ?_ | with_reducible refine Ext.drewN ?_ _ | ((with_reducible refine Ext.setCell' ?_ ?_ _); solve | omega | simp | (simp; omega)) | (with_reducible refine Ext.trans ?_ (by with_reducible assumption)))))).mono ?_
  rintro e w2 ⟨rfl, hx2⟩
  go_wp2
  go_ret
  exact ⟨rfl, by (repeat (first | with_reducible exact Ext.refl _ | with_reducible assumption | ((with_reducible apply Src.ext); with_reducible assumption) | with_reducible refine Ext.alloc ?_ _ | with_reducible refine Ext.drew ?_ | with_reducible refine Ext.drewN ?_ _ | ((with_reducible refine Ext.setCell' ?_ ?_ _); solve | omega | simp | (simp; omega)) | (with_reducible refine Ext.trans ?_ (by with_reducible assumption))))⟩
theorem psD_at' {vs vs' : List Pl} (h : psD vs = psD vs') {k : Nat} (hk : k < vs.length) : pdOf (vs'.getD k plD) = pdOf (vs.getD k plD) := by
  have hl : vs.length = vs'.length := by rw [← psD_len vs, h, psD_len]
  have h1 := psD_at hk
  rw [h, psD_at (by omega)] at h1
  exact h1
set_option maxHeartbeats 3200000 in
theorem l_eqPlaceS (A A' : Option Addr) (n c c' : Nat) (vs vs' : List Pl) (w : World) (h : SlAt w 5 encQ A vs) (h' : SlAt w 5 encQ A' vs') (hr : Places w vs) (hr' : Places w vs') (he : psD vs = psD vs') (hn : n = vs.length) (hl : n ≤ 1048576) :
    Calls Tryz.prog 58 #[.slice A n c, .slice A' n c'] w fun e w' => e = .returned (.bool true) ∧ Ext w w' := by
  have hn1 : (((n : Nat) : Int) != (n : Int)) = false := by simp
  have hn' : vs.length = vs'.length := by rw [← psD_len vs, he, psD_len]
  have HN := Lib.hid hn
  have HN' := Lib.hid hn'
  have HE := Lib.hid he
  clear hn hn' he
  go_enter Tryz.func58, Tryz.ntmps58
  go_wp2
  go_loopw [5] (fun i wr => ∃ k : Nat, k ≤ n ∧ i = .int .i64 k ∧ Ext w wr) (fun i _ => n - (intOf i).toNat)
  case atStart => exact ⟨0, Nat.zero_le _, rfl, by (repeat (first | with_reducible exact Ext.refl _ | with_reducible assumption | ((with_reducible apply Src.ext); with_reducible assumption) | with_reducible refine Ext.alloc ?_ _ | with_reducible refine Ext.drew ?_ | with_reducible refine Ext.drewN ?_ _ | ((with_reducible refine Ext.setCell' ?_ ?_ _); solve | omega | simp | (simp; omega)) | (with_reducible refine Ext.trans ?_ (by with_reducible assumption))))⟩
  case round =>
    obtain ⟨k, hk, rfl, hx⟩ := hrel
    by_cases hlt : k < n
    · have hk1 : k < vs.length := by rw [← HN.out]; exact hlt
      have hk2 : k < vs'.length := by rw [← HN'.out]; exact hk1
      obtain ⟨b, off, rfl, hb, d0, d1, d2, d3, d4⟩ := (h.ext hx).pl hk1
      obtain ⟨b', off', rfl, hb', e0, e1, e2, e3, e4⟩ := (h'.ext hx).pl hk2
      have hp := psD_at' HE.out hk1
      have h1 := (hr.ext hx) _ (pl_mem hk1)
      have h2 := (hr'.ext hx) _ (pl_mem hk2)
      obtain ⟨v, hve⟩ : ∃ r, r = vs.getD k plD := ⟨_, rfl⟩
      obtain ⟨v', hve'⟩ : ∃ r, r = vs'.getD k plD := ⟨_, rfl⟩
      rw [← hve] at d0 d1 d2 d3 d4 hp h1
      rw [← hve'] at e0 e1 e2 e3 e4 hp h2
      clear hve hve' hk1 hk2
      obtain ⟨v1, v2, v3, v4, v5, v6, v7⟩ := v
      obtain ⟨u1, u2, u3, u4, u5, u6, u7⟩ := v'
      simp only [pdOf, Prod.mk.injEq] at hp
      obtain ⟨p1, p2, p3, p4, p5⟩ := hp
      subst p1 p2 p3 p4 p5
      simp only at d0 d1 d2 d3 d4 e0 e1 e2 e3 e4
      have HC := Lib.hid (fun W hx => l_eqPlace (u1, u2, u3, u4, v5, v6, u7) (u1, u2, u3, u4, u5, u6, u7) W (h1.1.ext hx) (h2.1.ext hx) h1.2.2.2.1)
      simp only at HC
      generalize tx u1 = x at *
      clear h1 h2
      go_wp2
      (refine wp_region_ext (by kernel_rfl) (by kernel_rfl) ?_; (repeat (go_big_quiet_step ((go_at_call 106; exact Calls_ext (HC.out _ (ExtOf.ext _)))))); refine wpQuiet_nil ?_; intro wq hxwq; obtain ⟨hcwq, hfwq⟩ := hxwq.rules; have hswq := hxwq.size; (try simp at hswq))
      go_wp2
      go_roundw
      case rel => exact ⟨k + 1, by omega, by go_num, by (repeat (first | with_reducible exact Ext.refl _ | with_reducible assumption | ((with_reducible apply Src.ext); with_reducible assumption) | with_reducible refine Ext.alloc ?_ _ | with_reducible refine Ext.drew ?_ | with_reducible refine Ext.drewN ?_ _ | ((with_reducible refine Ext.setCell' ?_ ?_ _); solve | omega | simp | (simp; omega)) | (with_reducible refine Ext.trans ?_ (by with_reducible assumption))))⟩
      case measure => simp [intOf]; omega
    · go_wp2
      go_ret
      exact ⟨rfl, by (repeat (first | with_reducible exact Ext.refl _ | with_reducible assumption | ((with_reducible apply Src.ext); with_reducible assumption) | with_reducible refine Ext.alloc ?_ _ | with_reducible refine Ext.drew ?_ | with_reducible refine Ext.drewN ?_ _ | ((with_reducible refine Ext.setCell' ?_ ?_ _); solve | omega | simp | (simp; omega)) | (with_reducible refine Ext.trans ?_ (by with_reducible assumption))))⟩
/-- the names' slices in a row of places -/
def KeepQ (vs : List Pl) (cs : Array Value) : Prop := cs.size = vs.length * 5 ∧ ∀ q, q < vs.length → cs[q * 5 + 4]? = some (.slice (vs.getD q plD).2.2.2.2.1 (vs.getD q plD).2.2.2.2.2.2.length (vs.getD q plD).2.2.2.2.2.1)
theorem KeepQ.start {vs : List Pl} {cs : Array Value} (h : cs.toList = vs.flatMap encQ) : KeepQ vs cs := by
  refine ⟨?_, fun q hq => ?_⟩
  · rw [← Array.length_toList, h, flatMap_len len_encQ]
  · rw [← Array.getElem?_toList, h]
    exact flatMap_at (enc := encQ) (sz := 5) len_encQ vs q _ 4 _ (by simp [List.getD, hq]) rfl
theorem KeepQ.step {vs : List Pl} {cs : Array Value} {j i : Nat} {u : Value} (h : KeepQ vs cs) (hi : i < 4) : KeepQ vs (cs.setIfInBounds (j * 5 + i) u) := by
  refine ⟨by simpa using h.1, fun q hq => ?_⟩
  rw [Array.getElem?_setIfInBounds_ne (by omega)]
  exact h.2 q hq
theorem KeepQ.step0 {vs : List Pl} {cs : Array Value} {j : Nat} {u : Value} (h : KeepQ vs cs) : KeepQ vs (cs.setIfInBounds (j * 5) u) := h.step (i := 0) (by omega)
set_option maxRecDepth 20000 in
set_option maxHeartbeats 12800000 in
theorem l_markPlaceS (lo hi base n c k : Nat) (vs : List Pl) (cs : Array Value) (w : World) (hB : Blk w base 78 cs) (hcs : cs.toList = vs.flatMap encQ) (hO : PlOwn w base vs) (hn : n = vs.length) (hl : n ≤ 1048576) (hk : 0 < k) (hk' : k ≤ 1000000000) (h1 : lo ≤ base) (h2 : base < hi) (hhi : ∀ j, j < vs.length → blkQ (vs.getD j plD) < hi) :
    Calls Tryz.prog 59 #[.slice (some ⟨base, 0, none⟩) n c, .int .i64 k] w fun e w' => ∃ z : Nat, e = .returned (.int .i64 z) ∧ 0 < z ∧ z ≤ 10000000000000 ∧ Btw lo hi w w' := by
  have HN := Lib.hid hn
  have HO := Lib.hid hO
  have HHI := Lib.hid hhi
  have HCS := Lib.hid (KeepQ.start hcs)
  clear hO hhi hcs hn
  go_enter Tryz.func59, Tryz.ntmps59
  go_wp2
  go_loopw [1, 5] (fun m i wr => ∃ (j z : Nat) (cs' : Array Value), j ≤ n ∧ i = .int .i64 j ∧ m = .int .i64 z ∧ 0 < z ∧ z ≤ k + j * 5242884 ∧ Blk wr base 78 cs' ∧ Hid (KeepQ vs cs') ∧
    Hid (∀ q, j ≤ q → q < vs.length → ∃ g cs, (vs.getD q plD).2.2.2.2.1 = some ⟨g, 0, none⟩ ∧ (vs.getD q plD).2.2.2.2.2.1 = (vs.getD q plD).2.2.2.2.2.2.length ∧ base < g ∧ g < hi ∧ Blk wr g 143 cs ∧ cs.size = (vs.getD q plD).2.2.2.2.2.2.length * 5) ∧ Btw lo hi w wr) (fun _ i _ => n - (intOf i).toNat)
  case atStart =>
    refine ⟨0, k, cs, Nat.zero_le _, rfl, rfl, hk, by omega, hB, HCS, Lib.hid (fun q _ hq => ?_), Btw.refl _ _ _⟩
    obtain ⟨g, cs, e, e', hg, hB, hcs, _⟩ := HO.out q hq
    have hgh := HHI.out q hq
    unfold blkQ at hgh
    rw [e] at hgh
    exact ⟨g, cs, e, e', hg, hgh, hB, by rw [← Array.length_toList, hcs, flatMap_len len_encN]⟩
  case round =>
    obtain ⟨j, z, cs', hj, rfl, rfl, hz, hz2, hBr, HKP, HR, HM⟩ := hrel
    by_cases hlt : j < n
    · have hjv : j < vs.length := by rw [← HN.out]; exact hlt
      obtain ⟨g, gs, eg, ecap, hg, hgw, hgB, hgs⟩ := HR.out j (Nat.le_refl _) hjv
      have hlen : (vs.getD j plD).2.2.2.2.2.2.length ≤ 1048576 := by
        obtain ⟨_, _, _, _, _, _, _, _, hx⟩ := HO.out j hjv
        exact hx.2.1
      have hcz := HKP.out.1
      have HNZ := Lib.hid hcz
      obtain ⟨u0, hu0⟩ : ∃ u, cs'[j * 5]? = some u := ⟨_, Array.getElem?_eq_getElem (by omega)⟩
      obtain ⟨u1, hu1⟩ : ∃ u, cs'[j * 5 + 1]? = some u := ⟨_, Array.getElem?_eq_getElem (by omega)⟩
      obtain ⟨u2, hu2⟩ : ∃ u, cs'[j * 5 + 2]? = some u := ⟨_, Array.getElem?_eq_getElem (by omega)⟩
      obtain ⟨u3, hu3⟩ : ∃ u, cs'[j * 5 + 3]? = some u := ⟨_, Array.getElem?_eq_getElem (by omega)⟩
      have hu4 := HKP.out.2 j hjv
      rw [← hBr.cell] at hu0 hu1 hu2 hu3 hu4
      rw [eg, ecap] at hu4
      have f0 := hBr.frozen (j * 5)
      have f1 := hBr.frozen (j * 5 + 1)
      have f2 := hBr.frozen (j * 5 + 2)
      have f3 := hBr.frozen (j * 5 + 3)
      have hBl := hBr.lt
      have hgl := hgB.lt
      have HT := Lib.hid (fun W => l_markText z W hz (by omega))
      have HK2 : Hid (KeepQ vs ((((cs'.setIfInBounds (j * 5) (.string (tx (mkL z)))).setIfInBounds (j * 5 + 1) (.int .i64 ((z : Int) + 1))).setIfInBounds (j * 5 + 2) (.int .i64 ((z : Int) + 2))).setIfInBounds (j * 5 + 3) (.int .i64 ((z : Int) + 3)))) := Lib.hid ((((HKP.out.step0 (j := j)).step (i := 1) (by omega)).step (i := 2) (by omega)).step (i := 3) (by omega))
      have HNX : Hid (∀ q, j + 1 ≤ q → q < vs.length → ∃ g' cs, (vs.getD q plD).2.2.2.2.1 = some ⟨g', 0, none⟩ ∧ (vs.getD q plD).2.2.2.2.2.1 = (vs.getD q plD).2.2.2.2.2.2.length ∧ base < g' ∧ g' < hi ∧ g < g' ∧ Blk wr g' 143 cs ∧ cs.size = (vs.getD q plD).2.2.2.2.2.2.length * 5) := Lib.hid (fun q hq hql => by
        obtain ⟨g', cs', a1, a2, a3, a4, a5, a6⟩ := HR.out q (by omega) hql
        refine ⟨g', cs', a1, a2, a3, a4, ?_, a5, a6⟩
        obtain ⟨g2, cs2, b1, b1', b2, b3, b4, b5, b6⟩ := HO.out q hql
        have hg2 : g2 = g' := by
          rw [b1] at a1
          injection a1 with a1
          injection a1
        have hlt2 := b5 j (by omega)
        unfold blkQ at hlt2
        rw [eg] at hlt2
        simp only at hlt2
        omega)
      obtain ⟨ln, hLe⟩ : ∃ ln, ln = (vs.getD j plD).2.2.2.2.2.2.length := ⟨_, rfl⟩
      rw [← hLe] at hu4 hlen hgs
      have HGS := Lib.hid hgs
      have HGB := Lib.hid hgB
      have n1 : ¬ g = base := by omega
      have n2 : ¬ base = g := by omega
      have hw1 : IntKind.i64.wrap ((z : Int) + 1) = (z : Int) + 1 := IntWalk.i64_in _ (by omega)
      generalize tx (mkL z) = s at *
      clear hLe eg ecap hcz hgs hgB
      go_wp2_with fail
      refine (HT.out _).mono ?_
      rintro e w1 ⟨rfl, hx1⟩
      obtain ⟨hc1, hf1⟩ := hx1.rules
      have hs1 := hx1.size
      (try simp at hs1)
      have := (show base < w1.heap.size from by omega)
      have := (show g < w1.heap.size from by omega)
      have hB1 := hBr.ext hx1
      have HG1 := Lib.hid (HGB.out.ext hx1)
      go_wp2_with fail
      rw [show ((z : Int) + 1 + 1 + 1 + 1) = ((z + 4 : Nat) : Int) by omega]
      refine (l_markNameS g ln ln (z + 4) gs _ (((((HG1.out).far' n1 _).far' n1 _).far' n1 _).far' n1 _) HGS.out hlen (by omega) (by omega)).mono ?_
      rintro e w2 ⟨rfl, _, hu⟩
      have HB2 : Hid (Blk w2 base 78 ((((cs'.setIfInBounds (j * 5) (.string s)).setIfInBounds (j * 5 + 1) (.int .i64 ((z : Int) + 1))).setIfInBounds (j * 5 + 2) (.int .i64 ((z : Int) + 2))).setIfInBounds (j * 5 + 3) (.int .i64 ((z : Int) + 3)))) := Lib.hid (Blk.but' hu n2 (Blk.eq ((((hB1.set_ _ _).set_ _ _).set_ _ _).set_ _ _) (by first | rfl | (congr 1; congr 1; omega))))
      have HM2 : Hid (Btw lo hi w w2) := Lib.hid ((((((HM.on hx1).set_ h1 h2 _ _).set_ h1 h2 _ _).set_ h1 h2 _ _).set_ h1 h2 _ _).grown hu.grown (by omega) hgw)
      have HN2 : Hid (∀ q, j + 1 ≤ q → q < vs.length → ∃ g cs, (vs.getD q plD).2.2.2.2.1 = some ⟨g, 0, none⟩ ∧ (vs.getD q plD).2.2.2.2.2.1 = (vs.getD q plD).2.2.2.2.2.2.length ∧ base < g ∧ g < hi ∧ Blk w2 g 143 cs ∧ cs.size = (vs.getD q plD).2.2.2.2.2.2.length * 5) := Lib.hid (fun q hq hql => by
        obtain ⟨g', cs2, a1, a2, a3, a4, a5, a6, a7⟩ := HNX.out q hq hql
        have n3 : ¬ g' = base := by omega
        exact ⟨g', cs2, a1, a2, a3, a4, Blk.but' hu (by omega) (((((a6.ext hx1).far' n3 _).far' n3 _).far' n3 _).far' n3 _), a7⟩)
      clear hu
      go_wp2
      go_roundw
      case rel => exact ⟨j + 1, z + 4 + 5 * ln, _, by omega, by go_num, rfl, by omega, by omega, HB2.out, HK2, HN2, HM2.out⟩
      case measure => simp [intOf]; omega
    · obtain rfl : j = n := by omega
      go_wp2
      go_ret
      exact ⟨z, rfl, hz, by omega, HM⟩
end Go.Proofs.YtapfokfbdmcokaaGreatDoor
