/- Contracts of the what the library does to lists of points: copies, turned round, joined, walked over the translation. -/
import Derived.Test.YtabdffponmmhoaaGreatDoorG
import Derived.Test.YtabdffponmmhoaaGreatDoorG0
import Derived.Lib.SliceRun
import Derived.Deep.RegionHeld3
import Derived.Deep.DeepCutAuto
import Derived.RegionTactic
import Derived.BigRegion
import Derived.WalkLawsBesides
import Derived.WalkSpells
import Derived.Lib.MinMax
import Derived.Outline
namespace Go.Proofs.YtabdffponmmhoaaGreatDoor
open Go.RowKit
attribute [local go_sem] ExtOf.cell ExtOf.frozen

theorem elP : ElT Tryz.prog 63 35 2 16 := ElT.mk' Tryz.underlying63 info_pt rfl (by omega)
theorem one_encP : ∀ p, ∀ u ∈ encP p, u.oneCell' = true := by
  intro p u hu
  simp [encP] at hu
  rcases hu with rfl | rfl <;> rfl
abbrev OwP (w : World) (base : Nat) (v : Value) (ps : List (Int × Int)) : Prop := Own encP 2 35 w base v ps

theorem i_CloneP (A : Option Addr) (c : Nat) (ps : List (Int × Int)) (w : World) (h : SlAt w 2 encP A ps) (hl : ps.length ≤ 1048576) :
    Calls Tryz.prog 199 #[.slice A ps.length c] w fun e w' => ∃ v, e = .returned v ∧ OwP w' w.heap.size v ps ∧ Ext w w' := by
  have q : ∀ (w : World) (a : Option Addr) (n c n' c' : Nat), (binOp .eql 63 (.slice a n c) (.slice none n' c')).run Tryz.prog w = .ok (.bool a.isNone) w := fun w a n c n' c' => Lib.run_eql_slice_nil w _ _ a n c n' c' Tryz.underlying63
  rcases A with _ | ad
  · have : ps = [] := by
      rcases ps with _ | ⟨x, xs⟩
      · rfl
      · obtain ⟨_, _, e, _⟩ := h (by simp); cases e
    subst this
    go_enter Tryz.func199, Tryz.ntmps199
    go_wp2
    go_ret
    exact ⟨_, rfl, Own.nil _ _, Ext.refl _⟩
  · have hx0 : Ext w (w.alloc (.cells #[] 35)) := (Ext.refl _).alloc _
    go_enter Tryz.func199, Tryz.ntmps199
    go_wp2_with (at_builtin; refine wpList_append_sl elP len_encP one_encP rfl _ _ rfl (base := w.heap.size) (ys := []) rfl (World.ownsRow_made w #[] 0 (Nat.le_refl _) (Nat.zero_le _) rfl) rfl (h.ext hx0) (by unfold maxLen; simp; omega) (by simp; omega) (by simp) ?_)
    intro v' w1 hown hgrow _
    go_wp2
    go_ret
    exact ⟨v', rfl, by simpa using hown, hx0.grown hgrow (by simp [Value.ownBlock])⟩

/-- the list with its first k and its last k elements exchanged, turned round -/
def revAt (ps : List (Int × Int)) (k j : Nat) : Int × Int := ps.getD (if j < k ∨ ps.length ≤ j + k then ps.length - 1 - j else j) (0, 0)
def RevC (ps : List (Int × Int)) (k : Nat) (sz : Nat) (cs : Array Value) : Prop := cs.size = sz ∧ ∀ j, j < ps.length → cs[j * 2]? = some (.int .i64 (revAt ps k j).1) ∧ cs[j * 2 + 1]? = some (.int .i64 (revAt ps k j).2)
theorem RevC.start {ps : List (Int × Int)} {cs : Array Value} (h : cs.toList.take (ps.length * 2) = ps.flatMap encP) : RevC ps 0 cs.size cs := by
  refine ⟨rfl, fun j hj => ?_⟩
  have hg : ps[j]? = some (ps.getD j (0, 0)) := by simp [List.getD, hj]
  have h0 := flatMap_at (enc := encP) (sz := 2) len_encP ps j _ 0 _ hg rfl
  have h1 := flatMap_at (enc := encP) (sz := 2) len_encP ps j _ 1 _ hg rfl
  rw [← h, List.getElem?_take_of_lt (by omega), Array.getElem?_toList] at h0 h1
  have e : revAt ps 0 j = ps.getD j (0, 0) := by unfold revAt; rw [if_neg (by omega)]
  rw [e]
  exact ⟨h0, h1⟩
theorem RevC.step {ps : List (Int × Int)} {k sz : Nat} {cs : Array Value} (h : RevC ps k sz cs) (hk : 2 * k + 1 < ps.length) (hs : ps.length * 2 ≤ sz) :
    RevC ps (k + 1) sz ((((cs.setIfInBounds (k * 2) (.int .i64 (revAt ps k (ps.length - 1 - k)).1)).setIfInBounds (k * 2 + 1) (.int .i64 (revAt ps k (ps.length - 1 - k)).2)).setIfInBounds ((ps.length - 1 - k) * 2) (.int .i64 (revAt ps k k).1)).setIfInBounds ((ps.length - 1 - k) * 2 + 1) (.int .i64 (revAt ps k k).2)) := by
  have hsz := h.1
  refine ⟨by simpa using h.1, fun j hj => ?_⟩
  have hj0 := h.2 j hj
  by_cases e1 : j = k
  · subst e1
    have : revAt ps (j + 1) j = revAt ps j (ps.length - 1 - j) := by unfold revAt; rw [if_pos (by omega), if_neg (by omega)]
    rw [this]
    constructor
    · rw [Array.getElem?_setIfInBounds_ne (by omega), Array.getElem?_setIfInBounds_ne (by omega), Array.getElem?_setIfInBounds_ne (by omega), Array.getElem?_setIfInBounds_self_of_lt (by omega)]
    · rw [Array.getElem?_setIfInBounds_ne (by omega), Array.getElem?_setIfInBounds_ne (by omega), Array.getElem?_setIfInBounds_self_of_lt (by simp; omega)]
  · by_cases e2 : j = ps.length - 1 - k
    · have : revAt ps (k + 1) j = revAt ps k k := by unfold revAt; rw [if_pos (by omega), if_neg (by omega), e2, show ps.length - 1 - (ps.length - 1 - k) = k by omega]
      rw [this, e2]
      constructor
      · rw [Array.getElem?_setIfInBounds_ne (by omega), Array.getElem?_setIfInBounds_self_of_lt (by simp; omega)]
      · rw [Array.getElem?_setIfInBounds_self_of_lt (by simp; omega)]
    · have : revAt ps (k + 1) j = revAt ps k j := by
        unfold revAt
        by_cases c : j < k ∨ ps.length ≤ j + k
        · rw [if_pos c, if_pos (by omega)]
        · rw [if_neg c, if_neg (by omega)]
      rw [this]
      constructor
      · rw [Array.getElem?_setIfInBounds_ne (by omega), Array.getElem?_setIfInBounds_ne (by omega), Array.getElem?_setIfInBounds_ne (by omega), Array.getElem?_setIfInBounds_ne (by omega)]; exact hj0.1
      · rw [Array.getElem?_setIfInBounds_ne (by omega), Array.getElem?_setIfInBounds_ne (by omega), Array.getElem?_setIfInBounds_ne (by omega), Array.getElem?_setIfInBounds_ne (by omega)]; exact hj0.2
/-- cells that read as a list -/
theorem take_cells {ps : List (Int × Int)} {cs : Array Value} (hs : ps.length * 2 ≤ cs.size) (h : ∀ j, j < ps.length → cs[j * 2]? = some (.int .i64 (ps.getD j (0, 0)).1) ∧ cs[j * 2 + 1]? = some (.int .i64 (ps.getD j (0, 0)).2)) : cs.toList.take (ps.length * 2) = ps.flatMap encP := by
  apply List.ext_getElem?
  intro i
  rcases Nat.lt_or_ge i (ps.length * 2) with hi | hi
  · rw [List.getElem?_take_of_lt hi, Array.getElem?_toList]
    have hq : i / 2 < ps.length := by omega
    have hg : ps[i / 2]? = some (ps.getD (i / 2) (0, 0)) := by simp [List.getD, hq]
    have hc := h (i / 2) hq
    rcases Nat.mod_two_eq_zero_or_one i with e | e
    · have h0 := flatMap_at (enc := encP) (sz := 2) len_encP ps (i / 2) _ 0 _ hg rfl
      rw [show i / 2 * 2 + 0 = i by omega] at h0
      rw [h0, ← hc.1, show i / 2 * 2 = i by omega]
    · have h0 := flatMap_at (enc := encP) (sz := 2) len_encP ps (i / 2) _ 1 _ hg rfl
      rw [show i / 2 * 2 + 1 = i by omega] at h0
      rw [h0, ← hc.2, show i / 2 * 2 + 1 = i by omega]
  · have hle : (cs.toList.take (ps.length * 2)).length ≤ i := by simp; omega
    rw [List.getElem?_eq_none hle, List.getElem?_eq_none (by rw [flatMap_len len_encP]; exact hi)]
theorem RevC.done {ps : List (Int × Int)} {k sz : Nat} {cs : Array Value} (h : RevC ps k sz cs) (hk : ps.length ≤ 2 * k + 1) (hk' : 2 * k ≤ ps.length) (hs : ps.length * 2 ≤ sz) : cs.toList.take (ps.length * 2) = ps.reverse.flatMap encP := by
  have := take_cells (ps := ps.reverse) (cs := cs) (by simp; have := h.1; omega) (fun j hj => by
    have hj' : j < ps.length := by simpa using hj
    have e : ps.reverse.getD j (0, 0) = revAt ps k j := by
      unfold revAt
      rw [List.getD_eq_getElem?_getD, List.getElem?_reverse hj', ← List.getD_eq_getElem?_getD]
      split
      · rfl
      · rw [show ps.length - 1 - j = j by omega]
    rw [e]
    exact h.2 j hj')
  rw [List.length_reverse] at this
  exact this
set_option maxHeartbeats 3200000 in
theorem i_ReverseP (base : Nat) (v : Value) (ps : List (Int × Int)) (w : World) (h : OwP w base v ps) (h0 : 0 < ps.length) (hl : ps.length ≤ 1048576) :
    Calls Tryz.prog 201 #[v] w fun e w' => e = .returned (.tuple #[]) ∧ OwP w' base v ps.reverse ∧ w.grownBy w' v.ownBlock := by
  obtain ⟨g, cap, cur, rfl, hb, hB, hn, hm, hs, ht⟩ := h.open_ h0
  have HR := Lib.hid (RevC.start ht)
  clear ht h
  have HM := Lib.hid hm
  clear hm
  go_enter Tryz.func201, Tryz.ntmps201
  go_wp2
  go_loopw [2, 3] (fun i j wr => ∃ (k : Nat) (cs : Array Value), 2 * k ≤ ps.length ∧ i = .int .i64 k ∧ j = .int .i64 ((ps.length : Int) - 1 - k) ∧ Blk wr g 35 cs ∧ Hid (RevC ps k cur.size cs) ∧ But g w wr) (fun i _ _ => ps.length - (intOf i).toNat)
  case atStart => exact ⟨0, cur, by omega, rfl, by congr 1; omega, hB, HR, But.refl g w⟩
  case round =>
    obtain ⟨k, cs, hk, rfl, rfl, hBr, HC, HG⟩ := hrel
    have hgr := hBr.lt
    by_cases hlt : 2 * k + 1 < ps.length
    · obtain ⟨m, hme⟩ : ∃ m, m = ps.length - 1 - k := ⟨_, rfl⟩
      have hmi : (ps.length : Int) - 1 - (k : Int) = (m : Int) := by omega
      have hmk : k < m := by omega
      have hml : m < ps.length := by omega
      have hme' := Lib.hid hme
      obtain ⟨a0, a1⟩ := HC.out.2 k (by omega)
      obtain ⟨b0, b1⟩ := HC.out.2 m hml
      rw [← hBr.cell] at a0 a1 b0 b1
      have f0 := hBr.frozen (k * 2)
      have f1 := hBr.frozen (k * 2 + 1)
      have f2 := hBr.frozen (m * 2)
      have f3 := hBr.frozen (m * 2 + 1)
      rw [hmi]
      clear hme hmi
      go_wp2
      go_region
      all_goals go_wp2
      all_goals go_roundw
      case rel =>
        have hst := HC.out.step hlt (by omega)
        rw [← hme'.out] at hst
        exact ⟨k + 1, _, by omega, by go_num, by rw [show (ps.length : Int) - 1 - ((k + 1 : Nat) : Int) = (m : Int) - 1 by have := hme'.out; omega], Blk.eq (by (repeat (first | with_reducible assumption | ((with_reducible apply Blk.new); solve | simp | rfl) | with_reducible apply Blk.drew | with_reducible apply Blk.drewN | ((with_reducible apply Blk.far'); solve | omega | simp | (simp; omega)) | with_reducible apply Blk.set_ | with_reducible apply Blk.alloc | ((with_reducible apply Blk.ext'); with_reducible assumption) | ((with_reducible apply Blk.but'); (with_reducible assumption); solve | omega | (simp; omega))))) (by rfl), hst, by (repeat (first | with_reducible exact But.refl _ _ | with_reducible assumption | with_reducible refine But.alloc ?_ _ | with_reducible refine But.drew ?_ | with_reducible refine But.drewN ?_ _ | with_reducible refine But.set_ ?_ _ _ | ((with_reducible refine But.new ?_ ?_ _); solve | omega | simp | (simp; omega)) | (with_reducible refine But.trans ?_ (by with_reducible assumption)) | (with_reducible refine But.trans ?_ (But.of (by with_reducible assumption)))))⟩
      case measure => simp [intOf]; omega
    · go_wp2
      have hd := HC.out.done (by omega) hk (by omega)
      go_end0
      refine ⟨rfl, ⟨?_, .inr ⟨g, cap, cs, ?_, hb, hBr, ?_, HM.out, ?_, ?_⟩⟩, ?_⟩
      · rw [flatMap_len len_encP]
      · rw [List.length_reverse]
      · rw [List.length_reverse]; exact hn
      · rw [HC.out.1, hs]
      · rw [List.length_reverse]; exact hd
      · exact HG.grown

theorem i_GrowP (n : Nat) (w : World) (hn : n ≤ 1048576) :
    Calls Tryz.prog 216 #[.slice none 0 0, .int .i64 n] w fun e w' => ∃ v, e = .returned v ∧ OwP w' w.heap.size v [] ∧ Ext w w' := by
  by_cases h0 : n = 0
  · subst h0
    go_enter Tryz.func216, Tryz.ntmps216
    go_wp2
    go_ret
    exact ⟨_, rfl, Own.nil _ _, Ext.refl _⟩
  · have hp : 0 < (n : Int) := by omega
    have h0' : 0 < n := by omega
    clear h0
    go_enter Tryz.func216, Tryz.ntmps216
    go_wp2_with (at_builtin; refine wpList_zeros elP (kn := .i64) Tryz.underlying3 rfl _ _ rfl (k := .i64) (n := n) rfl rfl h0' hn (by omega) ?_)
    intro c cs hs hc HM
    go_wp2
    go_ret
    refine ⟨_, rfl, ⟨rfl, .inr ⟨w.heap.size, c, cs, rfl, Nat.le_refl _, heap_alloc_new w.drew _, Nat.zero_le _, HM.out, hs, by simp⟩⟩, ?_⟩
    (repeat (first | with_reducible exact Ext.refl _ | with_reducible assumption | ((with_reducible apply Src.ext); with_reducible assumption) | with_reducible refine Ext.alloc ?_ _ | with_reducible refine Ext.drew ?_ | with_reducible refine Ext.drewN ?_ _ | ((with_reducible refine Ext.setCell' ?_ ?_ _); solve | omega | simp | (simp; omega)) | (with_reducible refine Ext.trans ?_ (by with_reducible assumption))))

def cc2 (a b : Nat) (k : Nat) : Int := if k = 0 then 0 else if k = 1 then a else (a : Int) + b
def cl2 (p q : List (Int × Int)) (k : Nat) : List (Int × Int) := if k = 0 then [] else if k = 1 then p else p ++ q
set_option maxHeartbeats 3200000 in
theorem i_ConcatP (b0 : Nat) (A1 A2 : Option Addr) (c1 c2 : Nat) (p q : List (Int × Int)) (w : World) (hb : Blk w b0 63 #[.slice A1 p.length c1, .slice A2 q.length c2]) (h1 : SlAt w 2 encP A1 p) (h2 : SlAt w 2 encP A2 q) (hl : p.length + q.length ≤ 1048576) :
    Calls Tryz.prog 202 #[.slice (some ⟨b0, 0, none⟩) 2 2] w fun e w' => ∃ v, e = .returned v ∧ OwP w' w.heap.size v (p ++ q) ∧ Ext w w' := by
  have r0 : w.cell? ⟨b0, 0, none⟩ = some (.slice A1 p.length c1) := hb.cell 0
  have r1 : w.cell? ⟨b0, 1, none⟩ = some (.slice A2 q.length c2) := hb.cell 1
  have hb0 := hb.lt
  go_enter Tryz.func202, Tryz.ntmps202
  go_wp2
  go_loop [3, 11] (fun s i => ∃ k : Nat, k ≤ 2 ∧ i = .int .i64 k ∧ s = .int .i64 (cc2 p.length q.length k)) (fun _ i => 2 - (intOf i).toNat)
  case atStart => exact ⟨0, by omega, rfl, rfl⟩
  case round =>
    obtain ⟨k, hk, rfl, rfl⟩ := hrel
    rcases (show k = 0 ∨ k = 1 ∨ k = 2 by omega) with rfl | rfl | rfl
    · unfold cc2
      go_wp2
      go_round
      case rel => exact ⟨1, by omega, rfl, by simp⟩
      case measure => simp [intOf]
    · unfold cc2
      go_wp2
      go_round
      case rel => exact ⟨2, by omega, rfl, by simp⟩
      case measure => simp [intOf]
    · have e2 : cc2 p.length q.length 2 = ((p.length + q.length : Nat) : Int) := by simp [cc2]
      rw [e2]
      clear e2
      go_wp2_with fail
      refine (i_GrowP (p.length + q.length) _ hl).mono ?_
      rintro e w1 ⟨v, rfl, hO, hx⟩
      have HO := Lib.hid hO
      clear hO
      obtain ⟨hc, hf⟩ := hx.rules
      go_wp2
      go_loopw [6, 27] (fun v i wr => ∃ k : Nat, k ≤ 2 ∧ i = .int .i64 k ∧ Hid (OwP wr w.heap.size v (cl2 p q k)) ∧ Ext w wr) (fun _ i _ => 2 - (intOf i).toNat)
      case atStart => exact ⟨0, by omega, rfl, HO, hx⟩
      case round =>
        obtain ⟨k, hk, rfl, HO, hxr⟩ := hrel
        obtain ⟨hcr, hfr⟩ := hxr.rules
        have hsr := hxr.size
        rcases (show k = 0 ∨ k = 1 ∨ k = 2 by omega) with rfl | rfl | rfl
        · go_wp2_with (at_builtin; refine wpList_append_sl elP len_encP one_encP rfl _ _ rfl rfl HO.out rfl (h1.ext hxr) (by simp [cl2]; unfold maxLen; omega) (by simp [cl2]; omega) hsr ?_)
          intro v' w2 hown hgrow _
          have HO2 := Lib.hid hown
          have hx2 : Ext w w2 := hxr.grown hgrow (fun k hk => (HO.out.row k hk).1)
          clear hown hgrow
          go_wp2
          go_roundw
          case rel => exact ⟨1, by omega, rfl, HO2, hx2⟩
          case measure => simp [intOf]
        · go_wp2_with (at_builtin; refine wpList_append_sl elP len_encP one_encP rfl _ _ rfl rfl HO.out rfl (h2.ext hxr) (by simp [cl2]; unfold maxLen; omega) (by simp [cl2]; omega) hsr ?_)
          intro v' w2 hown hgrow _
          have HO2 := Lib.hid hown
          have hx2 : Ext w w2 := hxr.grown hgrow (fun k hk => (HO.out.row k hk).1)
          clear hown hgrow
          go_wp2
          go_roundw
          case rel => exact ⟨2, by omega, rfl, HO2, hx2⟩
          case measure => simp [intOf]
        · go_wp2
          go_ret
          exact ⟨_, rfl, HO.out, hxr⟩
end Go.Proofs.YtabdffponmmhoaaGreatDoor
