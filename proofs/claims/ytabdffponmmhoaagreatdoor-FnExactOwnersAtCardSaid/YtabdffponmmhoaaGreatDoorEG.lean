/- Contracts of the edges of rings, walked over the translation. Contracts of the laws on edges, walked over the translation. Contracts of EdgesOf and its law, walked over the translation. -/
import Derived.Test.YtabdffponmmhoaaGreatDoorND
import Derived.Deep.RegionHeld3
import Derived.Deep.DeepCutAuto
import Derived.RegionTactic
import Derived.BigRegion
import Derived.WalkLawsBesides
import Derived.WalkSpells
import Derived.Lib.MinMax
import Derived.Outline
namespace Go.Proofs.YtabdffponmmhoaaGreatDoor
open Go.RowKit
attribute [local go_sem] ExtOf.cell ExtOf.frozen

theorem grown_far {w w' : World} {row : Option Nat} (hg : w.grownBy w' row) (a : Addr) (hlt : a.block < w.heap.size) (hne : some a.block ≠ row) : w'.cell? a = w.cell? a := World.cell?_of_block (hg.block a.block hlt hne)
abbrev Ed := (Int × Int) × (Int × Int)
def encE (e : Ed) : List Value := [.int .i64 e.1.1, .int .i64 e.1.2, .int .i64 e.2.1, .int .i64 e.2.2]
theorem len_encE : ∀ e, (encE e).length = 4 := fun _ => rfl
theorem one_encE : ∀ p, ∀ u ∈ encE p, u.oneCell' = true := by
  intro p u hu
  simp [encE] at hu
  rcases hu with rfl | rfl | rfl | rfl <;> rfl
theorem elE : ElT Tryz.prog 147 151 4 32 := ElT.mk' (z := .agg #[.int .i64 0, .int .i64 0, .int .i64 0, .int .i64 0]) Tryz.underlying147 (by kernel_rfl) rfl (by omega)
abbrev OwE (w : World) (base : Nat) (v : Value) (es : List Ed) : Prop := Own encE 4 151 w base v es
theorem blk_e1 {w : World} {g : Nat} {t : TypeId} {e : Ed} {a b c d : Int} (h : Blk w g t #[.int .i64 a, .int .i64 b, .int .i64 c, .int .i64 d]) (he : e = ((a, b), (c, d))) : SlAt w 4 encE (some ⟨g, 0, none⟩) [e] := by
  subst he; exact h.sl rfl len_encE
/-- the edges of a list of corners -/
def edAt (o : List (Int × Int)) (i : Nat) : Ed := (atP o i, (ptx o ((i : Int) + 1), ptz o ((i : Int) + 1)))
def edTo (o : List (Int × Int)) (k : Nat) : List Ed := (List.range k).map (edAt o)
def edL (o : List (Int × Int)) : List Ed := edTo o o.length
theorem edTo_succ (o : List (Int × Int)) (k : Nat) : edTo o (k + 1) = edTo o k ++ [edAt o k] := by unfold edTo; rw [List.range_succ, List.map_append]; rfl
theorem edTo_len (o : List (Int × Int)) (k : Nat) : (edTo o k).length = k := by simp [edTo]
set_option maxRecDepth 20000 in
set_option maxHeartbeats 6400000 in
theorem i_edgesOf (A : Option Addr) (c : Nat) (ps : List (Int × Int)) (w : World) (h : SlAt w 2 encP A ps) (h0 : 0 < ps.length) (hl : ps.length ≤ 1000) (ho : oks ps = true) :
    Calls Tryz.prog 132 #[.slice A ps.length c] w fun e w' => ∃ v, e = .returned v ∧ OwE w' w.heap.size v (edL (normI ps)) ∧ Ext w w' := by
  have HO := Lib.hid ho
  clear ho
  obtain ⟨o, hoe⟩ : ∃ o, o = normI ps := ⟨_, rfl⟩
  have hon : o.length = ps.length := by rw [hoe]; exact normI_len ps
  rw [← hoe]
  have HE := Lib.hid hoe
  clear hoe
  go_enter Tryz.func132, Tryz.ntmps132
  go_wp2_with fail
  refine (i_normal _ _ ps _ h h0 hl HO.out).mono ?_
  rintro e w1 ⟨v, rfl, hO, hx1⟩
  have hs1 := hx1.size
  obtain ⟨A', c', rfl, hS, _, _, hA⟩ := hO.sl len_encP
  clear hO
  rw [← HE.out] at hS ⊢
  have h0o : 0 < o.length := by omega
  have hlo : o.length ≤ 1000 := by omega
  obtain ⟨g, off, rfl, hgw⟩ := hS.open_ h0o
  have hO0 : OwE w1 w1.heap.size (.slice none 0 0) (edTo o 0) := Own.nil _ _
  have HO0 := Lib.hid hO0
  clear hon hO0
  go_wp2
  go_loopw [4, 11] (fun v i wr => ∃ k : Nat, k ≤ o.length ∧ i = .int .i64 k ∧ Hid (OwE wr w1.heap.size v (edTo o k)) ∧ Ext w1 wr) (fun _ i _ => o.length - (intOf i).toNat)
  case atStart => exact ⟨0, by omega, rfl, HO0, by (repeat (first | with_reducible exact Ext.refl _ | with_reducible assumption | ((with_reducible apply Src.ext); with_reducible assumption) | with_reducible refine Ext.alloc ?_ _ | with_reducible refine Ext.drew ?_ | with_reducible refine Ext.drewN ?_ _ | ((with_reducible refine Ext.setCell' ?_ ?_ _); solve | omega | simp | (simp; omega)) | (with_reducible refine Ext.trans ?_ (by with_reducible assumption))))⟩
  case round =>
    obtain ⟨k, hk, rfl, HV, hxr⟩ := hrel
    have hsr := hxr.size
    have hgr : g < wr.heap.size := by omega
    by_cases hlt : k < o.length
    · obtain ⟨d0, d1⟩ := (hS.ext hxr).pt' (k := k) hlt
      have hnl := edTo_len o k
      have HN := Lib.hid hnl
      have HS := Lib.hid (edTo_succ o k)
      have HA : Hid (edAt o k = (((o.getD k (0, 0)).1, (o.getD k (0, 0)).2), (ptx o ((k : Int) + 1), ptz o ((k : Int) + 1)))) := Lib.hid rfl
      generalize (o.getD k (0, 0)).1 = xk at d0 HA
      generalize (o.getD k (0, 0)).2 = zk at d1 HA
      clear hnl
      go_wp2
      have z0 : (wr.alloc (.cells #[.int .i64 xk, .int .i64 zk] 35)).cell? ⟨wr.heap.size, 0, none⟩ = some (.int .i64 xk) := (Blk.new rfl : Blk _ wr.heap.size 35 #[.int .i64 xk, .int .i64 zk]).cell 0
      have z1 : (wr.alloc (.cells #[.int .i64 xk, .int .i64 zk] 35)).cell? ⟨wr.heap.size, 1, none⟩ = some (.int .i64 zk) := (Blk.new rfl : Blk _ wr.heap.size 35 #[.int .i64 xk, .int .i64 zk]).cell 1
      have hw1 : IntKind.i64.wrap ((k : Int) + 1) = (k : Int) + 1 := IntWalk.i64_in _ (by omega)
      go_region_held3 (fun w' => w'.cell? ⟨wr.heap.size, 0, none⟩ = some (.int .i64 xk) ∧ w'.cell? ⟨wr.heap.size, 1, none⟩ = some (.int .i64 zk)) (first | go_keep | (go_split_ands; (refine ⟨(grown_far hgrow _ ?_ ?_).trans ?_, (grown_far hgrow _ ?_ ?_).trans ?_⟩); all_goals (first | assumption | (intro e; have hq := HV.out.row _ e.symm; simp at hq; done) | (simp [*]; done) | (simp; omega)))) (first | (go_at_call 73; refine (i_corner _ _ o _ _ (hS.ext (by (repeat (first | with_reducible exact Ext.refl _ | with_reducible assumption | ((with_reducible apply Src.ext); with_reducible assumption) | with_reducible refine Ext.alloc ?_ _ | with_reducible refine Ext.drew ?_ | with_reducible refine Ext.drewN ?_ _ | ((with_reducible refine Ext.setCell' ?_ ?_ _); solve | omega | simp | (simp; omega)) | (with_reducible refine Ext.trans ?_ (by with_reducible assumption)))))) h0o (by omega) (by omega) (by omega)).mono ?_; rintro e w7 ⟨rfl, hx7⟩; obtain ⟨hc7, hf7⟩ := hx7.rules; have hs7 := hx7.size; (try simp at hs7); have hl7 : ∀ n, n < _ → n < w7.heap.size := fun n h => Nat.lt_of_lt_of_le h hx7.size; have := (show g < w7.heap.size from by omega)) | (refine step_append_sl elE len_encE one_encE rfl _ _ rfl rfl (HV.out.ext (by (repeat (first | with_reducible exact Ext.refl _ | with_reducible assumption | ((with_reducible apply Src.ext); with_reducible assumption) | with_reducible refine Ext.alloc ?_ _ | with_reducible refine Ext.drew ?_ | with_reducible refine Ext.drewN ?_ _ | ((with_reducible refine Ext.setCell' ?_ ?_ _); solve | omega | simp | (simp; omega)) | (with_reducible refine Ext.trans ?_ (by with_reducible assumption)))))) (xs := [edAt o k]) rfl (blk_e1 (by (repeat (first | with_reducible assumption | ((with_reducible apply Blk.new); solve | simp | rfl) | with_reducible apply Blk.drew | with_reducible apply Blk.drewN | ((with_reducible apply Blk.far'); solve | omega | simp | (simp; omega)) | with_reducible apply Blk.set_ | with_reducible apply Blk.alloc | ((with_reducible apply Blk.ext'); with_reducible assumption) | ((with_reducible apply Blk.but'); (with_reducible assumption); solve | omega | (simp; omega))))) HA.out) (by rw [HN.out]; unfold maxLen; first | (simp; done) | (simp; omega)) (by rw [HN.out]; first | (simp; done) | (simp; omega)) (by first | omega | (simp; done) | (simp; omega)) ?_; intro v' w5 hown hgrow _))
      rw [← HS.out] at hown
      have HV2 := Lib.hid hown
      have hx5 : Ext w1 w5 := by
        refine Ext.grown ?_ hgrow (fun q hq => (HV.out.row q hq).1)
        (repeat (first | with_reducible exact Ext.refl _ | with_reducible assumption | ((with_reducible apply Src.ext); with_reducible assumption) | with_reducible refine Ext.alloc ?_ _ | with_reducible refine Ext.drew ?_ | with_reducible refine Ext.drewN ?_ _ | ((with_reducible refine Ext.setCell' ?_ ?_ _); solve | omega | simp | (simp; omega)) | (with_reducible refine Ext.trans ?_ (by with_reducible assumption))))
      clear hown hgrow
      go_wp2
      go_roundw
      case rel => exact ⟨k + 1, by omega, by go_num, HV2, hx5⟩
      case measure => simp [intOf]; omega
    · go_wp2
      go_ret
      obtain rfl : k = o.length := by omega
      exact ⟨_, rfl, HV.out.less hs1, hx1.trans hxr⟩

set_option maxRecDepth 20000 in
set_option maxHeartbeats 6400000 in
theorem s_l17Edges (A : Option Addr) (c : Nat) (ps : List (Int × Int)) (w : World) (h : SlAt w 2 encP A ps) (h0 : 0 < ps.length) (hl : ps.length ≤ 1000) (ho : oks ps = true) :
    Calls Tryz.prog 123 #[.slice A ps.length c] w fun e w' => ∃ v, e = .returned v ∧ OwE w' w.heap.size v (edL (normS ps)) ∧ Ext w w' := by
  have HO := Lib.hid ho
  clear ho
  obtain ⟨o, hoe⟩ : ∃ o, o = normS ps := ⟨_, rfl⟩
  have hon : o.length = ps.length := by rw [hoe]; exact normS_len ps
  rw [← hoe]
  have HE := Lib.hid hoe
  clear hoe
  go_enter Tryz.func123, Tryz.ntmps123
  go_wp2_with fail
  refine (s_l16Normal _ _ ps _ h h0 hl HO.out).mono ?_
  rintro e w1 ⟨v, rfl, hO, hx1⟩
  have hs1 := hx1.size
  obtain ⟨A', c', rfl, hS, _, _, hA⟩ := hO.sl len_encP
  clear hO
  rw [← HE.out] at hS ⊢
  have h0o : 0 < o.length := by omega
  have hlo : o.length ≤ 1000 := by omega
  obtain ⟨g, off, rfl, hgw⟩ := hS.open_ h0o
  have HO0 := Lib.hid (World.ownsRow_made (base := w1.heap.size) (e := 151) (size := 4) w1 #[] 0 (Nat.le_refl _) (Nat.zero_le _) rfl : OwE _ w1.heap.size _ (edTo o 0))
  clear hon
  go_wp2
  go_loopw [4, 5] (fun v i wr => ∃ k : Nat, k ≤ o.length ∧ i = .int .i64 k ∧ Hid (OwE wr w1.heap.size v (edTo o k)) ∧ Ext w1 wr) (fun _ i _ => o.length - (intOf i).toNat)
  case atStart => exact ⟨0, by omega, rfl, HO0, by (repeat (first | with_reducible exact Ext.refl _ | with_reducible assumption | ((with_reducible apply Src.ext); with_reducible assumption) | with_reducible refine Ext.alloc ?_ _ | with_reducible refine Ext.drew ?_ | with_reducible refine Ext.drewN ?_ _ | ((with_reducible refine Ext.setCell' ?_ ?_ _); solve | omega | simp | (simp; omega)) | (with_reducible refine Ext.trans ?_ (by with_reducible assumption))))⟩
  case round =>
    obtain ⟨k, hk, rfl, HV, hxr⟩ := hrel
    have hsr := hxr.size
    have hgr : g < wr.heap.size := by omega
    by_cases hlt : k < o.length
    · obtain ⟨d0, d1⟩ := (hS.ext hxr).pt' (k := k) hlt
      have hnl := edTo_len o k
      have HN := Lib.hid hnl
      have HS := Lib.hid (edTo_succ o k)
      have HA : Hid (edAt o k = (((o.getD k (0, 0)).1, (o.getD k (0, 0)).2), (ptx o ((k : Int) + 1), ptz o ((k : Int) + 1)))) := Lib.hid rfl
      generalize (o.getD k (0, 0)).1 = xk at d0 HA
      generalize (o.getD k (0, 0)).2 = zk at d1 HA
      clear hnl
      go_wp2
      have hw1 : IntKind.i64.wrap ((k : Int) + 1) = (k : Int) + 1 := IntWalk.i64_in _ (by omega)
      go_region_held3 (fun w' => w'.cell? ⟨g, off + k * 2, none⟩ = some (.int .i64 xk) ∧ w'.cell? ⟨g, off + k * 2 + 1, none⟩ = some (.int .i64 zk)) (first | go_keep | exact ⟨(hx7.cell g (off + k * 2) hgr).trans d0, (hx7.cell g (off + k * 2 + 1) hgr).trans d1⟩ | (go_split_ands; (refine ⟨(grown_far hgrow _ ?_ ?_).trans ?_, (grown_far hgrow _ ?_ ?_).trans ?_⟩); all_goals (first | assumption | (intro e; have hq : w1.heap.size ≤ g := (HV.out.row _ e.symm).1; omega) | (simp [*]; done) | (simp; omega)))) (first | (go_at_call 66; refine (s_corner _ _ o _ _ (hS.ext (by (repeat (first | with_reducible exact Ext.refl _ | with_reducible assumption | ((with_reducible apply Src.ext); with_reducible assumption) | with_reducible refine Ext.alloc ?_ _ | with_reducible refine Ext.drew ?_ | with_reducible refine Ext.drewN ?_ _ | ((with_reducible refine Ext.setCell' ?_ ?_ _); solve | omega | simp | (simp; omega)) | (with_reducible refine Ext.trans ?_ (by with_reducible assumption)))))) h0o (by omega) (by omega) (by omega)).mono ?_; rintro e w7 ⟨rfl, hx7⟩; obtain ⟨hc7, hf7⟩ := hx7.rules; have hs7 := hx7.size; (try simp at hs7); have hl7 : ∀ n, n < _ → n < w7.heap.size := fun n h => Nat.lt_of_lt_of_le h hx7.size; have := (show g < w7.heap.size from by omega)) | (refine step_append_sl elE len_encE one_encE rfl _ _ rfl rfl (HV.out.ext (by (repeat (first | with_reducible exact Ext.refl _ | with_reducible assumption | ((with_reducible apply Src.ext); with_reducible assumption) | with_reducible refine Ext.alloc ?_ _ | with_reducible refine Ext.drew ?_ | with_reducible refine Ext.drewN ?_ _ | ((with_reducible refine Ext.setCell' ?_ ?_ _); solve | omega | simp | (simp; omega)) | (with_reducible refine Ext.trans ?_ (by with_reducible assumption)))))) (xs := [edAt o k]) rfl (blk_e1 (by (repeat (first | with_reducible assumption | ((with_reducible apply Blk.new); solve | simp | rfl) | with_reducible apply Blk.drew | with_reducible apply Blk.drewN | ((with_reducible apply Blk.far'); solve | omega | simp | (simp; omega)) | with_reducible apply Blk.set_ | with_reducible apply Blk.alloc | ((with_reducible apply Blk.ext'); with_reducible assumption) | ((with_reducible apply Blk.but'); (with_reducible assumption); solve | omega | (simp; omega))))) HA.out) (by rw [HN.out]; unfold maxLen; first | (simp; done) | (simp; omega)) (by rw [HN.out]; first | (simp; done) | (simp; omega)) (by first | omega | (simp; done) | (simp; omega)) ?_; intro v' w5 hown hgrow _))
      all_goals
        rw [← HS.out] at hown
        have HV2 := Lib.hid hown
        have hx5 : Ext w1 w5 := by
          refine Ext.grown ?_ hgrow (fun q hq => (HV.out.row q hq).1)
          (repeat (first | with_reducible exact Ext.refl _ | with_reducible assumption | ((with_reducible apply Src.ext); with_reducible assumption) | with_reducible refine Ext.alloc ?_ _ | with_reducible refine Ext.drew ?_ | with_reducible refine Ext.drewN ?_ _ | ((with_reducible refine Ext.setCell' ?_ ?_ _); solve | omega | simp | (simp; omega)) | (with_reducible refine Ext.trans ?_ (by with_reducible assumption))))
        clear hown hgrow
        go_wp2
        go_roundw
        case rel => exact ⟨k + 1, by omega, by go_num, HV2, hx5⟩
        case measure => simp [intOf]; omega
    · go_wp2
      go_ret
      obtain rfl : k = o.length := by omega
      exact ⟨_, rfl, HV.out.less hs1, hx1.trans hxr⟩
end Go.Proofs.YtabdffponmmhoaaGreatDoor
namespace Go.Proofs.YtabdffponmmhoaaGreatDoor
open Go.RowKit
attribute [local go_sem] ExtOf.cell ExtOf.frozen

theorem SlAt.ed {w : World} {A : Option Addr} {es : List Ed} (h : SlAt w 4 encE A es) {k : Nat} (hk : k < es.length) :
    ∃ b off a1 a2 a3 a4, A = some ⟨b, off, none⟩ ∧ b < w.heap.size ∧ es.getD k ((0, 0), (0, 0)) = ((a1, a2), (a3, a4)) ∧ w.cell? ⟨b, off + k * 4, none⟩ = some (.int .i64 a1) ∧ w.cell? ⟨b, off + k * 4 + 1, none⟩ = some (.int .i64 a2) ∧ w.cell? ⟨b, off + k * 4 + 2, none⟩ = some (.int .i64 a3) ∧ w.cell? ⟨b, off + k * 4 + 3, none⟩ = some (.int .i64 a4) := by
  obtain ⟨b, off, e, hb, hc⟩ := h (by omega)
  have hg : es[k]? = some (es.getD k ((0, 0), (0, 0))) := by simp [List.getD, hk]
  rcases he : es.getD k ((0, 0), (0, 0)) with ⟨⟨a1, a2⟩, ⟨a3, a4⟩⟩
  rw [he] at hg
  exact ⟨b, off, a1, a2, a3, a4, e, hb, rfl, by simpa using hc k _ hg 0 _ rfl, hc k _ hg 1 _ rfl, hc k _ hg 2 _ rfl, hc k _ hg 3 _ rfl⟩
theorem l_eqPt_self (x z : Int) (w : World) : Calls Tryz.prog 76 #[.agg #[.int .i64 x, .int .i64 z], .agg #[.int .i64 x, .int .i64 z]] w fun e w' => e = .returned (.bool true) ∧ Ext w w' := by
  have := l_eqPoint x z x z w
  rwa [show eqP x z x z = true by simp [eqP]] at this
/-- marks in a list of edges -/
def marksE (k : Int) (n : Nat) : List Ed := (List.range n).map fun i : Nat => ((k + 4 * (i : Int), k + 4 * (i : Int) + 1), (k + 4 * (i : Int) + 2, k + 4 * (i : Int) + 3))
theorem marksE_len (k : Int) (n : Nat) : (marksE k n).length = n := by simp [marksE]
theorem marksE_at (k : Int) {n i : Nat} (hi : i < n) : (marksE k n).getD i ((0, 0), (0, 0)) = ((k + 4 * (i : Int), k + 4 * (i : Int) + 1), (k + 4 * (i : Int) + 2, k + 4 * (i : Int) + 3)) := by simp [marksE, List.getD, hi]
def MarkE (k : Int) (j sz : Nat) (cs : Array Value) : Prop := cs.size = sz ∧ ∀ q, q < j → cs[q * 4]? = some (.int .i64 (k + 4 * (q : Int))) ∧ cs[q * 4 + 1]? = some (.int .i64 (k + 4 * (q : Int) + 1)) ∧ cs[q * 4 + 2]? = some (.int .i64 (k + 4 * (q : Int) + 2)) ∧ cs[q * 4 + 3]? = some (.int .i64 (k + 4 * (q : Int) + 3))
theorem MarkE.step {k : Int} {j sz : Nat} {cs : Array Value} (h : MarkE k j sz cs) (hs : j * 4 + 3 < sz) :
    MarkE k (j + 1) sz ((((cs.setIfInBounds (j * 4) (.int .i64 (k + 4 * (j : Int)))).setIfInBounds (j * 4 + 1) (.int .i64 (k + 4 * (j : Int) + 1))).setIfInBounds (j * 4 + 2) (.int .i64 (k + 4 * (j : Int) + 2))).setIfInBounds (j * 4 + 3) (.int .i64 (k + 4 * (j : Int) + 3))) := by
  have hz := h.1
  refine ⟨by simpa using h.1, fun q hq => ?_⟩
  by_cases e : q = j
  · subst e
    refine ⟨?_, ?_, ?_, ?_⟩
    · rw [Array.getElem?_setIfInBounds_ne (by omega), Array.getElem?_setIfInBounds_ne (by omega), Array.getElem?_setIfInBounds_ne (by omega), Array.getElem?_setIfInBounds_self_of_lt (by omega)]
    · rw [Array.getElem?_setIfInBounds_ne (by omega), Array.getElem?_setIfInBounds_ne (by omega), Array.getElem?_setIfInBounds_self_of_lt (by simp; omega)]
    · rw [Array.getElem?_setIfInBounds_ne (by omega), Array.getElem?_setIfInBounds_self_of_lt (by simp; omega)]
    · rw [Array.getElem?_setIfInBounds_self_of_lt (by simp; omega)]
  · have := h.2 q (by omega)
    refine ⟨?_, ?_, ?_, ?_⟩
    · rw [Array.getElem?_setIfInBounds_ne (by omega), Array.getElem?_setIfInBounds_ne (by omega), Array.getElem?_setIfInBounds_ne (by omega), Array.getElem?_setIfInBounds_ne (by omega)]; exact this.1
    · rw [Array.getElem?_setIfInBounds_ne (by omega), Array.getElem?_setIfInBounds_ne (by omega), Array.getElem?_setIfInBounds_ne (by omega), Array.getElem?_setIfInBounds_ne (by omega)]; exact this.2.1
    · rw [Array.getElem?_setIfInBounds_ne (by omega), Array.getElem?_setIfInBounds_ne (by omega), Array.getElem?_setIfInBounds_ne (by omega), Array.getElem?_setIfInBounds_ne (by omega)]; exact this.2.2.1
    · rw [Array.getElem?_setIfInBounds_ne (by omega), Array.getElem?_setIfInBounds_ne (by omega), Array.getElem?_setIfInBounds_ne (by omega), Array.getElem?_setIfInBounds_ne (by omega)]; exact this.2.2.2
theorem MarkE.done {k : Int} {n sz : Nat} {cs : Array Value} (h : MarkE k n sz cs) (hs : n * 4 ≤ sz) : cs.toList.take (n * 4) = (marksE k n).flatMap encE := by
  have hz := h.1
  apply List.ext_getElem?
  intro i
  rcases Nat.lt_or_ge i (n * 4) with hi | hi
  · rw [List.getElem?_take_of_lt hi, Array.getElem?_toList]
    have hq : i / 4 < n := by omega
    have hg : (marksE k n)[i / 4]? = some ((marksE k n).getD (i / 4) ((0, 0), (0, 0))) := by simp [List.getD, marksE_len, hq]
    rw [marksE_at k hq] at hg
    have hc := h.2 (i / 4) hq
    rcases (show i % 4 = 0 ∨ i % 4 = 1 ∨ i % 4 = 2 ∨ i % 4 = 3 by omega) with e | e | e | e
    · have h0 := flatMap_at (enc := encE) (sz := 4) len_encE (marksE k n) (i / 4) _ 0 _ hg rfl
      rw [show i / 4 * 4 + 0 = i by omega] at h0
      rw [h0, ← hc.1, show i / 4 * 4 = i by omega]
    · have h0 := flatMap_at (enc := encE) (sz := 4) len_encE (marksE k n) (i / 4) _ 1 _ hg rfl
      rw [show i / 4 * 4 + 1 = i by omega] at h0
      rw [h0, ← hc.2.1, show i / 4 * 4 + 1 = i by omega]
    · have h0 := flatMap_at (enc := encE) (sz := 4) len_encE (marksE k n) (i / 4) _ 2 _ hg rfl
      rw [show i / 4 * 4 + 2 = i by omega] at h0
      rw [h0, ← hc.2.2.1, show i / 4 * 4 + 2 = i by omega]
    · have h0 := flatMap_at (enc := encE) (sz := 4) len_encE (marksE k n) (i / 4) _ 3 _ hg rfl
      rw [show i / 4 * 4 + 3 = i by omega] at h0
      rw [h0, ← hc.2.2.2, show i / 4 * 4 + 3 = i by omega]
  · have hle : (cs.toList.take (n * 4)).length ≤ i := by simp; omega
    rw [List.getElem?_eq_none hle, List.getElem?_eq_none (by rw [flatMap_len len_encE, marksE_len]; exact hi)]

end Go.Proofs.YtabdffponmmhoaaGreatDoor
namespace Go.Proofs.YtabdffponmmhoaaGreatDoor
open Go.RowKit
attribute [local go_sem] ExtOf.cell ExtOf.frozen

open Classical in
/-- what EdgesOf returns -/
noncomputable def eoP (ps : List (Int × Int)) : List Ed := if ringB ps = true then edL (normS ps) else []
theorem eoP_len (ps : List (Int × Int)) : (eoP ps).length ≤ ps.length := by unfold eoP edL; split <;> simp [edTo_len, normS_len]


end Go.Proofs.YtabdffponmmhoaaGreatDoor
