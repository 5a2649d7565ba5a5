/- Contracts of the laws on edges, walked over the translation. -/
import Derived.Test.YtmpdnlnacblmlaaEA
import Derived.Deep.DeepCutAuto
import Derived.RegionTactic
import Derived.BigRegion
import Derived.WalkLawsBesides
import Derived.WalkSpells
import Derived.Lib.MinMax
import Derived.Outline
namespace Go.Proofs.Ytmpdnlnacblmlaa
open Go.RowKit
attribute [local go_sem] ExtOf.cell ExtOf.frozen

theorem SlAt.ed {w : World} {A : Option Addr} {es : List Ed} (h : SlAt w 4 encE A es) {k : Nat} (hk : k < es.length) :
    ∃ b off a1 a2 a3 a4, A = some ⟨b, off, none⟩ ∧ b < w.heap.size ∧ es.getD k ((0, 0), (0, 0)) = ((a1, a2), (a3, a4)) ∧ w.cell? ⟨b, off + k * 4, none⟩ = some (.int .i64 a1) ∧ w.cell? ⟨b, off + k * 4 + 1, none⟩ = some (.int .i64 a2) ∧ w.cell? ⟨b, off + k * 4 + 2, none⟩ = some (.int .i64 a3) ∧ w.cell? ⟨b, off + k * 4 + 3, none⟩ = some (.int .i64 a4) := by
  obtain ⟨b, off, e, hb, hc⟩ := h (by omega)
  have hg : es[k]? = some (es.getD k ((0, 0), (0, 0))) := by simp [List.getD, hk]
  rcases he : es.getD k ((0, 0), (0, 0)) with ⟨⟨a1, a2⟩, ⟨a3, a4⟩⟩
  rw [he] at hg
  exact ⟨b, off, a1, a2, a3, a4, e, hb, rfl, by simpa using hc k _ hg 0 _ rfl, hc k _ hg 1 _ rfl, hc k _ hg 2 _ rfl, hc k _ hg 3 _ rfl⟩
theorem l_eqPt_self (x z : Int) (w : World) : Calls Try.prog 62 #[.agg #[.int .i64 x, .int .i64 z], .agg #[.int .i64 x, .int .i64 z]] w fun e w' => e = .returned (.bool true) ∧ Ext w w' := by
  have := l_eqPoint x z x z w
  rwa [show eqP x z x z = true by simp [eqP]] at this
set_option maxHeartbeats 1600000 in
theorem l_eqEdge_self (a b c d : Int) (w : World) : Calls Try.prog 54 #[.agg #[.int .i64 a, .int .i64 b, .int .i64 c, .int .i64 d], .agg #[.int .i64 a, .int .i64 b, .int .i64 c, .int .i64 d]] w fun e w' => e = .returned (.bool true) ∧ Ext w w' := by
  go_enter Try.func54, Try.ntmps54
  go_wp2_with fail
  refine (l_eqPt_self _ _ _).mono ?_
  rintro e w1 ⟨rfl, hx1⟩
  have B0 : Blk w1 w.heap.size 58 #[.int .i64 a, .int .i64 b, .int .i64 c, .int .i64 d] := by (repeat (first | with_reducible assumption | ((with_reducible apply Blk.new); solve | simp | rfl) | with_reducible apply Blk.drew | with_reducible apply Blk.drewN | ((with_reducible apply Blk.far'); solve | omega | simp | (simp; omega)) | with_reducible apply Blk.set_ | with_reducible apply Blk.alloc | ((with_reducible apply Blk.ext'); with_reducible assumption) | ((with_reducible apply Blk.but'); (with_reducible assumption); solve | omega | (simp; omega))))
  have B1 : Blk w1 (w.heap.size + 1) 58 #[.int .i64 a, .int .i64 b, .int .i64 c, .int .i64 d] := by (repeat (first | with_reducible assumption | ((with_reducible apply Blk.new); solve | simp | rfl) | with_reducible apply Blk.drew | with_reducible apply Blk.drewN | ((with_reducible apply Blk.far'); solve | omega | simp | (simp; omega)) | with_reducible apply Blk.set_ | with_reducible apply Blk.alloc | ((with_reducible apply Blk.ext'); with_reducible assumption) | ((with_reducible apply Blk.but'); (with_reducible assumption); solve | omega | (simp; omega))))
  have c2 : w1.cell? ⟨w.heap.size, 2, none⟩ = some (.int .i64 c) := B0.cell 2
  have c3 : w1.cell? ⟨w.heap.size, 3, none⟩ = some (.int .i64 d) := B0.cell 3
  have d2 : w1.cell? ⟨w.heap.size + 1, 2, none⟩ = some (.int .i64 c) := B1.cell 2
  have d3 : w1.cell? ⟨w.heap.size + 1, 3, none⟩ = some (.int .i64 d) := B1.cell 3
  go_wp2_with fail
  refine (l_eqPt_self _ _ _).mono ?_
  rintro e w2 ⟨rfl, hx2⟩
  go_wp2
  go_ret
  exact ⟨rfl, by (repeat (first | with_reducible exact Ext.refl _ | with_reducible assumption | ((with_reducible apply Src.ext); with_reducible assumption) | with_reducible refine Ext.alloc ?_ _ | with_reducible refine Ext.drew ?_ | with_reducible refine Ext.drewN ?_ _ | ((with_reducible refine Ext.setCell' ?_ ?_ _); solve | omega | simp | (simp; omega)) | (with_reducible refine Ext.trans ?_ (by with_reducible assumption))))⟩
set_option maxHeartbeats 1600000 in
theorem l_eqE (A A' : Option Addr) (n c c' : Nat) (es : List Ed) (w : World) (h : SlAt w 4 encE A es) (h' : SlAt w 4 encE A' es) (hn : n = es.length) (hl : n ≤ 1048576) :
    Calls Try.prog 19 #[.slice A n c, .slice A' n c'] w fun e w' => e = .returned (.bool true) ∧ Ext w w' := by
  have hn1 : (((n : Nat) : Int) != (n : Int)) = false := by simp
  have HN := Lib.hid hn
  clear hn
  go_enter Try.func19, Try.ntmps19
  go_wp2
  go_loopw [5] (fun i wr => ∃ k : Nat, k ≤ n ∧ i = .int .i64 k ∧ Ext w wr) (fun i _ => n - (intOf i).toNat)
  case atStart => exact ⟨0, Nat.zero_le _, rfl, by (repeat (first | with_reducible exact Ext.refl _ | with_reducible assumption | ((with_reducible apply Src.ext); with_reducible assumption) | with_reducible refine Ext.alloc ?_ _ | with_reducible refine Ext.drew ?_ | with_reducible refine Ext.drewN ?_ _ | ((with_reducible refine Ext.setCell' ?_ ?_ _); solve | omega | simp | (simp; omega)) | (with_reducible refine Ext.trans ?_ (by with_reducible assumption))))⟩
  case round =>
    obtain ⟨k, hk, rfl, hx⟩ := hrel
    by_cases hlt : k < n
    · obtain ⟨b, off, a1, a2, a3, a4, rfl, hb, he, c0, c1, c2, c3⟩ := (h.ext hx).ed (k := k) (by rw [← HN.out]; exact hlt)
      obtain ⟨b', off', b1, b2, b3, b4, rfl, hb', he', d0, d1, d2, d3⟩ := (h'.ext hx).ed (k := k) (by rw [← HN.out]; exact hlt)
      rw [he] at he'
      injection he' with e1 e2
      injection e1 with e11 e12
      injection e2 with e21 e22
      subst e11 e12 e21 e22
      clear he
      go_wp2
      (refine wp_region_ext (by kernel_rfl) (by kernel_rfl) ?_; (repeat (go_big_quiet_step ((go_at_call 54; exact Calls_ext (l_eqEdge_self _ _ _ _ _))))); refine wpQuiet_nil ?_; intro wq hxwq; obtain ⟨hcwq, hfwq⟩ := hxwq.rules; have hswq := hxwq.size; (try simp at hswq))
      go_wp2
      go_roundw
      case rel => exact ⟨k + 1, by omega, by go_num, by (repeat (first | with_reducible exact Ext.refl _ | with_reducible assumption | ((with_reducible apply Src.ext); with_reducible assumption) | with_reducible refine Ext.alloc ?_ _ | with_reducible refine Ext.drew ?_ | with_reducible refine Ext.drewN ?_ _ | ((with_reducible refine Ext.setCell' ?_ ?_ _); solve | omega | simp | (simp; omega)) | (with_reducible refine Ext.trans ?_ (by with_reducible assumption))))⟩
      case measure => simp [intOf]; omega
    · go_wp2
      go_ret
      exact ⟨rfl, by (repeat (first | with_reducible exact Ext.refl _ | with_reducible assumption | ((with_reducible apply Src.ext); with_reducible assumption) | with_reducible refine Ext.alloc ?_ _ | with_reducible refine Ext.drew ?_ | with_reducible refine Ext.drewN ?_ _ | ((with_reducible refine Ext.setCell' ?_ ?_ _); solve | omega | simp | (simp; omega)) | (with_reducible refine Ext.trans ?_ (by with_reducible assumption))))⟩
/-- marks in a list of edges -/
def marksE (k : Int) (n : Nat) : List Ed := (List.range n).map fun i : Nat => ((k + 4 * (i : Int), k + 4 * (i : Int) + 1), (k + 4 * (i : Int) + 2, k + 4 * (i : Int) + 3))
theorem marksE_len (k : Int) (n : Nat) : (marksE k n).length = n := by simp [marksE]
theorem marksE_at (k : Int) {n i : Nat} (hi : i < n) : (marksE k n).getD i ((0, 0), (0, 0)) = ((k + 4 * (i : Int), k + 4 * (i : Int) + 1), (k + 4 * (i : Int) + 2, k + 4 * (i : Int) + 3)) := by simp [marksE, List.getD, hi]
def MarkE (k : Int) (j sz : Nat) (cs : Array Value) : Prop := cs.size = sz ∧ ∀ q, q < j → cs[q * 4]? = some (.int .i64 (k + 4 * (q : Int))) ∧ cs[q * 4 + 1]? = some (.int .i64 (k + 4 * (q : Int) + 1)) ∧ cs[q * 4 + 2]? = some (.int .i64 (k + 4 * (q : Int) + 2)) ∧ cs[q * 4 + 3]? = some (.int .i64 (k + 4 * (q : Int) + 3))
theorem MarkE.step {k : Int} {j sz : Nat} {cs : Array Value} (h : MarkE k j sz cs) (hs : j * 4 + 3 < sz) :
    MarkE k (j + 1) sz ((((cs.setIfInBounds (j * 4) (.int .i64 (k + 4 * (j : Int)))).setIfInBounds (j * 4 + 1) (.int .i64 (k + 4 * (j : Int) + 1))).setIfInBounds (j * 4 + 2) (.int .i64 (k + 4 * (j : Int) + 2))).setIfInBounds (j * 4 + 3) (.int .i64 (k + 4 * (j : Int) + 3))) := by
  have hz := h.1
  refine ⟨by simpa using h.1, fun q hq => ?_⟩
  by_cases e : q = j
  · subst e
    refine ⟨?_, ?_, ?_, ?_⟩
    · rw [Array.getElem?_setIfInBounds_ne (by omega), Array.getElem?_setIfInBounds_ne (by omega), Array.getElem?_setIfInBounds_ne (by omega), Array.getElem?_setIfInBounds_self_of_lt (by omega)]
    · rw [Array.getElem?_setIfInBounds_ne (by omega), Array.getElem?_setIfInBounds_ne (by omega), Array.getElem?_setIfInBounds_self_of_lt (by simp; omega)]
    · rw [Array.getElem?_setIfInBounds_ne (by omega), Array.getElem?_setIfInBounds_self_of_lt (by simp; omega)]
    · rw [Array.getElem?_setIfInBounds_self_of_lt (by simp; omega)]
  · have := h.2 q (by omega)
    refine ⟨?_, ?_, ?_, ?_⟩
    · rw [Array.getElem?_setIfInBounds_ne (by omega), Array.getElem?_setIfInBounds_ne (by omega), Array.getElem?_setIfInBounds_ne (by omega), Array.getElem?_setIfInBounds_ne (by omega)]; exact this.1
    · rw [Array.getElem?_setIfInBounds_ne (by omega), Array.getElem?_setIfInBounds_ne (by omega), Array.getElem?_setIfInBounds_ne (by omega), Array.getElem?_setIfInBounds_ne (by omega)]; exact this.2.1
    · rw [Array.getElem?_setIfInBounds_ne (by omega), Array.getElem?_setIfInBounds_ne (by omega), Array.getElem?_setIfInBounds_ne (by omega), Array.getElem?_setIfInBounds_ne (by omega)]; exact this.2.2.1
    · rw [Array.getElem?_setIfInBounds_ne (by omega), Array.getElem?_setIfInBounds_ne (by omega), Array.getElem?_setIfInBounds_ne (by omega), Array.getElem?_setIfInBounds_ne (by omega)]; exact this.2.2.2
theorem MarkE.done {k : Int} {n sz : Nat} {cs : Array Value} (h : MarkE k n sz cs) (hs : n * 4 ≤ sz) : cs.toList.take (n * 4) = (marksE k n).flatMap encE := by
  have hz := h.1
  apply List.ext_getElem?
  intro i
  rcases Nat.lt_or_ge i (n * 4) with hi | hi
  · rw [List.getElem?_take_of_lt hi, Array.getElem?_toList]
    have hq : i / 4 < n := by omega
    have hg : (marksE k n)[i / 4]? = some ((marksE k n).getD (i / 4) ((0, 0), (0, 0))) := by simp [List.getD, marksE_len, hq]
    rw [marksE_at k hq] at hg
    have hc := h.2 (i / 4) hq
    rcases (show i % 4 = 0 ∨ i % 4 = 1 ∨ i % 4 = 2 ∨ i % 4 = 3 by omega) with e | e | e | e
    · have h0 := flatMap_at (enc := encE) (sz := 4) len_encE (marksE k n) (i / 4) _ 0 _ hg rfl
      rw [show i / 4 * 4 + 0 = i by omega] at h0
      rw [h0, ← hc.1, show i / 4 * 4 = i by omega]
    · have h0 := flatMap_at (enc := encE) (sz := 4) len_encE (marksE k n) (i / 4) _ 1 _ hg rfl
      rw [show i / 4 * 4 + 1 = i by omega] at h0
      rw [h0, ← hc.2.1, show i / 4 * 4 + 1 = i by omega]
    · have h0 := flatMap_at (enc := encE) (sz := 4) len_encE (marksE k n) (i / 4) _ 2 _ hg rfl
      rw [show i / 4 * 4 + 2 = i by omega] at h0
      rw [h0, ← hc.2.2.1, show i / 4 * 4 + 2 = i by omega]
    · have h0 := flatMap_at (enc := encE) (sz := 4) len_encE (marksE k n) (i / 4) _ 3 _ hg rfl
      rw [show i / 4 * 4 + 3 = i by omega] at h0
      rw [h0, ← hc.2.2.2, show i / 4 * 4 + 3 = i by omega]
  · have hle : (cs.toList.take (n * 4)).length ≤ i := by simp; omega
    rw [List.getElem?_eq_none hle, List.getElem?_eq_none (by rw [flatMap_len len_encE, marksE_len]; exact hi)]
set_option maxHeartbeats 3200000 in
theorem l_markE (base : Nat) (v : Value) (ps : List Ed) (n : Nat) (k : Int) (w : World) (h : OwE w base v ps) (hne : n = ps.length) (hl : n ≤ 1048576) (hk : 0 ≤ k) (hk' : k ≤ 1000000000000) :
    Calls Try.prog 20 #[v, .int .i64 k] w fun e w' => e = .returned (.int .i64 (k + 4 * (n : Int))) ∧ OwE w' base v (marksE k n) ∧ w.grownBy w' v.ownBlock := by
  subst hne
  rcases Nat.eq_zero_or_pos ps.length with h0 | h0
  · have hps : ps = [] := List.length_eq_zero_iff.1 h0
    subst hps
    have hv : ∃ A c, v = .slice A 0 c := by obtain ⟨A, c, e, _⟩ := h.sl len_encE; exact ⟨A, c, e⟩
    obtain ⟨A, c, rfl⟩ := hv
    have HH := Lib.hid h
    clear h
    go_enter Try.func20, Try.ntmps20
    go_wp2
    go_loop [1, 5] (fun m i => i = .int .i64 0 ∧ m = .int .i64 k) (fun _ _ => 0)
    case atStart => exact ⟨rfl, rfl⟩
    case round =>
      obtain ⟨rfl, rfl⟩ := hrel
      go_wp2
      go_ret
      exact ⟨by simp, HH.out, World.grownBy.refl _ _⟩
  · obtain ⟨g, cap, cur, rfl, hb, hB, hn, hm, hs, ht⟩ := h.open_ h0
    have HM := Lib.hid hm
    have HC : Hid (MarkE k 0 cur.size cur) := Lib.hid ⟨rfl, fun q hq => absurd hq (by omega)⟩
    clear ht h hm
    go_enter Try.func20, Try.ntmps20
    go_wp2
    go_loopw [1, 5] (fun m i wr => ∃ (j : Nat) (cs : Array Value), j ≤ ps.length ∧ i = .int .i64 j ∧ m = .int .i64 (k + 4 * (j : Int)) ∧ Blk wr g 58 cs ∧ Hid (MarkE k j cur.size cs) ∧ But g w wr) (fun _ i _ => ps.length - (intOf i).toNat)
    case atStart => exact ⟨0, cur, by omega, rfl, by simp, hB, HC, But.refl g w⟩
    case round =>
      obtain ⟨j, cs, hj, rfl, rfl, hBr, HC, HG⟩ := hrel
      have hgr := hBr.lt
      by_cases hlt : j < ps.length
      · have hcz := HC.out.1
        obtain ⟨u0, hu0⟩ : ∃ u, cs[j * 4]? = some u := ⟨_, Array.getElem?_eq_getElem (by omega)⟩
        obtain ⟨u1, hu1⟩ : ∃ u, cs[j * 4 + 1]? = some u := ⟨_, Array.getElem?_eq_getElem (by omega)⟩
        obtain ⟨u2, hu2⟩ : ∃ u, cs[j * 4 + 2]? = some u := ⟨_, Array.getElem?_eq_getElem (by omega)⟩
        obtain ⟨u3, hu3⟩ : ∃ u, cs[j * 4 + 3]? = some u := ⟨_, Array.getElem?_eq_getElem (by omega)⟩
        rw [← hBr.cell] at hu0 hu1 hu2 hu3
        have f0 := hBr.frozen (j * 4)
        have f1 := hBr.frozen (j * 4 + 1)
        have f2 := hBr.frozen (j * 4 + 2)
        have f3 := hBr.frozen (j * 4 + 3)
        have hst := HC.out.step (by omega)
        rw [show k + 4 * (j : Int) + 2 = k + 4 * (j : Int) + 1 + 1 by omega, show k + 4 * (j : Int) + 3 = k + 4 * (j : Int) + 1 + 1 + 1 by omega] at hst
        have HS := Lib.hid hst
        clear hcz hst
        go_wp2
        go_roundw
        case rel => exact ⟨j + 1, _, by omega, by go_num, by congr 1; omega, Blk.eq (by (repeat (first | with_reducible assumption | ((with_reducible apply Blk.new); solve | simp | rfl) | with_reducible apply Blk.drew | with_reducible apply Blk.drewN | ((with_reducible apply Blk.far'); solve | omega | simp | (simp; omega)) | with_reducible apply Blk.set_ | with_reducible apply Blk.alloc | ((with_reducible apply Blk.ext'); with_reducible assumption) | ((with_reducible apply Blk.but'); (with_reducible assumption); solve | omega | (simp; omega))))) (by rfl), HS, by (repeat (first | with_reducible exact But.refl _ _ | with_reducible assumption | with_reducible refine But.alloc ?_ _ | with_reducible refine But.drew ?_ | with_reducible refine But.drewN ?_ _ | with_reducible refine But.set_ ?_ _ _ | ((with_reducible refine But.new ?_ ?_ _); solve | omega | simp | (simp; omega)) | (with_reducible refine But.trans ?_ (by with_reducible assumption)) | (with_reducible refine But.trans ?_ (But.of (by with_reducible assumption)))))⟩
        case measure => simp [intOf]; omega
      · obtain rfl : j = ps.length := by omega
        go_wp2
        go_ret
        refine ⟨rfl, ⟨?_, .inr ⟨g, cap, cs, ?_, hb, hBr, ?_, HM.out, ?_, ?_⟩⟩, ?_⟩
        · rw [flatMap_len len_encE]
        · rw [marksE_len]
        · rw [marksE_len]; exact hn
        · rw [HC.out.1, hs]
        · rw [marksE_len]; exact HC.out.done (by omega)
        · exact HG.grown
set_option maxHeartbeats 1600000 in
theorem l_heldE (A : Option Addr) (n c : Nat) (k : Int) (w : World) (h : SlAt w 4 encE A (marksE k n)) (hl : n ≤ 1048576) (hk : 0 ≤ k) (hk' : k ≤ 1000000000000) :
    Calls Try.prog 21 #[.slice A n c, .int .i64 k] w fun e w' => e = .returned (.int .i64 (k + 4 * (n : Int))) ∧ w = w' := by
  go_enter Try.func21, Try.ntmps21
  go_wp2
  go_loop [1, 5] (fun m i => ∃ j : Nat, j ≤ n ∧ i = .int .i64 j ∧ m = .int .i64 (k + 4 * (j : Int))) (fun _ i => n - (intOf i).toNat)
  case atStart => exact ⟨0, by omega, rfl, by simp⟩
  case round =>
    obtain ⟨j, hj, rfl, rfl⟩ := hrel
    by_cases hlt : j < n
    · obtain ⟨b, off, a1, a2, a3, a4, rfl, hb, he, d0, d1, d2, d3⟩ := h.ed (k := j) (by rw [marksE_len]; exact hlt)
      rw [marksE_at k hlt] at he
      injection he with e1 e2
      injection e1 with e11 e12
      injection e2 with e21 e22
      subst e11 e12 e21 e22
      have k2 : k + 4 * (j : Int) + 2 = k + 4 * (j : Int) + 1 + 1 := by omega
      have k3 : k + 4 * (j : Int) + 3 = k + 4 * (j : Int) + 1 + 1 + 1 := by omega
      rw [k2] at d2
      rw [k3] at d3
      clear k2 k3
      go_wp2
      go_round
      case rel => exact ⟨j + 1, by omega, by go_num, by congr 1; omega⟩
      case measure => simp [intOf]; omega
    · obtain rfl : j = n := by omega
      go_wp2
      go_ret
      exact ⟨rfl, rfl⟩
end Go.Proofs.Ytmpdnlnacblmlaa
