/- Contracts of the law on the normal ring, walked over the translation. -/
import Derived.Test.YtabdffponmmhoaaGreatDoorNC
import Derived.Test.YtabdffponmmhoaaGreatDoorG0
import Derived.Deep.DeepCutAuto
import Derived.RegionTactic
import Derived.BigRegion
import Derived.WalkLawsBesides
import Derived.WalkSpells
import Derived.Lib.MinMax
import Derived.Outline
namespace Go.Proofs.YtabdffponmmhoaaGreatDoor
open Go.RowKit
attribute [local go_sem] ExtOf.cell ExtOf.frozen

/-- marks in a list of points -/
def marks (k : Int) (n : Nat) : List (Int × Int) := (List.range n).map fun i : Nat => (k + 2 * (i : Int), k + 2 * (i : Int) + 1)
theorem marks_len (k : Int) (n : Nat) : (marks k n).length = n := by simp [marks]
theorem marks_at (k : Int) {n i : Nat} (hi : i < n) : (marks k n).getD i (0, 0) = (k + 2 * (i : Int), k + 2 * (i : Int) + 1) := map_range_getD _ hi
def MarkC (k : Int) (j sz : Nat) (cs : Array Value) : Prop := cs.size = sz ∧ ∀ q, q < j → cs[q * 2]? = some (.int .i64 (k + 2 * (q : Int))) ∧ cs[q * 2 + 1]? = some (.int .i64 (k + 2 * (q : Int) + 1))
theorem MarkC.step {k : Int} {j sz : Nat} {cs : Array Value} (h : MarkC k j sz cs) (hs : j * 2 + 1 < sz) : MarkC k (j + 1) sz ((cs.setIfInBounds (j * 2) (.int .i64 (k + 2 * (j : Int)))).setIfInBounds (j * 2 + 1) (.int .i64 (k + 2 * (j : Int) + 1))) := by
  have hz := h.1
  refine ⟨by simpa using h.1, fun q hq => ?_⟩
  by_cases e : q = j
  · subst e
    constructor
    · rw [Array.getElem?_setIfInBounds_ne (by omega), Array.getElem?_setIfInBounds_self_of_lt (by omega)]
    · rw [Array.getElem?_setIfInBounds_self_of_lt (by simp; omega)]
  · have := h.2 q (by omega)
    constructor
    · rw [Array.getElem?_setIfInBounds_ne (by omega), Array.getElem?_setIfInBounds_ne (by omega)]; exact this.1
    · rw [Array.getElem?_setIfInBounds_ne (by omega), Array.getElem?_setIfInBounds_ne (by omega)]; exact this.2
theorem MarkC.done {k : Int} {n sz : Nat} {cs : Array Value} (h : MarkC k n sz cs) (hs : n * 2 ≤ sz) : cs.toList.take (n * 2) = (marks k n).flatMap encP := by
  have hz := h.1
  have := take_cells (ps := marks k n) (cs := cs) (by rw [marks_len]; omega) (fun j hj => by
    rw [marks_len] at hj
    rw [marks_at k hj]
    exact h.2 j hj)
  rwa [marks_len] at this
set_option maxHeartbeats 1600000 in
theorem l_markPointS (base : Nat) (v : Value) (ps : List (Int × Int)) (k : Int) (w : World) (h : OwP w base v ps) (hl : ps.length ≤ 1048576) (hk : 0 ≤ k) (hk' : k ≤ 1000000000000) :
    Calls Tryz.prog 41 #[v, .int .i64 k] w fun e w' => e = .returned (.int .i64 (k + 2 * (ps.length : Int))) ∧ OwP w' base v (marks k ps.length) ∧ w.grownBy w' v.ownBlock := by
  rcases Nat.eq_zero_or_pos ps.length with h0 | h0
  · have hps : ps = [] := List.length_eq_zero_iff.1 h0
    subst hps
    have hv : ∃ A c, v = .slice A 0 c := by obtain ⟨A, c, e, _⟩ := h.sl len_encP; exact ⟨A, c, e⟩
    obtain ⟨A, c, rfl⟩ := hv
    have HH := Lib.hid h
    clear h
    go_enter Tryz.func41, Tryz.ntmps41
    go_wp2
    go_loop [1, 5] (fun m i => i = .int .i64 0 ∧ m = .int .i64 k) (fun _ _ => 0)
    case atStart => exact ⟨rfl, rfl⟩
    case round =>
      obtain ⟨rfl, rfl⟩ := hrel
      go_wp2
      go_ret
      exact ⟨by simp, HH.out, World.grownBy.refl _ _⟩
  · obtain ⟨g, cap, cur, rfl, hb, hB, hn, hm, hs, ht⟩ := h.open_ h0
    have HM := Lib.hid hm
    have HC : Hid (MarkC k 0 cur.size cur) := Lib.hid ⟨rfl, fun q hq => absurd hq (by omega)⟩
    clear ht h hm
    go_enter Tryz.func41, Tryz.ntmps41
    go_wp2
    go_loopw [1, 5] (fun m i wr => ∃ (j : Nat) (cs : Array Value), j ≤ ps.length ∧ i = .int .i64 j ∧ m = .int .i64 (k + 2 * (j : Int)) ∧ Blk wr g 35 cs ∧ Hid (MarkC k j cur.size cs) ∧ But g w wr) (fun _ i _ => ps.length - (intOf i).toNat)
    case atStart => exact ⟨0, cur, by omega, rfl, by simp, hB, HC, But.refl g w⟩
    case round =>
      obtain ⟨j, cs, hj, rfl, rfl, hBr, HC, HG⟩ := hrel
      have hgr := hBr.lt
      by_cases hlt : j < ps.length
      · have hcz := HC.out.1
        obtain ⟨u0, hu0⟩ : ∃ u, cs[j * 2]? = some u := ⟨_, Array.getElem?_eq_getElem (by omega)⟩
        obtain ⟨u1, hu1⟩ : ∃ u, cs[j * 2 + 1]? = some u := ⟨_, Array.getElem?_eq_getElem (by omega)⟩
        rw [← hBr.cell] at hu0 hu1
        have f0 := hBr.frozen (j * 2)
        have f1 := hBr.frozen (j * 2 + 1)
        have HS := Lib.hid (HC.out.step (by omega))
        clear hcz
        go_wp2
        go_roundw
        case rel => exact ⟨j + 1, _, by omega, by go_num, by congr 1; omega, Blk.eq (by (repeat (first | with_reducible assumption | ((with_reducible apply Blk.new); solve | simp | rfl) | with_reducible apply Blk.drew | with_reducible apply Blk.drewN | ((with_reducible apply Blk.far'); solve | omega | simp | (simp; omega)) | with_reducible apply Blk.set_ | with_reducible apply Blk.alloc | ((with_reducible apply Blk.ext'); with_reducible assumption) | ((with_reducible apply Blk.but'); (with_reducible assumption); solve | omega | (simp; omega))))) (by rfl), HS, by (repeat (first | with_reducible exact But.refl _ _ | with_reducible assumption | with_reducible refine But.alloc ?_ _ | with_reducible refine But.drew ?_ | with_reducible refine But.drewN ?_ _ | with_reducible refine But.set_ ?_ _ _ | ((with_reducible refine But.new ?_ ?_ _); solve | omega | simp | (simp; omega)) | (with_reducible refine But.trans ?_ (by with_reducible assumption)) | (with_reducible refine But.trans ?_ (But.of (by with_reducible assumption)))))⟩
        case measure => simp [intOf]; omega
      · obtain rfl : j = ps.length := by omega
        go_wp2
        go_ret
        refine ⟨rfl, ⟨?_, .inr ⟨g, cap, cs, ?_, hb, hBr, ?_, HM.out, ?_, ?_⟩⟩, ?_⟩
        · rw [flatMap_len len_encP]
        · rw [marks_len]
        · rw [marks_len]; exact hn
        · rw [HC.out.1, hs]
        · rw [marks_len]; exact HC.out.done (by omega)
        · exact HG.grown
theorem l_markP (base : Nat) (v : Value) (ps : List (Int × Int)) (n : Nat) (k : Int) (w : World) (h : OwP w base v ps) (hn : n = ps.length) (hl : n ≤ 1048576) (hk : 0 ≤ k) (hk' : k ≤ 1000000000000) :
    Calls Tryz.prog 41 #[v, .int .i64 k] w fun e w' => e = .returned (.int .i64 (k + 2 * (n : Int))) ∧ OwP w' base v (marks k n) ∧ w.grownBy w' v.ownBlock := by
  subst hn
  exact l_markPointS base v ps k w h hl hk hk'
theorem l_eqP (A A' : Option Addr) (n c c' : Nat) (ps : List (Int × Int)) (w : World) (h : SlAt w 2 encP A ps) (h' : SlAt w 2 encP A' ps) (hn : n = ps.length) (hl : n ≤ 1048576) :
    Calls Tryz.prog 39 #[.slice A n c, .slice A' n c'] w fun e w' => e = .returned (.bool true) ∧ Ext w w' := by
  subst hn
  exact l_eqPointS_self A A' c c' ps w h h' hl
open Classical in
/-- what NormalRing returns -/
noncomputable def nrP (ps : List (Int × Int)) : List (Int × Int) := if ringB ps = true then normS ps else []
theorem nrP_len (ps : List (Int × Int)) : (nrP ps).length ≤ ps.length := by unfold nrP; split <;> simp [normS_len]

end Go.Proofs.YtabdffponmmhoaaGreatDoor
