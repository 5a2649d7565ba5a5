/- Ways up, circles and lists of links, as the program sees them. The kit's word for slices.Compact at sorted texts: no program in sight. Lists of links, sorted lists of places, and places that are a child, as the program sees them. Lists of links, their codes, children and what lies inside, as the program sees them. -/
import Derived.Test.YtabdffponmmhoaaGreatDoorZB
import Derived.Test.YtabdffponmmhoaaGreatDoorGU
import Derived.Deep.RegionHeld3
import Derived.Deep.DeepCutAuto
import Derived.RegionTactic
import Derived.BigRegion
import Derived.WalkLawsBesides
import Derived.WalkSpells
import Derived.Lib.MinMax
import Derived.Outline
import Derived.Test.YtabdffponmmhoaaGreatDoorGP
import Derived.Lib.SlicesCompact
import Derived.Test.YtabdffponmmhoaaGreatDoorSh
import Derived.Sort.OwnSorted
namespace Go.Proofs.YtabdffponmmhoaaGreatDoor
open Go.RowKit
attribute [local go_sem] ExtOf.cell ExtOf.frozen

theorem any_mem (xs : List (List UInt8)) (x : List UInt8) : (xs.any fun z => z == x) = decide (x ∈ xs) := by
  rw [Bool.eq_iff_iff, List.any_eq_true, decide_eq_true_iff]
  constructor
  · rintro ⟨z, hz, e⟩
    rw [beq_iff_eq] at e
    exact e ▸ hz
  · intro h
    exact ⟨x, h, by simp⟩
/-- a link of the same child whose years meet -/
def twoB (l m : Lk) : Bool := m.1 == l.1 && meetB m.2.2.1 m.2.2.2 l.2.2.1 l.2.2.2

end Go.Proofs.YtabdffponmmhoaaGreatDoor
namespace Go.Proofs.YtabdffponmmhoaaGreatDoor
theorem toArr_get {l : List Tx} {j : Nat} (hj : j < l.length) : l.toArray[j]! = l[j] := by
  rw [getElem!_pos l.toArray j (by simpa using hj)]
  simp
theorem compact_alf {l : List Tx} (h : l.Pairwise (fun a b => ¬ b < a)) : Alf (Lib.compact l) := by
  unfold Alf Lib.compact Lib.compactUpTo
  rw [List.pairwise_map]
  refine List.Pairwise.imp_of_mem ?_ (List.Pairwise.filter _ List.pairwise_lt_range)
  intro a b ha hb hab
  have hbl := List.mem_range.1 (List.mem_filter.1 hb).1
  have hk := (List.mem_filter.1 hb).2
  simp only [Lib.keeps, decide_eq_true_eq] at hk
  have hal : a < l.length := by omega
  have hb1 : b - 1 < l.length := by omega
  rw [toArr_get hbl, toArr_get hb1] at hk
  rw [toArr_get hbl, toArr_get hal]
  have hp := List.pairwise_iff_getElem.1 h
  have h1 : l[b - 1] < l[b] := by
    have hne : ¬ l[b] = l[b - 1] := by
      rcases hk with e | e
      · omega
      · exact e
    have h2 := hp (b - 1) b hb1 hbl (by omega)
    rcases tx_tri l[b - 1] l[b] with q | q | q
    · exact q
    · exact absurd q.symm hne
    · exact absurd q h2
  rcases Nat.lt_or_ge a (b - 1) with c | c
  · have h2 := hp a (b - 1) hal hb1 c
    rcases tx_tri l[a] l[b - 1] with q | q | q
    · exact tx_lt_trans q h1
    · rw [q]; exact h1
    · exact absurd q h2
  · have : a = b - 1 := by omega
    subst this
    exact h1
theorem compact_mem {l : List Tx} {x : Tx} : x ∈ Lib.compact l ↔ x ∈ l := by
  unfold Lib.compact Lib.compactUpTo
  constructor
  · intro h
    obtain ⟨j, hj, rfl⟩ := List.mem_map.1 h
    have hjl := List.mem_range.1 (List.mem_filter.1 hj).1
    rw [toArr_get hjl]
    exact List.getElem_mem hjl
  · intro h
    obtain ⟨j, hj, rfl⟩ := List.mem_iff_getElem.1 h
    have key : ∀ (j : Nat) (hj : j < l.length), l[j] ∈ ((List.range l.length).filter (Lib.keeps l.toArray)).map (l.toArray[·]!) := by
      intro j
      induction j with
      | zero =>
        intro hj
        refine List.mem_map.2 ⟨0, List.mem_filter.2 ⟨List.mem_range.2 hj, by simp [Lib.keeps]⟩, toArr_get hj⟩
      | succ j ih =>
        intro hj
        have hj1 : j < l.length := by omega
        by_cases e : l[j + 1] = l[j]
        · rw [e]; exact ih hj1
        · refine List.mem_map.2 ⟨j + 1, List.mem_filter.2 ⟨List.mem_range.2 hj, ?_⟩, toArr_get hj⟩
          simp only [Lib.keeps, decide_eq_true_eq]
          right
          rw [Nat.add_sub_cancel, toArr_get hj, toArr_get hj1]
          exact e
    exact key j hj
theorem compact_cpt {l : List Tx} (h : l.Pairwise (fun a b => ¬ b < a)) : Lib.compact l = cpt l :=
  (compact_alf h).ext (cpt_alf h) fun _ => compact_mem.trans cpt_mem.symm
theorem compact_sort (l : List Tx) : Lib.compact (l.mergeSort fun x y => decide (x ≤ y)) = sortA l := compact_cpt (sort_pair l)
theorem compact_len (l : List Tx) : (Lib.compact l).length ≤ l.length := by
  unfold Lib.compact Lib.compactUpTo
  rw [List.length_map]
  have := List.length_filter_le (Lib.keeps l.toArray) (List.range l.length)
  rwa [List.length_range] at this
end Go.Proofs.YtabdffponmmhoaaGreatDoor
namespace Go.Proofs.YtabdffponmmhoaaGreatDoor
open Go.RowKit Go.Sort
attribute [local go_sem] ExtOf.cell ExtOf.frozen

theorem encS_flat (xs : List (List UInt8)) : xs.flatMap encS = xs.map encStr := by
  induction xs with
  | nil => rfl
  | cons x xs ih => rw [List.flatMap_cons, ih]; rfl
theorem ret_val {a b : Value} (h : a = b) : Ending.returned a = .returned b := by rw [h]
theorem Own.front {α : Type} {enc : α → List Value} {sz base : Nat} {t : TypeId} {w : World} {A : Option Addr} {n c : Nat} {xs ys : List α} (hk : ∀ x, (enc x).length = sz) (h : Own enc sz t w base (.slice A n c) (xs ++ ys)) (h0 : 0 < (xs ++ ys).length) : Own enc sz t w base (.slice A xs.length c) xs := by
  obtain ⟨g, cap, cur, e, hb, hB, hn, hm, hs, ht⟩ := h.open_ h0
  injection e with e1 e2 e3
  subst e1 e3
  rw [List.length_append] at hn ht
  refine ⟨flatMap_len hk xs, .inr ⟨g, c, cur, rfl, hb, hB, by omega, hm, hs, ?_⟩⟩
  have h2 := congrArg (List.take (xs.length * sz)) ht
  rw [List.take_take, Nat.min_eq_left (Nat.mul_le_mul_right _ (by omega)), List.flatMap_append, List.take_append_of_le_length (by rw [flatMap_len hk]; exact Nat.le_refl _), List.take_of_length_le (l := xs.flatMap enc) (by rw [flatMap_len hk]; exact Nat.le_refl _)] at h2
  exact h2
theorem own_open' {base g n cap : Nat} {xs : List (List UInt8)} {w : World} (h : OwS w base (.slice (some ⟨g, 0, none⟩) n cap) xs) : ∃ cur, base ≤ g ∧ w.heap[g]? = some (.cells cur 9 (0, 0)) ∧ n = xs.length ∧ n ≤ cap ∧ cap ≤ maxLen ∧ cur.size = cap * 1 ∧ cur.toList.take n = xs.map encStr := by
  rcases h.2 with ⟨e, _⟩ | ⟨g', cap', cur, e, hb, hc, h1, h2, h3, h4⟩
  · cases e
  injection e with e1 e2 e3
  injection e1 with e1
  injection e1 with e1
  subst e1 e2 e3
  rw [Nat.mul_one, encS_flat] at h4
  exact ⟨cur, hb, hc, rfl, h1, h2, h3, h4⟩
theorem own_ofmap {base g n cap : Nat} {xs : List (List UInt8)} {w : World} (hn : n = xs.length) (h : w.ownsRow base 9 1 (.slice (some ⟨g, 0, none⟩) n cap) n (xs.map encStr)) : OwS w base (.slice (some ⟨g, 0, none⟩) n cap) xs := by
  unfold OwS Own
  rw [encS_flat, ← hn]
  exact h
theorem sortA_nil : sortA [] = [] := by simp [sortA, cpt]
/-- the children among the first k links that p asks for -/
def chTo (L : List Lk) (y : Int) (p : List UInt8 → Bool) (k : Nat) : List (List UInt8) := ((L.take k).filter fun l => lkHas l y && p l.1).map fun l => l.1
theorem chTo_succ {L : List Lk} {y : Int} {p : List UInt8 → Bool} {k : Nat} (hk : k < L.length) : chTo L y p (k + 1) = if (lkHas (L.getD k lkD) y && p (L.getD k lkD).1) = true then chTo L y p k ++ [(L.getD k lkD).1] else chTo L y p k := by
  unfold chTo
  rw [List.take_succ_eq_append_getElem hk, List.filter_append, List.map_append, show L.getD k lkD = L[k] by simp [List.getD, hk]]
  by_cases h : (lkHas L[k] y && p L[k].1) = true
  · rw [if_pos h]; simp [h]
  · rw [if_neg h]; simp [h]
theorem chTo_len (L : List Lk) (y : Int) (p : List UInt8 → Bool) (k : Nat) : (chTo L y p k).length ≤ k := by
  unfold chTo
  rw [List.length_map]
  have := List.length_filter_le (fun l => lkHas l y && p l.1) (L.take k)
  rw [List.length_take] at this
  omega

end Go.Proofs.YtabdffponmmhoaaGreatDoor
namespace Go.Proofs.YtabdffponmmhoaaGreatDoor
open Go.RowKit
attribute [local go_sem] ExtOf.cell ExtOf.frozen

theorem two_any (L : List Lk) (l : Lk) (k : Nat) : ((L.take k).any (twoB l)) = ((L.take k).any fun m => m.1 == l.1 && meetB m.2.2.1 m.2.2.2 l.2.2.1 l.2.2.2) := rfl
theorem as_boolG {P : Program} {f : FuncId} {args : Array Value} {w : World} {b b' : Bool} (h : Calls P f args w fun e w' => e = .returned (.bool b) ∧ w = w') (e : b = b') : Calls P f args w fun e w' => e = .returned (.bool b') ∧ w = w' := e ▸ h

end Go.Proofs.YtabdffponmmhoaaGreatDoor
