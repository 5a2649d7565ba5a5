/- Plain laws of edges that make one closed way. -/
import Derived.Test.YteppjdoggjcdoaaP1
namespace Go.Proofs.Yteppjdoggjcdoaa
open Go.RowKit

/-- a list without doubles, all of it in a list that is no longer, is that list in another order -/
theorem perm_of_in {α : Type} [DecidableEq α] : ∀ {l m : List α}, l.Nodup → (∀ x ∈ l, x ∈ m) → m.length ≤ l.length → l.Perm m
  | [], m, _, _, h => by
    obtain rfl : m = [] := List.length_eq_zero_iff.1 (by simpa using h)
    exact List.Perm.refl _
  | a :: l, m, hn, hs, h => by
    have ham : a ∈ m := hs a (by simp)
    have hp := List.perm_cons_erase ham
    rw [List.nodup_cons] at hn
    have hl : (m.erase a).length + 1 = m.length := by have := hp.length_eq; simpa using this.symm
    refine (List.Perm.cons a (perm_of_in hn.2 (fun x hx => ?_) (by simp at h; omega))).trans hp.symm
    exact (List.mem_erase_of_ne (fun e => hn.1 (by rw [← e]; exact hx))).2 (hs x (by simp [hx]))
/-- where the first edge from a point leads -/
def nx (es : List Ed) (p : Int × Int) : Option (Int × Int) := (es.find? fun e => decide (e.1 = p)).map (·.2)
/-- the k-th point of the way that begins with the first edge -/
def wk (es : List Ed) : Nat → Option (Int × Int)
  | 0 => es.head?.map (·.1)
  | k + 1 => (wk es k).bind (nx es)
/-- the way comes back to its start just behind n points -/
def Ret (es : List Ed) (n : Nat) : Prop := (wk es n).isSome ∧ wk es n = wk es 0 ∧ ∀ j, 0 < j → j < n → wk es j ≠ wk es 0
theorem wk_add {es : List Ed} {i j : Nat} (h : wk es i = wk es j) : ∀ d, wk es (i + d) = wk es (j + d)
  | 0 => h
  | d + 1 => by
    have := wk_add h d
    rw [← Nat.add_assoc, ← Nat.add_assoc, wk, wk, this]
theorem wk_none {es : List Ed} {i : Nat} (h : wk es i = none) : ∀ d, wk es (i + d) = none
  | 0 => h
  | d + 1 => by rw [← Nat.add_assoc, wk, wk_none h d]; rfl
theorem wk_some {es : List Ed} {i n : Nat} (h : (wk es n).isSome) (hi : i ≤ n) : ∃ p, wk es i = some p := by
  rcases hw : wk es i with _ | p
  · have := wk_none hw (n - i)
    rw [show i + (n - i) = n by omega] at this
    rw [this] at h
    cases h
  · exact ⟨p, rfl⟩
theorem Ret.diff {es : List Ed} {n i j : Nat} (h : Ret es n) (hij : i < j) (hj : j < n) : wk es i ≠ wk es j := by
  intro e
  have := wk_add e (n - j)
  rw [show j + (n - j) = n by omega, h.2.1] at this
  exact h.2.2 (i + (n - j)) (by omega) (by omega) this
/-- the points of the way -/
def wkL (es : List Ed) (n : Nat) : List (Int × Int) := (List.range n).map fun k => (wk es k).getD (0, 0)
theorem wkL_len (es : List Ed) (n : Nat) : (wkL es n).length = n := by simp [wkL]
theorem wkL_succ (es : List Ed) (n : Nat) : wkL es (n + 1) = wkL es n ++ [(wk es n).getD (0, 0)] := by unfold wkL; rw [List.range_succ, List.map_append]; rfl
theorem wkL_at (es : List Ed) {n k : Nat} (hk : k < n) : (wkL es n).getD k (0, 0) = (wk es k).getD (0, 0) := by simp [wkL, List.getD, hk]
theorem wk_edge {es : List Ed} {k : Nat} {p q : Int × Int} (h : wk es k = some p) (h1 : wk es (k + 1) = some q) : ∃ e ∈ es, e.1 = p ∧ e.2 = q := by
  rw [wk, h] at h1
  simp only [Option.bind_some, nx, Option.map_eq_some_iff] at h1
  obtain ⟨e, he, hq⟩ := h1
  have hp := List.find?_some he
  exact ⟨e, List.mem_of_find?_eq_some he, by simpa using hp, hq⟩
theorem Ret.starts {es : List Ed} (h : Ret es es.length) : (wkL es es.length).Perm (es.map (·.1)) := by
  have hs : ∀ i, i ≤ es.length → ∃ p, wk es i = some p := fun i hi => wk_some h.1 hi
  refine perm_of_in ?_ (fun x hx => ?_) (by simp [wkL_len])
  · unfold wkL
    rw [List.nodup_iff_pairwise_ne, List.pairwise_map]
    refine List.Pairwise.imp_of_mem ?_ (List.pairwise_lt_range (n := es.length))
    intro a b ha hb hab e
    rw [List.mem_range] at ha hb
    obtain ⟨p, hp⟩ := hs a (by omega)
    obtain ⟨q, hq⟩ := hs b (by omega)
    rw [hp, hq] at e
    exact h.diff hab hb (by rw [hp, hq]; simpa using e)
  · unfold wkL at hx
    rw [List.mem_map] at hx
    obtain ⟨k, hk, rfl⟩ := hx
    rw [List.mem_range] at hk
    obtain ⟨p, hp⟩ := hs k (by omega)
    obtain ⟨q, hq⟩ := hs (k + 1) (by omega)
    obtain ⟨e, he, he1, _⟩ := wk_edge hp hq
    rw [hp, List.mem_map]
    exact ⟨e, he, by rw [he1]; rfl⟩
theorem Ret.nodup {es : List Ed} (h : Ret es es.length) : (es.map (·.1)).Nodup := by
  refine (h.starts.nodup_iff).1 ?_
  have hs : ∀ i, i ≤ es.length → ∃ p, wk es i = some p := fun i hi => wk_some h.1 hi
  unfold wkL
  rw [List.nodup_iff_pairwise_ne, List.pairwise_map]
  refine List.Pairwise.imp_of_mem ?_ (List.pairwise_lt_range (n := es.length))
  intro a b ha hb hab e
  rw [List.mem_range] at ha hb
  obtain ⟨p, hp⟩ := hs a (by omega)
  obtain ⟨q, hq⟩ := hs b (by omega)
  rw [hp, hq] at e
  exact h.diff hab hb (by rw [hp, hq]; simpa using e)
/-- no two edges begin at one point -/
theorem Ret.one {es : List Ed} (h : Ret es es.length) {i j : Nat} (hi : i < es.length) (hj : j < es.length) (e : (es.getD i edD).1 = (es.getD j edD).1) : i = j := by
  have hn := h.nodup
  have hi' : i < (es.map (·.1)).length := by simpa using hi
  have hj' : j < (es.map (·.1)).length := by simpa using hj
  have hp := List.pairwise_iff_getElem.1 hn
  have e1 : es.getD i edD = es[i] := by simp [List.getD, hi]
  have e2 : es.getD j edD = es[j] := by simp [List.getD, hj]
  rw [e1, e2] at e
  rcases Nat.lt_trichotomy i j with c | c | c
  · have := hp i j hi' hj' c
    simp at this
    exact absurd e this
  · exact c
  · have := hp j i hj' hi' c
    simp at this
    exact absurd e.symm this
theorem nx_hit {es : List Ed} {p : Int × Int} {k : Nat} (hk : k < es.length) (h : (es.getD k edD).1 = p) (hb : ∀ j, j < k → (es.getD j edD).1 ≠ p) : nx es p = some (es.getD k edD).2 := by
  have e : es.getD k edD = es[k] := by simp [List.getD, hk]
  have : es.find? (fun e => decide (e.1 = p)) = some es[k] := by
    rw [List.find?_eq_some_iff_getElem]
    refine ⟨by rw [← e]; simpa using h, k, hk, rfl, fun j hj => ?_⟩
    have := hb j hj
    have hjl : j < es.length := by omega
    rw [show es.getD j edD = es[j] by simp [List.getD, hjl]] at this
    simpa using this
  unfold nx
  rw [this, e]; rfl
theorem nx_miss {es : List Ed} {p : Int × Int} (hb : ∀ j, j < es.length → (es.getD j edD).1 ≠ p) : nx es p = none := by
  have : es.find? (fun e => decide (e.1 = p)) = none := by
    rw [List.find?_eq_none]
    intro x hx
    obtain ⟨j, hj, rfl⟩ := List.mem_iff_getElem.1 hx
    have := hb j hj
    rw [show es.getD j edD = es[j] by simp [List.getD, hj]] at this
    simpa using this
  unfold nx
  rw [this]; rfl
/-- a point that stays: where the way does not go on in one line -/
def stB (o : List (Int × Int)) (i : Nat) : Bool := turnW (ptx o ((i + o.length - 1 : Nat) : Int)) (ptz o ((i + o.length - 1 : Nat) : Int)) (atP o i).1 (atP o i).2 (ptx o ((i : Int) + 1)) (ptz o ((i : Int) + 1)) != 0
def stTo (o : List (Int × Int)) (k : Nat) : List (Int × Int) := ((List.range k).filter (stB o)).map (atP o)
def stP (o : List (Int × Int)) : List (Int × Int) := stTo o o.length
theorem stTo_yes {o : List (Int × Int)} {k : Nat} (h : stB o k = true) : stTo o (k + 1) = stTo o k ++ [atP o k] := by
  unfold stTo
  rw [List.range_succ, List.filter_append, List.map_append]
  simp [h]
theorem stTo_no {o : List (Int × Int)} {k : Nat} (h : stB o k = false) : stTo o (k + 1) = stTo o k := by
  unfold stTo
  rw [List.range_succ, List.filter_append, List.map_append]
  simp [h]
theorem stTo_len (o : List (Int × Int)) (k : Nat) : (stTo o k).length ≤ k := by
  unfold stTo
  rw [List.length_map]
  exact Nat.le_trans (List.length_filter_le _ _) (by simp)
end Go.Proofs.Yteppjdoggjcdoaa
