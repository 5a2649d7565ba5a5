/- Words for memory that grows, and for slices that read as lists: no program in sight. -/
import Derived.WalkKit
import Derived.Deep.Draws
import Derived.Lib.Hide
namespace Go.Proofs.Yteppjdoggjcdoaa
open Go.RowKit

/-- w' is w with new blocks behind, whatever was there unturned -/
def Ext (w w' : World) : Prop := Below w.heap.size w w'
theorem Ext.refl (w : World) : Ext w w := Below.refl _ _
theorem Ext.size {a b : World} (h : Ext a b) : a.heap.size ≤ b.heap.size := Below.size h
theorem Ext.trans {a b c : World} (h : Ext a b) (k : Ext b c) : Ext a c := Below.trans h (Below.mono k (Below.size h))
theorem Ext.alloc {a w : World} (h : Ext a w) (o : Obj) : Ext a (w.alloc o) := Below.alloc h (Below.size h) o
theorem Ext.drew {a w : World} (h : Ext a w) : Ext a w.drew := Below.drew h
theorem Ext.drewN {a w : World} (h : Ext a w) (n : Nat) : Ext a (w.drewN n) := ⟨h.os, h.tape, h.output, h.size, h.block⟩
theorem Ext.setCell {a w : World} (h : Ext a w) {p : Addr} (hp : a.heap.size ≤ p.block) (u : Value) : Ext a (w.setCell p u) := Below.setCell h hp u
theorem Ext.setCell' {a w : World} {p : Addr} (hp : a.heap.size ≤ p.block) (h : Ext a w) (u : Value) : Ext a (w.setCell p u) := h.setCell hp u
theorem Ext.cell {a w : World} (h : Ext a w) (b o : Nat) (hb : b < a.heap.size) : w.cell? ⟨b, o, none⟩ = a.cell? ⟨b, o, none⟩ := Below.cell (p := ⟨b, o, none⟩) h hb
theorem Ext.frozen {a w : World} (h : Ext a w) (b o : Nat) (hb : b < a.heap.size) : w.frozen? ⟨b, o, none⟩ = a.frozen? ⟨b, o, none⟩ := Below.frozen (p := ⟨b, o, none⟩) h hb
theorem Ext.below {a w : World} (h : Ext a w) : Below a.heap.size a w := h
theorem Ext.of {a w : World} (h : Below a.heap.size a w) : Ext a w := h
theorem Ext.grown {a w w' : World} {row : Option Nat} (h : Ext a w) (hg : w.grownBy w' row) (hr : ∀ k, row = some k → a.heap.size ≤ k) : Ext a w' := Below.grown h hg (Below.size h) hr
theorem Ext.rules {a w : World} (h : Ext a w) : (∀ b o, b < a.heap.size → w.cell? ⟨b, o, none⟩ = a.cell? ⟨b, o, none⟩) ∧ (∀ b o, b < a.heap.size → w.frozen? ⟨b, o, none⟩ = a.frozen? ⟨b, o, none⟩) :=
  ⟨h.cell, h.frozen⟩

/-- the slice value '.slice A xs.length c' reads as xs, each element sz cells by enc -/
def SlAt {α : Type} (w : World) (sz : Nat) (enc : α → List Value) (A : Option Addr) (xs : List α) : Prop :=
  0 < xs.length → ∃ b off, A = some ⟨b, off, none⟩ ∧ b < w.heap.size ∧ ∀ i x, xs[i]? = some x → ∀ j v, (enc x)[j]? = some v → w.cell? ⟨b, off + i * sz + j, none⟩ = some v

section
variable {α : Type} {w w' : World} {sz : Nat} {enc : α → List Value} {A : Option Addr} {xs : List α}
theorem SlAt.ext (h : SlAt w sz enc A xs) (hx : Ext w w') : SlAt w' sz enc A xs := fun hn => by
  obtain ⟨b, off, e, hb, hc⟩ := h hn
  exact ⟨b, off, e, Nat.lt_of_lt_of_le hb hx.size, fun i x hi j v hj => (hx.cell _ _ hb).trans (hc i x hi j v hj)⟩
theorem SlAt.nil : SlAt w sz enc A ([] : List α) := fun h => absurd h (by simp)
end
theorem flatMap_at {α β : Type} {enc : α → List β} {sz : Nat} (hk : ∀ x, (enc x).length = sz) : ∀ (xs : List α) (i : Nat) (x : α) (j : Nat) (v : β), xs[i]? = some x → (enc x)[j]? = some v → (xs.flatMap enc)[i * sz + j]? = some v
  | [], _, _, _, _, h, _ => by simp at h
  | y :: ys, 0, x, j, v, h, hj => by
    simp at h
    subst h
    rw [List.flatMap_cons, Nat.zero_mul, Nat.zero_add, List.getElem?_append_left]
    · exact hj
    · exact (List.getElem?_eq_some_iff.1 hj).1
  | y :: ys, i + 1, x, j, v, h, hj => by
    rw [List.flatMap_cons, List.getElem?_append_right (by rw [hk, Nat.succ_mul]; omega), hk, show (i + 1) * sz + j - sz = i * sz + j by rw [Nat.succ_mul]; omega]
    exact flatMap_at hk ys i x j v (by simpa using h) hj
theorem heap_at {w : World} {o : Obj} {b : Nat} (h : b = w.heap.size) : (w.alloc o).heap[b]? = some o := by subst h; exact heap_alloc_new w o
/-- a slice over a whole block -/
theorem SlAt.block {α : Type} {w : World} {sz : Nat} {enc : α → List Value} {xs : List α} {b : Nat} {cs : Array Value} {t : TypeId} {fr : Nat × Nat} (hb : w.heap[b]? = some (.cells cs t fr)) (hcs : cs.toList = xs.flatMap enc)
    (hk : ∀ x, (enc x).length = sz) : SlAt w sz enc (some ⟨b, 0, none⟩) xs := fun _ => by
  refine ⟨b, 0, rfl, ?_, fun i x hi j v hj => ?_⟩
  · exact (Array.getElem?_eq_some_iff.1 hb).1
  · rw [cell_of_row w b _ cs t fr hb, ← Array.getElem?_toList, hcs, Nat.zero_add]
    exact flatMap_at hk xs i x j v hi hj
/-- block g is just these cells, none frozen -/
def Blk (w : World) (g : Nat) (t : TypeId) (cs : Array Value) : Prop := w.heap[g]? = some (.cells cs t (0, 0))
section
variable {w w' : World} {g : Nat} {t : TypeId} {cs : Array Value}
theorem Blk.lt (h : Blk w g t cs) : g < w.heap.size := (Array.getElem?_eq_some_iff.1 h).1
theorem Blk.cell (h : Blk w g t cs) (i : Nat) : w.cell? ⟨g, i, none⟩ = cs[i]? := cell_of_row w g i cs t (0, 0) h
theorem Blk.frozen (h : Blk w g t cs) (i : Nat) : w.frozen? ⟨g, i, none⟩ = false := by
  unfold Blk at h
  simp [World.frozen?, h]
theorem Blk.new {w : World} {b : Nat} (h : b = w.heap.size) : Blk (w.alloc (.cells cs t)) b t cs := heap_at h
theorem Blk.ext (h : Blk w g t cs) (hx : Ext w w') : Blk w' g t cs := (Below.block hx g h.lt).trans h
theorem Blk.ext' (hx : Ext w w') (h : Blk w g t cs) : Blk w' g t cs := h.ext hx
theorem Blk.drewN (h : Blk w g t cs) (n : Nat) : Blk (w.drewN n) g t cs := h
theorem Blk.alloc (h : Blk w g t cs) (o : Obj) : Blk (w.alloc o) g t cs := h.ext ((Ext.refl _).alloc o)
theorem Blk.drew (h : Blk w g t cs) : Blk w.drew g t cs := h
theorem Blk.set_ (h : Blk w g t cs) (i : Nat) (u : Value) : Blk (w.setCell ⟨g, i, none⟩ u) g t (cs.setIfInBounds i u) := by
  unfold Blk at h ⊢
  simp [World.setCell, Array.getElem?_modify, h]
theorem Blk.far (h : Blk w g t cs) {p : Addr} (hp : g ≠ p.block) (u : Value) : Blk (w.setCell p u) g t cs := (Below.heap_setCell w p u g hp).trans h
theorem Blk.far' {p : Addr} (hp : g ≠ p.block) (h : Blk w g t cs) (u : Value) : Blk (w.setCell p u) g t cs := h.far hp u
theorem Blk.eq {cs' : Array Value} (h : Blk w g t cs) (e : cs = cs') : Blk w g t cs' := e ▸ h
theorem Blk.sl {α : Type} {xs : List α} {enc : α → List Value} {sz : Nat} (h : Blk w g t cs) (hcs : cs.toList = xs.flatMap enc) (hk : ∀ x, (enc x).length = sz) : SlAt w sz enc (some ⟨g, 0, none⟩) xs := SlAt.block h hcs hk
end
/-- the first k elements of the row have been written -/
def Filled {α : Type} (sz : Nat) (enc : α → List Value) (xs : List α) (k : Nat) (cs : Array Value) : Prop :=
  cs.size = xs.length * sz ∧ ∀ j, j < k * sz → cs[j]? = (xs.flatMap enc)[j]?
theorem Filled.start {α : Type} {sz : Nat} {enc : α → List Value} {xs : List α} {cs : Array Value} (h : cs.size = xs.length * sz) : Filled sz enc xs 0 cs := ⟨h, fun j hj => by omega⟩
theorem flatMap_len {α β : Type} {enc : α → List β} {sz : Nat} (hk : ∀ x, (enc x).length = sz) : ∀ xs : List α, (xs.flatMap enc).length = xs.length * sz
  | [] => by simp
  | x :: xs => by rw [List.flatMap_cons, List.length_append, hk, flatMap_len hk xs, List.length_cons, Nat.succ_mul]; omega
theorem Filled.done {α : Type} {sz : Nat} {enc : α → List Value} {xs : List α} {cs : Array Value} (hk : ∀ x, (enc x).length = sz) (h : Filled sz enc xs xs.length cs) : cs.toList = xs.flatMap enc := by
  apply List.ext_getElem?
  intro j
  rcases Nat.lt_or_ge j (xs.length * sz) with hj | hj
  · rw [Array.getElem?_toList]; exact h.2 j hj
  · rw [List.getElem?_eq_none (by rw [Array.length_toList, h.1]; exact hj), List.getElem?_eq_none (by rw [flatMap_len hk]; exact hj)]
theorem Filled.step2 {α : Type} {enc : α → List Value} {xs : List α} {k : Nat} {cs : Array Value} {x : α} {u v : Value} (hk : ∀ x, (enc x).length = 2) (h : Filled 2 enc xs k cs) (hx : xs[k]? = some x) (he : enc x = [u, v]) :
    Filled 2 enc xs (k + 1) ((cs.setIfInBounds (k * 2) u).setIfInBounds (k * 2 + 1) v) := by
  have hl : k < xs.length := (List.getElem?_eq_some_iff.1 hx).1
  refine ⟨by simpa using h.1, fun j hj => ?_⟩
  have h0 := flatMap_at hk xs k x 0 u hx (by simp [he])
  have h1 := flatMap_at hk xs k x 1 v hx (by simp [he])
  have hs := h.1
  by_cases e1 : j = k * 2 + 1
  · subst e1; rw [Array.getElem?_setIfInBounds_self_of_lt (by simp; omega), h1]
  · rw [Array.getElem?_setIfInBounds_ne (by omega)]
    by_cases e0 : j = k * 2
    · subst e0; rw [Array.getElem?_setIfInBounds_self_of_lt (by omega)]; simpa using h0.symm
    · rw [Array.getElem?_setIfInBounds_ne (by omega)]
      exact h.2 j (by omega)
theorem Filled.at_ {α : Type} {sz : Nat} {enc : α → List Value} {xs : List α} {k : Nat} {cs : Array Value} (h : Filled sz enc xs k cs) {j : Nat} (hj : j < xs.length * sz) : ∃ u, cs[j]? = some u :=
  ⟨cs[j]'(by rw [h.1]; exact hj), Array.getElem?_eq_getElem _⟩
/-- points as cells -/
def encP (p : Int × Int) : List Value := [.int .i64 p.1, .int .i64 p.2]
theorem SlAt.pt {w : World} {A : Option Addr} {ps : List (Int × Int)} (h : SlAt w 2 encP A ps) {k : Nat} (hk : k < ps.length) :
    ∃ b off, A = some ⟨b, off, none⟩ ∧ b < w.heap.size ∧ w.cell? ⟨b, off + k * 2, none⟩ = some (.int .i64 (ps.getD k (0, 0)).1) ∧ w.cell? ⟨b, off + k * 2 + 1, none⟩ = some (.int .i64 (ps.getD k (0, 0)).2) := by
  obtain ⟨b, off, e, hb, hc⟩ := h (by omega)
  have hg : ps[k]? = some (ps.getD k (0, 0)) := by simp [List.getD, hk]
  exact ⟨b, off, e, hb, by simpa using hc k _ hg 0 _ rfl, hc k _ hg 1 _ rfl⟩
theorem SlAt.pt' {w : World} {b off : Nat} {ps : List (Int × Int)} (h : SlAt w 2 encP (some ⟨b, off, none⟩) ps) {k : Nat} (hk : k < ps.length) :
    w.cell? ⟨b, off + k * 2, none⟩ = some (.int .i64 (ps.getD k (0, 0)).1) ∧ w.cell? ⟨b, off + k * 2 + 1, none⟩ = some (.int .i64 (ps.getD k (0, 0)).2) := by
  obtain ⟨b', off', e, _, h0, h1⟩ := h.pt hk
  injection e with e
  injection e with e1 e2
  subst e1 e2
  exact ⟨h0, h1⟩
end Go.Proofs.Yteppjdoggjcdoaa
