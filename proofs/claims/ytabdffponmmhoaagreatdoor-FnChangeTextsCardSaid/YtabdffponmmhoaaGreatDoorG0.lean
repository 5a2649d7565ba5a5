/- Words for memory that grows, and for slices that read as lists: no program in sight. A region that draws its order, walked once in the order of the text, at the class 'w with new blocks behind it'; and such a region with a tail of operations that write. After the library's own texts on quiet regions and on still tails. Contracts of the plain functions on numbers and points, walked over the translation. Contracts of the functions on segments and directions, walked over the translation. '==' of structs: points. Contracts of the exported functions of points, and the laws on them, walked over the translation. Contracts of the what every law over a list of points uses: its copy, its size, equality, walked over the translation. Contracts of the rings: corners, turns, edges apart; the test of a ring, walked over the translation. Contracts of the rings: the test of a ring, walked over the translation. Contracts of the rings: the reference's test of a ring; laws, walked over the translation. Small words for memory, beside the first text of words. Contracts of the rings: areas, borders, walked over the translation. Contracts of the rings: borders, exported functions, walked over the translation. Contracts of the rings: the exported functions, walked over the translation. Contracts of the laws on rings, walked over the translation. Lists of any elements that a call itself gathers by append, in words of SlAt: no program in sight. Contracts of the draws: a source of numbers, walked over the translation. Contracts of the draws: points, walked over the translation. Lists of points that the call itself gathers by append: in words of SlAt. -/
import Derived.WalkKit
import Derived.Deep.Draws
import Derived.Lib.Hide
import Derived.Deep.QuietTactic
import Derived.BigQuiet
import Derived.StillTail
import Derived.Test.YtabdffponmmhoaaGreatDoorProg
import Derived.WalkLawsBesides
import Derived.WalkSpells
import Derived.Lib.MinMax
import Derived.Outline
import Derived.Laws.StructEq
import Derived.KernelRfl
import Derived.RegionTactic
import Derived.BigRegion
import Derived.Deep.RegionHeld3
import Derived.Deep.DeepCutAuto
import Derived.Laws.AppendOwn
import Derived.Laws.OwnMore
import Derived.Lib.AppendZeros
namespace Go.Proofs.YtabdffponmmhoaaGreatDoor
open Go.RowKit

/-- w' is w with new blocks behind, whatever was there unturned -/
def Ext (w w' : World) : Prop := Below w.heap.size w w'
theorem Ext.refl (w : World) : Ext w w := Below.refl _ _
theorem Ext.size {a b : World} (h : Ext a b) : a.heap.size ≤ b.heap.size := Below.size h
theorem Ext.trans {a b c : World} (h : Ext a b) (k : Ext b c) : Ext a c := Below.trans h (Below.mono k (Below.size h))
theorem Ext.alloc {a w : World} (h : Ext a w) (o : Obj) : Ext a (w.alloc o) := Below.alloc h (Below.size h) o
theorem Ext.drew {a w : World} (h : Ext a w) : Ext a w.drew := Below.drew h
theorem Ext.drewN {a w : World} (h : Ext a w) (n : Nat) : Ext a (w.drewN n) := ⟨h.os, h.tape, h.output, h.size, h.block⟩
theorem Ext.setCell {a w : World} (h : Ext a w) {p : Addr} (hp : a.heap.size ≤ p.block) (u : Value) : Ext a (w.setCell p u) := Below.setCell h hp u
theorem Ext.setCell' {a w : World} {p : Addr} (hp : a.heap.size ≤ p.block) (h : Ext a w) (u : Value) : Ext a (w.setCell p u) := h.setCell hp u
theorem Ext.cell {a w : World} (h : Ext a w) (b o : Nat) (hb : b < a.heap.size) : w.cell? ⟨b, o, none⟩ = a.cell? ⟨b, o, none⟩ := Below.cell (p := ⟨b, o, none⟩) h hb
theorem Ext.frozen {a w : World} (h : Ext a w) (b o : Nat) (hb : b < a.heap.size) : w.frozen? ⟨b, o, none⟩ = a.frozen? ⟨b, o, none⟩ := Below.frozen (p := ⟨b, o, none⟩) h hb
theorem Ext.below {a w : World} (h : Ext a w) : Below a.heap.size a w := h
theorem Ext.of {a w : World} (h : Below a.heap.size a w) : Ext a w := h
theorem Ext.grown {a w w' : World} {row : Option Nat} (h : Ext a w) (hg : w.grownBy w' row) (hr : ∀ k, row = some k → a.heap.size ≤ k) : Ext a w' := Below.grown h hg (Below.size h) hr
theorem Ext.rules {a w : World} (h : Ext a w) : (∀ b o, b < a.heap.size → w.cell? ⟨b, o, none⟩ = a.cell? ⟨b, o, none⟩) ∧ (∀ b o, b < a.heap.size → w.frozen? ⟨b, o, none⟩ = a.frozen? ⟨b, o, none⟩) :=
  ⟨h.cell, h.frozen⟩

/-- the slice value '.slice A xs.length c' reads as xs, each element sz cells by enc -/
def SlAt {α : Type} (w : World) (sz : Nat) (enc : α → List Value) (A : Option Addr) (xs : List α) : Prop :=
  0 < xs.length → ∃ b off, A = some ⟨b, off, none⟩ ∧ b < w.heap.size ∧ ∀ i x, xs[i]? = some x → ∀ j v, (enc x)[j]? = some v → w.cell? ⟨b, off + i * sz + j, none⟩ = some v

section
variable {α : Type} {w w' : World} {sz : Nat} {enc : α → List Value} {A : Option Addr} {xs : List α}
theorem SlAt.ext (h : SlAt w sz enc A xs) (hx : Ext w w') : SlAt w' sz enc A xs := fun hn => by
  obtain ⟨b, off, e, hb, hc⟩ := h hn
  exact ⟨b, off, e, Nat.lt_of_lt_of_le hb hx.size, fun i x hi j v hj => (hx.cell _ _ hb).trans (hc i x hi j v hj)⟩
theorem SlAt.nil : SlAt w sz enc A ([] : List α) := fun h => absurd h (by simp)
end
theorem flatMap_at {α β : Type} {enc : α → List β} {sz : Nat} (hk : ∀ x, (enc x).length = sz) : ∀ (xs : List α) (i : Nat) (x : α) (j : Nat) (v : β), xs[i]? = some x → (enc x)[j]? = some v → (xs.flatMap enc)[i * sz + j]? = some v
  | [], _, _, _, _, h, _ => by simp at h
  | y :: ys, 0, x, j, v, h, hj => by
    simp at h
    subst h
    rw [List.flatMap_cons, Nat.zero_mul, Nat.zero_add, List.getElem?_append_left]
    · exact hj
    · exact (List.getElem?_eq_some_iff.1 hj).1
  | y :: ys, i + 1, x, j, v, h, hj => by
    rw [List.flatMap_cons, List.getElem?_append_right (by rw [hk, Nat.succ_mul]; omega), hk, show (i + 1) * sz + j - sz = i * sz + j by rw [Nat.succ_mul]; omega]
    exact flatMap_at hk ys i x j v (by simpa using h) hj
theorem heap_at {w : World} {o : Obj} {b : Nat} (h : b = w.heap.size) : (w.alloc o).heap[b]? = some o := by subst h; exact heap_alloc_new w o
/-- a slice over a whole block -/
theorem SlAt.block {α : Type} {w : World} {sz : Nat} {enc : α → List Value} {xs : List α} {b : Nat} {cs : Array Value} {t : TypeId} {fr : Nat × Nat} (hb : w.heap[b]? = some (.cells cs t fr)) (hcs : cs.toList = xs.flatMap enc)
    (hk : ∀ x, (enc x).length = sz) : SlAt w sz enc (some ⟨b, 0, none⟩) xs := fun _ => by
  refine ⟨b, 0, rfl, ?_, fun i x hi j v hj => ?_⟩
  · exact (Array.getElem?_eq_some_iff.1 hb).1
  · rw [cell_of_row w b _ cs t fr hb, ← Array.getElem?_toList, hcs, Nat.zero_add]
    exact flatMap_at hk xs i x j v hi hj
/-- block g is just these cells, none frozen -/
def Blk (w : World) (g : Nat) (t : TypeId) (cs : Array Value) : Prop := w.heap[g]? = some (.cells cs t (0, 0))
section
variable {w w' : World} {g : Nat} {t : TypeId} {cs : Array Value}
theorem Blk.lt (h : Blk w g t cs) : g < w.heap.size := (Array.getElem?_eq_some_iff.1 h).1
theorem Blk.cell (h : Blk w g t cs) (i : Nat) : w.cell? ⟨g, i, none⟩ = cs[i]? := cell_of_row w g i cs t (0, 0) h
theorem Blk.frozen (h : Blk w g t cs) (i : Nat) : w.frozen? ⟨g, i, none⟩ = false := by
  unfold Blk at h
  simp [World.frozen?, h]
theorem Blk.new {w : World} {b : Nat} (h : b = w.heap.size) : Blk (w.alloc (.cells cs t)) b t cs := heap_at h
theorem Blk.ext (h : Blk w g t cs) (hx : Ext w w') : Blk w' g t cs := (Below.block hx g h.lt).trans h
theorem Blk.ext' (hx : Ext w w') (h : Blk w g t cs) : Blk w' g t cs := h.ext hx
theorem Blk.drewN (h : Blk w g t cs) (n : Nat) : Blk (w.drewN n) g t cs := h
theorem Blk.alloc (h : Blk w g t cs) (o : Obj) : Blk (w.alloc o) g t cs := h.ext ((Ext.refl _).alloc o)
theorem Blk.drew (h : Blk w g t cs) : Blk w.drew g t cs := h
theorem Blk.set_ (h : Blk w g t cs) (i : Nat) (u : Value) : Blk (w.setCell ⟨g, i, none⟩ u) g t (cs.setIfInBounds i u) := by
  unfold Blk at h ⊢
  simp [World.setCell, Array.getElem?_modify, h]
theorem Blk.far (h : Blk w g t cs) {p : Addr} (hp : g ≠ p.block) (u : Value) : Blk (w.setCell p u) g t cs := (Below.heap_setCell w p u g hp).trans h
theorem Blk.far' {p : Addr} (hp : g ≠ p.block) (h : Blk w g t cs) (u : Value) : Blk (w.setCell p u) g t cs := h.far hp u
theorem Blk.eq {cs' : Array Value} (h : Blk w g t cs) (e : cs = cs') : Blk w g t cs' := e ▸ h
theorem Blk.sl {α : Type} {xs : List α} {enc : α → List Value} {sz : Nat} (h : Blk w g t cs) (hcs : cs.toList = xs.flatMap enc) (hk : ∀ x, (enc x).length = sz) : SlAt w sz enc (some ⟨g, 0, none⟩) xs := SlAt.block h hcs hk
end
/-- the first k elements of the row have been written -/
def Filled {α : Type} (sz : Nat) (enc : α → List Value) (xs : List α) (k : Nat) (cs : Array Value) : Prop :=
  cs.size = xs.length * sz ∧ ∀ j, j < k * sz → cs[j]? = (xs.flatMap enc)[j]?
theorem Filled.start {α : Type} {sz : Nat} {enc : α → List Value} {xs : List α} {cs : Array Value} (h : cs.size = xs.length * sz) : Filled sz enc xs 0 cs := ⟨h, fun j hj => by omega⟩
theorem flatMap_len {α β : Type} {enc : α → List β} {sz : Nat} (hk : ∀ x, (enc x).length = sz) : ∀ xs : List α, (xs.flatMap enc).length = xs.length * sz
  | [] => by simp
  | x :: xs => by rw [List.flatMap_cons, List.length_append, hk, flatMap_len hk xs, List.length_cons, Nat.succ_mul]; omega
theorem Filled.done {α : Type} {sz : Nat} {enc : α → List Value} {xs : List α} {cs : Array Value} (hk : ∀ x, (enc x).length = sz) (h : Filled sz enc xs xs.length cs) : cs.toList = xs.flatMap enc := by
  apply List.ext_getElem?
  intro j
  rcases Nat.lt_or_ge j (xs.length * sz) with hj | hj
  · rw [Array.getElem?_toList]; exact h.2 j hj
  · rw [List.getElem?_eq_none (by rw [Array.length_toList, h.1]; exact hj), List.getElem?_eq_none (by rw [flatMap_len hk]; exact hj)]
theorem Filled.step2 {α : Type} {enc : α → List Value} {xs : List α} {k : Nat} {cs : Array Value} {x : α} {u v : Value} (hk : ∀ x, (enc x).length = 2) (h : Filled 2 enc xs k cs) (hx : xs[k]? = some x) (he : enc x = [u, v]) :
    Filled 2 enc xs (k + 1) ((cs.setIfInBounds (k * 2) u).setIfInBounds (k * 2 + 1) v) := by
  have hl : k < xs.length := (List.getElem?_eq_some_iff.1 hx).1
  refine ⟨by simpa using h.1, fun j hj => ?_⟩
  have h0 := flatMap_at hk xs k x 0 u hx (by simp [he])
  have h1 := flatMap_at hk xs k x 1 v hx (by simp [he])
  have hs := h.1
  by_cases e1 : j = k * 2 + 1
  · subst e1; rw [Array.getElem?_setIfInBounds_self_of_lt (by simp; omega), h1]
  · rw [Array.getElem?_setIfInBounds_ne (by omega)]
    by_cases e0 : j = k * 2
    · subst e0; rw [Array.getElem?_setIfInBounds_self_of_lt (by omega)]; simpa using h0.symm
    · rw [Array.getElem?_setIfInBounds_ne (by omega)]
      exact h.2 j (by omega)
theorem Filled.at_ {α : Type} {sz : Nat} {enc : α → List Value} {xs : List α} {k : Nat} {cs : Array Value} (h : Filled sz enc xs k cs) {j : Nat} (hj : j < xs.length * sz) : ∃ u, cs[j]? = some u :=
  ⟨cs[j]'(by rw [h.1]; exact hj), Array.getElem?_eq_getElem _⟩
/-- points as cells -/
def encP (p : Int × Int) : List Value := [.int .i64 p.1, .int .i64 p.2]
theorem SlAt.pt {w : World} {A : Option Addr} {ps : List (Int × Int)} (h : SlAt w 2 encP A ps) {k : Nat} (hk : k < ps.length) :
    ∃ b off, A = some ⟨b, off, none⟩ ∧ b < w.heap.size ∧ w.cell? ⟨b, off + k * 2, none⟩ = some (.int .i64 (ps.getD k (0, 0)).1) ∧ w.cell? ⟨b, off + k * 2 + 1, none⟩ = some (.int .i64 (ps.getD k (0, 0)).2) := by
  obtain ⟨b, off, e, hb, hc⟩ := h (by omega)
  have hg : ps[k]? = some (ps.getD k (0, 0)) := by simp [List.getD, hk]
  exact ⟨b, off, e, hb, by simpa using hc k _ hg 0 _ rfl, hc k _ hg 1 _ rfl⟩
theorem SlAt.pt' {w : World} {b off : Nat} {ps : List (Int × Int)} (h : SlAt w 2 encP (some ⟨b, off, none⟩) ps) {k : Nat} (hk : k < ps.length) :
    w.cell? ⟨b, off + k * 2, none⟩ = some (.int .i64 (ps.getD k (0, 0)).1) ∧ w.cell? ⟨b, off + k * 2 + 1, none⟩ = some (.int .i64 (ps.getD k (0, 0)).2) := by
  obtain ⟨b', off', e, _, h0, h1⟩ := h.pt hk
  injection e with e
  injection e with e1 e2
  subst e1 e2
  exact ⟨h0, h1⟩
end Go.Proofs.YtabdffponmmhoaaGreatDoor
namespace Go.Proofs.YtabdffponmmhoaaGreatDoor
open Go.RowKit

/-- a world that has come of w by growth -/
structure ExtOf (w : World) where
  world : World
  ext : Ext w world
instance (w : World) : Inhabited (ExtOf w) := ⟨⟨w, Ext.refl w⟩⟩

section
variable {P : Program} {ops : Array Oper} {md : Region.Mode} {C : World → Prop}

theorem ext_all {w : World} {R : World → Prop} : (∀ w', Ext w w' → R w') = (∀ w', (∃ p : ExtOf w, w' = p.world) → R w') :=
  propext ⟨fun h w' ⟨p, hp⟩ => h w' (hp ▸ p.ext), fun h w' hx => h w' ⟨⟨w', hx⟩, rfl⟩⟩
theorem wp_region_ext {id : Nat} {Q : Exit → Act → World → Prop} {a : Act} {w : World} {l : List Oper} (hm : P.follows .mixedOrders = true) (hB : Region.lexB .any l.toArray = true)
    (h : wpQuiet P l.toArray (fun w' => ∃ p : ExtOf w, w' = p.world) (fun a' => ∀ w', Ext w w' → Q .normal a' w') l a) : (Code.region id l.toArray true).wp P Q a w := by
  rw [show (fun a' => ∀ w', Ext w w' → Q .normal a' w') = (fun a' => ∀ w', (∃ p : ExtOf w, w' = p.world) → Q .normal a' w') from funext fun _ => ext_all] at h
  exact wp_region_quiet (C := fun w' => ∃ p : ExtOf w, w' = p.world) hm hB ⟨⟨w.drew, (Ext.refl w).drew⟩, rfl⟩ (by simpa using h)

/-- a call in a world of the class -/
theorem Calls_ext {f : FuncId} {args : Array Value} {w : World} {p : ExtOf w} {v : Value} (h : Calls P f args p.world fun e w' => e = .returned v ∧ Ext p.world w') :
    Calls P f args p.world fun e w' => e = .returned v ∧ ∃ q : ExtOf w, w' = q.world :=
  h.mono fun _ _ ⟨he, hx⟩ => ⟨he, ⟨_, p.ext.trans hx⟩, rfl⟩
theorem Calls_same {f : FuncId} {args : Array Value} {w : World} {p : ExtOf w} {v : Value} (h : Calls P f args p.world fun e w' => e = .returned v ∧ p.world = w') :
    Calls P f args p.world fun e w' => e = .returned v ∧ ∃ q : ExtOf w, w' = q.world :=
  h.mono fun _ _ ⟨he, hx⟩ => ⟨he, p, hx.symm⟩
theorem ExtOf.cell {w : World} (p : ExtOf w) (b o : Nat) (hb : b < w.heap.size) : p.world.cell? ⟨b, o, none⟩ = w.cell? ⟨b, o, none⟩ := p.ext.cell b o hb
theorem ExtOf.frozen {w : World} (p : ExtOf w) (b o : Nat) (hb : b < w.heap.size) : p.world.frozen? ⟨b, o, none⟩ = w.frozen? ⟨b, o, none⟩ := p.ext.frozen b o hb

/-! a tail that writes -/
def wpAnyLQ (P : Program) (md : Region.Mode) (ops : Array Oper) (C : World → Prop) (n : Nat) (L : Array Bool → Act → Prop) : Nat → Array Bool → Act → Prop
  | 0, listed, a => L listed a
  | f + 1, listed, a =>
    Region.ready md ops listed ≠ [] ∧ ∀ i ∈ Region.ready md ops listed, i < n ∧ qOp P ops C i (wpAnyLQ P md ops C n L f (listed.setIfInBounds i true)) a

theorem wpAny_of_headQ {n g : Nat} {L : Array Bool → Act → Prop} {Q' : Exit → Act → World → Prop} (hL : ∀ listed a w, C w → L listed a → wpAny P md ops Q' g listed a w) :
    ∀ (f : Nat) (listed : Array Bool) (a : Act) (w : World), C w → wpAnyLQ P md ops C n L f listed a → wpAny P md ops Q' (f + g) listed a w
  | 0, listed, a, w, hw, h => by rw [Nat.zero_add]; exact hL _ _ _ hw h
  | f + 1, listed, a, w, hw, h => by
    rw [show f + 1 + g = (f + g) + 1 by omega]
    exact ⟨fun h0 => absurd h0 h.1, fun i hi => wpOp_of_qOp hw (fun a' w' hw' h' => wpAny_of_headQ hL f _ a' w' hw' h') (h.2 i hi).2⟩

theorem wpAnyLQ_first {n i : Nat} {oi : Oper} {v : Value} {L : Array Bool → Act → Prop} (hi : ops[i]? = some oi) (hsel : ∀ (j : Nat) (o : Oper) cs b, ops[j]? = some o → o.op ≠ .select cs b)
    (hs : Region.sinkB md ops n = true) (hc : Region.chainB md ops n = true) (hn : n < ops.size) (hin : i < n)
    (hdone : ∀ listed a, L listed a → ∀ j ∈ Region.ready md ops listed, n ≤ j) :
    ∀ (f : Nat) (listed : Array Bool) (a : Act), HeadInv md ops n listed →
      (∀ j oj, ops[j]? = some oj → j ≠ i → listed.getD j true = false → (∀ e ∈ oj.after, Region.binds md e = true → e.on ≠ i) → oi.apart ops oj = true) →
      i ∈ Region.ready md ops listed → YieldsIn P ops C oi v a →
      wpAnyLQ P md ops C n L f (listed.setIfInBounds i true) (a.put oi.dst v) → wpAnyLQ P md ops C n L (f + 1) listed a := by
  intro f
  induction f with
  | zero =>
    intro listed a inv _ hr hy H
    have hun := (mem_ready.1 hr).1
    refine ⟨fun h => (by rw [h] at hr; cases hr), fun j hj => ?_⟩
    have hjn : j < n := by
      rcases Nat.lt_or_ge j n with h | h
      · exact h
      · exact absurd hj (tail_waits hs hc hn inv _ i rfl hin hun j h)
    refine ⟨hjn, ?_⟩
    by_cases hji : j = i
    · subst hji; exact hy.qOp hi H
    · have := hdone _ _ H j (ready_mono hj hji)
      omega
  | succ f ih =>
    intro listed a inv hfree hr hy H
    have hun := (mem_ready.1 hr).1
    refine ⟨fun h => (by rw [h] at hr; cases hr), fun j hj => ?_⟩
    have hjn : j < n := by
      rcases Nat.lt_or_ge j n with h | h
      · exact h
      · exact absurd hj (tail_waits hs hc hn inv _ i rfl hin hun j h)
    refine ⟨hjn, ?_⟩
    by_cases hji : j = i
    · subst hji; exact hy.qOp hi H
    · have h1 := (H.2 j (ready_mono hj hji)).2
      obtain ⟨hjun, oj, hoj, hall⟩ := mem_ready.1 hj
      have hnot : ∀ e ∈ oj.after, Region.binds md e = true → e.on ≠ i := fun e he hb heq => by
        have h1 := hall e he hb
        rw [heq, getD_both hun] at h1
        cases h1
      have h2 := qOp_put hoj (hfree j oj hoj hji hjun hnot) (fun cs b => hsel i oi cs b hi) (fun cs b => hsel j oj cs b hoj) hy h1
      have hfree' : ∀ k ok, ops[k]? = some ok → k ≠ i → (listed.setIfInBounds j true).getD k true = false →
          (∀ e ∈ ok.after, Region.binds md e = true → e.on ≠ i) → oi.apart ops ok = true := fun k ok hk hki hun hno => by
        refine hfree k ok hk hki ?_ hno
        by_cases hjk : j = k
        · subst hjk; exact hjun
        · rw [getD_set_ne true hjk] at hun; exact hun
      refine qOp_mono (fun a' h3 => ih (listed.setIfInBounds j true) a' (inv.set hj hjn) hfree' (ready_mono hr (Ne.symm hji)) h3.1 ?_) h2
      rw [Array.setIfInBounds_comm _ _ hji]
      exact h3.2

theorem wpAnyLQ_lex {n g : Nat} {Lq : Act → Prop} (hsel : Region.noSelect ops = true) (hs : Region.sinkB md ops n = true) (hc : Region.chainB md ops n = true) (hn : n < ops.size) :
    ∀ (l : List Oper) (k : Nat) (listed : Array Bool) (a : Act), (∀ j, j < l.length → l[j]? = ops[k + j]?) → k + l.length = n → HeadInv md ops n listed →
    Region.lexHead md ops g l.length k listed = true → wpQuiet P ops C Lq l a →
    wpAnyLQ P md ops C n (fun listed' a' => Region.seqB md ops g n listed' = true ∧ Lq a') l.length listed a
  | [], k, listed, a, _, hk, _, hB, h => by
    have : k = n := by simpa using hk
    subst this
    exact ⟨by simpa [Region.lexHead] using hB, h⟩
  | o :: l, k, listed, a, hl, hk, inv, hB, h => by
    have h0 : ops[k]? = some o := by simpa using (hl 0 (by simp)).symm
    simp only [List.length_cons, Region.lexHead, Bool.and_eq_true] at hB
    obtain ⟨⟨hr, hf⟩, hB'⟩ := hB
    have hkn : k < n := by simp only [List.length_cons] at hk; omega
    have hr' : k ∈ Region.ready md ops listed := by simpa using hr
    have hst : qOp P ops C k (wpQuiet P ops C Lq l) a := by unfold qOp; simp only [h0]; exact h
    obtain ⟨v, hy, hK⟩ := yieldsIn_of_qOp h0 hst
    exact wpAnyLQ_first h0 (Region.noSelect_spec hsel) hs hc hn hkn (fun listed' a' hL => seqB_ready hL.1) l.length listed a inv (Region.free_spec h0 hf) hr' hy
      (wpAnyLQ_lex hsel hs hc hn l (k + 1) _ _ (fun j hj => by have := hl (j + 1) (by simp; omega); simpa [Nat.add_assoc, Nat.add_comm 1 j] using this) (by simp only [List.length_cons] at hk; omega) (inv.set hr' hkn) hB' hK)

/-- the first n operations read (and call what grows); the others follow one after another -/
theorem wp_region_ext_tail {id : Nat} {Q : Exit → Act → World → Prop} {a : Act} {w : World} {l : List Oper} (n : Nat) (hm : P.follows .mixedOrders = true) (hB : Region.lexTailB .any l.toArray n = true)
    (h : wpQuiet P l.toArray (fun w' => ∃ p : ExtOf w, w' = p.world) (fun a' => ∀ w', Ext w w' → wpList P l.toArray Q (l.drop n) a' w') (l.take n) a) : (Code.region id l.toArray true).wp P Q a w := by
  rw [show (fun a' => ∀ w', Ext w w' → wpList P l.toArray Q (l.drop n) a' w') = (fun a' => ∀ w', (∃ p : ExtOf w, w' = p.world) → wpList P l.toArray Q (l.drop n) a' w') from funext fun _ => ext_all] at h
  simp only [Region.lexTailB, Bool.and_eq_true, decide_eq_true_eq] at hB
  obtain ⟨⟨⟨⟨hsel, hn⟩, hs⟩, hc⟩, hlex⟩ := hB
  have hn' : n < l.length := by simpa using hn
  have htl : (l.take n).length = n := by simp; omega
  have hdl : (l.drop n).length = l.toArray.size - n := by simp
  have inv0 : HeadInv .any l.toArray n (Array.replicate l.toArray.size false) :=
    ⟨by simp, fun j oj _ hl => (by rw [getD_replicate_false] at hl; cases hl), fun t _ ht => getD_in (by simpa using ht) (getD_replicate_false _ _)⟩
  have H := wpAnyLQ_lex (md := .any) (g := l.toArray.size - n) hsel hs hc hn (l.take n) 0 _ a (fun j hj => by
    have hj' : j < n := by rw [htl] at hj; exact hj
    simp [hj']) (by simpa using htl) inv0 (by rw [htl]; exact hlex) h
  refine wp_region_any hm ?_
  have := wpAny_of_headQ (Q' := Q) (C := fun w' => ∃ p : ExtOf w, w' = p.world) (g := l.toArray.size - n) (fun listed a' w' hw' hL => by
    have := wpAny_of_seq (md := .any) (Q' := Q) (l.drop n) n listed a' w' (fun j => by simp [List.getElem?_drop]) (by rw [hdl]; exact hL.1) (hL.2 w' hw')
    rwa [hdl] at this) _ _ _ { w with drawn := w.drawn + 1 } ⟨⟨w.drew, (Ext.refl w).drew⟩, rfl⟩ H
  rw [htl, show n + (l.toArray.size - n) = l.toArray.size by omega] at this
  exact this
end
end Go.Proofs.YtabdffponmmhoaaGreatDoor
namespace Go.Proofs.YtabdffponmmhoaaGreatDoor
open Go.RowKit
attribute [local go_sem] ExtOf.cell ExtOf.frozen

theorem ret_int {k : IntKind} {a b : Int} (h : a = b) : Ending.returned (.int k a) = .returned (.int k b) := by rw [h]
/-- x lies between lo and hi -/
def inB (x lo hi : Int) : Bool := decide (lo ≤ x) && decide (x ≤ hi)

theorem within_any (x lo hi : Int) (w : World) : Calls Tryz.prog 57 #[.int .i64 x, .int .i64 lo, .int .i64 hi] w fun e w' => e = .returned (.bool (inB x lo hi)) ∧ w = w' := by
  go_enter Tryz.func57, Tryz.ntmps57
  go_wp2
  all_goals go_ret
  all_goals refine ⟨?_, rfl⟩
  all_goals (simp [inB, *]; try omega)

theorem l01In_any (x lo hi : Int) (w : World) : Calls Tryz.prog 65 #[.int .i64 x, .int .i64 lo, .int .i64 hi] w fun e w' => e = .returned (.bool (inB x lo hi)) ∧ w = w' := by
  go_enter Tryz.func65, Tryz.ntmps65
  go_wp2
  all_goals go_ret
  all_goals refine ⟨?_, rfl⟩
  all_goals (simp [inB, *]; try omega)

def okP (x y : Int) : Bool := inB x (-1000) 1000 && inB y (-1000) 1000

theorem i_IsPoint (x y : Int) (w : World) : Calls Tryz.prog 35 #[.agg #[.int .i64 x, .int .i64 y]] w fun e w' => e = .returned (.bool (okP x y)) ∧ Ext w w' := by
  go_enter Tryz.func35, Tryz.ntmps35
  go_wp2_with (first | (go_at_call 57; refine (within_any _ _ _ _).mono ?_; rintro e w' ⟨rfl, rfl⟩))
  all_goals go_ret
  all_goals refine ⟨?_, (Ext.refl _).alloc _⟩
  all_goals simp [okP, *]
theorem s_IsPoint (x y : Int) (w : World) : Calls Tryz.prog 30 #[.agg #[.int .i64 x, .int .i64 y]] w fun e w' => e = .returned (.bool (okP x y)) ∧ Ext w w' := by
  go_enter Tryz.func30, Tryz.ntmps30
  go_wp2_with (first | (go_at_call 65; refine (l01In_any _ _ _ _).mono ?_; rintro e w' ⟨rfl, rfl⟩))
  all_goals go_ret
  all_goals refine ⟨?_, (Ext.refl _).alloc _⟩
  all_goals simp [okP, *]
theorem l_toPoint (x y : Int) (w : World) : Calls Tryz.prog 10 #[.agg #[.int .i64 x, .int .i64 y]] w fun e w' => e = .returned (.agg #[.int .i64 x, .int .i64 y]) ∧ Ext w w' := by
  go_enter Tryz.func10, Tryz.ntmps10
  go_wp2
  refine bodyPost_ret (v := .agg #[.int .i64 x, .int .i64 y]) (by simp [results, Tryz.results10, go_sem]) rfl ⟨rfl, ?_⟩
  (repeat (first | with_reducible exact Ext.refl _ | with_reducible assumption | ((with_reducible apply Src.ext); with_reducible assumption) | with_reducible refine Ext.alloc ?_ _ | with_reducible refine Ext.drew ?_ | with_reducible refine Ext.drewN ?_ _ | ((with_reducible refine Ext.setCell' ?_ ?_ _); solve | omega | simp | (simp; omega)) | (with_reducible refine Ext.trans ?_ (by with_reducible assumption))))

/-- the turn of three points, as the text reckons it -/
def turnW (ax ay bx by' cx cy : Int) : Int :=
  wrap64 (wrap64 (wrap64 (bx - ax) * wrap64 (cy - ay)) - wrap64 (wrap64 (by' - ay) * wrap64 (cx - ax)))
theorem i_turn (ax ay bx by' cx cy : Int) (w : World) : Calls Tryz.prog 75 #[.agg #[.int .i64 ax, .int .i64 ay], .agg #[.int .i64 bx, .int .i64 by'], .agg #[.int .i64 cx, .int .i64 cy]] w
    fun e w' => e = .returned (.int .i64 (turnW ax ay bx by' cx cy)) ∧ Ext w w' := by
  go_enter Tryz.func75, Tryz.ntmps75
  go_wp2
  go_ret
  exact ⟨rfl, by (repeat (first | with_reducible exact Ext.refl _ | with_reducible assumption | ((with_reducible apply Src.ext); with_reducible assumption) | with_reducible refine Ext.alloc ?_ _ | with_reducible refine Ext.drew ?_ | with_reducible refine Ext.drewN ?_ _ | ((with_reducible refine Ext.setCell' ?_ ?_ _); solve | omega | simp | (simp; omega)) | (with_reducible refine Ext.trans ?_ (by with_reducible assumption))))⟩
theorem s_turn (ax ay bx by' cx cy : Int) (w : World) : Calls Tryz.prog 68 #[.agg #[.int .i64 ax, .int .i64 ay], .agg #[.int .i64 bx, .int .i64 by'], .agg #[.int .i64 cx, .int .i64 cy]] w
    fun e w' => e = .returned (.int .i64 (turnW ax ay bx by' cx cy)) ∧ Ext w w' := by
  go_enter Tryz.func68, Tryz.ntmps68
  go_wp2
  go_ret
  refine ⟨rfl, ?_⟩
  (repeat (first | with_reducible exact Ext.refl _ | with_reducible assumption | ((with_reducible apply Src.ext); with_reducible assumption) | with_reducible refine Ext.alloc ?_ _ | with_reducible refine Ext.drew ?_ | with_reducible refine Ext.drewN ?_ _ | ((with_reducible refine Ext.setCell' ?_ ?_ _); solve | omega | simp | (simp; omega)) | (with_reducible refine Ext.trans ?_ (by with_reducible assumption))))

def sqW (ax ay bx by' : Int) : Int := wrap64 (wrap64 (wrap64 (ax - bx) * wrap64 (ax - bx)) + wrap64 (wrap64 (ay - by') * wrap64 (ay - by')))
def onW (ax ay bx by' px py : Int) : Bool := (turnW ax ay bx by' px py == 0) && inB px (min ax bx) (max ax bx) && inB py (min ay by') (max ay by')
theorem i_isOn (ax ay bx by' px py : Int) (w : World) : Calls Tryz.prog 74 #[.agg #[.int .i64 ax, .int .i64 ay], .agg #[.int .i64 bx, .int .i64 by'], .agg #[.int .i64 px, .int .i64 py]] w
    fun e w' => e = .returned (.bool (onW ax ay bx by' px py)) ∧ Ext w w' := by
  go_enter Tryz.func74, Tryz.ntmps74
  go_wp2_with (first | (go_at_call 75; refine (i_turn _ _ _ _ _ _ _).mono ?_; rintro e w1 ⟨rfl, hx1⟩; obtain ⟨hc1, hf1⟩ := hx1.rules; have hs1 := hx1.size; (try simp at hs1)) | (go_at_call 57; refine (within_any _ _ _ _).mono ?_; rintro e w' ⟨rfl, rfl⟩))
  all_goals go_ret
  all_goals refine ⟨?_, by (repeat (first | with_reducible exact Ext.refl _ | with_reducible assumption | ((with_reducible apply Src.ext); with_reducible assumption) | with_reducible refine Ext.alloc ?_ _ | with_reducible refine Ext.drew ?_ | with_reducible refine Ext.drewN ?_ _ | ((with_reducible refine Ext.setCell' ?_ ?_ _); solve | omega | simp | (simp; omega)) | (with_reducible refine Ext.trans ?_ (by with_reducible assumption))))⟩
  all_goals simp [onW, *]
theorem s_isOn (ax ay bx by' px py : Int) (w : World) : Calls Tryz.prog 67 #[.agg #[.int .i64 ax, .int .i64 ay], .agg #[.int .i64 bx, .int .i64 by'], .agg #[.int .i64 px, .int .i64 py]] w
    fun e w' => e = .returned (.bool (onW ax ay bx by' px py)) ∧ Ext w w' := by
  go_enter Tryz.func67, Tryz.ntmps67
  go_wp2_with (first | (go_at_call 68; refine (s_turn _ _ _ _ _ _ _).mono ?_; rintro e w1 ⟨rfl, hx1⟩; obtain ⟨hc1, hf1⟩ := hx1.rules; have hs1 := hx1.size; (try simp at hs1)) | (go_at_call 65; refine (l01In_any _ _ _ _).mono ?_; rintro e w' ⟨rfl, rfl⟩))
  all_goals go_ret
  all_goals refine ⟨?_, by (repeat (first | with_reducible exact Ext.refl _ | with_reducible assumption | ((with_reducible apply Src.ext); with_reducible assumption) | with_reducible refine Ext.alloc ?_ _ | with_reducible refine Ext.drew ?_ | with_reducible refine Ext.drewN ?_ _ | ((with_reducible refine Ext.setCell' ?_ ?_ _); solve | omega | simp | (simp; omega)) | (with_reducible refine Ext.trans ?_ (by with_reducible assumption))))⟩
  all_goals simp [onW, *]

def sgn (x : Int) : Int := max (-1) (min 1 x)
theorem i_sign (x : Int) (w : World) : Calls Tryz.prog 198 #[.int .i64 x] w fun e w' => e = .returned (.int .i64 (sgn x)) ∧ w = w' := by
  go_enter Tryz.func198, Tryz.ntmps198
  go_wp2
  go_ret
  exact ⟨rfl, rfl⟩
theorem s_sign (x : Int) (w : World) : Calls Tryz.prog 164 #[.int .i64 x] w fun e w' => e = .returned (.int .i64 (sgn x)) ∧ w = w' := by
  go_enter Tryz.func164, Tryz.ntmps164
  go_wp2
  all_goals go_ret
  all_goals refine ⟨ret_int ?_, rfl⟩
  all_goals (unfold sgn; omega)
def absW (x : Int) : Int := max x (wrap64 (-x))

end Go.Proofs.YtabdffponmmhoaaGreatDoor
namespace Go.Proofs.YtabdffponmmhoaaGreatDoor
open Go.RowKit
attribute [local go_sem] ExtOf.cell ExtOf.frozen

def crossW (ax ay bx by' cx cy dx dy : Int) : Bool :=
  onW ax ay bx by' cx cy || onW ax ay bx by' dx dy || onW cx cy dx dy ax ay || onW cx cy dx dy bx by' ||
    (decide (sgn (turnW ax ay bx by' cx cy) * sgn (turnW ax ay bx by' dx dy) < 0) && decide (sgn (turnW cx cy dx dy ax ay) * sgn (turnW cx cy dx dy bx by') < 0))
theorem sgn_bd (x : Int) : -1 ≤ sgn x ∧ sgn x ≤ 1 := by unfold sgn; omega
theorem sgn_mul (x y : Int) : -1 ≤ sgn x * sgn y ∧ sgn x * sgn y ≤ 1 := by
  rcases (show sgn x = -1 ∨ sgn x = 0 ∨ sgn x = 1 by unfold sgn; omega) with h | h | h <;> rw [h] <;> have := sgn_bd y <;> omega
theorem i_doCross (ax ay bx by' cx cy dx dy : Int) (w : World) :
    Calls Tryz.prog 167 #[.agg #[.int .i64 ax, .int .i64 ay], .agg #[.int .i64 bx, .int .i64 by'], .agg #[.int .i64 cx, .int .i64 cy], .agg #[.int .i64 dx, .int .i64 dy]] w
    fun e w' => e = .returned (.bool (crossW ax ay bx by' cx cy dx dy)) ∧ Ext w w' := by
  have m1 := sgn_mul (turnW ax ay bx by' cx cy) (turnW ax ay bx by' dx dy)
  have m2 := sgn_mul (turnW cx cy dx dy ax ay) (turnW cx cy dx dy bx by')
  go_enter Tryz.func167, Tryz.ntmps167
  go_wp2_with (first | (go_at_call 74; refine (i_isOn _ _ _ _ _ _ _).mono ?_; rintro e w1 ⟨rfl, hx1⟩; obtain ⟨hc1, hf1⟩ := hx1.rules; have hs1 := hx1.size; (try simp at hs1); have := (show w.heap.size < w1.heap.size from by omega); have := (show w.heap.size + 1 < w1.heap.size from by omega); have := (show w.heap.size + 1 + 1 < w1.heap.size from by omega); have := (show w.heap.size + 1 + 1 + 1 < w1.heap.size from by omega)))
  rotate_right
  · by_cases hg : sgn (turnW ax ay bx by' cx cy) * sgn (turnW ax ay bx by' dx dy) < 0
    all_goals
      (refine wp_region_ext (by kernel_rfl) (by kernel_rfl) ?_; (repeat (go_big_quiet_step (first | (go_at_call 75; exact Calls_ext (i_turn _ _ _ _ _ _ _)) | (go_at_call 198; exact Calls_same (i_sign _ _))))); refine wpQuiet_nil ?_; intro wq hxwq; obtain ⟨hcwq, hfwq⟩ := hxwq.rules; have hswq := hxwq.size; (try simp at hswq))
      go_wp2
      go_ret
      refine ⟨?_, by (repeat (first | with_reducible exact Ext.refl _ | with_reducible assumption | ((with_reducible apply Src.ext); with_reducible assumption) | with_reducible refine Ext.alloc ?_ _ | with_reducible refine Ext.drew ?_ | with_reducible refine Ext.drewN ?_ _ | ((with_reducible refine Ext.setCell' ?_ ?_ _); solve | omega | simp | (simp; omega)) | (with_reducible refine Ext.trans ?_ (by with_reducible assumption))))⟩
      (simp [crossW, *]; try omega)
  all_goals go_ret
  all_goals refine ⟨?_, by (repeat (first | with_reducible exact Ext.refl _ | with_reducible assumption | ((with_reducible apply Src.ext); with_reducible assumption) | with_reducible refine Ext.alloc ?_ _ | with_reducible refine Ext.drew ?_ | with_reducible refine Ext.drewN ?_ _ | ((with_reducible refine Ext.setCell' ?_ ?_ _); solve | omega | simp | (simp; omega)) | (with_reducible refine Ext.trans ?_ (by with_reducible assumption))))⟩
  all_goals simp [crossW, *]
theorem s_doCross (ax ay bx by' cx cy dx dy : Int) (w : World) :
    Calls Tryz.prog 122 #[.agg #[.int .i64 ax, .int .i64 ay], .agg #[.int .i64 bx, .int .i64 by'], .agg #[.int .i64 cx, .int .i64 cy], .agg #[.int .i64 dx, .int .i64 dy]] w
    fun e w' => e = .returned (.bool (crossW ax ay bx by' cx cy dx dy)) ∧ Ext w w' := by
  have m1 := sgn_mul (turnW ax ay bx by' cx cy) (turnW ax ay bx by' dx dy)
  have m2 := sgn_mul (turnW cx cy dx dy ax ay) (turnW cx cy dx dy bx by')
  go_enter Tryz.func122, Tryz.ntmps122
  go_wp2_with (first | (go_at_call 67; refine (s_isOn _ _ _ _ _ _ _).mono ?_; rintro e w1 ⟨rfl, hx1⟩; obtain ⟨hc1, hf1⟩ := hx1.rules; have hs1 := hx1.size; (try simp at hs1); have := (show w.heap.size < w1.heap.size from by omega); have := (show w.heap.size + 1 < w1.heap.size from by omega); have := (show w.heap.size + 1 + 1 < w1.heap.size from by omega); have := (show w.heap.size + 1 + 1 + 1 < w1.heap.size from by omega)))
  rotate_right
  · by_cases hg : sgn (turnW ax ay bx by' cx cy) * sgn (turnW ax ay bx by' dx dy) < 0
    all_goals
      (refine wp_region_ext (by kernel_rfl) (by kernel_rfl) ?_; (repeat (go_big_quiet_step (first | (go_at_call 68; exact Calls_ext (s_turn _ _ _ _ _ _ _)) | (go_at_call 164; exact Calls_same (s_sign _ _))))); refine wpQuiet_nil ?_; intro wq hxwq; obtain ⟨hcwq, hfwq⟩ := hxwq.rules; have hswq := hxwq.size; (try simp at hswq))
      go_wp2
      go_ret
      refine ⟨?_, by (repeat (first | with_reducible exact Ext.refl _ | with_reducible assumption | ((with_reducible apply Src.ext); with_reducible assumption) | with_reducible refine Ext.alloc ?_ _ | with_reducible refine Ext.drew ?_ | with_reducible refine Ext.drewN ?_ _ | ((with_reducible refine Ext.setCell' ?_ ?_ _); solve | omega | simp | (simp; omega)) | (with_reducible refine Ext.trans ?_ (by with_reducible assumption))))⟩
      (simp [crossW, *]; try omega)
  all_goals go_ret
  all_goals refine ⟨?_, by (repeat (first | with_reducible exact Ext.refl _ | with_reducible assumption | ((with_reducible apply Src.ext); with_reducible assumption) | with_reducible refine Ext.alloc ?_ _ | with_reducible refine Ext.drew ?_ | with_reducible refine Ext.drewN ?_ _ | ((with_reducible refine Ext.setCell' ?_ ?_ _); solve | omega | simp | (simp; omega)) | (with_reducible refine Ext.trans ?_ (by with_reducible assumption))))⟩
  all_goals simp [crossW, *]

theorem absW_bd (x b : Int) (h : -b ≤ x) (h' : x ≤ b) (hb : b ≤ 1000000000000) : 0 ≤ absW x ∧ absW x ≤ b := by unfold absW wrap64; omega
/-- the value at a corner of the table of directions -/
def dirT (dy dx : Int) : Int :=
  if dy < 0 then (if dx < 0 then 5 else if dx = 0 then 4 else 3) else if dy = 0 then (if dx < 0 then 6 else if dx = 0 then 0 else 2) else (if dx < 0 then 7 else if dx = 0 then 0 else 1)
/-- the direction, of the differences -/
def dirZ (dx dy : Int) : Int :=
  if 2 * absW dx < absW dy then dirT dy 0 else if 2 * absW dy < absW dx then dirT 0 dx else dirT dy dx
theorem i_sign_neg (x : Int) (w : World) (h : x < 0) : Calls Tryz.prog 198 #[.int .i64 x] w fun e w' => e = .returned (.int .i64 (-1)) ∧ w = w' := by
  have := i_sign x w
  rwa [show sgn x = -1 by unfold sgn; omega] at this
theorem i_sign_zero (x : Int) (w : World) (h : x = 0) : Calls Tryz.prog 198 #[.int .i64 x] w fun e w' => e = .returned (.int .i64 0) ∧ w = w' := by
  have := i_sign x w
  rwa [show sgn x = 0 by unfold sgn; omega] at this
theorem i_sign_pos (x : Int) (w : World) (h : 0 < x) : Calls Tryz.prog 198 #[.int .i64 x] w fun e w' => e = .returned (.int .i64 1) ∧ w = w' := by
  have := i_sign x w
  rwa [show sgn x = 1 by unfold sgn; omega] at this

end Go.Proofs.YtabdffponmmhoaaGreatDoor
namespace Go.Proofs.YtabdffponmmhoaaGreatDoor
open Go.RowKit

/-- two points are one -/
def eqP (ax az bx bz : Int) : Bool := ax == bx && az == bz
theorem eqP_iff {ax az bx bz : Int} : eqP ax az bx bz = true ↔ ax = bx ∧ az = bz := by simp [eqP]
@[go_sem high] theorem guard_pt (op : BinOp) (x y : Operand) (xs ys : Array Value) (w : World) : (eqGuard op 35 x y (.agg xs) (.agg ys)).run Tryz.prog w = .ok () w :=
  run_eqGuard_agg w op _ x y xs ys (by kernel_rfl)
@[go_sem high] theorem eql_pt (ax az bx bz : Int) (w : World) : (binOp .eql 35 (.agg #[.int .i64 ax, .int .i64 az]) (.agg #[.int .i64 bx, .int .i64 bz])).run Tryz.prog w = .ok (.bool (eqP ax az bx bz)) w := by
  have hS : Tryz.prog.underlying 35 = some (.struct (Tryz.prog.fieldsOf 35)) := by kernel_rfl
  have hp : Tryz.prog.stoodInHeld 35 = false := by kernel_rfl
  have a3 := Tryz.isAgg2
  have z3 := Tryz.sizeOf2
  rw [run_eql_struct, show (10000 : Nat) = 9999 + 1 from rfl, run_equalIn_agg w 9999 35 _ _ hS hp]
  simp only [Program.fieldsOf, Tryz.underlying35]
  go_simp
  by_cases h1 : ax = bx <;> by_cases h2 : az = bz <;> simp [h1, h2, eqP]
@[go_sem high] theorem neq_pt (ax az bx bz : Int) (w : World) : (binOp .neq 35 (.agg #[.int .i64 ax, .int .i64 az]) (.agg #[.int .i64 bx, .int .i64 bz])).run Tryz.prog w = .ok (.bool (!eqP ax az bx bz)) w := by
  have hS : Tryz.prog.underlying 35 = some (.struct (Tryz.prog.fieldsOf 35)) := by kernel_rfl
  have hp : Tryz.prog.stoodInHeld 35 = false := by kernel_rfl
  have a3 := Tryz.isAgg2
  have z3 := Tryz.sizeOf2
  rw [run_neq_struct, show (10000 : Nat) = 9999 + 1 from rfl, run_equalIn_agg w 9999 35 _ _ hS hp]
  simp only [Program.fieldsOf, Tryz.underlying35]
  go_simp
  by_cases h1 : ax = bx <;> by_cases h2 : az = bz <;> simp [h1, h2, eqP]
end Go.Proofs.YtabdffponmmhoaaGreatDoor
namespace Go.Proofs.YtabdffponmmhoaaGreatDoor
open Go.RowKit
attribute [local go_sem] ExtOf.cell ExtOf.frozen


theorem all_false {ps : List (Int × Int)} {k : Nat} (hk : k < ps.length) (h : (!okP ps[k].1 ps[k].2) = true) : (ps.all fun p => okP p.1 p.2) = false := by
  rw [List.all_eq_false]
  exact ⟨ps[k], List.getElem_mem hk, by simpa using h⟩
theorem all_succ {ps : List (Int × Int)} {k : Nat} (hk : k < ps.length) (hal : (ps.take k).all (fun p => okP p.1 p.2) = true) (h : (!okP ps[k].1 ps[k].2) = false) : (ps.take (k + 1)).all (fun p => okP p.1 p.2) = true := by
  rw [List.take_succ_eq_append_getElem hk, List.all_append, hal]
  simpa using h

theorem i_arePoints (A : Option Addr) (c : Nat) (ps : List (Int × Int)) (w : World) (h : SlAt w 2 encP A ps) (hl : ps.length ≤ 1048576) :
    Calls Tryz.prog 128 #[.slice A ps.length c] w fun e w' => e = .returned (.bool (ps.all fun p => okP p.1 p.2)) ∧ Ext w w' := by
  go_enter Tryz.func128, Tryz.ntmps128
  go_wp2
  go_loopw [7] (fun i wr => ∃ k : Nat, k ≤ ps.length ∧ i = .int .i64 k ∧ (ps.take k).all (fun p => okP p.1 p.2) = true ∧ Ext w wr) (fun i _ => ps.length - (intOf i).toNat)
  case atStart => exact ⟨0, Nat.zero_le _, rfl, rfl, Ext.refl _⟩
  case round =>
    obtain ⟨k, hk, rfl, hal, hx⟩ := hrel
    by_cases hlt : k < ps.length
    · obtain ⟨b, off, rfl, hb, h0, h1⟩ := (h.ext hx).pt hlt
      go_wp2_with (first | (go_at_call 35; refine (i_IsPoint _ _ _).mono ?_; rintro e w1 ⟨rfl, hx1⟩; obtain ⟨hc1, hf1⟩ := hx1.rules; have hs1 := hx1.size; (try simp at hs1)))
      · go_ret
        exact ⟨congrArg (fun b => Ending.returned (.bool b)) (all_false (k := k) hlt (by assumption)).symm, by (repeat (first | with_reducible exact Ext.refl _ | with_reducible assumption | ((with_reducible apply Src.ext); with_reducible assumption) | with_reducible refine Ext.alloc ?_ _ | with_reducible refine Ext.drew ?_ | with_reducible refine Ext.drewN ?_ _ | ((with_reducible refine Ext.setCell' ?_ ?_ _); solve | omega | simp | (simp; omega)) | (with_reducible refine Ext.trans ?_ (by with_reducible assumption))))⟩
      · go_roundw
        case rel => exact ⟨k + 1, by omega, by go_num, all_succ hlt hal (by assumption), by (repeat (first | with_reducible exact Ext.refl _ | with_reducible assumption | ((with_reducible apply Src.ext); with_reducible assumption) | with_reducible refine Ext.alloc ?_ _ | with_reducible refine Ext.drew ?_ | with_reducible refine Ext.drewN ?_ _ | ((with_reducible refine Ext.setCell' ?_ ?_ _); solve | omega | simp | (simp; omega)) | (with_reducible refine Ext.trans ?_ (by with_reducible assumption))))⟩
        case measure => simp [intOf]; omega
    · go_wp2
      go_ret
      rw [List.take_of_length_le (by omega)] at hal
      exact ⟨congrArg (fun b => Ending.returned (.bool b)) hal.symm, by (repeat (first | with_reducible exact Ext.refl _ | with_reducible assumption | ((with_reducible apply Src.ext); with_reducible assumption) | with_reducible refine Ext.alloc ?_ _ | with_reducible refine Ext.drew ?_ | with_reducible refine Ext.drewN ?_ _ | ((with_reducible refine Ext.setCell' ?_ ?_ _); solve | omega | simp | (simp; omega)) | (with_reducible refine Ext.trans ?_ (by with_reducible assumption))))⟩

theorem s_arePoints (A : Option Addr) (c : Nat) (ps : List (Int × Int)) (w : World) (h : SlAt w 2 encP A ps) (hl : ps.length ≤ 1048576) :
    Calls Tryz.prog 121 #[.slice A ps.length c] w fun e w' => e = .returned (.bool (ps.all fun p => okP p.1 p.2)) ∧ Ext w w' := by
  go_enter Tryz.func121, Tryz.ntmps121
  go_wp2
  go_loopw [3] (fun i wr => ∃ k : Nat, k ≤ ps.length ∧ i = .int .i64 k ∧ (ps.take k).all (fun p => okP p.1 p.2) = true ∧ Ext w wr) (fun i _ => ps.length - (intOf i).toNat)
  case atStart => exact ⟨0, Nat.zero_le _, rfl, rfl, Ext.refl _⟩
  case round =>
    obtain ⟨k, hk, rfl, hal, hx⟩ := hrel
    by_cases hlt : k < ps.length
    · obtain ⟨b, off, rfl, hb, h0, h1⟩ := (h.ext hx).pt hlt
      go_wp2_with (first | (go_at_call 30; refine (s_IsPoint _ _ _).mono ?_; rintro e w1 ⟨rfl, hx1⟩; obtain ⟨hc1, hf1⟩ := hx1.rules; have hs1 := hx1.size; (try simp at hs1)))
      · go_ret
        exact ⟨congrArg (fun b => Ending.returned (.bool b)) (all_false (k := k) hlt (by assumption)).symm, by (repeat (first | with_reducible exact Ext.refl _ | with_reducible assumption | ((with_reducible apply Src.ext); with_reducible assumption) | with_reducible refine Ext.alloc ?_ _ | with_reducible refine Ext.drew ?_ | with_reducible refine Ext.drewN ?_ _ | ((with_reducible refine Ext.setCell' ?_ ?_ _); solve | omega | simp | (simp; omega)) | (with_reducible refine Ext.trans ?_ (by with_reducible assumption))))⟩
      · go_roundw
        case rel => exact ⟨k + 1, by omega, by go_num, all_succ hlt hal (by assumption), by (repeat (first | with_reducible exact Ext.refl _ | with_reducible assumption | ((with_reducible apply Src.ext); with_reducible assumption) | with_reducible refine Ext.alloc ?_ _ | with_reducible refine Ext.drew ?_ | with_reducible refine Ext.drewN ?_ _ | ((with_reducible refine Ext.setCell' ?_ ?_ _); solve | omega | simp | (simp; omega)) | (with_reducible refine Ext.trans ?_ (by with_reducible assumption))))⟩
        case measure => simp [intOf]; omega
    · go_wp2
      go_ret
      rw [List.take_of_length_le (by omega)] at hal
      exact ⟨congrArg (fun b => Ending.returned (.bool b)) hal.symm, by (repeat (first | with_reducible exact Ext.refl _ | with_reducible assumption | ((with_reducible apply Src.ext); with_reducible assumption) | with_reducible refine Ext.alloc ?_ _ | with_reducible refine Ext.drew ?_ | with_reducible refine Ext.drewN ?_ _ | ((with_reducible refine Ext.setCell' ?_ ?_ _); solve | omega | simp | (simp; omega)) | (with_reducible refine Ext.trans ?_ (by with_reducible assumption))))⟩

def oks (ps : List (Int × Int)) : Bool := ps.all fun p => okP p.1 p.2
def okC (ps : List (Int × Int)) : Int := if oks ps then 0 else 1
def turnR (ax az bx bz cx cz : Int) : Int := if oks [(ax, az), (bx, bz), (cx, cz)] then turnW ax az bx bz cx cz else 0
def onR (ax az bx bz cx cz : Int) : Bool := if oks [(ax, az), (bx, bz), (cx, cz)] then onW ax az bx bz cx cz else false
def sqR (ax az bx bz : Int) : Int := if oks [(ax, az), (bx, bz)] then sqW ax az bx bz else 0
theorem i_arePoints' (b : Nat) (c : Nat) (cs : Array Value) (t : TypeId) (ps : List (Int × Int)) (n : Nat) (w : World) (hb : w.heap[b]? = some (.cells cs t (0, 0))) (hcs : cs.toList = ps.flatMap encP) (hn : n = ps.length) (hl : ps.length ≤ 1048576) :
    Calls Tryz.prog 128 #[.slice (some ⟨b, 0, none⟩) n c] w fun e w' => e = .returned (.bool (oks ps)) ∧ Ext w w' := by
  subst hn
  exact i_arePoints _ _ _ _ (SlAt.block hb hcs (fun _ => rfl)) hl
theorem s_arePoints' (b : Nat) (c : Nat) (cs : Array Value) (t : TypeId) (ps : List (Int × Int)) (n : Nat) (w : World) (hb : w.heap[b]? = some (.cells cs t (0, 0))) (hcs : cs.toList = ps.flatMap encP) (hn : n = ps.length) (hl : ps.length ≤ 1048576) :
    Calls Tryz.prog 121 #[.slice (some ⟨b, 0, none⟩) n c] w fun e w' => e = .returned (.bool (oks ps)) ∧ Ext w w' := by
  subst hn
  exact s_arePoints _ _ _ _ (SlAt.block hb hcs (fun _ => rfl)) hl

def crossC (ax az bx bz cx cz dx dz : Int) : Int := if oks [(ax, az), (bx, bz), (cx, cz), (dx, dz)] then (if eqP ax az bx bz || eqP cx cz dx dz then 5 else 0) else 1
def dirC (ax az bx bz : Int) : Int := if oks [(ax, az), (bx, bz)] then (if eqP ax az bx bz then 5 else 0) else 1
def crossR (ax az bx bz cx cz dx dz : Int) : Bool := if crossC ax az bx bz cx cz dx dz = 0 then crossW ax az bx bz cx cz dx dz else false
def dirR (ax az bx bz : Int) : Int := if dirC ax az bx bz = 0 then dirZ (bx - ax) (bz - az) else 0
theorem ne_of_eqP {ax az bx bz : Int} (h : eqP ax az bx bz = false) : ¬ (ax = bx ∧ az = bz) := fun e => by rw [eqP_iff.2 e] at h; cases h
theorem oks_two {ax az bx bz : Int} (h : (!oks [(ax, az), (bx, bz)]) = false) : okP ax az = true ∧ okP bx bz = true := by simpa [oks] using h
theorem oks_two' {ax az bx bz : Int} (h : oks [(ax, az), (bx, bz)] = true) : okP ax az = true ∧ okP bx bz = true := by simpa [oks] using h


end Go.Proofs.YtabdffponmmhoaaGreatDoor
namespace Go.Proofs.YtabdffponmmhoaaGreatDoor
open Go.RowKit
attribute [local go_sem] ExtOf.cell ExtOf.frozen



theorem info_pt : (Tryz.prog.info? 35).map (fun i => (i.zero, i.size, i.bytes)) = some (some (.agg #[.int .i64 0, .int .i64 0]), 2, 16) := by kernel_rfl
theorem len_encP : ∀ p, (encP p).length = 2 := fun _ => rfl
/-- a copy of a list of points -/
theorem l_toPointS (A : Option Addr) (c : Nat) (ps : List (Int × Int)) (w : World) (h : SlAt w 2 encP A ps) (hl : ps.length ≤ 1048576) :
    Calls Tryz.prog 32 #[.slice A ps.length c] w fun e w' => ∃ cs, e = .returned (.slice (some ⟨w.heap.size, 0, none⟩) ps.length ps.length) ∧ Blk w' w.heap.size 35 cs ∧ cs.toList = ps.flatMap encP ∧ Ext w w' := by
  obtain ⟨i0, hi, hz0, hz1, hz2⟩ := info_parts info_pt
  have hmk : ∀ u : World, (Instr.makeSlice 63 (.int .i64 (ps.length : Int)) (.int .i64 (ps.length : Int))).run Tryz.prog u =
      .ok (.slice (some ⟨u.heap.size, 0, none⟩) ps.length ps.length) (u.alloc (.cells (madeCells #[.int .i64 0, .int .i64 0] (ps.length * 2)) 35)) := fun u => by
    have h := run_make (P := Tryz.prog) u 63 35 i0 (.agg #[.int .i64 0, .int .i64 0]) Tryz.underlying63 hi hz0 .i64 .i64 (ps.length : Int) (ps.length : Int) (by omega) (Int.le_refl _) (by rw [hz2]; omega) (by omega)
    simpa [hz1, Value.cells] using h
  go_enter Tryz.func32, Tryz.ntmps32
  go_wp2
  go_loopw [4] (fun i wr => ∃ (k : Nat) (cs : Array Value), k ≤ ps.length ∧ i = .int .i64 k ∧ Blk wr w.heap.size 35 cs ∧ Filled 2 encP ps k cs ∧ Ext w wr) (fun i _ => ps.length - (intOf i).toNat)
  case atStart => exact ⟨0, _, Nat.zero_le _, rfl, Blk.new rfl, Filled.start (by simp [madeCells]), by (repeat (first | with_reducible exact Ext.refl _ | with_reducible assumption | ((with_reducible apply Src.ext); with_reducible assumption) | with_reducible refine Ext.alloc ?_ _ | with_reducible refine Ext.drew ?_ | with_reducible refine Ext.drewN ?_ _ | ((with_reducible refine Ext.setCell' ?_ ?_ _); solve | omega | simp | (simp; omega)) | (with_reducible refine Ext.trans ?_ (by with_reducible assumption))))⟩
  case round =>
    obtain ⟨k, cs, hk, rfl, hB, hF, hx⟩ := hrel
    by_cases hlt : k < ps.length
    · obtain ⟨b, off, rfl, hb, h0, h1⟩ := (h.ext hx).pt hlt
      obtain ⟨u0, hu0⟩ := hF.at_ (j := k * 2) (by omega)
      obtain ⟨u1, hu1⟩ := hF.at_ (j := k * 2 + 1) (by omega)
      have c0 := (hB.cell (k * 2)).trans hu0
      have c1 := (hB.cell (k * 2 + 1)).trans hu1
      have f0 := hB.frozen (k * 2)
      have f1 := hB.frozen (k * 2 + 1)
      have hBl := hB.lt
      clear hu0 hu1
      go_wp2_with (first | (go_at_call 10; refine (l_toPoint _ _ _).mono ?_; rintro e w1 ⟨rfl, hx1⟩; obtain ⟨hc1, hf1⟩ := hx1.rules; have hs1 := hx1.size; (try simp at hs1); have := (show w.heap.size < w1.heap.size from by omega)))
      go_roundw
      case rel => exact ⟨k + 1, _, by omega, by go_num, ((hB.ext hx1).set_ _ _).set_ _ _, hF.step2 len_encP (List.getElem?_eq_getElem hlt) rfl, by (repeat (first | with_reducible exact Ext.refl _ | with_reducible assumption | ((with_reducible apply Src.ext); with_reducible assumption) | with_reducible refine Ext.alloc ?_ _ | with_reducible refine Ext.drew ?_ | with_reducible refine Ext.drewN ?_ _ | ((with_reducible refine Ext.setCell' ?_ ?_ _); solve | omega | simp | (simp; omega)) | (with_reducible refine Ext.trans ?_ (by with_reducible assumption))))⟩
      case measure => simp [intOf]; omega
    · go_wp2
      go_ret
      obtain rfl : k = ps.length := by omega
      exact ⟨cs, rfl, hB, hF.done len_encP, hx⟩
theorem ret_bool {a b : Bool} (h : a = b) : Ending.returned (.bool a) = .returned (.bool b) := by rw [h]
def eqPs (ps qs : List (Int × Int)) : Bool := decide (ps = qs)
theorem eqPs_false {ps qs : List (Int × Int)} {k : Nat} {h1 : k < ps.length} {h2 : k < qs.length} (h : (!eqP ps[k].1 ps[k].2 qs[k].1 qs[k].2) = true) : eqPs ps qs = false := by
  unfold eqPs
  rw [decide_eq_false_iff_not]
  rintro rfl
  simp [eqP] at h
theorem eqPs_len {ps qs : List (Int × Int)} (h : ¬ ps.length = qs.length) : eqPs ps qs = false := by
  unfold eqPs
  rw [decide_eq_false_iff_not]
  rintro rfl
  exact h rfl
theorem eqPs_succ {ps qs : List (Int × Int)} {k : Nat} {h1 : k < ps.length} {h2 : k < qs.length} (h : ps.take k = qs.take k) (he : (!eqP ps[k].1 ps[k].2 qs[k].1 qs[k].2) = false) : ps.take (k + 1) = qs.take (k + 1) := by
  have e : ps[k] = qs[k] := by simpa [eqP, Prod.ext_iff] using he
  rw [List.take_succ_eq_append_getElem h1, List.take_succ_eq_append_getElem h2, h, e]
theorem eqPs_end {ps qs : List (Int × Int)} {k : Nat} (h1 : ps.length ≤ k) (hn : ps.length = qs.length) (h : ps.take k = qs.take k) : eqPs ps qs = true := by
  rw [List.take_of_length_le h1, List.take_of_length_le (by omega)] at h
  simp [eqPs, h]
theorem l_eqPoint (ax az bx bz : Int) (w : World) : Calls Tryz.prog 76 #[.agg #[.int .i64 ax, .int .i64 az], .agg #[.int .i64 bx, .int .i64 bz]] w
    fun e w' => e = .returned (.bool (eqP ax az bx bz)) ∧ Ext w w' := by
  go_enter Tryz.func76, Tryz.ntmps76
  go_wp2
  all_goals go_ret
  all_goals refine ⟨?_, by (repeat (first | with_reducible exact Ext.refl _ | with_reducible assumption | ((with_reducible apply Src.ext); with_reducible assumption) | with_reducible refine Ext.alloc ?_ _ | with_reducible refine Ext.drew ?_ | with_reducible refine Ext.drewN ?_ _ | ((with_reducible refine Ext.setCell' ?_ ?_ _); solve | omega | simp | (simp; omega)) | (with_reducible refine Ext.trans ?_ (by with_reducible assumption))))⟩
  all_goals simp_all [eqP]
theorem l_eqPointS (A A' : Option Addr) (c c' : Nat) (ps qs : List (Int × Int)) (w : World) (h : SlAt w 2 encP A ps) (h' : SlAt w 2 encP A' qs) (hl : ps.length ≤ 1048576) :
    Calls Tryz.prog 39 #[.slice A ps.length c, .slice A' qs.length c'] w fun e w' => e = .returned (.bool (eqPs ps qs)) ∧ Ext w w' := by
  by_cases hn : ps.length = qs.length
  · have hn1 : (((ps.length : Nat) : Int) != (qs.length : Int)) = false := by simp [hn]
    have HN := Lib.hid hn
    clear hn
    go_enter Tryz.func39, Tryz.ntmps39
    go_wp2
    go_loopw [5] (fun i wr => ∃ k : Nat, k ≤ ps.length ∧ i = .int .i64 k ∧ ps.take k = qs.take k ∧ Ext w wr) (fun i _ => ps.length - (intOf i).toNat)
    case atStart => exact ⟨0, Nat.zero_le _, rfl, rfl, by (repeat (first | with_reducible exact Ext.refl _ | with_reducible assumption | ((with_reducible apply Src.ext); with_reducible assumption) | with_reducible refine Ext.alloc ?_ _ | with_reducible refine Ext.drew ?_ | with_reducible refine Ext.drewN ?_ _ | ((with_reducible refine Ext.setCell' ?_ ?_ _); solve | omega | simp | (simp; omega)) | (with_reducible refine Ext.trans ?_ (by with_reducible assumption))))⟩
    case round =>
      obtain ⟨k, hk, rfl, htk, hx⟩ := hrel
      have HT := Lib.hid htk
      clear htk
      by_cases hlt : k < ps.length
      · have hlt' : k < qs.length := by have := HN.out; omega
        obtain ⟨b, off, rfl, hb, h0, h1⟩ := (h.ext hx).pt hlt
        obtain ⟨b', off', rfl, hb', h0', h1'⟩ := (h'.ext hx).pt hlt'
        go_wp2
        (refine wp_region_ext (by kernel_rfl) (by kernel_rfl) ?_; (repeat (go_big_quiet_step ((go_at_call 76; exact Calls_ext (l_eqPoint _ _ _ _ _))))); refine wpQuiet_nil ?_; intro wq hxwq; obtain ⟨hcwq, hfwq⟩ := hxwq.rules; have hswq := hxwq.size; (try simp at hswq))
        go_wp2
        · go_ret
          exact ⟨ret_bool (eqPs_false (by assumption)).symm, by (repeat (first | with_reducible exact Ext.refl _ | with_reducible assumption | ((with_reducible apply Src.ext); with_reducible assumption) | with_reducible refine Ext.alloc ?_ _ | with_reducible refine Ext.drew ?_ | with_reducible refine Ext.drewN ?_ _ | ((with_reducible refine Ext.setCell' ?_ ?_ _); solve | omega | simp | (simp; omega)) | (with_reducible refine Ext.trans ?_ (by with_reducible assumption))))⟩
        · go_roundw
          case rel => exact ⟨k + 1, by omega, by go_num, eqPs_succ HT.out (by assumption), by (repeat (first | with_reducible exact Ext.refl _ | with_reducible assumption | ((with_reducible apply Src.ext); with_reducible assumption) | with_reducible refine Ext.alloc ?_ _ | with_reducible refine Ext.drew ?_ | with_reducible refine Ext.drewN ?_ _ | ((with_reducible refine Ext.setCell' ?_ ?_ _); solve | omega | simp | (simp; omega)) | (with_reducible refine Ext.trans ?_ (by with_reducible assumption))))⟩
          case measure => simp [intOf]; omega
      · go_wp2
        go_ret
        exact ⟨ret_bool (eqPs_end (by omega) HN.out HT.out).symm, by (repeat (first | with_reducible exact Ext.refl _ | with_reducible assumption | ((with_reducible apply Src.ext); with_reducible assumption) | with_reducible refine Ext.alloc ?_ _ | with_reducible refine Ext.drew ?_ | with_reducible refine Ext.drewN ?_ _ | ((with_reducible refine Ext.setCell' ?_ ?_ _); solve | omega | simp | (simp; omega)) | (with_reducible refine Ext.trans ?_ (by with_reducible assumption))))⟩
  · have hn1 : (((ps.length : Nat) : Int) != (qs.length : Int)) = true := by simp; omega
    have HN := Lib.hid hn
    clear hn
    go_enter Tryz.func39, Tryz.ntmps39
    go_wp2
    go_ret
    exact ⟨ret_bool (eqPs_len HN.out).symm, by (repeat (first | with_reducible exact Ext.refl _ | with_reducible assumption | ((with_reducible apply Src.ext); with_reducible assumption) | with_reducible refine Ext.alloc ?_ _ | with_reducible refine Ext.drew ?_ | with_reducible refine Ext.drewN ?_ _ | ((with_reducible refine Ext.setCell' ?_ ?_ _); solve | omega | simp | (simp; omega)) | (with_reducible refine Ext.trans ?_ (by with_reducible assumption))))⟩
/-- what is left of a size -/
def szR (left n : Int) : Int := if left - n < 0 then -1 else left - n
theorem l_szPointS (A : Option Addr) (n c : Nat) (left : Int) (w : World) (hn : n ≤ 140737488351232) (h0 : 0 ≤ left) (h1 : left ≤ 1048576) : Calls Tryz.prog 27 #[.slice A n c, .int .i64 left] w
    fun e w' => e = .returned (.int .i64 (szR left n)) ∧ w = w' := by
  go_enter Tryz.func27, Tryz.ntmps27
  go_wp2
  all_goals go_ret
  all_goals refine ⟨ret_int ?_, rfl⟩
  all_goals (unfold szR; first | rw [if_pos (by omega)] | rw [if_neg (by omega)])
end Go.Proofs.YtabdffponmmhoaaGreatDoor
namespace Go.Proofs.YtabdffponmmhoaaGreatDoor
open Go.RowKit
attribute [local go_sem] ExtOf.cell ExtOf.frozen





/-- the corner with an index, counted on around the end -/
def ptx (ps : List (Int × Int)) (i : Int) : Int := (ps.getD (i.toNat % ps.length) (0, 0)).1
def ptz (ps : List (Int × Int)) (i : Int) : Int := (ps.getD (i.toNat % ps.length) (0, 0)).2
theorem ptx_lt {ps : List (Int × Int)} {k : Nat} (hk : k < ps.length) : ptx ps k = (ps.getD k (0, 0)).1 := by simp [ptx, Nat.mod_eq_of_lt hk]
theorem ptz_lt {ps : List (Int × Int)} {k : Nat} (hk : k < ps.length) : ptz ps k = (ps.getD k (0, 0)).2 := by simp [ptz, Nat.mod_eq_of_lt hk]
theorem SlAt.ring {w : World} {b off : Nat} {ps : List (Int × Int)} (h : SlAt w 2 encP (some ⟨b, off, none⟩) ps) {k : Nat} (hk : k < ps.length) :
    w.cell? ⟨b, off + k * 2, none⟩ = some (.int .i64 (ptx ps k)) ∧ w.cell? ⟨b, off + k * 2 + 1, none⟩ = some (.int .i64 (ptz ps k)) := by
  rw [ptx_lt hk, ptz_lt hk]; exact h.pt' hk
theorem SlAt.open_ {w : World} {A : Option Addr} {ps : List (Int × Int)} (h : SlAt w 2 encP A ps) (h0 : 0 < ps.length) : ∃ b off, A = some ⟨b, off, none⟩ ∧ b < w.heap.size := by
  obtain ⟨b, off, e, hb, _⟩ := h.pt h0
  exact ⟨b, off, e, hb⟩

theorem i_corner (A : Option Addr) (c : Nat) (ps : List (Int × Int)) (i : Int) (w : World) (h : SlAt w 2 encP A ps) (h0 : 0 < ps.length) (hl : ps.length ≤ 1048576) (hi : 0 ≤ i) (hi' : i ≤ 1000000000) :
    Calls Tryz.prog 73 #[.slice A ps.length c, .int .i64 i] w fun e w' => e = .returned (.agg #[.int .i64 (ptx ps i), .int .i64 (ptz ps i)]) ∧ Ext w w' := by
  obtain ⟨k, rfl⟩ := Int.eq_ofNat_of_zero_le hi
  have hm : k % ps.length < ps.length := Nat.mod_lt _ h0
  obtain ⟨m, hme⟩ : ∃ m, m = k % ps.length := ⟨_, rfl⟩
  rw [← hme] at hm
  have hr : ((k : Int).tmod (ps.length : Int)) = (m : Int) := by rw [hme]; rfl
  have hr' : (k : Int) % (ps.length : Int) = (m : Int) := by rw [hme]; rfl
  obtain ⟨b, off, rfl, hb⟩ := h.open_ h0
  obtain ⟨d0, d1⟩ := h.pt' hm
  have ex : ptx ps (k : Int) = (ps.getD m (0, 0)).1 := by simp [ptx, hme]
  have ez : ptz ps (k : Int) = (ps.getD m (0, 0)).2 := by simp [ptz, hme]
  rw [ex, ez]
  have hn0 : ((ps.length : Int) == 0) = false := beq_eq_false_iff_ne.2 (by omega)
  have HM := Lib.hid hme
  clear hme ex ez
  (have := (show b < w.heap.size + 1 from by omega); have := (show b < w.heap.size + 1 + 1 from by omega))
  go_enter Tryz.func73, Tryz.ntmps73
  go_wp2
  refine bodyPost_ret (v := .agg #[.int .i64 (ps.getD m (0, 0)).1, .int .i64 (ps.getD m (0, 0)).2]) (by simp [results, Tryz.results73, go_sem, hm]) rfl ⟨rfl, by (repeat (first | with_reducible exact Ext.refl _ | with_reducible assumption | ((with_reducible apply Src.ext); with_reducible assumption) | with_reducible refine Ext.alloc ?_ _ | with_reducible refine Ext.drew ?_ | with_reducible refine Ext.drewN ?_ _ | ((with_reducible refine Ext.setCell' ?_ ?_ _); solve | omega | simp | (simp; omega)) | (with_reducible refine Ext.trans ?_ (by with_reducible assumption))))⟩

theorem s_corner (A : Option Addr) (c : Nat) (ps : List (Int × Int)) (i : Int) (w : World) (h : SlAt w 2 encP A ps) (h0 : 0 < ps.length) (hl : ps.length ≤ 1048576) (hi : 0 ≤ i) (hi' : i ≤ 1000000000) :
    Calls Tryz.prog 66 #[.slice A ps.length c, .int .i64 i] w fun e w' => e = .returned (.agg #[.int .i64 (ptx ps i), .int .i64 (ptz ps i)]) ∧ Ext w w' := by
  obtain ⟨k, rfl⟩ := Int.eq_ofNat_of_zero_le hi
  have hm : k % ps.length < ps.length := Nat.mod_lt _ h0
  obtain ⟨m, hme⟩ : ∃ m, m = k % ps.length := ⟨_, rfl⟩
  rw [← hme] at hm
  have hr : ((k : Int).tmod (ps.length : Int)) = (m : Int) := by rw [hme]; rfl
  have hr' : (k : Int) % (ps.length : Int) = (m : Int) := by rw [hme]; rfl
  obtain ⟨b, off, rfl, hb⟩ := h.open_ h0
  obtain ⟨d0, d1⟩ := h.pt' hm
  have ex : ptx ps (k : Int) = (ps.getD m (0, 0)).1 := by simp [ptx, hme]
  have ez : ptz ps (k : Int) = (ps.getD m (0, 0)).2 := by simp [ptz, hme]
  rw [ex, ez]
  have hn0 : ((ps.length : Int) == 0) = false := beq_eq_false_iff_ne.2 (by omega)
  have HM := Lib.hid hme
  clear hme ex ez
  (have := (show b < w.heap.size + 1 from by omega); have := (show b < w.heap.size + 1 + 1 from by omega))
  go_enter Tryz.func66, Tryz.ntmps66
  go_wp2
  refine bodyPost_ret (v := .agg #[.int .i64 (ps.getD m (0, 0)).1, .int .i64 (ps.getD m (0, 0)).2]) (by simp [results, Tryz.results66, go_sem, hm]) rfl ⟨rfl, by (repeat (first | with_reducible exact Ext.refl _ | with_reducible assumption | ((with_reducible apply Src.ext); with_reducible assumption) | with_reducible refine Ext.alloc ?_ _ | with_reducible refine Ext.drew ?_ | with_reducible refine Ext.drewN ?_ _ | ((with_reducible refine Ext.setCell' ?_ ?_ _); solve | omega | simp | (simp; omega)) | (with_reducible refine Ext.trans ?_ (by with_reducible assumption))))⟩

def turnI (ps : List (Int × Int)) (k : Int) : Int := turnW (ptx ps k) (ptz ps k) (ptx ps (k + 1)) (ptz ps (k + 1)) (ptx ps (k + 2)) (ptz ps (k + 2))
theorem i_turnAt (A : Option Addr) (c : Nat) (ps : List (Int × Int)) (k : Nat) (w : World) (h : SlAt w 2 encP A ps) (hk : k < ps.length) (hl : ps.length ≤ 1048576) :
    Calls Tryz.prog 130 #[.slice A ps.length c, .int .i64 k] w fun e w' => e = .returned (.int .i64 (turnI ps k)) ∧ Ext w w' := by
  obtain ⟨b, off, rfl, hb⟩ := h.open_ (by omega)
  obtain ⟨d0, d1⟩ := h.ring hk
  go_enter Tryz.func130, Tryz.ntmps130
  go_wp2
  (refine wp_region_ext (by kernel_rfl) (by kernel_rfl) ?_; (repeat (go_big_quiet_step (first | (go_at_call 73; exact Calls_ext (i_corner _ _ ps _ _ (h.ext (ExtOf.ext _)) (by omega) hl (by omega) (by omega))) | (go_at_call 75; exact Calls_ext (i_turn _ _ _ _ _ _ _))))); refine wpQuiet_nil ?_; intro wq hxwq; obtain ⟨hcwq, hfwq⟩ := hxwq.rules; have hswq := hxwq.size; (try simp at hswq))
  go_wp2
  go_ret
  exact ⟨rfl, by (repeat (first | with_reducible exact Ext.refl _ | with_reducible assumption | ((with_reducible apply Src.ext); with_reducible assumption) | with_reducible refine Ext.alloc ?_ _ | with_reducible refine Ext.drew ?_ | with_reducible refine Ext.drewN ?_ _ | ((with_reducible refine Ext.setCell' ?_ ?_ _); solve | omega | simp | (simp; omega)) | (with_reducible refine Ext.trans ?_ (by with_reducible assumption))))⟩
def crossI (ps : List (Int × Int)) (i k : Int) : Bool := crossW (ptx ps i) (ptz ps i) (ptx ps (i + 1)) (ptz ps (i + 1)) (ptx ps k) (ptz ps k) (ptx ps (k + 1)) (ptz ps (k + 1))
/-- two edges have nothing in common, or follow one another -/
def apB (ps : List (Int × Int)) (i k : Nat) : Bool := decide (k = i + 1 ∨ (i = 0 ∧ k + 1 = ps.length)) || !crossI ps i k
theorem i_areApart (A : Option Addr) (c : Nat) (ps : List (Int × Int)) (i k : Nat) (w : World) (h : SlAt w 2 encP A ps) (hi : i < k) (hk : k < ps.length) (hl : ps.length ≤ 1048576) :
    Calls Tryz.prog 131 #[.slice A ps.length c, .int .i64 i, .int .i64 k] w fun e w' => e = .returned (.bool (apB ps i k)) ∧ Ext w w' := by
  obtain ⟨b, off, rfl, hb⟩ := h.open_ (by omega)
  obtain ⟨d0, d1⟩ := h.ring (k := i) (by omega)
  obtain ⟨g0, g1⟩ := h.ring hk
  by_cases h1 : k = i + 1
  · have t1 : ((k : Int) == (i : Int) + 1) = true := by rw [beq_iff_eq]; omega
    have eb : apB ps i k = true := by simp [apB, h1]
    rw [eb]
    clear h1 eb
    go_enter Tryz.func131, Tryz.ntmps131
    go_wp2
    go_ret
    exact ⟨rfl, by (repeat (first | with_reducible exact Ext.refl _ | with_reducible assumption | ((with_reducible apply Src.ext); with_reducible assumption) | with_reducible refine Ext.alloc ?_ _ | with_reducible refine Ext.drew ?_ | with_reducible refine Ext.drewN ?_ _ | ((with_reducible refine Ext.setCell' ?_ ?_ _); solve | omega | simp | (simp; omega)) | (with_reducible refine Ext.trans ?_ (by with_reducible assumption))))⟩
  · have t1 : ((k : Int) == (i : Int) + 1) = false := by rw [beq_eq_false_iff_ne]; omega
    by_cases h2 : i = 0
    · by_cases h3 : k + 1 = ps.length
      · have t2 : ((i : Int) == 0) = true := by rw [beq_iff_eq]; omega
        have t3 : ((k : Int) == (ps.length : Int) - 1) = true := by rw [beq_iff_eq]; omega
        have eb : apB ps i k = true := by simp [apB, h2, h3]
        rw [eb]
        clear h1 h2 h3 eb
        go_enter Tryz.func131, Tryz.ntmps131
        go_wp2
        go_ret
        exact ⟨rfl, by (repeat (first | with_reducible exact Ext.refl _ | with_reducible assumption | ((with_reducible apply Src.ext); with_reducible assumption) | with_reducible refine Ext.alloc ?_ _ | with_reducible refine Ext.drew ?_ | with_reducible refine Ext.drewN ?_ _ | ((with_reducible refine Ext.setCell' ?_ ?_ _); solve | omega | simp | (simp; omega)) | (with_reducible refine Ext.trans ?_ (by with_reducible assumption))))⟩
      · have t2 : ((i : Int) == 0) = true := by rw [beq_iff_eq]; omega
        have t3 : ((k : Int) == (ps.length : Int) - 1) = false := by rw [beq_eq_false_iff_ne]; omega
        have eb : apB ps i k = !crossI ps i k := by simp [apB, h1, h3]
        rw [eb]
        clear h1 h2 h3 eb
        go_enter Tryz.func131, Tryz.ntmps131
        go_wp2
        (refine wp_region_ext (by kernel_rfl) (by kernel_rfl) ?_; (repeat (go_big_quiet_step (first | (go_at_call 73; exact Calls_ext (i_corner _ _ ps _ _ (h.ext (ExtOf.ext _)) (by omega) hl (by omega) (by omega))) | (go_at_call 167; exact Calls_ext (i_doCross _ _ _ _ _ _ _ _ _))))); refine wpQuiet_nil ?_; intro wq hxwq; obtain ⟨hcwq, hfwq⟩ := hxwq.rules; have hswq := hxwq.size; (try simp at hswq))
        go_wp2
        go_ret
        exact ⟨rfl, by (repeat (first | with_reducible exact Ext.refl _ | with_reducible assumption | ((with_reducible apply Src.ext); with_reducible assumption) | with_reducible refine Ext.alloc ?_ _ | with_reducible refine Ext.drew ?_ | with_reducible refine Ext.drewN ?_ _ | ((with_reducible refine Ext.setCell' ?_ ?_ _); solve | omega | simp | (simp; omega)) | (with_reducible refine Ext.trans ?_ (by with_reducible assumption))))⟩
    · have t2 : ((i : Int) == 0) = false := by rw [beq_eq_false_iff_ne]; omega
      have eb : apB ps i k = !crossI ps i k := by simp [apB, h1, h2]
      rw [eb]
      clear h1 h2 eb
      go_enter Tryz.func131, Tryz.ntmps131
      go_wp2
      (refine wp_region_ext (by kernel_rfl) (by kernel_rfl) ?_; (repeat (go_big_quiet_step (first | (go_at_call 73; exact Calls_ext (i_corner _ _ ps _ _ (h.ext (ExtOf.ext _)) (by omega) hl (by omega) (by omega))) | (go_at_call 167; exact Calls_ext (i_doCross _ _ _ _ _ _ _ _ _))))); refine wpQuiet_nil ?_; intro wq hxwq; obtain ⟨hcwq, hfwq⟩ := hxwq.rules; have hswq := hxwq.size; (try simp at hswq))
      go_wp2
      go_ret
      exact ⟨rfl, by (repeat (first | with_reducible exact Ext.refl _ | with_reducible assumption | ((with_reducible apply Src.ext); with_reducible assumption) | with_reducible refine Ext.alloc ?_ _ | with_reducible refine Ext.drew ?_ | with_reducible refine Ext.drewN ?_ _ | ((with_reducible refine Ext.setCell' ?_ ?_ _); solve | omega | simp | (simp; omega)) | (with_reducible refine Ext.trans ?_ (by with_reducible assumption))))⟩
/-- the index of a point in a list, counted on from i, or -1 -/
def idxG (x z : Int) : List (Int × Int) → Int → Int
  | [], _ => -1
  | p :: ps, i => if eqP x z p.1 p.2 = true then i else idxG x z ps (i + 1)
theorem idxG_at {x z : Int} {xs : List (Int × Int)} {k : Nat} {r : Int} (hk : k < xs.length) (h : Hid (idxG x z (xs.drop k) k = r)) (he : eqP x z xs[k].1 xs[k].2 = true) : (k : Int) = r := by
  have h := h.out
  rw [List.drop_eq_getElem_cons hk] at h
  simpa [idxG, he] using h
theorem idxG_no {x z : Int} {xs : List (Int × Int)} {k : Nat} {r : Int} (hk : k < xs.length) (h : Hid (idxG x z (xs.drop k) k = r)) (he : eqP x z xs[k].1 xs[k].2 = false) : Hid (idxG x z (xs.drop (k + 1)) ((k + 1 : Nat) : Int) = r) := by
  have h := h.out
  rw [List.drop_eq_getElem_cons hk] at h
  show _ = _
  simpa [idxG, he] using h
theorem idxG_end {x z : Int} {xs : List (Int × Int)} {k : Nat} {r : Int} (hk : xs.length ≤ k) (h : Hid (idxG x z (xs.drop k) k = r)) : -1 = r := by
  have h := h.out
  rw [List.drop_of_length_le hk] at h
  simpa [idxG] using h
theorem i_Index (A : Option Addr) (c : Nat) (xs : List (Int × Int)) (x z : Int) (w : World) (h : SlAt w 2 encP A xs) (hl : xs.length ≤ 1048576) :
    Calls Tryz.prog 166 #[.slice A xs.length c, .agg #[.int .i64 x, .int .i64 z]] w fun e w' => e = .returned (.int .i64 (idxG x z xs 0)) ∧ Ext w w' := by
  obtain ⟨r, hr⟩ : ∃ r, idxG x z xs 0 = r := ⟨_, rfl⟩
  rw [hr]
  have HR := Lib.hid hr
  clear hr
  have hx0 : Ext w (w.alloc (.cells #[.int .i64 x, .int .i64 z] 35)) := by (repeat (first | with_reducible exact Ext.refl _ | with_reducible assumption | ((with_reducible apply Src.ext); with_reducible assumption) | with_reducible refine Ext.alloc ?_ _ | with_reducible refine Ext.drew ?_ | with_reducible refine Ext.drewN ?_ _ | ((with_reducible refine Ext.setCell' ?_ ?_ _); solve | omega | simp | (simp; omega)) | (with_reducible refine Ext.trans ?_ (by with_reducible assumption))))
  have h1 := h.ext hx0
  go_enter Tryz.func166, Tryz.ntmps166
  go_wp2
  go_loopw [8] (fun i wr => ∃ k : Nat, k ≤ xs.length ∧ i = .int .i64 k ∧ Hid (idxG x z (xs.drop k) k = r) ∧ Ext (w.alloc (.cells #[.int .i64 x, .int .i64 z] 35)) wr) (fun i _ => xs.length - (intOf i).toNat)
  case atStart => exact ⟨0, Nat.zero_le _, rfl, by simpa using HR, by (repeat (first | with_reducible exact Ext.refl _ | with_reducible assumption | ((with_reducible apply Src.ext); with_reducible assumption) | with_reducible refine Ext.alloc ?_ _ | with_reducible refine Ext.drew ?_ | with_reducible refine Ext.drewN ?_ _ | ((with_reducible refine Ext.setCell' ?_ ?_ _); solve | omega | simp | (simp; omega)) | (with_reducible refine Ext.trans ?_ (by with_reducible assumption))))⟩
  case round =>
    obtain ⟨k, hk, rfl, HI, hxr⟩ := hrel
    obtain ⟨hcr, hfr⟩ := hxr.rules
    have hsr := hxr.size
    simp at hsr
    (have := (show w.heap.size < wr.heap.size from by omega))
    by_cases hlt : k < xs.length
    · obtain ⟨b, off, rfl, hb, d0, d1⟩ := (h1.ext hxr).pt hlt
      go_wp2
      (refine wp_region_ext (by kernel_rfl) (by kernel_rfl) ?_; (repeat (go_big_quiet_step (fail))); refine wpQuiet_nil ?_; intro wq hxwq; obtain ⟨hcwq, hfwq⟩ := hxwq.rules; have hswq := hxwq.size; (try simp at hswq))
      go_wp2
      · go_ret
        exact ⟨ret_int (idxG_at hlt HI (by assumption)), by (repeat (first | with_reducible exact Ext.refl _ | with_reducible assumption | ((with_reducible apply Src.ext); with_reducible assumption) | with_reducible refine Ext.alloc ?_ _ | with_reducible refine Ext.drew ?_ | with_reducible refine Ext.drewN ?_ _ | ((with_reducible refine Ext.setCell' ?_ ?_ _); solve | omega | simp | (simp; omega)) | (with_reducible refine Ext.trans ?_ (by with_reducible assumption))))⟩
      · go_roundw
        case rel => exact ⟨k + 1, by omega, by go_num, idxG_no hlt HI (by first | assumption | exact Bool.eq_false_iff.2 (by assumption)), by (repeat (first | with_reducible exact Ext.refl _ | with_reducible assumption | ((with_reducible apply Src.ext); with_reducible assumption) | with_reducible refine Ext.alloc ?_ _ | with_reducible refine Ext.drew ?_ | with_reducible refine Ext.drewN ?_ _ | ((with_reducible refine Ext.setCell' ?_ ?_ _); solve | omega | simp | (simp; omega)) | (with_reducible refine Ext.trans ?_ (by with_reducible assumption))))⟩
        case measure => simp [intOf]; omega
    · go_wp2
      go_ret
      exact ⟨ret_int (idxG_end (by omega) HI), by (repeat (first | with_reducible exact Ext.refl _ | with_reducible assumption | ((with_reducible apply Src.ext); with_reducible assumption) | with_reducible refine Ext.alloc ?_ _ | with_reducible refine Ext.drew ?_ | with_reducible refine Ext.drewN ?_ _ | ((with_reducible refine Ext.setCell' ?_ ?_ _); solve | omega | simp | (simp; omega)) | (with_reducible refine Ext.trans ?_ (by with_reducible assumption))))⟩
def hasP (xs : List (Int × Int)) (x z : Int) : Bool := decide (0 ≤ idxG x z xs 0)
theorem idxG_mem {x z : Int} : ∀ (xs : List (Int × Int)) (i : Int), 0 ≤ i → (0 ≤ idxG x z xs i ↔ (x, z) ∈ xs)
  | [], i, _ => by simp [idxG]
  | p :: ps, i, hi => by
    unfold idxG
    by_cases h : eqP x z p.1 p.2 = true
    · rw [if_pos h]
      have := eqP_iff.1 h
      exact ⟨fun _ => List.mem_cons.2 (Or.inl (Prod.ext this.1 this.2)), fun _ => hi⟩
    · rw [if_neg h, idxG_mem ps (i + 1) (by omega), List.mem_cons]
      refine ⟨Or.inr, fun e => e.resolve_left fun e => h ?_⟩
      rw [← e]
      exact eqP_iff.2 ⟨rfl, rfl⟩
theorem hasP_iff {xs : List (Int × Int)} {x z : Int} : hasP xs x z = true ↔ (x, z) ∈ xs := by rw [hasP, decide_eq_true_eq]; exact idxG_mem xs 0 (by omega)
theorem i_Contains (A : Option Addr) (c : Nat) (xs : List (Int × Int)) (x z : Int) (w : World) (h : SlAt w 2 encP A xs) (hl : xs.length ≤ 1048576) :
    Calls Tryz.prog 129 #[.slice A xs.length c, .agg #[.int .i64 x, .int .i64 z]] w fun e w' => e = .returned (.bool (hasP xs x z)) ∧ Ext w w' := by
  have h1 := h.ext (by (repeat (first | with_reducible exact Ext.refl _ | with_reducible assumption | ((with_reducible apply Src.ext); with_reducible assumption) | with_reducible refine Ext.alloc ?_ _ | with_reducible refine Ext.drew ?_ | with_reducible refine Ext.drewN ?_ _ | ((with_reducible refine Ext.setCell' ?_ ?_ _); solve | omega | simp | (simp; omega)) | (with_reducible refine Ext.trans ?_ (by with_reducible assumption)))) : Ext w (w.alloc (.cells #[.int .i64 x, .int .i64 z] 35)))
  go_enter Tryz.func129, Tryz.ntmps129
  go_wp2_with (first | (go_at_call 166; refine (i_Index _ _ xs _ _ _ h1 hl).mono ?_; rintro e w1 ⟨rfl, hx1⟩; obtain ⟨hc1, hf1⟩ := hx1.rules; have hs1 := hx1.size; (try simp at hs1)))
  go_ret
  exact ⟨rfl, by (repeat (first | with_reducible exact Ext.refl _ | with_reducible assumption | ((with_reducible apply Src.ext); with_reducible assumption) | with_reducible refine Ext.alloc ?_ _ | with_reducible refine Ext.drew ?_ | with_reducible refine Ext.drewN ?_ _ | ((with_reducible refine Ext.setCell' ?_ ?_ _); solve | omega | simp | (simp; omega)) | (with_reducible refine Ext.trans ?_ (by with_reducible assumption))))⟩
end Go.Proofs.YtabdffponmmhoaaGreatDoor
namespace Go.Proofs.YtabdffponmmhoaaGreatDoor
open Go.RowKit
attribute [local go_sem] ExtOf.cell ExtOf.frozen





theorem SlAt.take {α : Type} {w : World} {sz : Nat} {enc : α → List Value} {A : Option Addr} {xs : List α} (h : SlAt w sz enc A xs) (k : Nat) : SlAt w sz enc A (xs.take k) := fun hn => by
  obtain ⟨b, off, e, hb, hc⟩ := h (by rw [List.length_take] at hn; omega)
  refine ⟨b, off, e, hb, fun i x hi j v hj => hc i x ?_ j v hj⟩
  rw [List.getElem?_take] at hi
  split at hi
  · exact hi
  · cases hi
theorem as_bool {P : Program} {f : FuncId} {args : Array Value} {w : World} {b b' : Bool} (h : Calls P f args w fun e w' => e = .returned (.bool b) ∧ Ext w w') (e : b = b') : Calls P f args w fun e w' => e = .returned (.bool b') ∧ Ext w w' := e ▸ h
theorem as_int {P : Program} {f : FuncId} {args : Array Value} {w : World} {k : IntKind} {b b' : Int} (h : Calls P f args w fun e w' => e = .returned (.int k b) ∧ Ext w w') (e : b = b') : Calls P f args w fun e w' => e = .returned (.int k b') ∧ Ext w w' := e ▸ h
theorem i_Contains' (A : Option Addr) (n c : Nat) (xs : List (Int × Int)) (x z : Int) (w : World) (h : SlAt w 2 encP A xs) (hn : n = xs.length) (hl : xs.length ≤ 1048576) :
    Calls Tryz.prog 129 #[.slice A n c, .agg #[.int .i64 x, .int .i64 z]] w fun e w' => e = .returned (.bool (hasP xs x z)) ∧ Ext w w' := by
  subst hn
  exact i_Contains A c xs x z w h hl
theorem i_length (A : Option Addr) (n c : Nat) (w : World) (_hn : n ≤ 140737488351232) : Calls Tryz.prog 127 #[.slice A n c] w fun e w' => e = .returned (.int .i64 n) ∧ w = w' := by
  go_enter Tryz.func127, Tryz.ntmps127
  go_wp2
  go_ret
  exact ⟨rfl, rfl⟩
/-- what makes a ring valid -/
def RingP (ps : List (Int × Int)) : Prop :=
  3 ≤ ps.length ∧ ps.length ≤ 12 ∧ oks ps = true ∧ (∀ i : Nat, i < ps.length → turnI ps i ≠ 0) ∧ (∀ i k : Nat, k < i → i < ps.length → ¬ (ptx ps i = ptx ps k ∧ ptz ps i = ptz ps k)) ∧ (∀ i k : Nat, i < k → k < ps.length → apB ps i k = true)
open Classical in
noncomputable def ringB (ps : List (Int × Int)) : Bool := decide (RingP ps)
theorem ringB_iff {ps : List (Int × Int)} : ringB ps = true ↔ RingP ps := by simp [ringB]
theorem ringB_no {ps : List (Int × Int)} (h : ¬ RingP ps) : false = ringB ps := by simp [ringB, h]
theorem ringB_yes {ps : List (Int × Int)} (h : RingP ps) : true = ringB ps := by simp [ringB, h]
theorem inB_len {n : Nat} (h : inB n 3 12 = true) : 3 ≤ n ∧ n ≤ 12 := by simp [inB] at h; omega
theorem hasP_take {ps : List (Int × Int)} {k : Nat} (hk : k < ps.length) : hasP (ps.take k) (ptx ps k) (ptz ps k) = true ↔ ∃ j, j < k ∧ ptx ps k = ptx ps j ∧ ptz ps k = ptz ps j := by
  rw [hasP_iff, List.mem_take_iff_getElem]
  constructor
  · rintro ⟨j, hj, e⟩
    have hj1 : j < k := by omega
    have hj2 : j < ps.length := by omega
    refine ⟨j, hj1, ?_, ?_⟩
    · rw [ptx_lt (k := j) hj2, List.getD_eq_getElem?_getD, List.getElem?_eq_getElem hj2, Option.getD_some, e]
    · rw [ptz_lt (k := j) hj2, List.getD_eq_getElem?_getD, List.getElem?_eq_getElem hj2, Option.getD_some, e]
  · rintro ⟨j, hj, e1, e2⟩
    have hj2 : j < ps.length := by omega
    refine ⟨j, by omega, ?_⟩
    rw [e1, e2, ptx_lt hj2, ptz_lt hj2]
    simp [List.getD, hj2]
/-- the first k corners are as they must be -/
def Turned (ps : List (Int × Int)) (k : Nat) : Prop := (∀ i : Nat, i < k → turnI ps i ≠ 0) ∧ (∀ i j : Nat, j < i → i < k → ¬ (ptx ps i = ptx ps j ∧ ptz ps i = ptz ps j))
def Apart (ps : List (Int × Int)) (k : Nat) : Prop := ∀ i j : Nat, i < k → i < j → j < ps.length → apB ps i j = true
def Apart1 (ps : List (Int × Int)) (i m : Nat) : Prop := ∀ j : Nat, i < j → j < m → apB ps i j = true
theorem Turned.succ {ps : List (Int × Int)} {k : Nat} (h : Turned ps k) (hk : k < ps.length) (ht : turnI ps k ≠ 0) (hh : hasP (ps.take k) (ptx ps k) (ptz ps k) = false) : Turned ps (k + 1) := by
  refine ⟨fun i hi => ?_, fun i j hj hi e => ?_⟩
  · rcases Nat.lt_or_ge i k with h1 | h1
    · exact h.1 i h1
    · rw [show i = k by omega]; exact ht
  · rcases Nat.lt_or_ge i k with h1 | h1
    · exact h.2 i j hj h1 e
    · rw [show i = k by omega] at e hj
      have := (hasP_take hk).2 ⟨j, hj, e.1, e.2⟩
      rw [hh] at this
      cases this
theorem Apart.succ {ps : List (Int × Int)} {k m : Nat} (h : Apart ps k) (h1 : Apart1 ps k m) (hm : ps.length ≤ m) : Apart ps (k + 1) := fun i j hi hij hj => by
  rcases Nat.lt_or_ge i k with h2 | h2
  · exact h i j h2 hij hj
  · obtain rfl : i = k := by omega
    exact h1 j hij (by omega)
theorem Apart1.succ {ps : List (Int × Int)} {i m : Nat} (h : Apart1 ps i m) (h1 : apB ps i m = true) : Apart1 ps i (m + 1) := fun j hij hj => by
  rcases Nat.lt_or_ge j m with h2 | h2
  · exact h j hij h2
  · obtain rfl : j = m := by omega
    exact h1
set_option maxHeartbeats 1600000 in
theorem i_IsRing (A : Option Addr) (c : Nat) (ps : List (Int × Int)) (w : World) (h : SlAt w 2 encP A ps) (hl : ps.length ≤ 1048576) (hc : ps.length ≤ c) :
    Calls Tryz.prog 99 #[.slice A ps.length c] w fun e w' => e = .returned (.bool (ringB ps)) ∧ Ext w w' := by
  by_cases hb : inB ps.length 3 12 = true
  · by_cases ho : oks ps = true
    · obtain ⟨hn3, hn12⟩ := inB_len hb
      obtain ⟨b, off, rfl, hb0⟩ := h.open_ (by omega)
      have har : ∀ W, SlAt W 2 encP (some ⟨b, off, none⟩) ps → Calls Tryz.prog 128 #[.slice (some ⟨b, off, none⟩) ps.length c] W fun e w' => e = .returned (.bool true) ∧ Ext W w' := fun W hW => by
        have := i_arePoints _ c ps W hW hl
        rwa [show (ps.all fun p => okP p.1 p.2) = true from ho] at this
      have HA := Lib.hid har
      have HO := Lib.hid ho
      clear har ho
      go_enter Tryz.func99, Tryz.ntmps99
      go_wp2_with (first | (go_at_call 127; refine (i_length _ _ _ _ (by omega)).mono ?_; rintro e w' ⟨rfl, rfl⟩) | (go_at_call 57; refine (within_any _ _ _ _).mono ?_; rintro e w' ⟨rfl, rfl⟩) | (go_at_call 128; refine (HA.out _ h).mono ?_; rintro e w1 ⟨rfl, hx1⟩; obtain ⟨hc1, hf1⟩ := hx1.rules; have hs1 := hx1.size; (try simp at hs1); have := (show b < w1.heap.size from by omega)))
      go_loopw [16] (fun i wr => ∃ k : Nat, k ≤ ps.length ∧ i = .int .i64 k ∧ Hid (Turned ps k) ∧ Hid (Apart ps k) ∧ Ext w wr) (fun i _ => ps.length - (intOf i).toNat)
      case atStart => exact ⟨0, Nat.zero_le _, rfl, ⟨fun i hi => by omega, fun i j hj hi => by omega⟩, fun i j hi => by omega, by (repeat (first | with_reducible exact Ext.refl _ | with_reducible assumption | ((with_reducible apply Src.ext); with_reducible assumption) | with_reducible refine Ext.alloc ?_ _ | with_reducible refine Ext.drew ?_ | with_reducible refine Ext.drewN ?_ _ | ((with_reducible refine Ext.setCell' ?_ ?_ _); solve | omega | simp | (simp; omega)) | (with_reducible refine Ext.trans ?_ (by with_reducible assumption))))⟩
      case round =>
        obtain ⟨k, hk, rfl, HT, HP, hx⟩ := hrel
        by_cases hlt : k < ps.length
        · have hS := h.ext hx
          obtain ⟨d0, d1⟩ := hS.ring hlt
          have hbr : b < wr.heap.size := by have := hx.size; omega
          by_cases hh : hasP (ps.take k) (ptx ps k) (ptz ps k) = true
          · have hR : ¬ RingP ps := fun hr => by
              obtain ⟨j, hj, e⟩ := (hasP_take hlt).1 hh
              exact hr.2.2.2.2.1 k j hj hlt e
            go_wp2
            (refine wp_region_ext (by kernel_rfl) (by kernel_rfl) ?_; (repeat (go_big_quiet_step (first | (go_at_call 129; exact Calls_ext (as_bool (i_Contains' _ _ _ (ps.take k) _ _ _ ((hS.ext (ExtOf.ext _)).take k) (by simp; omega) (by simp; omega)) hh))))); refine wpQuiet_nil ?_; intro wq hxwq; obtain ⟨hcwq, hfwq⟩ := hxwq.rules; have hswq := hxwq.size; (try simp at hswq))
            go_wp2
            go_ret
            exact ⟨ret_bool (ringB_no hR), by (repeat (first | with_reducible exact Ext.refl _ | with_reducible assumption | ((with_reducible apply Src.ext); with_reducible assumption) | with_reducible refine Ext.alloc ?_ _ | with_reducible refine Ext.drew ?_ | with_reducible refine Ext.drewN ?_ _ | ((with_reducible refine Ext.setCell' ?_ ?_ _); solve | omega | simp | (simp; omega)) | (with_reducible refine Ext.trans ?_ (by with_reducible assumption))))⟩
          · have hh' : hasP (ps.take k) (ptx ps k) (ptz ps k) = false := by simpa using hh
            clear hh
            by_cases ht : turnI ps k = 0
            · have hR : ¬ RingP ps := fun hr => hr.2.2.2.1 k hlt ht
              have tb : (turnI ps k == 0) = true := by rw [beq_iff_eq]; exact ht
              clear ht
              go_wp2
              (refine wp_region_ext (by kernel_rfl) (by kernel_rfl) ?_; (repeat (go_big_quiet_step (first | (go_at_call 129; exact Calls_ext (as_bool (i_Contains' _ _ _ (ps.take k) _ _ _ ((hS.ext (ExtOf.ext _)).take k) (by simp; omega) (by simp; omega)) hh')) | (go_at_call 130; exact Calls_ext (i_turnAt _ _ ps _ _ (hS.ext (ExtOf.ext _)) hlt hl))))); refine wpQuiet_nil ?_; intro wq hxwq; obtain ⟨hcwq, hfwq⟩ := hxwq.rules; have hswq := hxwq.size; (try simp at hswq))
              go_wp2
              go_ret
              exact ⟨ret_bool (ringB_no hR), by (repeat (first | with_reducible exact Ext.refl _ | with_reducible assumption | ((with_reducible apply Src.ext); with_reducible assumption) | with_reducible refine Ext.alloc ?_ _ | with_reducible refine Ext.drew ?_ | with_reducible refine Ext.drewN ?_ _ | ((with_reducible refine Ext.setCell' ?_ ?_ _); solve | omega | simp | (simp; omega)) | (with_reducible refine Ext.trans ?_ (by with_reducible assumption))))⟩
            · have HT1 := HT.out.succ hlt ht hh'
              have HT2 := Lib.hid HT1
              have tb : (turnI ps k == 0) = false := by rw [beq_eq_false_iff_ne]; exact ht
              clear ht HT1
              go_wp2
              (refine wp_region_ext (by kernel_rfl) (by kernel_rfl) ?_; (repeat (go_big_quiet_step (first | (go_at_call 129; exact Calls_ext (as_bool (i_Contains' _ _ _ (ps.take k) _ _ _ ((hS.ext (ExtOf.ext _)).take k) (by simp; omega) (by simp; omega)) hh')) | (go_at_call 130; exact Calls_ext (i_turnAt _ _ ps _ _ (hS.ext (ExtOf.ext _)) hlt hl))))); refine wpQuiet_nil ?_; intro wq hxwq; obtain ⟨hcwq, hfwq⟩ := hxwq.rules; have hswq := hxwq.size; (try simp at hswq))
              go_wp2
              obtain ⟨wo, hwo⟩ : ∃ wo : World, wo = wr := ⟨_, rfl⟩
              have HW := Lib.hid hwo
              clear hwo
              go_loopw [4] (fun i wr2 => ∃ m : Nat, k < m ∧ m ≤ ps.length ∧ i = .int .i64 m ∧ Hid (Apart1 ps k m) ∧ Ext w wr2) (fun i _ => ps.length - (intOf i).toNat)
              case atStart => exact ⟨k + 1, by omega, by omega, by go_num, fun j h1 h2 => by omega, by (repeat (first | with_reducible exact Ext.refl _ | with_reducible assumption | ((with_reducible apply Src.ext); with_reducible assumption) | with_reducible refine Ext.alloc ?_ _ | with_reducible refine Ext.drew ?_ | with_reducible refine Ext.drewN ?_ _ | ((with_reducible refine Ext.setCell' ?_ ?_ _); solve | omega | simp | (simp; omega)) | (with_reducible refine Ext.trans ?_ (by with_reducible assumption))))⟩
              case round =>
                obtain ⟨m, hkm, hm, rfl, HM, hx2⟩ := hrel
                by_cases hlm : m < ps.length
                · by_cases ha : apB ps k m = true
                  · have HM1 := HM.out.succ ha
                    have HM2 := Lib.hid HM1
                    clear HM1
                    go_wp2_with (first | (go_at_call 131; refine (i_areApart _ _ ps _ _ _ (h.ext hx2) hkm hlm hl).mono ?_; rintro e w9 ⟨rfl, hx9⟩; obtain ⟨hc9, hf9⟩ := hx9.rules; have hs9 := hx9.size; (try simp at hs9)))
                    go_roundw
                    case rel => exact ⟨m + 1, by omega, by omega, by go_num, HM2, by (repeat (first | with_reducible exact Ext.refl _ | with_reducible assumption | ((with_reducible apply Src.ext); with_reducible assumption) | with_reducible refine Ext.alloc ?_ _ | with_reducible refine Ext.drew ?_ | with_reducible refine Ext.drewN ?_ _ | ((with_reducible refine Ext.setCell' ?_ ?_ _); solve | omega | simp | (simp; omega)) | (with_reducible refine Ext.trans ?_ (by with_reducible assumption))))⟩
                    case measure => simp [intOf]; omega
                  · have hR : ¬ RingP ps := fun hr => ha (hr.2.2.2.2.2 k m hkm hlm)
                    have ha' : apB ps k m = false := by simpa using ha
                    clear ha
                    go_wp2_with (first | (go_at_call 131; refine (i_areApart _ _ ps _ _ _ (h.ext hx2) hkm hlm hl).mono ?_; rintro e w9 ⟨rfl, hx9⟩; obtain ⟨hc9, hf9⟩ := hx9.rules; have hs9 := hx9.size; (try simp at hs9)))
                    go_ret
                    exact ⟨ret_bool (ringB_no hR), by (repeat (first | with_reducible exact Ext.refl _ | with_reducible assumption | ((with_reducible apply Src.ext); with_reducible assumption) | with_reducible refine Ext.alloc ?_ _ | with_reducible refine Ext.drew ?_ | with_reducible refine Ext.drewN ?_ _ | ((with_reducible refine Ext.setCell' ?_ ?_ _); solve | omega | simp | (simp; omega)) | (with_reducible refine Ext.trans ?_ (by with_reducible assumption))))⟩
                · have HP1 := HP.out.succ HM.out (by omega)
                  have HP2 := Lib.hid HP1
                  clear HP1
                  go_wp2
                  go_roundw
                  case rel => exact ⟨k + 1, by omega, by go_num, HT2, HP2, by (repeat (first | with_reducible exact Ext.refl _ | with_reducible assumption | ((with_reducible apply Src.ext); with_reducible assumption) | with_reducible refine Ext.alloc ?_ _ | with_reducible refine Ext.drew ?_ | with_reducible refine Ext.drewN ?_ _ | ((with_reducible refine Ext.setCell' ?_ ?_ _); solve | omega | simp | (simp; omega)) | (with_reducible refine Ext.trans ?_ (by with_reducible assumption))))⟩
                  case measure => simp [intOf]; omega
        · go_wp2
          go_ret
          obtain rfl : k = ps.length := by omega
          exact ⟨ret_bool (ringB_yes ⟨hn3, hn12, HO.out, HT.out.1, HT.out.2, fun i j hij hj => HP.out i j (by omega) hij hj⟩), by (repeat (first | with_reducible exact Ext.refl _ | with_reducible assumption | ((with_reducible apply Src.ext); with_reducible assumption) | with_reducible refine Ext.alloc ?_ _ | with_reducible refine Ext.drew ?_ | with_reducible refine Ext.drewN ?_ _ | ((with_reducible refine Ext.setCell' ?_ ?_ _); solve | omega | simp | (simp; omega)) | (with_reducible refine Ext.trans ?_ (by with_reducible assumption))))⟩
    · have hR : ¬ RingP ps := fun hr => ho hr.2.2.1
      have har : ∀ W, SlAt W 2 encP A ps → Calls Tryz.prog 128 #[.slice A ps.length c] W fun e w' => e = .returned (.bool false) ∧ Ext W w' := fun W hW => by
        have := i_arePoints _ c ps W hW hl
        rwa [show (ps.all fun p => okP p.1 p.2) = false from Bool.eq_false_iff.2 ho] at this
      have HA := Lib.hid har
      clear har ho
      go_enter Tryz.func99, Tryz.ntmps99
      go_wp2_with (first | (go_at_call 127; refine (i_length _ _ _ _ (by omega)).mono ?_; rintro e w' ⟨rfl, rfl⟩) | (go_at_call 57; refine (within_any _ _ _ _).mono ?_; rintro e w' ⟨rfl, rfl⟩) | (go_at_call 128; refine (HA.out _ h).mono ?_; rintro e w1 ⟨rfl, hx1⟩; obtain ⟨hc1, hf1⟩ := hx1.rules; have hs1 := hx1.size; (try simp at hs1)))
      go_ret
      exact ⟨ret_bool (ringB_no hR), by (repeat (first | with_reducible exact Ext.refl _ | with_reducible assumption | ((with_reducible apply Src.ext); with_reducible assumption) | with_reducible refine Ext.alloc ?_ _ | with_reducible refine Ext.drew ?_ | with_reducible refine Ext.drewN ?_ _ | ((with_reducible refine Ext.setCell' ?_ ?_ _); solve | omega | simp | (simp; omega)) | (with_reducible refine Ext.trans ?_ (by with_reducible assumption))))⟩
  · have hR : ¬ RingP ps := fun hr => hb (by simp [inB]; have := hr.1; have := hr.2.1; omega)
    have hb' : inB ps.length 3 12 = false := by simpa using hb
    clear hb
    go_enter Tryz.func99, Tryz.ntmps99
    go_wp2_with (first | (go_at_call 127; refine (i_length _ _ _ _ (by omega)).mono ?_; rintro e w' ⟨rfl, rfl⟩) | (go_at_call 57; refine (within_any _ _ _ _).mono ?_; rintro e w' ⟨rfl, rfl⟩))
    go_ret
    exact ⟨ret_bool (ringB_no hR), by (repeat (first | with_reducible exact Ext.refl _ | with_reducible assumption | ((with_reducible apply Src.ext); with_reducible assumption) | with_reducible refine Ext.alloc ?_ _ | with_reducible refine Ext.drew ?_ | with_reducible refine Ext.drewN ?_ _ | ((with_reducible refine Ext.setCell' ?_ ?_ _); solve | omega | simp | (simp; omega)) | (with_reducible refine Ext.trans ?_ (by with_reducible assumption))))⟩
end Go.Proofs.YtabdffponmmhoaaGreatDoor
namespace Go.Proofs.YtabdffponmmhoaaGreatDoor
open Go.RowKit
attribute [local go_sem] ExtOf.cell ExtOf.frozen






/-- corner k differs from the first m -/
def Differs (ps : List (Int × Int)) (k m : Nat) : Prop := ∀ j : Nat, j < m → ¬ (ptx ps k = ptx ps j ∧ ptz ps k = ptz ps j)
theorem Differs.succ {ps : List (Int × Int)} {k m : Nat} (h : Differs ps k m) (e : eqP (ptx ps k) (ptz ps k) (ptx ps m) (ptz ps m) = false) : Differs ps k (m + 1) := fun j hj => by
  rcases Nat.lt_or_ge j m with h1 | h1
  · exact h j h1
  · obtain rfl : j = m := by omega
    exact ne_of_eqP e
theorem Turned.succ' {ps : List (Int × Int)} {k : Nat} (h : Turned ps k) (ht : turnI ps k ≠ 0) (hd : Differs ps k k) : Turned ps (k + 1) := by
  refine ⟨fun i hi => ?_, fun i j hj hi e => ?_⟩
  · rcases Nat.lt_or_ge i k with h1 | h1
    · exact h.1 i h1
    · rw [show i = k by omega]; exact ht
  · rcases Nat.lt_or_ge i k with h1 | h1
    · exact h.2 i j hj h1 e
    · rw [show i = k by omega] at e hj
      exact hd j hj e
theorem apB_next {ps : List (Int × Int)} {i k : Nat} (h : k = i + 1 ∨ (i = 0 ∧ k + 1 = ps.length)) : apB ps i k = true := by simp [apB, h]
theorem apB_cross {ps : List (Int × Int)} {i k : Nat} (h : crossI ps i k = false) : apB ps i k = true := by simp [apB, h]
theorem apB_no {ps : List (Int × Int)} {i k : Nat} (h : crossI ps i k = true) (h1 : ¬ k = i + 1) (h2 : ¬ (i = 0 ∧ k + 1 = ps.length)) : apB ps i k = false := by
  unfold apB
  rw [h, decide_eq_false (by rintro (h | h); exact h1 h; exact h2 h)]
  rfl
set_option maxHeartbeats 3200000 in
theorem s_IsRing (A : Option Addr) (c : Nat) (ps : List (Int × Int)) (w : World) (h : SlAt w 2 encP A ps) (hl : ps.length ≤ 1048576) :
    Calls Tryz.prog 93 #[.slice A ps.length c] w fun e w' => e = .returned (.bool (ringB ps)) ∧ Ext w w' := by
  by_cases hb : inB ps.length 3 12 = true
  · by_cases ho : oks ps = true
    · obtain ⟨hn3, hn12⟩ := inB_len hb
      obtain ⟨b, off, rfl, hb0⟩ := h.open_ (by omega)
      have har : ∀ W, SlAt W 2 encP (some ⟨b, off, none⟩) ps → Calls Tryz.prog 121 #[.slice (some ⟨b, off, none⟩) ps.length c] W fun e w' => e = .returned (.bool true) ∧ Ext W w' := fun W hW => by
        have := s_arePoints _ c ps W hW hl
        rwa [show (ps.all fun p => okP p.1 p.2) = true from ho] at this
      have HA := Lib.hid har
      have HO := Lib.hid ho
      clear har ho
      go_enter Tryz.func93, Tryz.ntmps93
      go_wp2_with (first | (go_at_call 65; refine (l01In_any _ _ _ _).mono ?_; rintro e w' ⟨rfl, rfl⟩) | (go_at_call 121; refine (HA.out _ h).mono ?_; rintro e w1 ⟨rfl, hx1⟩; obtain ⟨hc1, hf1⟩ := hx1.rules; have hs1 := hx1.size; (try simp at hs1); have := (show b < w1.heap.size from by omega)))
      go_loopw [4] (fun i wr => ∃ k : Nat, k ≤ ps.length ∧ i = .int .i64 k ∧ Hid (Turned ps k) ∧ Ext w wr) (fun i _ => ps.length - (intOf i).toNat)
      case atStart => exact ⟨0, Nat.zero_le _, rfl, ⟨fun i hi => by omega, fun i j hj hi => by omega⟩, by (repeat (first | with_reducible exact Ext.refl _ | with_reducible assumption | ((with_reducible apply Src.ext); with_reducible assumption) | with_reducible refine Ext.alloc ?_ _ | with_reducible refine Ext.drew ?_ | with_reducible refine Ext.drewN ?_ _ | ((with_reducible refine Ext.setCell' ?_ ?_ _); solve | omega | simp | (simp; omega)) | (with_reducible refine Ext.trans ?_ (by with_reducible assumption))))⟩
      case round =>
        obtain ⟨k, hk, rfl, HT, hx⟩ := hrel
        by_cases hlt : k < ps.length
        · have hS := h.ext hx
          obtain ⟨d0, d1⟩ := hS.ring hlt
          have hbr : b < wr.heap.size := by have := hx.size; omega
          by_cases ht : turnI ps k = 0
          · have hR : ¬ RingP ps := fun hr => hr.2.2.2.1 k hlt ht
            have tb : (turnW (ptx ps k) (ptz ps k) (ptx ps (k + 1)) (ptz ps (k + 1)) (ptx ps (k + 2)) (ptz ps (k + 2)) == 0) = true := by rw [beq_iff_eq]; exact ht
            clear ht
            go_wp2
            (refine wp_region_ext (by kernel_rfl) (by kernel_rfl) ?_; (repeat (go_big_quiet_step (first | (go_at_call 66; exact Calls_ext (s_corner _ _ ps _ _ (hS.ext (ExtOf.ext _)) (by omega) hl (by omega) (by omega))) | (go_at_call 68; exact Calls_ext (s_turn _ _ _ _ _ _ _))))); refine wpQuiet_nil ?_; intro wq hxwq; obtain ⟨hcwq, hfwq⟩ := hxwq.rules; have hswq := hxwq.size; (try simp at hswq))
            go_wp2
            go_ret
            exact ⟨ret_bool (ringB_no hR), by (repeat (first | with_reducible exact Ext.refl _ | with_reducible assumption | ((with_reducible apply Src.ext); with_reducible assumption) | with_reducible refine Ext.alloc ?_ _ | with_reducible refine Ext.drew ?_ | with_reducible refine Ext.drewN ?_ _ | ((with_reducible refine Ext.setCell' ?_ ?_ _); solve | omega | simp | (simp; omega)) | (with_reducible refine Ext.trans ?_ (by with_reducible assumption))))⟩
          · have HN := Lib.hid ht
            have tb : (turnW (ptx ps k) (ptz ps k) (ptx ps (k + 1)) (ptz ps (k + 1)) (ptx ps (k + 2)) (ptz ps (k + 2)) == 0) = false := by rw [beq_eq_false_iff_ne]; exact ht
            clear ht
            go_wp2
            (refine wp_region_ext (by kernel_rfl) (by kernel_rfl) ?_; (repeat (go_big_quiet_step (first | (go_at_call 66; exact Calls_ext (s_corner _ _ ps _ _ (hS.ext (ExtOf.ext _)) (by omega) hl (by omega) (by omega))) | (go_at_call 68; exact Calls_ext (s_turn _ _ _ _ _ _ _))))); refine wpQuiet_nil ?_; intro wq hxwq; obtain ⟨hcwq, hfwq⟩ := hxwq.rules; have hswq := hxwq.size; (try simp at hswq))
            go_wp2
            go_loopw [5] (fun i wr2 => ∃ m : Nat, m ≤ k ∧ i = .int .i64 m ∧ Hid (Differs ps k m) ∧ Ext w wr2) (fun i _ => ps.length - (intOf i).toNat)
            case atStart => exact ⟨0, by omega, by go_num, fun j h1 => by omega, by (repeat (first | with_reducible exact Ext.refl _ | with_reducible assumption | ((with_reducible apply Src.ext); with_reducible assumption) | with_reducible refine Ext.alloc ?_ _ | with_reducible refine Ext.drew ?_ | with_reducible refine Ext.drewN ?_ _ | ((with_reducible refine Ext.setCell' ?_ ?_ _); solve | omega | simp | (simp; omega)) | (with_reducible refine Ext.trans ?_ (by with_reducible assumption))))⟩
            case round =>
              obtain ⟨m, hm, rfl, HD, hx2⟩ := hrel
              by_cases hlm : m < k
              · have hS2 := h.ext hx2
                obtain ⟨p0, p1⟩ := hS2.ring hlt
                obtain ⟨q0, q1⟩ := hS2.ring (k := m) (by omega)
                have hmn : m < ps.length := by omega
                have hbr2 := Nat.lt_of_lt_of_le hb0 hx2.size
                by_cases he : eqP (ptx ps k) (ptz ps k) (ptx ps m) (ptz ps m) = true
                · have hR : ¬ RingP ps := fun hr => hr.2.2.2.2.1 k m hlm hlt (eqP_iff.1 he)
                  go_wp2
                  (refine wp_region_ext (by kernel_rfl) (by kernel_rfl) ?_; (repeat (go_big_quiet_step (fail))); refine wpQuiet_nil ?_; intro wp hxwp; obtain ⟨hcwp, hfwp⟩ := hxwp.rules; have hswp := hxwp.size; (try simp at hswp))
                  go_wp2
                  go_ret
                  exact ⟨ret_bool (ringB_no hR), by (repeat (first | with_reducible exact Ext.refl _ | with_reducible assumption | ((with_reducible apply Src.ext); with_reducible assumption) | with_reducible refine Ext.alloc ?_ _ | with_reducible refine Ext.drew ?_ | with_reducible refine Ext.drewN ?_ _ | ((with_reducible refine Ext.setCell' ?_ ?_ _); solve | omega | simp | (simp; omega)) | (with_reducible refine Ext.trans ?_ (by with_reducible assumption))))⟩
                · have he' : eqP (ptx ps k) (ptz ps k) (ptx ps m) (ptz ps m) = false := Bool.eq_false_iff.2 he
                  clear he
                  go_wp2
                  (refine wp_region_ext (by kernel_rfl) (by kernel_rfl) ?_; (repeat (go_big_quiet_step (fail))); refine wpQuiet_nil ?_; intro wp hxwp; obtain ⟨hcwp, hfwp⟩ := hxwp.rules; have hswp := hxwp.size; (try simp at hswp))
                  go_wp2
                  go_roundw
                  case rel => exact ⟨m + 1, by omega, by go_num, HD.out.succ he', by (repeat (first | with_reducible exact Ext.refl _ | with_reducible assumption | ((with_reducible apply Src.ext); with_reducible assumption) | with_reducible refine Ext.alloc ?_ _ | with_reducible refine Ext.drew ?_ | with_reducible refine Ext.drewN ?_ _ | ((with_reducible refine Ext.setCell' ?_ ?_ _); solve | omega | simp | (simp; omega)) | (with_reducible refine Ext.trans ?_ (by with_reducible assumption))))⟩
                  case measure => simp [intOf]; omega
              · go_wp2
                go_roundw
                case rel =>
                  obtain rfl : m = k := by omega
                  exact ⟨m + 1, by omega, by go_num, HT.out.succ' HN.out HD.out, by (repeat (first | with_reducible exact Ext.refl _ | with_reducible assumption | ((with_reducible apply Src.ext); with_reducible assumption) | with_reducible refine Ext.alloc ?_ _ | with_reducible refine Ext.drew ?_ | with_reducible refine Ext.drewN ?_ _ | ((with_reducible refine Ext.setCell' ?_ ?_ _); solve | omega | simp | (simp; omega)) | (with_reducible refine Ext.trans ?_ (by with_reducible assumption))))⟩
                case measure => simp [intOf]; omega
        · obtain rfl : k = ps.length := by omega
          go_wp2
          go_loopw [6] (fun i wr2 => ∃ k : Nat, k ≤ ps.length ∧ i = .int .i64 k ∧ Hid (Apart ps k) ∧ Ext w wr2) (fun i _ => ps.length - (intOf i).toNat)
          case atStart => exact ⟨0, by omega, by go_num, fun i j hi => by omega, by (repeat (first | with_reducible exact Ext.refl _ | with_reducible assumption | ((with_reducible apply Src.ext); with_reducible assumption) | with_reducible refine Ext.alloc ?_ _ | with_reducible refine Ext.drew ?_ | with_reducible refine Ext.drewN ?_ _ | ((with_reducible refine Ext.setCell' ?_ ?_ _); solve | omega | simp | (simp; omega)) | (with_reducible refine Ext.trans ?_ (by with_reducible assumption))))⟩
          case round =>
            obtain ⟨i, hi, rfl, HP, hx2⟩ := hrel
            by_cases hli : i < ps.length
            · go_wp2
              go_loopw [7] (fun u wr3 => ∃ m : Nat, i + 2 ≤ m ∧ m ≤ ps.length + 1 ∧ u = .int .i64 m ∧ Hid (Apart1 ps i m) ∧ Ext w wr3) (fun u _ => ps.length + 1 - (intOf u).toNat)
              case atStart => exact ⟨i + 2, by omega, by omega, by go_num, fun j h1 h2 => apB_next (by omega), by (repeat (first | with_reducible exact Ext.refl _ | with_reducible assumption | ((with_reducible apply Src.ext); with_reducible assumption) | with_reducible refine Ext.alloc ?_ _ | with_reducible refine Ext.drew ?_ | with_reducible refine Ext.drewN ?_ _ | ((with_reducible refine Ext.setCell' ?_ ?_ _); solve | omega | simp | (simp; omega)) | (with_reducible refine Ext.trans ?_ (by with_reducible assumption))))⟩
              case round =>
                obtain ⟨m, hkm, hm, rfl, HM, hx3⟩ := hrel
                by_cases hlm : m < ps.length
                · have hS3 := h.ext hx3
                  obtain ⟨p0, p1⟩ := hS3.ring hli
                  obtain ⟨o0, o1⟩ := hS3.ring (k := i + 1) (by omega)
                  obtain ⟨q0, q1⟩ := hS3.ring hlm
                  by_cases h0 : i = 0 ∧ m + 1 = ps.length
                  · have HM1 := HM.out.succ (apB_next (Or.inr h0))
                    have HM2 := Lib.hid HM1
                    have t1 : ((i : Int) == 0) = true := by rw [beq_iff_eq]; omega
                    have t2 : ((m : Int) == (ps.length : Int) - 1) = true := by rw [beq_iff_eq]; omega
                    clear HM1 h0
                    go_wp2
                    go_roundw
                    case rel => exact ⟨m + 1, by omega, by omega, by go_num, HM2, by (repeat (first | with_reducible exact Ext.refl _ | with_reducible assumption | ((with_reducible apply Src.ext); with_reducible assumption) | with_reducible refine Ext.alloc ?_ _ | with_reducible refine Ext.drew ?_ | with_reducible refine Ext.drewN ?_ _ | ((with_reducible refine Ext.setCell' ?_ ?_ _); solve | omega | simp | (simp; omega)) | (with_reducible refine Ext.trans ?_ (by with_reducible assumption))))⟩
                    case measure => simp [intOf]; omega
                  · have HZ := Lib.hid h0
                    have hi1 : i + 1 < ps.length := by omega
                    rw [show ((i + 1 : Nat) : Int) = (i : Int) + 1 from rfl] at o0 o1
                    have hbr3 := Nat.lt_of_lt_of_le hb0 hx3.size
                    by_cases h00 : i = 0
                    · have t1 : ((i : Int) == 0) = true := by rw [beq_iff_eq]; omega
                      have t2 : ((m : Int) == (ps.length : Int) - 1) = false := by rw [beq_eq_false_iff_ne]; omega
                      clear h0 h00
                      by_cases hcr : crossI ps i m = true
                      · have hR : ¬ RingP ps := fun hr => by
                          have e1 := hr.2.2.2.2.2 i m (by omega) hlm
                          rw [apB_no hcr (by omega) HZ.out] at e1
                          cases e1
                        have hcr' : crossW (ptx ps i) (ptz ps i) (ptx ps (i + 1)) (ptz ps (i + 1)) (ptx ps m) (ptz ps m) (ptx ps (m + 1)) (ptz ps (m + 1)) = true := hcr
                        clear hcr
                        go_wp2
                        (refine wp_region_ext (by kernel_rfl) (by kernel_rfl) ?_; (repeat (go_big_quiet_step (first | (go_at_call 66; exact Calls_ext (s_corner _ _ ps _ _ (hS3.ext (ExtOf.ext _)) (by omega) hl (by omega) (by omega))) | (go_at_call 122; exact Calls_ext (as_bool (s_doCross _ _ _ _ _ _ _ _ _) hcr'))))); refine wpQuiet_nil ?_; intro wq hxwq; obtain ⟨hcwq, hfwq⟩ := hxwq.rules; have hswq := hxwq.size; (try simp at hswq))
                        go_wp2
                        go_ret
                        exact ⟨ret_bool (ringB_no hR), by (repeat (first | with_reducible exact Ext.refl _ | with_reducible assumption | ((with_reducible apply Src.ext); with_reducible assumption) | with_reducible refine Ext.alloc ?_ _ | with_reducible refine Ext.drew ?_ | with_reducible refine Ext.drewN ?_ _ | ((with_reducible refine Ext.setCell' ?_ ?_ _); solve | omega | simp | (simp; omega)) | (with_reducible refine Ext.trans ?_ (by with_reducible assumption))))⟩
                      · have HM1 := HM.out.succ (apB_cross (Bool.eq_false_iff.2 hcr))
                        have HM2 := Lib.hid HM1
                        have hcr' : crossW (ptx ps i) (ptz ps i) (ptx ps (i + 1)) (ptz ps (i + 1)) (ptx ps m) (ptz ps m) (ptx ps (m + 1)) (ptz ps (m + 1)) = false := Bool.eq_false_iff.2 hcr
                        clear hcr HM1
                        go_wp2
                        (refine wp_region_ext (by kernel_rfl) (by kernel_rfl) ?_; (repeat (go_big_quiet_step (first | (go_at_call 66; exact Calls_ext (s_corner _ _ ps _ _ (hS3.ext (ExtOf.ext _)) (by omega) hl (by omega) (by omega))) | (go_at_call 122; exact Calls_ext (as_bool (s_doCross _ _ _ _ _ _ _ _ _) hcr'))))); refine wpQuiet_nil ?_; intro wq hxwq; obtain ⟨hcwq, hfwq⟩ := hxwq.rules; have hswq := hxwq.size; (try simp at hswq))
                        go_wp2
                        go_roundw
                        case rel => exact ⟨m + 1, by omega, by omega, by go_num, HM2, by (repeat (first | with_reducible exact Ext.refl _ | with_reducible assumption | ((with_reducible apply Src.ext); with_reducible assumption) | with_reducible refine Ext.alloc ?_ _ | with_reducible refine Ext.drew ?_ | with_reducible refine Ext.drewN ?_ _ | ((with_reducible refine Ext.setCell' ?_ ?_ _); solve | omega | simp | (simp; omega)) | (with_reducible refine Ext.trans ?_ (by with_reducible assumption))))⟩
                        case measure => simp [intOf]; omega
                    · have t1 : ((i : Int) == 0) = false := by rw [beq_eq_false_iff_ne]; omega
                      clear h0 h00
                      by_cases hcr : crossI ps i m = true
                      · have hR : ¬ RingP ps := fun hr => by
                          have e1 := hr.2.2.2.2.2 i m (by omega) hlm
                          rw [apB_no hcr (by omega) HZ.out] at e1
                          cases e1
                        have hcr' : crossW (ptx ps i) (ptz ps i) (ptx ps (i + 1)) (ptz ps (i + 1)) (ptx ps m) (ptz ps m) (ptx ps (m + 1)) (ptz ps (m + 1)) = true := hcr
                        clear hcr
                        go_wp2
                        (refine wp_region_ext (by kernel_rfl) (by kernel_rfl) ?_; (repeat (go_big_quiet_step (first | (go_at_call 66; exact Calls_ext (s_corner _ _ ps _ _ (hS3.ext (ExtOf.ext _)) (by omega) hl (by omega) (by omega))) | (go_at_call 122; exact Calls_ext (as_bool (s_doCross _ _ _ _ _ _ _ _ _) hcr'))))); refine wpQuiet_nil ?_; intro wq hxwq; obtain ⟨hcwq, hfwq⟩ := hxwq.rules; have hswq := hxwq.size; (try simp at hswq))
                        go_wp2
                        go_ret
                        exact ⟨ret_bool (ringB_no hR), by (repeat (first | with_reducible exact Ext.refl _ | with_reducible assumption | ((with_reducible apply Src.ext); with_reducible assumption) | with_reducible refine Ext.alloc ?_ _ | with_reducible refine Ext.drew ?_ | with_reducible refine Ext.drewN ?_ _ | ((with_reducible refine Ext.setCell' ?_ ?_ _); solve | omega | simp | (simp; omega)) | (with_reducible refine Ext.trans ?_ (by with_reducible assumption))))⟩
                      · have HM1 := HM.out.succ (apB_cross (Bool.eq_false_iff.2 hcr))
                        have HM2 := Lib.hid HM1
                        have hcr' : crossW (ptx ps i) (ptz ps i) (ptx ps (i + 1)) (ptz ps (i + 1)) (ptx ps m) (ptz ps m) (ptx ps (m + 1)) (ptz ps (m + 1)) = false := Bool.eq_false_iff.2 hcr
                        clear hcr HM1
                        go_wp2
                        (refine wp_region_ext (by kernel_rfl) (by kernel_rfl) ?_; (repeat (go_big_quiet_step (first | (go_at_call 66; exact Calls_ext (s_corner _ _ ps _ _ (hS3.ext (ExtOf.ext _)) (by omega) hl (by omega) (by omega))) | (go_at_call 122; exact Calls_ext (as_bool (s_doCross _ _ _ _ _ _ _ _ _) hcr'))))); refine wpQuiet_nil ?_; intro wq hxwq; obtain ⟨hcwq, hfwq⟩ := hxwq.rules; have hswq := hxwq.size; (try simp at hswq))
                        go_wp2
                        go_roundw
                        case rel => exact ⟨m + 1, by omega, by omega, by go_num, HM2, by (repeat (first | with_reducible exact Ext.refl _ | with_reducible assumption | ((with_reducible apply Src.ext); with_reducible assumption) | with_reducible refine Ext.alloc ?_ _ | with_reducible refine Ext.drew ?_ | with_reducible refine Ext.drewN ?_ _ | ((with_reducible refine Ext.setCell' ?_ ?_ _); solve | omega | simp | (simp; omega)) | (with_reducible refine Ext.trans ?_ (by with_reducible assumption))))⟩
                        case measure => simp [intOf]; omega
                · have HP1 := HP.out.succ HM.out (by omega)
                  have HP2 := Lib.hid HP1
                  clear HP1
                  go_wp2
                  go_roundw
                  case rel => exact ⟨i + 1, by omega, by go_num, HP2, by (repeat (first | with_reducible exact Ext.refl _ | with_reducible assumption | ((with_reducible apply Src.ext); with_reducible assumption) | with_reducible refine Ext.alloc ?_ _ | with_reducible refine Ext.drew ?_ | with_reducible refine Ext.drewN ?_ _ | ((with_reducible refine Ext.setCell' ?_ ?_ _); solve | omega | simp | (simp; omega)) | (with_reducible refine Ext.trans ?_ (by with_reducible assumption))))⟩
                  case measure => simp [intOf]; omega
            · go_wp2
              go_ret
              obtain rfl : i = ps.length := by omega
              exact ⟨ret_bool (ringB_yes ⟨hn3, hn12, HO.out, HT.out.1, HT.out.2, fun i j hij hj => HP.out i j (by omega) hij hj⟩), by (repeat (first | with_reducible exact Ext.refl _ | with_reducible assumption | ((with_reducible apply Src.ext); with_reducible assumption) | with_reducible refine Ext.alloc ?_ _ | with_reducible refine Ext.drew ?_ | with_reducible refine Ext.drewN ?_ _ | ((with_reducible refine Ext.setCell' ?_ ?_ _); solve | omega | simp | (simp; omega)) | (with_reducible refine Ext.trans ?_ (by with_reducible assumption))))⟩
    · have hR : ¬ RingP ps := fun hr => ho hr.2.2.1
      have har : ∀ W, SlAt W 2 encP A ps → Calls Tryz.prog 121 #[.slice A ps.length c] W fun e w' => e = .returned (.bool false) ∧ Ext W w' := fun W hW => by
        have := s_arePoints _ c ps W hW hl
        rwa [show (ps.all fun p => okP p.1 p.2) = false from Bool.eq_false_iff.2 ho] at this
      have HA := Lib.hid har
      clear har ho
      go_enter Tryz.func93, Tryz.ntmps93
      go_wp2_with (first | (go_at_call 65; refine (l01In_any _ _ _ _).mono ?_; rintro e w' ⟨rfl, rfl⟩) | (go_at_call 121; refine (HA.out _ h).mono ?_; rintro e w1 ⟨rfl, hx1⟩; obtain ⟨hc1, hf1⟩ := hx1.rules; have hs1 := hx1.size; (try simp at hs1)))
      go_ret
      exact ⟨ret_bool (ringB_no hR), by (repeat (first | with_reducible exact Ext.refl _ | with_reducible assumption | ((with_reducible apply Src.ext); with_reducible assumption) | with_reducible refine Ext.alloc ?_ _ | with_reducible refine Ext.drew ?_ | with_reducible refine Ext.drewN ?_ _ | ((with_reducible refine Ext.setCell' ?_ ?_ _); solve | omega | simp | (simp; omega)) | (with_reducible refine Ext.trans ?_ (by with_reducible assumption))))⟩
  · have hR : ¬ RingP ps := fun hr => hb (by simp [inB]; have := hr.1; have := hr.2.1; omega)
    have hb' : inB ps.length 3 12 = false := by simpa using hb
    clear hb
    go_enter Tryz.func93, Tryz.ntmps93
    go_wp2_with (first | (go_at_call 65; refine (l01In_any _ _ _ _).mono ?_; rintro e w' ⟨rfl, rfl⟩))
    go_ret
    exact ⟨ret_bool (ringB_no hR), by (repeat (first | with_reducible exact Ext.refl _ | with_reducible assumption | ((with_reducible apply Src.ext); with_reducible assumption) | with_reducible refine Ext.alloc ?_ _ | with_reducible refine Ext.drew ?_ | with_reducible refine Ext.drewN ?_ _ | ((with_reducible refine Ext.setCell' ?_ ?_ _); solve | omega | simp | (simp; omega)) | (with_reducible refine Ext.trans ?_ (by with_reducible assumption))))⟩
end Go.Proofs.YtabdffponmmhoaaGreatDoor
namespace Go.Proofs.YtabdffponmmhoaaGreatDoor
open Go.RowKit
@[simp] theorem drew_size (w : World) : w.drew.heap.size = w.heap.size := rfl
@[simp] theorem drewN_size (w : World) (n : Nat) : (w.drewN n).heap.size = w.heap.size := rfl
end Go.Proofs.YtabdffponmmhoaaGreatDoor
namespace Go.Proofs.YtabdffponmmhoaaGreatDoor
open Go.RowKit
attribute [local go_sem] ExtOf.cell ExtOf.frozen





theorem oks_bd {ps : List (Int × Int)} (h : oks ps = true) (k : Nat) : (-1000 ≤ (ps.getD k (0, 0)).1 ∧ (ps.getD k (0, 0)).1 ≤ 1000) ∧ -1000 ≤ (ps.getD k (0, 0)).2 ∧ (ps.getD k (0, 0)).2 ≤ 1000 := by
  by_cases hk : k < ps.length
  · have := List.all_eq_true.1 h ps[k] (List.getElem_mem hk)
    simp [okP, inB] at this
    simp [List.getD, hk]
    omega
  · simp [List.getD, List.getElem?_eq_none (Nat.le_of_not_lt hk)]
theorem ptx_bd {ps : List (Int × Int)} (h : oks ps = true) (i : Int) : -1000 ≤ ptx ps i ∧ ptx ps i ≤ 1000 := (oks_bd h _).1
theorem ptz_bd {ps : List (Int × Int)} (h : oks ps = true) (i : Int) : -1000 ≤ ptz ps i ∧ ptz ps i ≤ 1000 := (oks_bd h _).2
theorem mul_bd {x y : Int} (hx : -1000 ≤ x ∧ x ≤ 1000) (hy : -1000 ≤ y ∧ y ≤ 1000) : -1000000 ≤ x * y ∧ x * y ≤ 1000000 := by
  have a := Int.mul_nonneg (show 0 ≤ 1000 - x by omega) (show 0 ≤ 1000 - y by omega)
  have b := Int.mul_nonneg (show 0 ≤ 1000 + x by omega) (show 0 ≤ 1000 + y by omega)
  have c := Int.mul_nonneg (show 0 ≤ 1000 - x by omega) (show 0 ≤ 1000 + y by omega)
  have d := Int.mul_nonneg (show 0 ≤ 1000 + x by omega) (show 0 ≤ 1000 - y by omega)
  simp only [Int.sub_mul, Int.mul_sub, Int.add_mul, Int.mul_add] at a b c d
  omega
/-- the sum over the first k edges, twice the area at the end -/
def areaTo (ps : List (Int × Int)) : Nat → Int
  | 0 => 0
  | k + 1 => areaTo ps k + (ptx ps k * ptz ps (k + 1) - ptz ps k * ptx ps (k + 1))
theorem areaTo_bd {ps : List (Int × Int)} (h : oks ps = true) : ∀ k : Nat, -(2000000 * (k : Int)) ≤ areaTo ps k ∧ areaTo ps k ≤ 2000000 * (k : Int)
  | 0 => by simp [areaTo]
  | k + 1 => by
    have h1 := areaTo_bd h k
    have h2 := mul_bd (ptx_bd h k) (ptz_bd h (k + 1))
    have h3 := mul_bd (ptz_bd h k) (ptx_bd h (k + 1))
    simp only [areaTo]
    omega
def areaZ (ps : List (Int × Int)) : Int := areaTo ps ps.length
set_option maxHeartbeats 800000 in
theorem i_area (A : Option Addr) (c : Nat) (ps : List (Int × Int)) (w : World) (h : SlAt w 2 encP A ps) (h0 : 0 < ps.length) (hl : ps.length ≤ 1000) (ho : oks ps = true) :
    Calls Tryz.prog 200 #[.slice A ps.length c] w fun e w' => e = .returned (.int .i64 (areaZ ps)) ∧ Ext w w' := by
  obtain ⟨b, off, rfl, hb0⟩ := h.open_ h0
  have HO := Lib.hid ho
  clear ho
  go_enter Tryz.func200, Tryz.ntmps200
  go_wp2
  go_loopw [3, 9] (fun s i wr => ∃ k : Nat, k ≤ ps.length ∧ i = .int .i64 k ∧ s = .int .i64 (areaTo ps k) ∧ Ext w wr) (fun _ i _ => ps.length - (intOf i).toNat)
  case atStart => exact ⟨0, Nat.zero_le _, rfl, rfl, by (repeat (first | with_reducible exact Ext.refl _ | with_reducible assumption | ((with_reducible apply Src.ext); with_reducible assumption) | with_reducible refine Ext.alloc ?_ _ | with_reducible refine Ext.drew ?_ | with_reducible refine Ext.drewN ?_ _ | ((with_reducible refine Ext.setCell' ?_ ?_ _); solve | omega | simp | (simp; omega)) | (with_reducible refine Ext.trans ?_ (by with_reducible assumption))))⟩
  case round =>
    obtain ⟨k, hk, rfl, rfl, hx⟩ := hrel
    by_cases hlt : k < ps.length
    · have hS := h.ext hx
      obtain ⟨d0, d1⟩ := hS.ring hlt
      have hbr := Nat.lt_of_lt_of_le hb0 hx.size
      have m1 := mul_bd (ptx_bd HO.out k) (ptz_bd HO.out (k + 1))
      have m2 := mul_bd (ptz_bd HO.out k) (ptx_bd HO.out (k + 1))
      have m3 := areaTo_bd HO.out k
      go_wp2_with (first | (go_at_call 73; refine (i_corner _ _ ps _ _ (hS.ext (by (repeat (first | with_reducible exact Ext.refl _ | with_reducible assumption | ((with_reducible apply Src.ext); with_reducible assumption) | with_reducible refine Ext.alloc ?_ _ | with_reducible refine Ext.drew ?_ | with_reducible refine Ext.drewN ?_ _ | ((with_reducible refine Ext.setCell' ?_ ?_ _); solve | omega | simp | (simp; omega)) | (with_reducible refine Ext.trans ?_ (by with_reducible assumption)))))) h0 (by omega) (by omega) (by omega)).mono ?_; rintro e w1 ⟨rfl, hx1⟩; obtain ⟨hc1, hf1⟩ := hx1.rules; have hs1 := hx1.size; (try simp at hs1); have := (show wr.heap.size < w1.heap.size from by omega)))
      go_roundw
      case rel => exact ⟨k + 1, by omega, by go_num, rfl, by (repeat (first | with_reducible exact Ext.refl _ | with_reducible assumption | ((with_reducible apply Src.ext); with_reducible assumption) | with_reducible refine Ext.alloc ?_ _ | with_reducible refine Ext.drew ?_ | with_reducible refine Ext.drewN ?_ _ | ((with_reducible refine Ext.setCell' ?_ ?_ _); solve | omega | simp | (simp; omega)) | (with_reducible refine Ext.trans ?_ (by with_reducible assumption))))⟩
      case measure => simp [intOf]; omega
    · go_wp2
      go_ret
      obtain rfl : k = ps.length := by omega
      exact ⟨rfl, by (repeat (first | with_reducible exact Ext.refl _ | with_reducible assumption | ((with_reducible apply Src.ext); with_reducible assumption) | with_reducible refine Ext.alloc ?_ _ | with_reducible refine Ext.drew ?_ | with_reducible refine Ext.drewN ?_ _ | ((with_reducible refine Ext.setCell' ?_ ?_ _); solve | omega | simp | (simp; omega)) | (with_reducible refine Ext.trans ?_ (by with_reducible assumption))))⟩
set_option maxHeartbeats 1600000 in
theorem s_area (A : Option Addr) (c : Nat) (ps : List (Int × Int)) (w : World) (h : SlAt w 2 encP A ps) (h0 : 0 < ps.length) (hl : ps.length ≤ 1000) (ho : oks ps = true) :
    Calls Tryz.prog 197 #[.slice A ps.length c] w fun e w' => e = .returned (.int .i64 (areaZ ps)) ∧ Ext w w' := by
  obtain ⟨b, off, rfl, hb0⟩ := h.open_ h0
  have HO := Lib.hid ho
  clear ho
  go_enter Tryz.func197, Tryz.ntmps197
  go_wp2
  go_loopw [3, 4] (fun s i wr => ∃ k : Nat, k ≤ ps.length ∧ i = .int .i64 k ∧ s = .int .i64 (areaTo ps k) ∧ Ext w wr) (fun _ i _ => ps.length - (intOf i).toNat)
  case atStart => exact ⟨0, Nat.zero_le _, rfl, rfl, by (repeat (first | with_reducible exact Ext.refl _ | with_reducible assumption | ((with_reducible apply Src.ext); with_reducible assumption) | with_reducible refine Ext.alloc ?_ _ | with_reducible refine Ext.drew ?_ | with_reducible refine Ext.drewN ?_ _ | ((with_reducible refine Ext.setCell' ?_ ?_ _); solve | omega | simp | (simp; omega)) | (with_reducible refine Ext.trans ?_ (by with_reducible assumption))))⟩
  case round =>
    obtain ⟨k, hk, rfl, rfl, hx⟩ := hrel
    by_cases hlt : k < ps.length
    · have hS := h.ext hx
      obtain ⟨d0, d1⟩ := hS.ring hlt
      have hbr := Nat.lt_of_lt_of_le hb0 hx.size
      have m1 := mul_bd (ptx_bd HO.out k) (ptz_bd HO.out (k + 1))
      have m2 := mul_bd (ptz_bd HO.out k) (ptx_bd HO.out (k + 1))
      have m3 := areaTo_bd HO.out k
      (have := (show b < wr.heap.size + 1 from by omega); have := (show b < wr.heap.size + 1 + 1 from by omega); have := (show b < wr.heap.size + 1 + 1 + 1 from by omega))
      have n1 : ¬ b = wr.heap.size := by omega
      have n2 : ¬ wr.heap.size = b := by omega
      have n3 : ¬ b = wr.heap.size + 1 := by omega
      have n4 : ¬ wr.heap.size + 1 = b := by omega
      have hw1 : IntKind.i64.wrap ((k : Int) + 1) = (k : Int) + 1 := IntWalk.i64_in _ (by omega)
      go_upto_region 5 with (fail)
      go_cut [5, 6] (fun p q wx => ∃ b5 b6 : Nat, p = .pointer (some ⟨b5, 0, none⟩) ∧ q = .pointer (some ⟨b6, 0, none⟩) ∧ Blk wx b5 35 #[.int .i64 (ptx ps k), .int .i64 (ptz ps k)] ∧ Blk wx b6 35 #[.int .i64 (ptx ps (k + 1)), .int .i64 (ptz ps (k + 1))] ∧ Ext wr wx)
      case first =>
        go_region_held3 (fun w' => w'.cell? ⟨b, off + k * 2, none⟩ = some (.int .i64 (ptx ps k)) ∧ w'.cell? ⟨b, off + k * 2 + 1, none⟩ = some (.int .i64 (ptz ps k))) (go_keep) (first | ((go_at_call 66; refine (s_corner _ _ ps _ _ (hS.ext (by (repeat (first | with_reducible exact Ext.refl _ | with_reducible assumption | ((with_reducible apply Src.ext); with_reducible assumption) | with_reducible refine Ext.alloc ?_ _ | with_reducible refine Ext.drew ?_ | with_reducible refine Ext.drewN ?_ _ | ((with_reducible refine Ext.setCell' ?_ ?_ _); solve | omega | simp | (simp; omega)) | (with_reducible refine Ext.trans ?_ (by with_reducible assumption)))))) h0 (by omega) (by omega) (by omega)).mono ?_; rintro e w1 ⟨rfl, hx1⟩; obtain ⟨hc1, hf1⟩ := hx1.rules; have hs1 := hx1.size; (try simp at hs1); have hl1 : ∀ n, n < _ → n < w1.heap.size := fun n h => Nat.lt_of_lt_of_le h hx1.size; have := (show b < w1.heap.size from by omega)); have k0 := (hx1.cell b (off + k * 2) (by simp; omega)).trans (show _ = some (.int .i64 (ptx ps k)) by simp [*]); have k1 := (hx1.cell b (off + k * 2 + 1) (by simp; omega)).trans (show _ = some (.int .i64 (ptz ps k)) by simp [*]); (have := (show b < w1.heap.size + 1 from by omega); have := (show b < w1.heap.size + 1 + 1 from by omega)); have := (show ¬ b = w1.heap.size from by omega); have := (show ¬ w1.heap.size = b from by omega); have := (show ¬ b = w1.heap.size + 1 from by omega); have := (show ¬ w1.heap.size + 1 = b from by omega)))
        all_goals (go_wp2_with fail; go_meet; exact ⟨_, _, rfl, rfl, Blk.eq (by (repeat (first | with_reducible assumption | ((with_reducible apply Blk.new); solve | simp | rfl) | with_reducible apply Blk.drew | with_reducible apply Blk.drewN | ((with_reducible apply Blk.far'); solve | omega | simp | (simp; omega)) | with_reducible apply Blk.set_ | with_reducible apply Blk.alloc | ((with_reducible apply Blk.ext'); with_reducible assumption) | ((with_reducible apply Blk.but'); (with_reducible assumption); solve | omega | (simp; omega))))) (by rfl), Blk.eq (by (repeat (first | with_reducible assumption | ((with_reducible apply Blk.new); solve | simp | rfl) | with_reducible apply Blk.drew | with_reducible apply Blk.drewN | ((with_reducible apply Blk.far'); solve | omega | simp | (simp; omega)) | with_reducible apply Blk.set_ | with_reducible apply Blk.alloc | ((with_reducible apply Blk.ext'); with_reducible assumption) | ((with_reducible apply Blk.but'); (with_reducible assumption); solve | omega | (simp; omega))))) (by rfl), by (repeat (first | with_reducible exact Ext.refl _ | with_reducible assumption | ((with_reducible apply Src.ext); with_reducible assumption) | with_reducible refine Ext.alloc ?_ _ | with_reducible refine Ext.drew ?_ | with_reducible refine Ext.drewN ?_ _ | ((with_reducible refine Ext.setCell' ?_ ?_ _); solve | omega | simp | (simp; omega)) | (with_reducible refine Ext.trans ?_ (by with_reducible assumption))))⟩)
      case rest =>
      obtain ⟨b5, b6, rfl, rfl, B5, B6, hxc⟩ := hcut
      have e0 : wc.cell? ⟨b5, 0, none⟩ = some (.int .i64 (ptx ps k)) := B5.cell 0
      have e1 : wc.cell? ⟨b5, 1, none⟩ = some (.int .i64 (ptz ps k)) := B5.cell 1
      have e2 : wc.cell? ⟨b6, 0, none⟩ = some (.int .i64 (ptx ps (k + 1))) := B6.cell 0
      have e3 : wc.cell? ⟨b6, 1, none⟩ = some (.int .i64 (ptz ps (k + 1))) := B6.cell 1
      have z5 := B5.lt
      have z6 := B6.lt
      go_wp2
      go_roundw
      case rel => exact ⟨k + 1, by omega, by go_num, congrArg (Value.int .i64) (by simp only [areaTo]; omega), by (repeat (first | with_reducible exact Ext.refl _ | with_reducible assumption | ((with_reducible apply Src.ext); with_reducible assumption) | with_reducible refine Ext.alloc ?_ _ | with_reducible refine Ext.drew ?_ | with_reducible refine Ext.drewN ?_ _ | ((with_reducible refine Ext.setCell' ?_ ?_ _); solve | omega | simp | (simp; omega)) | (with_reducible refine Ext.trans ?_ (by with_reducible assumption))))⟩
      case measure => simp [intOf]; omega
    · go_wp2
      go_ret
      obtain rfl : k = ps.length := by omega
      exact ⟨rfl, by (repeat (first | with_reducible exact Ext.refl _ | with_reducible assumption | ((with_reducible apply Src.ext); with_reducible assumption) | with_reducible refine Ext.alloc ?_ _ | with_reducible refine Ext.drew ?_ | with_reducible refine Ext.drewN ?_ _ | ((with_reducible refine Ext.setCell' ?_ ?_ _); solve | omega | simp | (simp; omega)) | (with_reducible refine Ext.trans ?_ (by with_reducible assumption))))⟩
end Go.Proofs.YtabdffponmmhoaaGreatDoor
namespace Go.Proofs.YtabdffponmmhoaaGreatDoor
open Go.RowKit
attribute [local go_sem] ExtOf.cell ExtOf.frozen





def gcdI (x z : Int) : Nat := Nat.gcd x.natAbs z.natAbs
theorem gcd_le (a b : Nat) : Nat.gcd a b ≤ a + b := by
  rcases Nat.eq_zero_or_pos a with h | h
  · subst h; simp
  · have := Nat.gcd_le_left b h; omega
theorem gcd_step {a b g : Nat} (h : Hid (Nat.gcd a b = g)) : Hid (Nat.gcd b (a % b) = g) := by
  show _ = _
  rw [← h.out, Nat.gcd_comm b, ← Nat.gcd_rec, Nat.gcd_comm]
def edgeG (ps : List (Int × Int)) (k : Int) : Nat := gcdI (ptx ps (k + 1) - ptx ps k) (ptz ps (k + 1) - ptz ps k)
theorem edgeG_sym (ps : List (Int × Int)) (k : Int) : Hid (Nat.gcd (ptx ps k - ptx ps (k + 1)).natAbs (ptz ps k - ptz ps (k + 1)).natAbs = edgeG ps k) := by
  show _ = _
  unfold edgeG gcdI
  rw [← Int.natAbs_neg (ptx ps k - ptx ps (k + 1)), ← Int.natAbs_neg (ptz ps k - ptz ps (k + 1)), Int.neg_sub, Int.neg_sub]
def borderTo (ps : List (Int × Int)) : Nat → Int
  | 0 => 0
  | k + 1 => borderTo ps k + (edgeG ps k : Int)
theorem edgeG_bd {ps : List (Int × Int)} (h : oks ps = true) (k : Int) : edgeG ps k ≤ 4000 := by
  have a := ptx_bd h k
  have b := ptx_bd h (k + 1)
  have c := ptz_bd h k
  have d := ptz_bd h (k + 1)
  have := gcd_le (ptx ps (k + 1) - ptx ps k).natAbs (ptz ps (k + 1) - ptz ps k).natAbs
  unfold edgeG gcdI
  omega
theorem borderTo_bd {ps : List (Int × Int)} (h : oks ps = true) : ∀ k : Nat, 0 ≤ borderTo ps k ∧ borderTo ps k ≤ 4000 * (k : Int)
  | 0 => by simp [borderTo]
  | k + 1 => by
    have h1 := borderTo_bd h k
    have h2 := edgeG_bd h k
    simp only [borderTo]
    omega
def borderZ (ps : List (Int × Int)) : Int := borderTo ps ps.length

end Go.Proofs.YtabdffponmmhoaaGreatDoor
namespace Go.Proofs.YtabdffponmmhoaaGreatDoor
open Go.RowKit
attribute [local go_sem] ExtOf.cell ExtOf.frozen






noncomputable def ringC (ps : List (Int × Int)) : Int := if ringB ps = true then 0 else 1
theorem ringC_yes {ps : List (Int × Int)} (h : ringB ps = true) : ringC ps = 0 := by simp [ringC, h]
theorem ringC_no {ps : List (Int × Int)} (h : ringB ps = false) : ringC ps = 1 := by simp [ringC, h]
def ifI (b : Bool) (x : Int) : Int := if b = true then x else 0
def ifB (b : Bool) (x : Bool) : Bool := b && x
theorem ring_facts {ps : List (Int × Int)} (h : ringB ps = true) : 0 < ps.length ∧ ps.length ≤ 12 ∧ oks ps = true := by
  have := ringB_iff.1 h
  exact ⟨by have := this.1; omega, this.2.1, this.2.2.1⟩
def areaA (ps : List (Int × Int)) : Int := ((areaZ ps).natAbs : Int)
theorem areaA_bd {ps : List (Int × Int)} (h : ringB ps = true) : 0 ≤ areaA ps ∧ areaA ps ≤ 24000000 ∧ -24000000 ≤ areaZ ps ∧ areaZ ps ≤ 24000000 := by
  obtain ⟨h0, h1, h2⟩ := ring_facts h
  have := areaTo_bd h2 ps.length
  unfold areaA areaZ
  omega
theorem borderZ_bd {ps : List (Int × Int)} (h : ringB ps = true) : 0 ≤ borderZ ps ∧ borderZ ps ≤ 48000 := by
  obtain ⟨h0, h1, h2⟩ := ring_facts h
  have := borderTo_bd h2 ps.length
  unfold borderZ
  omega
def insideZ (ps : List (Int × Int)) : Int := wrap64 ((areaA ps - borderZ ps).tdiv 2 + 1)
/-- all turns have the sign of the first -/
def ConvP (ps : List (Int × Int)) : Prop := ∀ k : Nat, k < ps.length → sgn (turnI ps k) = sgn (turnI ps ((0 : Nat) : Int))
open Classical in
noncomputable def convB (ps : List (Int × Int)) : Bool := decide (ConvP ps)

theorem convB_iff {ps : List (Int × Int)} : convB ps = true ↔ ConvP ps := by simp [convB]
theorem ConvP_no {ps : List (Int × Int)} {k : Nat} (hk : k < ps.length) (h : (sgn (turnI ps k) != sgn (turnI ps ((0 : Nat) : Int))) = true) : false = convB ps := by
  refine (Bool.eq_false_iff.2 fun hc => ?_).symm
  rw [convB_iff.1 hc k hk] at h
  simp at h
theorem ConvP_succ {ps : List (Int × Int)} {k : Nat} (hc : ∀ j : Nat, j < k → sgn (turnI ps j) = sgn (turnI ps ((0 : Nat) : Int))) (h : (sgn (turnI ps k) != sgn (turnI ps ((0 : Nat) : Int))) = false) : ∀ j : Nat, j < k + 1 → sgn (turnI ps j) = sgn (turnI ps ((0 : Nat) : Int)) := fun j hj => by
  rcases Nat.lt_or_ge j k with h1 | h1
  · exact hc j h1
  · obtain rfl : j = k := by omega
    simpa using h
theorem ConvP_yes {ps : List (Int × Int)} (hc : ∀ j : Nat, j < ps.length → sgn (turnI ps j) = sgn (turnI ps ((0 : Nat) : Int))) : true = convB ps := by
  exact (convB_iff.2 hc).symm
/-- some corner among the first k turns to the left; some one does not -/
def Lefts (ps : List (Int × Int)) (k : Nat) (l r : Bool) : Prop := (l = true ↔ ∃ j : Nat, j < k ∧ 0 < turnI ps j) ∧ (r = true ↔ ∃ j : Nat, j < k ∧ ¬ 0 < turnI ps j)
theorem Lefts.left {ps : List (Int × Int)} {k : Nat} {l r : Bool} (h : Lefts ps k l r) (ht : 0 < turnI ps k) : Lefts ps (k + 1) true r := by
  refine ⟨⟨fun _ => ⟨k, by omega, ht⟩, fun _ => rfl⟩, h.2.trans ⟨fun ⟨j, hj, e⟩ => ⟨j, by omega, e⟩, fun ⟨j, hj, e⟩ => ⟨j, ?_, e⟩⟩⟩
  rcases Nat.lt_or_ge j k with h1 | h1
  · exact h1
  · exact absurd (by rw [show j = k by omega]; exact ht) e
theorem Lefts.right {ps : List (Int × Int)} {k : Nat} {l r : Bool} (h : Lefts ps k l r) (ht : ¬ 0 < turnI ps k) : Lefts ps (k + 1) l true := by
  refine ⟨h.1.trans ⟨fun ⟨j, hj, e⟩ => ⟨j, by omega, e⟩, fun ⟨j, hj, e⟩ => ⟨j, ?_, e⟩⟩, ⟨fun _ => ⟨k, by omega, ht⟩, fun _ => rfl⟩⟩
  rcases Nat.lt_or_ge j k with h1 | h1
  · exact h1
  · exact absurd e (by rw [show j = k by omega]; exact ht)
theorem Lefts.conv {ps : List (Int × Int)} {l r : Bool} (h : Lefts ps ps.length l r) (hr : ringB ps = true) : (l != r) = convB ps := by
  have hp := ringB_iff.1 hr
  have ht : ∀ i : Nat, i < ps.length → turnI ps i ≠ 0 := hp.2.2.2.1
  have h0 : 0 < ps.length := (ring_facts hr).1
  have hz := ht 0 h0
  rw [Bool.eq_iff_iff]
  rw [convB_iff, bne_iff_ne]
  constructor
  · intro hne k hk
    have hk0 := ht k hk
    rcases Int.lt_trichotomy (turnI ps k) 0 with a | a | a
    · rcases Int.lt_trichotomy (turnI ps ((0 : Nat) : Int)) 0 with b | b | b
      · unfold sgn; omega
      · exact absurd b hz
      · exact absurd ((h.1.2 ⟨0, h0, b⟩).trans (h.2.2 ⟨k, hk, by omega⟩).symm) hne
    · exact absurd a hk0
    · rcases Int.lt_trichotomy (turnI ps ((0 : Nat) : Int)) 0 with b | b | b
      · exact absurd ((h.1.2 ⟨k, hk, a⟩).trans (h.2.2 ⟨0, h0, by omega⟩).symm) hne
      · exact absurd b hz
      · unfold sgn; omega
  · intro hc hlr
    rcases Int.lt_trichotomy (turnI ps ((0 : Nat) : Int)) 0 with b | b | b
    · have hrt : r = true := h.2.2 ⟨0, h0, by omega⟩
      rw [hrt] at hlr
      obtain ⟨j, hj, e⟩ := h.1.1 hlr
      have := hc j hj
      unfold sgn at this
      omega
    · exact absurd b hz
    · have hlt : l = true := h.1.2 ⟨0, h0, b⟩
      rw [hlt] at hlr
      obtain ⟨j, hj, e⟩ := h.2.1 hlr.symm
      have := hc j hj
      have := ht j hj
      unfold sgn at *
      omega


end Go.Proofs.YtabdffponmmhoaaGreatDoor
namespace Go.Proofs.YtabdffponmmhoaaGreatDoor
open Go.RowKit
attribute [local go_sem] ExtOf.cell ExtOf.frozen







theorem l_eqPointS_self (A A' : Option Addr) (c c' : Nat) (ps : List (Int × Int)) (w : World) (h : SlAt w 2 encP A ps) (h' : SlAt w 2 encP A' ps) (hl : ps.length ≤ 1048576) :
    Calls Tryz.prog 39 #[.slice A ps.length c, .slice A' ps.length c'] w fun e w' => e = .returned (.bool true) ∧ Ext w w' := by
  have := l_eqPointS A A' c c' ps ps w h h' hl
  rwa [show eqPs ps ps = true by simp [eqPs]] at this


end Go.Proofs.YtabdffponmmhoaaGreatDoor
namespace Go.Proofs.YtabdffponmmhoaaGreatDoor
open Go.RowKit

/-- the slice value v owns the elements xs, in a row from base on -/
def Own {α : Type} (enc : α → List Value) (sz : Nat) (t : TypeId) (w : World) (base : Nat) (v : Value) (xs : List α) : Prop := w.ownsRow base t sz v xs.length (xs.flatMap enc)
section
variable {α : Type} {enc : α → List Value} {sz : Nat} {t : TypeId} {w w' : World} {base : Nat} {v : Value} {xs ys : List α}
theorem Own.nil (w : World) (base : Nat) : Own enc sz t w base (.slice none 0 0) [] := World.ownsRow_nil w base _ _
theorem Own.sl (hk : ∀ x, (enc x).length = sz) (h : Own enc sz t w base v xs) : ∃ A c, v = .slice A xs.length c ∧ SlAt w sz enc A xs ∧ xs.length ≤ c ∧ c ≤ maxLen ∧ ∀ q, A = some q → base ≤ q.block ∧ q.block < w.heap.size := by
  obtain ⟨hl, h | ⟨g, cap, cur, hv, hb, hcell, hn, hm, hs, ht⟩⟩ := h
  · have : xs = [] := List.length_eq_zero_iff.1 h.2
    subst this
    exact ⟨none, 0, h.1, SlAt.nil, Nat.le_refl _, Nat.zero_le _, fun q e => by cases e⟩
  · refine ⟨some ⟨g, 0, none⟩, cap, hv, fun _ => ⟨g, 0, rfl, (Array.getElem?_eq_some_iff.1 hcell).1, fun i x hi j u hj => ?_⟩, hn, hm, fun q e => by injection e with e; subst e; exact ⟨hb, (Array.getElem?_eq_some_iff.1 hcell).1⟩⟩
    have hfm := flatMap_at (enc := enc) (sz := sz) hk xs i x j u hi hj
    rw [← ht] at hfm
    rw [cell_of_row w g _ cur _ (0, 0) hcell, ← Array.getElem?_toList, Nat.zero_add]
    rw [List.getElem?_take] at hfm
    split at hfm
    · exact hfm
    · cases hfm
theorem Own.row (h : Own enc sz t w base v xs) : ∀ k, v.ownBlock = some k → base ≤ k ∧ k < w.heap.size := World.ownsRow.lt h
theorem Own.alloc (h : Own enc sz t w base v xs) (o : Obj) : Own enc sz t (w.alloc o) base v xs := World.ownsRow.alloc h o
theorem Own.kept {row : Option Nat} (h : Own enc sz t w base v xs) (hg : w.grownBy w' row) (hne : v.ownBlock = none ∨ v.ownBlock ≠ row) : Own enc sz t w' base v xs := World.ownsRow.kept h hg hne
theorem Ext.grown0 (hx : Ext w w') : w.grownBy w' none := ⟨hx.os, hx.tape, hx.output, hx.size, fun k hk _ => hx.block k hk⟩
theorem Own.ext (h : Own enc sz t w base v xs) (hx : Ext w w') : Own enc sz t w' base v xs :=
  h.kept hx.grown0 (by
    rcases hv : v.ownBlock with _ | k
    · exact .inl rfl
    · exact .inr (by simp))
theorem Own.ext' (hx : Ext w w') (h : Own enc sz t w base v xs) : Own enc sz t w' base v xs := h.ext hx
theorem Own.less {base' : Nat} (h : Own enc sz t w base v xs) (hb : base' ≤ base) : Own enc sz t w base' v xs :=
  ⟨h.1, h.2.imp id fun ⟨g, cap, cur, hv, hbb, rest⟩ => ⟨g, cap, cur, hv, Nat.le_trans hb hbb, rest⟩⟩
theorem Own.add (h : w.ownsRow base t sz v (xs.length + ys.length) (xs.flatMap enc ++ ys.flatMap enc)) : Own enc sz t w base v (xs ++ ys) := by
  unfold Own
  rw [List.length_append, List.flatMap_append]
  exact h
/-- a whole block -/
theorem Own.of_blk {g : Nat} {cs : Array Value} (h : Blk w g t cs) (hk : ∀ x, (enc x).length = sz) (hcs : cs.toList = xs.flatMap enc) (hb : base ≤ g) (hm : xs.length ≤ maxLen) : Own enc sz t w base (.slice (some ⟨g, 0, none⟩) xs.length xs.length) xs := by
  have hfl := flatMap_len hk xs
  refine ⟨hfl, .inr ⟨g, xs.length, cs, rfl, hb, h, Nat.le_refl _, hm, ?_, ?_⟩⟩
  · rw [← Array.length_toList, hcs, hfl]
  · rw [hcs, ← hfl, List.take_length]
/-- the row's own block -/
theorem Own.open_ (h : Own enc sz t w base v xs) (h0 : 0 < xs.length) : ∃ (g cap : Nat) (cur : Array Value), v = .slice (some ⟨g, 0, none⟩) xs.length cap ∧ base ≤ g ∧ Blk w g t cur ∧ xs.length ≤ cap ∧ cap ≤ maxLen ∧ cur.size = cap * sz ∧ cur.toList.take (xs.length * sz) = xs.flatMap enc := by
  rcases h.2 with ⟨_, e⟩ | ⟨g, cap, cur, a, b, c, d, e, f, k⟩
  · omega
  · exact ⟨g, cap, cur, a, b, c, d, e, f, k⟩
theorem SlAt.grown {A : Option Addr} {row : Option Nat} (h : SlAt w sz enc A xs) (hg : w.grownBy w' row) (hne : ∀ q, A = some q → some q.block ≠ row) : SlAt w' sz enc A xs := fun hn => by
  obtain ⟨b, off, e, hb, hc⟩ := h hn
  refine ⟨b, off, e, Nat.lt_of_lt_of_le hb hg.size, fun i x hi j u hj => ?_⟩
  exact (World.cell?_of_block (a := ⟨b, off + i * sz + j, none⟩) (hg.block b hb (hne _ e))).trans (hc i x hi j u hj)
theorem SlAt.drop {A : Option Addr} (h : SlAt w sz enc A xs) (k : Nat) (hk : k < xs.length) : ∃ b off, A = some ⟨b, off, none⟩ ∧ b < w.heap.size ∧ SlAt w sz enc (some ⟨b, off + k * sz, none⟩) (xs.drop k) := by
  obtain ⟨b, off, e, hb, hc⟩ := h (by omega)
  refine ⟨b, off, e, hb, fun _ => ⟨b, off + k * sz, rfl, hb, fun i x hi j u hj => ?_⟩⟩
  rw [List.getElem?_drop] at hi
  have := hc (k + i) x hi j u hj
  rw [Nat.add_mul] at this
  rw [← this]
  congr 2
  omega
end
theorem World.grownBy.ext {a w w' : World} {row : Option Nat} (hg : w.grownBy w' row) (hx : Ext a w) (hr : ∀ k, row = some k → a.heap.size ≤ k) : Ext a w' := hx.grown hg hr

/-- what is asked of the types of a slice and of its elements -/
structure ElT (P : Program) (ts te : TypeId) (sz by_ : Nat) : Prop where
  under : P.underlying ts = some (.slice te)
  info : ∃ i z, P.info? te = some i ∧ i.zero = some z ∧ i.size = sz ∧ i.bytes = by_ ∧ z.cells.size = sz
  pos : 0 < sz
theorem ElT.mk' {P : Program} {ts te : TypeId} {z : Value} {sz by_ : Nat} (hu : P.underlying ts = some (.slice te)) (h : (P.info? te).map (fun i => (i.zero, i.size, i.bytes)) = some (some z, sz, by_)) (hz : z.cells.size = sz) (h0 : 0 < sz) : ElT P ts te sz by_ := by
  obtain ⟨i, a, b, c, d⟩ := info_parts h
  exact ⟨hu, ⟨i, z, a, b, c, d, hz⟩, h0⟩
theorem wpList_run {P : Program} (w : World) {ops : Array Oper} {rest : List Oper} {o : Oper} {a : Act} {Q : Exit → Act → World → Prop} (hgd : o.guard = none) (s x : Operand) (t tn : TypeId)
    (ho : o.op = .call { callee := .builtin .append, args := #[s, x], argTypes := #[t, tn] }) (vs vx : Value) (hs : a.eval s = vs) (hx : a.eval x = vx)
    (v' : Value) (w' : World) (hr : (Builtin.append_ #[t, tn] o.type #[vs, vx]).run P w = .ok v' w') (h : wpList P ops Q rest (a.put o.dst v') w') : wpList P ops Q (o :: rest) a w :=
  Lib.wpList_append_run w hgd s x t tn ho vs vx hs hx v' w' hr h
section
variable {α : Type} {enc : α → List Value} {sz by_ : Nat} {ts te : TypeId} {P : Program}
/-- append of what reads as a list, onto a row of the call's own -/
theorem run_append_sl (H : ElT P ts te sz by_) (ty : TypeId) (hk : ∀ x, (enc x).length = sz) (h1 : ∀ x, ∀ u ∈ enc x, u.oneCell' = true) {w : World} {base : Nat} {v : Value} {ys : List α} (hown : Own enc sz te w base v ys)
    {A : Option Addr} {c : Nat} {xs : List α} (hsl : SlAt w sz enc A xs) (h63 : ys.length + xs.length ≤ maxLen) (hbytes : (ys.length + xs.length) * by_ ≤ 140737488355328) (hbase : base ≤ w.heap.size) :
    ∃ v' w', (Builtin.append_ #[ts, ts] ty #[v, .slice A xs.length c]).run P w = .ok v' w' ∧ Own enc sz te w' base v' (ys ++ xs) ∧ w.grownBy w' v.ownBlock ∧ (v' = .slice none 0 0 ↔ v = .slice none 0 0 ∧ xs = []) := by
  obtain ⟨hu, ⟨i, z, hi, hz, hs, hb, hzs⟩, h0⟩ := H
  have hfl := flatMap_len hk xs
  have hone : ∀ u ∈ xs.flatMap enc, u.oneCell' = true := fun u hu => by
    obtain ⟨x, _, hx⟩ := List.mem_flatMap.1 hu
    exact h1 x u hx
  have hnil : xs.length = 0 ↔ xs = [] := List.length_eq_zero_iff
  rcases A with _ | ad
  · have hx0 : xs = [] := by
      rcases xs with _ | ⟨x, xs⟩
      · rfl
      · obtain ⟨_, _, e, _⟩ := hsl (by simp); cases e
    subst hx0
    refine ⟨v, w, ?_, by simpa using hown, World.grownBy.refl w _, by simp⟩
    rcases hown.2 with ⟨rfl, hl0⟩ | ⟨g, cap, cur, rfl, _, _, hnc, _⟩
    · simp [Builtin.append_, run_underlying hu, sizeOf, typeInfo, hi, Builtin.lenOf, Builtin.firstCells]
    · simp [Builtin.append_, run_underlying hu, sizeOf, typeInfo, hi, Builtin.lenOf, Builtin.firstCells, hnc, storeCells]
  · have hcells : ∀ j u, (xs.flatMap enc)[j]? = some u → w.cell? (ad.add j) = some u := fun j u hj => by
      have hj' : j < xs.length * sz := by rw [← hfl]; exact (List.getElem?_eq_some_iff.1 hj).1
      have hx0 : 0 < xs.length := by
        rcases Nat.eq_zero_or_pos xs.length with e | e
        · rw [e] at hj'; omega
        · exact e
      obtain ⟨b, off, e, _, hc⟩ := hsl hx0
      injection e with e
      subst e
      have hq : j / sz < xs.length := Nat.div_lt_of_lt_mul (by rw [Nat.mul_comm]; exact hj')
      have hm : j % sz < sz := Nat.mod_lt _ h0
      have hdm : j / sz * sz + j % sz = j := by rw [Nat.mul_comm]; exact Nat.div_add_mod j sz
      have hlen : j % sz < (enc xs[j / sz]).length := by rw [hk]; exact hm
      have ha := flatMap_at hk xs (j / sz) xs[j / sz] (j % sz) _ (List.getElem?_eq_getElem hq) (List.getElem?_eq_getElem hlen)
      rw [hdm, hj] at ha
      have hcc := hc (j / sz) xs[j / sz] (List.getElem?_eq_getElem hq) (j % sz) _ (List.getElem?_eq_getElem hlen)
      rw [Nat.add_assoc, hdm] at hcc
      injection ha with ha
      rw [ha, ← hcc]
      unfold Addr.add
      split
      · rename_i hz; subst hz; rfl
      · rfl
    obtain ⟨v', w', a1, a2, a3, a4⟩ := run_append_own w base ts ty te i z sz by_ hu hi hz hs hb hzs h0 v ys.length (ys.flatMap enc) hown ad xs.length c (xs.flatMap enc) hfl hcells hone h63 hbytes hbase
    exact ⟨v', w', a1, Own.add a2, a3, by rw [a4, hnil]⟩
theorem wpList_append_sl (H : ElT P ts te sz by_) (hk : ∀ x, (enc x).length = sz) (h1 : ∀ x, ∀ u ∈ enc x, u.oneCell' = true) {w : World} {ops : Array Oper} {rest : List Oper} {o : Oper} {a : Act} {Q : Exit → Act → World → Prop} (hgd : o.guard = none) (s x : Operand)
    (ho : o.op = .call { callee := .builtin .append, args := #[s, x], argTypes := #[ts, ts] }) {base : Nat} {v : Value} {ys : List α} (hs : a.eval s = v) (hown : Own enc sz te w base v ys)
    {A : Option Addr} {c : Nat} {xs : List α} (hx : a.eval x = .slice A xs.length c) (hsl : SlAt w sz enc A xs) (h63 : ys.length + xs.length ≤ maxLen) (hbytes : (ys.length + xs.length) * by_ ≤ 140737488355328) (hbase : base ≤ w.heap.size)
    (h : ∀ v' w', Own enc sz te w' base v' (ys ++ xs) → w.grownBy w' v.ownBlock → (v' = .slice none 0 0 ↔ v = .slice none 0 0 ∧ xs = []) → wpList P ops Q rest (a.put o.dst v') w') : wpList P ops Q (o :: rest) a w := by
  obtain ⟨v', w', a1, a2, a3, a4⟩ := run_append_sl H o.type hk h1 hown (c := c) hsl h63 hbytes hbase
  exact wpList_run w hgd s x ts ts ho _ _ hs hx v' w' a1 (h v' w' a2 a3 a4)
theorem wp_append_sl (H : ElT P ts te sz by_) (hk : ∀ x, (enc x).length = sz) (h1 : ∀ x, ∀ u ∈ enc x, u.oneCell' = true) {w : World} {o : Oper} {a : Act} {K : Act → World → Prop} {Q : Exit → Act → World → Prop} (s x : Operand)
    (ho : o.op = .call { callee := .builtin .append, args := #[s, x], argTypes := #[ts, ts] }) {base : Nat} {v : Value} {ys : List α} (hs : a.eval s = v) (hown : Own enc sz te w base v ys)
    {A : Option Addr} {c : Nat} {xs : List α} (hx : a.eval x = .slice A xs.length c) (hsl : SlAt w sz enc A xs) (h63 : ys.length + xs.length ≤ maxLen) (hbytes : (ys.length + xs.length) * by_ ≤ 140737488355328) (hbase : base ≤ w.heap.size)
    (h : ∀ v' w', Own enc sz te w' base v' (ys ++ xs) → w.grownBy w' v.ownBlock → (v' = .slice none 0 0 ↔ v = .slice none 0 0 ∧ xs = []) → K (a.put o.dst v') w') : o.wp P a w K Q := by
  obtain ⟨v', w', a1, a2, a3, a4⟩ := run_append_sl H o.type hk h1 hown (c := c) hsl h63 hbytes hbase
  exact Lib.wp_append_run w s x ts ts ho _ _ hs hx v' w' a1 (h v' w' a2 a3 a4)
/-- at a step of a region that draws its order -/
theorem step_append_sl (H : ElT P ts te sz by_) (hk : ∀ x, (enc x).length = sz) (h1 : ∀ x, ∀ u ∈ enc x, u.oneCell' = true) {w : World} {ops : Array Oper} {o : Oper} {a : Act} {K : Act → World → Prop} {Q : Exit → Act → World → Prop} {E : Prop} (hgd : o.guard = none) (s x : Operand)
    (ho : o.op = .call { callee := .builtin .append, args := #[s, x], argTypes := #[ts, ts] }) {base : Nat} {v : Value} {ys : List α} (hs : a.eval s = v) (hown : Own enc sz te w base v ys)
    {A : Option Addr} {c : Nat} {xs : List α} (hx : a.eval x = .slice A xs.length c) (hsl : SlAt w sz enc A xs) (h63 : ys.length + xs.length ≤ maxLen) (hbytes : (ys.length + xs.length) * by_ ≤ 140737488355328) (hbase : base ≤ w.heap.size)
    (h : ∀ v' w', Own enc sz te w' base v' (ys ++ xs) → w.grownBy w' v.ownBlock → (v' = .slice none 0 0 ↔ v = .slice none 0 0 ∧ xs = []) → K (a.put o.dst v') w') :
    if Region.wanted o (yielded ops a.tmps) = true then Oper.wp P o a w K Q else E := by
  have hw : Region.wanted o (yielded ops a.tmps) = true := by simp [Region.wanted, hgd]
  rw [if_pos hw]
  exact wp_append_sl H hk h1 s x ho hs hown hx hsl h63 hbytes hbase h
/-- append(nil, make([]T, n)...) -/
theorem run_append_zeros (H : ElT P ts te sz by_) {tn : TypeId} {kn : IntKind} (htn : P.underlying tn = some (.int kn)) (ty : TypeId) (w : World) (k : IntKind) (n : Nat) (h0 : 0 < n) (h63 : (n : Int) ≤ 9223372036854775807) (h48 : n * by_ ≤ 281474976710656) :
    ∃ c cs, (Builtin.append_ #[ts, tn] ty #[.slice none 0 0, .int k n]).run P w = .ok (.slice (some ⟨w.heap.size, 0, none⟩) n c) (w.drew.alloc (.cells cs te)) ∧ cs.size = c * sz ∧ n ≤ c ∧ (n ≤ maxLen → c ≤ maxLen) := by
  obtain ⟨hu, ⟨i, z, hi, hz, hs, hb, hzs⟩, hp⟩ := H
  have hge := grownCap_ge w n 0 te
  refine ⟨_, _, Lib.run_append_nil_zeros w ts tn ty te i z k kn hu htn hi hz n h0 (by omega) h63 (by rw [hb]; exact h48), ?_, hge, fun hm => grownCap_le_maxLen w n 0 te hm⟩
  rw [Array.size_append, size_zeroCells, size_zeroCells, hzs, ← Nat.add_mul]
  congr 1
  omega
theorem wpList_zeros (H : ElT P ts te sz by_) {tn : TypeId} {kn : IntKind} (htn : P.underlying tn = some (.int kn)) {w : World} {ops : Array Oper} {rest : List Oper} {o : Oper} {a : Act} {Q : Exit → Act → World → Prop} (hgd : o.guard = none) (s x : Operand)
    (ho : o.op = .call { callee := .builtin .append, args := #[s, x], argTypes := #[ts, tn] }) (hs : a.eval s = .slice none 0 0) {k : IntKind} {n : Nat} (hx : a.eval x = .int k n) (h0 : 0 < n) (h63 : n ≤ 1048576) (hby : by_ ≤ 1024)
    (h : ∀ c cs, cs.size = c * sz → n ≤ c → Hid (c ≤ maxLen) → wpList P ops Q rest (a.put o.dst (.slice (some ⟨w.heap.size, 0, none⟩) n c)) (w.drew.alloc (.cells cs te))) : wpList P ops Q (o :: rest) a w := by
  have hb : n * by_ ≤ 281474976710656 := Nat.le_trans (Nat.mul_le_mul h63 hby) (by omega)
  obtain ⟨c, cs, hr, h1, h2, h3⟩ := run_append_zeros H htn o.type w k n h0 (by omega) hb
  exact wpList_run w hgd s x ts tn ho _ _ hs hx _ _ hr (h c cs h1 h2 (Lib.hid (h3 (by unfold maxLen; omega))))
end
end Go.Proofs.YtabdffponmmhoaaGreatDoor
namespace Go.Proofs.YtabdffponmmhoaaGreatDoor
open Go.RowKit
attribute [local go_sem] ExtOf.cell ExtOf.frozen







def encB (b : Int) : List Value := [.int .u8 b]
/-- w' is w with new blocks behind; of the old ones only g may have turned -/
structure But (g : Nat) (w w' : World) : Prop where
  os : w'.os = w.os
  tape : w'.tape = w.tape
  output : w'.output = w.output
  size : w.heap.size ≤ w'.heap.size
  block : ∀ k, k < w.heap.size → k ≠ g → w'.heap[k]? = w.heap[k]?
theorem But.refl (g : Nat) (w : World) : But g w w := ⟨rfl, rfl, rfl, Nat.le_refl _, fun _ _ _ => rfl⟩
theorem But.trans {g : Nat} {a b c : World} (h : But g a b) (k : But g b c) : But g a c :=
  ⟨k.os.trans h.os, k.tape.trans h.tape, k.output.trans h.output, Nat.le_trans h.size k.size, fun i hi hg => (k.block i (Nat.lt_of_lt_of_le hi h.size) hg).trans (h.block i hi hg)⟩
theorem But.of {g : Nat} {a b : World} (h : Ext a b) : But g a b := ⟨h.os, h.tape, h.output, h.size, fun k hk _ => h.block k hk⟩
theorem But.alloc {g : Nat} {a w : World} (h : But g a w) (o : Obj) : But g a (w.alloc o) := h.trans (.of ((Ext.refl _).alloc o))
theorem But.drew {g : Nat} {a w : World} (h : But g a w) : But g a w.drew := h.trans (.of (Ext.refl _).drew)
theorem But.drewN {g : Nat} {a w : World} (h : But g a w) (n : Nat) : But g a (w.drewN n) := h.trans (.of ((Ext.refl _).drewN n))
theorem But.set_ {g : Nat} {a w : World} (h : But g a w) (i : Nat) (u : Value) : But g a (w.setCell ⟨g, i, none⟩ u) :=
  h.trans ⟨rfl, rfl, rfl, by simp [World.setCell], fun k _ hk => Below.heap_setCell _ _ _ _ hk⟩
theorem But.new {g : Nat} {a w : World} {p : Addr} (hp : a.heap.size ≤ p.block) (h : But g a w) (u : Value) : But g a (w.setCell p u) :=
  ⟨h.os, h.tape, h.output, by simpa [World.setCell] using h.size, fun k hk hg => (Below.heap_setCell _ _ _ _ (by omega)).trans (h.block k hk hg)⟩
theorem But.rules {g : Nat} {a w : World} (h : But g a w) : (∀ b o, b < a.heap.size → ¬ b = g → w.cell? ⟨b, o, none⟩ = a.cell? ⟨b, o, none⟩) ∧ (∀ b o, b < a.heap.size → ¬ b = g → w.frozen? ⟨b, o, none⟩ = a.frozen? ⟨b, o, none⟩) :=
  ⟨fun b _ hb hg => World.cell?_of_block (h.block b hb hg), fun b _ hb hg => World.frozen?_of_block (h.block b hb hg)⟩
theorem But.ext {g : Nat} {a w w' : World} (h : But g w w') (hx : Ext a w) (hg : a.heap.size ≤ g) : Ext a w' :=
  ⟨h.os.trans hx.os, h.tape.trans hx.tape, h.output.trans hx.output, Nat.le_trans hx.size h.size, fun k hk => (h.block k (Nat.lt_of_lt_of_le hk hx.size) (by omega)).trans (hx.block k hk)⟩
theorem Blk.but' {g q : Nat} {t : TypeId} {cs : Array Value} {w w' : World} (h : But q w w') (hg : ¬ g = q) (hB : Blk w g t cs) : Blk w' g t cs := (h.block g hB.lt hg).trans hB
/-- g is a source of numbers over the code bs, made after a -/
structure Src (a : World) (A : Option Addr) (c : Nat) (bs : List Int) (g : Nat) (w : World) : Prop where
  ext : Ext a w
  own : a.heap.size ≤ g
  code : SlAt a 1 encB A bs
  byt : ∀ b ∈ bs, 0 ≤ b ∧ b ≤ 255
  len : bs.length ≤ 4096
  blk : ∃ (k : Nat) (seed : Int), k ≤ bs.length ∧ 0 ≤ seed ∧ seed < 2147483647 ∧ Blk w g 104 #[.slice A bs.length c, .int .i64 k, .int .i64 seed]
section
variable {a w w' : World} {A : Option Addr} {c : Nat} {bs : List Int} {g : Nat}
theorem Src.lt (h : Src a A c bs g w) : g < w.heap.size := by
  obtain ⟨_, _, _, _, _, hB⟩ := h.blk
  exact hB.lt
theorem Src.on (h : Src a A c bs g w) (hx : Ext w w') : Src a A c bs g w' := by
  obtain ⟨k, s, h1, h2, h3, hB⟩ := h.blk
  exact ⟨h.ext.trans hx, h.own, h.code, h.byt, h.len, k, s, h1, h2, h3, hB.ext hx⟩
theorem Src.on' (hx : Ext w w') (h : Src a A c bs g w) : Src a A c bs g w' := h.on hx
theorem Src.alloc (h : Src a A c bs g w) (o : Obj) : Src a A c bs g (w.alloc o) := h.on ((Ext.refl _).alloc o)
theorem Src.drew (h : Src a A c bs g w) : Src a A c bs g w.drew := h.on (Ext.refl _).drew
theorem Src.drewN (h : Src a A c bs g w) (n : Nat) : Src a A c bs g (w.drewN n) := h.on ((Ext.refl _).drewN n)
theorem Src.far {p : Addr} (hp : ¬ g = p.block) (hq : a.heap.size ≤ p.block) (h : Src a A c bs g w) (u : Value) : Src a A c bs g (w.setCell p u) := by
  obtain ⟨k, s, h1, h2, h3, hB⟩ := h.blk
  exact ⟨h.ext.setCell hq u, h.own, h.code, h.byt, h.len, k, s, h1, h2, h3, hB.far hp u⟩
end
theorem SlAt.byt {w : World} {A : Option Addr} {bs : List Int} (h : SlAt w 1 encB A bs) {k : Nat} (hk : k < bs.length) (hb : ∀ b ∈ bs, 0 ≤ b ∧ b ≤ 255) :
    ∃ b off y, A = some ⟨b, off, none⟩ ∧ b < w.heap.size ∧ w.cell? ⟨b, off + k, none⟩ = some (.int .u8 y) ∧ 0 ≤ y ∧ y ≤ 255 := by
  obtain ⟨b, off, e, hB, hc⟩ := h (by omega)
  have hg : bs[k]? = some bs[k] := List.getElem?_eq_getElem hk
  have := hb bs[k] (List.getElem_mem hk)
  exact ⟨b, off, bs[k], e, hB, by simpa using hc k _ hg 0 _ rfl, this.1, this.2⟩

set_option maxHeartbeats 1600000 in
theorem s_l01From (A : Option Addr) (c : Nat) (bs : List Int) (w : World) (h : SlAt w 1 encB A bs) (hb : ∀ b ∈ bs, 0 ≤ b ∧ b ≤ 255) (hl : bs.length ≤ 4096) :
    Calls Tryz.prog 47 #[.slice A bs.length c] w fun e w' => ∃ g, e = .returned (.pointer (some ⟨g, 0, none⟩)) ∧ Src w A c bs g w' := by
  have HB := Lib.hid hb
  clear hb
  go_enter Tryz.func47, Tryz.ntmps47
  go_wp2
  go_loopw [4] (fun i wr => ∃ (k : Nat) (seed : Int), k ≤ bs.length ∧ 0 ≤ seed ∧ seed < 2147483647 ∧ i = .int .i64 k ∧ Blk wr w.heap.size 104 #[.slice A bs.length c, .int .i64 0, .int .i64 seed] ∧ Ext w wr) (fun i _ => bs.length - (intOf i).toNat)
  case atStart => exact ⟨0, 51031, by omega, by omega, by omega, rfl, Blk.eq (by (repeat (first | with_reducible assumption | ((with_reducible apply Blk.new); solve | simp | rfl) | with_reducible apply Blk.drew | with_reducible apply Blk.drewN | ((with_reducible apply Blk.far'); solve | omega | simp | (simp; omega)) | with_reducible apply Blk.set_ | with_reducible apply Blk.alloc | ((with_reducible apply Blk.ext'); with_reducible assumption) | ((with_reducible apply Blk.but'); (with_reducible assumption); solve | omega | (simp; omega))))) (by rfl), by (repeat (first | with_reducible exact Ext.refl _ | with_reducible assumption | ((with_reducible apply Src.ext); with_reducible assumption) | with_reducible refine Ext.alloc ?_ _ | with_reducible refine Ext.drew ?_ | with_reducible refine Ext.drewN ?_ _ | ((with_reducible refine Ext.setCell' ?_ ?_ _); solve | omega | simp | (simp; omega)) | (with_reducible refine Ext.trans ?_ (by with_reducible assumption))))⟩
  case round =>
    obtain ⟨k, seed, hk, hs0, hs1, rfl, hB, hxr⟩ := hrel
    have f2 : wr.cell? ⟨w.heap.size, 2, none⟩ = some (.int .i64 seed) := hB.cell 2
    have z2 := hB.frozen 2
    have zlt := hB.lt
    by_cases hlt : k < bs.length
    · by_cases h64 : (k : Int) < 64
      · obtain ⟨b, off, y, rfl, hbw, hc, hy0, hy1⟩ := (h.ext hxr).byt hlt HB.out
        go_wp2
        go_region
        go_wp2
        go_roundw
        case rel => exact ⟨k + 1, (seed * 73 + y) % 2147483647, by omega, by omega, by omega, by go_num, Blk.eq (by (repeat (first | with_reducible assumption | ((with_reducible apply Blk.new); solve | simp | rfl) | with_reducible apply Blk.drew | with_reducible apply Blk.drewN | ((with_reducible apply Blk.far'); solve | omega | simp | (simp; omega)) | with_reducible apply Blk.set_ | with_reducible apply Blk.alloc | ((with_reducible apply Blk.ext'); with_reducible assumption) | ((with_reducible apply Blk.but'); (with_reducible assumption); solve | omega | (simp; omega))))) (by rfl), by (repeat (first | with_reducible exact Ext.refl _ | with_reducible assumption | ((with_reducible apply Src.ext); with_reducible assumption) | with_reducible refine Ext.alloc ?_ _ | with_reducible refine Ext.drew ?_ | with_reducible refine Ext.drewN ?_ _ | ((with_reducible refine Ext.setCell' ?_ ?_ _); solve | omega | simp | (simp; omega)) | (with_reducible refine Ext.trans ?_ (by with_reducible assumption))))⟩
        case measure => simp [intOf]; omega
      · go_wp2
        go_ret
        exact ⟨_, rfl, hxr, Nat.le_refl _, h, HB.out, hl, 0, seed, by omega, hs0, hs1, hB⟩
    · go_wp2
      go_ret
      exact ⟨_, rfl, hxr, Nat.le_refl _, h, HB.out, hl, 0, seed, by omega, hs0, hs1, hB⟩

set_option maxHeartbeats 3200000 in
theorem s_l01Next {a : World} {A : Option Addr} {c : Nat} {bs : List Int} {g : Nat} (n : Int) (w : World) (h : Src a A c bs g w) (hn : n ≤ 1000000000000) :
    Calls Tryz.prog 48 #[.pointer (some ⟨g, 0, none⟩), .int .i64 n] w fun e w' => ∃ x : Int, e = .returned (.int .i64 x) ∧ (0 ≤ x ∧ (x < n ∨ x = 0)) ∧ Src a A c bs g w' ∧ But g w w' := by
  by_cases h1 : n ≤ 1
  · go_enter Tryz.func48, Tryz.ntmps48
    go_wp2
    go_ret
    exact ⟨0, rfl, by omega, by (repeat (first | with_reducible assumption | with_reducible refine Src.alloc ?_ _ | with_reducible refine Src.drew ?_ | with_reducible refine Src.drewN ?_ _ | ((with_reducible refine Src.far ?_ ?_ ?_ _); (solve | omega | (simp; omega) | simp); (solve | omega | (simp; omega) | simp)) | ((with_reducible apply Src.on'); with_reducible assumption))), by (repeat (first | with_reducible exact But.refl _ _ | with_reducible assumption | with_reducible refine But.alloc ?_ _ | with_reducible refine But.drew ?_ | with_reducible refine But.drewN ?_ _ | with_reducible refine But.set_ ?_ _ _ | ((with_reducible refine But.new ?_ ?_ _); solve | omega | simp | (simp; omega)) | (with_reducible refine But.trans ?_ (by with_reducible assumption)) | (with_reducible refine But.trans ?_ (But.of (by with_reducible assumption)))))⟩
  · obtain ⟨hx, hg, hcode, hb, hl, k, seed, hk, hs0, hs1, hB⟩ := h
    have HB := Lib.hid hb
    clear hb
    have f0 : w.cell? ⟨g, 0, none⟩ = some (.slice A bs.length c) := hB.cell 0
    have f1 : w.cell? ⟨g, 1, none⟩ = some (.int .i64 k) := hB.cell 1
    have f2 : w.cell? ⟨g, 2, none⟩ = some (.int .i64 seed) := hB.cell 2
    have z1 := hB.frozen 1
    have z2 := hB.frozen 2
    have zlt := hB.lt
    by_cases hlt : k < bs.length
    · obtain ⟨b, off, y, rfl, hbw, hc0, hy0, hy1⟩ := hcode.byt hlt HB.out
      have hc := (hx.cell b (off + k) hbw).trans hc0
      have hbr := Nat.lt_of_lt_of_le hbw hx.size
      have n1 : ¬ b = g := by omega
      have n2 : ¬ g = b := by omega
      clear hc0
      go_enter Tryz.func48, Tryz.ntmps48
      go_wp2
      repeat (go_quiet (fail); go_wp2)
      all_goals (go_ret; exact ⟨_, rfl, ⟨Int.emod_nonneg _ (by omega), Or.inl (Int.emod_lt_of_pos _ (by omega))⟩, ⟨by (repeat (first | with_reducible exact Ext.refl _ | with_reducible assumption | ((with_reducible apply Src.ext); with_reducible assumption) | with_reducible refine Ext.alloc ?_ _ | with_reducible refine Ext.drew ?_ | with_reducible refine Ext.drewN ?_ _ | ((with_reducible refine Ext.setCell' ?_ ?_ _); solve | omega | simp | (simp; omega)) | (with_reducible refine Ext.trans ?_ (by with_reducible assumption)))), hg, hcode, HB.out, hl, k + 1, (seed * 48271 + 29) % 2147483647, by omega, by omega, by omega, Blk.eq (by (repeat (first | with_reducible assumption | ((with_reducible apply Blk.new); solve | simp | rfl) | with_reducible apply Blk.drew | with_reducible apply Blk.drewN | ((with_reducible apply Blk.far'); solve | omega | simp | (simp; omega)) | with_reducible apply Blk.set_ | with_reducible apply Blk.alloc | ((with_reducible apply Blk.ext'); with_reducible assumption) | ((with_reducible apply Blk.but'); (with_reducible assumption); solve | omega | (simp; omega))))) (by rfl)⟩, by (repeat (first | with_reducible exact But.refl _ _ | with_reducible assumption | with_reducible refine But.alloc ?_ _ | with_reducible refine But.drew ?_ | with_reducible refine But.drewN ?_ _ | with_reducible refine But.set_ ?_ _ _ | ((with_reducible refine But.new ?_ ?_ _); solve | omega | simp | (simp; omega)) | (with_reducible refine But.trans ?_ (by with_reducible assumption)) | (with_reducible refine But.trans ?_ (But.of (by with_reducible assumption)))))⟩)
    · go_enter Tryz.func48, Tryz.ntmps48
      go_wp2
      repeat (go_quiet (fail); go_wp2)
      all_goals (go_ret; exact ⟨_, rfl, ⟨Int.emod_nonneg _ (by omega), Or.inl (Int.emod_lt_of_pos _ (by omega))⟩, ⟨by (repeat (first | with_reducible exact Ext.refl _ | with_reducible assumption | ((with_reducible apply Src.ext); with_reducible assumption) | with_reducible refine Ext.alloc ?_ _ | with_reducible refine Ext.drew ?_ | with_reducible refine Ext.drewN ?_ _ | ((with_reducible refine Ext.setCell' ?_ ?_ _); solve | omega | simp | (simp; omega)) | (with_reducible refine Ext.trans ?_ (by with_reducible assumption)))), hg, hcode, HB.out, hl, k, (seed * 48271 + 29) % 2147483647, by omega, by omega, by omega, Blk.eq (by (repeat (first | with_reducible assumption | ((with_reducible apply Blk.new); solve | simp | rfl) | with_reducible apply Blk.drew | with_reducible apply Blk.drewN | ((with_reducible apply Blk.far'); solve | omega | simp | (simp; omega)) | with_reducible apply Blk.set_ | with_reducible apply Blk.alloc | ((with_reducible apply Blk.ext'); with_reducible assumption) | ((with_reducible apply Blk.but'); (with_reducible assumption); solve | omega | (simp; omega))))) (by rfl)⟩, by (repeat (first | with_reducible exact But.refl _ _ | with_reducible assumption | with_reducible refine But.alloc ?_ _ | with_reducible refine But.drew ?_ | with_reducible refine But.drewN ?_ _ | with_reducible refine But.set_ ?_ _ _ | ((with_reducible refine But.new ?_ ?_ _); solve | omega | simp | (simp; omega)) | (with_reducible refine But.trans ?_ (by with_reducible assumption)) | (with_reducible refine But.trans ?_ (But.of (by with_reducible assumption)))))⟩)

def encI (b : Int) : List Value := [.int .i64 b]
theorem SlAt.num {w : World} {b off : Nat} {xs : List Int} (h : SlAt w 1 encI (some ⟨b, off, none⟩) xs) {k : Nat} (hk : k < xs.length) : w.cell? ⟨b, off + k, none⟩ = some (.int .i64 xs[k]) := by
  obtain ⟨b', off', e, _, hc⟩ := h (by omega)
  injection e with e
  injection e with e1 e2
  subst e1 e2
  simpa using hc k _ (List.getElem?_eq_getElem hk) 0 _ rfl
set_option maxHeartbeats 1600000 in
theorem s_l01Pick {a : World} {A : Option Addr} {c : Nat} {bs : List Int} {g : Nat} (b off cc : Nat) (xs : List Int) (w : World) (h : Src a A c bs g w) (hx : SlAt w 1 encI (some ⟨b, off, none⟩) xs) (h0 : 0 < xs.length) (hl : xs.length ≤ 1000000) (hb : b < w.heap.size) (hg : ¬ b = g) :
    Calls Tryz.prog 107 #[.pointer (some ⟨g, 0, none⟩), .slice (some ⟨b, off, none⟩) xs.length cc] w fun e w' => ∃ x : Int, e = .returned (.int .i64 x) ∧ x ∈ xs ∧ Src a A c bs g w' ∧ But g w w' := by
  go_enter Tryz.func107, Tryz.ntmps107
  (go_wp2_with fail; refine (s_l01Next (a := a) (A := A) (c := c) (bs := bs) _ _ (by (repeat (first | with_reducible assumption | with_reducible refine Src.alloc ?_ _ | with_reducible refine Src.drew ?_ | with_reducible refine Src.drewN ?_ _ | ((with_reducible refine Src.far ?_ ?_ ?_ _); (solve | omega | (simp; omega) | simp); (solve | omega | (simp; omega) | simp)) | ((with_reducible apply Src.on'); with_reducible assumption)))) (by omega)).mono ?_; rintro e w1 ⟨x1, rfl, hb1, hS1, hu1⟩; obtain ⟨hc1, hf1⟩ := hu1.rules; have hs1 := hu1.size; (try simp at hs1); have := (show b < w1.heap.size from by omega))
  obtain ⟨k, rfl⟩ := Int.eq_ofNat_of_zero_le hb1.1
  have hk : k < xs.length := by omega
  have hcell := hx.num hk
  go_wp2
  go_ret
  exact ⟨xs[k], rfl, List.getElem_mem hk, by (repeat (first | with_reducible assumption | with_reducible refine Src.alloc ?_ _ | with_reducible refine Src.drew ?_ | with_reducible refine Src.drewN ?_ _ | ((with_reducible refine Src.far ?_ ?_ ?_ _); (solve | omega | (simp; omega) | simp); (solve | omega | (simp; omega) | simp)) | ((with_reducible apply Src.on'); with_reducible assumption))), by (repeat (first | with_reducible exact But.refl _ _ | with_reducible assumption | with_reducible refine But.alloc ?_ _ | with_reducible refine But.drew ?_ | with_reducible refine But.drewN ?_ _ | with_reducible refine But.set_ ?_ _ _ | ((with_reducible refine But.new ?_ ?_ _); solve | omega | simp | (simp; omega)) | (with_reducible refine But.trans ?_ (by with_reducible assumption)) | (with_reducible refine But.trans ?_ (But.of (by with_reducible assumption)))))⟩
theorem ret_pts1 {P : Program} {fn : Func} {R : Ending → World → Prop} {a : Act} {W : World} {b0 : Nat} {t : TypeId} {x0 x1 v : Value} (h0 : Blk W b0 t #[x0, x1]) (hd : a.defers = [])
    (hres : ∀ W' : World, W'.cell? ⟨b0, 0, none⟩ = some x0 → W'.cell? ⟨b0, 1, none⟩ = some x1 → (results fn a.tmps).run P W' = .ok v W') (hR : R (.returned v) W) : bodyPost P fn R .ret a W :=
  bodyPost_ret (hres W (h0.cell 0) (h0.cell 1)) hd hR
theorem ret_pts2 {P : Program} {fn : Func} {R : Ending → World → Prop} {a : Act} {W : World} {b0 b1 : Nat} {t : TypeId} {x0 x1 y0 y1 v : Value} (h0 : Blk W b0 t #[x0, x1]) (h1 : Blk W b1 t #[y0, y1]) (hd : a.defers = [])
    (hres : ∀ W' : World, W'.cell? ⟨b0, 0, none⟩ = some x0 → W'.cell? ⟨b0, 1, none⟩ = some x1 → W'.cell? ⟨b1, 0, none⟩ = some y0 → W'.cell? ⟨b1, 1, none⟩ = some y1 → (results fn a.tmps).run P W' = .ok v W') (hR : R (.returned v) W) : bodyPost P fn R .ret a W :=
  bodyPost_ret (hres W (h0.cell 0) (h0.cell 1) (h1.cell 0) (h1.cell 1)) hd hR
theorem ret_pts3 {P : Program} {fn : Func} {R : Ending → World → Prop} {a : Act} {W : World} {b0 b1 b2 : Nat} {t : TypeId} {x0 x1 y0 y1 z0 z1 v : Value} (h0 : Blk W b0 t #[x0, x1]) (h1 : Blk W b1 t #[y0, y1]) (h2 : Blk W b2 t #[z0, z1]) (hd : a.defers = [])
    (hres : ∀ W' : World, W'.cell? ⟨b0, 0, none⟩ = some x0 → W'.cell? ⟨b0, 1, none⟩ = some x1 → W'.cell? ⟨b1, 0, none⟩ = some y0 → W'.cell? ⟨b1, 1, none⟩ = some y1 → W'.cell? ⟨b2, 0, none⟩ = some z0 → W'.cell? ⟨b2, 1, none⟩ = some z1 → (results fn a.tmps).run P W' = .ok v W') (hR : R (.returned v) W) : bodyPost P fn R .ret a W :=
  bodyPost_ret (hres W (h0.cell 0) (h0.cell 1) (h1.cell 0) (h1.cell 1) (h2.cell 0) (h2.cell 1)) hd hR
theorem ret_pts4 {P : Program} {fn : Func} {R : Ending → World → Prop} {a : Act} {W : World} {b0 b1 b2 b3 : Nat} {t : TypeId} {x0 x1 y0 y1 z0 z1 u0 u1 v : Value} (h0 : Blk W b0 t #[x0, x1]) (h1 : Blk W b1 t #[y0, y1]) (h2 : Blk W b2 t #[z0, z1]) (h3 : Blk W b3 t #[u0, u1]) (hd : a.defers = [])
    (hres : ∀ W' : World, W'.cell? ⟨b0, 0, none⟩ = some x0 → W'.cell? ⟨b0, 1, none⟩ = some x1 → W'.cell? ⟨b1, 0, none⟩ = some y0 → W'.cell? ⟨b1, 1, none⟩ = some y1 → W'.cell? ⟨b2, 0, none⟩ = some z0 → W'.cell? ⟨b2, 1, none⟩ = some z1 → W'.cell? ⟨b3, 0, none⟩ = some u0 → W'.cell? ⟨b3, 1, none⟩ = some u1 → (results fn a.tmps).run P W' = .ok v W') (hR : R (.returned v) W) : bodyPost P fn R .ret a W :=
  bodyPost_ret (hres W (h0.cell 0) (h0.cell 1) (h1.cell 0) (h1.cell 1) (h2.cell 0) (h2.cell 1) (h3.cell 0) (h3.cell 1)) hd hR

end Go.Proofs.YtabdffponmmhoaaGreatDoor
namespace Go.Proofs.YtabdffponmmhoaaGreatDoor
open Go.RowKit
attribute [local go_sem] ExtOf.cell ExtOf.frozen








theorem Src.base {w a wk : World} {A : Option Addr} {c : Nat} {bs : List Int} {g : Nat} (h : Src a A c bs g wk) (hx : Ext w a) (hc : SlAt w 1 encB A bs) : Src w A c bs g wk :=
  ⟨hx.trans h.ext, Nat.le_trans hx.size h.own, hc, h.byt, h.len, h.blk⟩
theorem src_facts {w wk : World} {A : Option Addr} {c : Nat} {bs : List Int} {g : Nat} (h : Src w A c bs g wk) : w.heap.size ≤ g ∧ g < wk.heap.size := ⟨h.own, h.lt⟩

end Go.Proofs.YtabdffponmmhoaaGreatDoor
namespace Go.Proofs.YtabdffponmmhoaaGreatDoor
open Go.RowKit
/-- the slice value v owns the points ps, in a row from base on -/
def OwnP (w : World) (base : Nat) (v : Value) (ps : List (Int × Int)) : Prop := w.ownsRow base 35 2 v ps.length (ps.flatMap encP)
theorem OwnP.nil (w : World) (base : Nat) : OwnP w base (.slice none 0 0) [] := World.ownsRow_nil w base _ 2
theorem OwnP.sl {w : World} {base : Nat} {v : Value} {ps : List (Int × Int)} (h : OwnP w base v ps) : ∃ A c, v = .slice A ps.length c ∧ SlAt w 2 encP A ps ∧ ps.length ≤ c ∧ ∀ q, A = some q → base ≤ q.block := by
  obtain ⟨hl, h | ⟨g, cap, cur, hv, hb, hcell, hn, hm, hs, ht⟩⟩ := h
  · have : ps = [] := List.length_eq_zero_iff.1 h.2
    subst this
    exact ⟨none, 0, h.1, SlAt.nil, Nat.le_refl _, fun q e => by cases e⟩
  · refine ⟨some ⟨g, 0, none⟩, cap, hv, fun _ => ⟨g, 0, rfl, (Array.getElem?_eq_some_iff.1 hcell).1, fun i x hi j u hj => ?_⟩, hn, fun q e => by injection e with e; subst e; exact hb⟩
    have hfm := flatMap_at (enc := encP) (sz := 2) (fun _ => rfl) ps i x j u hi hj
    rw [← ht] at hfm
    rw [cell_of_row w g _ cur _ (0, 0) hcell, ← Array.getElem?_toList, Nat.zero_add]
    rw [List.getElem?_take] at hfm
    split at hfm
    · exact hfm
    · cases hfm
theorem OwnP.row {w : World} {base : Nat} {v : Value} {ps : List (Int × Int)} (h : OwnP w base v ps) : ∀ k, v.ownBlock = some k → base ≤ k ∧ k < w.heap.size := World.ownsRow.lt h
theorem OwnP.alloc {w : World} {base : Nat} {v : Value} {ps : List (Int × Int)} (h : OwnP w base v ps) (o : Obj) : OwnP (w.alloc o) base v ps := World.ownsRow.alloc h o
theorem But.grown {g : Nat} {w w' : World} (h : But g w w') : w.grownBy w' (some g) := ⟨h.os, h.tape, h.output, h.size, fun k hk hn => h.block k hk (fun e => hn (by rw [e]))⟩
theorem OwnP.but {w w' : World} {base g : Nat} {v : Value} {ps : List (Int × Int)} (h : OwnP w base v ps) (hu : But g w w') (hg : g < base) : OwnP w' base v ps :=
  World.ownsRow.kept h hu.grown (.inr fun e => by have := (h.row g e).1; omega)
theorem OwnP.ext {w w' : World} {base : Nat} {v : Value} {ps : List (Int × Int)} (h : OwnP w base v ps) (hx : Ext w w') : OwnP w' base v ps :=
  World.ownsRow.kept (row := none) h ⟨hx.os, hx.tape, hx.output, hx.size, fun k hk _ => hx.block k hk⟩ (by
    rcases hv : v.ownBlock with _ | k
    · exact .inl rfl
    · exact .inr (by simp))
theorem Src.grown {a w w' : World} {A : Option Addr} {c : Nat} {bs : List Int} {g : Nat} {row : Option Nat} (h : Src a A c bs g w) (hg : w.grownBy w' row) (hr : ∀ k, row = some k → g < k) : Src a A c bs g w' := by
  obtain ⟨k, s, h1, h2, h3, hB⟩ := h.blk
  exact ⟨h.ext.grown hg (fun k hk => by have := hr k hk; have := h.own; omega), h.own, h.code, h.byt, h.len, k, s, h1, h2, h3, (hg.block g hB.lt (fun e => by have := hr g e.symm; omega)).trans hB⟩
theorem SlAt.but {w w' : World} {g : Nat} {A : Option Addr} {ps : List (Int × Int)} (h : SlAt w 2 encP A ps) (hu : But g w w') (hg : ∀ q, A = some q → g < q.block) : SlAt w' 2 encP A ps := fun hn => by
  obtain ⟨b, off, e, hb, hc⟩ := h hn
  have hb' : g < b := hg _ e
  exact ⟨b, off, e, Nat.lt_of_lt_of_le hb hu.size, fun i x hi j v hj => (World.cell?_of_block (w := w) (hu.block b hb (by omega))).trans (hc i x hi j v hj)⟩
end Go.Proofs.YtabdffponmmhoaaGreatDoor
