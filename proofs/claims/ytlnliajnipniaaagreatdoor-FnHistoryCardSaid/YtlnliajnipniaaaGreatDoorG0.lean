/- Words for memory that grows, and for slices that read as lists: no program in sight. A region that draws its order, walked once in the order of the text, at the class 'w with new blocks behind it'; and such a region with a tail of operations that write. After the library's own texts on quiet regions and on still tails. Contracts of the plain functions on numbers and points, walked over the translation. Contracts of the functions on segments and directions, walked over the translation. '==' of structs: points. Contracts of the exported functions of points, and the laws on them, walked over the translation. Contracts of the what every law over a list of points uses: its copy, its size, equality, walked over the translation. Contracts of the rings: corners, turns, edges apart; the test of a ring, walked over the translation. Contracts of the rings: the test of a ring, walked over the translation. Contracts of the rings: the reference's test of a ring; laws, walked over the translation. Small words for memory, beside the first text of words. Contracts of the rings: areas, borders, walked over the translation. Contracts of the rings: borders, exported functions, walked over the translation. Contracts of the rings: the exported functions, walked over the translation. Contracts of the laws on rings, walked over the translation. Lists of any elements that a call itself gathers by append, in words of SlAt: no program in sight. Contracts of the draws: a source of numbers, walked over the translation. Contracts of the draws: points, walked over the translation. Lists of points that the call itself gathers by append: in words of SlAt. -/
import Derived.WalkKit
import Derived.Deep.Draws
import Derived.Lib.Hide
import Derived.Deep.QuietTactic
import Derived.BigQuiet
import Derived.StillTail
import Derived.Test.YtlnliajnipniaaaGreatDoorProg
import Derived.WalkLawsBesides
import Derived.WalkSpells
import Derived.Lib.MinMax
import Derived.Outline
import Derived.Laws.StructEq
import Derived.KernelRfl
import Derived.RegionTactic
import Derived.BigRegion
import Derived.Deep.RegionHeld3
import Derived.Deep.DeepCutAuto
import Derived.Laws.AppendOwn
import Derived.Laws.OwnMore
import Derived.Lib.AppendZeros
namespace Go.Proofs.YtlnliajnipniaaaGreatDoor
open Go.RowKit
theorem hI {p : Prop} (h : p) : Hid p := Go.Lib.hid h
def Ext (w w' : World) : Prop := Below w.heap.size w w'
theorem Ext.refl (w : World) : Ext w w := Below.refl _ _
theorem Ext.size {a b : World} (h : Ext a b) : a.heap.size ≤ b.heap.size := Below.size h
theorem Ext.trans {a b c : World} (h : Ext a b) (k : Ext b c) : Ext a c := Below.trans h (Below.mono k (Below.size h))
theorem Ext.alloc {a w : World} (h : Ext a w) (o : Obj) : Ext a (w.alloc o) := Below.alloc h (Below.size h) o
theorem Ext.drew {a w : World} (h : Ext a w) : Ext a w.drew := Below.drew h
theorem Ext.drewN {a w : World} (h : Ext a w) (n : Nat) : Ext a (w.drewN n) := ⟨h.os, h.tape, h.output, h.size, h.block⟩
theorem Ext.setCell {a w : World} (h : Ext a w) {p : Addr} (hp : a.heap.size ≤ p.block) (u : Value) : Ext a (w.setCell p u) := Below.setCell h hp u
theorem Ext.setCell' {a w : World} {p : Addr} (hp : a.heap.size ≤ p.block) (h : Ext a w) (u : Value) : Ext a (w.setCell p u) := h.setCell hp u
theorem Ext.cell {a w : World} (h : Ext a w) (b o : Nat) (hb : b < a.heap.size) : w.cell? ⟨b, o, none⟩ = a.cell? ⟨b, o, none⟩ := Below.cell (p := ⟨b, o, none⟩) h hb
theorem Ext.frozen {a w : World} (h : Ext a w) (b o : Nat) (hb : b < a.heap.size) : w.frozen? ⟨b, o, none⟩ = a.frozen? ⟨b, o, none⟩ := Below.frozen (p := ⟨b, o, none⟩) h hb
theorem Ext.below {a w : World} (h : Ext a w) : Below a.heap.size a w := h
theorem Ext.grown {a w w' : World} {row : Option Nat} (h : Ext a w) (hg : w.grownBy w' row) (hr : ∀ k, row = some k → a.heap.size ≤ k) : Ext a w' := Below.grown h hg (Below.size h) hr
theorem Ext.rules {a w : World} (h : Ext a w) : (∀ b o, b < a.heap.size → w.cell? ⟨b, o, none⟩ = a.cell? ⟨b, o, none⟩) ∧ (∀ b o, b < a.heap.size → w.frozen? ⟨b, o, none⟩ = a.frozen? ⟨b, o, none⟩) :=
 ⟨h.cell, h.frozen⟩
theorem Ext.all {a w : World} (h : Ext a w) : (∀ b o, b < a.heap.size → w.cell? ⟨b, o, none⟩ = a.cell? ⟨b, o, none⟩) ∧ (∀ b o, b < a.heap.size → w.frozen? ⟨b, o, none⟩ = a.frozen? ⟨b, o, none⟩) ∧ a.heap.size ≤ w.heap.size := ⟨h.rules.1, h.rules.2, h.size⟩
def SlAt {α : Type} (w : World) (sz : Nat) (enc : α → List Value) (A : Option Addr) (xs : List α) : Prop :=
 0 < xs.length → ∃ b off, A = some ⟨b, off, none⟩ ∧ b < w.heap.size ∧ ∀ i x, xs[i]? = some x → ∀ j v, (enc x)[j]? = some v → w.cell? ⟨b, off + i * sz + j, none⟩ = some v
section
variable {α : Type} {w w' : World} {sz : Nat} {enc : α → List Value} {A : Option Addr} {xs : List α}
theorem SlAt.ext (h : SlAt w sz enc A xs) (hx : Ext w w') : SlAt w' sz enc A xs := fun hn => by
 obtain ⟨b, off, e, hb, hc⟩ := h hn
 exact ⟨b, off, e, Nat.lt_of_lt_of_le hb hx.size, fun i x hi j v hj => (hx.cell _ _ hb).trans (hc i x hi j v hj)⟩
theorem SlAt.nil : SlAt w sz enc A ([] : List α) := fun h => absurd h (by simp)
end
theorem flatMap_at {α β : Type} {enc : α → List β} {sz : Nat} (hk : ∀ x, (enc x).length = sz) : ∀ (xs : List α) (i : Nat) (x : α) (j : Nat) (v : β), xs[i]? = some x → (enc x)[j]? = some v → (xs.flatMap enc)[i * sz + j]? = some v
 | [], _, _, _, _, h, _ => by simp at h
 | y :: ys, 0, x, j, v, h, hj => by
  simp at h
  subst h
  rw [List.flatMap_cons, Nat.zero_mul, Nat.zero_add, List.getElem?_append_left]
  ·exact hj
  ·exact (List.getElem?_eq_some_iff.1 hj).1
 | y :: ys, i + 1, x, j, v, h, hj => by
  rw [List.flatMap_cons, List.getElem?_append_right (by rw [hk, Nat.succ_mul]; omega), hk, show (i + 1) * sz + j - sz = i * sz + j by rw [Nat.succ_mul]; omega]
  exact flatMap_at hk ys i x j v (by simpa using h) hj
theorem heap_at {w : World} {o : Obj} {b : Nat} (h : b = w.heap.size) : (w.alloc o).heap[b]? = some o := by subst h; exact heap_alloc_new w o
theorem SlAt.block {α : Type} {w : World} {sz : Nat} {enc : α → List Value} {xs : List α} {b : Nat} {cs : Array Value} {t : TypeId} {fr : Nat × Nat} (hb : w.heap[b]? = some (.cells cs t fr)) (hcs : cs.toList = xs.flatMap enc)
  (hk : ∀ x, (enc x).length = sz) : SlAt w sz enc (some ⟨b, 0, none⟩) xs := fun _ => by
 refine ⟨b, 0, rfl, ?_, fun i x hi j v hj => ?_⟩
 ·exact (Array.getElem?_eq_some_iff.1 hb).1
 ·rw [cell_of_row w b _ cs t fr hb, ← Array.getElem?_toList, hcs, Nat.zero_add]
  exact flatMap_at hk xs i x j v hi hj
def Blk (w : World) (g : Nat) (t : TypeId) (cs : Array Value) : Prop := w.heap[g]? = some (.cells cs t (0, 0))
section
variable {w w' : World} {g : Nat} {t : TypeId} {cs : Array Value}
theorem Blk.lt (h : Blk w g t cs) : g < w.heap.size := (Array.getElem?_eq_some_iff.1 h).1
theorem Blk.cell (h : Blk w g t cs) (i : Nat) : w.cell? ⟨g, i, none⟩ = cs[i]? := cell_of_row w g i cs t (0, 0) h
theorem Blk.frozen (h : Blk w g t cs) (i : Nat) : w.frozen? ⟨g, i, none⟩ = false := by
 unfold Blk at h
 simp [World.frozen?, h]
theorem Blk.new {w : World} {b : Nat} (h : b = w.heap.size) : Blk (w.alloc (.cells cs t)) b t cs := heap_at h
theorem Blk.ext (h : Blk w g t cs) (hx : Ext w w') : Blk w' g t cs := (Below.block hx g h.lt).trans h
theorem Blk.ext' (hx : Ext w w') (h : Blk w g t cs) : Blk w' g t cs := h.ext hx
theorem Blk.drewN (h : Blk w g t cs) (n : Nat) : Blk (w.drewN n) g t cs := h
theorem Blk.alloc (h : Blk w g t cs) (o : Obj) : Blk (w.alloc o) g t cs := h.ext ((Ext.refl _).alloc o)
theorem Blk.drew (h : Blk w g t cs) : Blk w.drew g t cs := h
theorem Blk.set_ (h : Blk w g t cs) (i : Nat) (u : Value) : Blk (w.setCell ⟨g, i, none⟩ u) g t (cs.setIfInBounds i u) := by
 unfold Blk at h ⊢
 simp [World.setCell, Array.getElem?_modify, h]
theorem Blk.far (h : Blk w g t cs) {p : Addr} (hp : g ≠ p.block) (u : Value) : Blk (w.setCell p u) g t cs := (Below.heap_setCell w p u g hp).trans h
theorem Blk.far' {p : Addr} (hp : g ≠ p.block) (h : Blk w g t cs) (u : Value) : Blk (w.setCell p u) g t cs := h.far hp u
theorem Blk.eq {cs' : Array Value} (h : Blk w g t cs) (e : cs = cs') : Blk w g t cs' := e ▸ h
theorem xR {a : World} : Ext a a := Ext.refl a
theorem xA {a w : World} {o : Obj} (h : Ext a w) : Ext a (w.alloc o) := h.alloc o
theorem xD {a w : World} (h : Ext a w) : Ext a w.drew := h.drew
theorem xN {a w : World} {n : Nat} (h : Ext a w) : Ext a (w.drewN n) := h.drewN n
theorem xC {a w : World} {q i : Nat} {u : Value} (hp : a.heap.size ≤ q) (h : Ext a w) : Ext a (w.setCell ⟨q, i, none⟩ u) := h.setCell (p := ⟨q, i, none⟩) hp u
theorem xT {a b c : World} (h : Ext a b) (k : Ext b c) : Ext a c := h.trans k
theorem bN {w : World} {b : Nat} {t : TypeId} {cs : Array Value} (h : b = w.heap.size) : Blk (w.alloc (.cells cs t)) b t cs := Blk.new h
theorem bD {w : World} {b : Nat} {t : TypeId} {cs : Array Value} (h : Blk w b t cs) : Blk w.drew b t cs := h
theorem bM {w : World} {b n : Nat} {t : TypeId} {cs : Array Value} (h : Blk w b t cs) : Blk (w.drewN n) b t cs := h
theorem bF {w : World} {b q i : Nat} {t : TypeId} {cs : Array Value} {u : Value} (hp : ¬ b = q) (h : Blk w b t cs) : Blk (w.setCell ⟨q, i, none⟩ u) b t cs := h.far (p := ⟨q, i, none⟩) hp u
theorem bS {w : World} {b i : Nat} {t : TypeId} {cs : Array Value} {u : Value} (h : Blk w b t cs) : Blk (w.setCell ⟨b, i, none⟩ u) b t (cs.setIfInBounds i u) := h.set_ i u
theorem bA {w : World} {b : Nat} {t : TypeId} {cs : Array Value} {o : Obj} (h : Blk w b t cs) : Blk (w.alloc o) b t cs := h.alloc o
theorem bE {w w' : World} {b : Nat} {t : TypeId} {cs : Array Value} (hx : Ext w w') (h : Blk w b t cs) : Blk w' b t cs := h.ext hx
theorem tq {a : Array Value} {i : Nat} {v : Value} (h : a.getD i undef = v) : a[i]?.getD undef = v := (Array.getD_eq_getD_getElem? (xs := a) (i := i) (d := undef)).symm.trans h
theorem Blk.sl {α : Type} {xs : List α} {enc : α → List Value} {sz : Nat} (h : Blk w g t cs) (hcs : cs.toList = xs.flatMap enc) (hk : ∀ x, (enc x).length = sz) : SlAt w sz enc (some ⟨g, 0, none⟩) xs := SlAt.block h hcs hk
end
theorem flatMap_len {α β : Type} {enc : α → List β} {sz : Nat} (hk : ∀ x, (enc x).length = sz) : ∀ xs : List α, (xs.flatMap enc).length = xs.length * sz
 | [] => by simp
 | x :: xs => by rw [List.flatMap_cons, List.length_append, hk, flatMap_len hk xs, List.length_cons, Nat.succ_mul]; omega
structure ExtOf (w : World) where
 world : World
 ext : Ext w world
instance (w : World) : Inhabited (ExtOf w) := ⟨⟨w, Ext.refl w⟩⟩
section
variable {P : Program} {ops : Array Oper} {md : Region.Mode} {C : World → Prop}
theorem ext_all {w : World} {R : World → Prop} : (∀ w', Ext w w' → R w') = (∀ w', (∃ p : ExtOf w, w' = p.world) → R w') :=
 propext ⟨fun h w' ⟨p, hp⟩ => h w' (hp ▸ p.ext), fun h w' hx => h w' ⟨⟨w', hx⟩, rfl⟩⟩
theorem wp_region_ext {id : Nat} {Q : Exit → Act → World → Prop} {a : Act} {w : World} {l : List Oper} (hm : P.follows .mixedOrders = true) (hB : Region.lexB .any l.toArray = true)
  (h : wpQuiet P l.toArray (fun w' => ∃ p : ExtOf w, w' = p.world) (fun a' => ∀ w', Ext w w' → Q .normal a' w') l a) : (Code.region id l.toArray true).wp P Q a w := by
 rw [show (fun a' => ∀ w', Ext w w' → Q .normal a' w') = (fun a' => ∀ w', (∃ p : ExtOf w, w' = p.world) → Q .normal a' w') from funext fun _ => ext_all] at h
 exact wp_region_quiet (C := fun w' => ∃ p : ExtOf w, w' = p.world) hm hB ⟨⟨w.drew, (Ext.refl w).drew⟩, rfl⟩ (by simpa using h)
theorem Calls_ext {f : FuncId} {args : Array Value} {w : World} {p : ExtOf w} {v : Value} (h : Calls P f args p.world fun e w' => e = .returned v ∧ Ext p.world w') :
  Calls P f args p.world fun e w' => e = .returned v ∧ ∃ q : ExtOf w, w' = q.world :=
 h.mono fun _ _ ⟨he, hx⟩ => ⟨he, ⟨_, p.ext.trans hx⟩, rfl⟩
theorem Calls_same {f : FuncId} {args : Array Value} {w : World} {p : ExtOf w} {v : Value} (h : Calls P f args p.world fun e w' => e = .returned v ∧ p.world = w') :
  Calls P f args p.world fun e w' => e = .returned v ∧ ∃ q : ExtOf w, w' = q.world :=
 h.mono fun _ _ ⟨he, hx⟩ => ⟨he, p, hx.symm⟩
theorem ExtOf.cell {w : World} (p : ExtOf w) (b o : Nat) (hb : b < w.heap.size) : p.world.cell? ⟨b, o, none⟩ = w.cell? ⟨b, o, none⟩ := p.ext.cell b o hb
theorem ExtOf.frozen {w : World} (p : ExtOf w) (b o : Nat) (hb : b < w.heap.size) : p.world.frozen? ⟨b, o, none⟩ = w.frozen? ⟨b, o, none⟩ := p.ext.frozen b o hb
/-! a tail that writes -/
end
end Go.Proofs.YtlnliajnipniaaaGreatDoor
namespace Go.Proofs.YtlnliajnipniaaaGreatDoor
open Go.RowKit
attribute [local go_sem] ExtOf.cell ExtOf.frozen
theorem ret_int {k : IntKind} {a b : Int} (h : a = b) : Ending.returned (.int k a) = .returned (.int k b) := by rw [h]
def inB (x lo hi : Int) : Bool := decide (lo ≤ x) && decide (x ≤ hi)
theorem within_any (x lo hi : Int) (w : World) : Calls Tryz.prog 100 #[.int .i64 x, .int .i64 lo, .int .i64 hi] w fun e w' => e = .returned (.bool (inB x lo hi)) ∧ w = w' := by
 go_enter Tryz.func100, Tryz.ntmps100
 go_wp2
 all_goals go_ret
 all_goals refine ⟨?_, rfl⟩
 all_goals (simp [inB, *]; try omega)
theorem l01In_any (x lo hi : Int) (w : World) : Calls Tryz.prog 61 #[.int .i64 x, .int .i64 lo, .int .i64 hi] w fun e w' => e = .returned (.bool (inB x lo hi)) ∧ w = w' := by
 go_enter Tryz.func61, Tryz.ntmps61
 go_wp2
 all_goals go_ret
 all_goals refine ⟨?_, rfl⟩
 all_goals (simp [inB, *]; try omega)
end Go.Proofs.YtlnliajnipniaaaGreatDoor
namespace Go.Proofs.YtlnliajnipniaaaGreatDoor
open Go.RowKit
end Go.Proofs.YtlnliajnipniaaaGreatDoor
namespace Go.Proofs.YtlnliajnipniaaaGreatDoor
open Go.RowKit
attribute [local go_sem] ExtOf.cell ExtOf.frozen
theorem ret_bool {a b : Bool} (h : a = b) : Ending.returned (.bool a) = .returned (.bool b) := by rw [h]
theorem SlAt.take {α : Type} {w : World} {sz : Nat} {enc : α → List Value} {A : Option Addr} {xs : List α} (h : SlAt w sz enc A xs) (k : Nat) : SlAt w sz enc A (xs.take k) := fun hn => by
 obtain ⟨b, off, e, hb, hc⟩ := h (by rw [List.length_take] at hn; omega)
 refine ⟨b, off, e, hb, fun i x hi j v hj => hc i x ?_ j v hj⟩
 rw [List.getElem?_take] at hi
 split at hi
 ·exact hi
 ·cases hi
end Go.Proofs.YtlnliajnipniaaaGreatDoor
namespace Go.Proofs.YtlnliajnipniaaaGreatDoor
open Go.RowKit
@[simp] theorem drew_size (w : World) : w.drew.heap.size = w.heap.size := rfl
@[simp] theorem drewN_size (w : World) (n : Nat) : (w.drewN n).heap.size = w.heap.size := rfl
end Go.Proofs.YtlnliajnipniaaaGreatDoor
namespace Go.Proofs.YtlnliajnipniaaaGreatDoor
open Go.RowKit
attribute [local go_sem] ExtOf.cell ExtOf.frozen
end Go.Proofs.YtlnliajnipniaaaGreatDoor
namespace Go.Proofs.YtlnliajnipniaaaGreatDoor
open Go.RowKit
def Own {α : Type} (enc : α → List Value) (sz : Nat) (t : TypeId) (w : World) (base : Nat) (v : Value) (xs : List α) : Prop := w.ownsRow base t sz v xs.length (xs.flatMap enc)
section
variable {α : Type} {enc : α → List Value} {sz : Nat} {t : TypeId} {w w' : World} {base : Nat} {v : Value} {xs ys : List α}
theorem Own.nil (w : World) (base : Nat) : Own enc sz t w base (.slice none 0 0) [] := World.ownsRow_nil w base _ _
theorem Own.sl (hk : ∀ x, (enc x).length = sz) (h : Own enc sz t w base v xs) : ∃ A c, v = .slice A xs.length c ∧ SlAt w sz enc A xs ∧ xs.length ≤ c ∧ c ≤ maxLen ∧ ∀ q, A = some q → base ≤ q.block ∧ q.block < w.heap.size := by
 obtain ⟨hl, h | ⟨g, cap, cur, hv, hb, hcell, hn, hm, hs, ht⟩⟩ := h
 ·have : xs = [] := List.length_eq_zero_iff.1 h.2
  subst this
  exact ⟨none, 0, h.1, SlAt.nil, Nat.le_refl _, Nat.zero_le _, fun q e => by cases e⟩
 ·refine ⟨some ⟨g, 0, none⟩, cap, hv, fun _ => ⟨g, 0, rfl, (Array.getElem?_eq_some_iff.1 hcell).1, fun i x hi j u hj => ?_⟩, hn, hm, fun q e => by injection e with e; subst e; exact ⟨hb, (Array.getElem?_eq_some_iff.1 hcell).1⟩⟩
  have hfm := flatMap_at (enc := enc) (sz := sz) hk xs i x j u hi hj
  rw [← ht] at hfm
  rw [cell_of_row w g _ cur _ (0, 0) hcell, ← Array.getElem?_toList, Nat.zero_add]
  rw [List.getElem?_take] at hfm
  split at hfm
  ·exact hfm
  ·cases hfm
theorem Own.row (h : Own enc sz t w base v xs) : ∀ k, v.ownBlock = some k → base ≤ k ∧ k < w.heap.size := World.ownsRow.lt h
theorem Own.alloc (h : Own enc sz t w base v xs) (o : Obj) : Own enc sz t (w.alloc o) base v xs := World.ownsRow.alloc h o
theorem Own.kept {row : Option Nat} (h : Own enc sz t w base v xs) (hg : w.grownBy w' row) (hne : v.ownBlock = none ∨ v.ownBlock ≠ row) : Own enc sz t w' base v xs := World.ownsRow.kept h hg hne
theorem Ext.grown0 (hx : Ext w w') : w.grownBy w' none := ⟨hx.os, hx.tape, hx.output, hx.size, fun k hk _ => hx.block k hk⟩
theorem Own.ext (h : Own enc sz t w base v xs) (hx : Ext w w') : Own enc sz t w' base v xs :=
 h.kept hx.grown0 (by
  rcases hv : v.ownBlock with _ | k
  ·exact .inl rfl
  ·exact .inr (by simp))
theorem Own.less {base' : Nat} (h : Own enc sz t w base v xs) (hb : base' ≤ base) : Own enc sz t w base' v xs :=
 ⟨h.1, h.2.imp id fun ⟨g, cap, cur, hv, hbb, rest⟩ => ⟨g, cap, cur, hv, Nat.le_trans hb hbb, rest⟩⟩
theorem Own.add (h : w.ownsRow base t sz v (xs.length + ys.length) (xs.flatMap enc ++ ys.flatMap enc)) : Own enc sz t w base v (xs ++ ys) := by
 unfold Own
 rw [List.length_append, List.flatMap_append]
 exact h
theorem Own.of_blk {g : Nat} {cs : Array Value} (h : Blk w g t cs) (hk : ∀ x, (enc x).length = sz) (hcs : cs.toList = xs.flatMap enc) (hb : base ≤ g) (hm : xs.length ≤ maxLen) : Own enc sz t w base (.slice (some ⟨g, 0, none⟩) xs.length xs.length) xs := by
 have hfl := flatMap_len hk xs
 refine ⟨hfl, .inr ⟨g, xs.length, cs, rfl, hb, h, Nat.le_refl _, hm, ?_, ?_⟩⟩
 ·rw [← Array.length_toList, hcs, hfl]
 ·rw [hcs, ← hfl, List.take_length]
theorem Own.open_ (h : Own enc sz t w base v xs) (h0 : 0 < xs.length) : ∃ (g cap : Nat) (cur : Array Value), v = .slice (some ⟨g, 0, none⟩) xs.length cap ∧ base ≤ g ∧ Blk w g t cur ∧ xs.length ≤ cap ∧ cap ≤ maxLen ∧ cur.size = cap * sz ∧ cur.toList.take (xs.length * sz) = xs.flatMap enc := by
 rcases h.2 with ⟨_, e⟩ | ⟨g, cap, cur, a, b, c, d, e, f, k⟩
 ·omega
 ·exact ⟨g, cap, cur, a, b, c, d, e, f, k⟩
theorem SlAt.grown {A : Option Addr} {row : Option Nat} (h : SlAt w sz enc A xs) (hg : w.grownBy w' row) (hne : ∀ q, A = some q → some q.block ≠ row) : SlAt w' sz enc A xs := fun hn => by
 obtain ⟨b, off, e, hb, hc⟩ := h hn
 refine ⟨b, off, e, Nat.lt_of_lt_of_le hb hg.size, fun i x hi j u hj => ?_⟩
 exact (World.cell?_of_block (a := ⟨b, off + i * sz + j, none⟩) (hg.block b hb (hne _ e))).trans (hc i x hi j u hj)
theorem SlAt.drop {A : Option Addr} (h : SlAt w sz enc A xs) (k : Nat) (hk : k < xs.length) : ∃ b off, A = some ⟨b, off, none⟩ ∧ b < w.heap.size ∧ SlAt w sz enc (some ⟨b, off + k * sz, none⟩) (xs.drop k) := by
 obtain ⟨b, off, e, hb, hc⟩ := h (by omega)
 refine ⟨b, off, e, hb, fun _ => ⟨b, off + k * sz, rfl, hb, fun i x hi j u hj => ?_⟩⟩
 rw [List.getElem?_drop] at hi
 have := hc (k + i) x hi j u hj
 rw [Nat.add_mul] at this
 rw [← this]
 congr 2
 omega
end
structure ElT (P : Program) (ts te : TypeId) (sz by_ : Nat) : Prop where
 under : P.underlying ts = some (.slice te)
 info : ∃ i z, P.info? te = some i ∧ i.zero = some z ∧ i.size = sz ∧ i.bytes = by_ ∧ z.cells.size = sz
 pos : 0 < sz
theorem ElT.mk' {P : Program} {ts te : TypeId} {z : Value} {sz by_ : Nat} (hu : P.underlying ts = some (.slice te)) (h : (P.info? te).map (fun i => (i.zero, i.size, i.bytes)) = some (some z, sz, by_)) (hz : z.cells.size = sz) (h0 : 0 < sz) : ElT P ts te sz by_ := by
 obtain ⟨i, a, b, c, d⟩ := info_parts h
 exact ⟨hu, ⟨i, z, a, b, c, d, hz⟩, h0⟩
theorem wpList_run {P : Program} (w : World) {ops : Array Oper} {rest : List Oper} {o : Oper} {a : Act} {Q : Exit → Act → World → Prop} (hgd : o.guard = none) (s x : Operand) (t tn : TypeId)
  (ho : o.op = .call { callee := .builtin .append, args := #[s, x], argTypes := #[t, tn] }) (vs vx : Value) (hs : a.eval s = vs) (hx : a.eval x = vx)
  (v' : Value) (w' : World) (hr : (Builtin.append_ #[t, tn] o.type #[vs, vx]).run P w = .ok v' w') (h : wpList P ops Q rest (a.put o.dst v') w') : wpList P ops Q (o :: rest) a w :=
 Lib.wpList_append_run w hgd s x t tn ho vs vx hs hx v' w' hr h
section
variable {α : Type} {enc : α → List Value} {sz by_ : Nat} {ts te : TypeId} {P : Program}
theorem run_append_sl (H : ElT P ts te sz by_) (ty : TypeId) (hk : ∀ x, (enc x).length = sz) (h1 : ∀ x, ∀ u ∈ enc x, u.oneCell' = true) {w : World} {base : Nat} {v : Value} {ys : List α} (hown : Own enc sz te w base v ys)
  {A : Option Addr} {c : Nat} {xs : List α} (hsl : SlAt w sz enc A xs) (h63 : ys.length + xs.length ≤ maxLen) (hbytes : (ys.length + xs.length) * by_ ≤ 140737488355328) (hbase : base ≤ w.heap.size) :
  ∃ v' w', (Builtin.append_ #[ts, ts] ty #[v, .slice A xs.length c]).run P w = .ok v' w' ∧ Own enc sz te w' base v' (ys ++ xs) ∧ w.grownBy w' v.ownBlock ∧ (v' = .slice none 0 0 ↔ v = .slice none 0 0 ∧ xs = []) := by
 obtain ⟨hu, ⟨i, z, hi, hz, hs, hb, hzs⟩, h0⟩ := H
 have hfl := flatMap_len hk xs
 have hone : ∀ u ∈ xs.flatMap enc, u.oneCell' = true := fun u hu => by
  obtain ⟨x, _, hx⟩ := List.mem_flatMap.1 hu
  exact h1 x u hx
 have hnil : xs.length = 0 ↔ xs = [] := List.length_eq_zero_iff
 rcases A with _ | ad
 ·have hx0 : xs = [] := by
   rcases xs with _ | ⟨x, xs⟩
   ·rfl
   ·obtain ⟨_, _, e, _⟩ := hsl (by simp); cases e
  subst hx0
  refine ⟨v, w, ?_, by simpa using hown, World.grownBy.refl w _, by simp⟩
  rcases hown.2 with ⟨rfl, hl0⟩ | ⟨g, cap, cur, rfl, _, _, hnc, _⟩
  ·simp [Builtin.append_, run_underlying hu, sizeOf, typeInfo, hi, Builtin.lenOf, Builtin.firstCells]
  ·simp [Builtin.append_, run_underlying hu, sizeOf, typeInfo, hi, Builtin.lenOf, Builtin.firstCells, hnc, storeCells]
 ·have hcells : ∀ j u, (xs.flatMap enc)[j]? = some u → w.cell? (ad.add j) = some u := fun j u hj => by
   have hj' : j < xs.length * sz := by rw [← hfl]; exact (List.getElem?_eq_some_iff.1 hj).1
   have hx0 : 0 < xs.length := by
    rcases Nat.eq_zero_or_pos xs.length with e | e
    ·rw [e] at hj'; omega
    ·exact e
   obtain ⟨b, off, e, _, hc⟩ := hsl hx0
   injection e with e
   subst e
   have hq : j / sz < xs.length := Nat.div_lt_of_lt_mul (by rw [Nat.mul_comm]; exact hj')
   have hm : j % sz < sz := Nat.mod_lt _ h0
   have hdm : j / sz * sz + j % sz = j := by rw [Nat.mul_comm]; exact Nat.div_add_mod j sz
   have hlen : j % sz < (enc xs[j / sz]).length := by rw [hk]; exact hm
   have ha := flatMap_at hk xs (j / sz) xs[j / sz] (j % sz) _ (List.getElem?_eq_getElem hq) (List.getElem?_eq_getElem hlen)
   rw [hdm, hj] at ha
   have hcc := hc (j / sz) xs[j / sz] (List.getElem?_eq_getElem hq) (j % sz) _ (List.getElem?_eq_getElem hlen)
   rw [Nat.add_assoc, hdm] at hcc
   injection ha with ha
   rw [ha, ← hcc]
   unfold Addr.add
   split
   ·rename_i hz; subst hz; rfl
   ·rfl
  obtain ⟨v', w', a1, a2, a3, a4⟩ := run_append_own w base ts ty te i z sz by_ hu hi hz hs hb hzs h0 v ys.length (ys.flatMap enc) hown ad xs.length c (xs.flatMap enc) hfl hcells hone h63 hbytes hbase
  exact ⟨v', w', a1, Own.add a2, a3, by rw [a4, hnil]⟩
theorem wpList_append_sl (H : ElT P ts te sz by_) (hk : ∀ x, (enc x).length = sz) (h1 : ∀ x, ∀ u ∈ enc x, u.oneCell' = true) {w : World} {ops : Array Oper} {rest : List Oper} {o : Oper} {a : Act} {Q : Exit → Act → World → Prop} (hgd : o.guard = none) (s x : Operand)
  (ho : o.op = .call { callee := .builtin .append, args := #[s, x], argTypes := #[ts, ts] }) {base : Nat} {v : Value} {ys : List α} (hs : a.eval s = v) (hown : Own enc sz te w base v ys)
  {A : Option Addr} {c : Nat} {xs : List α} (hx : a.eval x = .slice A xs.length c) (hsl : SlAt w sz enc A xs) (h63 : ys.length + xs.length ≤ maxLen) (hbytes : (ys.length + xs.length) * by_ ≤ 140737488355328) (hbase : base ≤ w.heap.size)
  (h : ∀ v' w', Own enc sz te w' base v' (ys ++ xs) → w.grownBy w' v.ownBlock → (v' = .slice none 0 0 ↔ v = .slice none 0 0 ∧ xs = []) → wpList P ops Q rest (a.put o.dst v') w') : wpList P ops Q (o :: rest) a w := by
 obtain ⟨v', w', a1, a2, a3, a4⟩ := run_append_sl H o.type hk h1 hown (c := c) hsl h63 hbytes hbase
 exact wpList_run w hgd s x ts ts ho _ _ hs hx v' w' a1 (h v' w' a2 a3 a4)
theorem wp_append_sl (H : ElT P ts te sz by_) (hk : ∀ x, (enc x).length = sz) (h1 : ∀ x, ∀ u ∈ enc x, u.oneCell' = true) {w : World} {o : Oper} {a : Act} {K : Act → World → Prop} {Q : Exit → Act → World → Prop} (s x : Operand)
  (ho : o.op = .call { callee := .builtin .append, args := #[s, x], argTypes := #[ts, ts] }) {base : Nat} {v : Value} {ys : List α} (hs : a.eval s = v) (hown : Own enc sz te w base v ys)
  {A : Option Addr} {c : Nat} {xs : List α} (hx : a.eval x = .slice A xs.length c) (hsl : SlAt w sz enc A xs) (h63 : ys.length + xs.length ≤ maxLen) (hbytes : (ys.length + xs.length) * by_ ≤ 140737488355328) (hbase : base ≤ w.heap.size)
  (h : ∀ v' w', Own enc sz te w' base v' (ys ++ xs) → w.grownBy w' v.ownBlock → (v' = .slice none 0 0 ↔ v = .slice none 0 0 ∧ xs = []) → K (a.put o.dst v') w') : o.wp P a w K Q := by
 obtain ⟨v', w', a1, a2, a3, a4⟩ := run_append_sl H o.type hk h1 hown (c := c) hsl h63 hbytes hbase
 exact Lib.wp_append_run w s x ts ts ho _ _ hs hx v' w' a1 (h v' w' a2 a3 a4)
theorem step_append_sl (H : ElT P ts te sz by_) (hk : ∀ x, (enc x).length = sz) (h1 : ∀ x, ∀ u ∈ enc x, u.oneCell' = true) {w : World} {ops : Array Oper} {o : Oper} {a : Act} {K : Act → World → Prop} {Q : Exit → Act → World → Prop} {E : Prop} (hgd : o.guard = none) (s x : Operand)
  (ho : o.op = .call { callee := .builtin .append, args := #[s, x], argTypes := #[ts, ts] }) {base : Nat} {v : Value} {ys : List α} (hs : a.eval s = v) (hown : Own enc sz te w base v ys)
  {A : Option Addr} {c : Nat} {xs : List α} (hx : a.eval x = .slice A xs.length c) (hsl : SlAt w sz enc A xs) (h63 : ys.length + xs.length ≤ maxLen) (hbytes : (ys.length + xs.length) * by_ ≤ 140737488355328) (hbase : base ≤ w.heap.size)
  (h : ∀ v' w', Own enc sz te w' base v' (ys ++ xs) → w.grownBy w' v.ownBlock → (v' = .slice none 0 0 ↔ v = .slice none 0 0 ∧ xs = []) → K (a.put o.dst v') w') :
  if Region.wanted o (yielded ops a.tmps) = true then Oper.wp P o a w K Q else E := by
 have hw : Region.wanted o (yielded ops a.tmps) = true := by simp [Region.wanted, hgd]
 rw [if_pos hw]
 exact wp_append_sl H hk h1 s x ho hs hown hx hsl h63 hbytes hbase h
end
end Go.Proofs.YtlnliajnipniaaaGreatDoor
namespace Go.Proofs.YtlnliajnipniaaaGreatDoor
open Go.RowKit
attribute [local go_sem] ExtOf.cell ExtOf.frozen
def encB (b : Int) : List Value := [.int .u8 b]
structure But (g : Nat) (w w' : World) : Prop where
 os : w'.os = w.os
 tape : w'.tape = w.tape
 output : w'.output = w.output
 size : w.heap.size ≤ w'.heap.size
 block : ∀ k, k < w.heap.size → k ≠ g → w'.heap[k]? = w.heap[k]?
theorem But.refl (g : Nat) (w : World) : But g w w := ⟨rfl, rfl, rfl, Nat.le_refl _, fun _ _ _ => rfl⟩
theorem But.trans {g : Nat} {a b c : World} (h : But g a b) (k : But g b c) : But g a c :=
 ⟨k.os.trans h.os, k.tape.trans h.tape, k.output.trans h.output, Nat.le_trans h.size k.size, fun i hi hg => (k.block i (Nat.lt_of_lt_of_le hi h.size) hg).trans (h.block i hi hg)⟩
theorem But.of {g : Nat} {a b : World} (h : Ext a b) : But g a b := ⟨h.os, h.tape, h.output, h.size, fun k hk _ => h.block k hk⟩
theorem But.alloc {g : Nat} {a w : World} (h : But g a w) (o : Obj) : But g a (w.alloc o) := h.trans (.of ((Ext.refl _).alloc o))
theorem But.drew {g : Nat} {a w : World} (h : But g a w) : But g a w.drew := h.trans (.of (Ext.refl _).drew)
theorem But.drewN {g : Nat} {a w : World} (h : But g a w) (n : Nat) : But g a (w.drewN n) := h.trans (.of ((Ext.refl _).drewN n))
theorem But.set_ {g : Nat} {a w : World} (h : But g a w) (i : Nat) (u : Value) : But g a (w.setCell ⟨g, i, none⟩ u) :=
 h.trans ⟨rfl, rfl, rfl, by simp [World.setCell], fun k _ hk => Below.heap_setCell _ _ _ _ hk⟩
theorem But.new {g : Nat} {a w : World} {p : Addr} (hp : a.heap.size ≤ p.block) (h : But g a w) (u : Value) : But g a (w.setCell p u) :=
 ⟨h.os, h.tape, h.output, by simpa [World.setCell] using h.size, fun k hk hg => (Below.heap_setCell _ _ _ _ (by omega)).trans (h.block k hk hg)⟩
theorem But.rules {g : Nat} {a w : World} (h : But g a w) : (∀ b o, b < a.heap.size → ¬ b = g → w.cell? ⟨b, o, none⟩ = a.cell? ⟨b, o, none⟩) ∧ (∀ b o, b < a.heap.size → ¬ b = g → w.frozen? ⟨b, o, none⟩ = a.frozen? ⟨b, o, none⟩) :=
 ⟨fun b _ hb hg => World.cell?_of_block (h.block b hb hg), fun b _ hb hg => World.frozen?_of_block (h.block b hb hg)⟩
theorem But.all {g : Nat} {a w : World} (h : But g a w) : (∀ b o, b < a.heap.size → ¬ b = g → w.cell? ⟨b, o, none⟩ = a.cell? ⟨b, o, none⟩) ∧ (∀ b o, b < a.heap.size → ¬ b = g → w.frozen? ⟨b, o, none⟩ = a.frozen? ⟨b, o, none⟩) ∧ a.heap.size ≤ w.heap.size := ⟨h.rules.1, h.rules.2, h.size⟩
theorem Blk.but' {g q : Nat} {t : TypeId} {cs : Array Value} {w w' : World} (h : But q w w') (hg : ¬ g = q) (hB : Blk w g t cs) : Blk w' g t cs := (h.block g hB.lt hg).trans hB
structure Src (a : World) (A : Option Addr) (c : Nat) (bs : List Int) (g : Nat) (w : World) : Prop where
 ext : Ext a w
 own : a.heap.size ≤ g
 code : SlAt a 1 encB A bs
 byt : ∀ b ∈ bs, 0 ≤ b ∧ b ≤ 255
 len : bs.length ≤ 4096
 blk : ∃ (k : Nat) (seed : Int), k ≤ bs.length ∧ 0 ≤ seed ∧ seed < 2147483647 ∧ Blk w g 89 #[.slice A bs.length c, .int .i64 k, .int .i64 seed]
section
variable {a w w' : World} {A : Option Addr} {c : Nat} {bs : List Int} {g : Nat}
theorem Src.lt (h : Src a A c bs g w) : g < w.heap.size := by
 obtain ⟨_, _, _, _, _, hB⟩ := h.blk
 exact hB.lt
theorem Src.on (h : Src a A c bs g w) (hx : Ext w w') : Src a A c bs g w' := by
 obtain ⟨k, s, h1, h2, h3, hB⟩ := h.blk
 exact ⟨h.ext.trans hx, h.own, h.code, h.byt, h.len, k, s, h1, h2, h3, hB.ext hx⟩
theorem Src.on' (hx : Ext w w') (h : Src a A c bs g w) : Src a A c bs g w' := h.on hx
theorem Src.alloc (h : Src a A c bs g w) (o : Obj) : Src a A c bs g (w.alloc o) := h.on ((Ext.refl _).alloc o)
theorem Src.drew (h : Src a A c bs g w) : Src a A c bs g w.drew := h.on (Ext.refl _).drew
theorem Src.drewN (h : Src a A c bs g w) (n : Nat) : Src a A c bs g (w.drewN n) := h.on ((Ext.refl _).drewN n)
theorem Src.far {p : Addr} (hp : ¬ g = p.block) (hq : a.heap.size ≤ p.block) (h : Src a A c bs g w) (u : Value) : Src a A c bs g (w.setCell p u) := by
 obtain ⟨k, s, h1, h2, h3, hB⟩ := h.blk
 exact ⟨h.ext.setCell hq u, h.own, h.code, h.byt, h.len, k, s, h1, h2, h3, hB.far hp u⟩
theorem xS {a w : World} {A : Option Addr} {c : Nat} {bs : List Int} {g : Nat} (h : Src a A c bs g w) : Ext a w := h.ext
theorem bU {w w' : World} {b q : Nat} {t : TypeId} {cs : Array Value} (h : But q w w') (hn : ¬ b = q) (hB : Blk w b t cs) : Blk w' b t cs := hB.but' h hn
theorem sA {a w : World} {A : Option Addr} {c : Nat} {bs : List Int} {g : Nat} {o : Obj} (h : Src a A c bs g w) : Src a A c bs g (w.alloc o) := h.alloc o
theorem sD {a w : World} {A : Option Addr} {c : Nat} {bs : List Int} {g : Nat} (h : Src a A c bs g w) : Src a A c bs g w.drew := h.drew
theorem sN {a w : World} {A : Option Addr} {c : Nat} {bs : List Int} {g n : Nat} (h : Src a A c bs g w) : Src a A c bs g (w.drewN n) := h.drewN n
theorem sF {a w : World} {A : Option Addr} {c : Nat} {bs : List Int} {g q i : Nat} {u : Value} (hp : ¬ g = q) (hq : a.heap.size ≤ q) (h : Src a A c bs g w) : Src a A c bs g (w.setCell ⟨q, i, none⟩ u) := h.far (p := ⟨q, i, none⟩) hp hq u
theorem sO {a w w' : World} {A : Option Addr} {c : Nat} {bs : List Int} {g : Nat} (hx : Ext w w') (h : Src a A c bs g w) : Src a A c bs g w' := h.on hx
theorem uR {g : Nat} {w : World} : But g w w := But.refl g w
theorem uA {g : Nat} {a w : World} {o : Obj} (h : But g a w) : But g a (w.alloc o) := h.alloc o
theorem uD {g : Nat} {a w : World} (h : But g a w) : But g a w.drew := h.drew
theorem uM {g n : Nat} {a w : World} (h : But g a w) : But g a (w.drewN n) := h.drewN n
theorem uS {g i : Nat} {a w : World} {u : Value} (h : But g a w) : But g a (w.setCell ⟨g, i, none⟩ u) := h.set_ i u
theorem uW {g q i : Nat} {a w : World} {u : Value} (hp : a.heap.size ≤ q) (h : But g a w) : But g a (w.setCell ⟨q, i, none⟩ u) := But.new (p := ⟨q, i, none⟩) hp h u
theorem uT {g : Nat} {a b c : World} (h : But g a b) (k : But g b c) : But g a c := h.trans k
theorem uO {g : Nat} {a b : World} (h : Ext a b) : But g a b := But.of h
end
theorem SlAt.byt {w : World} {A : Option Addr} {bs : List Int} (h : SlAt w 1 encB A bs) {k : Nat} (hk : k < bs.length) (hb : ∀ b ∈ bs, 0 ≤ b ∧ b ≤ 255) :
  ∃ b off y, A = some ⟨b, off, none⟩ ∧ b < w.heap.size ∧ w.cell? ⟨b, off + k, none⟩ = some (.int .u8 y) ∧ 0 ≤ y ∧ y ≤ 255 := by
 obtain ⟨b, off, e, hB, hc⟩ := h (by omega)
 have hg : bs[k]? = some bs[k] := List.getElem?_eq_getElem hk
 have := hb bs[k] (List.getElem_mem hk)
 exact ⟨b, off, bs[k], e, hB, by simpa using hc k _ hg 0 _ rfl, this.1, this.2⟩
set_option maxHeartbeats 1600000 in
theorem s_l01From (A : Option Addr) (c : Nat) (bs : List Int) (w : World) (h : SlAt w 1 encB A bs) (hb : ∀ b ∈ bs, 0 ≤ b ∧ b ≤ 255) (hl : bs.length ≤ 4096) :
  Calls Tryz.prog 20 #[.slice A bs.length c] w fun e w' => ∃ g, e = .returned (.pointer (some ⟨g, 0, none⟩)) ∧ Src w A c bs g w' := by
 have HB := hI hb
 clear hb
 go_enter Tryz.func20, Tryz.ntmps20
 go_wp2
 go_loopw [4] (fun i wr => ∃ (k : Nat) (seed : Int), k ≤ bs.length ∧ 0 ≤ seed ∧ seed < 2147483647 ∧ i = .int .i64 k ∧ Blk wr w.heap.size 89 #[.slice A bs.length c, .int .i64 0, .int .i64 seed] ∧ Ext w wr) (fun i _ => bs.length - (intOf i).toNat)
 case atStart => exact ⟨0, 51031, by omega, by omega, by omega, rfl, Blk.eq (bN (by omega)) (by rfl), xA xR⟩
 case round =>
  obtain ⟨k, seed, hk, hs0, hs1, rfl, hB, hxr⟩ := hrel
  have f2 : wr.cell? ⟨w.heap.size, 2, none⟩ = some (.int .i64 seed) := hB.cell 2
  have z2 := hB.frozen 2
  have zlt := hB.lt
  by_cases hlt : k < bs.length
  ·by_cases h64 : (k : Int) < 64
   ·obtain ⟨b, off, y, rfl, hbw, hc, hy0, hy1⟩ := (h.ext hxr).byt hlt HB.out
    go_wp2
    go_region
    go_wp2
    go_roundw
    case rel => exact ⟨k + 1, (seed * 73 + y) % 2147483647, by omega, by omega, by omega, by go_num, Blk.eq (bD (bS hB)) (by rfl), xD (xC (by omega) hxr)⟩
    case measure => simp [intOf]; omega
   ·go_wp2
    go_ret
    exact ⟨_, rfl, hxr, Nat.le_refl _, h, HB.out, hl, 0, seed, by omega, hs0, hs1, hB⟩
  ·go_wp2
   go_ret
   exact ⟨_, rfl, hxr, Nat.le_refl _, h, HB.out, hl, 0, seed, by omega, hs0, hs1, hB⟩
set_option maxHeartbeats 3200000 in
theorem s_l01Next {a : World} {A : Option Addr} {c : Nat} {bs : List Int} {g : Nat} (n : Int) (w : World) (h : Src a A c bs g w) (hn : n ≤ 1000000000000) :
  Calls Tryz.prog 36 #[.pointer (some ⟨g, 0, none⟩), .int .i64 n] w fun e w' => ∃ x : Int, e = .returned (.int .i64 x) ∧ (0 ≤ x ∧ (x < n ∨ x = 0)) ∧ Src a A c bs g w' ∧ But g w w' := by
 by_cases h1 : n ≤ 1
 ·go_enter Tryz.func36, Tryz.ntmps36
  go_wp2
  go_ret
  exact ⟨0, rfl, by omega, h, uR⟩
 ·obtain ⟨hx, hg, hcode, hb, hl, k, seed, hk, hs0, hs1, hB⟩ := h
  have HB := hI hb
  clear hb
  have f0 : w.cell? ⟨g, 0, none⟩ = some (.slice A bs.length c) := hB.cell 0
  have f1 : w.cell? ⟨g, 1, none⟩ = some (.int .i64 k) := hB.cell 1
  have f2 : w.cell? ⟨g, 2, none⟩ = some (.int .i64 seed) := hB.cell 2
  have z1 := hB.frozen 1
  have z2 := hB.frozen 2
  have zlt := hB.lt
  by_cases hlt : k < bs.length
  ·obtain ⟨b, off, y, rfl, hbw, hc0, hy0, hy1⟩ := hcode.byt hlt HB.out
   have hc := (hx.cell b (off + k) hbw).trans hc0
   have hbr := Nat.lt_of_lt_of_le hbw hx.size
   have n1 : ¬ b = g := by omega
   have n2 : ¬ g = b := by omega
   clear hc0
   go_enter Tryz.func36, Tryz.ntmps36
   go_wp2
   repeat (go_quiet (fail); go_wp2)
   all_goals (go_ret; exact ⟨_, rfl, ⟨Int.emod_nonneg _ (by omega), Or.inl (Int.emod_lt_of_pos _ (by omega))⟩, ⟨by with_reducible first|exact xC hg (xN (xC hg hx))|exact xN (xC hg (xN (xC hg hx))), hg, hcode, HB.out, hl, k + 1, (seed * 48271 + 29) % 2147483647, by omega, by omega, by omega, Blk.eq (by with_reducible first|exact bS (bM (bS hB))|exact bM (bS (bM (bS hB)))) (by rfl)⟩, by with_reducible first|exact uS (uM (uS uR))|exact uM (uS (uM (uS uR)))⟩)
  ·go_enter Tryz.func36, Tryz.ntmps36
   go_wp2
   repeat (go_quiet (fail); go_wp2)
   all_goals (go_ret; exact ⟨_, rfl, ⟨Int.emod_nonneg _ (by omega), Or.inl (Int.emod_lt_of_pos _ (by omega))⟩, ⟨xN (xC hg hx), hg, hcode, HB.out, hl, k, (seed * 48271 + 29) % 2147483647, by omega, by omega, by omega, Blk.eq (bM (bS hB)) (by rfl)⟩, uM (uS uR)⟩)
def encI (b : Int) : List Value := [.int .i64 b]
theorem SlAt.num {w : World} {b off : Nat} {xs : List Int} (h : SlAt w 1 encI (some ⟨b, off, none⟩) xs) {k : Nat} (hk : k < xs.length) : w.cell? ⟨b, off + k, none⟩ = some (.int .i64 xs[k]) := by
 obtain ⟨b', off', e, _, hc⟩ := h (by omega)
 injection e with e
 injection e with e1 e2
 subst e1 e2
 simpa using hc k _ (List.getElem?_eq_getElem hk) 0 _ rfl
set_option maxHeartbeats 1600000 in
theorem s_l01Pick {a : World} {A : Option Addr} {c : Nat} {bs : List Int} {g : Nat} (b off cc : Nat) (xs : List Int) (w : World) (h : Src a A c bs g w) (hx : SlAt w 1 encI (some ⟨b, off, none⟩) xs) (h0 : 0 < xs.length) (hl : xs.length ≤ 1000000) (hb : b < w.heap.size) (hg : ¬ b = g) :
  Calls Tryz.prog 37 #[.pointer (some ⟨g, 0, none⟩), .slice (some ⟨b, off, none⟩) xs.length cc] w fun e w' => ∃ x : Int, e = .returned (.int .i64 x) ∧ x ∈ xs ∧ Src a A c bs g w' ∧ But g w w' := by
 go_enter Tryz.func37, Tryz.ntmps37
 (go_wp2_with fail; refine (s_l01Next (a := a) (A := A) (c := c) (bs := bs) _ _ h (by omega)).mono ?_; rintro e w1 ⟨x1, rfl, hb1, hS1, hu1⟩; obtain ⟨hc1, hf1, hs1⟩ := hu1.all; (try simp at hs1); have := (show b < w1.heap.size from by omega))
 obtain ⟨k, rfl⟩ := Int.eq_ofNat_of_zero_le hb1.1
 have hk : k < xs.length := by omega
 have hcell := hx.num hk
 go_wp2
 go_ret
 exact ⟨xs[k], rfl, List.getElem_mem hk, hS1, hu1⟩
theorem ret_pts1 {P : Program} {fn : Func} {R : Ending → World → Prop} {a : Act} {W : World} {b0 : Nat} {t : TypeId} {x0 x1 v : Value} (h0 : Blk W b0 t #[x0, x1]) (hd : a.defers = [])
  (hres : ∀ W' : World, W'.cell? ⟨b0, 0, none⟩ = some x0 → W'.cell? ⟨b0, 1, none⟩ = some x1 → (results fn a.tmps).run P W' = .ok v W') (hR : R (.returned v) W) : bodyPost P fn R .ret a W :=
 bodyPost_ret (hres W (h0.cell 0) (h0.cell 1)) hd hR
theorem ret_pts2 {P : Program} {fn : Func} {R : Ending → World → Prop} {a : Act} {W : World} {b0 b1 : Nat} {t : TypeId} {x0 x1 y0 y1 v : Value} (h0 : Blk W b0 t #[x0, x1]) (h1 : Blk W b1 t #[y0, y1]) (hd : a.defers = [])
  (hres : ∀ W' : World, W'.cell? ⟨b0, 0, none⟩ = some x0 → W'.cell? ⟨b0, 1, none⟩ = some x1 → W'.cell? ⟨b1, 0, none⟩ = some y0 → W'.cell? ⟨b1, 1, none⟩ = some y1 → (results fn a.tmps).run P W' = .ok v W') (hR : R (.returned v) W) : bodyPost P fn R .ret a W :=
 bodyPost_ret (hres W (h0.cell 0) (h0.cell 1) (h1.cell 0) (h1.cell 1)) hd hR
theorem Src.base {w a wk : World} {A : Option Addr} {c : Nat} {bs : List Int} {g : Nat} (h : Src a A c bs g wk) (hx : Ext w a) (hc : SlAt w 1 encB A bs) : Src w A c bs g wk :=
 ⟨hx.trans h.ext, Nat.le_trans hx.size h.own, hc, h.byt, h.len, h.blk⟩
end Go.Proofs.YtlnliajnipniaaaGreatDoor
namespace Go.Proofs.YtlnliajnipniaaaGreatDoor
open Go.RowKit
end Go.Proofs.YtlnliajnipniaaaGreatDoor
