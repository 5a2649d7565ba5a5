/- Lists of links that are drawn. Draws of links, a place and a year. -/
import Derived.Test.YtabdffponmmhoaaGreatDoorW4
import Derived.Test.YtabdffponmmhoaaGreatDoorW2
namespace Go.Proofs.YtabdffponmmhoaaGreatDoor
open Go.RowKit
attribute [local go_sem] ExtOf.cell ExtOf.frozen

theorem Own.but {α : Type} {enc : α → List Value} {sz g base : Nat} {t : TypeId} {w w' : World} {v : Value} {xs : List α} (h : Own enc sz t w base v xs) (hm : But g w w') (hb : g < base) : Own enc sz t w' base v xs := by
  refine ⟨h.1, ?_⟩
  rcases h.2 with hn | ⟨q, cap, cur, rfl, hbb, hgg, rest⟩
  · exact .inl hn
  · refine .inr ⟨q, cap, cur, rfl, hbb, ?_, rest⟩
    rw [hm.block q (Array.getElem?_eq_some_iff.1 hgg).1 (by omega)]
    exact hgg

theorem Src.grownR {a w w' : World} {A : Option Addr} {c : Nat} {bs : List Int} {g : Nat} {row : Option Nat} (h : Src a A c bs g w) (hg : w.grownBy w' row) (hr : ∀ q, row = some q → g < q) : Src a A c bs g w' := by
  obtain ⟨k, s, h1, h2, h3, hB⟩ := h.blk
  exact ⟨h.ext.grown hg (fun q hq => by have := hr q hq; have := h.own; omega), h.own, h.code, h.byt, h.len, k, s, h1, h2, h3, (hg.block g h.lt (fun e => by have := hr g e.symm; omega)).trans hB⟩
theorem But.grownR {a w w' : World} {g : Nat} {row : Option Nat} (h : But g a w) (hg : w.grownBy w' row) (hr : ∀ q, row = some q → a.heap.size ≤ q) : But g a w' :=
  ⟨hg.os.trans h.os, hg.tape.trans h.tape, hg.output.trans h.output, Nat.le_trans h.size hg.size, fun k hk hc => (hg.block k (Nat.lt_of_lt_of_le hk h.size) (fun e => by have := hr k e.symm; omega)).trans (h.block k hk hc)⟩
def LnkOk (l : Lk) : Prop := l.1.length ≤ 17 ∧ l.2.1.length ≤ 17 ∧ (-3001 ≤ l.2.2.1 ∧ l.2.2.1 ≤ 3001) ∧ (-3001 ≤ l.2.2.2 ∧ l.2.2.2 ≤ 3001)
def LnksOk (L : List Lk) : Prop := ∀ l ∈ L, LnkOk l
theorem LnksOk.snoc {L : List Lk} {l : Lk} (h : LnksOk L) (hl : LnkOk l) : LnksOk (L ++ [l]) := fun x hx => by
  rcases List.mem_append.1 hx with h1 | h1
  · exact h x h1
  · rw [List.mem_singleton.1 h1]; exact hl
theorem LnksOk.at {L : List Lk} (h : LnksOk L) (j : Nat) : LnkOk (L.getD j lkD) := by
  rcases Nat.lt_or_ge j L.length with c | c
  · have : L.getD j lkD ∈ L := by simp [List.getD, c]
    exact h _ this
  · rw [List.getD, List.getElem?_eq_none c]; exact ⟨by simp [lkD], by simp [lkD], by simp [lkD], by simp [lkD]⟩
theorem LnksOk.links {L : List Lk} (h : LnksOk L) : Links L := fun j => by
  have := h.at j
  exact ⟨by have := this.1; omega, by have := this.2.1; omega⟩
def lenV : Value → Nat
  | .slice _ n _ => n
  | _ => 0


end Go.Proofs.YtabdffponmmhoaaGreatDoor
namespace Go.Proofs.YtabdffponmmhoaaGreatDoor
open Go.RowKit
attribute [local go_sem] ExtOf.cell ExtOf.frozen

theorem SlAt.butG {α : Type} {enc : α → List Value} {sz g : Nat} {w w' : World} {A : Option Addr} {xs : List α} (h : SlAt w sz enc A xs) (hm : But g w w') (ha : ∀ q, A = some q → ¬ q.block = g) : SlAt w' sz enc A xs := fun hn => by
  obtain ⟨b, off, e, hb, hc⟩ := h hn
  refine ⟨b, off, e, Nat.lt_of_lt_of_le hb hm.size, fun i x hi j u hj => ?_⟩
  exact (World.cell?_of_block (a := ⟨b, off + i * sz + j, none⟩) (hm.block b hb (ha _ e))).trans (hc i x hi j u hj)


end Go.Proofs.YtabdffponmmhoaaGreatDoor
