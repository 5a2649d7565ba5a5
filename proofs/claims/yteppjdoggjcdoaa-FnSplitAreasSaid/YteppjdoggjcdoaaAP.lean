/- Lists of points that the call itself gathers by append: in words of SlAt. -/
import Derived.Test.YteppjdoggjcdoaaJ
import Derived.Laws.AppendOwn
namespace Go.Proofs.Yteppjdoggjcdoaa
open Go.RowKit
/-- the slice value v owns the points ps, in a row from base on -/
def OwnP (w : World) (base : Nat) (v : Value) (ps : List (Int × Int)) : Prop := w.ownsRow base 33 2 v ps.length (ps.flatMap encP)
theorem OwnP.nil (w : World) (base : Nat) : OwnP w base (.slice none 0 0) [] := World.ownsRow_nil w base _ 2
theorem OwnP.sl {w : World} {base : Nat} {v : Value} {ps : List (Int × Int)} (h : OwnP w base v ps) : ∃ A c, v = .slice A ps.length c ∧ SlAt w 2 encP A ps ∧ ps.length ≤ c ∧ ∀ q, A = some q → base ≤ q.block := by
  obtain ⟨hl, h | ⟨g, cap, cur, hv, hb, hcell, hn, hm, hs, ht⟩⟩ := h
  · have : ps = [] := List.length_eq_zero_iff.1 h.2
    subst this
    exact ⟨none, 0, h.1, SlAt.nil, Nat.le_refl _, fun q e => by cases e⟩
  · refine ⟨some ⟨g, 0, none⟩, cap, hv, fun _ => ⟨g, 0, rfl, (Array.getElem?_eq_some_iff.1 hcell).1, fun i x hi j u hj => ?_⟩, hn, fun q e => by injection e with e; subst e; exact hb⟩
    have hfm := flatMap_at (enc := encP) (sz := 2) (fun _ => rfl) ps i x j u hi hj
    rw [← ht] at hfm
    rw [cell_of_row w g _ cur _ (0, 0) hcell, ← Array.getElem?_toList, Nat.zero_add]
    rw [List.getElem?_take] at hfm
    split at hfm
    · exact hfm
    · cases hfm
theorem OwnP.row {w : World} {base : Nat} {v : Value} {ps : List (Int × Int)} (h : OwnP w base v ps) : ∀ k, v.ownBlock = some k → base ≤ k ∧ k < w.heap.size := World.ownsRow.lt h
theorem OwnP.alloc {w : World} {base : Nat} {v : Value} {ps : List (Int × Int)} (h : OwnP w base v ps) (o : Obj) : OwnP (w.alloc o) base v ps := World.ownsRow.alloc h o
theorem But.grown {g : Nat} {w w' : World} (h : But g w w') : w.grownBy w' (some g) := ⟨h.os, h.tape, h.output, h.size, fun k hk hn => h.block k hk (fun e => hn (by rw [e]))⟩
theorem OwnP.but {w w' : World} {base g : Nat} {v : Value} {ps : List (Int × Int)} (h : OwnP w base v ps) (hu : But g w w') (hg : g < base) : OwnP w' base v ps :=
  World.ownsRow.kept h hu.grown (.inr fun e => by have := (h.row g e).1; omega)
theorem OwnP.ext {w w' : World} {base : Nat} {v : Value} {ps : List (Int × Int)} (h : OwnP w base v ps) (hx : Ext w w') : OwnP w' base v ps :=
  World.ownsRow.kept (row := none) h ⟨hx.os, hx.tape, hx.output, hx.size, fun k hk _ => hx.block k hk⟩ (by
    rcases hv : v.ownBlock with _ | k
    · exact .inl rfl
    · exact .inr (by simp))
theorem Src.grown {a w w' : World} {A : Option Addr} {c : Nat} {bs : List Int} {g : Nat} {row : Option Nat} (h : Src a A c bs g w) (hg : w.grownBy w' row) (hr : ∀ k, row = some k → g < k) : Src a A c bs g w' := by
  obtain ⟨k, s, h1, h2, h3, hB⟩ := h.blk
  exact ⟨h.ext.grown hg (fun k hk => by have := hr k hk; have := h.own; omega), h.own, h.code, h.byt, h.len, k, s, h1, h2, h3, (hg.block g hB.lt (fun e => by have := hr g e.symm; omega)).trans hB⟩
theorem SlAt.but {w w' : World} {g : Nat} {A : Option Addr} {ps : List (Int × Int)} (h : SlAt w 2 encP A ps) (hu : But g w w') (hg : ∀ q, A = some q → g < q.block) : SlAt w' 2 encP A ps := fun hn => by
  obtain ⟨b, off, e, hb, hc⟩ := h hn
  have hb' : g < b := hg _ e
  exact ⟨b, off, e, Nat.lt_of_lt_of_le hb hu.size, fun i x hi j v hj => (World.cell?_of_block (w := w) (hu.block b hb (by omega))).trans (hc i x hi j v hj)⟩
end Go.Proofs.Yteppjdoggjcdoaa
