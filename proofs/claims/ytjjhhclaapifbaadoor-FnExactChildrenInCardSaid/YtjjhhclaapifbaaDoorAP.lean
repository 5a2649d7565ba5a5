/- Lists of points that the call itself gathers by append: in words of SlAt. -/
import Derived.Test.YtjjhhclaapifbaaDoorJ
import Derived.Laws.AppendOwn
namespace Go.Proofs.YtjjhhclaapifbaaDoor
open Go.RowKit
theorem But.grown {g : Nat} {w w' : World} (h : But g w w') : w.grownBy w' (some g) := ⟨h.os, h.tape, h.output, h.size, fun k hk hn => h.block k hk (fun e => hn (by rw [e]))⟩
theorem SlAt.but {w w' : World} {g : Nat} {A : Option Addr} {ps : List (Int × Int)} (h : SlAt w 2 encP A ps) (hu : But g w w') (hg : ∀ q, A = some q → g < q.block) : SlAt w' 2 encP A ps := fun hn => by
  obtain ⟨b, off, e, hb, hc⟩ := h hn
  have hb' : g < b := hg _ e
  exact ⟨b, off, e, Nat.lt_of_lt_of_le hb hu.size, fun i x hi j v hj => (World.cell?_of_block (w := w) (hu.block b hb (by omega))).trans (hc i x hi j v hj)⟩
end Go.Proofs.YtjjhhclaapifbaaDoor
