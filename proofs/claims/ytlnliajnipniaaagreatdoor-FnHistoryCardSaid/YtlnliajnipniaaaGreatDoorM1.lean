/- Contracts of marks in lists of texts, walked over the translation. Words for memory turned between two bounds. Contracts of the laws over spans, links and names, walked over the translation. -/
import Derived.Test.YtlnliajnipniaaaGreatDoorZ0
namespace Go.Proofs.YtlnliajnipniaaaGreatDoor
open Go.RowKit
attribute [local go_sem] ExtOf.cell ExtOf.frozen
theorem ret_b5 {P : Program} {fn : Func} {R : Ending → World → Prop} {a : Act} {W : World} {b0 : Nat} {t : TypeId} {x0 x1 x2 x3 x4 v : Value} (h0 : Blk W b0 t #[x0, x1, x2, x3, x4]) (hd : a.defers = [])
  (hres : ∀ W' : World, W'.cell? ⟨b0, 0, none⟩ = some x0 → W'.cell? ⟨b0, 1, none⟩ = some x1 → W'.cell? ⟨b0, 2, none⟩ = some x2 → W'.cell? ⟨b0, 3, none⟩ = some x3 → W'.cell? ⟨b0, 4, none⟩ = some x4 → (results fn a.tmps).run P W' = .ok v W') (hR : R (.returned v) W) : bodyPost P fn R .ret a W :=
 bodyPost_ret (hres W (h0.cell 0) (h0.cell 1) (h0.cell 2) (h0.cell 3) (h0.cell 4)) hd hR
end Go.Proofs.YtlnliajnipniaaaGreatDoor
