/- Contracts of the draws: a source of numbers, walked over the translation. -/
import Derived.Test.YtjjhhclaapifbaaDoorA
import Derived.Test.YtjjhhclaapifbaaDoorQ
import Derived.Deep.RegionHeld3
import Derived.Deep.DeepCutAuto
import Derived.RegionTactic
import Derived.BigRegion
import Derived.WalkLawsBesides
import Derived.WalkSpells
import Derived.Lib.MinMax
import Derived.Outline
namespace Go.Proofs.YtjjhhclaapifbaaDoor
open Go.RowKit
attribute [local go_sem] ExtOf.cell ExtOf.frozen







def encB (b : Int) : List Value := [.int .u8 b]
/-- w' is w with new blocks behind; of the old ones only g may have turned -/
structure But (g : Nat) (w w' : World) : Prop where
  os : w'.os = w.os
  tape : w'.tape = w.tape
  output : w'.output = w.output
  size : w.heap.size ≤ w'.heap.size
  block : ∀ k, k < w.heap.size → k ≠ g → w'.heap[k]? = w.heap[k]?
theorem But.refl (g : Nat) (w : World) : But g w w := ⟨rfl, rfl, rfl, Nat.le_refl _, fun _ _ _ => rfl⟩
theorem But.trans {g : Nat} {a b c : World} (h : But g a b) (k : But g b c) : But g a c :=
  ⟨k.os.trans h.os, k.tape.trans h.tape, k.output.trans h.output, Nat.le_trans h.size k.size, fun i hi hg => (k.block i (Nat.lt_of_lt_of_le hi h.size) hg).trans (h.block i hi hg)⟩
theorem But.of {g : Nat} {a b : World} (h : Ext a b) : But g a b := ⟨h.os, h.tape, h.output, h.size, fun k hk _ => h.block k hk⟩
theorem But.alloc {g : Nat} {a w : World} (h : But g a w) (o : Obj) : But g a (w.alloc o) := h.trans (.of ((Ext.refl _).alloc o))
theorem But.drew {g : Nat} {a w : World} (h : But g a w) : But g a w.drew := h.trans (.of (Ext.refl _).drew)
theorem But.drewN {g : Nat} {a w : World} (h : But g a w) (n : Nat) : But g a (w.drewN n) := h.trans (.of ((Ext.refl _).drewN n))
theorem But.set_ {g : Nat} {a w : World} (h : But g a w) (i : Nat) (u : Value) : But g a (w.setCell ⟨g, i, none⟩ u) :=
  h.trans ⟨rfl, rfl, rfl, by simp [World.setCell], fun k _ hk => Below.heap_setCell _ _ _ _ hk⟩
theorem But.new {g : Nat} {a w : World} {p : Addr} (hp : a.heap.size ≤ p.block) (h : But g a w) (u : Value) : But g a (w.setCell p u) :=
  ⟨h.os, h.tape, h.output, by simpa [World.setCell] using h.size, fun k hk hg => (Below.heap_setCell _ _ _ _ (by omega)).trans (h.block k hk hg)⟩
theorem But.rules {g : Nat} {a w : World} (h : But g a w) : (∀ b o, b < a.heap.size → ¬ b = g → w.cell? ⟨b, o, none⟩ = a.cell? ⟨b, o, none⟩) ∧ (∀ b o, b < a.heap.size → ¬ b = g → w.frozen? ⟨b, o, none⟩ = a.frozen? ⟨b, o, none⟩) :=
  ⟨fun b _ hb hg => World.cell?_of_block (h.block b hb hg), fun b _ hb hg => World.frozen?_of_block (h.block b hb hg)⟩
theorem But.ext {g : Nat} {a w w' : World} (h : But g w w') (hx : Ext a w) (hg : a.heap.size ≤ g) : Ext a w' :=
  ⟨h.os.trans hx.os, h.tape.trans hx.tape, h.output.trans hx.output, Nat.le_trans hx.size h.size, fun k hk => (h.block k (Nat.lt_of_lt_of_le hk hx.size) (by omega)).trans (hx.block k hk)⟩
theorem Blk.but' {g q : Nat} {t : TypeId} {cs : Array Value} {w w' : World} (h : But q w w') (hg : ¬ g = q) (hB : Blk w g t cs) : Blk w' g t cs := (h.block g hB.lt hg).trans hB
theorem SlAt.byt {w : World} {A : Option Addr} {bs : List Int} (h : SlAt w 1 encB A bs) {k : Nat} (hk : k < bs.length) (hb : ∀ b ∈ bs, 0 ≤ b ∧ b ≤ 255) :
    ∃ b off y, A = some ⟨b, off, none⟩ ∧ b < w.heap.size ∧ w.cell? ⟨b, off + k, none⟩ = some (.int .u8 y) ∧ 0 ≤ y ∧ y ≤ 255 := by
  obtain ⟨b, off, e, hB, hc⟩ := h (by omega)
  have hg : bs[k]? = some bs[k] := List.getElem?_eq_getElem hk
  have := hb bs[k] (List.getElem_mem hk)
  exact ⟨b, off, bs[k], e, hB, by simpa using hc k _ hg 0 _ rfl, this.1, this.2⟩

def encI (b : Int) : List Value := [.int .i64 b]
theorem SlAt.num {w : World} {b off : Nat} {xs : List Int} (h : SlAt w 1 encI (some ⟨b, off, none⟩) xs) {k : Nat} (hk : k < xs.length) : w.cell? ⟨b, off + k, none⟩ = some (.int .i64 xs[k]) := by
  obtain ⟨b', off', e, _, hc⟩ := h (by omega)
  injection e with e
  injection e with e1 e2
  subst e1 e2
  simpa using hc k _ (List.getElem?_eq_getElem hk) 0 _ rfl
theorem ret_pts1 {P : Program} {fn : Func} {R : Ending → World → Prop} {a : Act} {W : World} {b0 : Nat} {t : TypeId} {x0 x1 v : Value} (h0 : Blk W b0 t #[x0, x1]) (hd : a.defers = [])
    (hres : ∀ W' : World, W'.cell? ⟨b0, 0, none⟩ = some x0 → W'.cell? ⟨b0, 1, none⟩ = some x1 → (results fn a.tmps).run P W' = .ok v W') (hR : R (.returned v) W) : bodyPost P fn R .ret a W :=
  bodyPost_ret (hres W (h0.cell 0) (h0.cell 1)) hd hR
theorem ret_pts2 {P : Program} {fn : Func} {R : Ending → World → Prop} {a : Act} {W : World} {b0 b1 : Nat} {t : TypeId} {x0 x1 y0 y1 v : Value} (h0 : Blk W b0 t #[x0, x1]) (h1 : Blk W b1 t #[y0, y1]) (hd : a.defers = [])
    (hres : ∀ W' : World, W'.cell? ⟨b0, 0, none⟩ = some x0 → W'.cell? ⟨b0, 1, none⟩ = some x1 → W'.cell? ⟨b1, 0, none⟩ = some y0 → W'.cell? ⟨b1, 1, none⟩ = some y1 → (results fn a.tmps).run P W' = .ok v W') (hR : R (.returned v) W) : bodyPost P fn R .ret a W :=
  bodyPost_ret (hres W (h0.cell 0) (h0.cell 1) (h1.cell 0) (h1.cell 1)) hd hR
theorem ret_pts3 {P : Program} {fn : Func} {R : Ending → World → Prop} {a : Act} {W : World} {b0 b1 b2 : Nat} {t : TypeId} {x0 x1 y0 y1 z0 z1 v : Value} (h0 : Blk W b0 t #[x0, x1]) (h1 : Blk W b1 t #[y0, y1]) (h2 : Blk W b2 t #[z0, z1]) (hd : a.defers = [])
    (hres : ∀ W' : World, W'.cell? ⟨b0, 0, none⟩ = some x0 → W'.cell? ⟨b0, 1, none⟩ = some x1 → W'.cell? ⟨b1, 0, none⟩ = some y0 → W'.cell? ⟨b1, 1, none⟩ = some y1 → W'.cell? ⟨b2, 0, none⟩ = some z0 → W'.cell? ⟨b2, 1, none⟩ = some z1 → (results fn a.tmps).run P W' = .ok v W') (hR : R (.returned v) W) : bodyPost P fn R .ret a W :=
  bodyPost_ret (hres W (h0.cell 0) (h0.cell 1) (h1.cell 0) (h1.cell 1) (h2.cell 0) (h2.cell 1)) hd hR
theorem ret_pts4 {P : Program} {fn : Func} {R : Ending → World → Prop} {a : Act} {W : World} {b0 b1 b2 b3 : Nat} {t : TypeId} {x0 x1 y0 y1 z0 z1 u0 u1 v : Value} (h0 : Blk W b0 t #[x0, x1]) (h1 : Blk W b1 t #[y0, y1]) (h2 : Blk W b2 t #[z0, z1]) (h3 : Blk W b3 t #[u0, u1]) (hd : a.defers = [])
    (hres : ∀ W' : World, W'.cell? ⟨b0, 0, none⟩ = some x0 → W'.cell? ⟨b0, 1, none⟩ = some x1 → W'.cell? ⟨b1, 0, none⟩ = some y0 → W'.cell? ⟨b1, 1, none⟩ = some y1 → W'.cell? ⟨b2, 0, none⟩ = some z0 → W'.cell? ⟨b2, 1, none⟩ = some z1 → W'.cell? ⟨b3, 0, none⟩ = some u0 → W'.cell? ⟨b3, 1, none⟩ = some u1 → (results fn a.tmps).run P W' = .ok v W') (hR : R (.returned v) W) : bodyPost P fn R .ret a W :=
  bodyPost_ret (hres W (h0.cell 0) (h0.cell 1) (h1.cell 0) (h1.cell 1) (h2.cell 0) (h2.cell 1) (h3.cell 0) (h3.cell 1)) hd hR

end Go.Proofs.YtjjhhclaapifbaaDoor
