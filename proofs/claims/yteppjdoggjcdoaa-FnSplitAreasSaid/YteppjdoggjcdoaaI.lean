/- Contracts of the draws: a source of numbers, walked over the translation. -/
import Derived.Test.YteppjdoggjcdoaaA
import Derived.Test.YteppjdoggjcdoaaQ
import Derived.Deep.RegionHeld3
import Derived.Deep.DeepCutAuto
import Derived.RegionTactic
import Derived.BigRegion
import Derived.WalkLawsBesides
import Derived.WalkSpells
import Derived.Lib.MinMax
import Derived.Outline
namespace Go.Proofs.Yteppjdoggjcdoaa
open Go.RowKit
attribute [local go_sem] ExtOf.cell ExtOf.frozen







def encB (b : Int) : List Value := [.int .u8 b]
/-- w' is w with new blocks behind; of the old ones only g may have turned -/
structure But (g : Nat) (w w' : World) : Prop where
  os : w'.os = w.os
  tape : w'.tape = w.tape
  output : w'.output = w.output
  size : w.heap.size ≤ w'.heap.size
  block : ∀ k, k < w.heap.size → k ≠ g → w'.heap[k]? = w.heap[k]?
theorem But.refl (g : Nat) (w : World) : But g w w := ⟨rfl, rfl, rfl, Nat.le_refl _, fun _ _ _ => rfl⟩
theorem But.trans {g : Nat} {a b c : World} (h : But g a b) (k : But g b c) : But g a c :=
  ⟨k.os.trans h.os, k.tape.trans h.tape, k.output.trans h.output, Nat.le_trans h.size k.size, fun i hi hg => (k.block i (Nat.lt_of_lt_of_le hi h.size) hg).trans (h.block i hi hg)⟩
theorem But.of {g : Nat} {a b : World} (h : Ext a b) : But g a b := ⟨h.os, h.tape, h.output, h.size, fun k hk _ => h.block k hk⟩
theorem But.alloc {g : Nat} {a w : World} (h : But g a w) (o : Obj) : But g a (w.alloc o) := h.trans (.of ((Ext.refl _).alloc o))
theorem But.drew {g : Nat} {a w : World} (h : But g a w) : But g a w.drew := h.trans (.of (Ext.refl _).drew)
theorem But.drewN {g : Nat} {a w : World} (h : But g a w) (n : Nat) : But g a (w.drewN n) := h.trans (.of ((Ext.refl _).drewN n))
theorem But.set_ {g : Nat} {a w : World} (h : But g a w) (i : Nat) (u : Value) : But g a (w.setCell ⟨g, i, none⟩ u) :=
  h.trans ⟨rfl, rfl, rfl, by simp [World.setCell], fun k _ hk => Below.heap_setCell _ _ _ _ hk⟩
theorem But.new {g : Nat} {a w : World} {p : Addr} (hp : a.heap.size ≤ p.block) (h : But g a w) (u : Value) : But g a (w.setCell p u) :=
  ⟨h.os, h.tape, h.output, by simpa [World.setCell] using h.size, fun k hk hg => (Below.heap_setCell _ _ _ _ (by omega)).trans (h.block k hk hg)⟩
theorem But.rules {g : Nat} {a w : World} (h : But g a w) : (∀ b o, b < a.heap.size → ¬ b = g → w.cell? ⟨b, o, none⟩ = a.cell? ⟨b, o, none⟩) ∧ (∀ b o, b < a.heap.size → ¬ b = g → w.frozen? ⟨b, o, none⟩ = a.frozen? ⟨b, o, none⟩) :=
  ⟨fun b _ hb hg => World.cell?_of_block (h.block b hb hg), fun b _ hb hg => World.frozen?_of_block (h.block b hb hg)⟩
theorem But.ext {g : Nat} {a w w' : World} (h : But g w w') (hx : Ext a w) (hg : a.heap.size ≤ g) : Ext a w' :=
  ⟨h.os.trans hx.os, h.tape.trans hx.tape, h.output.trans hx.output, Nat.le_trans hx.size h.size, fun k hk => (h.block k (Nat.lt_of_lt_of_le hk hx.size) (by omega)).trans (hx.block k hk)⟩
theorem Blk.but' {g q : Nat} {t : TypeId} {cs : Array Value} {w w' : World} (h : But q w w') (hg : ¬ g = q) (hB : Blk w g t cs) : Blk w' g t cs := (h.block g hB.lt hg).trans hB
/-- g is a source of numbers over the code bs, made after a -/
structure Src (a : World) (A : Option Addr) (c : Nat) (bs : List Int) (g : Nat) (w : World) : Prop where
  ext : Ext a w
  own : a.heap.size ≤ g
  code : SlAt a 1 encB A bs
  byt : ∀ b ∈ bs, 0 ≤ b ∧ b ≤ 255
  len : bs.length ≤ 4096
  blk : ∃ (k : Nat) (seed : Int), k ≤ bs.length ∧ 0 ≤ seed ∧ seed < 2147483647 ∧ Blk w g 106 #[.slice A bs.length c, .int .i64 k, .int .i64 seed]
section
variable {a w w' : World} {A : Option Addr} {c : Nat} {bs : List Int} {g : Nat}
theorem Src.lt (h : Src a A c bs g w) : g < w.heap.size := by
  obtain ⟨_, _, _, _, _, hB⟩ := h.blk
  exact hB.lt
theorem Src.on (h : Src a A c bs g w) (hx : Ext w w') : Src a A c bs g w' := by
  obtain ⟨k, s, h1, h2, h3, hB⟩ := h.blk
  exact ⟨h.ext.trans hx, h.own, h.code, h.byt, h.len, k, s, h1, h2, h3, hB.ext hx⟩
theorem Src.on' (hx : Ext w w') (h : Src a A c bs g w) : Src a A c bs g w' := h.on hx
theorem Src.alloc (h : Src a A c bs g w) (o : Obj) : Src a A c bs g (w.alloc o) := h.on ((Ext.refl _).alloc o)
theorem Src.drew (h : Src a A c bs g w) : Src a A c bs g w.drew := h.on (Ext.refl _).drew
theorem Src.drewN (h : Src a A c bs g w) (n : Nat) : Src a A c bs g (w.drewN n) := h.on ((Ext.refl _).drewN n)
theorem Src.far {p : Addr} (hp : ¬ g = p.block) (hq : a.heap.size ≤ p.block) (h : Src a A c bs g w) (u : Value) : Src a A c bs g (w.setCell p u) := by
  obtain ⟨k, s, h1, h2, h3, hB⟩ := h.blk
  exact ⟨h.ext.setCell hq u, h.own, h.code, h.byt, h.len, k, s, h1, h2, h3, hB.far hp u⟩
end
theorem SlAt.byt {w : World} {A : Option Addr} {bs : List Int} (h : SlAt w 1 encB A bs) {k : Nat} (hk : k < bs.length) (hb : ∀ b ∈ bs, 0 ≤ b ∧ b ≤ 255) :
    ∃ b off y, A = some ⟨b, off, none⟩ ∧ b < w.heap.size ∧ w.cell? ⟨b, off + k, none⟩ = some (.int .u8 y) ∧ 0 ≤ y ∧ y ≤ 255 := by
  obtain ⟨b, off, e, hB, hc⟩ := h (by omega)
  have hg : bs[k]? = some bs[k] := List.getElem?_eq_getElem hk
  have := hb bs[k] (List.getElem_mem hk)
  exact ⟨b, off, bs[k], e, hB, by simpa using hc k _ hg 0 _ rfl, this.1, this.2⟩

set_option maxHeartbeats 1600000 in
theorem s_l01From (A : Option Addr) (c : Nat) (bs : List Int) (w : World) (h : SlAt w 1 encB A bs) (hb : ∀ b ∈ bs, 0 ≤ b ∧ b ≤ 255) (hl : bs.length ≤ 4096) :
    Calls Try.prog 56 #[.slice A bs.length c] w fun e w' => ∃ g, e = .returned (.pointer (some ⟨g, 0, none⟩)) ∧ Src w A c bs g w' := by
  have HB := Lib.hid hb
  clear hb
  go_enter Try.func56, Try.ntmps56
  go_wp2
  go_loopw [4] (fun i wr => ∃ (k : Nat) (seed : Int), k ≤ bs.length ∧ 0 ≤ seed ∧ seed < 2147483647 ∧ i = .int .i64 k ∧ Blk wr w.heap.size 106 #[.slice A bs.length c, .int .i64 0, .int .i64 seed] ∧ Ext w wr) (fun i _ => bs.length - (intOf i).toNat)
  case atStart => exact ⟨0, 51031, by omega, by omega, by omega, rfl, Blk.eq (by (repeat (first | with_reducible assumption | ((with_reducible apply Blk.new); solve | simp | rfl) | with_reducible apply Blk.drew | with_reducible apply Blk.drewN | ((with_reducible apply Blk.far'); solve | omega | simp | (simp; omega)) | with_reducible apply Blk.set_ | with_reducible apply Blk.alloc | ((with_reducible apply Blk.ext'); with_reducible assumption) | ((with_reducible apply Blk.but'); (with_reducible assumption); solve | omega | (simp; omega))))) (by rfl), by (repeat (first | with_reducible exact Ext.refl _ | with_reducible assumption | ((with_reducible apply Src.ext); with_reducible assumption) | with_reducible refine Ext.alloc ?_ _ | with_reducible refine Ext.drew ?_ | with_reducible refine Ext.drewN ?_ _ | ((with_reducible refine Ext.setCell' ?_ ?_ _); solve | omega | simp | (simp; omega)) | (with_reducible refine Ext.trans ?_ (by with_reducible assumption))))⟩
  case round =>
    obtain ⟨k, seed, hk, hs0, hs1, rfl, hB, hxr⟩ := hrel
    have f2 : wr.cell? ⟨w.heap.size, 2, none⟩ = some (.int .i64 seed) := hB.cell 2
    have z2 := hB.frozen 2
    have zlt := hB.lt
    by_cases hlt : k < bs.length
    · by_cases h64 : (k : Int) < 64
      · obtain ⟨b, off, y, rfl, hbw, hc, hy0, hy1⟩ := (h.ext hxr).byt hlt HB.out
        go_wp2
        go_region
        go_wp2
        go_roundw
        case rel => exact ⟨k + 1, (seed * 73 + y) % 2147483647, by omega, by omega, by omega, by go_num, Blk.eq (by (repeat (first | with_reducible assumption | ((with_reducible apply Blk.new); solve | simp | rfl) | with_reducible apply Blk.drew | with_reducible apply Blk.drewN | ((with_reducible apply Blk.far'); solve | omega | simp | (simp; omega)) | with_reducible apply Blk.set_ | with_reducible apply Blk.alloc | ((with_reducible apply Blk.ext'); with_reducible assumption) | ((with_reducible apply Blk.but'); (with_reducible assumption); solve | omega | (simp; omega))))) (by rfl), by (repeat (first | with_reducible exact Ext.refl _ | with_reducible assumption | ((with_reducible apply Src.ext); with_reducible assumption) | with_reducible refine Ext.alloc ?_ _ | with_reducible refine Ext.drew ?_ | with_reducible refine Ext.drewN ?_ _ | ((with_reducible refine Ext.setCell' ?_ ?_ _); solve | omega | simp | (simp; omega)) | (with_reducible refine Ext.trans ?_ (by with_reducible assumption))))⟩
        case measure => simp [intOf]; omega
      · go_wp2
        go_ret
        exact ⟨_, rfl, hxr, Nat.le_refl _, h, HB.out, hl, 0, seed, by omega, hs0, hs1, hB⟩
    · go_wp2
      go_ret
      exact ⟨_, rfl, hxr, Nat.le_refl _, h, HB.out, hl, 0, seed, by omega, hs0, hs1, hB⟩

set_option maxHeartbeats 3200000 in
theorem s_l01Next {a : World} {A : Option Addr} {c : Nat} {bs : List Int} {g : Nat} (n : Int) (w : World) (h : Src a A c bs g w) (hn : n ≤ 1000000000000) :
    Calls Try.prog 71 #[.pointer (some ⟨g, 0, none⟩), .int .i64 n] w fun e w' => ∃ x : Int, e = .returned (.int .i64 x) ∧ (0 ≤ x ∧ (x < n ∨ x = 0)) ∧ Src a A c bs g w' ∧ But g w w' := by
  by_cases h1 : n ≤ 1
  · go_enter Try.func71, Try.ntmps71
    go_wp2
    go_ret
    exact ⟨0, rfl, by omega, by (repeat (first | with_reducible assumption | with_reducible refine Src.alloc ?_ _ | with_reducible refine Src.drew ?_ | with_reducible refine Src.drewN ?_ _ | ((with_reducible refine Src.far ?_ ?_ ?_ _); (solve | omega | (simp; omega) | simp); (solve | omega | (simp; omega) | simp)) | ((with_reducible apply Src.on'); with_reducible assumption))), by (repeat (first | with_reducible exact But.refl _ _ | with_reducible assumption | with_reducible refine But.alloc ?_ _ | with_reducible refine But.drew ?_ | with_reducible refine But.drewN ?_ _ | with_reducible refine But.set_ ?_ _ _ | ((with_reducible refine But.new ?_ ?_ _); solve | omega | simp | (simp; omega)) | (with_reducible refine But.trans ?_ (by with_reducible assumption)) | (with_reducible refine But.trans ?_ (But.of (by with_reducible assumption)))))⟩
  · obtain ⟨hx, hg, hcode, hb, hl, k, seed, hk, hs0, hs1, hB⟩ := h
    have HB := Lib.hid hb
    clear hb
    have f0 : w.cell? ⟨g, 0, none⟩ = some (.slice A bs.length c) := hB.cell 0
    have f1 : w.cell? ⟨g, 1, none⟩ = some (.int .i64 k) := hB.cell 1
    have f2 : w.cell? ⟨g, 2, none⟩ = some (.int .i64 seed) := hB.cell 2
    have z1 := hB.frozen 1
    have z2 := hB.frozen 2
    have zlt := hB.lt
    by_cases hlt : k < bs.length
    · obtain ⟨b, off, y, rfl, hbw, hc0, hy0, hy1⟩ := hcode.byt hlt HB.out
      have hc := (hx.cell b (off + k) hbw).trans hc0
      have hbr := Nat.lt_of_lt_of_le hbw hx.size
      have n1 : ¬ b = g := by omega
      have n2 : ¬ g = b := by omega
      clear hc0
      go_enter Try.func71, Try.ntmps71
      go_wp2
      repeat (go_quiet (fail); go_wp2)
      all_goals (go_ret; exact ⟨_, rfl, ⟨Int.emod_nonneg _ (by omega), Or.inl (Int.emod_lt_of_pos _ (by omega))⟩, ⟨by (repeat (first | with_reducible exact Ext.refl _ | with_reducible assumption | ((with_reducible apply Src.ext); with_reducible assumption) | with_reducible refine Ext.alloc ?_ _ | with_reducible refine Ext.drew ?_ | with_reducible refine Ext.drewN ?_ _ | ((with_reducible refine Ext.setCell' ?_ ?_ _); solve | omega | simp | (simp; omega)) | (with_reducible refine Ext.trans ?_ (by with_reducible assumption)))), hg, hcode, HB.out, hl, k + 1, (seed * 48271 + 29) % 2147483647, by omega, by omega, by omega, Blk.eq (by (repeat (first | with_reducible assumption | ((with_reducible apply Blk.new); solve | simp | rfl) | with_reducible apply Blk.drew | with_reducible apply Blk.drewN | ((with_reducible apply Blk.far'); solve | omega | simp | (simp; omega)) | with_reducible apply Blk.set_ | with_reducible apply Blk.alloc | ((with_reducible apply Blk.ext'); with_reducible assumption) | ((with_reducible apply Blk.but'); (with_reducible assumption); solve | omega | (simp; omega))))) (by rfl)⟩, by (repeat (first | with_reducible exact But.refl _ _ | with_reducible assumption | with_reducible refine But.alloc ?_ _ | with_reducible refine But.drew ?_ | with_reducible refine But.drewN ?_ _ | with_reducible refine But.set_ ?_ _ _ | ((with_reducible refine But.new ?_ ?_ _); solve | omega | simp | (simp; omega)) | (with_reducible refine But.trans ?_ (by with_reducible assumption)) | (with_reducible refine But.trans ?_ (But.of (by with_reducible assumption)))))⟩)
    · go_enter Try.func71, Try.ntmps71
      go_wp2
      repeat (go_quiet (fail); go_wp2)
      all_goals (go_ret; exact ⟨_, rfl, ⟨Int.emod_nonneg _ (by omega), Or.inl (Int.emod_lt_of_pos _ (by omega))⟩, ⟨by (repeat (first | with_reducible exact Ext.refl _ | with_reducible assumption | ((with_reducible apply Src.ext); with_reducible assumption) | with_reducible refine Ext.alloc ?_ _ | with_reducible refine Ext.drew ?_ | with_reducible refine Ext.drewN ?_ _ | ((with_reducible refine Ext.setCell' ?_ ?_ _); solve | omega | simp | (simp; omega)) | (with_reducible refine Ext.trans ?_ (by with_reducible assumption)))), hg, hcode, HB.out, hl, k, (seed * 48271 + 29) % 2147483647, by omega, by omega, by omega, Blk.eq (by (repeat (first | with_reducible assumption | ((with_reducible apply Blk.new); solve | simp | rfl) | with_reducible apply Blk.drew | with_reducible apply Blk.drewN | ((with_reducible apply Blk.far'); solve | omega | simp | (simp; omega)) | with_reducible apply Blk.set_ | with_reducible apply Blk.alloc | ((with_reducible apply Blk.ext'); with_reducible assumption) | ((with_reducible apply Blk.but'); (with_reducible assumption); solve | omega | (simp; omega))))) (by rfl)⟩, by (repeat (first | with_reducible exact But.refl _ _ | with_reducible assumption | with_reducible refine But.alloc ?_ _ | with_reducible refine But.drew ?_ | with_reducible refine But.drewN ?_ _ | with_reducible refine But.set_ ?_ _ _ | ((with_reducible refine But.new ?_ ?_ _); solve | omega | simp | (simp; omega)) | (with_reducible refine But.trans ?_ (by with_reducible assumption)) | (with_reducible refine But.trans ?_ (But.of (by with_reducible assumption)))))⟩)

def encI (b : Int) : List Value := [.int .i64 b]
theorem SlAt.num {w : World} {b off : Nat} {xs : List Int} (h : SlAt w 1 encI (some ⟨b, off, none⟩) xs) {k : Nat} (hk : k < xs.length) : w.cell? ⟨b, off + k, none⟩ = some (.int .i64 xs[k]) := by
  obtain ⟨b', off', e, _, hc⟩ := h (by omega)
  injection e with e
  injection e with e1 e2
  subst e1 e2
  simpa using hc k _ (List.getElem?_eq_getElem hk) 0 _ rfl
set_option maxHeartbeats 1600000 in
theorem s_l01Pick {a : World} {A : Option Addr} {c : Nat} {bs : List Int} {g : Nat} (b off cc : Nat) (xs : List Int) (w : World) (h : Src a A c bs g w) (hx : SlAt w 1 encI (some ⟨b, off, none⟩) xs) (h0 : 0 < xs.length) (hl : xs.length ≤ 1000000) (hb : b < w.heap.size) (hg : ¬ b = g) :
    Calls Try.prog 88 #[.pointer (some ⟨g, 0, none⟩), .slice (some ⟨b, off, none⟩) xs.length cc] w fun e w' => ∃ x : Int, e = .returned (.int .i64 x) ∧ x ∈ xs ∧ Src a A c bs g w' ∧ But g w w' := by
  go_enter Try.func88, Try.ntmps88
  (go_wp2_with fail; refine (s_l01Next (a := a) (A := A) (c := c) (bs := bs) _ _ (by (repeat (first | with_reducible assumption | with_reducible refine Src.alloc ?_ _ | with_reducible refine Src.drew ?_ | with_reducible refine Src.drewN ?_ _ | ((with_reducible refine Src.far ?_ ?_ ?_ _); (solve | omega | (simp; omega) | simp); (solve | omega | (simp; omega) | simp)) | ((with_reducible apply Src.on'); with_reducible assumption)))) (by omega)).mono ?_; rintro e w1 ⟨x1, rfl, hb1, hS1, hu1⟩; obtain ⟨hc1, hf1⟩ := hu1.rules; have hs1 := hu1.size; (try simp at hs1); have := (show b < w1.heap.size from by omega))
  obtain ⟨k, rfl⟩ := Int.eq_ofNat_of_zero_le hb1.1
  have hk : k < xs.length := by omega
  have hcell := hx.num hk
  go_wp2
  go_ret
  exact ⟨xs[k], rfl, List.getElem_mem hk, by (repeat (first | with_reducible assumption | with_reducible refine Src.alloc ?_ _ | with_reducible refine Src.drew ?_ | with_reducible refine Src.drewN ?_ _ | ((with_reducible refine Src.far ?_ ?_ ?_ _); (solve | omega | (simp; omega) | simp); (solve | omega | (simp; omega) | simp)) | ((with_reducible apply Src.on'); with_reducible assumption))), by (repeat (first | with_reducible exact But.refl _ _ | with_reducible assumption | with_reducible refine But.alloc ?_ _ | with_reducible refine But.drew ?_ | with_reducible refine But.drewN ?_ _ | with_reducible refine But.set_ ?_ _ _ | ((with_reducible refine But.new ?_ ?_ _); solve | omega | simp | (simp; omega)) | (with_reducible refine But.trans ?_ (by with_reducible assumption)) | (with_reducible refine But.trans ?_ (But.of (by with_reducible assumption)))))⟩
theorem ret_pts1 {P : Program} {fn : Func} {R : Ending → World → Prop} {a : Act} {W : World} {b0 : Nat} {t : TypeId} {x0 x1 v : Value} (h0 : Blk W b0 t #[x0, x1]) (hd : a.defers = [])
    (hres : ∀ W' : World, W'.cell? ⟨b0, 0, none⟩ = some x0 → W'.cell? ⟨b0, 1, none⟩ = some x1 → (results fn a.tmps).run P W' = .ok v W') (hR : R (.returned v) W) : bodyPost P fn R .ret a W :=
  bodyPost_ret (hres W (h0.cell 0) (h0.cell 1)) hd hR
theorem ret_pts2 {P : Program} {fn : Func} {R : Ending → World → Prop} {a : Act} {W : World} {b0 b1 : Nat} {t : TypeId} {x0 x1 y0 y1 v : Value} (h0 : Blk W b0 t #[x0, x1]) (h1 : Blk W b1 t #[y0, y1]) (hd : a.defers = [])
    (hres : ∀ W' : World, W'.cell? ⟨b0, 0, none⟩ = some x0 → W'.cell? ⟨b0, 1, none⟩ = some x1 → W'.cell? ⟨b1, 0, none⟩ = some y0 → W'.cell? ⟨b1, 1, none⟩ = some y1 → (results fn a.tmps).run P W' = .ok v W') (hR : R (.returned v) W) : bodyPost P fn R .ret a W :=
  bodyPost_ret (hres W (h0.cell 0) (h0.cell 1) (h1.cell 0) (h1.cell 1)) hd hR
theorem ret_pts3 {P : Program} {fn : Func} {R : Ending → World → Prop} {a : Act} {W : World} {b0 b1 b2 : Nat} {t : TypeId} {x0 x1 y0 y1 z0 z1 v : Value} (h0 : Blk W b0 t #[x0, x1]) (h1 : Blk W b1 t #[y0, y1]) (h2 : Blk W b2 t #[z0, z1]) (hd : a.defers = [])
    (hres : ∀ W' : World, W'.cell? ⟨b0, 0, none⟩ = some x0 → W'.cell? ⟨b0, 1, none⟩ = some x1 → W'.cell? ⟨b1, 0, none⟩ = some y0 → W'.cell? ⟨b1, 1, none⟩ = some y1 → W'.cell? ⟨b2, 0, none⟩ = some z0 → W'.cell? ⟨b2, 1, none⟩ = some z1 → (results fn a.tmps).run P W' = .ok v W') (hR : R (.returned v) W) : bodyPost P fn R .ret a W :=
  bodyPost_ret (hres W (h0.cell 0) (h0.cell 1) (h1.cell 0) (h1.cell 1) (h2.cell 0) (h2.cell 1)) hd hR
theorem ret_pts4 {P : Program} {fn : Func} {R : Ending → World → Prop} {a : Act} {W : World} {b0 b1 b2 b3 : Nat} {t : TypeId} {x0 x1 y0 y1 z0 z1 u0 u1 v : Value} (h0 : Blk W b0 t #[x0, x1]) (h1 : Blk W b1 t #[y0, y1]) (h2 : Blk W b2 t #[z0, z1]) (h3 : Blk W b3 t #[u0, u1]) (hd : a.defers = [])
    (hres : ∀ W' : World, W'.cell? ⟨b0, 0, none⟩ = some x0 → W'.cell? ⟨b0, 1, none⟩ = some x1 → W'.cell? ⟨b1, 0, none⟩ = some y0 → W'.cell? ⟨b1, 1, none⟩ = some y1 → W'.cell? ⟨b2, 0, none⟩ = some z0 → W'.cell? ⟨b2, 1, none⟩ = some z1 → W'.cell? ⟨b3, 0, none⟩ = some u0 → W'.cell? ⟨b3, 1, none⟩ = some u1 → (results fn a.tmps).run P W' = .ok v W') (hR : R (.returned v) W) : bodyPost P fn R .ret a W :=
  bodyPost_ret (hres W (h0.cell 0) (h0.cell 1) (h1.cell 0) (h1.cell 1) (h2.cell 0) (h2.cell 1) (h3.cell 0) (h3.cell 1)) hd hR
set_option maxHeartbeats 1600000 in
theorem s_l15Good {a : World} {A : Option Addr} {c : Nat} {bs : List Int} {g : Nat} (w : World) (h : Src a A c bs g w) :
    Calls Try.prog 132 #[.pointer (some ⟨g, 0, none⟩)] w fun e w' => ∃ p : Int × Int, e = .returned (.agg #[.int .i64 p.1, .int .i64 p.2]) ∧ ((-1000 ≤ p.1 ∧ p.1 ≤ 1000) ∧ -1000 ≤ p.2 ∧ p.2 ≤ 1000) ∧ Src a A c bs g w' ∧ But g w w' := by
  have hlt := h.lt
  have how := h.own
  have hasz := h.ext.size
  have nb : ¬ w.heap.size = g := by omega
  have nb' : ¬ g = w.heap.size := by omega
  go_enter Try.func132, Try.ntmps132
  (go_wp2_with fail; refine (s_l01Next (a := a) (A := A) (c := c) (bs := bs) _ _ (by (repeat (first | with_reducible assumption | with_reducible refine Src.alloc ?_ _ | with_reducible refine Src.drew ?_ | with_reducible refine Src.drewN ?_ _ | ((with_reducible refine Src.far ?_ ?_ ?_ _); (solve | omega | (simp; omega) | simp); (solve | omega | (simp; omega) | simp)) | ((with_reducible apply Src.on'); with_reducible assumption)))) (by omega)).mono ?_; rintro e w1 ⟨x1, rfl, hb1, hS1, hu1⟩; obtain ⟨hc1, hf1⟩ := hu1.rules; have hs1 := hu1.size; (try simp at hs1); have := (show w.heap.size < w1.heap.size from by omega))
  have B1 : Blk w1 w.heap.size 33 #[.int .i64 0, .int .i64 0] := Blk.eq (by (repeat (first | with_reducible assumption | ((with_reducible apply Blk.new); solve | simp | rfl) | with_reducible apply Blk.drew | with_reducible apply Blk.drewN | ((with_reducible apply Blk.far'); solve | omega | simp | (simp; omega)) | with_reducible apply Blk.set_ | with_reducible apply Blk.alloc | ((with_reducible apply Blk.ext'); with_reducible assumption) | ((with_reducible apply Blk.but'); (with_reducible assumption); solve | omega | (simp; omega))))) (by rfl)
  have z0 := B1.frozen 0
  have z1 := B1.frozen 1
  by_cases hq : x1 = 0
  · subst hq
    (go_wp2_with fail; refine (s_l01Next (a := a) (A := A) (c := c) (bs := bs) _ _ (by (repeat (first | with_reducible assumption | with_reducible refine Src.alloc ?_ _ | with_reducible refine Src.drew ?_ | with_reducible refine Src.drewN ?_ _ | ((with_reducible refine Src.far ?_ ?_ ?_ _); (solve | omega | (simp; omega) | simp); (solve | omega | (simp; omega) | simp)) | ((with_reducible apply Src.on'); with_reducible assumption)))) (by omega)).mono ?_; rintro e w2 ⟨x2, rfl, hb2, hS2, hu2⟩; obtain ⟨hc2, hf2⟩ := hu2.rules; have hs2 := hu2.size; (try simp at hs2); have := (show w.heap.size < w2.heap.size from by omega))
    (go_wp2_with fail; refine (s_l01Next (a := a) (A := A) (c := c) (bs := bs) _ _ (by (repeat (first | with_reducible assumption | with_reducible refine Src.alloc ?_ _ | with_reducible refine Src.drew ?_ | with_reducible refine Src.drewN ?_ _ | ((with_reducible refine Src.far ?_ ?_ ?_ _); (solve | omega | (simp; omega) | simp); (solve | omega | (simp; omega) | simp)) | ((with_reducible apply Src.on'); with_reducible assumption)))) (by omega)).mono ?_; rintro e w3 ⟨x3, rfl, hb3, hS3, hu3⟩; obtain ⟨hc3, hf3⟩ := hu3.rules; have hs3 := hu3.size; (try simp at hs3); have := (show w.heap.size < w3.heap.size from by omega))
    go_wp2
    refine ret_pts1 (b0 := w.heap.size) (t := 33) (v := .agg #[.int .i64 (x2 - 1000), .int .i64 (x3 - 1000)]) (Blk.eq (by (repeat (first | with_reducible assumption | ((with_reducible apply Blk.new); solve | simp | rfl) | with_reducible apply Blk.drew | with_reducible apply Blk.drewN | ((with_reducible apply Blk.far'); solve | omega | simp | (simp; omega)) | with_reducible apply Blk.set_ | with_reducible apply Blk.alloc | ((with_reducible apply Blk.ext'); with_reducible assumption) | ((with_reducible apply Blk.but'); (with_reducible assumption); solve | omega | (simp; omega))))) (by rfl)) rfl (by intro W' r0 r1; simp [results, Try.results132, go_sem, r0, r1]) ⟨(x2 - 1000, x3 - 1000), rfl, by simp; omega, by (repeat (first | with_reducible assumption | with_reducible refine Src.alloc ?_ _ | with_reducible refine Src.drew ?_ | with_reducible refine Src.drewN ?_ _ | ((with_reducible refine Src.far ?_ ?_ ?_ _); (solve | omega | (simp; omega) | simp); (solve | omega | (simp; omega) | simp)) | ((with_reducible apply Src.on'); with_reducible assumption))), by (repeat (first | with_reducible exact But.refl _ _ | with_reducible assumption | with_reducible refine But.alloc ?_ _ | with_reducible refine But.drew ?_ | with_reducible refine But.drewN ?_ _ | with_reducible refine But.set_ ?_ _ _ | ((with_reducible refine But.new ?_ ?_ _); solve | omega | simp | (simp; omega)) | (with_reducible refine But.trans ?_ (by with_reducible assumption)) | (with_reducible refine But.trans ?_ (But.of (by with_reducible assumption)))))⟩
  · have hqb : (x1 == 0) = false := beq_eq_false_iff_ne.2 hq
    (go_wp2_with fail; refine (s_l01Next (a := a) (A := A) (c := c) (bs := bs) _ _ (by (repeat (first | with_reducible assumption | with_reducible refine Src.alloc ?_ _ | with_reducible refine Src.drew ?_ | with_reducible refine Src.drewN ?_ _ | ((with_reducible refine Src.far ?_ ?_ ?_ _); (solve | omega | (simp; omega) | simp); (solve | omega | (simp; omega) | simp)) | ((with_reducible apply Src.on'); with_reducible assumption)))) (by omega)).mono ?_; rintro e w2 ⟨x2, rfl, hb2, hS2, hu2⟩; obtain ⟨hc2, hf2⟩ := hu2.rules; have hs2 := hu2.size; (try simp at hs2); have := (show w.heap.size < w2.heap.size from by omega))
    (go_wp2_with fail; refine (s_l01Next (a := a) (A := A) (c := c) (bs := bs) _ _ (by (repeat (first | with_reducible assumption | with_reducible refine Src.alloc ?_ _ | with_reducible refine Src.drew ?_ | with_reducible refine Src.drewN ?_ _ | ((with_reducible refine Src.far ?_ ?_ ?_ _); (solve | omega | (simp; omega) | simp); (solve | omega | (simp; omega) | simp)) | ((with_reducible apply Src.on'); with_reducible assumption)))) (by omega)).mono ?_; rintro e w3 ⟨x3, rfl, hb3, hS3, hu3⟩; obtain ⟨hc3, hf3⟩ := hu3.rules; have hs3 := hu3.size; (try simp at hs3); have := (show w.heap.size < w3.heap.size from by omega))
    go_wp2
    refine ret_pts1 (b0 := w.heap.size) (t := 33) (v := .agg #[.int .i64 (x2 - 4), .int .i64 (x3 - 4)]) (Blk.eq (by (repeat (first | with_reducible assumption | ((with_reducible apply Blk.new); solve | simp | rfl) | with_reducible apply Blk.drew | with_reducible apply Blk.drewN | ((with_reducible apply Blk.far'); solve | omega | simp | (simp; omega)) | with_reducible apply Blk.set_ | with_reducible apply Blk.alloc | ((with_reducible apply Blk.ext'); with_reducible assumption) | ((with_reducible apply Blk.but'); (with_reducible assumption); solve | omega | (simp; omega))))) (by rfl)) rfl (by intro W' r0 r1; simp [results, Try.results132, go_sem, r0, r1]) ⟨(x2 - 4, x3 - 4), rfl, by simp; omega, by (repeat (first | with_reducible assumption | with_reducible refine Src.alloc ?_ _ | with_reducible refine Src.drew ?_ | with_reducible refine Src.drewN ?_ _ | ((with_reducible refine Src.far ?_ ?_ ?_ _); (solve | omega | (simp; omega) | simp); (solve | omega | (simp; omega) | simp)) | ((with_reducible apply Src.on'); with_reducible assumption))), by (repeat (first | with_reducible exact But.refl _ _ | with_reducible assumption | with_reducible refine But.alloc ?_ _ | with_reducible refine But.drew ?_ | with_reducible refine But.drewN ?_ _ | with_reducible refine But.set_ ?_ _ _ | ((with_reducible refine But.new ?_ ?_ _); solve | omega | simp | (simp; omega)) | (with_reducible refine But.trans ?_ (by with_reducible assumption)) | (with_reducible refine But.trans ?_ (But.of (by with_reducible assumption)))))⟩
end Go.Proofs.Yteppjdoggjcdoaa
