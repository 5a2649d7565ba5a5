/- The frame of every law of this set: 'returns true, leaves its arguments': from a walk that ends in Ext to the row's step; and how the arguments are opened. Opening lists of links, of places, and worlds among a law's arguments. Opening a list of texts among a law's arguments. -/
import Derived.Test.YtbnkiibjhfcffaaGreatDoorG0
import Derived.Test.YtbnkiibjhfcffaaGreatDoorRows
import Derived.ProofKit
import Derived.OpenShut
import Derived.ShutString
import Derived.ChangeOld
import Derived.SizedLaws
import Derived.Lib.SmallJoins
import Derived.Deep.Slices
import Derived.Deep.Fields
import Derived.ChangeSame
import Derived.Test.YtbnkiibjhfcffaaGreatDoorGV
import Derived.Test.YtbnkiibjhfcffaaGreatDoorGW
namespace Go.Proofs.YtbnkiibjhfcffaaGreatDoor
open Go.ChangeShapes Go.WideShapes Go.ChangeAt Go.RowKit Go.Deep Go.Joins
open Go.ChangeMaps (open_string shut_string)

theorem own : ownKnob Tryz.prog.godebug = none := by kernel_rfl
section
variable {H : Type} {enc : TypeId × Value → H} {P : Program}

/-- a slice, its elements' cells as 'hrd' reads them -/
theorem open_sl {w : World} {base : Nat} {held : Bool} {fuel : Nat} {t e : TypeId} {α : Type} [Inhabited α] {sz : Nat} {cs : List Value} {x : DataW H × List MemPlace} (encA : α → List Value) (Good : α → Prop) (ht : P.underlying t = some (.slice e)) (hC : P.cellsOf e = sz) (hsz : 0 < sz)
    (hrd : ∀ (n : Nat) (cs : List Value) (x : DataW H × List MemPlace), DataW.trod enc P w base (fun _ => true) held n e cs = some x → ∃ a : α, cs = encA a ∧ Good a)
    (h : DataW.trod enc P w base (fun _ => true) held fuel t cs = some x) :
    ∃ (A : Option Addr) (c : Nat) (xs : List α), cs = [.slice A xs.length c] ∧ SlAt w sz encA A xs ∧ (∀ a ∈ xs, Good a) ∧ xs.length ≤ c ∧ (xs = [] ∨ ∃ elems spare, x.1 = .slice elems spare ∧ elems.length = xs.length) := by
  rcases open_slice ht h with ⟨rfl, rfl⟩ | ⟨a, len, cap, m, n, D, Pl, rfl, hb, hl, hm, hmm, hx, hi⟩
  · exact ⟨none, 0, [], rfl, SlAt.nil, (fun _ h => absurd h (by simp)), Nat.le_refl _, Or.inl rfl⟩
  · rw [hC] at hi
    simp only [if_true] at hmm
    subst hmm
    have hex : ∀ i, ∃ y : α, i < len → (∀ j v, (encA y)[j]? = some v → w.cell? ((a.add (i * sz)).add j) = some v) ∧ (encA y).length = sz ∧ Good y := fun i => by
      by_cases hlt : i < len
      · obtain ⟨cs', hc, ht'⟩ := hi i (by omega)
        obtain ⟨y, rfl, hy⟩ := hrd n cs' _ ht'
        obtain ⟨_, hcl, hat⟩ := World.cells?_some hc
        refine ⟨y, fun _ => ⟨fun j v hj => ?_, hcl, hy⟩⟩
        have hjl : j < sz := by rw [← hcl]; exact (List.getElem?_eq_some_iff.1 hj).1
        rw [hat j hjl, hj]
      · exact ⟨default, fun h => absurd h hlt⟩
    let f : Nat → α := fun i => (hex i).choose
    have hf := fun i => (hex i).choose_spec
    refine ⟨some a, m, (List.range len).map f, by simp, fun hn => ?_, fun y hy => ?_, by simpa using hl, .inr ⟨_, _, by rw [hx], by simp⟩⟩
    · have h0 : 0 < len := by simpa using hn
      obtain ⟨hc0, hl0, _⟩ := hf 0 h0
      obtain ⟨v0, hv0⟩ : ∃ v, (encA (f 0))[0]? = some v := ⟨_, List.getElem?_eq_getElem (show 0 < (encA (f 0)).length by rw [hl0]; exact hsz)⟩
      have hcell := hc0 0 v0 hv0
      rw [Go.Deep.add_add] at hcell
      simp only [Nat.zero_mul, Nat.add_zero] at hcell
      obtain ⟨b, off, spot⟩ := a
      have hspot : spot = none := by simpa [Addr.add] using World.cell?_spot hcell
      subst hspot
      refine ⟨b, off, rfl, by simpa [Addr.add] using World.block_lt_of_cell? _ _ hcell, fun i y hi j v hj => ?_⟩
      have hil : i < len := by simpa using (List.getElem?_eq_some_iff.1 hi).1
      obtain rfl : f i = y := by simpa [hil] using hi
      have h2 := (hf i hil).1 j v hj
      rw [Go.Deep.add_add] at h2
      by_cases hz : i * sz + j = 0
      · have hz' : off + i * sz + j = off := by omega
        rw [hz']; rw [hz] at h2; simpa [Addr.add] using h2
      · rw [Nat.add_assoc]; unfold Addr.add at h2; rw [if_neg hz] at h2; exact h2
    · obtain ⟨i, hi', rfl⟩ := List.mem_map.1 hy
      exact (hf i (by simpa using hi')).2.2
end

end Go.Proofs.YtbnkiibjhfcffaaGreatDoor

namespace Go.Proofs.YtbnkiibjhfcffaaGreatDoor
open Go.ChangeShapes Go.WideShapes Go.ChangeAt Go.RowKit Go.Deep Go.Joins
def CanN (l : Nm) : Prop := l.1.length ≤ 9223372036854775807 ∧ l.2.1.length ≤ 9223372036854775807
/-- a list of links among a law's arguments -/
structure ArgK (w : World) (A : Option Addr) (L : List Lk) : Prop where
  sl : SlAt w 4 encK A L
  can : ∀ i, i < L.length → (L.getD i lkD).1.length ≤ 9223372036854775807 ∧ (L.getD i lkD).2.1.length ≤ 9223372036854775807
  len : L.length ≤ 9223372036854775807
theorem ArgK.ext {w w' : World} {A : Option Addr} {L : List Lk} (h : ArgK w A L) (hx : Ext w w') : ArgK w' A L := ⟨h.sl.ext hx, h.can, h.len⟩
/-- a place among a law's arguments -/
def ArgP1 (w : World) (p : Pl) : Prop := SlAt w 5 encN p.2.2.2.2.1 p.2.2.2.2.2.2 ∧ p.1.length ≤ 9223372036854775807 ∧ p.2.2.2.2.2.2.length ≤ 9223372036854775807 ∧ ∀ i, i < p.2.2.2.2.2.2.length → CanN (p.2.2.2.2.2.2.getD i nmD)
/-- a list of places among a law's arguments -/
structure ArgQ (w : World) (A : Option Addr) (ps : List Pl) : Prop where
  sl : SlAt w 5 encQ A ps
  pl : ∀ i, i < ps.length → ArgP1 w (ps.getD i plD)
  len : ps.length ≤ 9223372036854775807
theorem ArgQ.ext {w w' : World} {A : Option Addr} {ps : List Pl} (h : ArgQ w A ps) (hx : Ext w w') : ArgQ w' A ps := ⟨h.sl.ext hx, fun i hi => ⟨(h.pl i hi).1.ext hx, (h.pl i hi).2⟩, h.len⟩
section
variable {H : Type} {enc : TypeId × Value → H} {P : Program} {w : World} {base : Nat} {held : Bool} {fuel : Nat}
/-- what is asked of the type of a span -/
structure SpT (P : Program) (tp : TypeId) : Prop where
  ex : ∃ (ti : TypeId) (g0 g1 : Field), P.underlying tp = some (.struct #[g0, g1]) ∧ P.underlying ti = some (.int .i64) ∧ g0.type = ti ∧ g1.type = ti ∧ oneCellFields P #[g0, g1] = true ∧ P.cellsOf tp = 2
/-- what is asked of the type of a name -/
structure NmT (P : Program) (t : TypeId) : Prop where
  rd : ∀ {H : Type} {enc : TypeId × Value → H} {w : World} {base : Nat} {held : Bool} {fuel : Nat} {cs : List Value} {x : DataW H × List MemPlace}, DataW.trod enc P w base (fun _ => true) held fuel t cs = some x → ∃ l : Nm, cs = encN l ∧ CanN l
  ce : P.cellsOf t = 5
end
end Go.Proofs.YtbnkiibjhfcffaaGreatDoor

namespace Go.Proofs.YtbnkiibjhfcffaaGreatDoor
open Go.ChangeShapes Go.WideShapes Go.ChangeAt Go.RowKit Go.Deep Go.Joins
/-- a list of texts among a law's arguments -/
structure ArgT (w : World) (A : Option Addr) (L : List (List UInt8)) : Prop where
  sl : SlAt w 1 encS A L
  can : ∀ i, i < L.length → (L.getD i []).length ≤ 9223372036854775807
  len : L.length ≤ 9223372036854775807
theorem ArgT.ext {w w' : World} {A : Option Addr} {L : List (List UInt8)} (h : ArgT w A L) (hx : Ext w w') : ArgT w' A L := ⟨h.sl.ext hx, h.can, h.len⟩
end Go.Proofs.YtbnkiibjhfcffaaGreatDoor
