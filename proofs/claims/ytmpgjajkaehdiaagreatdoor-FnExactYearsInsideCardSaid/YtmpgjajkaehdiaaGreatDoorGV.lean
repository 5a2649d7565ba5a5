/- Places, as the specification sees them. Registers, as the specification sees them. -/
import Derived.Test.YtmpgjajkaehdiaaGreatDoorGW
import Derived.Deep.RegionHeld3
import Derived.Deep.DeepCutAuto
import Derived.RegionTactic
import Derived.BigRegion
import Derived.WalkLawsBesides
import Derived.WalkSpells
import Derived.Lib.MinMax
import Derived.Outline
namespace Go.Proofs.YtmpgjajkaehdiaaGreatDoor
open Go.RowKit
attribute [local go_sem] ExtOf.cell ExtOf.frozen

theorem as_boolT {P : Program} {f : FuncId} {args : Array Value} {w : World} {b b' : Bool} (h : Calls P f args w fun e w' => e = .returned (.bool b) ∧ w = w') (e : b = b') : Calls P f args w fun e w' => e = .returned (.bool b') ∧ w = w' := e ▸ h
theorem as_boolX {P : Program} {f : FuncId} {args : Array Value} {w : World} {b b' : Bool} (h : Calls P f args w fun e w' => e = .returned (.bool b) ∧ Ext w w') (e : b = b') : Calls P f args w fun e w' => e = .returned (.bool b') ∧ Ext w w' := e ▸ h
/-- a place: code, class, first year, last year, and its names with their address and capacity -/
abbrev Pl := List UInt8 × Int × Int × Int × Option Addr × Nat × List Nm
def plD : Pl := ([], 0, 0, 0, none, 0, [])
def encQ (p : Pl) : List Value := [.string (tx p.1), .int .i64 p.2.1, .int .i64 p.2.2.1, .int .i64 p.2.2.2.1, .slice p.2.2.2.2.1 p.2.2.2.2.2.2.length p.2.2.2.2.2.1]
theorem len_encQ : ∀ n, (encQ n).length = 5 := fun _ => rfl
theorem one_encQ : ∀ p, ∀ u ∈ encQ p, u.oneCell' = true := by
  intro p u hu
  simp [encQ] at hu
  rcases hu with rfl | rfl | rfl | rfl | rfl <;> rfl
/-- a place without addresses -/
abbrev Pd := List UInt8 × Int × Int × Int × List Nm
def pdD : Pd := ([], 0, 0, 0, [])
def pdOf (p : Pl) : Pd := (p.1, p.2.1, p.2.2.1, p.2.2.2.1, p.2.2.2.2.2.2)
def psD (ps : List Pl) : List Pd := ps.map pdOf
theorem psD_len (ps : List Pl) : (psD ps).length = ps.length := List.length_map ..
theorem psD_at {ps : List Pl} {k : Nat} (hk : k < ps.length) : (psD ps).getD k pdD = pdOf (ps.getD k plD) := by simp [psD, List.getD, hk]
/-- its names read as they are told, and nothing of it is long -/
def PlAt (w : World) (p : Pl) : Prop := SlAt w 5 encN p.2.2.2.2.1 p.2.2.2.2.2.2 ∧ p.2.2.2.2.2.2.length ≤ p.2.2.2.2.2.1 ∧ p.1.length ≤ 1048576 ∧ p.2.2.2.2.2.2.length ≤ 1048576 ∧ Names p.2.2.2.2.2.2
theorem PlAt.ext {w w' : World} {p : Pl} (h : PlAt w p) (hx : Ext w w') : PlAt w' p := ⟨h.1.ext hx, h.2⟩
def Places (w : World) (ps : List Pl) : Prop := ∀ p ∈ ps, PlAt w p
theorem Places.ext {w w' : World} {ps : List Pl} (h : Places w ps) (hx : Ext w w') : Places w' ps := fun p hp => (h p hp).ext hx
theorem pl_mem {ps : List Pl} {k : Nat} (hk : k < ps.length) : ps.getD k plD ∈ ps := by simp [List.getD, hk]
def inY (a b : Int) (n : Nm) : Bool := !decide (n.2.2.2.1 < a) && !decide (b < n.2.2.2.2)
def plB (d : Pd) : Bool := smL d.1 1 16 && (inB d.2.1 0 19 && (spB d.2.2.1 d.2.2.2.1 && (nsB d.2.2.2.2 && d.2.2.2.2.all (inY d.2.2.1 d.2.2.2.1))))
theorem all_getD {ns : List Nm} {p : Nm → Bool} : ns.all p = true ↔ ∀ j, j < ns.length → p (ns.getD j nmD) = true := by
  rw [List.all_eq_true]
  constructor
  · intro h j hj
    exact h _ (by simp [List.getD, hj])
  · intro h x hx
    obtain ⟨j, hj, rfl⟩ := List.mem_iff_getElem.1 hx
    simpa [List.getD, hj] using h j hj
theorem SlAt.pl {w : World} {A : Option Addr} {ps : List Pl} (h : SlAt w 5 encQ A ps) {k : Nat} (hk : k < ps.length) :
    ∃ b off, A = some ⟨b, off, none⟩ ∧ b < w.heap.size ∧ w.cell? ⟨b, off + k * 5, none⟩ = some (.string (tx (ps.getD k plD).1)) ∧
      w.cell? ⟨b, off + k * 5 + 1, none⟩ = some (.int .i64 (ps.getD k plD).2.1) ∧ w.cell? ⟨b, off + k * 5 + 2, none⟩ = some (.int .i64 (ps.getD k plD).2.2.1) ∧
      w.cell? ⟨b, off + k * 5 + 3, none⟩ = some (.int .i64 (ps.getD k plD).2.2.2.1) ∧ w.cell? ⟨b, off + k * 5 + 4, none⟩ = some (.slice (ps.getD k plD).2.2.2.2.1 (ps.getD k plD).2.2.2.2.2.2.length (ps.getD k plD).2.2.2.2.2.1) := by
  obtain ⟨b, off, e, hb, hc⟩ := h (by omega)
  have hg : ps[k]? = some (ps.getD k plD) := by simp [List.getD, hk]
  exact ⟨b, off, e, hb, by simpa using hc k _ hg 0 _ rfl, hc k _ hg 1 _ rfl, hc k _ hg 2 _ rfl, hc k _ hg 3 _ rfl, hc k _ hg 4 _ rfl⟩
theorem SlAt.pl' {w : World} {b off : Nat} {ps : List Pl} (h : SlAt w 5 encQ (some ⟨b, off, none⟩) ps) {k : Nat} (hk : k < ps.length) :
    w.cell? ⟨b, off + k * 5, none⟩ = some (.string (tx (ps.getD k plD).1)) ∧
      w.cell? ⟨b, off + k * 5 + 1, none⟩ = some (.int .i64 (ps.getD k plD).2.1) ∧ w.cell? ⟨b, off + k * 5 + 2, none⟩ = some (.int .i64 (ps.getD k plD).2.2.1) ∧
      w.cell? ⟨b, off + k * 5 + 3, none⟩ = some (.int .i64 (ps.getD k plD).2.2.2.1) ∧ w.cell? ⟨b, off + k * 5 + 4, none⟩ = some (.slice (ps.getD k plD).2.2.2.2.1 (ps.getD k plD).2.2.2.2.2.2.length (ps.getD k plD).2.2.2.2.2.1) := by
  obtain ⟨b', off', e, _, h0⟩ := h.pl hk
  injection e with e
  injection e with e1 e2
  subst e1 e2
  exact h0


end Go.Proofs.YtmpgjajkaehdiaaGreatDoor
namespace Go.Proofs.YtmpgjajkaehdiaaGreatDoor
open Go.RowKit
attribute [local go_sem] ExtOf.cell ExtOf.frozen

def okR (D : List Pd) (j : Nat) : Bool := plB (D.getD j pdD) && (decide (j = 0) || Op.bytesLess (D.getD (j - 1) pdD).1 (D.getD j pdD).1)
/-- a register -/
def rgB (D : List Pd) : Bool := ((List.range D.length).all fun j => okR D j) && decide (D.length ≤ 10)
theorem rgB_iff {D : List Pd} : rgB D = true ↔ (∀ j, j < D.length → okR D j = true) ∧ D.length ≤ 10 := by simp [rgB]
theorem rgB_no {D : List Pd} {j : Nat} (hj : j < D.length) (h : okR D j = false) : rgB D = false := by
  cases e : rgB D with
  | false => rfl
  | true => rw [(rgB_iff.1 e).1 j hj] at h; cases h


end Go.Proofs.YtmpgjajkaehdiaaGreatDoor
