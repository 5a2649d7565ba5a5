/- Contracts of the exported functions of points, and the laws on them, walked over the translation. -/
import Derived.Test.YteppjdoggjcdoaaB
import Derived.Test.YteppjdoggjcdoaaE
import Derived.WalkLawsBesides
import Derived.WalkSpells
import Derived.Lib.MinMax
import Derived.Outline
namespace Go.Proofs.Yteppjdoggjcdoaa
open Go.RowKit
attribute [local go_sem] ExtOf.cell ExtOf.frozen


theorem all_false {ps : List (Int × Int)} {k : Nat} (hk : k < ps.length) (h : (!okP ps[k].1 ps[k].2) = true) : (ps.all fun p => okP p.1 p.2) = false := by
  rw [List.all_eq_false]
  exact ⟨ps[k], List.getElem_mem hk, by simpa using h⟩
theorem all_succ {ps : List (Int × Int)} {k : Nat} (hk : k < ps.length) (hal : (ps.take k).all (fun p => okP p.1 p.2) = true) (h : (!okP ps[k].1 ps[k].2) = false) : (ps.take (k + 1)).all (fun p => okP p.1 p.2) = true := by
  rw [List.take_succ_eq_append_getElem hk, List.all_append, hal]
  simpa using h

theorem i_arePoints (A : Option Addr) (c : Nat) (ps : List (Int × Int)) (w : World) (h : SlAt w 2 encP A ps) (hl : ps.length ≤ 1048576) :
    Calls Try.prog 106 #[.slice A ps.length c] w fun e w' => e = .returned (.bool (ps.all fun p => okP p.1 p.2)) ∧ Ext w w' := by
  go_enter Try.func106, Try.ntmps106
  go_wp2
  go_loopw [7] (fun i wr => ∃ k : Nat, k ≤ ps.length ∧ i = .int .i64 k ∧ (ps.take k).all (fun p => okP p.1 p.2) = true ∧ Ext w wr) (fun i _ => ps.length - (intOf i).toNat)
  case atStart => exact ⟨0, Nat.zero_le _, rfl, rfl, Ext.refl _⟩
  case round =>
    obtain ⟨k, hk, rfl, hal, hx⟩ := hrel
    by_cases hlt : k < ps.length
    · obtain ⟨b, off, rfl, hb, h0, h1⟩ := (h.ext hx).pt hlt
      go_wp2_with (first | (go_at_call 72; refine (i_IsPoint _ _ _).mono ?_; rintro e w1 ⟨rfl, hx1⟩; obtain ⟨hc1, hf1⟩ := hx1.rules; have hs1 := hx1.size; (try simp at hs1)))
      · go_ret
        exact ⟨congrArg (fun b => Ending.returned (.bool b)) (all_false (k := k) hlt (by assumption)).symm, by (repeat (first | with_reducible exact Ext.refl _ | with_reducible assumption | ((with_reducible apply Src.ext); with_reducible assumption) | with_reducible refine Ext.alloc ?_ _ | with_reducible refine Ext.drew ?_ | with_reducible refine Ext.drewN ?_ _ | ((with_reducible refine Ext.setCell' ?_ ?_ _); solve | omega | simp | (simp; omega)) | (with_reducible refine Ext.trans ?_ (by with_reducible assumption))))⟩
      · go_roundw
        case rel => exact ⟨k + 1, by omega, by go_num, all_succ hlt hal (by assumption), by (repeat (first | with_reducible exact Ext.refl _ | with_reducible assumption | ((with_reducible apply Src.ext); with_reducible assumption) | with_reducible refine Ext.alloc ?_ _ | with_reducible refine Ext.drew ?_ | with_reducible refine Ext.drewN ?_ _ | ((with_reducible refine Ext.setCell' ?_ ?_ _); solve | omega | simp | (simp; omega)) | (with_reducible refine Ext.trans ?_ (by with_reducible assumption))))⟩
        case measure => simp [intOf]; omega
    · go_wp2
      go_ret
      rw [List.take_of_length_le (by omega)] at hal
      exact ⟨congrArg (fun b => Ending.returned (.bool b)) hal.symm, by (repeat (first | with_reducible exact Ext.refl _ | with_reducible assumption | ((with_reducible apply Src.ext); with_reducible assumption) | with_reducible refine Ext.alloc ?_ _ | with_reducible refine Ext.drew ?_ | with_reducible refine Ext.drewN ?_ _ | ((with_reducible refine Ext.setCell' ?_ ?_ _); solve | omega | simp | (simp; omega)) | (with_reducible refine Ext.trans ?_ (by with_reducible assumption))))⟩

theorem s_arePoints (A : Option Addr) (c : Nat) (ps : List (Int × Int)) (w : World) (h : SlAt w 2 encP A ps) (hl : ps.length ≤ 1048576) :
    Calls Try.prog 111 #[.slice A ps.length c] w fun e w' => e = .returned (.bool (ps.all fun p => okP p.1 p.2)) ∧ Ext w w' := by
  go_enter Try.func111, Try.ntmps111
  go_wp2
  go_loopw [3] (fun i wr => ∃ k : Nat, k ≤ ps.length ∧ i = .int .i64 k ∧ (ps.take k).all (fun p => okP p.1 p.2) = true ∧ Ext w wr) (fun i _ => ps.length - (intOf i).toNat)
  case atStart => exact ⟨0, Nat.zero_le _, rfl, rfl, Ext.refl _⟩
  case round =>
    obtain ⟨k, hk, rfl, hal, hx⟩ := hrel
    by_cases hlt : k < ps.length
    · obtain ⟨b, off, rfl, hb, h0, h1⟩ := (h.ext hx).pt hlt
      go_wp2_with (first | (go_at_call 74; refine (s_IsPoint _ _ _).mono ?_; rintro e w1 ⟨rfl, hx1⟩; obtain ⟨hc1, hf1⟩ := hx1.rules; have hs1 := hx1.size; (try simp at hs1)))
      · go_ret
        exact ⟨congrArg (fun b => Ending.returned (.bool b)) (all_false (k := k) hlt (by assumption)).symm, by (repeat (first | with_reducible exact Ext.refl _ | with_reducible assumption | ((with_reducible apply Src.ext); with_reducible assumption) | with_reducible refine Ext.alloc ?_ _ | with_reducible refine Ext.drew ?_ | with_reducible refine Ext.drewN ?_ _ | ((with_reducible refine Ext.setCell' ?_ ?_ _); solve | omega | simp | (simp; omega)) | (with_reducible refine Ext.trans ?_ (by with_reducible assumption))))⟩
      · go_roundw
        case rel => exact ⟨k + 1, by omega, by go_num, all_succ hlt hal (by assumption), by (repeat (first | with_reducible exact Ext.refl _ | with_reducible assumption | ((with_reducible apply Src.ext); with_reducible assumption) | with_reducible refine Ext.alloc ?_ _ | with_reducible refine Ext.drew ?_ | with_reducible refine Ext.drewN ?_ _ | ((with_reducible refine Ext.setCell' ?_ ?_ _); solve | omega | simp | (simp; omega)) | (with_reducible refine Ext.trans ?_ (by with_reducible assumption))))⟩
        case measure => simp [intOf]; omega
    · go_wp2
      go_ret
      rw [List.take_of_length_le (by omega)] at hal
      exact ⟨congrArg (fun b => Ending.returned (.bool b)) hal.symm, by (repeat (first | with_reducible exact Ext.refl _ | with_reducible assumption | ((with_reducible apply Src.ext); with_reducible assumption) | with_reducible refine Ext.alloc ?_ _ | with_reducible refine Ext.drew ?_ | with_reducible refine Ext.drewN ?_ _ | ((with_reducible refine Ext.setCell' ?_ ?_ _); solve | omega | simp | (simp; omega)) | (with_reducible refine Ext.trans ?_ (by with_reducible assumption))))⟩

def oks (ps : List (Int × Int)) : Bool := ps.all fun p => okP p.1 p.2
def okC (ps : List (Int × Int)) : Int := if oks ps then 0 else 1
def turnR (ax az bx bz cx cz : Int) : Int := if oks [(ax, az), (bx, bz), (cx, cz)] then turnW ax az bx bz cx cz else 0
def onR (ax az bx bz cx cz : Int) : Bool := if oks [(ax, az), (bx, bz), (cx, cz)] then onW ax az bx bz cx cz else false
def sqR (ax az bx bz : Int) : Int := if oks [(ax, az), (bx, bz)] then sqW ax az bx bz else 0
theorem i_arePoints' (b : Nat) (c : Nat) (cs : Array Value) (t : TypeId) (ps : List (Int × Int)) (n : Nat) (w : World) (hb : w.heap[b]? = some (.cells cs t (0, 0))) (hcs : cs.toList = ps.flatMap encP) (hn : n = ps.length) (hl : ps.length ≤ 1048576) :
    Calls Try.prog 106 #[.slice (some ⟨b, 0, none⟩) n c] w fun e w' => e = .returned (.bool (oks ps)) ∧ Ext w w' := by
  subst hn
  exact i_arePoints _ _ _ _ (SlAt.block hb hcs (fun _ => rfl)) hl
theorem s_arePoints' (b : Nat) (c : Nat) (cs : Array Value) (t : TypeId) (ps : List (Int × Int)) (n : Nat) (w : World) (hb : w.heap[b]? = some (.cells cs t (0, 0))) (hcs : cs.toList = ps.flatMap encP) (hn : n = ps.length) (hl : ps.length ≤ 1048576) :
    Calls Try.prog 111 #[.slice (some ⟨b, 0, none⟩) n c] w fun e w' => e = .returned (.bool (oks ps)) ∧ Ext w w' := by
  subst hn
  exact s_arePoints _ _ _ _ (SlAt.block hb hcs (fun _ => rfl)) hl

def crossC (ax az bx bz cx cz dx dz : Int) : Int := if oks [(ax, az), (bx, bz), (cx, cz), (dx, dz)] then (if eqP ax az bx bz || eqP cx cz dx dz then 5 else 0) else 1
def dirC (ax az bx bz : Int) : Int := if oks [(ax, az), (bx, bz)] then (if eqP ax az bx bz then 5 else 0) else 1
def crossR (ax az bx bz cx cz dx dz : Int) : Bool := if crossC ax az bx bz cx cz dx dz = 0 then crossW ax az bx bz cx cz dx dz else false
def dirR (ax az bx bz : Int) : Int := if dirC ax az bx bz = 0 then dirZ (bx - ax) (bz - az) else 0
theorem ne_of_eqP {ax az bx bz : Int} (h : eqP ax az bx bz = false) : ¬ (ax = bx ∧ az = bz) := fun e => by rw [eqP_iff.2 e] at h; cases h
theorem oks_two {ax az bx bz : Int} (h : (!oks [(ax, az), (bx, bz)]) = false) : okP ax az = true ∧ okP bx bz = true := by simpa [oks] using h
theorem oks_two' {ax az bx bz : Int} (h : oks [(ax, az), (bx, bz)] = true) : okP ax az = true ∧ okP bx bz = true := by simpa [oks] using h


end Go.Proofs.Yteppjdoggjcdoaa
