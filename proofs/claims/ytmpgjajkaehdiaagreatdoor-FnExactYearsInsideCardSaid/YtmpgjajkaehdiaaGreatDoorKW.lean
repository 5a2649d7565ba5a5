/- Opening lists of links, of places, and worlds among a law's arguments. -/
import Derived.Test.YtmpgjajkaehdiaaGreatDoorK
import Derived.Test.YtmpgjajkaehdiaaGreatDoorGV
import Derived.Test.YtmpgjajkaehdiaaGreatDoorGW
namespace Go.Proofs.YtmpgjajkaehdiaaGreatDoor
open Go.ChangeShapes Go.WideShapes Go.ChangeAt Go.RowKit Go.Deep Go.Joins
theorem trod_len {H : Type} {enc : TypeId × Value → H} {P : Program} {w : World} {base : Nat} {held : Bool} {fuel : Nat} {t e : TypeId} {A : Option Addr} {n c : Nat} {x : DataW H × List MemPlace} (ht : P.underlying t = some (.slice e))
    (h : DataW.trod enc P w base (fun _ => true) held fuel t [.slice A n c] = some x) : n ≤ 9223372036854775807 := by
  rcases open_slice ht h with ⟨e1, _⟩ | ⟨a, len, cap, m, k, D, Pl, e1, _, hl, hm, _⟩
  · injection e1 with e1
    injection e1 with _ e2
    omega
  · injection e1 with e1
    injection e1 with _ e2
    unfold maxLen at hm
    omega
theorem max_le {n : Nat} (h : n ≤ maxLen) : n ≤ 9223372036854775807 := by unfold maxLen at h; omega
theorem size_tx (s : ByteArray) : s.data.toList.length = s.size := by rw [Array.length_toList]; rfl
/-- no text of a link is longer than a length can tell -/
def CanK (l : Lk) : Prop := l.1.length ≤ 9223372036854775807 ∧ l.2.1.length ≤ 9223372036854775807
def CanN (l : Nm) : Prop := l.1.length ≤ 9223372036854775807 ∧ l.2.1.length ≤ 9223372036854775807
/-- a list of links among a law's arguments -/
structure ArgK (w : World) (A : Option Addr) (L : List Lk) : Prop where
  sl : SlAt w 4 encK A L
  can : ∀ i, i < L.length → (L.getD i lkD).1.length ≤ 9223372036854775807 ∧ (L.getD i lkD).2.1.length ≤ 9223372036854775807
  len : L.length ≤ 9223372036854775807
theorem ArgK.ext {w w' : World} {A : Option Addr} {L : List Lk} (h : ArgK w A L) (hx : Ext w w') : ArgK w' A L := ⟨h.sl.ext hx, h.can, h.len⟩
/-- a place among a law's arguments -/
def ArgP1 (w : World) (p : Pl) : Prop := SlAt w 5 encN p.2.2.2.2.1 p.2.2.2.2.2.2 ∧ p.1.length ≤ 9223372036854775807 ∧ p.2.2.2.2.2.2.length ≤ 9223372036854775807 ∧ ∀ i, i < p.2.2.2.2.2.2.length → CanN (p.2.2.2.2.2.2.getD i nmD)
/-- a list of places among a law's arguments -/
structure ArgQ (w : World) (A : Option Addr) (ps : List Pl) : Prop where
  sl : SlAt w 5 encQ A ps
  pl : ∀ i, i < ps.length → ArgP1 w (ps.getD i plD)
  len : ps.length ≤ 9223372036854775807
theorem ArgQ.ext {w w' : World} {A : Option Addr} {ps : List Pl} (h : ArgQ w A ps) (hx : Ext w w') : ArgQ w' A ps := ⟨h.sl.ext hx, fun i hi => ⟨(h.pl i hi).1.ext hx, (h.pl i hi).2⟩, h.len⟩
section
variable {H : Type} {enc : TypeId × Value → H} {P : Program} {w : World} {base : Nat} {held : Bool} {fuel : Nat}
theorem trod_tx {ts : TypeId} {cs : List Value} {x : DataW H × List MemPlace} (hu : P.underlying ts = some .string)
    (h : DataW.trod enc P w base (fun _ => true) held fuel ts cs = some x) : ∃ l : List UInt8, cs = encS l ∧ l.length ≤ 9223372036854775807 := by
  obtain ⟨s, e, _, hs⟩ := DataW.trod_string hu h
  exact ⟨s.data.toList, e, by rw [size_tx]; exact max_le hs⟩
/-- what is asked of the type of a span -/
structure SpT (P : Program) (tp : TypeId) : Prop where
  ex : ∃ (ti : TypeId) (g0 g1 : Field), P.underlying tp = some (.struct #[g0, g1]) ∧ P.underlying ti = some (.int .i64) ∧ g0.type = ti ∧ g1.type = ti ∧ oneCellFields P #[g0, g1] = true ∧ P.cellsOf tp = 2
theorem trod_sp {tp : TypeId} {cs : List Value} {x : DataW H × List MemPlace} (hp : SpT P tp)
    (h : DataW.trod enc P w base (fun _ => true) held fuel tp cs = some x) : ∃ p : Int × Int, cs = encP p := by
  obtain ⟨ti, g0, g1, a, b, c, d, e, f⟩ := hp.ex
  obtain ⟨p, hp, _⟩ := trod_pt a b c d e f h
  exact ⟨p, hp⟩
theorem trod_lk {t tp ts : TypeId} {f0 f1 f2 : Field} {cs : List Value} {x : DataW H × List MemPlace} (hs : P.underlying t = some (.struct #[f0, f1, f2])) (hp : SpT P tp) (hu : P.underlying ts = some .string)
    (h0 : f0.type = ts) (h1 : f1.type = ts) (h2 : f2.type = tp) (hCs : P.cellsOf ts = 1) (hC : P.cellsOf t = 4) (o0 : f0.offset = 0) (o1 : f1.offset = 1) (o2 : f2.offset = 2)
    (h : DataW.trod enc P w base (fun _ => true) held fuel t cs = some x) : ∃ l : Lk, cs = encK l ∧ CanK l := by
  obtain ⟨xs, n, _, _, hll, hlen, hg⟩ := DataW.trod_struct hs h
  have hCp : P.cellsOf tp = 2 := by obtain ⟨_, _, _, _, _, _, _, _, e⟩ := hp.ex; exact e
  have g0 := hg 0 f0 rfl
  have g1 := hg 1 f1 rfl
  have g2 := hg 2 f2 rfl
  have hx : xs.length = 3 := by rw [hlen]; rfl
  rw [o0, h0, hCs, List.getElem?_eq_getElem (by omega)] at g0
  rw [o1, h1, hCs, List.getElem?_eq_getElem (by omega)] at g1
  rw [o2, h2, hCp, List.getElem?_eq_getElem (by omega)] at g2
  match cs, hll.trans hC with
  | [c0, c1, c2, c3], _ =>
    obtain ⟨a, e0, ha⟩ := trod_tx hu g0
    obtain ⟨b, e1, hb⟩ := trod_tx hu g1
    obtain ⟨p, e2⟩ := trod_sp hp g2
    simp [encS, encP] at e0 e1 e2
    obtain ⟨e2, e3⟩ := e2
    subst e0 e1 e2 e3
    exact ⟨(a, b, p.1, p.2), rfl, ha, hb⟩
theorem trod_nm {t tp ts ti : TypeId} {f0 f1 f2 f3 : Field} {cs : List Value} {x : DataW H × List MemPlace} (hs : P.underlying t = some (.struct #[f0, f1, f2, f3])) (hp : SpT P tp) (hu : P.underlying ts = some .string) (hi : P.underlying ti = some (.int .i64))
    (h0 : f0.type = ts) (h1 : f1.type = ts) (h2 : f2.type = ti) (h3 : f3.type = tp) (hCs : P.cellsOf ts = 1) (hCi : P.cellsOf ti = 1) (hC : P.cellsOf t = 5) (o0 : f0.offset = 0) (o1 : f1.offset = 1) (o2 : f2.offset = 2) (o3 : f3.offset = 3)
    (h : DataW.trod enc P w base (fun _ => true) held fuel t cs = some x) : ∃ l : Nm, cs = encN l ∧ CanN l := by
  obtain ⟨xs, n, _, _, hll, hlen, hg⟩ := DataW.trod_struct hs h
  have hCp : P.cellsOf tp = 2 := by obtain ⟨_, _, _, _, _, _, _, _, e⟩ := hp.ex; exact e
  have g0 := hg 0 f0 rfl
  have g1 := hg 1 f1 rfl
  have g2 := hg 2 f2 rfl
  have g3 := hg 3 f3 rfl
  have hx : xs.length = 4 := by rw [hlen]; rfl
  rw [o0, h0, hCs, List.getElem?_eq_getElem (by omega)] at g0
  rw [o1, h1, hCs, List.getElem?_eq_getElem (by omega)] at g1
  rw [o2, h2, hCi, List.getElem?_eq_getElem (by omega)] at g2
  rw [o3, h3, hCp, List.getElem?_eq_getElem (by omega)] at g3
  match cs, hll.trans hC with
  | [c0, c1, c2, c3, c4], _ =>
    obtain ⟨a, e0, ha⟩ := trod_tx hu g0
    obtain ⟨b, e1, hb⟩ := trod_tx hu g1
    obtain ⟨z, e2, _, _⟩ := DataW.trod_int hi g2
    obtain ⟨p, e3⟩ := trod_sp hp g3
    simp [encS, encP] at e0 e1 e2 e3
    obtain ⟨e3, e4⟩ := e3
    subst e0 e1 e2 e3 e4
    exact ⟨(a, b, z, p.1, p.2), rfl, ha, hb⟩
/-- what is asked of the type of a name -/
structure NmT (P : Program) (t : TypeId) : Prop where
  rd : ∀ {H : Type} {enc : TypeId × Value → H} {w : World} {base : Nat} {held : Bool} {fuel : Nat} {cs : List Value} {x : DataW H × List MemPlace}, DataW.trod enc P w base (fun _ => true) held fuel t cs = some x → ∃ l : Nm, cs = encN l ∧ CanN l
  ce : P.cellsOf t = 5
theorem trod_pl {t tp ts ti tl tn : TypeId} {f0 f1 f2 f3 : Field} {cs : List Value} {x : DataW H × List MemPlace} (hs : P.underlying t = some (.struct #[f0, f1, f2, f3])) (hp : SpT P tp) (hN : NmT P tn) (hu : P.underlying ts = some .string) (hi : P.underlying ti = some (.int .i64)) (hl : P.underlying tl = some (.slice tn))
    (h0 : f0.type = ts) (h1 : f1.type = ti) (h2 : f2.type = tp) (h3 : f3.type = tl) (hCs : P.cellsOf ts = 1) (hCi : P.cellsOf ti = 1) (hCl : P.cellsOf tl = 1) (hC : P.cellsOf t = 5) (o0 : f0.offset = 0) (o1 : f1.offset = 1) (o2 : f2.offset = 2) (o3 : f3.offset = 4)
    (h : DataW.trod enc P w base (fun _ => true) held fuel t cs = some x) : ∃ p : Pl, cs = encQ p ∧ ArgP1 w p := by
  obtain ⟨xs, n, _, _, hll, hlen, hg⟩ := DataW.trod_struct hs h
  have hCp : P.cellsOf tp = 2 := by obtain ⟨_, _, _, _, _, _, _, _, e⟩ := hp.ex; exact e
  have g0 := hg 0 f0 rfl
  have g1 := hg 1 f1 rfl
  have g2 := hg 2 f2 rfl
  have g3 := hg 3 f3 rfl
  have hx : xs.length = 4 := by rw [hlen]; rfl
  rw [o0, h0, hCs, List.getElem?_eq_getElem (by omega)] at g0
  rw [o1, h1, hCi, List.getElem?_eq_getElem (by omega)] at g1
  rw [o2, h2, hCp, List.getElem?_eq_getElem (by omega)] at g2
  rw [o3, h3, hCl, List.getElem?_eq_getElem (by omega)] at g3
  match cs, hll.trans hC with
  | [c0, c1, c2, c3, c4], _ =>
    obtain ⟨a, e0, ha⟩ := trod_tx hu g0
    obtain ⟨z, e1, _, _⟩ := DataW.trod_int hi g1
    obtain ⟨p, e2⟩ := trod_sp hp g2
    obtain ⟨A, c, ns, e3, hS, hG, _, _⟩ := open_sl (α := Nm) encN CanN hl hN.ce (by omega) (fun n cs x h => hN.rd h) g3
    have e3' := e3
    simp [encS, encP] at e0 e1 e2 e3
    obtain ⟨e2, e4⟩ := e2
    subst e0 e1 e2 e3 e4
    have hln := trod_len hl (by simpa using g3)
    exact ⟨(a, z, p.1, p.2, A, c, ns), rfl, hS, ha, hln, fun i hi => hG _ (by simp [List.getD, hi])⟩
end
theorem spT : SpT Tryz.prog 109 := ⟨2, _, _, Tryz.underlying109, Tryz.underlying2, rfl, rfl, by kernel_rfl, by kernel_rfl⟩
set_option maxRecDepth 100000 in
/-- a list of links among the arguments -/
theorem openLK {H : Type} {enc : TypeId × Value → H} {w : World} {base : Nat} {v : Value} {d : DataW H} {p : List MemPlace}
    (hv : Value.okWide Tryz.prog w .any base 62 v) (h : DataW.Trod enc Tryz.prog w 0 (fun _ => true) true 62 v d p) :
    ∃ (A : Option Addr) (c : Nat) (L : List Lk), v = .slice A L.length c ∧ ArgK w A L := by
  obtain ⟨a0, len, cap, rfl⟩ := okWide_slice Tryz.underlying62 hv
  obtain ⟨fuel, hf⟩ := h
  obtain ⟨A, c, L, hcs, hS, hG, _, _⟩ := open_sl (α := Lk) encK CanK Tryz.underlying62 (sz := 4) (by kernel_rfl) (by omega)
    (fun n cs x h => trod_lk Tryz.underlying111 spT Tryz.underlying9 rfl rfl rfl (by kernel_rfl) (by kernel_rfl) rfl rfl rfl h) hf
  have hlen : len ≤ 9223372036854775807 := trod_len (A := a0) (c := cap) Tryz.underlying62 (by simpa [Value.cells] using hf)
  have hcs' : Value.slice a0 len cap = .slice A L.length c := by simpa [Value.cells] using hcs
  refine ⟨A, c, L, hcs', hS, fun i hi => hG _ (by simp [List.getD, hi]), ?_⟩
  injection hcs' with _ e2
  omega

end Go.Proofs.YtmpgjajkaehdiaaGreatDoor
