/- Plain laws of what a world tells about years: no program in sight. -/
import Derived.Test.YtbnkiibjhfcffaaGreatDoorW1
import Derived.Test.YtbnkiibjhfcffaaGreatDoorS1
import Derived.Test.YtbnkiibjhfcffaaGreatDoorGP
namespace Go.Proofs.YtbnkiibjhfcffaaGreatDoor
open Go.RowKit

theorem wdB_iff {D : List Pd} {L : List Lk} : wdB D L = true ↔ rgB D = true ∧ lksB L = true ∧ L.all (wlB D) = true := by
  unfold wdB
  rw [Bool.and_eq_true, Bool.and_eq_true]
theorem wdB_pl {D : List Pd} {L : List Lk} (h : wdB D L = true) {j : Nat} (hj : j < D.length) : plB (D.getD j pdD) = true := by
  have := (rgB_iff.1 (wdB_iff.1 h).1).1 j hj
  unfold okR at this
  rw [Bool.and_eq_true] at this
  exact this.1
theorem wdB_len {D : List Pd} {L : List Lk} (h : wdB D L = true) : D.length ≤ 10 := (rgB_iff.1 (wdB_iff.1 h).1).2
theorem plB_iff {d : Pd} : plB d = true ↔ smL d.1 1 16 = true ∧ inB d.2.1 0 19 = true ∧ spB d.2.2.1 d.2.2.2.1 = true ∧ nsB d.2.2.2.2 = true ∧ d.2.2.2.2.all (inY d.2.2.1 d.2.2.2.1) = true := by
  unfold plB
  rw [Bool.and_eq_true, Bool.and_eq_true, Bool.and_eq_true, Bool.and_eq_true]
theorem inB_iff {x a b : Int} : inB x a b = true ↔ a ≤ x ∧ x ≤ b := by simp [inB]
/-- the code of a world, of something else, and of years -/
noncomputable def wyC (D : List Pd) (L : List Lk) (ok : Bool) (ys : List Int) : Int := if wdB D L = true ∧ ok = true then (if (ys.all fun y => inB y (-3000) 3000) = true then 0 else 2) else 1
section
variable {D : List Pd} {L : List Lk} {ok : Bool} {ys : List Int}
theorem wyC_wd (h : wdB D L = false) : wyC D L ok ys = 1 := by simp [wyC, h]
theorem wyC_no (h : ok = false) : wyC D L ok ys = 1 := by simp [wyC, h]
theorem wyC_year (h1 : wdB D L = true) (h2 : ok = true) (h : (ys.all fun y => inB y (-3000) 3000) = false) : wyC D L ok ys = 2 := by simp only [wyC, h1, h2, h]; rfl
theorem wyC_ok (h1 : wdB D L = true) (h2 : ok = true) (h : (ys.all fun y => inB y (-3000) 3000) = true) : wyC D L ok ys = 0 := by simp only [wyC, h1, h2, h]; rfl
theorem wyC_zero (h : wyC D L ok ys = 0) : wdB D L = true ∧ ok = true ∧ (ys.all fun y => inB y (-3000) 3000) = true := by
  unfold wyC at h
  split at h
  · rename_i h1
    split at h
    · rename_i h2
      exact ⟨h1.1, h1.2, h2⟩
    · omega
  · omega
end

/-- the code of a world, a place and a year -/
noncomputable def plC (D : List Pd) (L : List Lk) (x : List UInt8) (ok : Bool) (y : Int) : Int :=
  if wyC D L (smL x 1 16 && ok) [y] = 0 then (if (fndP D x).isSome = true then 0 else 4) else wyC D L (smL x 1 16 && ok) [y]

/-- a place exists in a year -/
def exB (d : Pd) (y : Int) : Bool := inB y d.2.2.1 d.2.2.2.1
/-- the codes of the places that p asks for, among the first k -/
def cdsTo (p : Pd → Bool) (D : List Pd) (k : Nat) : List (List UInt8) := ((D.take k).filter p).map fun d => d.1
def cdsP (p : Pd → Bool) (D : List Pd) : List (List UInt8) := (D.filter p).map fun d => d.1
theorem cdsTo_succ {p : Pd → Bool} {D : List Pd} {k : Nat} (hk : k < D.length) : cdsTo p D (k + 1) = if p (D.getD k pdD) = true then cdsTo p D k ++ [(D.getD k pdD).1] else cdsTo p D k := by
  unfold cdsTo
  rw [List.take_succ_eq_append_getElem hk, List.filter_append, List.map_append, show D.getD k pdD = D[k] by simp [List.getD, hk]]
  by_cases h : p D[k] = true
  · rw [if_pos h]; simp [h]
  · rw [if_neg h]; simp [h]
theorem cdsTo_len (p : Pd → Bool) (D : List Pd) (k : Nat) : (cdsTo p D k).length ≤ k := by
  unfold cdsTo
  rw [List.length_map]
  have := List.length_filter_le p (D.take k)
  rw [List.length_take] at this
  omega
theorem cdsTo_all (p : Pd → Bool) (D : List Pd) : cdsTo p D D.length = cdsP p D := by unfold cdsTo cdsP; rw [List.take_length]
theorem cdsP_len (p : Pd → Bool) (D : List Pd) : (cdsP p D).length ≤ D.length := by rw [← cdsTo_all]; exact cdsTo_len _ _ _

/-- what appears -/
def appB (a b : Int) (d : Pd) : Bool := exB d b && !exB d a
noncomputable def appR (D : List Pd) (L : List Lk) (a b : Int) : List (List UInt8) := if wyC D L true [a, b] = 0 then cdsP (appB a b) D else []
/-- what moves -/
def movB (L : List Lk) (a b : Int) (d : Pd) : Bool := exB d a && (exB d b && !(parT L d.1 a == parT L d.1 b))
noncomputable def movR (D : List Pd) (L : List Lk) (a b : Int) : List (List UInt8) := if wyC D L true [a, b] = 0 then cdsP (movB L a b) D else []
/-- how many lie inside -/
noncomputable def cntR (D : List Pd) (L : List Lk) (x : List UInt8) (y : Int) : Int := if plC D L x true y = 0 then ((insR L x y).length : Int) else 0
theorem plC_zero {D : List Pd} {L : List Lk} {x : List UInt8} {ok : Bool} {y : Int} (h : plC D L x ok y = 0) : wdB D L = true ∧ smL x 1 16 = true ∧ ok = true ∧ inB y (-3000) 3000 = true ∧ (fndP D x).isSome = true := by
  unfold plC at h
  split at h
  · rename_i h1
    split at h
    · rename_i h2
      obtain ⟨a, b, c⟩ := wyC_zero h1
      rw [Bool.and_eq_true] at b
      exact ⟨a, b.1, b.2, by simpa using c, h2⟩
    · omega
  · rename_i h1; exact absurd h h1
theorem plC_lkC {D : List Pd} {L : List Lk} {x : List UInt8} {ok : Bool} {y : Int} (h : plC D L x ok y = 0) : lkC L [x] y = 0 := by
  obtain ⟨a, b, _, d, _⟩ := plC_zero h
  exact lkC_ok (wdB_iff.1 a).2.1 (by simpa using b) d

/-- the indices of the names that are used in a year, among the first k -/
def usB (ns : List Nm) (y : Int) (i : Nat) : Bool := inB y (ns.getD i nmD).2.2.2.1 (ns.getD i nmD).2.2.2.2
def usTo (ns : List Nm) (y : Int) (k : Nat) : List Int := ((List.range k).filter (usB ns y)).map fun i : Nat => (i : Int)
def usL (ns : List Nm) (y : Int) : List Int := usTo ns y ns.length
theorem usTo_succ (ns : List Nm) (y : Int) (k : Nat) : usTo ns y (k + 1) = if usB ns y k = true then usTo ns y k ++ [(k : Int)] else usTo ns y k := by
  unfold usTo
  rw [List.range_succ, List.filter_append, List.map_append]
  by_cases h : usB ns y k = true
  · rw [if_pos h]; simp [h]
  · rw [if_neg h]; simp [h]
theorem usTo_len (ns : List Nm) (y : Int) (k : Nat) : (usTo ns y k).length ≤ k := by
  unfold usTo
  rw [List.length_map]
  have := List.length_filter_le (usB ns y) (List.range k)
  rw [List.length_range] at this
  exact this
theorem usTo_at (ns : List Nm) (y : Int) (k : Nat) {j : Nat} (hj : j < (usTo ns y k).length) : ∃ i : Nat, (usTo ns y k).getD j 0 = i ∧ i < k ∧ usB ns y i = true := by
  have hm : (usTo ns y k).getD j 0 ∈ usTo ns y k := by simp [List.getD, hj]
  unfold usTo at hm
  rw [List.mem_map] at hm
  obtain ⟨i, hi, e⟩ := hm
  rw [List.mem_filter, List.mem_range] at hi
  exact ⟨i, e.symm, hi.1, hi.2⟩
/-- the same state -/
def stB (d : Pd) (L : List Lk) (a b : Int) : Bool := (usL d.2.2.2.2 a == usL d.2.2.2.2 b) && (parT L d.1 a == parT L d.1 b)
theorem stB_iff {d : Pd} {L : List Lk} {a b : Int} : stB d L a b = true ↔ usL d.2.2.2.2 a = usL d.2.2.2.2 b ∧ parT L d.1 a = parT L d.1 b := by simp [stB]
theorem stB_refl (d : Pd) (L : List Lk) (a : Int) : stB d L a a = true := stB_iff.2 ⟨rfl, rfl⟩
/-- the first year down from y with P, and the last one up -/
def LoE (P : Int → Bool) (y a : Int) : Prop := a ≤ y ∧ (∀ z, a ≤ z → z ≤ y → P z = true) ∧ P (a - 1) = false
def HiE (P : Int → Bool) (y b : Int) : Prop := y ≤ b ∧ (∀ z, y ≤ z → z ≤ b → P z = true) ∧ P (b + 1) = false
theorem LoE.eq {P : Int → Bool} {y a b : Int} (h : LoE P y a) (k : LoE P y b) : a = b := by
  obtain ⟨h1, h2, h3⟩ := h
  obtain ⟨k1, k2, k3⟩ := k
  rcases Int.lt_trichotomy a b with c | c | c
  · rw [h2 (b - 1) (by omega) (by omega)] at k3; cases k3
  · exact c
  · rw [k2 (a - 1) (by omega) (by omega)] at h3; cases h3
theorem HiE.eq {P : Int → Bool} {y a b : Int} (h : HiE P y a) (k : HiE P y b) : a = b := by
  obtain ⟨h1, h2, h3⟩ := h
  obtain ⟨k1, k2, k3⟩ := k
  rcases Int.lt_trichotomy a b with c | c | c
  · rw [k2 (a + 1) (by omega) (by omega)] at h3; cases h3
  · exact c
  · rw [h2 (b + 1) (by omega) (by omega)] at k3; cases k3
open Classical in
noncomputable def loS (P : Int → Bool) (y : Int) : Int := if h : ∃ a, LoE P y a then h.choose else y
open Classical in
noncomputable def hiS (P : Int → Bool) (y : Int) : Int := if h : ∃ a, HiE P y a then h.choose else y
theorem loS_eq {P : Int → Bool} {y a : Int} (h : LoE P y a) : loS P y = a := by
  have hx : ∃ a, LoE P y a := ⟨a, h⟩
  unfold loS
  rw [dif_pos hx]
  exact hx.choose_spec.eq h
theorem hiS_eq {P : Int → Bool} {y a : Int} (h : HiE P y a) : hiS P y = a := by
  have hx : ∃ a, HiE P y a := ⟨a, h⟩
  unfold hiS
  rw [dif_pos hx]
  exact hx.choose_spec.eq h
/-- the years that have a year's state -/
def sbP (d : Pd) (L : List Lk) (y z : Int) : Bool := exB d z && stB d L z y
/-- a place whose code is known -/
theorem fnd_some {D : List Pd} {x : List UInt8} (h : (fndP D x).isSome = true) : ∃ k : Nat, fnxP D x = k ∧ k < D.length ∧ fndP D x = some (D.getD k pdD) ∧ (D.getD k pdD).1 = x := by
  rcases fnx_cases D x with ⟨_, h2, _⟩ | hk
  · rw [h2] at h; cases h
  · exact hk
theorem fnx_lt {D : List Pd} {x : List UInt8} : fnxP D x < 0 ↔ (fndP D x).isSome = false := by
  rcases fnx_cases D x with ⟨h1, h2, _⟩ | ⟨k, h1, _, h3, _⟩
  · rw [h1, h2]; simp
  · rw [h1, h3]; simp
end Go.Proofs.YtbnkiibjhfcffaaGreatDoor
