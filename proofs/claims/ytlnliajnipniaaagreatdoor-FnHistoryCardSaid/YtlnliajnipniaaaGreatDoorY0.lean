/- Contracts of the laws on lists of int64, walked over the translation. Plain laws of what a world tells about years: no program in sight. -/
import Derived.Test.YtlnliajnipniaaaGreatDoorW1
import Derived.Test.YtlnliajnipniaaaGreatDoorS1
namespace Go.Proofs.YtlnliajnipniaaaGreatDoor
open Go.RowKit
attribute [local go_sem] ExtOf.cell ExtOf.frozen
theorem len_encI : ∀ x, (encI x).length = 1 := fun _ => rfl
theorem one_encI : ∀ p, ∀ u ∈ encI p, u.oneCell' = true := by
 intro p u hu
 simp [encI] at hu
 subst hu; rfl
theorem elI : ElT Tryz.prog 30 2 1 8 := ElT.mk' (z := .int .i64 0) Tryz.underlying30 (by kernel_rfl) rfl (by omega)
abbrev OwI (w : World) (base : Nat) (v : Value) (xs : List Int) : Prop := Own encI 1 2 w base v xs
theorem blk_i1 {w : World} {g : Nat} {t : TypeId} {x : Int} (h : Blk w g t #[.int .i64 x]) : SlAt w 1 encI (some ⟨g, 0, none⟩) [x] := h.sl rfl len_encI
theorem blk_i2 {w : World} {g : Nat} {t : TypeId} {x y : Int} (h : Blk w g t #[.int .i64 x, .int .i64 y]) : SlAt w 1 encI (some ⟨g, 0, none⟩) [x, y] := h.sl rfl len_encI
theorem SlAt.it {w : World} {A : Option Addr} {xs : List Int} (h : SlAt w 1 encI A xs) {k : Nat} (hk : k < xs.length) :
  ∃ b off, A = some ⟨b, off, none⟩ ∧ b < w.heap.size ∧ w.cell? ⟨b, off + k, none⟩ = some (.int .i64 (xs.getD k 0)) := by
 obtain ⟨b, off, e, hb, hc⟩ := h (by omega)
 have hg : xs[k]? = some (xs.getD k 0) := by simp [List.getD, hk]
 exact ⟨b, off, e, hb, by simpa using hc k _ hg 0 _ rfl⟩
set_option maxHeartbeats 1600000 in
theorem i_areWithin (A : Option Addr) (n c : Nat) (xs : List Int) (lo hi : Int) (w : World) (h : SlAt w 1 encI A xs) (hn : n = xs.length) (hl : n ≤ 1048576) :
  Calls Tryz.prog 53 #[.slice A n c, .int .i64 lo, .int .i64 hi] w fun e w' => e = .returned (.bool (xs.all fun x => inB x lo hi)) ∧ w = w' := by
 have HN := hI hn
 clear hn
 go_enter Tryz.func53, Tryz.ntmps53
 go_wp2
 go_loop [11] (fun i => ∃ k : Nat, k ≤ n ∧ i = .int .i64 k ∧ Hid (∀ j, j < k → inB (xs.getD j 0) lo hi = true)) (fun i => n - (intOf i).toNat)
 case atStart => exact ⟨0, Nat.zero_le _, rfl, fun j hj => absurd hj (by omega)⟩
 case round =>
  obtain ⟨k, hk, rfl, HJ⟩ := hrel
  by_cases hlt : k < n
  ·have hkn : k < xs.length := by rw [← HN.out]; exact hlt
   obtain ⟨b, off, rfl, hb, d0⟩ := h.it hkn
   obtain ⟨x, hx⟩ : ∃ x, x = xs.getD k 0 := ⟨_, rfl⟩
   rw [← hx] at d0
   have HX := hI hx
   clear hx
   cases hb : inB x lo hi with
   | true =>
    have hcall : ∀ W, Calls Tryz.prog 100 #[.int .i64 x, .int .i64 lo, .int .i64 hi] W fun e w' => e = .returned (.bool true) ∧ W = w' := fun W => by have := within_any x lo hi W; rwa [hb] at this
    have HC := hI hcall
    have HB := hI hb
    clear hcall hb
    go_wp2_with fail
    refine (HC.out _).mono ?_
    rintro e w' ⟨rfl, rfl⟩
    go_wp2
    go_round
    case rel =>
     refine ⟨k + 1, by omega, by go_num, fun j hj => ?_⟩
     rcases Nat.lt_or_ge j k with c | c
     ·exact HJ.out j c
     ·obtain rfl : j = k := by omega
      rw [← HX.out]; exact HB.out
    case measure => simp [intOf]; omega
   | false =>
    have hcall : ∀ W, Calls Tryz.prog 100 #[.int .i64 x, .int .i64 lo, .int .i64 hi] W fun e w' => e = .returned (.bool false) ∧ W = w' := fun W => by have := within_any x lo hi W; rwa [hb] at this
    have HC := hI hcall
    have HB := hI hb
    clear hcall hb
    go_wp2_with fail
    refine (HC.out _).mono ?_
    rintro e w' ⟨rfl, rfl⟩
    go_wp2
    go_ret
    refine ⟨ret_bool (Eq.symm ?_), rfl⟩
    rw [List.all_eq_false]
    exact ⟨xs.getD k 0, by simp [List.getD, hkn], by rw [← HX.out, HB.out]; simp⟩
  ·obtain rfl : k = n := by omega
   go_wp2
   go_ret
   refine ⟨ret_bool (Eq.symm ?_), rfl⟩
   rw [List.all_eq_true]
   intro x hx
   obtain ⟨j, hj, rfl⟩ := List.mem_iff_getElem.1 hx
   have := HJ.out j (by rw [HN.out]; exact hj)
   simpa [List.getD, hj] using this
end Go.Proofs.YtlnliajnipniaaaGreatDoor
namespace Go.Proofs.YtlnliajnipniaaaGreatDoor
open Go.RowKit
theorem wdB_iff {D : List Pd} {L : List Lk} : wdB D L = true ↔ rgB D = true ∧ lksB L = true ∧ L.all (wlB D) = true := by
 unfold wdB
 rw [Bool.and_eq_true, Bool.and_eq_true]
theorem wdB_pl {D : List Pd} {L : List Lk} (h : wdB D L = true) {j : Nat} (hj : j < D.length) : plB (D.getD j pdD) = true := by
 have := (rgB_iff.1 (wdB_iff.1 h).1).1 j hj
 unfold okR at this
 rw [Bool.and_eq_true] at this
 exact this.1
theorem wdB_len {D : List Pd} {L : List Lk} (h : wdB D L = true) : D.length ≤ 10 := (rgB_iff.1 (wdB_iff.1 h).1).2
theorem plB_iff {d : Pd} : plB d = true ↔ smL d.1 1 16 = true ∧ inB d.2.1 0 19 = true ∧ spB d.2.2.1 d.2.2.2.1 = true ∧ nsB d.2.2.2.2 = true ∧ d.2.2.2.2.all (inY d.2.2.1 d.2.2.2.1) = true := by
 unfold plB
 rw [Bool.and_eq_true, Bool.and_eq_true, Bool.and_eq_true, Bool.and_eq_true]
theorem inB_iff {x a b : Int} : inB x a b = true ↔ a ≤ x ∧ x ≤ b := by simp [inB]
theorem inB_no {x a b : Int} : inB x a b = false ↔ x < a ∨ b < x := by
 unfold inB
 rw [Bool.and_eq_false_iff, decide_eq_false_iff_not, decide_eq_false_iff_not]
 omega
noncomputable def wyC (D : List Pd) (L : List Lk) (ok : Bool) (ys : List Int) : Int := if wdB D L = true ∧ ok = true then (if (ys.all fun y => inB y (-3000) 3000) = true then 0 else 2) else 1
section
variable {D : List Pd} {L : List Lk} {ok : Bool} {ys : List Int}
theorem wyC_wd (h : wdB D L = false) : wyC D L ok ys = 1 := by simp [wyC, h]
theorem wyC_no (h : ok = false) : wyC D L ok ys = 1 := by simp [wyC, h]
theorem wyC_year (h1 : wdB D L = true) (h2 : ok = true) (h : (ys.all fun y => inB y (-3000) 3000) = false) : wyC D L ok ys = 2 := by simp only [wyC, h1, h2, h]; rfl
theorem wyC_ok (h1 : wdB D L = true) (h2 : ok = true) (h : (ys.all fun y => inB y (-3000) 3000) = true) : wyC D L ok ys = 0 := by simp only [wyC, h1, h2, h]; rfl
theorem wyC_zero (h : wyC D L ok ys = 0) : wdB D L = true ∧ ok = true ∧ (ys.all fun y => inB y (-3000) 3000) = true := by
 unfold wyC at h
 split at h
 ·rename_i h1
  split at h
  ·rename_i h2
   exact ⟨h1.1, h1.2, h2⟩
  ·omega
 ·omega
end
noncomputable def plC (D : List Pd) (L : List Lk) (x : List UInt8) (ok : Bool) (y : Int) : Int :=
 if wyC D L (smL x 1 16 && ok) [y] = 0 then (if (fndP D x).isSome = true then 0 else 4) else wyC D L (smL x 1 16 && ok) [y]
def exB (d : Pd) (y : Int) : Bool := inB y d.2.2.1 d.2.2.2.1
def cdsTo (p : Pd → Bool) (D : List Pd) (k : Nat) : List (List UInt8) := ((D.take k).filter p).map fun d => d.1
def cdsP (p : Pd → Bool) (D : List Pd) : List (List UInt8) := (D.filter p).map fun d => d.1
theorem cdsTo_succ {p : Pd → Bool} {D : List Pd} {k : Nat} (hk : k < D.length) : cdsTo p D (k + 1) = if p (D.getD k pdD) = true then cdsTo p D k ++ [(D.getD k pdD).1] else cdsTo p D k := by
 unfold cdsTo
 rw [List.take_succ_eq_append_getElem hk, List.filter_append, List.map_append, show D.getD k pdD = D[k] by simp [List.getD, hk]]
 by_cases h : p D[k] = true
 ·rw [if_pos h]; simp [h]
 ·rw [if_neg h]; simp [h]
theorem cdsTo_len (p : Pd → Bool) (D : List Pd) (k : Nat) : (cdsTo p D k).length ≤ k := by
 unfold cdsTo
 rw [List.length_map]
 have := List.length_filter_le p (D.take k)
 rw [List.length_take] at this
 omega
theorem cdsTo_all (p : Pd → Bool) (D : List Pd) : cdsTo p D D.length = cdsP p D := by unfold cdsTo cdsP; rw [List.take_length]
theorem cdsP_len (p : Pd → Bool) (D : List Pd) : (cdsP p D).length ≤ D.length := by rw [← cdsTo_all]; exact cdsTo_len _ _ _
theorem plC_zero {D : List Pd} {L : List Lk} {x : List UInt8} {ok : Bool} {y : Int} (h : plC D L x ok y = 0) : wdB D L = true ∧ smL x 1 16 = true ∧ ok = true ∧ inB y (-3000) 3000 = true ∧ (fndP D x).isSome = true := by
 unfold plC at h
 split at h
 ·rename_i h1
  split at h
  ·rename_i h2
   obtain ⟨a, b, c⟩ := wyC_zero h1
   rw [Bool.and_eq_true] at b
   exact ⟨a, b.1, b.2, by simpa using c, h2⟩
  ·omega
 ·rename_i h1; exact absurd h h1
def usB (ns : List Nm) (y : Int) (i : Nat) : Bool := inB y (ns.getD i nmD).2.2.2.1 (ns.getD i nmD).2.2.2.2
def usTo (ns : List Nm) (y : Int) (k : Nat) : List Int := ((List.range k).filter (usB ns y)).map fun i : Nat => (i : Int)
def usL (ns : List Nm) (y : Int) : List Int := usTo ns y ns.length
theorem usTo_succ (ns : List Nm) (y : Int) (k : Nat) : usTo ns y (k + 1) = if usB ns y k = true then usTo ns y k ++ [(k : Int)] else usTo ns y k := by
 unfold usTo
 rw [List.range_succ, List.filter_append, List.map_append]
 by_cases h : usB ns y k = true
 ·rw [if_pos h]; simp [h]
 ·rw [if_neg h]; simp [h]
theorem usTo_len (ns : List Nm) (y : Int) (k : Nat) : (usTo ns y k).length ≤ k := by
 unfold usTo
 rw [List.length_map]
 have := List.length_filter_le (usB ns y) (List.range k)
 rw [List.length_range] at this
 exact this
theorem usTo_at (ns : List Nm) (y : Int) (k : Nat) {j : Nat} (hj : j < (usTo ns y k).length) : ∃ i : Nat, (usTo ns y k).getD j 0 = i ∧ i < k ∧ usB ns y i = true := by
 have hm : (usTo ns y k).getD j 0 ∈ usTo ns y k := by simp [List.getD, hj]
 unfold usTo at hm
 rw [List.mem_map] at hm
 obtain ⟨i, hi, e⟩ := hm
 rw [List.mem_filter, List.mem_range] at hi
 exact ⟨i, e.symm, hi.1, hi.2⟩
def stB (d : Pd) (L : List Lk) (a b : Int) : Bool := (usL d.2.2.2.2 a == usL d.2.2.2.2 b) && (parT L d.1 a == parT L d.1 b)
theorem stB_iff {d : Pd} {L : List Lk} {a b : Int} : stB d L a b = true ↔ usL d.2.2.2.2 a = usL d.2.2.2.2 b ∧ parT L d.1 a = parT L d.1 b := by simp [stB]
theorem stB_refl (d : Pd) (L : List Lk) (a : Int) : stB d L a a = true := stB_iff.2 ⟨rfl, rfl⟩
theorem stB_symm {d : Pd} {L : List Lk} {a b : Int} : stB d L a b = stB d L b a := by
 rw [Bool.eq_iff_iff, stB_iff, stB_iff]
 exact ⟨fun h => ⟨h.1.symm, h.2.symm⟩, fun h => ⟨h.1.symm, h.2.symm⟩⟩
theorem stB_trans {d : Pd} {L : List Lk} {a b c : Int} (h : stB d L a b = true) : stB d L a c = stB d L b c := by
 obtain ⟨h1, h2⟩ := stB_iff.1 h
 unfold stB
 rw [h1, h2]
def sdB (d : Pd) (L : List Lk) (y : Int) : Bool := if (exB d y && exB d (y - 1)) = true then stB d L y (y - 1) else exB d y == exB d (y - 1)
theorem sdB_both {d : Pd} {L : List Lk} {y : Int} (h1 : exB d y = true) (h2 : exB d (y - 1) = true) : sdB d L y = stB d L y (y - 1) := by unfold sdB; rw [h1, h2]; rfl
theorem sdB_not {d : Pd} {L : List Lk} {y : Int} (h : (exB d y && exB d (y - 1)) = false) : sdB d L y = (exB d y == exB d (y - 1)) := by unfold sdB; rw [h]; rfl
def trTo (d : Pd) (L : List Lk) (k : Nat) : List Int := ((List.range k).filter fun i : Nat => !sdB d L ((i : Int) + -3000)).map fun i : Nat => (i : Int) + -3000
theorem trTo_succ (d : Pd) (L : List Lk) (k : Nat) : trTo d L (k + 1) = if sdB d L ((k : Int) + -3000) = true then trTo d L k else trTo d L k ++ [(k : Int) + -3000] := by
 unfold trTo
 rw [List.range_succ, List.filter_append, List.map_append]
 by_cases h : sdB d L ((k : Int) + -3000) = true
 ·rw [if_pos h]; simp [h]
 ·rw [if_neg h]
  have : sdB d L ((k : Int) + -3000) = false := by simpa using h
  simp [this]
theorem trTo_len (d : Pd) (L : List Lk) (k : Nat) : (trTo d L k).length ≤ k := by
 unfold trTo
 rw [List.length_map]
 have := List.length_filter_le (fun i : Nat => !sdB d L ((i : Int) + -3000)) (List.range k)
 rw [List.length_range] at this
 exact this
def trL (d : Pd) (L : List Lk) : List Int := trTo d L 6001
noncomputable def trC (D : List Pd) (L : List Lk) (x : List UInt8) : Int := if plC D L x true 0 = 0 then (if 40 < (trL ((fndP D x).getD pdD) L).length then 3 else 0) else plC D L x true 0
noncomputable def trR (D : List Pd) (L : List Lk) (x : List UInt8) : List Int := if trC D L x = 0 then trL ((fndP D x).getD pdD) L else []
theorem trR_len (D : List Pd) (L : List Lk) (x : List UInt8) : (trR D L x).length ≤ 6001 := by
 unfold trR
 split
 ·exact trTo_len _ _ _
 ·simp
def LoE (P : Int → Bool) (y a : Int) : Prop := a ≤ y ∧ (∀ z, a ≤ z → z ≤ y → P z = true) ∧ P (a - 1) = false
def HiE (P : Int → Bool) (y b : Int) : Prop := y ≤ b ∧ (∀ z, y ≤ z → z ≤ b → P z = true) ∧ P (b + 1) = false
theorem LoE.eq {P : Int → Bool} {y a b : Int} (h : LoE P y a) (k : LoE P y b) : a = b := by
 obtain ⟨h1, h2, h3⟩ := h
 obtain ⟨k1, k2, k3⟩ := k
 rcases Int.lt_trichotomy a b with c | c | c
 ·rw [h2 (b - 1) (by omega) (by omega)] at k3; cases k3
 ·exact c
 ·rw [k2 (a - 1) (by omega) (by omega)] at h3; cases h3
theorem HiE.eq {P : Int → Bool} {y a b : Int} (h : HiE P y a) (k : HiE P y b) : a = b := by
 obtain ⟨h1, h2, h3⟩ := h
 obtain ⟨k1, k2, k3⟩ := k
 rcases Int.lt_trichotomy a b with c | c | c
 ·rw [k2 (a + 1) (by omega) (by omega)] at h3; cases h3
 ·exact c
 ·rw [h2 (b + 1) (by omega) (by omega)] at k3; cases k3
open Classical in
noncomputable def loS (P : Int → Bool) (y : Int) : Int := if h : ∃ a, LoE P y a then h.choose else y
open Classical in
noncomputable def hiS (P : Int → Bool) (y : Int) : Int := if h : ∃ a, HiE P y a then h.choose else y
theorem loS_eq {P : Int → Bool} {y a : Int} (h : LoE P y a) : loS P y = a := by
 have hx : ∃ a, LoE P y a := ⟨a, h⟩
 unfold loS
 rw [dif_pos hx]
 exact hx.choose_spec.eq h
theorem hiS_eq {P : Int → Bool} {y a : Int} (h : HiE P y a) : hiS P y = a := by
 have hx : ∃ a, HiE P y a := ⟨a, h⟩
 unfold hiS
 rw [dif_pos hx]
 exact hx.choose_spec.eq h
def sbP (d : Pd) (L : List Lk) (y z : Int) : Bool := exB d z && stB d L z y
noncomputable def ssC (D : List Pd) (L : List Lk) (x : List UInt8) (ok : Bool) (y : Int) : Int := if plC D L x ok y = 0 then (if exB ((fndP D x).getD pdD) y = true then 0 else 5) else plC D L x ok y
noncomputable def ssA (D : List Pd) (L : List Lk) (x : List UInt8) (y : Int) : Int := if ssC D L x true y = 0 then loS (sbP ((fndP D x).getD pdD) L y) y else 0
noncomputable def ssZ (D : List Pd) (L : List Lk) (x : List UInt8) (y : Int) : Int := if ssC D L x true y = 0 then hiS (sbP ((fndP D x).getD pdD) L y) y else 0
theorem ssC_zero {D : List Pd} {L : List Lk} {x : List UInt8} {ok : Bool} {y : Int} (h : ssC D L x ok y = 0) : plC D L x ok y = 0 ∧ exB ((fndP D x).getD pdD) y = true := by
 unfold ssC at h
 split at h
 ·rename_i h1
  split at h
  ·rename_i h2; exact ⟨h1, h2⟩
  ·omega
 ·rename_i h1; exact absurd h h1
theorem fnd_some {D : List Pd} {x : List UInt8} (h : (fndP D x).isSome = true) : ∃ k : Nat, fnxP D x = k ∧ k < D.length ∧ fndP D x = some (D.getD k pdD) ∧ (D.getD k pdD).1 = x := by
 rcases fnx_cases D x with ⟨_, h2, _⟩ | hk
 ·rw [h2] at h; cases h
 ·exact hk
theorem fnx_lt {D : List Pd} {x : List UInt8} : fnxP D x < 0 ↔ (fndP D x).isSome = false := by
 rcases fnx_cases D x with ⟨h1, h2, _⟩ | ⟨k, h1, _, h3, _⟩
 ·rw [h1, h2]; simp
 ·rw [h1, h3]; simp
end Go.Proofs.YtlnliajnipniaaaGreatDoor
