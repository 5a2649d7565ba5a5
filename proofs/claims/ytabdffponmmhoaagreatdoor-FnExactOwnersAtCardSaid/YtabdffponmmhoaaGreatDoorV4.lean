/- Contracts of the laws on lists of int64, walked over the translation. Contracts of areas of views: codes, sums. The area of an owner in a view, walked over the translation. The distance of views, walked over the translation. The disputed area, walked over the translation. Contracts of marks in lists of texts, walked over the translation. Words for memory turned between two bounds. Marks in lists of rings and of views, walked over the translation. The majority of views, walked over the translation. The law of MajorityView, walked over the translation. -/
import Derived.Test.YtabdffponmmhoaaGreatDoorEG
import Derived.Test.YtabdffponmmhoaaGreatDoorG0
import Derived.Deep.RegionHeld3
import Derived.Deep.DeepCutAuto
import Derived.RegionTactic
import Derived.BigRegion
import Derived.WalkLawsBesides
import Derived.WalkSpells
import Derived.Lib.MinMax
import Derived.Outline
import Derived.Test.YtabdffponmmhoaaGreatDoorV1
import Derived.Test.YtabdffponmmhoaaGreatDoorGT
namespace Go.Proofs.YtabdffponmmhoaaGreatDoor
open Go.RowKit
attribute [local go_sem] ExtOf.cell ExtOf.frozen

theorem len_encI : ∀ x, (encI x).length = 1 := fun _ => rfl
theorem one_encI : ∀ p, ∀ u ∈ encI p, u.oneCell' = true := by
  intro p u hu
  simp [encI] at hu
  subst hu; rfl
theorem elI : ElT Tryz.prog 168 2 1 8 := ElT.mk' (z := .int .i64 0) Tryz.underlying168 (by kernel_rfl) rfl (by omega)
abbrev OwI (w : World) (base : Nat) (v : Value) (xs : List Int) : Prop := Own encI 1 2 w base v xs
theorem blk_i1 {w : World} {g : Nat} {t : TypeId} {x : Int} (h : Blk w g t #[.int .i64 x]) : SlAt w 1 encI (some ⟨g, 0, none⟩) [x] := h.sl rfl len_encI
theorem blk_i2 {w : World} {g : Nat} {t : TypeId} {x y : Int} (h : Blk w g t #[.int .i64 x, .int .i64 y]) : SlAt w 1 encI (some ⟨g, 0, none⟩) [x, y] := h.sl rfl len_encI
theorem SlAt.it {w : World} {A : Option Addr} {xs : List Int} (h : SlAt w 1 encI A xs) {k : Nat} (hk : k < xs.length) :
    ∃ b off, A = some ⟨b, off, none⟩ ∧ b < w.heap.size ∧ w.cell? ⟨b, off + k, none⟩ = some (.int .i64 (xs.getD k 0)) := by
  obtain ⟨b, off, e, hb, hc⟩ := h (by omega)
  have hg : xs[k]? = some (xs.getD k 0) := by simp [List.getD, hk]
  exact ⟨b, off, e, hb, by simpa using hc k _ hg 0 _ rfl⟩
theorem SlAt.it' {w : World} {b off : Nat} {xs : List Int} (h : SlAt w 1 encI (some ⟨b, off, none⟩) xs) {k : Nat} (hk : k < xs.length) :
    w.cell? ⟨b, off + k, none⟩ = some (.int .i64 (xs.getD k 0)) := by
  obtain ⟨b', off', e, _, hc⟩ := h.it hk
  injection e with e
  injection e with e1 e2
  subst e1 e2
  exact hc
/-- marks in a list of int64 -/
def marksI (k : Int) (n : Nat) : List Int := (List.range n).map fun i : Nat => k + (i : Int)
theorem marksI_len (k : Int) (n : Nat) : (marksI k n).length = n := by simp [marksI]
theorem marksI_at (k : Int) {n i : Nat} (hi : i < n) : (marksI k n).getD i 0 = k + (i : Int) := by simp [marksI, List.getD, hi]
def MarkI (k : Int) (j sz : Nat) (cs : Array Value) : Prop := cs.size = sz ∧ ∀ q, q < j → cs[q]? = some (.int .i64 (k + (q : Int)))
theorem MarkI.step {k : Int} {j sz : Nat} {cs : Array Value} (h : MarkI k j sz cs) (hs : j < sz) : MarkI k (j + 1) sz (cs.setIfInBounds j (.int .i64 (k + (j : Int)))) := by
  have hz := h.1
  refine ⟨by simpa using h.1, fun q hq => ?_⟩
  by_cases e : q = j
  · subst e
    rw [Array.getElem?_setIfInBounds_self_of_lt (by omega)]
  · rw [Array.getElem?_setIfInBounds_ne (by omega)]
    exact h.2 q (by omega)
theorem MarkI.done {k : Int} {n sz : Nat} {cs : Array Value} (h : MarkI k n sz cs) (hs : n ≤ sz) : cs.toList.take (n * 1) = (marksI k n).flatMap encI := by
  have hz := h.1
  rw [Nat.mul_one]
  apply List.ext_getElem?
  intro i
  rcases Nat.lt_or_ge i n with hi | hi
  · rw [List.getElem?_take_of_lt hi, Array.getElem?_toList, h.2 i hi]
    have hg : (marksI k n)[i]? = some (k + (i : Int)) := by simp [marksI, hi]
    have h0 := flatMap_at (enc := encI) (sz := 1) len_encI (marksI k n) i _ 0 _ hg rfl
    rw [Nat.mul_one, Nat.add_zero] at h0
    rw [h0]
  · have hle : (cs.toList.take n).length ≤ i := by simp; omega
    rw [List.getElem?_eq_none hle, List.getElem?_eq_none (by rw [flatMap_len len_encI, marksI_len]; omega)]

end Go.Proofs.YtabdffponmmhoaaGreatDoor
namespace Go.Proofs.YtabdffponmmhoaaGreatDoor
open Go.RowKit
attribute [local go_sem] ExtOf.cell ExtOf.frozen

/-- the code of a map, views and indices of views -/
noncomputable def viC (L : List (List (Int × Int))) (V : List (List UInt8 × List (List UInt8))) (xs : List Int) : Int := if viB L V = true then (if (xs.all fun x => inB x 0 ((V.length : Int) - 1)) = true then 0 else 2) else 1
theorem viC_no {L : List (List (Int × Int))} {V : List (List UInt8 × List (List UInt8))} {xs : List Int} (h : viB L V = false) : viC L V xs = 1 := by simp [viC, h]
theorem viC_out {L : List (List (Int × Int))} {V : List (List UInt8 × List (List UInt8))} {xs : List Int} (h : viB L V = true) (hx : (xs.all fun x => inB x 0 ((V.length : Int) - 1)) = false) : viC L V xs = 2 := by unfold viC; rw [if_pos h, if_neg (by rw [hx]; simp)]
theorem viC_in {L : List (List (Int × Int))} {V : List (List UInt8 × List (List UInt8))} {xs : List Int} (h : viB L V = true) (hx : (xs.all fun x => inB x 0 ((V.length : Int) - 1)) = true) : viC L V xs = 0 := by unfold viC; rw [if_pos h, if_pos hx]
theorem viC_zero {L : List (List (Int × Int))} {V : List (List UInt8 × List (List UInt8))} {xs : List Int} (h : viC L V xs = 0) : viB L V = true ∧ (xs.all fun x => inB x 0 ((V.length : Int) - 1)) = true := by
  cases hb : viB L V with
  | false => rw [viC_no hb] at h; cases h
  | true =>
    refine ⟨rfl, ?_⟩
    cases hx : (xs.all fun x => inB x 0 ((V.length : Int) - 1)) with
    | true => rfl
    | false => rw [viC_out hb hx] at h; cases h
theorem viC_two (L : List (List (Int × Int))) (V : List (List UInt8 × List (List UInt8))) (a : Int) : viC L V [a, a] = viC L V [a] := by simp [viC]
/-- twice the areas of those of the first k rings that p asks for -/
def arI (L : List (List (Int × Int))) (p : Nat → Bool) (k : Nat) : Int := tot (fun i => if p i = true then areaA (L.getD i []) else 0) k
theorem arI_succ (L : List (List (Int × Int))) (p : Nat → Bool) (k : Nat) : arI L p (k + 1) = arI L p k + (if p k = true then areaA (L.getD k []) else 0) := by unfold arI; rw [tot]
theorem arI_bd {L : List (List (Int × Int))} (h : MapP L) (p : Nat → Bool) : ∀ k, k ≤ L.length → 0 ≤ arI L p k ∧ arI L p k ≤ 24000000 * (k : Int)
  | 0, _ => by simp [arI, tot]
  | k + 1, hk => by
    have := arI_bd h p k (by omega)
    have hb := areaA_bd (h.2.1 k (by omega))
    rw [arI_succ]
    split <;> omega
/-- the area of the rings that p asks for, 0 where the code is none of a success -/
noncomputable def arR (L : List (List (Int × Int))) (V : List (List UInt8 × List (List UInt8))) (xs : List Int) (p : Nat → Bool) : Int := if viC L V xs = 0 then arI L p L.length else 0
theorem viB_map {L : List (List (Int × Int))} {V : List (List UInt8 × List (List UInt8))} (h : viB L V = true) : MapP L ∧ AreV L.length V := by
  unfold viB at h
  rw [Bool.and_eq_true] at h
  exact ⟨mapB_iff.1 h.2, areV_iff.1 h.1⟩
theorem viB_len {rs : List Rg} {vs : List Vw} (h : viB (psOf rs) (voOf vs) = true) {k : Nat} (hk : k < vs.length) : (vs.getD k vwD).2.2.2.length = rs.length := by
  have h1 := (viB_map h).2.2 k (by rw [voOf_len]; exact hk)
  have h2 := h1.1
  rw [voOf_atD hk, psOf_len] at h2
  simp only [isvB, Bool.and_eq_true, decide_eq_true_eq] at h2
  exact h2.2.1
/-- the owner that view a tells for ring k -/
def ownOf (V : List (List UInt8 × List (List UInt8))) (a k : Nat) : ByteArray := tx ((V.getD a voD).2.getD k [])
theorem ownOf_at {vs : List Vw} {a k : Nat} (ha : a < vs.length) : ownOf (voOf vs) a k = tx ((vs.getD a vwD).2.2.2.getD k []) := by unfold ownOf; rw [voOf_atD ha]
def fA (V : List (List UInt8 × List (List UInt8))) (a : Nat) (own : ByteArray) (k : Nat) : Bool := (ownOf V a k).toList == own.toList
def fD (V : List (List UInt8 × List (List UInt8))) (a b : Nat) (k : Nat) : Bool := !((ownOf V a k).toList == (ownOf V b k).toList)
theorem fA_at {vs : List Vw} {a k : Nat} {own : ByteArray} (ha : a < vs.length) : fA (voOf vs) a own k = ((tx ((vs.getD a vwD).2.2.2.getD k [])).toList == own.toList) := by unfold fA; rw [ownOf_at ha]
theorem fD_at {vs : List Vw} {a b k : Nat} (ha : a < vs.length) (hb : b < vs.length) : fD (voOf vs) a b k = !((tx ((vs.getD a vwD).2.2.2.getD k [])).toList == (tx ((vs.getD b vwD).2.2.2.getD k [])).toList) := by unfold fD; rw [ownOf_at ha, ownOf_at hb]
theorem as_int0 {P : Program} {f : FuncId} {args : Array Value} {w : World} {k : IntKind} {b b' : Int} (h : Calls P f args w fun e w' => e = .returned (.int k b) ∧ Ext w w') (e : b = b') : Calls P f args w fun e w' => e = .returned (.int k b') ∧ Ext w w' := e ▸ h


end Go.Proofs.YtabdffponmmhoaaGreatDoor
namespace Go.Proofs.YtabdffponmmhoaaGreatDoor
open Go.RowKit
attribute [local go_sem] ExtOf.cell ExtOf.frozen

theorem in_nat {a : Int} {n : Nat} (h : inB a 0 ((n : Int) - 1) = true) : ∃ m : Nat, a = (m : Int) ∧ m < n := by
  simp [inB] at h
  exact ⟨a.toNat, by omega, by omega⟩

end Go.Proofs.YtabdffponmmhoaaGreatDoor
namespace Go.Proofs.YtabdffponmmhoaaGreatDoor
open Go.RowKit
attribute [local go_sem] ExtOf.cell ExtOf.frozen

end Go.Proofs.YtabdffponmmhoaaGreatDoor
namespace Go.Proofs.YtabdffponmmhoaaGreatDoor
open Go.RowKit
attribute [local go_sem] ExtOf.cell ExtOf.frozen

/-- ring k is disputed -/
def disB (V : List (List UInt8 × List (List UInt8))) (k : Nat) : Bool := (List.range V.length).any fun i => fD V i 0 k
/-- the disputed ones of the first n rings -/
def disTo (V : List (List UInt8 × List (List UInt8))) (n : Nat) : List Int := ((List.range n).filter fun i => disB V i).map fun i : Nat => (i : Int)
theorem disTo_succ (V : List (List UInt8 × List (List UInt8))) (k : Nat) : disTo V (k + 1) = if disB V k = true then disTo V k ++ [(k : Int)] else disTo V k := by
  unfold disTo
  rw [List.range_succ, List.filter_append, List.map_append]
  by_cases h : disB V k = true
  · rw [if_pos h]; simp [h]
  · rw [if_neg h]; simp [h]
theorem disTo_len (V : List (List UInt8 × List (List UInt8))) (k : Nat) : (disTo V k).length ≤ k := by
  unfold disTo
  rw [List.length_map]
  have := List.length_filter_le (fun i => disB V i) (List.range k)
  rwa [List.length_range] at this
theorem disTo_any {V : List (List UInt8 × List (List UInt8))} {k n : Nat} (h : k < n) : ((disTo V n).any fun z => ((k : Int) == z)) = disB V k := by
  rw [Bool.eq_iff_iff, List.any_eq_true]
  constructor
  · rintro ⟨z, hz, he⟩
    unfold disTo at hz
    obtain ⟨i, hi, rfl⟩ := List.mem_map.1 hz
    have e : k = i := by have := beq_iff_eq.1 he; omega
    rw [e]
    exact (List.mem_filter.1 hi).2
  · intro hd
    refine ⟨(k : Int), ?_, by simp⟩
    unfold disTo
    exact List.mem_map.2 ⟨k, List.mem_filter.2 ⟨List.mem_range.2 h, hd⟩, rfl⟩
theorem disB_vs {vs : List Vw} {k : Nat} (h0 : 0 < vs.length) : (vs.any fun v => !((tx (v.2.2.2.getD k [])).toList == (tx ((vs.getD 0 vwD).2.2.2.getD k [])).toList)) = disB (voOf vs) k := by
  unfold disB
  rw [Bool.eq_iff_iff, List.any_eq_true, List.any_eq_true, voOf_len]
  constructor
  · rintro ⟨v, hv, he⟩
    obtain ⟨i, hi, rfl⟩ := List.mem_iff_getElem.1 hv
    refine ⟨i, List.mem_range.2 hi, ?_⟩
    rw [fD_at hi h0]
    simpa [List.getD, hi] using he
  · rintro ⟨i, hi, he⟩
    have hi' := List.mem_range.1 hi
    rw [fD_at hi' h0] at he
    exact ⟨_, vw_mem hi', he⟩
theorem viB_pos {rs : List Rg} {vs : List Vw} (h : viB (psOf rs) (voOf vs) = true) : 0 < vs.length := by
  have h1 := (viB_map h).2.1
  rw [voOf_len] at h1
  simp [inB] at h1
  omega


end Go.Proofs.YtabdffponmmhoaaGreatDoor
namespace Go.Proofs.YtabdffponmmhoaaGreatDoor
open Go.RowKit
attribute [local go_sem] ExtOf.cell ExtOf.frozen

/-- the text of mark k -/
def mkL (k : Nat) : List UInt8 := 109 :: Lib.decDigits k
/-- the digits of m ahead of o -/
def dgO (m : Nat) (o : List UInt8) : List UInt8 := if m = 0 then o else Lib.decDigits m ++ o
theorem dgO_step {m : Nat} (hm : 0 < m) (o : List UInt8) : dgO (m / 10) (UInt8.ofNat (48 + m % 10) :: o) = dgO m o := by
  unfold dgO
  rw [if_neg (show ¬ m = 0 by omega)]
  by_cases h : m < 10
  · rw [if_pos (by omega), Lib.decDigits_one h, Nat.mod_eq_of_lt h]; rfl
  · rw [if_neg (by omega), show Lib.decDigits m = Lib.decDigits (m / 10) ++ [UInt8.ofNat (48 + m % 10)] by rw [Lib.decDigits, dif_neg h], List.append_assoc]; rfl
theorem dgO_len {m : Nat} {o D : List UInt8} (h : dgO m o = D) : o.length ≤ D.length := by
  rw [← h]
  unfold dgO
  split
  · exact Nat.le_refl _
  · simp
set_option maxRecDepth 20000 in
set_option maxHeartbeats 3200000 in
theorem l_markText (k : Nat) (w : World) (h0 : 0 < k) (h1 : k ≤ 1000000000000000) : Calls Tryz.prog 42 #[.int .i64 k] w fun e w' => e = .returned (.string (tx (mkL k))) ∧ Ext w w' := by
  have hl := dec_len (n := k) (by omega)
  have hle : decide ((k : Int) ≤ 0) = false := decide_eq_false (by omega)
  go_enter Tryz.func42, Tryz.ntmps42
  go_wp2
  go_loopw [0, 3] (fun kv ov wr => ∃ (m : Nat) (o : List UInt8), m ≤ k ∧ kv = .int .i64 m ∧ ov = .string (tx o) ∧ Hid (dgO m o = Lib.decDigits k) ∧ Ext w wr) (fun kv _ _ => (intOf kv).toNat)
  case atStart => exact ⟨k, [], Nat.le_refl _, rfl, rfl, Lib.hid (by unfold dgO; rw [if_neg (by omega), List.append_nil]), by (repeat (first | with_reducible exact Ext.refl _ | with_reducible assumption | ((with_reducible apply Src.ext); with_reducible assumption) | with_reducible refine Ext.alloc ?_ _ | with_reducible refine Ext.drew ?_ | with_reducible refine Ext.drewN ?_ _ | ((with_reducible refine Ext.setCell' ?_ ?_ _); solve | omega | simp | (simp; omega)) | (with_reducible refine Ext.trans ?_ (by with_reducible assumption))))⟩
  case round =>
    obtain ⟨m, o, hm, rfl, rfl, HD, hxr⟩ := hrel
    have hol := dgO_len HD.out
    by_cases hm0 : 0 < m
    · have hq : (m : Int).tdiv 10 = ((m / 10 : Nat) : Int) := by rw [Int.tdiv_eq_ediv_of_nonneg (by omega)]; omega
      have hr : (m : Int).tmod 10 = ((m % 10 : Nat) : Int) := by rw [Int.tmod_eq_emod_of_nonneg (by omega)]; omega
      have hz := dig_nat (Nat.mod_lt m (show 0 < 10 by omega))
      have hml := Nat.mod_lt m (show 0 < 10 by omega)
      have HD2 := Lib.hid ((dgO_step hm0 o).trans HD.out)
      generalize UInt8.ofNat (48 + m % 10) = x at hz HD2
      have hlt : m / 10 < m := by omega
      generalize hn1 : m / 10 = a at *
      generalize hn2 : m % 10 = b at *
      have hconv : ∀ (W : World) (g : Nat), W.cell? ⟨g, 0, none⟩ = some (.int .u8 (48 + (b : Int))) → (convert 44 9 (.slice (some ⟨g, 0, none⟩) 1 1)).run Tryz.prog W = .ok (.string (tx [x])) W := fun W g hc => conv_one hz hc
      have hw1 : IntKind.i64.wrap (a : Int) = (a : Int) := IntWalk.i64_in _ (by omega)
      have hw2 : IntKind.i64.wrap (48 + (b : Int)) = 48 + (b : Int) := IntWalk.i64_in _ (by omega)
      have hw3 : IntKind.u8.wrap (48 + (b : Int)) = 48 + (b : Int) := IntWalk.u8_in _ (by omega)
      have hf : ((tx [x]).size + (tx o).size > 9223372036854775807) = False := eq_false (by rw [tx_size, tx_size]; simp; omega)
      have E1 : Hid (tx [x] ++ tx o = tx (x :: o)) := Lib.hid (by rw [tx_add]; rfl)
      generalize htx : tx [x] = s1 at *
      generalize hto : tx o = s2 at *
      have HA : Hid (a < m ∧ m ≤ k) := Lib.hid ⟨hlt, hm⟩
      clear hz hn1 hn2 hol htx hto
      go_wp2
      go_roundw
      case rel => exact ⟨a, x :: o, by omega, by go_num, by rw [← E1.out], HD2, by (repeat (first | with_reducible exact Ext.refl _ | with_reducible assumption | ((with_reducible apply Src.ext); with_reducible assumption) | with_reducible refine Ext.alloc ?_ _ | with_reducible refine Ext.drew ?_ | with_reducible refine Ext.drewN ?_ _ | ((with_reducible refine Ext.setCell' ?_ ?_ _); solve | omega | simp | (simp; omega)) | (with_reducible refine Ext.trans ?_ (by with_reducible assumption))))⟩
      case measure => simp [intOf]; omega
    · obtain rfl : m = 0 := by omega
      have hE : o = Lib.decDigits k := by have := HD.out; unfold dgO at this; rwa [if_pos rfl] at this
      have hf : (1 + (tx o).size > 9223372036854775807) = False := eq_false (by rw [tx_size]; omega)
      have E1 : Hid ((⟨#[109]⟩ : ByteArray) ++ tx o = tx (mkL k)) := Lib.hid (by rw [tx_cons, hE]; rfl)
      generalize tx o = s2 at *
      clear hE hol
      go_wp2
      go_ret
      exact ⟨congrArg (fun s => Ending.returned (.string s)) E1.out, by (repeat (first | with_reducible exact Ext.refl _ | with_reducible assumption | ((with_reducible apply Src.ext); with_reducible assumption) | with_reducible refine Ext.alloc ?_ _ | with_reducible refine Ext.drew ?_ | with_reducible refine Ext.drewN ?_ _ | ((with_reducible refine Ext.setCell' ?_ ?_ _); solve | omega | simp | (simp; omega)) | (with_reducible refine Ext.trans ?_ (by with_reducible assumption))))⟩
theorem mkL_len {k : Nat} (h : k ≤ 1000000000000000) : (mkL k).length ≤ 21 := by
  have := dec_len (n := k) (by omega)
  simp only [mkL, List.length_cons]
  omega
/-- marks in a list of texts -/
def marksS (k n : Nat) : List (List UInt8) := (List.range n).map fun i => mkL (k + i)
theorem marksS_len (k n : Nat) : (marksS k n).length = n := by simp [marksS]
theorem marksS_at (k : Nat) {n i : Nat} (hi : i < n) : (marksS k n).getD i [] = mkL (k + i) := by simp [marksS, List.getD, hi]
def MarkS (k j sz : Nat) (cs : Array Value) : Prop := cs.size = sz ∧ ∀ q, q < j → cs[q]? = some (.string (tx (mkL (k + q))))
theorem MarkS.step {k j sz : Nat} {cs : Array Value} (h : MarkS k j sz cs) (hs : j < sz) : MarkS k (j + 1) sz (cs.setIfInBounds j (.string (tx (mkL (k + j))))) := by
  have hz := h.1
  refine ⟨by simpa using h.1, fun q hq => ?_⟩
  by_cases e : q = j
  · subst e
    rw [Array.getElem?_setIfInBounds_self_of_lt (by omega)]
  · rw [Array.getElem?_setIfInBounds_ne (by omega)]
    exact h.2 q (by omega)
theorem MarkS.done {k n sz : Nat} {cs : Array Value} (h : MarkS k n sz cs) (hs : n ≤ sz) : cs.toList.take (n * 1) = (marksS k n).flatMap encS := by
  have hz := h.1
  rw [Nat.mul_one]
  apply List.ext_getElem?
  intro i
  rcases Nat.lt_or_ge i n with hi | hi
  · rw [List.getElem?_take_of_lt hi, Array.getElem?_toList, h.2 i hi]
    have hg : (marksS k n)[i]? = some (mkL (k + i)) := by simp [marksS, hi]
    have h0 := flatMap_at (enc := encS) (sz := 1) len_encS (marksS k n) i _ 0 _ hg rfl
    rw [Nat.mul_one, Nat.add_zero] at h0
    rw [h0]
  · have hle : (cs.toList.take n).length ≤ i := by simp; omega
    rw [List.getElem?_eq_none hle, List.getElem?_eq_none (by rw [flatMap_len len_encS, marksS_len]; omega)]
set_option maxHeartbeats 3200000 in
theorem l_markS (base : Nat) (v : Value) (xs : List (List UInt8)) (n k : Nat) (w : World) (h : OwS w base v xs) (hne : n = xs.length) (hl : n ≤ 1048576) (hk : 0 < k) (hk' : k ≤ 100000000000000) :
    Calls Tryz.prog 17 #[v, .int .i64 k] w fun e w' => e = .returned (.int .i64 ((k + n : Nat) : Int)) ∧ OwS w' base v (marksS k n) ∧ w.grownBy w' v.ownBlock := by
  subst hne
  rcases Nat.eq_zero_or_pos xs.length with h0 | h0
  · have hps : xs = [] := List.length_eq_zero_iff.1 h0
    subst hps
    have hv : ∃ A c, v = .slice A 0 c := by obtain ⟨A, c, e, _⟩ := h.sl len_encS; exact ⟨A, c, e⟩
    obtain ⟨A, c, rfl⟩ := hv
    have HH := Lib.hid h
    clear h
    go_enter Tryz.func17, Tryz.ntmps17
    go_wp2
    go_loop [1, 5] (fun m i => i = .int .i64 0 ∧ m = .int .i64 k) (fun _ _ => 0)
    case atStart => exact ⟨rfl, rfl⟩
    case round =>
      obtain ⟨rfl, rfl⟩ := hrel
      go_wp2
      go_ret
      exact ⟨by simp, HH.out, World.grownBy.refl _ _⟩
  · obtain ⟨g, cap, cur, rfl, hb, hB, hn, hm, hs, ht⟩ := h.open_ h0
    have HM := Lib.hid hm
    have HC : Hid (MarkS k 0 cur.size cur) := Lib.hid ⟨rfl, fun q hq => absurd hq (by omega)⟩
    rw [Nat.mul_one] at hs
    clear ht h hm
    go_enter Tryz.func17, Tryz.ntmps17
    go_wp2
    go_loopw [1, 5] (fun m i wr => ∃ (j : Nat) (cs : Array Value), j ≤ xs.length ∧ i = .int .i64 j ∧ m = .int .i64 ((k + j : Nat) : Int) ∧ Blk wr g 9 cs ∧ Hid (MarkS k j cur.size cs) ∧ But g w wr) (fun _ i _ => xs.length - (intOf i).toNat)
    case atStart => exact ⟨0, cur, by omega, rfl, by simp, hB, HC, But.refl g w⟩
    case round =>
      obtain ⟨j, cs, hj, rfl, rfl, hBr, HC, HG⟩ := hrel
      have hgr := hBr.lt
      by_cases hlt : j < xs.length
      · have hcz := HC.out.1
        obtain ⟨u0, hu0⟩ : ∃ u, cs[j]? = some u := ⟨_, Array.getElem?_eq_getElem (by omega)⟩
        rw [← hBr.cell] at hu0
        have f0 := hBr.frozen j
        have HS := Lib.hid (HC.out.step (j := j) (by omega))
        have HT := Lib.hid (fun W => l_markText (k + j) W (by omega) (by omega))
        generalize tx (mkL (k + j)) = s at *
        obtain ⟨kj, hkj⟩ : ∃ q, q = k + j := ⟨_, rfl⟩
        rw [← hkj] at HT ⊢
        have HKJ := Lib.hid hkj
        have hkj2 : kj ≤ 200000000000000 := by omega
        clear hcz hkj
        go_wp2_with fail
        refine (HT.out _).mono ?_
        rintro e w1 ⟨rfl, hx1⟩
        obtain ⟨hc1, hf1⟩ := hx1.rules
        have hs1 := hx1.size
        (try simp at hs1)
        have := (show g < w1.heap.size from by omega)
        go_wp2
        go_roundw
        case rel => exact ⟨j + 1, _, by omega, by go_num, by have := HKJ.out; congr 1; omega, Blk.eq (by (repeat (first | with_reducible assumption | ((with_reducible apply Blk.new); solve | simp | rfl) | with_reducible apply Blk.drew | with_reducible apply Blk.drewN | ((with_reducible apply Blk.far'); solve | omega | simp | (simp; omega)) | with_reducible apply Blk.set_ | with_reducible apply Blk.alloc | ((with_reducible apply Blk.ext'); with_reducible assumption) | ((with_reducible apply Blk.but'); (with_reducible assumption); solve | omega | (simp; omega))))) (by rfl), HS, by (repeat (first | with_reducible exact But.refl _ _ | with_reducible assumption | with_reducible refine But.alloc ?_ _ | with_reducible refine But.drew ?_ | with_reducible refine But.drewN ?_ _ | with_reducible refine But.set_ ?_ _ _ | ((with_reducible refine But.new ?_ ?_ _); solve | omega | simp | (simp; omega)) | (with_reducible refine But.trans ?_ (by with_reducible assumption)) | (with_reducible refine But.trans ?_ (But.of (by with_reducible assumption)))))⟩
        case measure => simp [intOf]; omega
      · obtain rfl : j = xs.length := by omega
        go_wp2
        go_ret
        refine ⟨rfl, ⟨?_, .inr ⟨g, cap, cs, ?_, hb, hBr, ?_, HM.out, ?_, ?_⟩⟩, ?_⟩
        · rw [flatMap_len len_encS]
        · rw [marksS_len]
        · rw [marksS_len]; exact hn
        · rw [HC.out.1, hs, Nat.mul_one]
        · rw [marksS_len]; exact HC.out.done (by omega)
        · exact HG.grown
set_option maxHeartbeats 1600000 in
theorem l_heldS (A : Option Addr) (n c k : Nat) (w : World) (h : SlAt w 1 encS A (marksS k n)) (hl : n ≤ 1048576) (hk : 0 < k) (hk' : k ≤ 100000000000000) :
    Calls Tryz.prog 18 #[.slice A n c, .int .i64 k] w fun e w' => e = .returned (.int .i64 ((k + n : Nat) : Int)) ∧ Ext w w' := by
  go_enter Tryz.func18, Tryz.ntmps18
  go_wp2
  go_loopw [1, 5] (fun m i wr => ∃ j : Nat, j ≤ n ∧ i = .int .i64 j ∧ m = .int .i64 ((k + j : Nat) : Int) ∧ Ext w wr) (fun _ i _ => n - (intOf i).toNat)
  case atStart => exact ⟨0, by omega, rfl, by simp, by (repeat (first | with_reducible exact Ext.refl _ | with_reducible assumption | ((with_reducible apply Src.ext); with_reducible assumption) | with_reducible refine Ext.alloc ?_ _ | with_reducible refine Ext.drew ?_ | with_reducible refine Ext.drewN ?_ _ | ((with_reducible refine Ext.setCell' ?_ ?_ _); solve | omega | simp | (simp; omega)) | (with_reducible refine Ext.trans ?_ (by with_reducible assumption))))⟩
  case round =>
    obtain ⟨j, hj, rfl, rfl, hx⟩ := hrel
    by_cases hlt : j < n
    · obtain ⟨b, off, rfl, hb, d0⟩ := (h.ext hx).st (k := j) (by rw [marksS_len]; exact hlt)
      rw [marksS_at k hlt] at d0
      have HT := Lib.hid (fun W => l_markText (k + j) W (by omega) (by omega))
      generalize tx (mkL (k + j)) = s at *
      have hss : (s.toList == s.toList) = true := by simp
      obtain ⟨kj, hkj⟩ : ∃ q, q = k + j := ⟨_, rfl⟩
      rw [← hkj] at HT ⊢
      have HKJ := Lib.hid hkj
      have hkj2 : kj ≤ 200000000000000 := by omega
      clear hkj
      go_wp2
      (refine wp_region_ext (by kernel_rfl) (by kernel_rfl) ?_; (repeat (go_big_quiet_step ((go_at_call 42; exact Calls_ext (HT.out _))))); refine wpQuiet_nil ?_; intro wq hxwq; obtain ⟨hcwq, hfwq⟩ := hxwq.rules; have hswq := hxwq.size; (try simp at hswq))
      go_wp2
      go_roundw
      case rel => exact ⟨j + 1, by omega, by go_num, by have := HKJ.out; congr 1; omega, by (repeat (first | with_reducible exact Ext.refl _ | with_reducible assumption | ((with_reducible apply Src.ext); with_reducible assumption) | with_reducible refine Ext.alloc ?_ _ | with_reducible refine Ext.drew ?_ | with_reducible refine Ext.drewN ?_ _ | ((with_reducible refine Ext.setCell' ?_ ?_ _); solve | omega | simp | (simp; omega)) | (with_reducible refine Ext.trans ?_ (by with_reducible assumption))))⟩
      case measure => simp [intOf]; omega
    · obtain rfl : j = n := by omega
      go_wp2
      go_ret
      exact ⟨rfl, by (repeat (first | with_reducible exact Ext.refl _ | with_reducible assumption | ((with_reducible apply Src.ext); with_reducible assumption) | with_reducible refine Ext.alloc ?_ _ | with_reducible refine Ext.drew ?_ | with_reducible refine Ext.drewN ?_ _ | ((with_reducible refine Ext.setCell' ?_ ?_ _); solve | omega | simp | (simp; omega)) | (with_reducible refine Ext.trans ?_ (by with_reducible assumption))))⟩

end Go.Proofs.YtabdffponmmhoaaGreatDoor
namespace Go.Proofs.YtabdffponmmhoaaGreatDoor
open Go.RowKit
attribute [local go_sem] ExtOf.cell ExtOf.frozen

/-- w' is w with new blocks behind; of the old ones only those from lo to below hi may have turned -/
structure Btw (lo hi : Nat) (w w' : World) : Prop where
  os : w'.os = w.os
  tape : w'.tape = w.tape
  output : w'.output = w.output
  size : w.heap.size ≤ w'.heap.size
  block : ∀ k, k < w.heap.size → (k < lo ∨ hi ≤ k) → w'.heap[k]? = w.heap[k]?
theorem Btw.refl (lo hi : Nat) (w : World) : Btw lo hi w w := ⟨rfl, rfl, rfl, Nat.le_refl _, fun _ _ _ => rfl⟩
theorem Btw.trans {lo hi : Nat} {a b c : World} (h : Btw lo hi a b) (k : Btw lo hi b c) : Btw lo hi a c :=
  ⟨k.os.trans h.os, k.tape.trans h.tape, k.output.trans h.output, Nat.le_trans h.size k.size, fun i hi hc => (k.block i (Nat.lt_of_lt_of_le hi h.size) hc).trans (h.block i hi hc)⟩
theorem Btw.of {lo hi : Nat} {a b : World} (h : Ext a b) : Btw lo hi a b := ⟨h.os, h.tape, h.output, h.size, fun k hk _ => h.block k hk⟩
theorem Btw.on {lo hi : Nat} {a b c : World} (h : Btw lo hi a b) (k : Ext b c) : Btw lo hi a c := h.trans (.of k)
theorem Btw.set_ {lo hi g : Nat} {a w : World} (h : Btw lo hi a w) (h1 : lo ≤ g) (h2 : g < hi) (i : Nat) (u : Value) : Btw lo hi a (w.setCell ⟨g, i, none⟩ u) :=
  h.trans ⟨rfl, rfl, rfl, by simp [World.setCell], fun k _ hk => Below.heap_setCell _ _ _ _ (by show k ≠ g; omega)⟩
theorem Btw.grown {lo hi g : Nat} {a w w' : World} (h : Btw lo hi a w) (hg : w.grownBy w' (some g)) (h1 : lo ≤ g) (h2 : g < hi) : Btw lo hi a w' :=
  ⟨hg.os.trans h.os, hg.tape.trans h.tape, hg.output.trans h.output, Nat.le_trans h.size hg.size, fun k hk hc => (hg.block k (Nat.lt_of_lt_of_le hk h.size) (fun e => by injection e with e; omega)).trans (h.block k hk hc)⟩
theorem Btw.ext {lo hi : Nat} {a w w' : World} (h : Btw lo hi w w') (hx : Ext a w) (hl : a.heap.size ≤ lo) : Ext a w' :=
  ⟨h.os.trans hx.os, h.tape.trans hx.tape, h.output.trans hx.output, Nat.le_trans hx.size h.size, fun k hk => (h.block k (Nat.lt_of_lt_of_le hk hx.size) (.inl (by omega))).trans (hx.block k hk)⟩
theorem SlAt.btw {α : Type} {enc : α → List Value} {sz lo hi : Nat} {w w' : World} {A : Option Addr} {xs : List α} (h : SlAt w sz enc A xs) (hm : Btw lo hi w w') (ha : ∀ q, A = some q → q.block < lo ∨ hi ≤ q.block) : SlAt w' sz enc A xs := fun hn => by
  obtain ⟨b, off, e, hb, hc⟩ := h hn
  refine ⟨b, off, e, Nat.lt_of_lt_of_le hb hm.size, fun i x hi j u hj => ?_⟩
  exact (World.cell?_of_block (a := ⟨b, off + i * sz + j, none⟩) (hm.block b hb (ha _ e))).trans (hc i x hi j u hj)
theorem Blk.btw {lo hi g : Nat} {w w' : World} {t : TypeId} {cs : Array Value} (h : Blk w g t cs) (hm : Btw lo hi w w') (hg : g < lo ∨ hi ≤ g) : Blk w' g t cs := (hm.block g h.lt hg).trans h
theorem Own.btw {α : Type} {enc : α → List Value} {sz lo hi base : Nat} {t : TypeId} {w w' : World} {v : Value} {xs : List α} (h : Own enc sz t w base v xs) (hm : Btw lo hi w w') (hb : hi ≤ base) : Own enc sz t w' base v xs := by
  refine ⟨h.1, ?_⟩
  rcases h.2 with hn | ⟨g, cap, cur, rfl, hbb, hgg, rest⟩
  · exact .inl hn
  · refine .inr ⟨g, cap, cur, rfl, hbb, ?_, rest⟩
    rw [hm.block g (Array.getElem?_eq_some_iff.1 hgg).1 (.inr (by omega))]
    exact hgg

end Go.Proofs.YtabdffponmmhoaaGreatDoor
namespace Go.Proofs.YtabdffponmmhoaaGreatDoor
open Go.RowKit
attribute [local go_sem] ExtOf.cell ExtOf.frozen
/-- w' is w with new blocks behind; of the old ones only those between lo and hi may have turned -/
structure Mid (lo hi : Nat) (w w' : World) : Prop where
  os : w'.os = w.os
  tape : w'.tape = w.tape
  output : w'.output = w.output
  size : w.heap.size ≤ w'.heap.size
  block : ∀ k, k < w.heap.size → (k ≤ lo ∨ hi ≤ k) → w'.heap[k]? = w.heap[k]?
theorem Mid.refl (lo hi : Nat) (w : World) : Mid lo hi w w := ⟨rfl, rfl, rfl, Nat.le_refl _, fun _ _ _ => rfl⟩
theorem Mid.grown {lo hi g : Nat} {a w w' : World} (h : Mid lo hi a w) (hg : w.grownBy w' (some g)) (h1 : lo < g) (h2 : g < hi) : Mid lo hi a w' :=
  ⟨hg.os.trans h.os, hg.tape.trans h.tape, hg.output.trans h.output, Nat.le_trans h.size hg.size, fun k hk hc => (hg.block k (Nat.lt_of_lt_of_le hk h.size) (fun e => by injection e with e; omega)).trans (h.block k hk hc)⟩
theorem Mid.ext {lo hi : Nat} {a w w' : World} (h : Mid lo hi w w') (hx : Ext a w) (hl : a.heap.size ≤ lo + 1) : Ext a w' :=
  ⟨h.os.trans hx.os, h.tape.trans hx.tape, h.output.trans hx.output, Nat.le_trans hx.size h.size, fun k hk => (h.block k (Nat.lt_of_lt_of_le hk hx.size) (.inl (by omega))).trans (hx.block k hk)⟩
theorem SlAt.mid {α : Type} {enc : α → List Value} {sz lo hi : Nat} {w w' : World} {A : Option Addr} {xs : List α} (h : SlAt w sz enc A xs) (hm : Mid lo hi w w') (ha : ∀ q, A = some q → q.block ≤ lo ∨ hi ≤ q.block) : SlAt w' sz enc A xs := fun hn => by
  obtain ⟨b, off, e, hb, hc⟩ := h hn
  refine ⟨b, off, e, Nat.lt_of_lt_of_le hb hm.size, fun i x hi j u hj => ?_⟩
  exact (World.cell?_of_block (a := ⟨b, off + i * sz + j, none⟩) (hm.block b hb (ha _ e))).trans (hc i x hi j u hj)
theorem Own.mid {α : Type} {enc : α → List Value} {sz lo hi base : Nat} {t : TypeId} {w w' : World} {v : Value} {xs : List α} (h : Own enc sz t w base v xs) (hm : Mid lo hi w w') (hb : hi ≤ base) : Own enc sz t w' base v xs := by
  refine ⟨h.1, ?_⟩
  rcases h.2 with hn | ⟨g, cap, cur, rfl, hbb, hgg, rest⟩
  · exact .inl hn
  · refine .inr ⟨g, cap, cur, rfl, hbb, ?_, rest⟩
    rw [hm.block g (Array.getElem?_eq_some_iff.1 hgg).1 (.inr (by omega))]
    exact hgg
theorem sumL_le {rs : List Rg} {k m : Nat} (h : k ≤ m) : sumL rs k ≤ sumL rs m := by
  induction m with
  | zero => rw [show k = 0 by omega]; exact Int.le_refl _
  | succ m ih =>
    rcases Nat.lt_or_ge k (m + 1) with c | c
    · have := ih (by omega)
      unfold sumL at *
      rw [tot]
      omega
    · rw [show k = m + 1 by omega]; exact Int.le_refl _
theorem sumL_nonneg (rs : List Rg) (k : Nat) : 0 ≤ sumL rs k := by
  have := sumL_le (rs := rs) (Nat.zero_le k)
  simpa [sumL, tot] using this
set_option maxHeartbeats 6400000 in
theorem l_markSS (base hi : Nat) (off n c : Nat) (rs : List Rg) (k : Int) (w : World) (h : SlAt w 1 encR (some ⟨base, off, none⟩) rs) (hO : RgOwn w base rs) (hn : n = rs.length) (hl : rs.length ≤ 1048576) (hs : sumL rs rs.length ≤ 1048576) (hk : 0 ≤ k) (hk' : k ≤ 1000000000) (hhi : ∀ j, j < rs.length → blkOf (rs.getD j rgD) < hi) :
    Calls Tryz.prog 15 #[.slice (some ⟨base, off, none⟩) n c, .int .i64 k] w fun e w' => e = .returned (.int .i64 (k + 2 * sumL rs rs.length)) ∧ Mid base hi w w' := by
  subst hn
  have HO := Lib.hid hO
  have HS := Lib.hid hs
  have HHI := Lib.hid hhi
  clear hO hs hhi
  go_enter Tryz.func15, Tryz.ntmps15
  go_wp2
  go_loopw [1, 5] (fun m i wr => ∃ j : Nat, j ≤ rs.length ∧ i = .int .i64 j ∧ m = .int .i64 (k + 2 * sumL rs j) ∧ Hid (∀ q, j ≤ q → q < rs.length → ∃ g cs, (rs.getD q rgD).1 = some ⟨g, 0, none⟩ ∧ (rs.getD q rgD).2.1 = (rs.getD q rgD).2.2.length ∧ base < g ∧ g < hi ∧ Blk wr g 35 cs ∧ cs.toList = (rs.getD q rgD).2.2.flatMap encP) ∧ Mid base hi w wr) (fun _ i _ => rs.length - (intOf i).toNat)
  case atStart =>
    refine ⟨0, Nat.zero_le _, rfl, by simp [sumL, tot], Lib.hid (fun q _ hq => ?_), Mid.refl _ _ _⟩
    obtain ⟨g, cs, e, hg, hB, hcs, _⟩ := HO.out q hq
    have hgh := HHI.out q hq
    rw [e] at hgh
    exact ⟨g, cs, by rw [e], by rw [e], hg, hgh, hB, hcs⟩
  case round =>
    obtain ⟨j, hj, rfl, rfl, HR, HM⟩ := hrel
    by_cases hlt : j < rs.length
    · obtain ⟨b, o, e, hbb, hcell⟩ := (h.mid HM (fun q hq => by injection hq with hq; subst hq; exact .inl (Nat.le_refl _))).rg hlt
      injection e with e
      injection e with e1 e2
      subst e1 e2
      obtain ⟨g, cs, eg, ecap, hg, hgw, hB, hcs⟩ := HR.out j (Nat.le_refl _) hlt
      have hOj := HO.out j hlt
      have hsl := sumL_le (rs := rs) (show j ≤ rs.length by omega)
      have hsn := sumL_nonneg rs j
      have hsl1 : sumL rs j ≤ 1048576 := by have := HS.out; omega
      have hsu : sumL rs (j + 1) = sumL rs j + ((rs.getD j rgD).2.2.length : Int) := by unfold sumL; rw [tot]
      have hlen : (rs.getD j rgD).2.2.length ≤ 1048576 := by
        obtain ⟨_, _, _, _, _, _, _, hx⟩ := hOj
        exact hx
      have hOw : OwP wr 0 (.slice (rs.getD j rgD).1 (rs.getD j rgD).2.2.length (rs.getD j rgD).2.1) (rs.getD j rgD).2.2 := by
        rw [eg, ecap]
        exact Own.of_blk hB len_encP hcs (Nat.zero_le _) (by unfold maxLen; omega)
      have HNX : Hid (∀ w', wr.grownBy w' (some g) → (∀ q, j + 1 ≤ q → q < rs.length → ∃ g cs, (rs.getD q rgD).1 = some ⟨g, 0, none⟩ ∧ (rs.getD q rgD).2.1 = (rs.getD q rgD).2.2.length ∧ base < g ∧ g < hi ∧ Blk w' g 35 cs ∧ cs.toList = (rs.getD q rgD).2.2.flatMap encP)) := Lib.hid (fun w' hgr q hq hql => by
        obtain ⟨g', cs', a1, a2, a3, a4, a5, a6⟩ := HR.out q (by omega) hql
        refine ⟨g', cs', a1, a2, a3, a4, ?_, a6⟩
        obtain ⟨g2, cs2, b1, b2, b3, b4, b5, b6⟩ := HO.out q hql
        have hg2 : g2 = g' := by
          rw [b1] at a1
          injection a1 with a1
          injection a1
        have hlt2 := b5 j (by omega)
        unfold blkOf at hlt2
        rw [eg] at hlt2
        simp only at hlt2
        exact (hgr.block g' a5.lt (fun e => by injection e with e; omega)).trans a5)
      have HEG : Hid ((Value.slice (rs.getD j rgD).1 (rs.getD j rgD).2.2.length (rs.getD j rgD).2.1).ownBlock = some g) := Lib.hid (by rw [eg]; rfl)
      obtain ⟨r, hre⟩ : ∃ r, r = rs.getD j rgD := ⟨_, rfl⟩
      rw [← hre] at hcell hOw hsu HEG hlen
      have HSU := Lib.hid hsu
      have HOW := Lib.hid hOw
      clear hre hOw hsu hOj hB hcs eg ecap
      go_wp2_with fail
      refine (l_markPointS _ _ r.2.2 _ _ HOW.out hlen (by omega) (by omega)).mono ?_
      rintro e w1 ⟨rfl, hO1, hg1⟩
      rw [HEG.out] at hg1
      have HN2 := Lib.hid (HNX.out w1 hg1)
      have HM2 := HM.grown hg1 hg hgw
      clear hg1 hO1
      go_wp2
      go_roundw
      case rel => exact ⟨j + 1, by omega, by go_num, by rw [HSU.out]; congr 1; omega, HN2, HM2⟩
      case measure => simp [intOf]; omega
    · obtain rfl : j = rs.length := by omega
      go_wp2
      go_ret
      exact ⟨rfl, HM⟩


theorem Mid.btw {lo hi : Nat} {w w' : World} (h : Mid lo hi w w') : Btw lo hi w w' := ⟨h.os, h.tape, h.output, h.size, fun k hk hc => h.block k hk (by omega)⟩
/-- the owners' slices in a row of views -/
def KeepV (vs : List Vw) (cs : Array Value) : Prop := cs.size = vs.length * 2 ∧ ∀ q, q < vs.length → cs[q * 2 + 1]? = some (.slice (vs.getD q vwD).2.1 (vs.getD q vwD).2.2.2.length (vs.getD q vwD).2.2.1)
theorem KeepV.start {vs : List Vw} {cs : Array Value} (h : cs.toList = vs.flatMap encV) : KeepV vs cs := by
  refine ⟨?_, fun q hq => ?_⟩
  · rw [← Array.length_toList, h, flatMap_len len_encV]
  · rw [← Array.getElem?_toList, h]
    exact flatMap_at (enc := encV) (sz := 2) len_encV vs q _ 1 _ (by simp [List.getD, hq]) rfl
theorem KeepV.step {vs : List Vw} {cs : Array Value} {j : Nat} {u : Value} (h : KeepV vs cs) : KeepV vs (cs.setIfInBounds (j * 2) u) := by
  refine ⟨by simpa using h.1, fun q hq => ?_⟩
  rw [Array.getElem?_setIfInBounds_ne (by omega)]
  exact h.2 q hq
set_option maxRecDepth 20000 in
set_option maxHeartbeats 6400000 in
theorem l_markViewS (lo hi base n c k : Nat) (vs : List Vw) (cs : Array Value) (w : World) (hB : Blk w base 64 cs) (hcs : cs.toList = vs.flatMap encV) (hO : VwOwn w base vs) (hn : n = vs.length) (hl : n ≤ 1048576) (hk : 0 < k) (hk' : k ≤ 1000000000) (h1 : lo ≤ base) (h2 : base < hi) (hhi : ∀ j, j < vs.length → blkV (vs.getD j vwD) < hi) :
    Calls Tryz.prog 16 #[.slice (some ⟨base, 0, none⟩) n c, .int .i64 k] w fun e w' => ∃ z : Nat, e = .returned (.int .i64 z) ∧ 0 < z ∧ Btw lo hi w w' := by
  have HN := Lib.hid hn
  have HO := Lib.hid hO
  have HHI := Lib.hid hhi
  have HCS := Lib.hid (KeepV.start hcs)
  clear hO hhi hcs hn
  go_enter Tryz.func16, Tryz.ntmps16
  go_wp2
  go_loopw [1, 5] (fun m i wr => ∃ (j z : Nat) (cs' : Array Value), j ≤ n ∧ i = .int .i64 j ∧ m = .int .i64 z ∧ 0 < z ∧ z ≤ k + j * 1048577 ∧ Blk wr base 64 cs' ∧ Hid (KeepV vs cs') ∧
    Hid (∀ q, j ≤ q → q < vs.length → ∃ g cs, (vs.getD q vwD).2.1 = some ⟨g, 0, none⟩ ∧ (vs.getD q vwD).2.2.1 = (vs.getD q vwD).2.2.2.length ∧ base < g ∧ g < hi ∧ Blk wr g 9 cs ∧ cs.toList = (vs.getD q vwD).2.2.2.flatMap encS) ∧ Btw lo hi w wr) (fun _ i _ => n - (intOf i).toNat)
  case atStart =>
    refine ⟨0, k, cs, Nat.zero_le _, rfl, rfl, hk, by omega, hB, HCS, Lib.hid (fun q _ hq => ?_), Btw.refl _ _ _⟩
    obtain ⟨g, cs, e, hg, hB, hcs, _⟩ := HO.out q hq
    have hgh := HHI.out q hq
    rw [e] at hgh
    exact ⟨g, cs, by rw [e], by rw [e], hg, hgh, hB, hcs⟩
  case round =>
    obtain ⟨j, z, cs', hj, rfl, rfl, hz, hz2, hBr, HKP, HR, HM⟩ := hrel
    by_cases hlt : j < n
    · have hjv : j < vs.length := by rw [← HN.out]; exact hlt
      obtain ⟨g, gs, eg, ecap, hg, hgw, hgB, hgs⟩ := HR.out j (Nat.le_refl _) hjv
      have hlen : (vs.getD j vwD).2.2.2.length ≤ 1048576 := by
        obtain ⟨_, _, _, _, _, _, _, hx⟩ := HO.out j hjv
        exact hx.2.1
      have hcz := HKP.out.1
      have HNZ := Lib.hid hcz
      obtain ⟨u0, hu0⟩ : ∃ u, cs'[j * 2]? = some u := ⟨_, Array.getElem?_eq_getElem (by omega)⟩
      have hu1 := HKP.out.2 j hjv
      rw [← hBr.cell] at hu0 hu1
      rw [eg, ecap] at hu1
      have f0 := hBr.frozen (j * 2)
      have hBl := hBr.lt
      have hgl := hgB.lt
      have HT := Lib.hid (fun W => l_markText z W hz (by omega))
      have HK2 := Lib.hid (HKP.out.step (j := j) (u := .string (tx (mkL z))))
      have HNX : Hid (∀ w', Blk w' g 9 gs → (∀ q, j + 1 ≤ q → q < vs.length → ∃ g' cs, (vs.getD q vwD).2.1 = some ⟨g', 0, none⟩ ∧ (vs.getD q vwD).2.2.1 = (vs.getD q vwD).2.2.2.length ∧ base < g' ∧ g' < hi ∧ g < g' ∧ Blk wr g' 9 cs ∧ cs.toList = (vs.getD q vwD).2.2.2.flatMap encS)) := Lib.hid (fun w' _ q hq hql => by
        obtain ⟨g', cs', a1, a2, a3, a4, a5, a6⟩ := HR.out q (by omega) hql
        refine ⟨g', cs', a1, a2, a3, a4, ?_, a5, a6⟩
        obtain ⟨g2, cs2, b1, b2, b3, b4, b5, b6⟩ := HO.out q hql
        have hg2 : g2 = g' := by
          rw [b1] at a1
          injection a1 with a1
          injection a1
        have hlt2 := b5 j (by omega)
        unfold blkV at hlt2
        rw [eg] at hlt2
        simp only at hlt2
        omega)
      obtain ⟨L, hLe⟩ : ∃ L, L = (vs.getD j vwD).2.2.2 := ⟨_, rfl⟩
      rw [← hLe] at hu1 hlen hgs
      have HGS := Lib.hid hgs
      have HGB := Lib.hid hgB
      have n1 : ¬ g = base := by omega
      have n2 : ¬ base = g := by omega
      generalize tx (mkL z) = s at *
      clear hLe eg ecap hcz hgs hgB
      go_wp2_with fail
      refine (HT.out _).mono ?_
      rintro e w1 ⟨rfl, hx1⟩
      obtain ⟨hc1, hf1⟩ := hx1.rules
      have hs1 := hx1.size
      (try simp at hs1)
      have := (show base < w1.heap.size from by omega)
      have := (show g < w1.heap.size from by omega)
      have hB1 := hBr.ext hx1
      have HG1 := Lib.hid (HGB.out.ext hx1)
      go_wp2_with fail
      refine (l_markS 0 _ L _ (z + 1) _ (Own.of_blk ((HG1.out).far' n1 _) len_encS HGS.out (Nat.zero_le _) (by unfold maxLen; omega)) rfl hlen (by omega) (by omega)).mono ?_
      rintro e w2 ⟨rfl, hO2, hg2⟩
      rw [show (Value.slice (some ⟨g, 0, none⟩) L.length L.length).ownBlock = some g from rfl] at hg2
      have hB2 : Blk w2 base 64 (cs'.setIfInBounds (j * 2) (.string s)) := (hg2.block base ((hB1.set_ (j * 2) (.string s)).lt) (fun e => by injection e with e; omega)).trans (hB1.set_ (j * 2) (.string s))
      have HB2 := Lib.hid hB2
      have HM2 : Hid (Btw lo hi w w2) := Lib.hid (((HM.on hx1).set_ h1 h2 (j * 2) (.string s)).grown hg2 (by omega) hgw)
      have HN2 : Hid (∀ q, j + 1 ≤ q → q < vs.length → ∃ g cs, (vs.getD q vwD).2.1 = some ⟨g, 0, none⟩ ∧ (vs.getD q vwD).2.2.1 = (vs.getD q vwD).2.2.2.length ∧ base < g ∧ g < hi ∧ Blk w2 g 9 cs ∧ cs.toList = (vs.getD q vwD).2.2.2.flatMap encS) := Lib.hid (fun q hq hql => by
        obtain ⟨g', cs2, a1, a2, a3, a4, a5, a6, a7⟩ := HNX.out _ HGB.out q hq hql
        refine ⟨g', cs2, a1, a2, a3, a4, ?_, a7⟩
        have h3 : Blk (w1.setCell ⟨base, j * 2, none⟩ (.string s)) g' 9 cs2 := (a6.ext hx1).far (by show ¬ g' = base; omega) _
        exact (hg2.block g' h3.lt (fun e => by injection e with e; omega)).trans h3)
      clear hg2 hO2 hB2
      go_wp2
      go_roundw
      case rel => exact ⟨j + 1, z + 1 + L.length, _, by omega, by go_num, rfl, by omega, by omega, HB2.out, HK2, HN2, HM2.out⟩
      case measure => simp [intOf]; omega
    · obtain rfl : j = n := by omega
      go_wp2
      go_ret
      exact ⟨z, rfl, hz, HM⟩

end Go.Proofs.YtabdffponmmhoaaGreatDoor
namespace Go.Proofs.YtabdffponmmhoaaGreatDoor
open Go.RowKit
attribute [local go_sem] ExtOf.cell ExtOf.frozen

/-- the owner that view i tells for ring k -/
def ownL (V : List (List UInt8 × List (List UInt8))) (i k : Nat) : List UInt8 := (V.getD i voD).2.getD k []
theorem ownL_at {vs : List Vw} {i k : Nat} (h : i < vs.length) : ownL (voOf vs) i k = (vs.getD i vwD).2.2.2.getD k [] := by unfold ownL; rw [voOf_atD h]
theorem tx_same (a b : List UInt8) : ((tx a).toList == (tx b).toList) = decide (a = b) := by
  rw [tx_toList, tx_toList]
  by_cases h : a = b
  · simp [h]
  · simp [h]
/-- how many of the first m views tell what view i tells -/
def cntO (V : List (List UInt8 × List (List UInt8))) (i k : Nat) : Nat → Nat
  | 0 => 0
  | m + 1 => cntO V i k m + if ownL V m k = ownL V i k then 1 else 0
theorem cntO_le (V : List (List UInt8 × List (List UInt8))) (i k : Nat) : ∀ m, cntO V i k m ≤ m
  | 0 => Nat.le_refl _
  | m + 1 => by
    have := cntO_le V i k m
    rw [cntO]
    split <;> omega
theorem cntO_two {V : List (List UInt8 × List (List UInt8))} {i j k : Nat} (h : ownL V i k ≠ ownL V j k) : ∀ m, cntO V i k m + cntO V j k m ≤ m
  | 0 => Nat.le_refl _
  | m + 1 => by
    have := cntO_two h m
    rw [cntO, cntO]
    by_cases h1 : ownL V m k = ownL V i k
    · rw [if_pos h1, if_neg (fun h2 => h (h1.symm.trans h2))]; omega
    · rw [if_neg h1]
      split <;> omega
def bigO (V : List (List UInt8 × List (List UInt8))) (i k : Nat) : Bool := decide (V.length < 2 * cntO V i k V.length)
theorem bigO_same {V : List (List UInt8 × List (List UInt8))} {i j k : Nat} (h1 : bigO V i k = true) (h2 : bigO V j k = true) : ownL V i k = ownL V j k := by
  rcases Classical.em (ownL V i k = ownL V j k) with h | h
  · exact h
  · have := cntO_two h V.length
    have a := of_decide_eq_true h1
    have b := of_decide_eq_true h2
    omega
/-- the owner that the last of the first n views with most others tells -/
def majS (V : List (List UInt8 × List (List UInt8))) (k : Nat) : Nat → List UInt8
  | 0 => []
  | i + 1 => if bigO V i k = true then ownL V i k else majS V k i
theorem majS_hit {V : List (List UInt8 × List (List UInt8))} {i k : Nat} (h : bigO V i k = true) : ∀ n, i < n → majS V k n = ownL V i k
  | 0, h0 => absurd h0 (by omega)
  | n + 1, hn => by
    rw [majS]
    by_cases hb : bigO V n k = true
    · rw [if_pos hb]; exact bigO_same hb h
    · rw [if_neg hb]
      have : i ≠ n := fun e => hb (e ▸ h)
      exact majS_hit h n (by omega)
theorem majS_none {V : List (List UInt8 × List (List UInt8))} {k : Nat} : ∀ n, (∀ q, q < n → bigO V q k = false) → majS V k n = []
  | 0, _ => rfl
  | n + 1, h => by
    rw [majS, if_neg (by rw [h n (by omega)]; exact Bool.false_ne_true)]
    exact majS_none n fun q hq => h q (by omega)
/-- the owners that most views tell, for the first n rings -/
def majTo (V : List (List UInt8 × List (List UInt8))) (n : Nat) : List (List UInt8) := (List.range n).map fun k => majS V k V.length
theorem majTo_succ (V : List (List UInt8 × List (List UInt8))) (n : Nat) : majTo V (n + 1) = majTo V n ++ [majS V n V.length] := by
  unfold majTo
  rw [List.range_succ, List.map_append]; rfl
theorem majTo_len (V : List (List UInt8 × List (List UInt8))) (n : Nat) : (majTo V n).length = n := by simp [majTo]
noncomputable def majR (L : List (List (Int × Int))) (V : List (List UInt8 × List (List UInt8))) : List (List UInt8) := if viB L V = true then majTo V L.length else []
theorem majR_len (L : List (List (Int × Int))) (V : List (List UInt8 × List (List UInt8))) : (majR L V).length ≤ 6 := by
  unfold majR
  split
  · rename_i h
    rw [majTo_len]
    exact (viB_map h).1.1
  · simp
theorem viB_four {rs : List Rg} {vs : List Vw} (h : viB (psOf rs) (voOf vs) = true) : vs.length ≤ 4 := by
  have h1 := (viB_map h).2.1
  rw [voOf_len] at h1
  simp [inB] at h1
  omega


end Go.Proofs.YtabdffponmmhoaaGreatDoor
namespace Go.Proofs.YtabdffponmmhoaaGreatDoor
open Go.RowKit
attribute [local go_sem] ExtOf.cell ExtOf.frozen


end Go.Proofs.YtabdffponmmhoaaGreatDoor
