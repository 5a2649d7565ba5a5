/- Contracts of the laws on lists of int64, walked over the translation. Contracts of areas of views: codes, sums. The area of an owner in a view, walked over the translation. The distance of views, walked over the translation. The disputed area, walked over the translation. -/
import Derived.Test.YtdbheipjbjcikaaGreatDoorEB
import Derived.Test.YtdbheipjbjcikaaGreatDoorI
import Derived.Deep.RegionHeld3
import Derived.Deep.DeepCutAuto
import Derived.RegionTactic
import Derived.BigRegion
import Derived.WalkLawsBesides
import Derived.WalkSpells
import Derived.Lib.MinMax
import Derived.Outline
import Derived.Test.YtdbheipjbjcikaaGreatDoorV1
namespace Go.Proofs.YtdbheipjbjcikaaGreatDoor
open Go.RowKit
attribute [local go_sem] ExtOf.cell ExtOf.frozen

theorem len_encI : ∀ x, (encI x).length = 1 := fun _ => rfl
theorem one_encI : ∀ p, ∀ u ∈ encI p, u.oneCell' = true := by
  intro p u hu
  simp [encI] at hu
  subst hu; rfl
theorem elI : ElT Tryz.prog 114 2 1 8 := ElT.mk' (z := .int .i64 0) Tryz.underlying114 (by kernel_rfl) rfl (by omega)
abbrev OwI (w : World) (base : Nat) (v : Value) (xs : List Int) : Prop := Own encI 1 2 w base v xs
theorem blk_i1 {w : World} {g : Nat} {t : TypeId} {x : Int} (h : Blk w g t #[.int .i64 x]) : SlAt w 1 encI (some ⟨g, 0, none⟩) [x] := h.sl rfl len_encI
theorem blk_i2 {w : World} {g : Nat} {t : TypeId} {x y : Int} (h : Blk w g t #[.int .i64 x, .int .i64 y]) : SlAt w 1 encI (some ⟨g, 0, none⟩) [x, y] := h.sl rfl len_encI
theorem SlAt.it {w : World} {A : Option Addr} {xs : List Int} (h : SlAt w 1 encI A xs) {k : Nat} (hk : k < xs.length) :
    ∃ b off, A = some ⟨b, off, none⟩ ∧ b < w.heap.size ∧ w.cell? ⟨b, off + k, none⟩ = some (.int .i64 (xs.getD k 0)) := by
  obtain ⟨b, off, e, hb, hc⟩ := h (by omega)
  have hg : xs[k]? = some (xs.getD k 0) := by simp [List.getD, hk]
  exact ⟨b, off, e, hb, by simpa using hc k _ hg 0 _ rfl⟩
theorem SlAt.it' {w : World} {b off : Nat} {xs : List Int} (h : SlAt w 1 encI (some ⟨b, off, none⟩) xs) {k : Nat} (hk : k < xs.length) :
    w.cell? ⟨b, off + k, none⟩ = some (.int .i64 (xs.getD k 0)) := by
  obtain ⟨b', off', e, _, hc⟩ := h.it hk
  injection e with e
  injection e with e1 e2
  subst e1 e2
  exact hc
/-- marks in a list of int64 -/
def marksI (k : Int) (n : Nat) : List Int := (List.range n).map fun i : Nat => k + (i : Int)
theorem marksI_len (k : Int) (n : Nat) : (marksI k n).length = n := by simp [marksI]
theorem marksI_at (k : Int) {n i : Nat} (hi : i < n) : (marksI k n).getD i 0 = k + (i : Int) := by simp [marksI, List.getD, hi]
def MarkI (k : Int) (j sz : Nat) (cs : Array Value) : Prop := cs.size = sz ∧ ∀ q, q < j → cs[q]? = some (.int .i64 (k + (q : Int)))
theorem MarkI.step {k : Int} {j sz : Nat} {cs : Array Value} (h : MarkI k j sz cs) (hs : j < sz) : MarkI k (j + 1) sz (cs.setIfInBounds j (.int .i64 (k + (j : Int)))) := by
  have hz := h.1
  refine ⟨by simpa using h.1, fun q hq => ?_⟩
  by_cases e : q = j
  · subst e
    rw [Array.getElem?_setIfInBounds_self_of_lt (by omega)]
  · rw [Array.getElem?_setIfInBounds_ne (by omega)]
    exact h.2 q (by omega)
theorem MarkI.done {k : Int} {n sz : Nat} {cs : Array Value} (h : MarkI k n sz cs) (hs : n ≤ sz) : cs.toList.take (n * 1) = (marksI k n).flatMap encI := by
  have hz := h.1
  rw [Nat.mul_one]
  apply List.ext_getElem?
  intro i
  rcases Nat.lt_or_ge i n with hi | hi
  · rw [List.getElem?_take_of_lt hi, Array.getElem?_toList, h.2 i hi]
    have hg : (marksI k n)[i]? = some (k + (i : Int)) := by simp [marksI, hi]
    have h0 := flatMap_at (enc := encI) (sz := 1) len_encI (marksI k n) i _ 0 _ hg rfl
    rw [Nat.mul_one, Nat.add_zero] at h0
    rw [h0]
  · have hle : (cs.toList.take n).length ≤ i := by simp; omega
    rw [List.getElem?_eq_none hle, List.getElem?_eq_none (by rw [flatMap_len len_encI, marksI_len]; omega)]
set_option maxHeartbeats 1600000 in
theorem i_areWithin (A : Option Addr) (n c : Nat) (xs : List Int) (lo hi : Int) (w : World) (h : SlAt w 1 encI A xs) (hn : n = xs.length) (hl : n ≤ 1048576) :
    Calls Tryz.prog 157 #[.slice A n c, .int .i64 lo, .int .i64 hi] w fun e w' => e = .returned (.bool (xs.all fun x => inB x lo hi)) ∧ w = w' := by
  have HN := Lib.hid hn
  clear hn
  go_enter Tryz.func157, Tryz.ntmps157
  go_wp2
  go_loop [11] (fun i => ∃ k : Nat, k ≤ n ∧ i = .int .i64 k ∧ Hid (∀ j, j < k → inB (xs.getD j 0) lo hi = true)) (fun i => n - (intOf i).toNat)
  case atStart => exact ⟨0, Nat.zero_le _, rfl, fun j hj => absurd hj (by omega)⟩
  case round =>
    obtain ⟨k, hk, rfl, HJ⟩ := hrel
    by_cases hlt : k < n
    · have hkn : k < xs.length := by rw [← HN.out]; exact hlt
      obtain ⟨b, off, rfl, hb, d0⟩ := h.it hkn
      obtain ⟨x, hx⟩ : ∃ x, x = xs.getD k 0 := ⟨_, rfl⟩
      rw [← hx] at d0
      have HX := Lib.hid hx
      clear hx
      cases hb : inB x lo hi with
      | true =>
        have hcall : ∀ W, Calls Tryz.prog 73 #[.int .i64 x, .int .i64 lo, .int .i64 hi] W fun e w' => e = .returned (.bool true) ∧ W = w' := fun W => by have := within_any x lo hi W; rwa [hb] at this
        have HC := Lib.hid hcall
        have HB := Lib.hid hb
        clear hcall hb
        go_wp2_with fail
        refine (HC.out _).mono ?_
        rintro e w' ⟨rfl, rfl⟩
        go_wp2
        go_round
        case rel =>
          refine ⟨k + 1, by omega, by go_num, fun j hj => ?_⟩
          rcases Nat.lt_or_ge j k with c | c
          · exact HJ.out j c
          · obtain rfl : j = k := by omega
            rw [← HX.out]; exact HB.out
        case measure => simp [intOf]; omega
      | false =>
        have hcall : ∀ W, Calls Tryz.prog 73 #[.int .i64 x, .int .i64 lo, .int .i64 hi] W fun e w' => e = .returned (.bool false) ∧ W = w' := fun W => by have := within_any x lo hi W; rwa [hb] at this
        have HC := Lib.hid hcall
        have HB := Lib.hid hb
        clear hcall hb
        go_wp2_with fail
        refine (HC.out _).mono ?_
        rintro e w' ⟨rfl, rfl⟩
        go_wp2
        go_ret
        refine ⟨ret_bool (Eq.symm ?_), rfl⟩
        rw [List.all_eq_false]
        exact ⟨xs.getD k 0, by simp [List.getD, hkn], by rw [← HX.out, HB.out]; simp⟩
    · obtain rfl : k = n := by omega
      go_wp2
      go_ret
      refine ⟨ret_bool (Eq.symm ?_), rfl⟩
      rw [List.all_eq_true]
      intro x hx
      obtain ⟨j, hj, rfl⟩ := List.mem_iff_getElem.1 hx
      have := HJ.out j (by rw [HN.out]; exact hj)
      simpa [List.getD, hj] using this
end Go.Proofs.YtdbheipjbjcikaaGreatDoor
namespace Go.Proofs.YtdbheipjbjcikaaGreatDoor
open Go.RowKit
attribute [local go_sem] ExtOf.cell ExtOf.frozen

/-- the code of a map, views and indices of views -/
noncomputable def viC (L : List (List (Int × Int))) (V : List (List UInt8 × List (List UInt8))) (xs : List Int) : Int := if viB L V = true then (if (xs.all fun x => inB x 0 ((V.length : Int) - 1)) = true then 0 else 2) else 1
theorem viC_no {L : List (List (Int × Int))} {V : List (List UInt8 × List (List UInt8))} {xs : List Int} (h : viB L V = false) : viC L V xs = 1 := by simp [viC, h]
theorem viC_out {L : List (List (Int × Int))} {V : List (List UInt8 × List (List UInt8))} {xs : List Int} (h : viB L V = true) (hx : (xs.all fun x => inB x 0 ((V.length : Int) - 1)) = false) : viC L V xs = 2 := by unfold viC; rw [if_pos h, if_neg (by rw [hx]; simp)]
theorem viC_in {L : List (List (Int × Int))} {V : List (List UInt8 × List (List UInt8))} {xs : List Int} (h : viB L V = true) (hx : (xs.all fun x => inB x 0 ((V.length : Int) - 1)) = true) : viC L V xs = 0 := by unfold viC; rw [if_pos h, if_pos hx]
theorem viC_zero {L : List (List (Int × Int))} {V : List (List UInt8 × List (List UInt8))} {xs : List Int} (h : viC L V xs = 0) : viB L V = true ∧ (xs.all fun x => inB x 0 ((V.length : Int) - 1)) = true := by
  cases hb : viB L V with
  | false => rw [viC_no hb] at h; cases h
  | true =>
    refine ⟨rfl, ?_⟩
    cases hx : (xs.all fun x => inB x 0 ((V.length : Int) - 1)) with
    | true => rfl
    | false => rw [viC_out hb hx] at h; cases h
theorem viC_two (L : List (List (Int × Int))) (V : List (List UInt8 × List (List UInt8))) (a : Int) : viC L V [a, a] = viC L V [a] := by simp [viC]
/-- twice the areas of those of the first k rings that p asks for -/
def arI (L : List (List (Int × Int))) (p : Nat → Bool) (k : Nat) : Int := tot (fun i => if p i = true then areaA (L.getD i []) else 0) k
theorem arI_succ (L : List (List (Int × Int))) (p : Nat → Bool) (k : Nat) : arI L p (k + 1) = arI L p k + (if p k = true then areaA (L.getD k []) else 0) := by unfold arI; rw [tot]
theorem arI_bd {L : List (List (Int × Int))} (h : MapP L) (p : Nat → Bool) : ∀ k, k ≤ L.length → 0 ≤ arI L p k ∧ arI L p k ≤ 24000000 * (k : Int)
  | 0, _ => by simp [arI, tot]
  | k + 1, hk => by
    have := arI_bd h p k (by omega)
    have hb := areaA_bd (h.2.1 k (by omega))
    rw [arI_succ]
    split <;> omega
/-- the area of the rings that p asks for, 0 where the code is none of a success -/
noncomputable def arR (L : List (List (Int × Int))) (V : List (List UInt8 × List (List UInt8))) (xs : List Int) (p : Nat → Bool) : Int := if viC L V xs = 0 then arI L p L.length else 0
theorem viB_map {L : List (List (Int × Int))} {V : List (List UInt8 × List (List UInt8))} (h : viB L V = true) : MapP L ∧ AreV L.length V := by
  unfold viB at h
  rw [Bool.and_eq_true] at h
  exact ⟨mapB_iff.1 h.2, areV_iff.1 h.1⟩
theorem viB_len {rs : List Rg} {vs : List Vw} (h : viB (psOf rs) (voOf vs) = true) {k : Nat} (hk : k < vs.length) : (vs.getD k vwD).2.2.2.length = rs.length := by
  have h1 := (viB_map h).2.2 k (by rw [voOf_len]; exact hk)
  have h2 := h1.1
  rw [voOf_atD hk, psOf_len] at h2
  simp only [isvB, Bool.and_eq_true, decide_eq_true_eq] at h2
  exact h2.2.1
/-- the owner that view a tells for ring k -/
def ownOf (V : List (List UInt8 × List (List UInt8))) (a k : Nat) : ByteArray := tx ((V.getD a voD).2.getD k [])
theorem ownOf_at {vs : List Vw} {a k : Nat} (ha : a < vs.length) : ownOf (voOf vs) a k = tx ((vs.getD a vwD).2.2.2.getD k []) := by unfold ownOf; rw [voOf_atD ha]
def fA (V : List (List UInt8 × List (List UInt8))) (a : Nat) (own : ByteArray) (k : Nat) : Bool := (ownOf V a k).toList == own.toList
def fD (V : List (List UInt8 × List (List UInt8))) (a b : Nat) (k : Nat) : Bool := !((ownOf V a k).toList == (ownOf V b k).toList)
theorem fA_at {vs : List Vw} {a k : Nat} {own : ByteArray} (ha : a < vs.length) : fA (voOf vs) a own k = ((tx ((vs.getD a vwD).2.2.2.getD k [])).toList == own.toList) := by unfold fA; rw [ownOf_at ha]
theorem fD_at {vs : List Vw} {a b k : Nat} (ha : a < vs.length) (hb : b < vs.length) : fD (voOf vs) a b k = !((tx ((vs.getD a vwD).2.2.2.getD k [])).toList == (tx ((vs.getD b vwD).2.2.2.getD k [])).toList) := by unfold fD; rw [ownOf_at ha, ownOf_at hb]
theorem as_int0 {P : Program} {f : FuncId} {args : Array Value} {w : World} {k : IntKind} {b b' : Int} (h : Calls P f args w fun e w' => e = .returned (.int k b) ∧ Ext w w') (e : b = b') : Calls P f args w fun e w' => e = .returned (.int k b') ∧ Ext w w' := e ▸ h

set_option maxHeartbeats 3200000 in
theorem i_viewCode (A A' Ai : Option Addr) (c c' n ci : Nat) (rs : List Rg) (vs : List Vw) (xs : List Int) (w : World) (h : SlAt w 1 encR A rs) (hr : Rings w rs) (hl : rs.length ≤ 1048576) (hc : rs.length ≤ c) (h' : SlAt w 2 encV A' vs) (hv : Views w vs) (hl' : vs.length ≤ 1048576) (hi : SlAt w 1 encI Ai xs) (hn : n = xs.length) (hn2 : n ≤ 10) :
    Calls Tryz.prog 97 #[.slice A rs.length c, .slice A' vs.length c', .slice Ai n ci] w fun e w' => e = .returned (.int .i64 (viC (psOf rs) (voOf vs) xs)) ∧ Ext w w' := by
  have HV := Lib.hid (i_AreViews A A' c c' rs vs w h hr hl hc h' hv hl')
  have hw : IntKind.i64.wrap ((vs.length : Int) - 1) = (vs.length : Int) - 1 := IntWalk.i64_in _ (by omega)
  cases hm : viB (psOf rs) (voOf vs) with
  | false =>
    rw [viC_no hm]
    rw [hm] at HV
    clear hm h hr h' hv
    go_enter Tryz.func97, Tryz.ntmps97
    (go_wp2_with fail; refine (HV.out).mono ?_; rintro e w1 ⟨rfl, hx1⟩; obtain ⟨hc1, hf1⟩ := hx1.rules; have hs1 := hx1.size; (try simp at hs1))
    go_wp2
    go_ret
    exact ⟨rfl, by (repeat (first | with_reducible exact Ext.refl _ | with_reducible assumption | ((with_reducible apply Src.ext); with_reducible assumption) | with_reducible refine Ext.alloc ?_ _ | with_reducible refine Ext.drew ?_ | with_reducible refine Ext.drewN ?_ _ | ((with_reducible refine Ext.setCell' ?_ ?_ _); solve | omega | simp | (simp; omega)) | (with_reducible refine Ext.trans ?_ (by with_reducible assumption))))⟩
  | true =>
    rw [hm] at HV
    cases hx : (xs.all fun x => inB x 0 ((vs.length : Int) - 1)) with
    | true =>
      rw [viC_in hm (by rw [voOf_len]; exact hx)]
      have hw2 : ∀ W, SlAt W 1 encI Ai xs → Calls Tryz.prog 157 #[.slice Ai n ci, .int .i64 0, .int .i64 ((vs.length : Int) - 1)] W fun e w' => e = .returned (.bool true) ∧ W = w' := fun W h => as_bool0' (i_areWithin _ _ _ xs _ _ _ h hn (by omega)) hx
      have HW := Lib.hid hw2
      have HN := Lib.hid hn
      clear hm hx hw2 hn h hr h' hv
      go_enter Tryz.func97, Tryz.ntmps97
      (go_wp2_with fail; refine (HV.out).mono ?_; rintro e w1 ⟨rfl, hx1⟩; obtain ⟨hc1, hf1⟩ := hx1.rules; have hs1 := hx1.size; (try simp at hs1))
      (go_wp2_with fail; refine (i_lengthV _ _ _ _).mono ?_; rintro e w' ⟨rfl, rfl⟩)
      go_wp2_with fail
      refine (HW.out _ (hi.ext (by (repeat (first | with_reducible exact Ext.refl _ | with_reducible assumption | ((with_reducible apply Src.ext); with_reducible assumption) | with_reducible refine Ext.alloc ?_ _ | with_reducible refine Ext.drew ?_ | with_reducible refine Ext.drewN ?_ _ | ((with_reducible refine Ext.setCell' ?_ ?_ _); solve | omega | simp | (simp; omega)) | (with_reducible refine Ext.trans ?_ (by with_reducible assumption))))))).mono ?_
      rintro e w2 ⟨rfl, rfl⟩
      go_wp2
      go_ret
      exact ⟨rfl, by (repeat (first | with_reducible exact Ext.refl _ | with_reducible assumption | ((with_reducible apply Src.ext); with_reducible assumption) | with_reducible refine Ext.alloc ?_ _ | with_reducible refine Ext.drew ?_ | with_reducible refine Ext.drewN ?_ _ | ((with_reducible refine Ext.setCell' ?_ ?_ _); solve | omega | simp | (simp; omega)) | (with_reducible refine Ext.trans ?_ (by with_reducible assumption))))⟩
    | false =>
      rw [viC_out hm (by rw [voOf_len]; exact hx)]
      have hw2 : ∀ W, SlAt W 1 encI Ai xs → Calls Tryz.prog 157 #[.slice Ai n ci, .int .i64 0, .int .i64 ((vs.length : Int) - 1)] W fun e w' => e = .returned (.bool false) ∧ W = w' := fun W h => as_bool0' (i_areWithin _ _ _ xs _ _ _ h hn (by omega)) hx
      have HW := Lib.hid hw2
      have HN := Lib.hid hn
      clear hm hx hw2 hn h hr h' hv
      go_enter Tryz.func97, Tryz.ntmps97
      (go_wp2_with fail; refine (HV.out).mono ?_; rintro e w1 ⟨rfl, hx1⟩; obtain ⟨hc1, hf1⟩ := hx1.rules; have hs1 := hx1.size; (try simp at hs1))
      (go_wp2_with fail; refine (i_lengthV _ _ _ _).mono ?_; rintro e w' ⟨rfl, rfl⟩)
      go_wp2_with fail
      refine (HW.out _ (hi.ext (by (repeat (first | with_reducible exact Ext.refl _ | with_reducible assumption | ((with_reducible apply Src.ext); with_reducible assumption) | with_reducible refine Ext.alloc ?_ _ | with_reducible refine Ext.drew ?_ | with_reducible refine Ext.drewN ?_ _ | ((with_reducible refine Ext.setCell' ?_ ?_ _); solve | omega | simp | (simp; omega)) | (with_reducible refine Ext.trans ?_ (by with_reducible assumption))))))).mono ?_
      rintro e w2 ⟨rfl, rfl⟩
      go_wp2
      go_ret
      exact ⟨rfl, by (repeat (first | with_reducible exact Ext.refl _ | with_reducible assumption | ((with_reducible apply Src.ext); with_reducible assumption) | with_reducible refine Ext.alloc ?_ _ | with_reducible refine Ext.drew ?_ | with_reducible refine Ext.drewN ?_ _ | ((with_reducible refine Ext.setCell' ?_ ?_ _); solve | omega | simp | (simp; omega)) | (with_reducible refine Ext.trans ?_ (by with_reducible assumption))))⟩
set_option maxHeartbeats 3200000 in
theorem s_l18View (A A' : Option Addr) (c c' : Nat) (rs : List Rg) (vs : List Vw) (a b : Int) (w : World) (h : SlAt w 1 encR A rs) (hr : Rings w rs) (hl : rs.length ≤ 1048576) (h' : SlAt w 2 encV A' vs) (hv : Views w vs) (hl' : vs.length ≤ 1048576) :
    Calls Tryz.prog 95 #[.slice A rs.length c, .slice A' vs.length c', .int .i64 a, .int .i64 b] w fun e w' => e = .returned (.int .i64 (viC (psOf rs) (voOf vs) [a, b])) ∧ Ext w w' := by
  have HV := Lib.hid (s_AreViews A A' c c' rs vs w h hr hl h' hv hl')
  have hw : IntKind.i64.wrap ((vs.length : Int) - 1) = (vs.length : Int) - 1 := IntWalk.i64_in _ (by omega)
  cases hm : viB (psOf rs) (voOf vs) with
  | false =>
    rw [viC_no hm]
    rw [hm] at HV
    clear hm h hr h' hv
    go_enter Tryz.func95, Tryz.ntmps95
    (go_wp2_with fail; refine (HV.out).mono ?_; rintro e w1 ⟨rfl, hx1⟩; obtain ⟨hc1, hf1⟩ := hx1.rules; have hs1 := hx1.size; (try simp at hs1))
    go_wp2
    go_ret
    exact ⟨rfl, by (repeat (first | with_reducible exact Ext.refl _ | with_reducible assumption | ((with_reducible apply Src.ext); with_reducible assumption) | with_reducible refine Ext.alloc ?_ _ | with_reducible refine Ext.drew ?_ | with_reducible refine Ext.drewN ?_ _ | ((with_reducible refine Ext.setCell' ?_ ?_ _); solve | omega | simp | (simp; omega)) | (with_reducible refine Ext.trans ?_ (by with_reducible assumption))))⟩
  | true =>
    rw [hm] at HV
    have hval : ∀ q, ([a, b].all fun x => inB x 0 (((voOf vs).length : Int) - 1)) = q → viC (psOf rs) (voOf vs) [a, b] = if q = true then 0 else 2 := fun q hq => by unfold viC; rw [if_pos hm, hq]
    rw [voOf_len] at hval
    cases ha : inB a 0 ((vs.length : Int) - 1) with
    | false =>
      rw [hval false (by simp [ha])]
      have HA : Hid (∀ W, Calls Tryz.prog 116 #[.int .i64 a, .int .i64 0, .int .i64 ((vs.length : Int) - 1)] W fun e w' => e = .returned (.bool false) ∧ W = w') := Lib.hid fun W => as_bool0' (l01In_any _ _ _ _) ha
      clear ha hval hm h hr h' hv
      go_enter Tryz.func95, Tryz.ntmps95
      (go_wp2_with fail; refine (HV.out).mono ?_; rintro e w1 ⟨rfl, hx1⟩; obtain ⟨hc1, hf1⟩ := hx1.rules; have hs1 := hx1.size; (try simp at hs1))
      (go_wp2_with fail; refine (HA.out _).mono ?_; rintro e w' ⟨rfl, rfl⟩)
      go_wp2
      go_ret
      exact ⟨rfl, by (repeat (first | with_reducible exact Ext.refl _ | with_reducible assumption | ((with_reducible apply Src.ext); with_reducible assumption) | with_reducible refine Ext.alloc ?_ _ | with_reducible refine Ext.drew ?_ | with_reducible refine Ext.drewN ?_ _ | ((with_reducible refine Ext.setCell' ?_ ?_ _); solve | omega | simp | (simp; omega)) | (with_reducible refine Ext.trans ?_ (by with_reducible assumption))))⟩
    | true =>
      have HA : Hid (∀ W, Calls Tryz.prog 116 #[.int .i64 a, .int .i64 0, .int .i64 ((vs.length : Int) - 1)] W fun e w' => e = .returned (.bool true) ∧ W = w') := Lib.hid fun W => as_bool0' (l01In_any _ _ _ _) ha
      cases hb : inB b 0 ((vs.length : Int) - 1) with
      | false =>
        rw [hval false (by simp [ha, hb])]
        have HB : Hid (∀ W, Calls Tryz.prog 116 #[.int .i64 b, .int .i64 0, .int .i64 ((vs.length : Int) - 1)] W fun e w' => e = .returned (.bool false) ∧ W = w') := Lib.hid fun W => as_bool0' (l01In_any _ _ _ _) hb
        clear ha hb hval hm h hr h' hv
        go_enter Tryz.func95, Tryz.ntmps95
        (go_wp2_with fail; refine (HV.out).mono ?_; rintro e w1 ⟨rfl, hx1⟩; obtain ⟨hc1, hf1⟩ := hx1.rules; have hs1 := hx1.size; (try simp at hs1))
        (go_wp2_with fail; refine (HA.out _).mono ?_; rintro e w' ⟨rfl, rfl⟩)
        (go_wp2_with fail; refine (HB.out _).mono ?_; rintro e w' ⟨rfl, rfl⟩)
        go_wp2
        go_ret
        exact ⟨rfl, by (repeat (first | with_reducible exact Ext.refl _ | with_reducible assumption | ((with_reducible apply Src.ext); with_reducible assumption) | with_reducible refine Ext.alloc ?_ _ | with_reducible refine Ext.drew ?_ | with_reducible refine Ext.drewN ?_ _ | ((with_reducible refine Ext.setCell' ?_ ?_ _); solve | omega | simp | (simp; omega)) | (with_reducible refine Ext.trans ?_ (by with_reducible assumption))))⟩
      | true =>
        rw [hval true (by simp [ha, hb])]
        have HB : Hid (∀ W, Calls Tryz.prog 116 #[.int .i64 b, .int .i64 0, .int .i64 ((vs.length : Int) - 1)] W fun e w' => e = .returned (.bool true) ∧ W = w') := Lib.hid fun W => as_bool0' (l01In_any _ _ _ _) hb
        clear ha hb hval hm h hr h' hv
        go_enter Tryz.func95, Tryz.ntmps95
        (go_wp2_with fail; refine (HV.out).mono ?_; rintro e w1 ⟨rfl, hx1⟩; obtain ⟨hc1, hf1⟩ := hx1.rules; have hs1 := hx1.size; (try simp at hs1))
        (go_wp2_with fail; refine (HA.out _).mono ?_; rintro e w' ⟨rfl, rfl⟩)
        (go_wp2_with fail; refine (HB.out _).mono ?_; rintro e w' ⟨rfl, rfl⟩)
        go_wp2
        go_ret
        exact ⟨rfl, by (repeat (first | with_reducible exact Ext.refl _ | with_reducible assumption | ((with_reducible apply Src.ext); with_reducible assumption) | with_reducible refine Ext.alloc ?_ _ | with_reducible refine Ext.drew ?_ | with_reducible refine Ext.drewN ?_ _ | ((with_reducible refine Ext.setCell' ?_ ?_ _); solve | omega | simp | (simp; omega)) | (with_reducible refine Ext.trans ?_ (by with_reducible assumption))))⟩
set_option maxHeartbeats 3200000 in
theorem s_l18Area (A : Option Addr) (c : Nat) (ps : List (Int × Int)) (w : World) (h : SlAt w 2 encP A ps) (hring : ringB ps = true) :
    Calls Tryz.prog 96 #[.slice A ps.length c] w fun e w' => e = .returned (.int .i64 (areaA ps)) ∧ Ext w w' := by
  obtain ⟨h0, hl12, ho⟩ := ring_facts hring
  have hbd := areaA_bd hring
  have HO := Lib.hid ho
  have hsum : areaA ps = ((areaZ ps).natAbs : Int) := rfl
  rw [hsum] at hbd ⊢
  clear ho hring hsum
  go_enter Tryz.func96, Tryz.ntmps96
  (go_wp2_with fail; refine (s_area _ _ ps _ h h0 (by omega) HO.out).mono ?_; rintro e w2 ⟨rfl, hx2⟩; obtain ⟨hc2, hf2⟩ := hx2.rules; have hs2 := hx2.size; (try simp at hs2))
  (go_wp2_with fail; refine (s_absN _ _ (by omega) (by omega)).mono ?_; rintro e w' ⟨rfl, rfl⟩)
  go_wp2
  go_ret
  exact ⟨rfl, by (repeat (first | with_reducible exact Ext.refl _ | with_reducible assumption | ((with_reducible apply Src.ext); with_reducible assumption) | with_reducible refine Ext.alloc ?_ _ | with_reducible refine Ext.drew ?_ | with_reducible refine Ext.drewN ?_ _ | ((with_reducible refine Ext.setCell' ?_ ?_ _); solve | omega | simp | (simp; omega)) | (with_reducible refine Ext.trans ?_ (by with_reducible assumption))))⟩
set_option maxHeartbeats 6400000 in
theorem i_areaOf (A : Option Addr) (c : Nat) (rs : List Rg) (p : Nat → Bool) (g : Nat) (lb : Array Value) (eg : ∀ args w, (callFunc g args).run Tryz.prog w = .ok (.enter g args) w) (w : World) (h : SlAt w 1 encR A rs) (hr : Rings w rs) (hM : MapP (psOf rs))
    (hp : ∀ k : Nat, k < rs.length → ∀ W, Ext w W → Calls Tryz.prog g (#[.int .i64 k] ++ lb) W fun e w' => e = .returned (.bool (p k)) ∧ Ext W w') :
    Calls Tryz.prog 98 #[.slice A rs.length c, .func (.func g) #[] lb] w fun e w' => e = .returned (.int .i64 (arI (psOf rs) p rs.length)) ∧ Ext w w' := by
  have HP := Lib.hid hp
  have HM := Lib.hid hM
  clear hp hM
  go_enter Tryz.func98, Tryz.ntmps98
  go_wp2
  go_loopw [5, 10] (fun s i wr => ∃ k : Nat, k ≤ rs.length ∧ i = .int .i64 k ∧ s = .int .i64 (arI (psOf rs) p k) ∧ Ext w wr) (fun _ i _ => rs.length - (intOf i).toNat)
  case atStart => exact ⟨0, by omega, rfl, rfl, by (repeat (first | with_reducible exact Ext.refl _ | with_reducible assumption | ((with_reducible apply Src.ext); with_reducible assumption) | with_reducible refine Ext.alloc ?_ _ | with_reducible refine Ext.drew ?_ | with_reducible refine Ext.drewN ?_ _ | ((with_reducible refine Ext.setCell' ?_ ?_ _); solve | omega | simp | (simp; omega)) | (with_reducible refine Ext.trans ?_ (by with_reducible assumption))))⟩
  case round =>
    obtain ⟨k, hk, rfl, rfl, hxr⟩ := hrel
    have hsb := arI_bd HM.out p k (by rw [psOf_len]; exact hk)
    have h6 := HM.out.1
    rw [psOf_len] at h6
    by_cases hlt : k < rs.length
    · obtain ⟨b, off, rfl, hb, hcell⟩ := (h.ext hxr).rg hlt
      have hrk := hr _ (rg_mem hlt)
      have hring := HM.out.2.1 k (by rw [psOf_len]; exact hlt)
      rw [psOf_at hlt] at hring
      have hsu := arI_succ (psOf rs) p k
      rw [psOf_at hlt] at hsu
      have hcall := HP.out k hlt
      obtain ⟨r, hre⟩ : ∃ r, r = rs.getD k rgD := ⟨_, rfl⟩
      rw [← hre] at hcell hrk hring hsu
      clear hre
      cases hq : p k with
      | false =>
        rw [hq] at hcall hsu
        have HS := Lib.hid hsu
        have HC := Lib.hid hcall
        clear hcall hsu hq hrk hring
        go_wp2_with fail
        refine (HC.out _ (by (repeat (first | with_reducible exact Ext.refl _ | with_reducible assumption | ((with_reducible apply Src.ext); with_reducible assumption) | with_reducible refine Ext.alloc ?_ _ | with_reducible refine Ext.drew ?_ | with_reducible refine Ext.drewN ?_ _ | ((with_reducible refine Ext.setCell' ?_ ?_ _); solve | omega | simp | (simp; omega)) | (with_reducible refine Ext.trans ?_ (by with_reducible assumption)))))).mono ?_
        rintro e w1 ⟨rfl, hx1⟩
        go_wp2
        go_roundw
        case rel => exact ⟨k + 1, by omega, by go_num, by rw [HS.out]; simp, by (repeat (first | with_reducible exact Ext.refl _ | with_reducible assumption | ((with_reducible apply Src.ext); with_reducible assumption) | with_reducible refine Ext.alloc ?_ _ | with_reducible refine Ext.drew ?_ | with_reducible refine Ext.drewN ?_ _ | ((with_reducible refine Ext.setCell' ?_ ?_ _); solve | omega | simp | (simp; omega)) | (with_reducible refine Ext.trans ?_ (by with_reducible assumption))))⟩
        case measure => simp [intOf]; omega
      | true =>
        rw [hq] at hcall hsu
        have hbd := areaA_bd hring
        have HC := Lib.hid hcall
        obtain ⟨h0, hl12, ho⟩ := ring_facts hring
        have HO := Lib.hid ho
        have HK := Lib.hid hrk
        have hsum : areaA r.2.2 = ((areaZ r.2.2).natAbs : Int) := rfl
        rw [hsum] at hsu hbd
        have HS := Lib.hid hsu
        clear hcall hsu hq hrk hring ho hsum
        go_wp2_with fail
        refine (HC.out _ (by (repeat (first | with_reducible exact Ext.refl _ | with_reducible assumption | ((with_reducible apply Src.ext); with_reducible assumption) | with_reducible refine Ext.alloc ?_ _ | with_reducible refine Ext.drew ?_ | with_reducible refine Ext.drewN ?_ _ | ((with_reducible refine Ext.setCell' ?_ ?_ _); solve | omega | simp | (simp; omega)) | (with_reducible refine Ext.trans ?_ (by with_reducible assumption)))))).mono ?_
        rintro e w1 ⟨rfl, hx1⟩
        (go_wp2_with fail; refine (i_area _ _ r.2.2 _ (HK.out.1.ext (by (repeat (first | with_reducible exact Ext.refl _ | with_reducible assumption | ((with_reducible apply Src.ext); with_reducible assumption) | with_reducible refine Ext.alloc ?_ _ | with_reducible refine Ext.drew ?_ | with_reducible refine Ext.drewN ?_ _ | ((with_reducible refine Ext.setCell' ?_ ?_ _); solve | omega | simp | (simp; omega)) | (with_reducible refine Ext.trans ?_ (by with_reducible assumption)))))) h0 (by omega) HO.out).mono ?_; rintro e w2 ⟨rfl, hx2⟩; obtain ⟨hc2, hf2⟩ := hx2.rules; have hs2 := hx2.size; (try simp at hs2))
        (go_wp2_with fail; refine (i_absN _ _ (by omega) (by omega)).mono ?_; rintro e w' ⟨rfl, rfl⟩)
        go_wp2
        go_roundw
        case rel => exact ⟨k + 1, by omega, by go_num, by rw [HS.out]; simp, by (repeat (first | with_reducible exact Ext.refl _ | with_reducible assumption | ((with_reducible apply Src.ext); with_reducible assumption) | with_reducible refine Ext.alloc ?_ _ | with_reducible refine Ext.drew ?_ | with_reducible refine Ext.drewN ?_ _ | ((with_reducible refine Ext.setCell' ?_ ?_ _); solve | omega | simp | (simp; omega)) | (with_reducible refine Ext.trans ?_ (by with_reducible assumption))))⟩
        case measure => simp [intOf]; omega
    · obtain rfl : k = rs.length := by omega
      go_wp2
      go_ret
      exact ⟨rfl, by (repeat (first | with_reducible exact Ext.refl _ | with_reducible assumption | ((with_reducible apply Src.ext); with_reducible assumption) | with_reducible refine Ext.alloc ?_ _ | with_reducible refine Ext.drew ?_ | with_reducible refine Ext.drewN ?_ _ | ((with_reducible refine Ext.setCell' ?_ ?_ _); solve | omega | simp | (simp; omega)) | (with_reducible refine Ext.trans ?_ (by with_reducible assumption))))⟩

end Go.Proofs.YtdbheipjbjcikaaGreatDoor
namespace Go.Proofs.YtdbheipjbjcikaaGreatDoor
open Go.RowKit
attribute [local go_sem] ExtOf.cell ExtOf.frozen

set_option maxHeartbeats 1600000 in
theorem i_tells (v u : Vw) (k : Nat) (w : World) (h : SlAt w 1 encS v.2.1 v.2.2.2) (hu : SlAt w 1 encS u.2.1 u.2.2.2) (hk : k < v.2.2.2.length) (hk' : k < u.2.2.2.length) :
    Calls Tryz.prog 101 #[.agg #[.string (tx v.1), .slice v.2.1 v.2.2.2.length v.2.2.1], .agg #[.string (tx u.1), .slice u.2.1 u.2.2.2.length u.2.2.1], .int .i64 k] w fun e w' => e = .returned (.bool (!((tx (v.2.2.2.getD k [])).toList == (tx (u.2.2.2.getD k [])).toList))) ∧ Ext w w' := by
  obtain ⟨b, off, hA, hb, f0⟩ := h.st hk
  obtain ⟨b9, off9, hA', hb9, f1⟩ := hu.st hk'
  rw [hA, hA']
  generalize tx (v.2.2.2.getD k []) = t at *
  generalize tx (u.2.2.2.getD k []) = t' at *
  clear h hu hA hA'
  (have := (show b < w.heap.size + 1 from by omega); have := (show b < w.heap.size + 1 + 1 from by omega))
  (have := (show b9 < w.heap.size + 1 from by omega); have := (show b9 < w.heap.size + 1 + 1 from by omega))
  have q1 : ¬ b = w.heap.size := by omega
  have q2 : ¬ b = w.heap.size + 1 := by omega
  have q3 : ¬ b9 = w.heap.size := by omega
  have q4 : ¬ b9 = w.heap.size + 1 := by omega
  go_enter Tryz.func101, Tryz.ntmps101
  go_wp2
  (refine wp_region_ext (by kernel_rfl) (by kernel_rfl) ?_; (repeat (go_big_quiet_step (fail))); refine wpQuiet_nil ?_; intro wq hxwq; obtain ⟨hcwq, hfwq⟩ := hxwq.rules; have hswq := hxwq.size; (try simp at hswq))
  go_wp2
  go_ret
  exact ⟨rfl, by (repeat (first | with_reducible exact Ext.refl _ | with_reducible assumption | ((with_reducible apply Src.ext); with_reducible assumption) | with_reducible refine Ext.alloc ?_ _ | with_reducible refine Ext.drew ?_ | with_reducible refine Ext.drewN ?_ _ | ((with_reducible refine Ext.setCell' ?_ ?_ _); solve | omega | simp | (simp; omega)) | (with_reducible refine Ext.trans ?_ (by with_reducible assumption))))⟩
set_option maxHeartbeats 1600000 in
theorem i_AreaOf1 (A' : Option Addr) (c' : Nat) (vs : List Vw) (own : ByteArray) (a k b5 b6 b7 : Nat) (w : World) (h' : SlAt w 2 encV A' vs) (hv : Views w vs) (ha : a < vs.length) (hk : k < (vs.getD a vwD).2.2.2.length)
    (h5 : w.cell? ⟨b5, 0, none⟩ = some (.slice A' vs.length c')) (h6 : w.cell? ⟨b6, 0, none⟩ = some (.int .i64 a)) (h7 : w.cell? ⟨b7, 0, none⟩ = some (.string own)) :
    Calls Tryz.prog 99 #[.int .i64 k, .pointer (some ⟨b5, 0, none⟩), .pointer (some ⟨b6, 0, none⟩), .pointer (some ⟨b7, 0, none⟩)] w fun e w' => e = .returned (.bool (fA (voOf vs) a own k)) ∧ Ext w w' := by
  have e5 : b5 < w.heap.size := World.block_lt_of_cell? _ _ h5
  have e6 : b6 < w.heap.size := World.block_lt_of_cell? _ _ h6
  have e7 : b7 < w.heap.size := World.block_lt_of_cell? _ _ h7
  obtain ⟨b, off, rfl, hb, d0, d1⟩ := h'.vw ha
  have hvk := hv _ (vw_mem ha)
  obtain ⟨b2, off2, hA2, hb2, f0⟩ := hvk.1.st hk
  rw [hA2] at d1
  rw [fA_at ha]
  generalize vs.getD a vwD = v at *
  generalize tx (v.2.2.2.getD k []) = t at *
  clear hvk hv h' hA2
  go_enter Tryz.func99, Tryz.ntmps99
  go_wp2
  (refine wp_region_ext (by kernel_rfl) (by kernel_rfl) ?_; (repeat (go_big_quiet_step (fail))); refine wpQuiet_nil ?_; intro wq hxwq; obtain ⟨hcwq, hfwq⟩ := hxwq.rules; have hswq := hxwq.size; (try simp at hswq))
  go_wp2
  go_ret
  exact ⟨rfl, by (repeat (first | with_reducible exact Ext.refl _ | with_reducible assumption | ((with_reducible apply Src.ext); with_reducible assumption) | with_reducible refine Ext.alloc ?_ _ | with_reducible refine Ext.drew ?_ | with_reducible refine Ext.drewN ?_ _ | ((with_reducible refine Ext.setCell' ?_ ?_ _); solve | omega | simp | (simp; omega)) | (with_reducible refine Ext.trans ?_ (by with_reducible assumption))))⟩
theorem en_AreaOf1 (args : Array Value) (w : World) : (callFunc 99 args).run Tryz.prog w = .ok (.enter 99 args) w := enters_isSome Tryz.func99 (by kernel_rfl) (by kernel_rfl) args w
set_option maxHeartbeats 1600000 in
theorem i_Distance1 (A' : Option Addr) (c' : Nat) (vs : List Vw) (a a2 k b5 b6 b7 : Nat) (w : World) (h' : SlAt w 2 encV A' vs) (hv : Views w vs) (ha : a < vs.length) (ha2 : a2 < vs.length) (hk : k < (vs.getD a vwD).2.2.2.length) (hk2 : k < (vs.getD a2 vwD).2.2.2.length)
    (h5 : w.cell? ⟨b5, 0, none⟩ = some (.slice A' vs.length c')) (h6 : w.cell? ⟨b6, 0, none⟩ = some (.int .i64 a)) (h7 : w.cell? ⟨b7, 0, none⟩ = some (.int .i64 a2)) :
    Calls Tryz.prog 100 #[.int .i64 k, .pointer (some ⟨b5, 0, none⟩), .pointer (some ⟨b6, 0, none⟩), .pointer (some ⟨b7, 0, none⟩)] w fun e w' => e = .returned (.bool (fD (voOf vs) a a2 k)) ∧ Ext w w' := by
  have e5 : b5 < w.heap.size := World.block_lt_of_cell? _ _ h5
  have e6 : b6 < w.heap.size := World.block_lt_of_cell? _ _ h6
  have e7 : b7 < w.heap.size := World.block_lt_of_cell? _ _ h7
  obtain ⟨b, off, rfl, hb, d0, d1⟩ := h'.vw ha
  have hd := h'.vw' ha2
  obtain ⟨g0, g1⟩ := hd
  have HC := Lib.hid (fun W hx => i_tells (vs.getD a vwD) (vs.getD a2 vwD) k W ((hv _ (vw_mem ha)).1.ext hx) ((hv _ (vw_mem ha2)).1.ext hx) hk hk2)
  rw [fD_at ha ha2]
  generalize vs.getD a vwD = v at *
  generalize vs.getD a2 vwD = u at *
  generalize tx (v.2.2.2.getD k []) = t at *
  generalize tx (u.2.2.2.getD k []) = t2 at *
  clear hv h'
  go_enter Tryz.func100, Tryz.ntmps100
  go_wp2
  (refine wp_region_ext (by kernel_rfl) (by kernel_rfl) ?_; (repeat (go_big_quiet_step ((go_at_call 101; exact Calls_ext (HC.out _ (ExtOf.ext _)))))); refine wpQuiet_nil ?_; intro wq hxwq; obtain ⟨hcwq, hfwq⟩ := hxwq.rules; have hswq := hxwq.size; (try simp at hswq))
  go_wp2
  go_ret
  exact ⟨rfl, by (repeat (first | with_reducible exact Ext.refl _ | with_reducible assumption | ((with_reducible apply Src.ext); with_reducible assumption) | with_reducible refine Ext.alloc ?_ _ | with_reducible refine Ext.drew ?_ | with_reducible refine Ext.drewN ?_ _ | ((with_reducible refine Ext.setCell' ?_ ?_ _); solve | omega | simp | (simp; omega)) | (with_reducible refine Ext.trans ?_ (by with_reducible assumption))))⟩
theorem en_Distance1 (args : Array Value) (w : World) : (callFunc 100 args).run Tryz.prog w = .ok (.enter 100 args) w := enters_isSome Tryz.func100 (by kernel_rfl) (by kernel_rfl) args w
theorem in_nat {a : Int} {n : Nat} (h : inB a 0 ((n : Int) - 1) = true) : ∃ m : Nat, a = (m : Int) ∧ m < n := by
  simp [inB] at h
  exact ⟨a.toNat, by omega, by omega⟩
set_option maxRecDepth 20000 in
set_option maxHeartbeats 6400000 in
theorem i_AreaOf (A A' : Option Addr) (c c' : Nat) (rs : List Rg) (vs : List Vw) (a : Int) (own : ByteArray) (w : World) (h : SlAt w 1 encR A rs) (hr : Rings w rs) (hl : rs.length ≤ 1048576) (hc : rs.length ≤ c) (h' : SlAt w 2 encV A' vs) (hv : Views w vs) (hl' : vs.length ≤ 1048576) :
    Calls Tryz.prog 38 #[.slice A rs.length c, .slice A' vs.length c', .int .i64 a, .string own] w fun e w' => e = .returned (.tuple #[.int .i64 (arR (psOf rs) (voOf vs) [a] (fA (voOf vs) a.toNat own)), .int .i64 (viC (psOf rs) (voOf vs) [a])]) ∧ Ext w w' := by
  by_cases hcd : viC (psOf rs) (voOf vs) [a] = 0
  · rw [show arR (psOf rs) (voOf vs) [a] (fA (voOf vs) a.toNat own) = arI (psOf rs) (fA (voOf vs) a.toNat own) rs.length by unfold arR; rw [if_pos hcd, psOf_len], hcd]
    obtain ⟨hvb, hin⟩ := viC_zero hcd
    rw [voOf_len] at hin
    simp only [List.all_cons, List.all_nil, Bool.and_true] at hin
    obtain ⟨m, rfl, hm⟩ := in_nat hin
    simp only [Int.toNat_natCast] at *
    have HC : Hid (∀ Ai ci W, Ext w W → SlAt W 1 encI Ai [(m : Int)] → Calls Tryz.prog 97 #[.slice A rs.length c, .slice A' vs.length c', .slice Ai 1 ci] W fun e w' => e = .returned (.int .i64 0) ∧ Ext W w') := Lib.hid fun Ai ci W hx hS => as_int0 (i_viewCode A A' Ai c c' 1 ci rs vs [(m : Int)] W (h.ext hx) (hr.ext hx) hl hc (h'.ext hx) (hv.ext hx) hl' hS rfl (by omega)) hcd
    have HM := Lib.hid (viB_map hvb).1
    have HCL : Hid (∀ W0, Ext w W0 → Blk W0 w.heap.size 49 #[.slice A' vs.length c'] → Blk W0 (w.heap.size + 1) 2 #[.int .i64 m] → Blk W0 (w.heap.size + 1 + 1) 9 #[.string own] → ∀ k : Nat, k < rs.length → ∀ W, Ext W0 W →
        Calls Tryz.prog 99 (#[.int .i64 k] ++ #[.pointer (some ⟨w.heap.size, 0, none⟩), .pointer (some ⟨w.heap.size + 1, 0, none⟩), .pointer (some ⟨w.heap.size + 1 + 1, 0, none⟩)]) W fun e w' => e = .returned (.bool ((fA (voOf vs) m own) k)) ∧ Ext W w') := Lib.hid fun W0 hX B5 B6 B7 k hk W hx =>
      i_AreaOf1 A' c' vs own m k w.heap.size (w.heap.size + 1) (w.heap.size + 1 + 1) W (h'.ext (hX.trans hx)) (hv.ext (hX.trans hx)) hm (by rw [viB_len hvb hm]; exact hk) ((hx.cell _ _ B5.lt).trans (B5.cell 0)) ((hx.cell _ _ B6.lt).trans (B6.cell 0)) ((hx.cell _ _ B7.lt).trans (B7.cell 0))
    clear hcd hin hvb h' hv
    go_enter Tryz.func38, Tryz.ntmps38
    go_wp2_with fail
    refine (HC.out _ _ _ (by (repeat (first | with_reducible exact Ext.refl _ | with_reducible assumption | ((with_reducible apply Src.ext); with_reducible assumption) | with_reducible refine Ext.alloc ?_ _ | with_reducible refine Ext.drew ?_ | with_reducible refine Ext.drewN ?_ _ | ((with_reducible refine Ext.setCell' ?_ ?_ _); solve | omega | simp | (simp; omega)) | (with_reducible refine Ext.trans ?_ (by with_reducible assumption))))) (blk_i1 (by (repeat (first | with_reducible assumption | ((with_reducible apply Blk.new); solve | simp | rfl) | with_reducible apply Blk.drew | with_reducible apply Blk.drewN | ((with_reducible apply Blk.far'); solve | omega | simp | (simp; omega)) | with_reducible apply Blk.set_ | with_reducible apply Blk.alloc | ((with_reducible apply Blk.ext'); with_reducible assumption) | ((with_reducible apply Blk.but'); (with_reducible assumption); solve | omega | (simp; omega))))))).mono ?_
    rintro e w1 ⟨rfl, hx1⟩
    obtain ⟨hc1, hf1⟩ := hx1.rules
    have hs1 := hx1.size
    (try simp at hs1)
    have := (show w.heap.size < w1.heap.size from by omega)
    have := (show w.heap.size + 1 < w1.heap.size from by omega)
    have := (show w.heap.size + 1 + 1 < w1.heap.size from by omega)
    have HB := Lib.hid (HCL.out w1 (by (repeat (first | with_reducible exact Ext.refl _ | with_reducible assumption | ((with_reducible apply Src.ext); with_reducible assumption) | with_reducible refine Ext.alloc ?_ _ | with_reducible refine Ext.drew ?_ | with_reducible refine Ext.drewN ?_ _ | ((with_reducible refine Ext.setCell' ?_ ?_ _); solve | omega | simp | (simp; omega)) | (with_reducible refine Ext.trans ?_ (by with_reducible assumption))))) (Blk.eq (by (repeat (first | with_reducible assumption | ((with_reducible apply Blk.new); solve | simp | rfl) | with_reducible apply Blk.drew | with_reducible apply Blk.drewN | ((with_reducible apply Blk.far'); solve | omega | simp | (simp; omega)) | with_reducible apply Blk.set_ | with_reducible apply Blk.alloc | ((with_reducible apply Blk.ext'); with_reducible assumption) | ((with_reducible apply Blk.but'); (with_reducible assumption); solve | omega | (simp; omega))))) (by rfl)) (Blk.eq (by (repeat (first | with_reducible assumption | ((with_reducible apply Blk.new); solve | simp | rfl) | with_reducible apply Blk.drew | with_reducible apply Blk.drewN | ((with_reducible apply Blk.far'); solve | omega | simp | (simp; omega)) | with_reducible apply Blk.set_ | with_reducible apply Blk.alloc | ((with_reducible apply Blk.ext'); with_reducible assumption) | ((with_reducible apply Blk.but'); (with_reducible assumption); solve | omega | (simp; omega))))) (by rfl)) (Blk.eq (by (repeat (first | with_reducible assumption | ((with_reducible apply Blk.new); solve | simp | rfl) | with_reducible apply Blk.drew | with_reducible apply Blk.drewN | ((with_reducible apply Blk.far'); solve | omega | simp | (simp; omega)) | with_reducible apply Blk.set_ | with_reducible apply Blk.alloc | ((with_reducible apply Blk.ext'); with_reducible assumption) | ((with_reducible apply Blk.but'); (with_reducible assumption); solve | omega | (simp; omega))))) (by rfl)))
    go_wp2_with fail
    refine (i_areaOf _ _ rs (fA (voOf vs) m own) _ _ en_AreaOf1 _ (h.ext (by (repeat (first | with_reducible exact Ext.refl _ | with_reducible assumption | ((with_reducible apply Src.ext); with_reducible assumption) | with_reducible refine Ext.alloc ?_ _ | with_reducible refine Ext.drew ?_ | with_reducible refine Ext.drewN ?_ _ | ((with_reducible refine Ext.setCell' ?_ ?_ _); solve | omega | simp | (simp; omega)) | (with_reducible refine Ext.trans ?_ (by with_reducible assumption)))))) (hr.ext (by (repeat (first | with_reducible exact Ext.refl _ | with_reducible assumption | ((with_reducible apply Src.ext); with_reducible assumption) | with_reducible refine Ext.alloc ?_ _ | with_reducible refine Ext.drew ?_ | with_reducible refine Ext.drewN ?_ _ | ((with_reducible refine Ext.setCell' ?_ ?_ _); solve | omega | simp | (simp; omega)) | (with_reducible refine Ext.trans ?_ (by with_reducible assumption)))))) HM.out HB.out).mono ?_
    rintro e w2 ⟨rfl, hx2⟩
    go_wp2
    go_ret2
    exact ⟨rfl, by (repeat (first | with_reducible exact Ext.refl _ | with_reducible assumption | ((with_reducible apply Src.ext); with_reducible assumption) | with_reducible refine Ext.alloc ?_ _ | with_reducible refine Ext.drew ?_ | with_reducible refine Ext.drewN ?_ _ | ((with_reducible refine Ext.setCell' ?_ ?_ _); solve | omega | simp | (simp; omega)) | (with_reducible refine Ext.trans ?_ (by with_reducible assumption))))⟩
  · rw [show arR (psOf rs) (voOf vs) [a] (fA (voOf vs) a.toNat own) = 0 by unfold arR; rw [if_neg hcd]]
    have HC : Hid (∀ Ai ci W, Ext w W → SlAt W 1 encI Ai [a] → Calls Tryz.prog 97 #[.slice A rs.length c, .slice A' vs.length c', .slice Ai 1 ci] W fun e w' => e = .returned (.int .i64 (viC (psOf rs) (voOf vs) [a])) ∧ Ext W w') := Lib.hid fun Ai ci W hx hS => i_viewCode A A' Ai c c' 1 ci rs vs [a] W (h.ext hx) (hr.ext hx) hl hc (h'.ext hx) (hv.ext hx) hl' hS rfl (by omega)
    generalize viC (psOf rs) (voOf vs) [a] = q at *
    have hne : (q != 0) = true := by simpa using hcd
    clear hcd h hr h' hv
    go_enter Tryz.func38, Tryz.ntmps38
    go_wp2_with fail
    refine (HC.out _ _ _ (by (repeat (first | with_reducible exact Ext.refl _ | with_reducible assumption | ((with_reducible apply Src.ext); with_reducible assumption) | with_reducible refine Ext.alloc ?_ _ | with_reducible refine Ext.drew ?_ | with_reducible refine Ext.drewN ?_ _ | ((with_reducible refine Ext.setCell' ?_ ?_ _); solve | omega | simp | (simp; omega)) | (with_reducible refine Ext.trans ?_ (by with_reducible assumption))))) (blk_i1 (by (repeat (first | with_reducible assumption | ((with_reducible apply Blk.new); solve | simp | rfl) | with_reducible apply Blk.drew | with_reducible apply Blk.drewN | ((with_reducible apply Blk.far'); solve | omega | simp | (simp; omega)) | with_reducible apply Blk.set_ | with_reducible apply Blk.alloc | ((with_reducible apply Blk.ext'); with_reducible assumption) | ((with_reducible apply Blk.but'); (with_reducible assumption); solve | omega | (simp; omega))))))).mono ?_
    rintro e w1 ⟨rfl, hx1⟩
    go_wp2
    go_ret2
    exact ⟨rfl, by (repeat (first | with_reducible exact Ext.refl _ | with_reducible assumption | ((with_reducible apply Src.ext); with_reducible assumption) | with_reducible refine Ext.alloc ?_ _ | with_reducible refine Ext.drew ?_ | with_reducible refine Ext.drewN ?_ _ | ((with_reducible refine Ext.setCell' ?_ ?_ _); solve | omega | simp | (simp; omega)) | (with_reducible refine Ext.trans ?_ (by with_reducible assumption))))⟩
set_option maxRecDepth 20000 in
set_option maxHeartbeats 6400000 in
theorem s_AreaOf (A A' : Option Addr) (c c' : Nat) (rs : List Rg) (vs : List Vw) (a : Int) (own : ByteArray) (w : World) (h : SlAt w 1 encR A rs) (hr : Rings w rs) (hl : rs.length ≤ 1048576) (h' : SlAt w 2 encV A' vs) (hv : Views w vs) (hl' : vs.length ≤ 1048576) :
    Calls Tryz.prog 37 #[.slice A rs.length c, .slice A' vs.length c', .int .i64 a, .string own] w fun e w' => e = .returned (.tuple #[.int .i64 (arR (psOf rs) (voOf vs) [a] (fA (voOf vs) a.toNat own)), .int .i64 (viC (psOf rs) (voOf vs) [a])]) ∧ Ext w w' := by
  by_cases hcd : viC (psOf rs) (voOf vs) [a] = 0
  · rw [show arR (psOf rs) (voOf vs) [a] (fA (voOf vs) a.toNat own) = arI (psOf rs) (fA (voOf vs) a.toNat own) rs.length by unfold arR; rw [if_pos hcd, psOf_len], hcd]
    obtain ⟨hvb, hin⟩ := viC_zero hcd
    rw [voOf_len] at hin
    simp only [List.all_cons, List.all_nil, Bool.and_true] at hin
    obtain ⟨m, rfl, hm⟩ := in_nat hin
    simp only [Int.toNat_natCast] at *
    have hcall := s_l18View A A' c c' rs vs (m : Int) (m : Int) w h hr hl h' hv hl'
    rw [viC_two] at hcall
    rw [hcd] at hcall
    have HC := Lib.hid hcall
    have HM := Lib.hid (viB_map hvb).1
    have HVB := Lib.hid hvb
    clear hcd hin hvb hcall
    go_enter Tryz.func37, Tryz.ntmps37
    go_wp2_with fail
    refine HC.out.mono ?_
    rintro e w1 ⟨rfl, hx1⟩
    go_wp2
    go_loopw [11, 12] (fun s i wr => ∃ k : Nat, k ≤ rs.length ∧ i = .int .i64 k ∧ s = .int .i64 (arI (psOf rs) (fA (voOf vs) m own) k) ∧ Ext w wr) (fun _ i _ => rs.length - (intOf i).toNat)
    case atStart => exact ⟨0, by omega, rfl, rfl, by (repeat (first | with_reducible exact Ext.refl _ | with_reducible assumption | ((with_reducible apply Src.ext); with_reducible assumption) | with_reducible refine Ext.alloc ?_ _ | with_reducible refine Ext.drew ?_ | with_reducible refine Ext.drewN ?_ _ | ((with_reducible refine Ext.setCell' ?_ ?_ _); solve | omega | simp | (simp; omega)) | (with_reducible refine Ext.trans ?_ (by with_reducible assumption))))⟩
    case round =>
      obtain ⟨k, hk, rfl, rfl, hxr⟩ := hrel
      have hsb := arI_bd HM.out (fA (voOf vs) m own) k (by rw [psOf_len]; exact hk)
      have h6 := HM.out.1
      rw [psOf_len] at h6
      by_cases hlt : k < rs.length
      · obtain ⟨b, off, rfl, hb, hcell⟩ := (h.ext hxr).rg hlt
        have hrk := hr _ (rg_mem hlt)
        have hring := HM.out.2.1 k (by rw [psOf_len]; exact hlt)
        rw [psOf_at hlt] at hring
        have hsu := arI_succ (psOf rs) (fA (voOf vs) m own) k
        rw [psOf_at hlt, fA_at hm] at hsu
        obtain ⟨bv, offv, rfl, hbv, d0, d1⟩ := (h'.ext hxr).vw hm
        have hvl := viB_len HVB.out hm
        obtain ⟨b2, off2, hA2, hb2, f0⟩ := ((hv.ext hxr) _ (vw_mem hm)).1.st (k := k) (by rw [hvl]; exact hlt)
        rw [hA2] at d1
        obtain ⟨r, hre⟩ : ∃ r, r = rs.getD k rgD := ⟨_, rfl⟩
        rw [← hre] at hcell hrk hring hsu
        clear hre hA2
        have hbd := areaA_bd hring
        have HR := Lib.hid hring
        have HK := Lib.hid hrk
        have HVL := Lib.hid hvl
        clear hring hrk hvl
        generalize vs.getD m vwD = v at *
        have hkl : k < v.2.2.2.length := by have := HVL.out; omega
        generalize tx (v.2.2.2.getD k []) = t at *
        cases hq : (t.toList == own.toList) with
        | false =>
          rw [hq] at hsu
          have HS := Lib.hid hsu
          clear hsu
          go_wp2
          go_roundw
          case rel => exact ⟨k + 1, by omega, by go_num, by rw [HS.out]; simp, by (repeat (first | with_reducible exact Ext.refl _ | with_reducible assumption | ((with_reducible apply Src.ext); with_reducible assumption) | with_reducible refine Ext.alloc ?_ _ | with_reducible refine Ext.drew ?_ | with_reducible refine Ext.drewN ?_ _ | ((with_reducible refine Ext.setCell' ?_ ?_ _); solve | omega | simp | (simp; omega)) | (with_reducible refine Ext.trans ?_ (by with_reducible assumption))))⟩
          case measure => simp [intOf]; omega
        | true =>
          rw [hq] at hsu
          have HS := Lib.hid hsu
          clear hsu
          (go_wp2_with fail; refine (s_l18Area _ _ r.2.2 _ (HK.out.1.ext (by (repeat (first | with_reducible exact Ext.refl _ | with_reducible assumption | ((with_reducible apply Src.ext); with_reducible assumption) | with_reducible refine Ext.alloc ?_ _ | with_reducible refine Ext.drew ?_ | with_reducible refine Ext.drewN ?_ _ | ((with_reducible refine Ext.setCell' ?_ ?_ _); solve | omega | simp | (simp; omega)) | (with_reducible refine Ext.trans ?_ (by with_reducible assumption)))))) HR.out).mono ?_; rintro e w2 ⟨rfl, hx2⟩; obtain ⟨hc2, hf2⟩ := hx2.rules; have hs2 := hx2.size; (try simp at hs2))
          go_wp2
          go_roundw
          case rel => exact ⟨k + 1, by omega, by go_num, by rw [HS.out]; simp, by (repeat (first | with_reducible exact Ext.refl _ | with_reducible assumption | ((with_reducible apply Src.ext); with_reducible assumption) | with_reducible refine Ext.alloc ?_ _ | with_reducible refine Ext.drew ?_ | with_reducible refine Ext.drewN ?_ _ | ((with_reducible refine Ext.setCell' ?_ ?_ _); solve | omega | simp | (simp; omega)) | (with_reducible refine Ext.trans ?_ (by with_reducible assumption))))⟩
          case measure => simp [intOf]; omega
      · obtain rfl : k = rs.length := by omega
        go_wp2
        go_ret2
        exact ⟨rfl, by (repeat (first | with_reducible exact Ext.refl _ | with_reducible assumption | ((with_reducible apply Src.ext); with_reducible assumption) | with_reducible refine Ext.alloc ?_ _ | with_reducible refine Ext.drew ?_ | with_reducible refine Ext.drewN ?_ _ | ((with_reducible refine Ext.setCell' ?_ ?_ _); solve | omega | simp | (simp; omega)) | (with_reducible refine Ext.trans ?_ (by with_reducible assumption))))⟩
  · rw [show arR (psOf rs) (voOf vs) [a] (fA (voOf vs) a.toNat own) = 0 by unfold arR; rw [if_neg hcd]]
    have hcall := s_l18View A A' c c' rs vs a a w h hr hl h' hv hl'
    rw [viC_two] at hcall
    have HC := Lib.hid hcall
    generalize viC (psOf rs) (voOf vs) [a] = q at *
    have hne : (q != 0) = true := by simpa using hcd
    clear hcd h hr h' hv hcall
    go_enter Tryz.func37, Tryz.ntmps37
    go_wp2_with fail
    refine HC.out.mono ?_
    rintro e w1 ⟨rfl, hx1⟩
    go_wp2
    go_ret2
    exact ⟨rfl, by (repeat (first | with_reducible exact Ext.refl _ | with_reducible assumption | ((with_reducible apply Src.ext); with_reducible assumption) | with_reducible refine Ext.alloc ?_ _ | with_reducible refine Ext.drew ?_ | with_reducible refine Ext.drewN ?_ _ | ((with_reducible refine Ext.setCell' ?_ ?_ _); solve | omega | simp | (simp; omega)) | (with_reducible refine Ext.trans ?_ (by with_reducible assumption))))⟩

theorem s_AreaOf' (A A' : Option Addr) (n m c c' : Nat) (rs : List Rg) (vs : List Vw) (a : Int) (own : ByteArray) (w : World) (h : SlAt w 1 encR A rs) (hr : Rings w rs) (hl : rs.length ≤ 1048576) (h' : SlAt w 2 encV A' vs) (hv : Views w vs) (hl' : vs.length ≤ 1048576) (hn : n = rs.length) (hm : m = vs.length) :
    Calls Tryz.prog 37 #[.slice A n c, .slice A' m c', .int .i64 a, .string own] w fun e w' => e = .returned (.tuple #[.int .i64 (arR (psOf rs) (voOf vs) [a] (fA (voOf vs) a.toNat own)), .int .i64 (viC (psOf rs) (voOf vs) [a])]) ∧ Ext w w' := by
  subst hn hm
  exact s_AreaOf A A' c c' rs vs a own w h hr hl h' hv hl'

theorem i_AreaOf' (A A' : Option Addr) (n m c c' : Nat) (rs : List Rg) (vs : List Vw) (a : Int) (own : ByteArray) (w : World) (h : SlAt w 1 encR A rs) (hr : Rings w rs) (hl : rs.length ≤ 1048576) (hc : rs.length ≤ c) (h' : SlAt w 2 encV A' vs) (hv : Views w vs) (hl' : vs.length ≤ 1048576) (hn : n = rs.length) (hm : m = vs.length) :
    Calls Tryz.prog 38 #[.slice A n c, .slice A' m c', .int .i64 a, .string own] w fun e w' => e = .returned (.tuple #[.int .i64 (arR (psOf rs) (voOf vs) [a] (fA (voOf vs) a.toNat own)), .int .i64 (viC (psOf rs) (voOf vs) [a])]) ∧ Ext w w' := by
  subst hn hm
  exact i_AreaOf A A' c c' rs vs a own w h hr hl hc h' hv hl'

set_option maxRecDepth 20000 in
set_option maxHeartbeats 6400000 in
theorem fnExactAreaOf_walk (A : Option Addr) (c : Nat) (rs : List Rg) (A' : Option Addr) (c' : Nat) (vs : List Vw) (a : Int) (own : ByteArray) (w : World) (h : ArgR w A rs) (h' : ArgV w A' vs) (_hso : own.size ≤ maxLen) :
    Calls Tryz.prog 7 #[.slice A rs.length c, .slice A' vs.length c', .int .i64 a, .string own] w fun e w' => e = .returned (.bool true) ∧ Ext w w' := by
  by_cases hos : 1048576 < own.size
  · go_enter Tryz.func7, Tryz.ntmps7
    go_wp2
    go_ret
    exact ⟨rfl, by (repeat (first | with_reducible exact Ext.refl _ | with_reducible assumption | ((with_reducible apply Src.ext); with_reducible assumption) | with_reducible refine Ext.alloc ?_ _ | with_reducible refine Ext.drew ?_ | with_reducible refine Ext.drewN ?_ _ | ((with_reducible refine Ext.setCell' ?_ ?_ _); solve | omega | simp | (simp; omega)) | (with_reducible refine Ext.trans ?_ (by with_reducible assumption))))⟩
  go_enter Tryz.func7, Tryz.ntmps7
  go_wp2_with fail
  refine (l_szPointSS _ _ rs 1048576 _ h.sl h.len h.lens (by omega) (by omega)).mono ?_
  rintro e w' ⟨⟨z, rfl, hz1, hz⟩, rfl⟩
  rcases hz with rfl | ⟨hz0, hl, hs, _⟩
  · go_wp2
    go_ret
    exact ⟨rfl, Ext.refl _⟩
  have HS := Lib.hid hs
  clear hs
  go_wp2_with fail
  refine (l_szViewS _ _ vs z _ h'.sl h'.len h'.rg hz0 hz1).mono ?_
  rintro e w0 ⟨⟨z2, rfl, hz2, hzz⟩, hx0⟩
  rcases hzz with rfl | ⟨hz3, hvl, hg⟩
  · go_wp2
    go_ret
    exact ⟨rfl, hx0⟩
  · have HG := Lib.hid hg
    clear hg
    go_wp2_with fail
    refine (l_toPointSS _ _ rs _ (h.ext hx0).sl (h.ext hx0).rg hl HS.out).mono ?_
    rintro e w1 ⟨q1, cs1, rfl, hq1, hp1, hB1, hc1, hO1, hx1⟩
    have HP1 := Lib.hid hp1
    have HC1 := Lib.hid hc1
    have HQ1 := Lib.hid hq1
    have HO1 := Lib.hid hO1
    have HB1 := Lib.hid hB1
    clear hp1 hc1 hO1 hq1 hB1
    go_wp2_with fail
    refine (l_toViewS _ _ vs _ (h'.ext (hx0.trans hx1)).sl (fun i hi => ((h'.ext (hx0.trans hx1)).rg i hi).1) hvl HG.out).mono ?_
    rintro e w2 ⟨q2, cs2, rfl, hq2, hp2, hB2, hc2, hO2, hx2⟩
    have HP2 := Lib.hid hp2
    have HC2 := Lib.hid hc2
    have HQ2 := Lib.hid hq2
    have HO2 := Lib.hid hO2
    have HB2 := Lib.hid hB2
    clear hp2 hc2 hO2 hq2 hB2
    go_wp2_with fail
    refine (s_AreaOf' _ _ rs.length vs.length _ _ q1 q2 a own _ ((HB1.out.ext hx2).sl HC1.out len_encR) (HO1.out.ext hx2).rings (by rw [HQ1.out]; exact hl) (HB2.out.sl HC2.out len_encV) HO2.out.views (by rw [HQ2.out]; exact hvl) HQ1.out.symm HQ2.out.symm).mono ?_
    rw [HP1.out, HP2.out]
    rintro e w3 ⟨rfl, hx3⟩
    have hX3 := ((hx0.trans hx1).trans hx2).trans hx3
    go_wp2_with fail
    refine (l_toPointSS _ _ rs _ (h.ext hX3).sl (h.ext hX3).rg hl HS.out).mono ?_
    rintro e w4 ⟨q4, cs4, rfl, hq4, hp4, hB4, hc4, hO4, hx4⟩
    have HP4 := Lib.hid hp4
    have HC4 := Lib.hid hc4
    have HQ4 := Lib.hid hq4
    have HO4 := Lib.hid hO4
    have HB4 := Lib.hid hB4
    clear hp4 hc4 hO4 hq4 hB4
    go_wp2_with fail
    refine (l_toViewS _ _ vs _ (h'.ext (hX3.trans hx4)).sl (fun i hi => ((h'.ext (hX3.trans hx4)).rg i hi).1) hvl HG.out).mono ?_
    rintro e w5 ⟨q5, cs5, rfl, hq5, hp5, hB5, hc5, hO5, hx5⟩
    have HP5 := Lib.hid hp5
    have HC5 := Lib.hid hc5
    have HQ5 := Lib.hid hq5
    have HO5 := Lib.hid hO5
    have HB5 := Lib.hid hB5
    clear hp5 hc5 hO5 hq5 hB5
    go_wp2_with fail
    refine (i_AreaOf' _ _ rs.length vs.length _ _ q4 q5 a own _ ((HB4.out.ext hx5).sl HC4.out len_encR) (HO4.out.ext hx5).rings (by rw [HQ4.out]; exact hl) (by rw [HQ4.out]; exact Nat.le_refl _) (HB5.out.sl HC5.out len_encV) HO5.out.views (by rw [HQ5.out]; exact hvl) HQ4.out.symm HQ5.out.symm).mono ?_
    rw [HP4.out, HP5.out]
    rintro e w6 ⟨rfl, hx6⟩
    have hX6 := ((hX3.trans hx4).trans hx5).trans hx6
    generalize arR (psOf rs) (voOf vs) [a] (fA (voOf vs) a.toNat own) = q1r at *
    generalize viC (psOf rs) (voOf vs) [a] = q2r at *
    have hvb : (q1r != q1r) = false := by simp
    have hvb2 : (q2r != q2r) = false := by simp
    go_wp2_with fail
    refine (l_toPointSS _ _ rs _ (h.ext hX6).sl (h.ext hX6).rg hl HS.out).mono ?_
    rintro e w7 ⟨q7, cs7, rfl, hq7, hp7, hB7, hc7, hO7, hx7⟩
    have HP7 := Lib.hid hp7
    have HC7 := Lib.hid hc7
    have HQ7 := Lib.hid hq7
    have HO7 := Lib.hid hO7
    have HB7 := Lib.hid hB7
    clear hp7 hc7 hO7 hq7 hB7
    go_wp2_with fail
    refine (l_eqSS _ _ _ _ _ q4 q7 _ (((HB4.out.ext hx5).ext hx6).ext hx7 |>.sl HC4.out len_encR) (HB7.out.sl HC7.out len_encR) (((HO4.out.ext hx5).ext hx6).ext hx7).rings HO7.out.rings (by rw [HP4.out, HP7.out]) HQ4.out.symm hl).mono ?_
    rintro e w8 ⟨rfl, hx8⟩
    go_wp2_with fail
    refine (l_toViewS _ _ vs _ (h'.ext ((hX6.trans hx7).trans hx8)).sl (fun i hi => ((h'.ext ((hX6.trans hx7).trans hx8)).rg i hi).1) hvl HG.out).mono ?_
    rintro e w9 ⟨q9, cs9, rfl, hq9, hp9, hB9, hc9, hO9, hx9⟩
    have HP9 := Lib.hid hp9
    have HC9 := Lib.hid hc9
    have HQ9 := Lib.hid hq9
    have HO9 := Lib.hid hO9
    have HB9 := Lib.hid hB9
    clear hp9 hc9 hO9 hq9 hB9
    go_wp2_with fail
    refine (l_eqViewS _ _ _ _ _ q5 q9 _ ((((HB5.out.ext hx6).ext hx7).ext hx8).ext hx9 |>.sl HC5.out len_encV) (HB9.out.sl HC9.out len_encV) ((((HO5.out.ext hx6).ext hx7).ext hx8).ext hx9).views HO9.out.views (by rw [HP5.out, HP9.out]) HQ5.out.symm hvl).mono ?_
    rintro e w10 ⟨rfl, hx10⟩
    go_wp2
    go_ret
    exact ⟨rfl, (((hX6.trans hx7).trans hx8).trans hx9).trans hx10⟩

end Go.Proofs.YtdbheipjbjcikaaGreatDoor
namespace Go.Proofs.YtdbheipjbjcikaaGreatDoor
open Go.RowKit
attribute [local go_sem] ExtOf.cell ExtOf.frozen
set_option maxRecDepth 20000 in
set_option maxHeartbeats 6400000 in
theorem i_DistanceOfViews (A A' : Option Addr) (c c' : Nat) (rs : List Rg) (vs : List Vw) (a a2 : Int) (w : World) (h : SlAt w 1 encR A rs) (hr : Rings w rs) (hl : rs.length ≤ 1048576) (hc : rs.length ≤ c) (h' : SlAt w 2 encV A' vs) (hv : Views w vs) (hl' : vs.length ≤ 1048576) :
    Calls Tryz.prog 40 #[.slice A rs.length c, .slice A' vs.length c', .int .i64 a, .int .i64 a2] w fun e w' => e = .returned (.tuple #[.int .i64 (arR (psOf rs) (voOf vs) [a, a2] (fD (voOf vs) a.toNat a2.toNat)), .int .i64 (viC (psOf rs) (voOf vs) [a, a2])]) ∧ Ext w w' := by
  by_cases hcd : viC (psOf rs) (voOf vs) [a, a2] = 0
  · rw [show arR (psOf rs) (voOf vs) [a, a2] (fD (voOf vs) a.toNat a2.toNat) = arI (psOf rs) (fD (voOf vs) a.toNat a2.toNat) rs.length by unfold arR; rw [if_pos hcd, psOf_len], hcd]
    obtain ⟨hvb, hin⟩ := viC_zero hcd
    rw [voOf_len] at hin
    simp only [List.all_cons, List.all_nil, Bool.and_true, Bool.and_eq_true] at hin
    obtain ⟨m, rfl, hm⟩ := in_nat hin.1
    obtain ⟨m2, rfl, hm2⟩ := in_nat hin.2
    simp only [Int.toNat_natCast] at *
    have HC : Hid (∀ Ai ci W, Ext w W → SlAt W 1 encI Ai [(m : Int), (m2 : Int)] → Calls Tryz.prog 97 #[.slice A rs.length c, .slice A' vs.length c', .slice Ai 2 ci] W fun e w' => e = .returned (.int .i64 0) ∧ Ext W w') := Lib.hid fun Ai ci W hx hS => as_int0 (i_viewCode A A' Ai c c' 2 ci rs vs [(m : Int), (m2 : Int)] W (h.ext hx) (hr.ext hx) hl hc (h'.ext hx) (hv.ext hx) hl' hS rfl (by omega)) hcd
    have HM := Lib.hid (viB_map hvb).1
    have HCL : Hid (∀ W0, Ext w W0 → Blk W0 w.heap.size 49 #[.slice A' vs.length c'] → Blk W0 (w.heap.size + 1) 2 #[.int .i64 m] → Blk W0 (w.heap.size + 1 + 1) 2 #[.int .i64 m2] → ∀ k : Nat, k < rs.length → ∀ W, Ext W0 W →
        Calls Tryz.prog 100 (#[.int .i64 k] ++ #[.pointer (some ⟨w.heap.size, 0, none⟩), .pointer (some ⟨w.heap.size + 1, 0, none⟩), .pointer (some ⟨w.heap.size + 1 + 1, 0, none⟩)]) W fun e w' => e = .returned (.bool ((fD (voOf vs) m m2) k)) ∧ Ext W w') := Lib.hid fun W0 hX B5 B6 B7 k hk W hx =>
      i_Distance1 A' c' vs m m2 k w.heap.size (w.heap.size + 1) (w.heap.size + 1 + 1) W (h'.ext (hX.trans hx)) (hv.ext (hX.trans hx)) hm hm2 (by rw [viB_len hvb hm]; exact hk) (by rw [viB_len hvb hm2]; exact hk) ((hx.cell _ _ B5.lt).trans (B5.cell 0)) ((hx.cell _ _ B6.lt).trans (B6.cell 0)) ((hx.cell _ _ B7.lt).trans (B7.cell 0))
    clear hcd hin hvb h' hv
    go_enter Tryz.func40, Tryz.ntmps40
    go_wp2_with fail
    refine (HC.out _ _ _ (by (repeat (first | with_reducible exact Ext.refl _ | with_reducible assumption | ((with_reducible apply Src.ext); with_reducible assumption) | with_reducible refine Ext.alloc ?_ _ | with_reducible refine Ext.drew ?_ | with_reducible refine Ext.drewN ?_ _ | ((with_reducible refine Ext.setCell' ?_ ?_ _); solve | omega | simp | (simp; omega)) | (with_reducible refine Ext.trans ?_ (by with_reducible assumption))))) (blk_i2 (by (repeat (first | with_reducible assumption | ((with_reducible apply Blk.new); solve | simp | rfl) | with_reducible apply Blk.drew | with_reducible apply Blk.drewN | ((with_reducible apply Blk.far'); solve | omega | simp | (simp; omega)) | with_reducible apply Blk.set_ | with_reducible apply Blk.alloc | ((with_reducible apply Blk.ext'); with_reducible assumption) | ((with_reducible apply Blk.but'); (with_reducible assumption); solve | omega | (simp; omega))))))).mono ?_
    rintro e w1 ⟨rfl, hx1⟩
    obtain ⟨hc1, hf1⟩ := hx1.rules
    have hs1 := hx1.size
    (try simp at hs1)
    have := (show w.heap.size < w1.heap.size from by omega)
    have := (show w.heap.size + 1 < w1.heap.size from by omega)
    have := (show w.heap.size + 1 + 1 < w1.heap.size from by omega)
    have HB := Lib.hid (HCL.out w1 (by (repeat (first | with_reducible exact Ext.refl _ | with_reducible assumption | ((with_reducible apply Src.ext); with_reducible assumption) | with_reducible refine Ext.alloc ?_ _ | with_reducible refine Ext.drew ?_ | with_reducible refine Ext.drewN ?_ _ | ((with_reducible refine Ext.setCell' ?_ ?_ _); solve | omega | simp | (simp; omega)) | (with_reducible refine Ext.trans ?_ (by with_reducible assumption))))) (Blk.eq (by (repeat (first | with_reducible assumption | ((with_reducible apply Blk.new); solve | simp | rfl) | with_reducible apply Blk.drew | with_reducible apply Blk.drewN | ((with_reducible apply Blk.far'); solve | omega | simp | (simp; omega)) | with_reducible apply Blk.set_ | with_reducible apply Blk.alloc | ((with_reducible apply Blk.ext'); with_reducible assumption) | ((with_reducible apply Blk.but'); (with_reducible assumption); solve | omega | (simp; omega))))) (by rfl)) (Blk.eq (by (repeat (first | with_reducible assumption | ((with_reducible apply Blk.new); solve | simp | rfl) | with_reducible apply Blk.drew | with_reducible apply Blk.drewN | ((with_reducible apply Blk.far'); solve | omega | simp | (simp; omega)) | with_reducible apply Blk.set_ | with_reducible apply Blk.alloc | ((with_reducible apply Blk.ext'); with_reducible assumption) | ((with_reducible apply Blk.but'); (with_reducible assumption); solve | omega | (simp; omega))))) (by rfl)) (Blk.eq (by (repeat (first | with_reducible assumption | ((with_reducible apply Blk.new); solve | simp | rfl) | with_reducible apply Blk.drew | with_reducible apply Blk.drewN | ((with_reducible apply Blk.far'); solve | omega | simp | (simp; omega)) | with_reducible apply Blk.set_ | with_reducible apply Blk.alloc | ((with_reducible apply Blk.ext'); with_reducible assumption) | ((with_reducible apply Blk.but'); (with_reducible assumption); solve | omega | (simp; omega))))) (by rfl)))
    go_wp2_with fail
    refine (i_areaOf _ _ rs (fD (voOf vs) m m2) _ _ en_Distance1 _ (h.ext (by (repeat (first | with_reducible exact Ext.refl _ | with_reducible assumption | ((with_reducible apply Src.ext); with_reducible assumption) | with_reducible refine Ext.alloc ?_ _ | with_reducible refine Ext.drew ?_ | with_reducible refine Ext.drewN ?_ _ | ((with_reducible refine Ext.setCell' ?_ ?_ _); solve | omega | simp | (simp; omega)) | (with_reducible refine Ext.trans ?_ (by with_reducible assumption)))))) (hr.ext (by (repeat (first | with_reducible exact Ext.refl _ | with_reducible assumption | ((with_reducible apply Src.ext); with_reducible assumption) | with_reducible refine Ext.alloc ?_ _ | with_reducible refine Ext.drew ?_ | with_reducible refine Ext.drewN ?_ _ | ((with_reducible refine Ext.setCell' ?_ ?_ _); solve | omega | simp | (simp; omega)) | (with_reducible refine Ext.trans ?_ (by with_reducible assumption)))))) HM.out HB.out).mono ?_
    rintro e w2 ⟨rfl, hx2⟩
    go_wp2
    go_ret2
    exact ⟨rfl, by (repeat (first | with_reducible exact Ext.refl _ | with_reducible assumption | ((with_reducible apply Src.ext); with_reducible assumption) | with_reducible refine Ext.alloc ?_ _ | with_reducible refine Ext.drew ?_ | with_reducible refine Ext.drewN ?_ _ | ((with_reducible refine Ext.setCell' ?_ ?_ _); solve | omega | simp | (simp; omega)) | (with_reducible refine Ext.trans ?_ (by with_reducible assumption))))⟩
  · rw [show arR (psOf rs) (voOf vs) [a, a2] (fD (voOf vs) a.toNat a2.toNat) = 0 by unfold arR; rw [if_neg hcd]]
    have HC : Hid (∀ Ai ci W, Ext w W → SlAt W 1 encI Ai [a, a2] → Calls Tryz.prog 97 #[.slice A rs.length c, .slice A' vs.length c', .slice Ai 2 ci] W fun e w' => e = .returned (.int .i64 (viC (psOf rs) (voOf vs) [a, a2])) ∧ Ext W w') := Lib.hid fun Ai ci W hx hS => i_viewCode A A' Ai c c' 2 ci rs vs [a, a2] W (h.ext hx) (hr.ext hx) hl hc (h'.ext hx) (hv.ext hx) hl' hS rfl (by omega)
    generalize viC (psOf rs) (voOf vs) [a, a2] = q at *
    have hne : (q != 0) = true := by simpa using hcd
    clear hcd h hr h' hv
    go_enter Tryz.func40, Tryz.ntmps40
    go_wp2_with fail
    refine (HC.out _ _ _ (by (repeat (first | with_reducible exact Ext.refl _ | with_reducible assumption | ((with_reducible apply Src.ext); with_reducible assumption) | with_reducible refine Ext.alloc ?_ _ | with_reducible refine Ext.drew ?_ | with_reducible refine Ext.drewN ?_ _ | ((with_reducible refine Ext.setCell' ?_ ?_ _); solve | omega | simp | (simp; omega)) | (with_reducible refine Ext.trans ?_ (by with_reducible assumption))))) (blk_i2 (by (repeat (first | with_reducible assumption | ((with_reducible apply Blk.new); solve | simp | rfl) | with_reducible apply Blk.drew | with_reducible apply Blk.drewN | ((with_reducible apply Blk.far'); solve | omega | simp | (simp; omega)) | with_reducible apply Blk.set_ | with_reducible apply Blk.alloc | ((with_reducible apply Blk.ext'); with_reducible assumption) | ((with_reducible apply Blk.but'); (with_reducible assumption); solve | omega | (simp; omega))))))).mono ?_
    rintro e w1 ⟨rfl, hx1⟩
    go_wp2
    go_ret2
    exact ⟨rfl, by (repeat (first | with_reducible exact Ext.refl _ | with_reducible assumption | ((with_reducible apply Src.ext); with_reducible assumption) | with_reducible refine Ext.alloc ?_ _ | with_reducible refine Ext.drew ?_ | with_reducible refine Ext.drewN ?_ _ | ((with_reducible refine Ext.setCell' ?_ ?_ _); solve | omega | simp | (simp; omega)) | (with_reducible refine Ext.trans ?_ (by with_reducible assumption))))⟩
set_option maxRecDepth 20000 in
set_option maxHeartbeats 6400000 in
theorem s_DistanceOfViews (A A' : Option Addr) (c c' : Nat) (rs : List Rg) (vs : List Vw) (a a2 : Int) (w : World) (h : SlAt w 1 encR A rs) (hr : Rings w rs) (hl : rs.length ≤ 1048576) (h' : SlAt w 2 encV A' vs) (hv : Views w vs) (hl' : vs.length ≤ 1048576) :
    Calls Tryz.prog 39 #[.slice A rs.length c, .slice A' vs.length c', .int .i64 a, .int .i64 a2] w fun e w' => e = .returned (.tuple #[.int .i64 (arR (psOf rs) (voOf vs) [a, a2] (fD (voOf vs) a.toNat a2.toNat)), .int .i64 (viC (psOf rs) (voOf vs) [a, a2])]) ∧ Ext w w' := by
  by_cases hcd : viC (psOf rs) (voOf vs) [a, a2] = 0
  · rw [show arR (psOf rs) (voOf vs) [a, a2] (fD (voOf vs) a.toNat a2.toNat) = arI (psOf rs) (fD (voOf vs) a.toNat a2.toNat) rs.length by unfold arR; rw [if_pos hcd, psOf_len], hcd]
    obtain ⟨hvb, hin⟩ := viC_zero hcd
    rw [voOf_len] at hin
    simp only [List.all_cons, List.all_nil, Bool.and_true, Bool.and_eq_true] at hin
    obtain ⟨m, rfl, hm⟩ := in_nat hin.1
    obtain ⟨m2, rfl, hm2⟩ := in_nat hin.2
    simp only [Int.toNat_natCast] at *
    have hcall := s_l18View A A' c c' rs vs (m : Int) (m2 : Int) w h hr hl h' hv hl'
    rw [hcd] at hcall
    have HC := Lib.hid hcall
    have HM := Lib.hid (viB_map hvb).1
    have HVB := Lib.hid hvb
    clear hcd hin hvb hcall
    go_enter Tryz.func39, Tryz.ntmps39
    go_wp2_with fail
    refine HC.out.mono ?_
    rintro e w1 ⟨rfl, hx1⟩
    go_wp2
    go_loopw [11, 12] (fun s i wr => ∃ k : Nat, k ≤ rs.length ∧ i = .int .i64 k ∧ s = .int .i64 (arI (psOf rs) (fD (voOf vs) m m2) k) ∧ Ext w wr) (fun _ i _ => rs.length - (intOf i).toNat)
    case atStart => exact ⟨0, by omega, rfl, rfl, by (repeat (first | with_reducible exact Ext.refl _ | with_reducible assumption | ((with_reducible apply Src.ext); with_reducible assumption) | with_reducible refine Ext.alloc ?_ _ | with_reducible refine Ext.drew ?_ | with_reducible refine Ext.drewN ?_ _ | ((with_reducible refine Ext.setCell' ?_ ?_ _); solve | omega | simp | (simp; omega)) | (with_reducible refine Ext.trans ?_ (by with_reducible assumption))))⟩
    case round =>
      obtain ⟨k, hk, rfl, rfl, hxr⟩ := hrel
      have hsb := arI_bd HM.out (fD (voOf vs) m m2) k (by rw [psOf_len]; exact hk)
      have h6 := HM.out.1
      rw [psOf_len] at h6
      by_cases hlt : k < rs.length
      · obtain ⟨b, off, rfl, hb, hcell⟩ := (h.ext hxr).rg hlt
        have hrk := hr _ (rg_mem hlt)
        have hring := HM.out.2.1 k (by rw [psOf_len]; exact hlt)
        rw [psOf_at hlt] at hring
        have hsu := arI_succ (psOf rs) (fD (voOf vs) m m2) k
        rw [psOf_at hlt, fD_at hm hm2] at hsu
        obtain ⟨bv, offv, rfl, hbv, d0, d1⟩ := (h'.ext hxr).vw hm
        have hvl := viB_len HVB.out hm
        obtain ⟨b2, off2, hA2, hb2, f0⟩ := ((hv.ext hxr) _ (vw_mem hm)).1.st (k := k) (by rw [hvl]; exact hlt)
        rw [hA2] at d1
        have hdv2 := (h'.ext hxr).vw' hm2
        obtain ⟨g0, g1⟩ := hdv2
        obtain ⟨b3, off3, hA3, hb3, f1⟩ := ((hv.ext hxr) _ (vw_mem hm2)).1.st (k := k) (by rw [viB_len HVB.out hm2]; exact hlt)
        rw [hA3] at g1
        obtain ⟨r, hre⟩ : ∃ r, r = rs.getD k rgD := ⟨_, rfl⟩
        rw [← hre] at hcell hrk hring hsu
        clear hre hA2 hA3
        have hbd := areaA_bd hring
        have HR := Lib.hid hring
        have HK := Lib.hid hrk
        have HVL := Lib.hid hvl
        clear hring hrk hvl
        have HVL2 := Lib.hid (viB_len HVB.out hm2)
        generalize vs.getD m vwD = v at *
        generalize vs.getD m2 vwD = u at *
        have hkl : k < v.2.2.2.length := by have := HVL.out; omega
        have hkl2 : k < u.2.2.2.length := by have := HVL2.out; omega
        generalize tx (v.2.2.2.getD k []) = t at *
        generalize tx (u.2.2.2.getD k []) = t2 at *
        cases hq : (t.toList == t2.toList) with
        | true =>
          rw [hq] at hsu
          have HS := Lib.hid hsu
          clear hsu
          go_wp2
          (refine wp_region_ext (by kernel_rfl) (by kernel_rfl) ?_; (repeat (go_big_quiet_step (fail))); refine wpQuiet_nil ?_; intro wq hxwq; obtain ⟨hcwq, hfwq⟩ := hxwq.rules; have hswq := hxwq.size; (try simp at hswq))
          go_wp2
          go_roundw
          case rel => exact ⟨k + 1, by omega, by go_num, by rw [HS.out]; simp, by (repeat (first | with_reducible exact Ext.refl _ | with_reducible assumption | ((with_reducible apply Src.ext); with_reducible assumption) | with_reducible refine Ext.alloc ?_ _ | with_reducible refine Ext.drew ?_ | with_reducible refine Ext.drewN ?_ _ | ((with_reducible refine Ext.setCell' ?_ ?_ _); solve | omega | simp | (simp; omega)) | (with_reducible refine Ext.trans ?_ (by with_reducible assumption))))⟩
          case measure => simp [intOf]; omega
        | false =>
          rw [hq] at hsu
          have HS := Lib.hid hsu
          clear hsu
          go_wp2
          (refine wp_region_ext (by kernel_rfl) (by kernel_rfl) ?_; (repeat (go_big_quiet_step (fail))); refine wpQuiet_nil ?_; intro wq hxwq; obtain ⟨hcwq, hfwq⟩ := hxwq.rules; have hswq := hxwq.size; (try simp at hswq))
          (go_wp2_with fail; refine (s_l18Area _ _ r.2.2 _ (HK.out.1.ext (by (repeat (first | with_reducible exact Ext.refl _ | with_reducible assumption | ((with_reducible apply Src.ext); with_reducible assumption) | with_reducible refine Ext.alloc ?_ _ | with_reducible refine Ext.drew ?_ | with_reducible refine Ext.drewN ?_ _ | ((with_reducible refine Ext.setCell' ?_ ?_ _); solve | omega | simp | (simp; omega)) | (with_reducible refine Ext.trans ?_ (by with_reducible assumption)))))) HR.out).mono ?_; rintro e w2 ⟨rfl, hx2⟩; obtain ⟨hc2, hf2⟩ := hx2.rules; have hs2 := hx2.size; (try simp at hs2))
          go_wp2
          go_roundw
          case rel => exact ⟨k + 1, by omega, by go_num, by rw [HS.out]; simp, by (repeat (first | with_reducible exact Ext.refl _ | with_reducible assumption | ((with_reducible apply Src.ext); with_reducible assumption) | with_reducible refine Ext.alloc ?_ _ | with_reducible refine Ext.drew ?_ | with_reducible refine Ext.drewN ?_ _ | ((with_reducible refine Ext.setCell' ?_ ?_ _); solve | omega | simp | (simp; omega)) | (with_reducible refine Ext.trans ?_ (by with_reducible assumption))))⟩
          case measure => simp [intOf]; omega
      · obtain rfl : k = rs.length := by omega
        go_wp2
        go_ret2
        exact ⟨rfl, by (repeat (first | with_reducible exact Ext.refl _ | with_reducible assumption | ((with_reducible apply Src.ext); with_reducible assumption) | with_reducible refine Ext.alloc ?_ _ | with_reducible refine Ext.drew ?_ | with_reducible refine Ext.drewN ?_ _ | ((with_reducible refine Ext.setCell' ?_ ?_ _); solve | omega | simp | (simp; omega)) | (with_reducible refine Ext.trans ?_ (by with_reducible assumption))))⟩
  · rw [show arR (psOf rs) (voOf vs) [a, a2] (fD (voOf vs) a.toNat a2.toNat) = 0 by unfold arR; rw [if_neg hcd]]
    have hcall := s_l18View A A' c c' rs vs a a2 w h hr hl h' hv hl'
    have HC := Lib.hid hcall
    generalize viC (psOf rs) (voOf vs) [a, a2] = q at *
    have hne : (q != 0) = true := by simpa using hcd
    clear hcd h hr h' hv hcall
    go_enter Tryz.func39, Tryz.ntmps39
    go_wp2_with fail
    refine HC.out.mono ?_
    rintro e w1 ⟨rfl, hx1⟩
    go_wp2
    go_ret2
    exact ⟨rfl, by (repeat (first | with_reducible exact Ext.refl _ | with_reducible assumption | ((with_reducible apply Src.ext); with_reducible assumption) | with_reducible refine Ext.alloc ?_ _ | with_reducible refine Ext.drew ?_ | with_reducible refine Ext.drewN ?_ _ | ((with_reducible refine Ext.setCell' ?_ ?_ _); solve | omega | simp | (simp; omega)) | (with_reducible refine Ext.trans ?_ (by with_reducible assumption))))⟩

theorem s_DistanceOfViews' (A A' : Option Addr) (n m c c' : Nat) (rs : List Rg) (vs : List Vw) (a a2 : Int) (w : World) (h : SlAt w 1 encR A rs) (hr : Rings w rs) (hl : rs.length ≤ 1048576) (h' : SlAt w 2 encV A' vs) (hv : Views w vs) (hl' : vs.length ≤ 1048576) (hn : n = rs.length) (hm : m = vs.length) :
    Calls Tryz.prog 39 #[.slice A n c, .slice A' m c', .int .i64 a, .int .i64 a2] w fun e w' => e = .returned (.tuple #[.int .i64 (arR (psOf rs) (voOf vs) [a, a2] (fD (voOf vs) a.toNat a2.toNat)), .int .i64 (viC (psOf rs) (voOf vs) [a, a2])]) ∧ Ext w w' := by
  subst hn hm
  exact s_DistanceOfViews A A' c c' rs vs a a2 w h hr hl h' hv hl'

theorem i_DistanceOfViews' (A A' : Option Addr) (n m c c' : Nat) (rs : List Rg) (vs : List Vw) (a a2 : Int) (w : World) (h : SlAt w 1 encR A rs) (hr : Rings w rs) (hl : rs.length ≤ 1048576) (hc : rs.length ≤ c) (h' : SlAt w 2 encV A' vs) (hv : Views w vs) (hl' : vs.length ≤ 1048576) (hn : n = rs.length) (hm : m = vs.length) :
    Calls Tryz.prog 40 #[.slice A n c, .slice A' m c', .int .i64 a, .int .i64 a2] w fun e w' => e = .returned (.tuple #[.int .i64 (arR (psOf rs) (voOf vs) [a, a2] (fD (voOf vs) a.toNat a2.toNat)), .int .i64 (viC (psOf rs) (voOf vs) [a, a2])]) ∧ Ext w w' := by
  subst hn hm
  exact i_DistanceOfViews A A' c c' rs vs a a2 w h hr hl hc h' hv hl'

set_option maxRecDepth 20000 in
set_option maxHeartbeats 6400000 in
theorem fnExactDistanceOfViews_walk (A : Option Addr) (c : Nat) (rs : List Rg) (A' : Option Addr) (c' : Nat) (vs : List Vw) (a a2 : Int) (w : World) (h : ArgR w A rs) (h' : ArgV w A' vs) :
    Calls Tryz.prog 8 #[.slice A rs.length c, .slice A' vs.length c', .int .i64 a, .int .i64 a2] w fun e w' => e = .returned (.bool true) ∧ Ext w w' := by
  go_enter Tryz.func8, Tryz.ntmps8
  go_wp2_with fail
  refine (l_szPointSS _ _ rs 1048576 _ h.sl h.len h.lens (by omega) (by omega)).mono ?_
  rintro e w' ⟨⟨z, rfl, hz1, hz⟩, rfl⟩
  rcases hz with rfl | ⟨hz0, hl, hs, _⟩
  · go_wp2
    go_ret
    exact ⟨rfl, Ext.refl _⟩
  have HS := Lib.hid hs
  clear hs
  go_wp2_with fail
  refine (l_szViewS _ _ vs z _ h'.sl h'.len h'.rg hz0 hz1).mono ?_
  rintro e w0 ⟨⟨z2, rfl, hz2, hzz⟩, hx0⟩
  rcases hzz with rfl | ⟨hz3, hvl, hg⟩
  · go_wp2
    go_ret
    exact ⟨rfl, hx0⟩
  · have HG := Lib.hid hg
    clear hg
    go_wp2_with fail
    refine (l_toPointSS _ _ rs _ (h.ext hx0).sl (h.ext hx0).rg hl HS.out).mono ?_
    rintro e w1 ⟨q1, cs1, rfl, hq1, hp1, hB1, hc1, hO1, hx1⟩
    have HP1 := Lib.hid hp1
    have HC1 := Lib.hid hc1
    have HQ1 := Lib.hid hq1
    have HO1 := Lib.hid hO1
    have HB1 := Lib.hid hB1
    clear hp1 hc1 hO1 hq1 hB1
    go_wp2_with fail
    refine (l_toViewS _ _ vs _ (h'.ext (hx0.trans hx1)).sl (fun i hi => ((h'.ext (hx0.trans hx1)).rg i hi).1) hvl HG.out).mono ?_
    rintro e w2 ⟨q2, cs2, rfl, hq2, hp2, hB2, hc2, hO2, hx2⟩
    have HP2 := Lib.hid hp2
    have HC2 := Lib.hid hc2
    have HQ2 := Lib.hid hq2
    have HO2 := Lib.hid hO2
    have HB2 := Lib.hid hB2
    clear hp2 hc2 hO2 hq2 hB2
    go_wp2_with fail
    refine (s_DistanceOfViews' _ _ rs.length vs.length _ _ q1 q2 a a2 _ ((HB1.out.ext hx2).sl HC1.out len_encR) (HO1.out.ext hx2).rings (by rw [HQ1.out]; exact hl) (HB2.out.sl HC2.out len_encV) HO2.out.views (by rw [HQ2.out]; exact hvl) HQ1.out.symm HQ2.out.symm).mono ?_
    rw [HP1.out, HP2.out]
    rintro e w3 ⟨rfl, hx3⟩
    have hX3 := ((hx0.trans hx1).trans hx2).trans hx3
    go_wp2_with fail
    refine (l_toPointSS _ _ rs _ (h.ext hX3).sl (h.ext hX3).rg hl HS.out).mono ?_
    rintro e w4 ⟨q4, cs4, rfl, hq4, hp4, hB4, hc4, hO4, hx4⟩
    have HP4 := Lib.hid hp4
    have HC4 := Lib.hid hc4
    have HQ4 := Lib.hid hq4
    have HO4 := Lib.hid hO4
    have HB4 := Lib.hid hB4
    clear hp4 hc4 hO4 hq4 hB4
    go_wp2_with fail
    refine (l_toViewS _ _ vs _ (h'.ext (hX3.trans hx4)).sl (fun i hi => ((h'.ext (hX3.trans hx4)).rg i hi).1) hvl HG.out).mono ?_
    rintro e w5 ⟨q5, cs5, rfl, hq5, hp5, hB5, hc5, hO5, hx5⟩
    have HP5 := Lib.hid hp5
    have HC5 := Lib.hid hc5
    have HQ5 := Lib.hid hq5
    have HO5 := Lib.hid hO5
    have HB5 := Lib.hid hB5
    clear hp5 hc5 hO5 hq5 hB5
    go_wp2_with fail
    refine (i_DistanceOfViews' _ _ rs.length vs.length _ _ q4 q5 a a2 _ ((HB4.out.ext hx5).sl HC4.out len_encR) (HO4.out.ext hx5).rings (by rw [HQ4.out]; exact hl) (by rw [HQ4.out]; exact Nat.le_refl _) (HB5.out.sl HC5.out len_encV) HO5.out.views (by rw [HQ5.out]; exact hvl) HQ4.out.symm HQ5.out.symm).mono ?_
    rw [HP4.out, HP5.out]
    rintro e w6 ⟨rfl, hx6⟩
    have hX6 := ((hX3.trans hx4).trans hx5).trans hx6
    generalize arR (psOf rs) (voOf vs) [a, a2] (fD (voOf vs) a.toNat a2.toNat) = q1r at *
    generalize viC (psOf rs) (voOf vs) [a, a2] = q2r at *
    have hvb : (q1r != q1r) = false := by simp
    have hvb2 : (q2r != q2r) = false := by simp
    go_wp2_with fail
    refine (l_toPointSS _ _ rs _ (h.ext hX6).sl (h.ext hX6).rg hl HS.out).mono ?_
    rintro e w7 ⟨q7, cs7, rfl, hq7, hp7, hB7, hc7, hO7, hx7⟩
    have HP7 := Lib.hid hp7
    have HC7 := Lib.hid hc7
    have HQ7 := Lib.hid hq7
    have HO7 := Lib.hid hO7
    have HB7 := Lib.hid hB7
    clear hp7 hc7 hO7 hq7 hB7
    go_wp2_with fail
    refine (l_eqSS _ _ _ _ _ q4 q7 _ (((HB4.out.ext hx5).ext hx6).ext hx7 |>.sl HC4.out len_encR) (HB7.out.sl HC7.out len_encR) (((HO4.out.ext hx5).ext hx6).ext hx7).rings HO7.out.rings (by rw [HP4.out, HP7.out]) HQ4.out.symm hl).mono ?_
    rintro e w8 ⟨rfl, hx8⟩
    go_wp2_with fail
    refine (l_toViewS _ _ vs _ (h'.ext ((hX6.trans hx7).trans hx8)).sl (fun i hi => ((h'.ext ((hX6.trans hx7).trans hx8)).rg i hi).1) hvl HG.out).mono ?_
    rintro e w9 ⟨q9, cs9, rfl, hq9, hp9, hB9, hc9, hO9, hx9⟩
    have HP9 := Lib.hid hp9
    have HC9 := Lib.hid hc9
    have HQ9 := Lib.hid hq9
    have HO9 := Lib.hid hO9
    have HB9 := Lib.hid hB9
    clear hp9 hc9 hO9 hq9 hB9
    go_wp2_with fail
    refine (l_eqViewS _ _ _ _ _ q5 q9 _ ((((HB5.out.ext hx6).ext hx7).ext hx8).ext hx9 |>.sl HC5.out len_encV) (HB9.out.sl HC9.out len_encV) ((((HO5.out.ext hx6).ext hx7).ext hx8).ext hx9).views HO9.out.views (by rw [HP5.out, HP9.out]) HQ5.out.symm hvl).mono ?_
    rintro e w10 ⟨rfl, hx10⟩
    go_wp2
    go_ret
    exact ⟨rfl, (((hX6.trans hx7).trans hx8).trans hx9).trans hx10⟩

end Go.Proofs.YtdbheipjbjcikaaGreatDoor
namespace Go.Proofs.YtdbheipjbjcikaaGreatDoor
open Go.RowKit
attribute [local go_sem] ExtOf.cell ExtOf.frozen

/-- ring k is disputed -/
def disB (V : List (List UInt8 × List (List UInt8))) (k : Nat) : Bool := (List.range V.length).any fun i => fD V i 0 k
/-- the disputed ones of the first n rings -/
def disTo (V : List (List UInt8 × List (List UInt8))) (n : Nat) : List Int := ((List.range n).filter fun i => disB V i).map fun i : Nat => (i : Int)
theorem disTo_succ (V : List (List UInt8 × List (List UInt8))) (k : Nat) : disTo V (k + 1) = if disB V k = true then disTo V k ++ [(k : Int)] else disTo V k := by
  unfold disTo
  rw [List.range_succ, List.filter_append, List.map_append]
  by_cases h : disB V k = true
  · rw [if_pos h]; simp [h]
  · rw [if_neg h]; simp [h]
theorem disTo_len (V : List (List UInt8 × List (List UInt8))) (k : Nat) : (disTo V k).length ≤ k := by
  unfold disTo
  rw [List.length_map]
  have := List.length_filter_le (fun i => disB V i) (List.range k)
  rwa [List.length_range] at this
theorem disTo_any {V : List (List UInt8 × List (List UInt8))} {k n : Nat} (h : k < n) : ((disTo V n).any fun z => ((k : Int) == z)) = disB V k := by
  rw [Bool.eq_iff_iff, List.any_eq_true]
  constructor
  · rintro ⟨z, hz, he⟩
    unfold disTo at hz
    obtain ⟨i, hi, rfl⟩ := List.mem_map.1 hz
    have e : k = i := by have := beq_iff_eq.1 he; omega
    rw [e]
    exact (List.mem_filter.1 hi).2
  · intro hd
    refine ⟨(k : Int), ?_, by simp⟩
    unfold disTo
    exact List.mem_map.2 ⟨k, List.mem_filter.2 ⟨List.mem_range.2 h, hd⟩, rfl⟩
theorem disB_vs {vs : List Vw} {k : Nat} (h0 : 0 < vs.length) : (vs.any fun v => !((tx (v.2.2.2.getD k [])).toList == (tx ((vs.getD 0 vwD).2.2.2.getD k [])).toList)) = disB (voOf vs) k := by
  unfold disB
  rw [Bool.eq_iff_iff, List.any_eq_true, List.any_eq_true, voOf_len]
  constructor
  · rintro ⟨v, hv, he⟩
    obtain ⟨i, hi, rfl⟩ := List.mem_iff_getElem.1 hv
    refine ⟨i, List.mem_range.2 hi, ?_⟩
    rw [fD_at hi h0]
    simpa [List.getD, hi] using he
  · rintro ⟨i, hi, he⟩
    have hi' := List.mem_range.1 hi
    rw [fD_at hi' h0] at he
    exact ⟨_, vw_mem hi', he⟩
theorem viB_pos {rs : List Rg} {vs : List Vw} (h : viB (psOf rs) (voOf vs) = true) : 0 < vs.length := by
  have h1 := (viB_map h).2.1
  rw [voOf_len] at h1
  simp [inB] at h1
  omega

set_option maxHeartbeats 1600000 in
theorem i_IndexI (A : Option Addr) (n c : Nat) (xs : List Int) (x : Int) (w : World) (h : SlAt w 1 encI A xs) (hn : n = xs.length) (hl : n ≤ 1048576) :
    Calls Tryz.prog 162 #[.slice A n c, .int .i64 x] w fun e w' => e = .returned (.int .i64 (fstG (fun z => x == z) xs)) ∧ Ext w w' := by
  have HN := Lib.hid hn
  clear hn
  go_enter Tryz.func162, Tryz.ntmps162
  go_wp2
  go_loopw [8] (fun i wr => ∃ k : Nat, k ≤ n ∧ i = .int .i64 k ∧ Hid (∀ j, j < k → (x == xs.getD j 0) = false) ∧ Ext w wr) (fun i _ => n - (intOf i).toNat)
  case atStart => exact ⟨0, by omega, rfl, fun j hj => absurd hj (by omega), by (repeat (first | with_reducible exact Ext.refl _ | with_reducible assumption | ((with_reducible apply Src.ext); with_reducible assumption) | with_reducible refine Ext.alloc ?_ _ | with_reducible refine Ext.drew ?_ | with_reducible refine Ext.drewN ?_ _ | ((with_reducible refine Ext.setCell' ?_ ?_ _); solve | omega | simp | (simp; omega)) | (with_reducible refine Ext.trans ?_ (by with_reducible assumption))))⟩
  case round =>
    obtain ⟨k, hk, rfl, HJ, hxr⟩ := hrel
    by_cases hlt : k < n
    · have hkr : k < xs.length := by rw [← HN.out]; exact hlt
      obtain ⟨b, off, rfl, hb, d0⟩ := (h.ext hxr).it hkr
      cases hq : (x == xs.getD k 0) with
      | true =>
        have HQ := Lib.hid hq
        generalize xs.getD k 0 = z at d0 hq
        go_wp2
        go_ret
        exact ⟨ret_int (fstG_hit (d := 0) (p := fun z => x == z) hkr HQ.out HJ.out), by (repeat (first | with_reducible exact Ext.refl _ | with_reducible assumption | ((with_reducible apply Src.ext); with_reducible assumption) | with_reducible refine Ext.alloc ?_ _ | with_reducible refine Ext.drew ?_ | with_reducible refine Ext.drewN ?_ _ | ((with_reducible refine Ext.setCell' ?_ ?_ _); solve | omega | simp | (simp; omega)) | (with_reducible refine Ext.trans ?_ (by with_reducible assumption))))⟩
      | false =>
        have HJ2 := Lib.hid (upTo_succ (P := fun j => (x == xs.getD j 0) = false) HJ.out hq)
        generalize xs.getD k 0 = z at d0 hq
        go_wp2
        go_roundw
        case rel => exact ⟨k + 1, by omega, by go_num, HJ2, by (repeat (first | with_reducible exact Ext.refl _ | with_reducible assumption | ((with_reducible apply Src.ext); with_reducible assumption) | with_reducible refine Ext.alloc ?_ _ | with_reducible refine Ext.drew ?_ | with_reducible refine Ext.drewN ?_ _ | ((with_reducible refine Ext.setCell' ?_ ?_ _); solve | omega | simp | (simp; omega)) | (with_reducible refine Ext.trans ?_ (by with_reducible assumption))))⟩
        case measure => simp [intOf]; omega
    · obtain rfl : k = n := by omega
      go_wp2
      go_ret
      exact ⟨ret_int (fstG_miss (d := 0) (p := fun z => x == z) (by rw [← HN.out]; exact HJ.out)), by (repeat (first | with_reducible exact Ext.refl _ | with_reducible assumption | ((with_reducible apply Src.ext); with_reducible assumption) | with_reducible refine Ext.alloc ?_ _ | with_reducible refine Ext.drew ?_ | with_reducible refine Ext.drewN ?_ _ | ((with_reducible refine Ext.setCell' ?_ ?_ _); solve | omega | simp | (simp; omega)) | (with_reducible refine Ext.trans ?_ (by with_reducible assumption))))⟩
theorem i_ContainsI (A : Option Addr) (n c : Nat) (xs : List Int) (x : Int) (w : World) (h : SlAt w 1 encI A xs) (hn : n = xs.length) (hl : n ≤ 1048576) :
    Calls Tryz.prog 105 #[.slice A n c, .int .i64 x] w fun e w' => e = .returned (.bool (xs.any fun z => x == z)) ∧ Ext w w' := by
  rw [← fstG_any]
  have HC := Lib.hid (i_IndexI A n c xs x w h hn hl)
  clear h hn
  go_enter Tryz.func105, Tryz.ntmps105
  go_wp2_with fail
  refine HC.out.mono ?_
  rintro e w' ⟨rfl, hx⟩
  go_wp2
  go_ret
  exact ⟨rfl, hx⟩

set_option maxHeartbeats 1600000 in
theorem i_disputed1 (A' : Option Addr) (c' : Nat) (vs : List Vw) (v : Vw) (k b5 b6 : Nat) (w : World) (h' : SlAt w 2 encV A' vs) (hv : Views w vs) (h0 : 0 < vs.length) (hm : v ∈ vs) (hk : k < v.2.2.2.length) (hk0 : k < (vs.getD 0 vwD).2.2.2.length)
    (h5 : w.cell? ⟨b5, 0, none⟩ = some (.slice A' vs.length c')) (h6 : w.cell? ⟨b6, 0, none⟩ = some (.int .i64 k)) :
    Calls Tryz.prog 161 #[.agg #[.string (tx v.1), .slice v.2.1 v.2.2.2.length v.2.2.1], .pointer (some ⟨b5, 0, none⟩), .pointer (some ⟨b6, 0, none⟩)] w fun e w' => e = .returned (.bool (!((tx (v.2.2.2.getD k [])).toList == (tx ((vs.getD 0 vwD).2.2.2.getD k [])).toList))) ∧ Ext w w' := by
  have e5 : b5 < w.heap.size := World.block_lt_of_cell? _ _ h5
  have e6 : b6 < w.heap.size := World.block_lt_of_cell? _ _ h6
  obtain ⟨b, off, rfl, hb, d0, d1⟩ := h'.vw h0
  rw [Nat.zero_mul, Nat.add_zero] at d0 d1
  have HC := Lib.hid (fun W hx => i_tells v (vs.getD 0 vwD) k W ((hv _ hm).1.ext hx) ((hv _ (vw_mem h0)).1.ext hx) hk hk0)
  generalize vs.getD 0 vwD = u at *
  generalize tx (v.2.2.2.getD k []) = t at *
  generalize tx (u.2.2.2.getD k []) = t2 at *
  clear hv h' hm hk hk0
  (have := (show b < w.heap.size + 1 from by omega))
  (have := (show b5 < w.heap.size + 1 from by omega))
  (have := (show b6 < w.heap.size + 1 from by omega))
  have q1 : ¬ b = w.heap.size := by omega
  have q2 : ¬ b5 = w.heap.size := by omega
  have q3 : ¬ b6 = w.heap.size := by omega
  go_enter Tryz.func161, Tryz.ntmps161
  go_wp2
  (refine wp_region_ext (by kernel_rfl) (by kernel_rfl) ?_; (repeat (go_big_quiet_step ((go_at_call 101; exact Calls_ext (HC.out _ (Ext.trans (by (repeat (first | with_reducible exact Ext.refl _ | with_reducible assumption | ((with_reducible apply Src.ext); with_reducible assumption) | with_reducible refine Ext.alloc ?_ _ | with_reducible refine Ext.drew ?_ | with_reducible refine Ext.drewN ?_ _ | ((with_reducible refine Ext.setCell' ?_ ?_ _); solve | omega | simp | (simp; omega)) | (with_reducible refine Ext.trans ?_ (by with_reducible assumption))))) (ExtOf.ext _))))))); refine wpQuiet_nil ?_; intro wq hxwq; obtain ⟨hcwq, hfwq⟩ := hxwq.rules; have hswq := hxwq.size; (try simp at hswq))
  go_wp2
  go_ret
  exact ⟨rfl, by (repeat (first | with_reducible exact Ext.refl _ | with_reducible assumption | ((with_reducible apply Src.ext); with_reducible assumption) | with_reducible refine Ext.alloc ?_ _ | with_reducible refine Ext.drew ?_ | with_reducible refine Ext.drewN ?_ _ | ((with_reducible refine Ext.setCell' ?_ ?_ _); solve | omega | simp | (simp; omega)) | (with_reducible refine Ext.trans ?_ (by with_reducible assumption))))⟩
theorem en_disputed1 (args : Array Value) (w : World) : (callFunc 161 args).run Tryz.prog w = .ok (.enter 161 args) w := enters_isSome Tryz.func161 (by kernel_rfl) (by kernel_rfl) args w
theorem i_DisputedArea1 (A : Option Addr) (n c : Nat) (xs : List Int) (k : Nat) (b5 : Nat) (w : World) (h : SlAt w 1 encI A xs) (hn : n = xs.length) (hl : n ≤ 1048576) (h5 : w.cell? ⟨b5, 0, none⟩ = some (.slice A n c)) :
    Calls Tryz.prog 104 #[.int .i64 k, .pointer (some ⟨b5, 0, none⟩)] w fun e w' => e = .returned (.bool (xs.any fun z => ((k : Int) == z))) ∧ Ext w w' := by
  have HC := Lib.hid (i_ContainsI A n c xs k w h hn hl)
  clear h hn
  go_enter Tryz.func104, Tryz.ntmps104
  go_wp2_with fail
  refine HC.out.mono ?_
  rintro e w' ⟨rfl, hx⟩
  go_wp2
  go_ret
  exact ⟨rfl, hx⟩
theorem en_DisputedArea1 (args : Array Value) (w : World) : (callFunc 104 args).run Tryz.prog w = .ok (.enter 104 args) w := enters_isSome Tryz.func104 (by kernel_rfl) (by kernel_rfl) args w

set_option maxRecDepth 20000 in
set_option maxHeartbeats 6400000 in
theorem i_disputed (A A' : Option Addr) (c c' : Nat) (rs : List Rg) (vs : List Vw) (w : World) (h' : SlAt w 2 encV A' vs) (hv : Views w vs) (hl' : vs.length ≤ 1048576) (hn : rs.length ≤ 6) (h0 : 0 < vs.length) (hlen : ∀ k, k < vs.length → (vs.getD k vwD).2.2.2.length = rs.length) :
    Calls Tryz.prog 103 #[.slice A rs.length c, .slice A' vs.length c'] w fun e w' => ∃ v, e = .returned v ∧ OwI w' w.heap.size v (disTo (voOf vs) rs.length) ∧ Ext w w' := by
  have hgl : ∀ v ∈ vs, v.2.2.2.length = rs.length := fun v hm => by
    obtain ⟨i, hi, rfl⟩ := List.mem_iff_getElem.1 hm
    have := hlen i hi
    simpa [List.getD, hi] using this
  have HC : Hid (∀ k : Nat, k < rs.length → ∀ b6 W, Ext w W → W.cell? ⟨w.heap.size, 0, none⟩ = some (.slice A' vs.length c') → W.cell? ⟨b6, 0, none⟩ = some (.int .i64 k) →
      Calls Tryz.prog 160 #[.slice A' vs.length c', .func (.func 161) #[] #[.pointer (some ⟨w.heap.size, 0, none⟩), .pointer (some ⟨b6, 0, none⟩)]] W fun e w' => e = .returned (.bool (disB (voOf vs) k)) ∧ Ext W w') := Lib.hid fun k hk b6 W hx c5 c6 => by
    rw [← disB_vs h0]
    exact i_ContainsFuncV _ _ _ en_disputed1 A' vs.length c' vs W (h'.ext hx) rfl hl' fun v hm W' hx' =>
      i_disputed1 A' c' vs v k w.heap.size b6 W' (h'.ext (hx.trans hx')) (hv.ext (hx.trans hx')) h0 hm (by rw [hgl v hm]; exact hk) (by rw [hlen 0 h0]; exact hk) ((hx'.cell _ _ (World.block_lt_of_cell? _ _ c5)).trans c5) ((hx'.cell _ _ (World.block_lt_of_cell? _ _ c6)).trans c6)
  clear hlen hgl h' hv
  go_enter Tryz.func103, Tryz.ntmps103
  go_wp2
  go_loopw [5, 9] (fun v i wr => ∃ k : Nat, k ≤ rs.length ∧ i = .int .i64 k ∧ Hid (OwI wr (w.heap.size + 1) v (disTo (voOf vs) k)) ∧ Blk wr w.heap.size 49 #[.slice A' vs.length c'] ∧ Ext w wr) (fun _ i _ => rs.length - (intOf i).toNat)
  case atStart => exact ⟨0, by omega, rfl, Lib.hid (Own.nil _ _), Blk.eq (by (repeat (first | with_reducible assumption | ((with_reducible apply Blk.new); solve | simp | rfl) | with_reducible apply Blk.drew | with_reducible apply Blk.drewN | ((with_reducible apply Blk.far'); solve | omega | simp | (simp; omega)) | with_reducible apply Blk.set_ | with_reducible apply Blk.alloc | ((with_reducible apply Blk.ext'); with_reducible assumption) | ((with_reducible apply Blk.but'); (with_reducible assumption); solve | omega | (simp; omega))))) (by rfl), by (repeat (first | with_reducible exact Ext.refl _ | with_reducible assumption | ((with_reducible apply Src.ext); with_reducible assumption) | with_reducible refine Ext.alloc ?_ _ | with_reducible refine Ext.drew ?_ | with_reducible refine Ext.drewN ?_ _ | ((with_reducible refine Ext.setCell' ?_ ?_ _); solve | omega | simp | (simp; omega)) | (with_reducible refine Ext.trans ?_ (by with_reducible assumption))))⟩
  case round =>
    obtain ⟨k, hk, rfl, HV, hB, hxr⟩ := hrel
    have hcl := disTo_len (voOf vs) k
    by_cases hlt : k < rs.length
    · have hBl := hB.lt
      have e0 : wr.cell? ⟨w.heap.size, 0, none⟩ = some (.slice A' vs.length c') := hB.cell 0
      have hsu := disTo_succ (voOf vs) k
      have hcall := HC.out k hlt
      have q1 : ¬ w.heap.size = wr.heap.size := by omega
      have q2 : ¬ wr.heap.size = w.heap.size := by omega
      cases hq : disB (voOf vs) k with
      | true =>
        rw [hq] at hcall hsu
        have HK := Lib.hid hcall
        have HS := Lib.hid hsu
        clear hcall hsu hq
        go_wp2_with fail
        refine (HK.out _ _ (by (repeat (first | with_reducible exact Ext.refl _ | with_reducible assumption | ((with_reducible apply Src.ext); with_reducible assumption) | with_reducible refine Ext.alloc ?_ _ | with_reducible refine Ext.drew ?_ | with_reducible refine Ext.drewN ?_ _ | ((with_reducible refine Ext.setCell' ?_ ?_ _); solve | omega | simp | (simp; omega)) | (with_reducible refine Ext.trans ?_ (by with_reducible assumption))))) (by simp [go_sem, *]) (by simp [go_sem])).mono ?_
        rintro e w1 ⟨rfl, hx1⟩
        obtain ⟨hc1, hf1⟩ := hx1.rules
        have hs1 := hx1.size
        (try simp at hs1)
        have := (show wr.heap.size < w1.heap.size from by omega)
        have := (show w.heap.size < w1.heap.size from by omega)
        go_wp2_with (at_builtin; refine wpList_append_sl elI len_encI one_encI rfl _ _ rfl rfl (HV.out.ext (by (repeat (first | with_reducible exact Ext.refl _ | with_reducible assumption | ((with_reducible apply Src.ext); with_reducible assumption) | with_reducible refine Ext.alloc ?_ _ | with_reducible refine Ext.drew ?_ | with_reducible refine Ext.drewN ?_ _ | ((with_reducible refine Ext.setCell' ?_ ?_ _); solve | omega | simp | (simp; omega)) | (with_reducible refine Ext.trans ?_ (by with_reducible assumption)))))) (xs := [(k : Int)]) rfl (blk_i1 (by (repeat (first | with_reducible assumption | ((with_reducible apply Blk.new); solve | simp | rfl) | with_reducible apply Blk.drew | with_reducible apply Blk.drewN | ((with_reducible apply Blk.far'); solve | omega | simp | (simp; omega)) | with_reducible apply Blk.set_ | with_reducible apply Blk.alloc | ((with_reducible apply Blk.ext'); with_reducible assumption) | ((with_reducible apply Blk.but'); (with_reducible assumption); solve | omega | (simp; omega)))))) (by simp; unfold maxLen; omega) (by simp; omega) (by first | omega | (simp; omega)) ?_)
        intro v' w5 hown hgrow hcell
        rw [show disTo (voOf vs) k ++ [(k : Int)] = disTo (voOf vs) (k + 1) by rw [HS.out]; simp] at hown
        have HV2 := Lib.hid hown
        have hx5 : Ext w w5 := by
          refine Ext.grown ?_ hgrow (fun q hq => by have := (HV.out.row q hq).1; omega)
          (repeat (first | with_reducible exact Ext.refl _ | with_reducible assumption | ((with_reducible apply Src.ext); with_reducible assumption) | with_reducible refine Ext.alloc ?_ _ | with_reducible refine Ext.drew ?_ | with_reducible refine Ext.drewN ?_ _ | ((with_reducible refine Ext.setCell' ?_ ?_ _); solve | omega | simp | (simp; omega)) | (with_reducible refine Ext.trans ?_ (by with_reducible assumption))))
        have hB5 : Blk w5 w.heap.size 49 #[.slice A' vs.length c'] := by
          refine (hgrow.block _ (by simp; omega) (fun e => ?_)).trans (show Blk _ w.heap.size 49 #[.slice A' vs.length c'] by (repeat (first | with_reducible assumption | ((with_reducible apply Blk.new); solve | simp | rfl) | with_reducible apply Blk.drew | with_reducible apply Blk.drewN | ((with_reducible apply Blk.far'); solve | omega | simp | (simp; omega)) | with_reducible apply Blk.set_ | with_reducible apply Blk.alloc | ((with_reducible apply Blk.ext'); with_reducible assumption) | ((with_reducible apply Blk.but'); (with_reducible assumption); solve | omega | (simp; omega)))))
          have := (HV.out.row _ e.symm).1
          omega
        clear hown hgrow hcell
        go_wp2
        go_roundw
        case rel => exact ⟨k + 1, by omega, by go_num, HV2, hB5, hx5⟩
        case measure => simp [intOf]; omega
      | false =>
        rw [hq] at hcall hsu
        have HK := Lib.hid hcall
        have HS := Lib.hid hsu
        clear hcall hsu hq
        go_wp2_with fail
        refine (HK.out _ _ (by (repeat (first | with_reducible exact Ext.refl _ | with_reducible assumption | ((with_reducible apply Src.ext); with_reducible assumption) | with_reducible refine Ext.alloc ?_ _ | with_reducible refine Ext.drew ?_ | with_reducible refine Ext.drewN ?_ _ | ((with_reducible refine Ext.setCell' ?_ ?_ _); solve | omega | simp | (simp; omega)) | (with_reducible refine Ext.trans ?_ (by with_reducible assumption))))) (by simp [go_sem, *]) (by simp [go_sem])).mono ?_
        rintro e w1 ⟨rfl, hx1⟩
        go_wp2
        go_roundw
        case rel => exact ⟨k + 1, by omega, by go_num, by rw [HS.out]; exact Lib.hid (HV.out.ext (by (repeat (first | with_reducible exact Ext.refl _ | with_reducible assumption | ((with_reducible apply Src.ext); with_reducible assumption) | with_reducible refine Ext.alloc ?_ _ | with_reducible refine Ext.drew ?_ | with_reducible refine Ext.drewN ?_ _ | ((with_reducible refine Ext.setCell' ?_ ?_ _); solve | omega | simp | (simp; omega)) | (with_reducible refine Ext.trans ?_ (by with_reducible assumption)))))), by (repeat (first | with_reducible assumption | ((with_reducible apply Blk.new); solve | simp | rfl) | with_reducible apply Blk.drew | with_reducible apply Blk.drewN | ((with_reducible apply Blk.far'); solve | omega | simp | (simp; omega)) | with_reducible apply Blk.set_ | with_reducible apply Blk.alloc | ((with_reducible apply Blk.ext'); with_reducible assumption) | ((with_reducible apply Blk.but'); (with_reducible assumption); solve | omega | (simp; omega)))), by (repeat (first | with_reducible exact Ext.refl _ | with_reducible assumption | ((with_reducible apply Src.ext); with_reducible assumption) | with_reducible refine Ext.alloc ?_ _ | with_reducible refine Ext.drew ?_ | with_reducible refine Ext.drewN ?_ _ | ((with_reducible refine Ext.setCell' ?_ ?_ _); solve | omega | simp | (simp; omega)) | (with_reducible refine Ext.trans ?_ (by with_reducible assumption))))⟩
        case measure => simp [intOf]; omega
    · obtain rfl : k = rs.length := by omega
      go_wp2
      go_ret
      exact ⟨_, rfl, HV.out.less (by omega), hxr⟩

set_option maxRecDepth 20000 in
set_option maxHeartbeats 6400000 in
theorem i_DisputedArea (A A' : Option Addr) (c c' : Nat) (rs : List Rg) (vs : List Vw) (w : World) (h : SlAt w 1 encR A rs) (hr : Rings w rs) (hl : rs.length ≤ 1048576) (hc : rs.length ≤ c) (h' : SlAt w 2 encV A' vs) (hv : Views w vs) (hl' : vs.length ≤ 1048576) :
    Calls Tryz.prog 42 #[.slice A rs.length c, .slice A' vs.length c'] w fun e w' => e = .returned (.tuple #[.int .i64 (arR (psOf rs) (voOf vs) [] (disB (voOf vs))), .int .i64 (viC (psOf rs) (voOf vs) [])]) ∧ Ext w w' := by
  have hcall := i_viewCode A A' none c c' 0 0 rs vs [] w h hr hl hc h' hv hl' SlAt.nil rfl (by omega)
  by_cases hcd : viC (psOf rs) (voOf vs) [] = 0
  · rw [show arR (psOf rs) (voOf vs) [] (disB (voOf vs)) = arI (psOf rs) (disB (voOf vs)) rs.length by unfold arR; rw [if_pos hcd, psOf_len], hcd]
    rw [hcd] at hcall
    obtain ⟨hvb, _⟩ := viC_zero hcd
    have HC := Lib.hid hcall
    have hm := (viB_map hvb).1
    have h6 := hm.1
    rw [psOf_len] at h6
    have HM := Lib.hid hm
    have HD := Lib.hid (fun W hx => i_disputed A A' c c' rs vs W (h'.ext hx) (hv.ext hx) hl' h6 (viB_pos hvb) (fun k hk => viB_len hvb hk))
    have hdl := disTo_len (voOf vs) rs.length
    clear hcall hcd hvb hm h' hv
    go_enter Tryz.func42, Tryz.ntmps42
    go_wp2_with fail
    refine HC.out.mono ?_
    rintro e w1 ⟨rfl, hx1⟩
    go_wp2_with fail
    refine (HD.out _ (by (repeat (first | with_reducible exact Ext.refl _ | with_reducible assumption | ((with_reducible apply Src.ext); with_reducible assumption) | with_reducible refine Ext.alloc ?_ _ | with_reducible refine Ext.drew ?_ | with_reducible refine Ext.drewN ?_ _ | ((with_reducible refine Ext.setCell' ?_ ?_ _); solve | omega | simp | (simp; omega)) | (with_reducible refine Ext.trans ?_ (by with_reducible assumption)))))).mono ?_
    rintro e w2 ⟨v2, rfl, hO2, hx2⟩
    obtain ⟨A2, c2, rfl, hS2, _, _, _⟩ := hO2.sl len_encI
    have HS2 := Lib.hid hS2
    obtain ⟨n2, hn2⟩ : ∃ n, n = (disTo (voOf vs) rs.length).length := ⟨_, rfl⟩
    rw [← hn2]
    rw [← hn2] at hdl
    have HN2 := Lib.hid hn2
    clear hO2 hS2 hn2
    have HCL : Hid (∀ W0, Ext w2 W0 → Blk W0 w2.heap.size 114 #[.slice A2 n2 c2] → ∀ k : Nat, k < rs.length → ∀ W, Ext W0 W → Calls Tryz.prog 104 (#[.int .i64 k] ++ #[.pointer (some ⟨w2.heap.size, 0, none⟩)]) W fun e w' => e = .returned (.bool (disB (voOf vs) k)) ∧ Ext W w') := Lib.hid fun W0 hX B5 k hk W hx => by
      rw [← disTo_any hk]
      exact i_DisputedArea1 A2 n2 c2 _ k w2.heap.size W ((HS2.out.ext hX).ext hx) HN2.out (by omega) ((hx.cell _ _ B5.lt).trans (B5.cell 0))
    go_wp2_with fail
    refine (i_areaOf _ _ rs (disB (voOf vs)) _ _ en_DisputedArea1 _ (h.ext (by (repeat (first | with_reducible exact Ext.refl _ | with_reducible assumption | ((with_reducible apply Src.ext); with_reducible assumption) | with_reducible refine Ext.alloc ?_ _ | with_reducible refine Ext.drew ?_ | with_reducible refine Ext.drewN ?_ _ | ((with_reducible refine Ext.setCell' ?_ ?_ _); solve | omega | simp | (simp; omega)) | (with_reducible refine Ext.trans ?_ (by with_reducible assumption)))))) (hr.ext (by (repeat (first | with_reducible exact Ext.refl _ | with_reducible assumption | ((with_reducible apply Src.ext); with_reducible assumption) | with_reducible refine Ext.alloc ?_ _ | with_reducible refine Ext.drew ?_ | with_reducible refine Ext.drewN ?_ _ | ((with_reducible refine Ext.setCell' ?_ ?_ _); solve | omega | simp | (simp; omega)) | (with_reducible refine Ext.trans ?_ (by with_reducible assumption)))))) HM.out (HCL.out _ (by (repeat (first | with_reducible exact Ext.refl _ | with_reducible assumption | ((with_reducible apply Src.ext); with_reducible assumption) | with_reducible refine Ext.alloc ?_ _ | with_reducible refine Ext.drew ?_ | with_reducible refine Ext.drewN ?_ _ | ((with_reducible refine Ext.setCell' ?_ ?_ _); solve | omega | simp | (simp; omega)) | (with_reducible refine Ext.trans ?_ (by with_reducible assumption))))) (Blk.eq (by (repeat (first | with_reducible assumption | ((with_reducible apply Blk.new); solve | simp | rfl) | with_reducible apply Blk.drew | with_reducible apply Blk.drewN | ((with_reducible apply Blk.far'); solve | omega | simp | (simp; omega)) | with_reducible apply Blk.set_ | with_reducible apply Blk.alloc | ((with_reducible apply Blk.ext'); with_reducible assumption) | ((with_reducible apply Blk.but'); (with_reducible assumption); solve | omega | (simp; omega))))) (by rfl)))).mono ?_
    rintro e w3 ⟨rfl, hx3⟩
    go_wp2
    go_ret2
    exact ⟨rfl, by (repeat (first | with_reducible exact Ext.refl _ | with_reducible assumption | ((with_reducible apply Src.ext); with_reducible assumption) | with_reducible refine Ext.alloc ?_ _ | with_reducible refine Ext.drew ?_ | with_reducible refine Ext.drewN ?_ _ | ((with_reducible refine Ext.setCell' ?_ ?_ _); solve | omega | simp | (simp; omega)) | (with_reducible refine Ext.trans ?_ (by with_reducible assumption))))⟩
  · rw [show arR (psOf rs) (voOf vs) [] (disB (voOf vs)) = 0 by unfold arR; rw [if_neg hcd]]
    have HC := Lib.hid hcall
    generalize viC (psOf rs) (voOf vs) [] = q at *
    have hne : (q != 0) = true := by simpa using hcd
    clear hcd h hr h' hv hcall
    go_enter Tryz.func42, Tryz.ntmps42
    go_wp2_with fail
    refine HC.out.mono ?_
    rintro e w1 ⟨rfl, hx1⟩
    go_wp2
    go_ret2
    exact ⟨rfl, by (repeat (first | with_reducible exact Ext.refl _ | with_reducible assumption | ((with_reducible apply Src.ext); with_reducible assumption) | with_reducible refine Ext.alloc ?_ _ | with_reducible refine Ext.drew ?_ | with_reducible refine Ext.drewN ?_ _ | ((with_reducible refine Ext.setCell' ?_ ?_ _); solve | omega | simp | (simp; omega)) | (with_reducible refine Ext.trans ?_ (by with_reducible assumption))))⟩
set_option maxRecDepth 20000 in
set_option maxHeartbeats 3200000 in
theorem s_l18Disputed (A' : Option Addr) (c' k : Nat) (vs : List Vw) (w : World) (h' : SlAt w 2 encV A' vs) (hv : Views w vs) (hl' : vs.length ≤ 1048576) (hlen : ∀ i, i < vs.length → k < (vs.getD i vwD).2.2.2.length) :
    Calls Tryz.prog 102 #[.slice A' vs.length c', .int .i64 k] w fun e w' => e = .returned (.bool (disB (voOf vs) k)) ∧ Ext w w' := by
  have HL := Lib.hid hlen
  clear hlen
  go_enter Tryz.func102, Tryz.ntmps102
  go_wp2
  go_loopw [5] (fun i wr => ∃ j : Nat, j ≤ vs.length ∧ i = .int .i64 j ∧ Hid (∀ q, q < j → fD (voOf vs) q 0 k = false) ∧ Ext w wr) (fun i _ => vs.length - (intOf i).toNat)
  case atStart => exact ⟨0, by omega, rfl, fun q hq => absurd hq (by omega), by (repeat (first | with_reducible exact Ext.refl _ | with_reducible assumption | ((with_reducible apply Src.ext); with_reducible assumption) | with_reducible refine Ext.alloc ?_ _ | with_reducible refine Ext.drew ?_ | with_reducible refine Ext.drewN ?_ _ | ((with_reducible refine Ext.setCell' ?_ ?_ _); solve | omega | simp | (simp; omega)) | (with_reducible refine Ext.trans ?_ (by with_reducible assumption))))⟩
  case round =>
    obtain ⟨j, hj, rfl, HJ, hxr⟩ := hrel
    by_cases hlt : j < vs.length
    · have h0 : 0 < vs.length := by omega
      have hkj := HL.out j hlt
      have hk0 := HL.out 0 h0
      obtain ⟨b, off, rfl, hb, d0, d1⟩ := (h'.ext hxr).vw hlt
      obtain ⟨g0, g1⟩ := (h'.ext hxr).vw' h0
      rw [Nat.zero_mul, Nat.add_zero] at g0 g1
      obtain ⟨b2, off2, hA2, hb2, f0⟩ := ((hv.ext hxr) _ (vw_mem hlt)).1.st hkj
      obtain ⟨b3, off3, hA3, hb3, f1⟩ := ((hv.ext hxr) _ (vw_mem h0)).1.st hk0
      rw [hA2] at d1
      rw [hA3] at g1
      have hat := fD_at (k := k) hlt h0
      have HAT := Lib.hid hat
      generalize tx ((vs.getD j vwD).2.2.2.getD k []) = t at *
      generalize tx ((vs.getD 0 vwD).2.2.2.getD k []) = t2 at *
      generalize vs.getD j vwD = v at *
      generalize vs.getD 0 vwD = u at *
      clear hA2 hA3 hat
      cases hq : (t.toList == t2.toList) with
      | true =>
        have HJ2 := Lib.hid (upTo_succ HJ.out (show fD (voOf vs) j 0 k = false by rw [HAT.out, hq]; rfl))
        go_wp2
        (refine wp_region_ext (by kernel_rfl) (by kernel_rfl) ?_; (repeat (go_big_quiet_step (fail))); refine wpQuiet_nil ?_; intro wq hxwq; obtain ⟨hcwq, hfwq⟩ := hxwq.rules; have hswq := hxwq.size; (try simp at hswq))
        go_wp2
        go_roundw
        case rel => exact ⟨j + 1, by omega, by go_num, HJ2, by (repeat (first | with_reducible exact Ext.refl _ | with_reducible assumption | ((with_reducible apply Src.ext); with_reducible assumption) | with_reducible refine Ext.alloc ?_ _ | with_reducible refine Ext.drew ?_ | with_reducible refine Ext.drewN ?_ _ | ((with_reducible refine Ext.setCell' ?_ ?_ _); solve | omega | simp | (simp; omega)) | (with_reducible refine Ext.trans ?_ (by with_reducible assumption))))⟩
        case measure => simp [intOf]; omega
      | false =>
        have HYES : Hid (disB (voOf vs) k = true) := Lib.hid (by
          unfold disB
          rw [List.any_eq_true]
          exact ⟨j, List.mem_range.2 (by rw [voOf_len]; exact hlt), by rw [HAT.out, hq]; rfl⟩)
        go_wp2
        (refine wp_region_ext (by kernel_rfl) (by kernel_rfl) ?_; (repeat (go_big_quiet_step (fail))); refine wpQuiet_nil ?_; intro wq hxwq; obtain ⟨hcwq, hfwq⟩ := hxwq.rules; have hswq := hxwq.size; (try simp at hswq))
        go_wp2
        go_ret
        exact ⟨ret_bool HYES.out.symm, by (repeat (first | with_reducible exact Ext.refl _ | with_reducible assumption | ((with_reducible apply Src.ext); with_reducible assumption) | with_reducible refine Ext.alloc ?_ _ | with_reducible refine Ext.drew ?_ | with_reducible refine Ext.drewN ?_ _ | ((with_reducible refine Ext.setCell' ?_ ?_ _); solve | omega | simp | (simp; omega)) | (with_reducible refine Ext.trans ?_ (by with_reducible assumption))))⟩
    · obtain rfl : j = vs.length := by omega
      have HNO : Hid (disB (voOf vs) k = false) := Lib.hid (by
        unfold disB
        rw [List.any_eq_false]
        intro q hq
        rw [List.mem_range, voOf_len] at hq
        rw [HJ.out q hq]
        simp)
      go_wp2
      go_ret
      exact ⟨ret_bool HNO.out.symm, by (repeat (first | with_reducible exact Ext.refl _ | with_reducible assumption | ((with_reducible apply Src.ext); with_reducible assumption) | with_reducible refine Ext.alloc ?_ _ | with_reducible refine Ext.drew ?_ | with_reducible refine Ext.drewN ?_ _ | ((with_reducible refine Ext.setCell' ?_ ?_ _); solve | omega | simp | (simp; omega)) | (with_reducible refine Ext.trans ?_ (by with_reducible assumption))))⟩
set_option maxRecDepth 20000 in
set_option maxHeartbeats 6400000 in
theorem s_DisputedArea (A A' : Option Addr) (c c' : Nat) (rs : List Rg) (vs : List Vw) (w : World) (h : SlAt w 1 encR A rs) (hr : Rings w rs) (hl : rs.length ≤ 1048576) (h' : SlAt w 2 encV A' vs) (hv : Views w vs) (hl' : vs.length ≤ 1048576) :
    Calls Tryz.prog 41 #[.slice A rs.length c, .slice A' vs.length c'] w fun e w' => e = .returned (.tuple #[.int .i64 (arR (psOf rs) (voOf vs) [] (disB (voOf vs))), .int .i64 (viC (psOf rs) (voOf vs) [])]) ∧ Ext w w' := by
  have hcall := s_AreViews A A' c c' rs vs w h hr hl h' hv hl'
  cases hvb : viB (psOf rs) (voOf vs) with
  | true =>
    have hcd : viC (psOf rs) (voOf vs) [] = 0 := viC_in hvb rfl
    rw [show arR (psOf rs) (voOf vs) [] (disB (voOf vs)) = arI (psOf rs) (disB (voOf vs)) rs.length by unfold arR; rw [if_pos hcd, psOf_len], hcd]
    rw [hvb] at hcall
    have HC := Lib.hid hcall
    have HM := Lib.hid (viB_map hvb).1
    have HD : Hid (∀ k : Nat, k < rs.length → ∀ W, Ext w W → Calls Tryz.prog 102 #[.slice A' vs.length c', .int .i64 k] W fun e w' => e = .returned (.bool (disB (voOf vs) k)) ∧ Ext W w') := Lib.hid fun k hk W hx => s_l18Disputed A' c' k vs W (h'.ext hx) (hv.ext hx) hl' (fun i hi => by rw [viB_len hvb hi]; exact hk)
    clear hcall hcd hvb h' hv
    go_enter Tryz.func41, Tryz.ntmps41
    go_wp2_with fail
    refine HC.out.mono ?_
    rintro e w1 ⟨rfl, hx1⟩
    go_wp2
    go_loopw [6, 7] (fun s i wr => ∃ k : Nat, k ≤ rs.length ∧ i = .int .i64 k ∧ s = .int .i64 (arI (psOf rs) (disB (voOf vs)) k) ∧ Ext w wr) (fun _ i _ => rs.length - (intOf i).toNat)
    case atStart => exact ⟨0, by omega, rfl, rfl, by (repeat (first | with_reducible exact Ext.refl _ | with_reducible assumption | ((with_reducible apply Src.ext); with_reducible assumption) | with_reducible refine Ext.alloc ?_ _ | with_reducible refine Ext.drew ?_ | with_reducible refine Ext.drewN ?_ _ | ((with_reducible refine Ext.setCell' ?_ ?_ _); solve | omega | simp | (simp; omega)) | (with_reducible refine Ext.trans ?_ (by with_reducible assumption))))⟩
    case round =>
      obtain ⟨k, hk, rfl, rfl, hxr⟩ := hrel
      have hsb := arI_bd HM.out (disB (voOf vs)) k (by rw [psOf_len]; exact hk)
      have h6 := HM.out.1
      rw [psOf_len] at h6
      by_cases hlt : k < rs.length
      · obtain ⟨b, off, rfl, hb, hcell⟩ := (h.ext hxr).rg hlt
        have hrk := hr _ (rg_mem hlt)
        have hring := HM.out.2.1 k (by rw [psOf_len]; exact hlt)
        rw [psOf_at hlt] at hring
        have hsu := arI_succ (psOf rs) (disB (voOf vs)) k
        rw [psOf_at hlt] at hsu
        have hcall := HD.out k hlt
        obtain ⟨r, hre⟩ : ∃ r, r = rs.getD k rgD := ⟨_, rfl⟩
        rw [← hre] at hcell hrk hring hsu
        clear hre
        have hbd := areaA_bd hring
        have HR := Lib.hid hring
        have HK := Lib.hid hrk
        clear hring hrk
        cases hq : disB (voOf vs) k with
        | false =>
          rw [hq] at hcall hsu
          have HS := Lib.hid hsu
          have HD2 := Lib.hid hcall
          clear hcall hsu hq
          go_wp2_with fail
          refine (HD2.out _ (by (repeat (first | with_reducible exact Ext.refl _ | with_reducible assumption | ((with_reducible apply Src.ext); with_reducible assumption) | with_reducible refine Ext.alloc ?_ _ | with_reducible refine Ext.drew ?_ | with_reducible refine Ext.drewN ?_ _ | ((with_reducible refine Ext.setCell' ?_ ?_ _); solve | omega | simp | (simp; omega)) | (with_reducible refine Ext.trans ?_ (by with_reducible assumption)))))).mono ?_
          rintro e w2 ⟨rfl, hx2⟩
          go_wp2
          go_roundw
          case rel => exact ⟨k + 1, by omega, by go_num, by rw [HS.out]; simp, by (repeat (first | with_reducible exact Ext.refl _ | with_reducible assumption | ((with_reducible apply Src.ext); with_reducible assumption) | with_reducible refine Ext.alloc ?_ _ | with_reducible refine Ext.drew ?_ | with_reducible refine Ext.drewN ?_ _ | ((with_reducible refine Ext.setCell' ?_ ?_ _); solve | omega | simp | (simp; omega)) | (with_reducible refine Ext.trans ?_ (by with_reducible assumption))))⟩
          case measure => simp [intOf]; omega
        | true =>
          rw [hq] at hcall hsu
          have HS := Lib.hid hsu
          have HD2 := Lib.hid hcall
          clear hcall hsu hq
          (go_wp2_with fail; refine (HD2.out _ (by (repeat (first | with_reducible exact Ext.refl _ | with_reducible assumption | ((with_reducible apply Src.ext); with_reducible assumption) | with_reducible refine Ext.alloc ?_ _ | with_reducible refine Ext.drew ?_ | with_reducible refine Ext.drewN ?_ _ | ((with_reducible refine Ext.setCell' ?_ ?_ _); solve | omega | simp | (simp; omega)) | (with_reducible refine Ext.trans ?_ (by with_reducible assumption)))))).mono ?_; rintro e w2 ⟨rfl, hx2⟩; obtain ⟨hc2, hf2⟩ := hx2.rules; have hs2 := hx2.size; (try simp at hs2); have := (show b < w2.heap.size from by omega))
          (go_wp2_with fail; refine (s_l18Area _ _ r.2.2 _ (HK.out.1.ext (by (repeat (first | with_reducible exact Ext.refl _ | with_reducible assumption | ((with_reducible apply Src.ext); with_reducible assumption) | with_reducible refine Ext.alloc ?_ _ | with_reducible refine Ext.drew ?_ | with_reducible refine Ext.drewN ?_ _ | ((with_reducible refine Ext.setCell' ?_ ?_ _); solve | omega | simp | (simp; omega)) | (with_reducible refine Ext.trans ?_ (by with_reducible assumption)))))) HR.out).mono ?_; rintro e w3 ⟨rfl, hx3⟩; obtain ⟨hc3, hf3⟩ := hx3.rules; have hs3 := hx3.size; (try simp at hs3))
          go_wp2
          go_roundw
          case rel => exact ⟨k + 1, by omega, by go_num, by rw [HS.out]; simp, by (repeat (first | with_reducible exact Ext.refl _ | with_reducible assumption | ((with_reducible apply Src.ext); with_reducible assumption) | with_reducible refine Ext.alloc ?_ _ | with_reducible refine Ext.drew ?_ | with_reducible refine Ext.drewN ?_ _ | ((with_reducible refine Ext.setCell' ?_ ?_ _); solve | omega | simp | (simp; omega)) | (with_reducible refine Ext.trans ?_ (by with_reducible assumption))))⟩
          case measure => simp [intOf]; omega
      · obtain rfl : k = rs.length := by omega
        go_wp2
        go_ret2
        exact ⟨rfl, by (repeat (first | with_reducible exact Ext.refl _ | with_reducible assumption | ((with_reducible apply Src.ext); with_reducible assumption) | with_reducible refine Ext.alloc ?_ _ | with_reducible refine Ext.drew ?_ | with_reducible refine Ext.drewN ?_ _ | ((with_reducible refine Ext.setCell' ?_ ?_ _); solve | omega | simp | (simp; omega)) | (with_reducible refine Ext.trans ?_ (by with_reducible assumption))))⟩
  | false =>
    rw [show arR (psOf rs) (voOf vs) [] (disB (voOf vs)) = 0 by unfold arR; rw [if_neg (by rw [viC_no hvb]; decide)], viC_no hvb]
    rw [hvb] at hcall
    have HC := Lib.hid hcall
    clear hcall hvb h hr h' hv
    go_enter Tryz.func41, Tryz.ntmps41
    go_wp2_with fail
    refine HC.out.mono ?_
    rintro e w1 ⟨rfl, hx1⟩
    go_wp2
    go_ret2
    exact ⟨rfl, by (repeat (first | with_reducible exact Ext.refl _ | with_reducible assumption | ((with_reducible apply Src.ext); with_reducible assumption) | with_reducible refine Ext.alloc ?_ _ | with_reducible refine Ext.drew ?_ | with_reducible refine Ext.drewN ?_ _ | ((with_reducible refine Ext.setCell' ?_ ?_ _); solve | omega | simp | (simp; omega)) | (with_reducible refine Ext.trans ?_ (by with_reducible assumption))))⟩

theorem s_DisputedArea' (A A' : Option Addr) (n m c c' : Nat) (rs : List Rg) (vs : List Vw) (w : World) (h : SlAt w 1 encR A rs) (hr : Rings w rs) (hl : rs.length ≤ 1048576) (h' : SlAt w 2 encV A' vs) (hv : Views w vs) (hl' : vs.length ≤ 1048576) (hn : n = rs.length) (hm : m = vs.length) :
    Calls Tryz.prog 41 #[.slice A n c, .slice A' m c'] w fun e w' => e = .returned (.tuple #[.int .i64 (arR (psOf rs) (voOf vs) [] (disB (voOf vs))), .int .i64 (viC (psOf rs) (voOf vs) [])]) ∧ Ext w w' := by
  subst hn hm
  exact s_DisputedArea A A' c c' rs vs  w h hr hl h' hv hl'

theorem i_DisputedArea' (A A' : Option Addr) (n m c c' : Nat) (rs : List Rg) (vs : List Vw) (w : World) (h : SlAt w 1 encR A rs) (hr : Rings w rs) (hl : rs.length ≤ 1048576) (hc : rs.length ≤ c) (h' : SlAt w 2 encV A' vs) (hv : Views w vs) (hl' : vs.length ≤ 1048576) (hn : n = rs.length) (hm : m = vs.length) :
    Calls Tryz.prog 42 #[.slice A n c, .slice A' m c'] w fun e w' => e = .returned (.tuple #[.int .i64 (arR (psOf rs) (voOf vs) [] (disB (voOf vs))), .int .i64 (viC (psOf rs) (voOf vs) [])]) ∧ Ext w w' := by
  subst hn hm
  exact i_DisputedArea A A' c c' rs vs  w h hr hl hc h' hv hl'

set_option maxRecDepth 20000 in
set_option maxHeartbeats 6400000 in
theorem fnExactDisputedArea_walk (A : Option Addr) (c : Nat) (rs : List Rg) (A' : Option Addr) (c' : Nat) (vs : List Vw) (w : World) (h : ArgR w A rs) (h' : ArgV w A' vs) :
    Calls Tryz.prog 9 #[.slice A rs.length c, .slice A' vs.length c'] w fun e w' => e = .returned (.bool true) ∧ Ext w w' := by
  go_enter Tryz.func9, Tryz.ntmps9
  go_wp2_with fail
  refine (l_szPointSS _ _ rs 1048576 _ h.sl h.len h.lens (by omega) (by omega)).mono ?_
  rintro e w' ⟨⟨z, rfl, hz1, hz⟩, rfl⟩
  rcases hz with rfl | ⟨hz0, hl, hs, _⟩
  · go_wp2
    go_ret
    exact ⟨rfl, Ext.refl _⟩
  have HS := Lib.hid hs
  clear hs
  go_wp2_with fail
  refine (l_szViewS _ _ vs z _ h'.sl h'.len h'.rg hz0 hz1).mono ?_
  rintro e w0 ⟨⟨z2, rfl, hz2, hzz⟩, hx0⟩
  rcases hzz with rfl | ⟨hz3, hvl, hg⟩
  · go_wp2
    go_ret
    exact ⟨rfl, hx0⟩
  · have HG := Lib.hid hg
    clear hg
    go_wp2_with fail
    refine (l_toPointSS _ _ rs _ (h.ext hx0).sl (h.ext hx0).rg hl HS.out).mono ?_
    rintro e w1 ⟨q1, cs1, rfl, hq1, hp1, hB1, hc1, hO1, hx1⟩
    have HP1 := Lib.hid hp1
    have HC1 := Lib.hid hc1
    have HQ1 := Lib.hid hq1
    have HO1 := Lib.hid hO1
    have HB1 := Lib.hid hB1
    clear hp1 hc1 hO1 hq1 hB1
    go_wp2_with fail
    refine (l_toViewS _ _ vs _ (h'.ext (hx0.trans hx1)).sl (fun i hi => ((h'.ext (hx0.trans hx1)).rg i hi).1) hvl HG.out).mono ?_
    rintro e w2 ⟨q2, cs2, rfl, hq2, hp2, hB2, hc2, hO2, hx2⟩
    have HP2 := Lib.hid hp2
    have HC2 := Lib.hid hc2
    have HQ2 := Lib.hid hq2
    have HO2 := Lib.hid hO2
    have HB2 := Lib.hid hB2
    clear hp2 hc2 hO2 hq2 hB2
    go_wp2_with fail
    refine (s_DisputedArea' _ _ rs.length vs.length _ _ q1 q2 _ ((HB1.out.ext hx2).sl HC1.out len_encR) (HO1.out.ext hx2).rings (by rw [HQ1.out]; exact hl) (HB2.out.sl HC2.out len_encV) HO2.out.views (by rw [HQ2.out]; exact hvl) HQ1.out.symm HQ2.out.symm).mono ?_
    rw [HP1.out, HP2.out]
    rintro e w3 ⟨rfl, hx3⟩
    have hX3 := ((hx0.trans hx1).trans hx2).trans hx3
    go_wp2_with fail
    refine (l_toPointSS _ _ rs _ (h.ext hX3).sl (h.ext hX3).rg hl HS.out).mono ?_
    rintro e w4 ⟨q4, cs4, rfl, hq4, hp4, hB4, hc4, hO4, hx4⟩
    have HP4 := Lib.hid hp4
    have HC4 := Lib.hid hc4
    have HQ4 := Lib.hid hq4
    have HO4 := Lib.hid hO4
    have HB4 := Lib.hid hB4
    clear hp4 hc4 hO4 hq4 hB4
    go_wp2_with fail
    refine (l_toViewS _ _ vs _ (h'.ext (hX3.trans hx4)).sl (fun i hi => ((h'.ext (hX3.trans hx4)).rg i hi).1) hvl HG.out).mono ?_
    rintro e w5 ⟨q5, cs5, rfl, hq5, hp5, hB5, hc5, hO5, hx5⟩
    have HP5 := Lib.hid hp5
    have HC5 := Lib.hid hc5
    have HQ5 := Lib.hid hq5
    have HO5 := Lib.hid hO5
    have HB5 := Lib.hid hB5
    clear hp5 hc5 hO5 hq5 hB5
    go_wp2_with fail
    refine (i_DisputedArea' _ _ rs.length vs.length _ _ q4 q5 _ ((HB4.out.ext hx5).sl HC4.out len_encR) (HO4.out.ext hx5).rings (by rw [HQ4.out]; exact hl) (by rw [HQ4.out]; exact Nat.le_refl _) (HB5.out.sl HC5.out len_encV) HO5.out.views (by rw [HQ5.out]; exact hvl) HQ4.out.symm HQ5.out.symm).mono ?_
    rw [HP4.out, HP5.out]
    rintro e w6 ⟨rfl, hx6⟩
    have hX6 := ((hX3.trans hx4).trans hx5).trans hx6
    generalize arR (psOf rs) (voOf vs) [] (disB (voOf vs)) = q1r at *
    generalize viC (psOf rs) (voOf vs) [] = q2r at *
    have hvb : (q1r != q1r) = false := by simp
    have hvb2 : (q2r != q2r) = false := by simp
    go_wp2_with fail
    refine (l_toPointSS _ _ rs _ (h.ext hX6).sl (h.ext hX6).rg hl HS.out).mono ?_
    rintro e w7 ⟨q7, cs7, rfl, hq7, hp7, hB7, hc7, hO7, hx7⟩
    have HP7 := Lib.hid hp7
    have HC7 := Lib.hid hc7
    have HQ7 := Lib.hid hq7
    have HO7 := Lib.hid hO7
    have HB7 := Lib.hid hB7
    clear hp7 hc7 hO7 hq7 hB7
    go_wp2_with fail
    refine (l_eqSS _ _ _ _ _ q4 q7 _ (((HB4.out.ext hx5).ext hx6).ext hx7 |>.sl HC4.out len_encR) (HB7.out.sl HC7.out len_encR) (((HO4.out.ext hx5).ext hx6).ext hx7).rings HO7.out.rings (by rw [HP4.out, HP7.out]) HQ4.out.symm hl).mono ?_
    rintro e w8 ⟨rfl, hx8⟩
    go_wp2_with fail
    refine (l_toViewS _ _ vs _ (h'.ext ((hX6.trans hx7).trans hx8)).sl (fun i hi => ((h'.ext ((hX6.trans hx7).trans hx8)).rg i hi).1) hvl HG.out).mono ?_
    rintro e w9 ⟨q9, cs9, rfl, hq9, hp9, hB9, hc9, hO9, hx9⟩
    have HP9 := Lib.hid hp9
    have HC9 := Lib.hid hc9
    have HQ9 := Lib.hid hq9
    have HO9 := Lib.hid hO9
    have HB9 := Lib.hid hB9
    clear hp9 hc9 hO9 hq9 hB9
    go_wp2_with fail
    refine (l_eqViewS _ _ _ _ _ q5 q9 _ ((((HB5.out.ext hx6).ext hx7).ext hx8).ext hx9 |>.sl HC5.out len_encV) (HB9.out.sl HC9.out len_encV) ((((HO5.out.ext hx6).ext hx7).ext hx8).ext hx9).views HO9.out.views (by rw [HP5.out, HP9.out]) HQ5.out.symm hvl).mono ?_
    rintro e w10 ⟨rfl, hx10⟩
    go_wp2
    go_ret
    exact ⟨rfl, (((hX6.trans hx7).trans hx8).trans hx9).trans hx10⟩

end Go.Proofs.YtdbheipjbjcikaaGreatDoor
