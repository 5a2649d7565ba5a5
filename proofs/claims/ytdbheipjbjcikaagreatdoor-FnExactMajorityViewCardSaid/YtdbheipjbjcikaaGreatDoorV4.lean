/- Contracts of the laws on lists of int64, walked over the translation. Contracts of areas of views: codes, sums. The area of an owner in a view, walked over the translation. The distance of views, walked over the translation. The disputed area, walked over the translation. Contracts of marks in lists of texts, walked over the translation. Words for memory turned between two bounds. Marks in lists of rings and of views, walked over the translation. The majority of views, walked over the translation. The law of MajorityView, walked over the translation. -/
import Derived.Test.YtdbheipjbjcikaaGreatDoorEB
import Derived.Test.YtdbheipjbjcikaaGreatDoorI
import Derived.Deep.RegionHeld3
import Derived.Deep.DeepCutAuto
import Derived.RegionTactic
import Derived.BigRegion
import Derived.WalkLawsBesides
import Derived.WalkSpells
import Derived.Lib.MinMax
import Derived.Outline
import Derived.Test.YtdbheipjbjcikaaGreatDoorV1
import Derived.Test.YtdbheipjbjcikaaGreatDoorTB
import Derived.Test.YtdbheipjbjcikaaGreatDoorAP
import Derived.Test.YtdbheipjbjcikaaGreatDoorAQ
namespace Go.Proofs.YtdbheipjbjcikaaGreatDoor
open Go.RowKit
attribute [local go_sem] ExtOf.cell ExtOf.frozen

theorem len_encI : ∀ x, (encI x).length = 1 := fun _ => rfl
theorem one_encI : ∀ p, ∀ u ∈ encI p, u.oneCell' = true := by
  intro p u hu
  simp [encI] at hu
  subst hu; rfl
theorem elI : ElT Tryz.prog 114 2 1 8 := ElT.mk' (z := .int .i64 0) Tryz.underlying114 (by kernel_rfl) rfl (by omega)
abbrev OwI (w : World) (base : Nat) (v : Value) (xs : List Int) : Prop := Own encI 1 2 w base v xs
theorem blk_i1 {w : World} {g : Nat} {t : TypeId} {x : Int} (h : Blk w g t #[.int .i64 x]) : SlAt w 1 encI (some ⟨g, 0, none⟩) [x] := h.sl rfl len_encI
theorem blk_i2 {w : World} {g : Nat} {t : TypeId} {x y : Int} (h : Blk w g t #[.int .i64 x, .int .i64 y]) : SlAt w 1 encI (some ⟨g, 0, none⟩) [x, y] := h.sl rfl len_encI
theorem SlAt.it {w : World} {A : Option Addr} {xs : List Int} (h : SlAt w 1 encI A xs) {k : Nat} (hk : k < xs.length) :
    ∃ b off, A = some ⟨b, off, none⟩ ∧ b < w.heap.size ∧ w.cell? ⟨b, off + k, none⟩ = some (.int .i64 (xs.getD k 0)) := by
  obtain ⟨b, off, e, hb, hc⟩ := h (by omega)
  have hg : xs[k]? = some (xs.getD k 0) := by simp [List.getD, hk]
  exact ⟨b, off, e, hb, by simpa using hc k _ hg 0 _ rfl⟩
theorem SlAt.it' {w : World} {b off : Nat} {xs : List Int} (h : SlAt w 1 encI (some ⟨b, off, none⟩) xs) {k : Nat} (hk : k < xs.length) :
    w.cell? ⟨b, off + k, none⟩ = some (.int .i64 (xs.getD k 0)) := by
  obtain ⟨b', off', e, _, hc⟩ := h.it hk
  injection e with e
  injection e with e1 e2
  subst e1 e2
  exact hc
/-- marks in a list of int64 -/
def marksI (k : Int) (n : Nat) : List Int := (List.range n).map fun i : Nat => k + (i : Int)
theorem marksI_len (k : Int) (n : Nat) : (marksI k n).length = n := by simp [marksI]
theorem marksI_at (k : Int) {n i : Nat} (hi : i < n) : (marksI k n).getD i 0 = k + (i : Int) := by simp [marksI, List.getD, hi]
def MarkI (k : Int) (j sz : Nat) (cs : Array Value) : Prop := cs.size = sz ∧ ∀ q, q < j → cs[q]? = some (.int .i64 (k + (q : Int)))
theorem MarkI.step {k : Int} {j sz : Nat} {cs : Array Value} (h : MarkI k j sz cs) (hs : j < sz) : MarkI k (j + 1) sz (cs.setIfInBounds j (.int .i64 (k + (j : Int)))) := by
  have hz := h.1
  refine ⟨by simpa using h.1, fun q hq => ?_⟩
  by_cases e : q = j
  · subst e
    rw [Array.getElem?_setIfInBounds_self_of_lt (by omega)]
  · rw [Array.getElem?_setIfInBounds_ne (by omega)]
    exact h.2 q (by omega)
theorem MarkI.done {k : Int} {n sz : Nat} {cs : Array Value} (h : MarkI k n sz cs) (hs : n ≤ sz) : cs.toList.take (n * 1) = (marksI k n).flatMap encI := by
  have hz := h.1
  rw [Nat.mul_one]
  apply List.ext_getElem?
  intro i
  rcases Nat.lt_or_ge i n with hi | hi
  · rw [List.getElem?_take_of_lt hi, Array.getElem?_toList, h.2 i hi]
    have hg : (marksI k n)[i]? = some (k + (i : Int)) := by simp [marksI, hi]
    have h0 := flatMap_at (enc := encI) (sz := 1) len_encI (marksI k n) i _ 0 _ hg rfl
    rw [Nat.mul_one, Nat.add_zero] at h0
    rw [h0]
  · have hle : (cs.toList.take n).length ≤ i := by simp; omega
    rw [List.getElem?_eq_none hle, List.getElem?_eq_none (by rw [flatMap_len len_encI, marksI_len]; omega)]
set_option maxHeartbeats 1600000 in
theorem i_areWithin (A : Option Addr) (n c : Nat) (xs : List Int) (lo hi : Int) (w : World) (h : SlAt w 1 encI A xs) (hn : n = xs.length) (hl : n ≤ 1048576) :
    Calls Tryz.prog 157 #[.slice A n c, .int .i64 lo, .int .i64 hi] w fun e w' => e = .returned (.bool (xs.all fun x => inB x lo hi)) ∧ w = w' := by
  have HN := Lib.hid hn
  clear hn
  go_enter Tryz.func157, Tryz.ntmps157
  go_wp2
  go_loop [11] (fun i => ∃ k : Nat, k ≤ n ∧ i = .int .i64 k ∧ Hid (∀ j, j < k → inB (xs.getD j 0) lo hi = true)) (fun i => n - (intOf i).toNat)
  case atStart => exact ⟨0, Nat.zero_le _, rfl, fun j hj => absurd hj (by omega)⟩
  case round =>
    obtain ⟨k, hk, rfl, HJ⟩ := hrel
    by_cases hlt : k < n
    · have hkn : k < xs.length := by rw [← HN.out]; exact hlt
      obtain ⟨b, off, rfl, hb, d0⟩ := h.it hkn
      obtain ⟨x, hx⟩ : ∃ x, x = xs.getD k 0 := ⟨_, rfl⟩
      rw [← hx] at d0
      have HX := Lib.hid hx
      clear hx
      cases hb : inB x lo hi with
      | true =>
        have hcall : ∀ W, Calls Tryz.prog 73 #[.int .i64 x, .int .i64 lo, .int .i64 hi] W fun e w' => e = .returned (.bool true) ∧ W = w' := fun W => by have := within_any x lo hi W; rwa [hb] at this
        have HC := Lib.hid hcall
        have HB := Lib.hid hb
        clear hcall hb
        go_wp2_with fail
        refine (HC.out _).mono ?_
        rintro e w' ⟨rfl, rfl⟩
        go_wp2
        go_round
        case rel =>
          refine ⟨k + 1, by omega, by go_num, fun j hj => ?_⟩
          rcases Nat.lt_or_ge j k with c | c
          · exact HJ.out j c
          · obtain rfl : j = k := by omega
            rw [← HX.out]; exact HB.out
        case measure => simp [intOf]; omega
      | false =>
        have hcall : ∀ W, Calls Tryz.prog 73 #[.int .i64 x, .int .i64 lo, .int .i64 hi] W fun e w' => e = .returned (.bool false) ∧ W = w' := fun W => by have := within_any x lo hi W; rwa [hb] at this
        have HC := Lib.hid hcall
        have HB := Lib.hid hb
        clear hcall hb
        go_wp2_with fail
        refine (HC.out _).mono ?_
        rintro e w' ⟨rfl, rfl⟩
        go_wp2
        go_ret
        refine ⟨ret_bool (Eq.symm ?_), rfl⟩
        rw [List.all_eq_false]
        exact ⟨xs.getD k 0, by simp [List.getD, hkn], by rw [← HX.out, HB.out]; simp⟩
    · obtain rfl : k = n := by omega
      go_wp2
      go_ret
      refine ⟨ret_bool (Eq.symm ?_), rfl⟩
      rw [List.all_eq_true]
      intro x hx
      obtain ⟨j, hj, rfl⟩ := List.mem_iff_getElem.1 hx
      have := HJ.out j (by rw [HN.out]; exact hj)
      simpa [List.getD, hj] using this
end Go.Proofs.YtdbheipjbjcikaaGreatDoor
namespace Go.Proofs.YtdbheipjbjcikaaGreatDoor
open Go.RowKit
attribute [local go_sem] ExtOf.cell ExtOf.frozen

/-- the code of a map, views and indices of views -/
noncomputable def viC (L : List (List (Int × Int))) (V : List (List UInt8 × List (List UInt8))) (xs : List Int) : Int := if viB L V = true then (if (xs.all fun x => inB x 0 ((V.length : Int) - 1)) = true then 0 else 2) else 1
theorem viC_no {L : List (List (Int × Int))} {V : List (List UInt8 × List (List UInt8))} {xs : List Int} (h : viB L V = false) : viC L V xs = 1 := by simp [viC, h]
theorem viC_out {L : List (List (Int × Int))} {V : List (List UInt8 × List (List UInt8))} {xs : List Int} (h : viB L V = true) (hx : (xs.all fun x => inB x 0 ((V.length : Int) - 1)) = false) : viC L V xs = 2 := by unfold viC; rw [if_pos h, if_neg (by rw [hx]; simp)]
theorem viC_in {L : List (List (Int × Int))} {V : List (List UInt8 × List (List UInt8))} {xs : List Int} (h : viB L V = true) (hx : (xs.all fun x => inB x 0 ((V.length : Int) - 1)) = true) : viC L V xs = 0 := by unfold viC; rw [if_pos h, if_pos hx]
theorem viC_zero {L : List (List (Int × Int))} {V : List (List UInt8 × List (List UInt8))} {xs : List Int} (h : viC L V xs = 0) : viB L V = true ∧ (xs.all fun x => inB x 0 ((V.length : Int) - 1)) = true := by
  cases hb : viB L V with
  | false => rw [viC_no hb] at h; cases h
  | true =>
    refine ⟨rfl, ?_⟩
    cases hx : (xs.all fun x => inB x 0 ((V.length : Int) - 1)) with
    | true => rfl
    | false => rw [viC_out hb hx] at h; cases h
theorem viC_two (L : List (List (Int × Int))) (V : List (List UInt8 × List (List UInt8))) (a : Int) : viC L V [a, a] = viC L V [a] := by simp [viC]
/-- twice the areas of those of the first k rings that p asks for -/
def arI (L : List (List (Int × Int))) (p : Nat → Bool) (k : Nat) : Int := tot (fun i => if p i = true then areaA (L.getD i []) else 0) k
theorem arI_succ (L : List (List (Int × Int))) (p : Nat → Bool) (k : Nat) : arI L p (k + 1) = arI L p k + (if p k = true then areaA (L.getD k []) else 0) := by unfold arI; rw [tot]
theorem arI_bd {L : List (List (Int × Int))} (h : MapP L) (p : Nat → Bool) : ∀ k, k ≤ L.length → 0 ≤ arI L p k ∧ arI L p k ≤ 24000000 * (k : Int)
  | 0, _ => by simp [arI, tot]
  | k + 1, hk => by
    have := arI_bd h p k (by omega)
    have hb := areaA_bd (h.2.1 k (by omega))
    rw [arI_succ]
    split <;> omega
/-- the area of the rings that p asks for, 0 where the code is none of a success -/
noncomputable def arR (L : List (List (Int × Int))) (V : List (List UInt8 × List (List UInt8))) (xs : List Int) (p : Nat → Bool) : Int := if viC L V xs = 0 then arI L p L.length else 0
theorem viB_map {L : List (List (Int × Int))} {V : List (List UInt8 × List (List UInt8))} (h : viB L V = true) : MapP L ∧ AreV L.length V := by
  unfold viB at h
  rw [Bool.and_eq_true] at h
  exact ⟨mapB_iff.1 h.2, areV_iff.1 h.1⟩
theorem viB_len {rs : List Rg} {vs : List Vw} (h : viB (psOf rs) (voOf vs) = true) {k : Nat} (hk : k < vs.length) : (vs.getD k vwD).2.2.2.length = rs.length := by
  have h1 := (viB_map h).2.2 k (by rw [voOf_len]; exact hk)
  have h2 := h1.1
  rw [voOf_atD hk, psOf_len] at h2
  simp only [isvB, Bool.and_eq_true, decide_eq_true_eq] at h2
  exact h2.2.1
/-- the owner that view a tells for ring k -/
def ownOf (V : List (List UInt8 × List (List UInt8))) (a k : Nat) : ByteArray := tx ((V.getD a voD).2.getD k [])
theorem ownOf_at {vs : List Vw} {a k : Nat} (ha : a < vs.length) : ownOf (voOf vs) a k = tx ((vs.getD a vwD).2.2.2.getD k []) := by unfold ownOf; rw [voOf_atD ha]
def fA (V : List (List UInt8 × List (List UInt8))) (a : Nat) (own : ByteArray) (k : Nat) : Bool := (ownOf V a k).toList == own.toList
def fD (V : List (List UInt8 × List (List UInt8))) (a b : Nat) (k : Nat) : Bool := !((ownOf V a k).toList == (ownOf V b k).toList)
theorem fA_at {vs : List Vw} {a k : Nat} {own : ByteArray} (ha : a < vs.length) : fA (voOf vs) a own k = ((tx ((vs.getD a vwD).2.2.2.getD k [])).toList == own.toList) := by unfold fA; rw [ownOf_at ha]
theorem fD_at {vs : List Vw} {a b k : Nat} (ha : a < vs.length) (hb : b < vs.length) : fD (voOf vs) a b k = !((tx ((vs.getD a vwD).2.2.2.getD k [])).toList == (tx ((vs.getD b vwD).2.2.2.getD k [])).toList) := by unfold fD; rw [ownOf_at ha, ownOf_at hb]
theorem as_int0 {P : Program} {f : FuncId} {args : Array Value} {w : World} {k : IntKind} {b b' : Int} (h : Calls P f args w fun e w' => e = .returned (.int k b) ∧ Ext w w') (e : b = b') : Calls P f args w fun e w' => e = .returned (.int k b') ∧ Ext w w' := e ▸ h

set_option maxHeartbeats 3200000 in
theorem i_viewCode (A A' Ai : Option Addr) (c c' n ci : Nat) (rs : List Rg) (vs : List Vw) (xs : List Int) (w : World) (h : SlAt w 1 encR A rs) (hr : Rings w rs) (hl : rs.length ≤ 1048576) (hc : rs.length ≤ c) (h' : SlAt w 2 encV A' vs) (hv : Views w vs) (hl' : vs.length ≤ 1048576) (hi : SlAt w 1 encI Ai xs) (hn : n = xs.length) (hn2 : n ≤ 10) :
    Calls Tryz.prog 97 #[.slice A rs.length c, .slice A' vs.length c', .slice Ai n ci] w fun e w' => e = .returned (.int .i64 (viC (psOf rs) (voOf vs) xs)) ∧ Ext w w' := by
  have HV := Lib.hid (i_AreViews A A' c c' rs vs w h hr hl hc h' hv hl')
  have hw : IntKind.i64.wrap ((vs.length : Int) - 1) = (vs.length : Int) - 1 := IntWalk.i64_in _ (by omega)
  cases hm : viB (psOf rs) (voOf vs) with
  | false =>
    rw [viC_no hm]
    rw [hm] at HV
    clear hm h hr h' hv
    go_enter Tryz.func97, Tryz.ntmps97
    (go_wp2_with fail; refine (HV.out).mono ?_; rintro e w1 ⟨rfl, hx1⟩; obtain ⟨hc1, hf1⟩ := hx1.rules; have hs1 := hx1.size; (try simp at hs1))
    go_wp2
    go_ret
    exact ⟨rfl, by (repeat (first | with_reducible exact Ext.refl _ | with_reducible assumption | ((with_reducible apply Src.ext); with_reducible assumption) | with_reducible refine Ext.alloc ?_ _ | with_reducible refine Ext.drew ?_ | with_reducible refine Ext.drewN ?_ _ | ((with_reducible refine Ext.setCell' ?_ ?_ _); solve | omega | simp | (simp; omega)) | (with_reducible refine Ext.trans ?_ (by with_reducible assumption))))⟩
  | true =>
    rw [hm] at HV
    cases hx : (xs.all fun x => inB x 0 ((vs.length : Int) - 1)) with
    | true =>
      rw [viC_in hm (by rw [voOf_len]; exact hx)]
      have hw2 : ∀ W, SlAt W 1 encI Ai xs → Calls Tryz.prog 157 #[.slice Ai n ci, .int .i64 0, .int .i64 ((vs.length : Int) - 1)] W fun e w' => e = .returned (.bool true) ∧ W = w' := fun W h => as_bool0' (i_areWithin _ _ _ xs _ _ _ h hn (by omega)) hx
      have HW := Lib.hid hw2
      have HN := Lib.hid hn
      clear hm hx hw2 hn h hr h' hv
      go_enter Tryz.func97, Tryz.ntmps97
      (go_wp2_with fail; refine (HV.out).mono ?_; rintro e w1 ⟨rfl, hx1⟩; obtain ⟨hc1, hf1⟩ := hx1.rules; have hs1 := hx1.size; (try simp at hs1))
      (go_wp2_with fail; refine (i_lengthV _ _ _ _).mono ?_; rintro e w' ⟨rfl, rfl⟩)
      go_wp2_with fail
      refine (HW.out _ (hi.ext (by (repeat (first | with_reducible exact Ext.refl _ | with_reducible assumption | ((with_reducible apply Src.ext); with_reducible assumption) | with_reducible refine Ext.alloc ?_ _ | with_reducible refine Ext.drew ?_ | with_reducible refine Ext.drewN ?_ _ | ((with_reducible refine Ext.setCell' ?_ ?_ _); solve | omega | simp | (simp; omega)) | (with_reducible refine Ext.trans ?_ (by with_reducible assumption))))))).mono ?_
      rintro e w2 ⟨rfl, rfl⟩
      go_wp2
      go_ret
      exact ⟨rfl, by (repeat (first | with_reducible exact Ext.refl _ | with_reducible assumption | ((with_reducible apply Src.ext); with_reducible assumption) | with_reducible refine Ext.alloc ?_ _ | with_reducible refine Ext.drew ?_ | with_reducible refine Ext.drewN ?_ _ | ((with_reducible refine Ext.setCell' ?_ ?_ _); solve | omega | simp | (simp; omega)) | (with_reducible refine Ext.trans ?_ (by with_reducible assumption))))⟩
    | false =>
      rw [viC_out hm (by rw [voOf_len]; exact hx)]
      have hw2 : ∀ W, SlAt W 1 encI Ai xs → Calls Tryz.prog 157 #[.slice Ai n ci, .int .i64 0, .int .i64 ((vs.length : Int) - 1)] W fun e w' => e = .returned (.bool false) ∧ W = w' := fun W h => as_bool0' (i_areWithin _ _ _ xs _ _ _ h hn (by omega)) hx
      have HW := Lib.hid hw2
      have HN := Lib.hid hn
      clear hm hx hw2 hn h hr h' hv
      go_enter Tryz.func97, Tryz.ntmps97
      (go_wp2_with fail; refine (HV.out).mono ?_; rintro e w1 ⟨rfl, hx1⟩; obtain ⟨hc1, hf1⟩ := hx1.rules; have hs1 := hx1.size; (try simp at hs1))
      (go_wp2_with fail; refine (i_lengthV _ _ _ _).mono ?_; rintro e w' ⟨rfl, rfl⟩)
      go_wp2_with fail
      refine (HW.out _ (hi.ext (by (repeat (first | with_reducible exact Ext.refl _ | with_reducible assumption | ((with_reducible apply Src.ext); with_reducible assumption) | with_reducible refine Ext.alloc ?_ _ | with_reducible refine Ext.drew ?_ | with_reducible refine Ext.drewN ?_ _ | ((with_reducible refine Ext.setCell' ?_ ?_ _); solve | omega | simp | (simp; omega)) | (with_reducible refine Ext.trans ?_ (by with_reducible assumption))))))).mono ?_
      rintro e w2 ⟨rfl, rfl⟩
      go_wp2
      go_ret
      exact ⟨rfl, by (repeat (first | with_reducible exact Ext.refl _ | with_reducible assumption | ((with_reducible apply Src.ext); with_reducible assumption) | with_reducible refine Ext.alloc ?_ _ | with_reducible refine Ext.drew ?_ | with_reducible refine Ext.drewN ?_ _ | ((with_reducible refine Ext.setCell' ?_ ?_ _); solve | omega | simp | (simp; omega)) | (with_reducible refine Ext.trans ?_ (by with_reducible assumption))))⟩
set_option maxHeartbeats 3200000 in
theorem s_l18View (A A' : Option Addr) (c c' : Nat) (rs : List Rg) (vs : List Vw) (a b : Int) (w : World) (h : SlAt w 1 encR A rs) (hr : Rings w rs) (hl : rs.length ≤ 1048576) (h' : SlAt w 2 encV A' vs) (hv : Views w vs) (hl' : vs.length ≤ 1048576) :
    Calls Tryz.prog 95 #[.slice A rs.length c, .slice A' vs.length c', .int .i64 a, .int .i64 b] w fun e w' => e = .returned (.int .i64 (viC (psOf rs) (voOf vs) [a, b])) ∧ Ext w w' := by
  have HV := Lib.hid (s_AreViews A A' c c' rs vs w h hr hl h' hv hl')
  have hw : IntKind.i64.wrap ((vs.length : Int) - 1) = (vs.length : Int) - 1 := IntWalk.i64_in _ (by omega)
  cases hm : viB (psOf rs) (voOf vs) with
  | false =>
    rw [viC_no hm]
    rw [hm] at HV
    clear hm h hr h' hv
    go_enter Tryz.func95, Tryz.ntmps95
    (go_wp2_with fail; refine (HV.out).mono ?_; rintro e w1 ⟨rfl, hx1⟩; obtain ⟨hc1, hf1⟩ := hx1.rules; have hs1 := hx1.size; (try simp at hs1))
    go_wp2
    go_ret
    exact ⟨rfl, by (repeat (first | with_reducible exact Ext.refl _ | with_reducible assumption | ((with_reducible apply Src.ext); with_reducible assumption) | with_reducible refine Ext.alloc ?_ _ | with_reducible refine Ext.drew ?_ | with_reducible refine Ext.drewN ?_ _ | ((with_reducible refine Ext.setCell' ?_ ?_ _); solve | omega | simp | (simp; omega)) | (with_reducible refine Ext.trans ?_ (by with_reducible assumption))))⟩
  | true =>
    rw [hm] at HV
    have hval : ∀ q, ([a, b].all fun x => inB x 0 (((voOf vs).length : Int) - 1)) = q → viC (psOf rs) (voOf vs) [a, b] = if q = true then 0 else 2 := fun q hq => by unfold viC; rw [if_pos hm, hq]
    rw [voOf_len] at hval
    cases ha : inB a 0 ((vs.length : Int) - 1) with
    | false =>
      rw [hval false (by simp [ha])]
      have HA : Hid (∀ W, Calls Tryz.prog 116 #[.int .i64 a, .int .i64 0, .int .i64 ((vs.length : Int) - 1)] W fun e w' => e = .returned (.bool false) ∧ W = w') := Lib.hid fun W => as_bool0' (l01In_any _ _ _ _) ha
      clear ha hval hm h hr h' hv
      go_enter Tryz.func95, Tryz.ntmps95
      (go_wp2_with fail; refine (HV.out).mono ?_; rintro e w1 ⟨rfl, hx1⟩; obtain ⟨hc1, hf1⟩ := hx1.rules; have hs1 := hx1.size; (try simp at hs1))
      (go_wp2_with fail; refine (HA.out _).mono ?_; rintro e w' ⟨rfl, rfl⟩)
      go_wp2
      go_ret
      exact ⟨rfl, by (repeat (first | with_reducible exact Ext.refl _ | with_reducible assumption | ((with_reducible apply Src.ext); with_reducible assumption) | with_reducible refine Ext.alloc ?_ _ | with_reducible refine Ext.drew ?_ | with_reducible refine Ext.drewN ?_ _ | ((with_reducible refine Ext.setCell' ?_ ?_ _); solve | omega | simp | (simp; omega)) | (with_reducible refine Ext.trans ?_ (by with_reducible assumption))))⟩
    | true =>
      have HA : Hid (∀ W, Calls Tryz.prog 116 #[.int .i64 a, .int .i64 0, .int .i64 ((vs.length : Int) - 1)] W fun e w' => e = .returned (.bool true) ∧ W = w') := Lib.hid fun W => as_bool0' (l01In_any _ _ _ _) ha
      cases hb : inB b 0 ((vs.length : Int) - 1) with
      | false =>
        rw [hval false (by simp [ha, hb])]
        have HB : Hid (∀ W, Calls Tryz.prog 116 #[.int .i64 b, .int .i64 0, .int .i64 ((vs.length : Int) - 1)] W fun e w' => e = .returned (.bool false) ∧ W = w') := Lib.hid fun W => as_bool0' (l01In_any _ _ _ _) hb
        clear ha hb hval hm h hr h' hv
        go_enter Tryz.func95, Tryz.ntmps95
        (go_wp2_with fail; refine (HV.out).mono ?_; rintro e w1 ⟨rfl, hx1⟩; obtain ⟨hc1, hf1⟩ := hx1.rules; have hs1 := hx1.size; (try simp at hs1))
        (go_wp2_with fail; refine (HA.out _).mono ?_; rintro e w' ⟨rfl, rfl⟩)
        (go_wp2_with fail; refine (HB.out _).mono ?_; rintro e w' ⟨rfl, rfl⟩)
        go_wp2
        go_ret
        exact ⟨rfl, by (repeat (first | with_reducible exact Ext.refl _ | with_reducible assumption | ((with_reducible apply Src.ext); with_reducible assumption) | with_reducible refine Ext.alloc ?_ _ | with_reducible refine Ext.drew ?_ | with_reducible refine Ext.drewN ?_ _ | ((with_reducible refine Ext.setCell' ?_ ?_ _); solve | omega | simp | (simp; omega)) | (with_reducible refine Ext.trans ?_ (by with_reducible assumption))))⟩
      | true =>
        rw [hval true (by simp [ha, hb])]
        have HB : Hid (∀ W, Calls Tryz.prog 116 #[.int .i64 b, .int .i64 0, .int .i64 ((vs.length : Int) - 1)] W fun e w' => e = .returned (.bool true) ∧ W = w') := Lib.hid fun W => as_bool0' (l01In_any _ _ _ _) hb
        clear ha hb hval hm h hr h' hv
        go_enter Tryz.func95, Tryz.ntmps95
        (go_wp2_with fail; refine (HV.out).mono ?_; rintro e w1 ⟨rfl, hx1⟩; obtain ⟨hc1, hf1⟩ := hx1.rules; have hs1 := hx1.size; (try simp at hs1))
        (go_wp2_with fail; refine (HA.out _).mono ?_; rintro e w' ⟨rfl, rfl⟩)
        (go_wp2_with fail; refine (HB.out _).mono ?_; rintro e w' ⟨rfl, rfl⟩)
        go_wp2
        go_ret
        exact ⟨rfl, by (repeat (first | with_reducible exact Ext.refl _ | with_reducible assumption | ((with_reducible apply Src.ext); with_reducible assumption) | with_reducible refine Ext.alloc ?_ _ | with_reducible refine Ext.drew ?_ | with_reducible refine Ext.drewN ?_ _ | ((with_reducible refine Ext.setCell' ?_ ?_ _); solve | omega | simp | (simp; omega)) | (with_reducible refine Ext.trans ?_ (by with_reducible assumption))))⟩
set_option maxHeartbeats 3200000 in
theorem s_l18Area (A : Option Addr) (c : Nat) (ps : List (Int × Int)) (w : World) (h : SlAt w 2 encP A ps) (hring : ringB ps = true) :
    Calls Tryz.prog 96 #[.slice A ps.length c] w fun e w' => e = .returned (.int .i64 (areaA ps)) ∧ Ext w w' := by
  obtain ⟨h0, hl12, ho⟩ := ring_facts hring
  have hbd := areaA_bd hring
  have HO := Lib.hid ho
  have hsum : areaA ps = ((areaZ ps).natAbs : Int) := rfl
  rw [hsum] at hbd ⊢
  clear ho hring hsum
  go_enter Tryz.func96, Tryz.ntmps96
  (go_wp2_with fail; refine (s_area _ _ ps _ h h0 (by omega) HO.out).mono ?_; rintro e w2 ⟨rfl, hx2⟩; obtain ⟨hc2, hf2⟩ := hx2.rules; have hs2 := hx2.size; (try simp at hs2))
  (go_wp2_with fail; refine (s_absN _ _ (by omega) (by omega)).mono ?_; rintro e w' ⟨rfl, rfl⟩)
  go_wp2
  go_ret
  exact ⟨rfl, by (repeat (first | with_reducible exact Ext.refl _ | with_reducible assumption | ((with_reducible apply Src.ext); with_reducible assumption) | with_reducible refine Ext.alloc ?_ _ | with_reducible refine Ext.drew ?_ | with_reducible refine Ext.drewN ?_ _ | ((with_reducible refine Ext.setCell' ?_ ?_ _); solve | omega | simp | (simp; omega)) | (with_reducible refine Ext.trans ?_ (by with_reducible assumption))))⟩
set_option maxHeartbeats 6400000 in
theorem i_areaOf (A : Option Addr) (c : Nat) (rs : List Rg) (p : Nat → Bool) (g : Nat) (lb : Array Value) (eg : ∀ args w, (callFunc g args).run Tryz.prog w = .ok (.enter g args) w) (w : World) (h : SlAt w 1 encR A rs) (hr : Rings w rs) (hM : MapP (psOf rs))
    (hp : ∀ k : Nat, k < rs.length → ∀ W, Ext w W → Calls Tryz.prog g (#[.int .i64 k] ++ lb) W fun e w' => e = .returned (.bool (p k)) ∧ Ext W w') :
    Calls Tryz.prog 98 #[.slice A rs.length c, .func (.func g) #[] lb] w fun e w' => e = .returned (.int .i64 (arI (psOf rs) p rs.length)) ∧ Ext w w' := by
  have HP := Lib.hid hp
  have HM := Lib.hid hM
  clear hp hM
  go_enter Tryz.func98, Tryz.ntmps98
  go_wp2
  go_loopw [5, 10] (fun s i wr => ∃ k : Nat, k ≤ rs.length ∧ i = .int .i64 k ∧ s = .int .i64 (arI (psOf rs) p k) ∧ Ext w wr) (fun _ i _ => rs.length - (intOf i).toNat)
  case atStart => exact ⟨0, by omega, rfl, rfl, by (repeat (first | with_reducible exact Ext.refl _ | with_reducible assumption | ((with_reducible apply Src.ext); with_reducible assumption) | with_reducible refine Ext.alloc ?_ _ | with_reducible refine Ext.drew ?_ | with_reducible refine Ext.drewN ?_ _ | ((with_reducible refine Ext.setCell' ?_ ?_ _); solve | omega | simp | (simp; omega)) | (with_reducible refine Ext.trans ?_ (by with_reducible assumption))))⟩
  case round =>
    obtain ⟨k, hk, rfl, rfl, hxr⟩ := hrel
    have hsb := arI_bd HM.out p k (by rw [psOf_len]; exact hk)
    have h6 := HM.out.1
    rw [psOf_len] at h6
    by_cases hlt : k < rs.length
    · obtain ⟨b, off, rfl, hb, hcell⟩ := (h.ext hxr).rg hlt
      have hrk := hr _ (rg_mem hlt)
      have hring := HM.out.2.1 k (by rw [psOf_len]; exact hlt)
      rw [psOf_at hlt] at hring
      have hsu := arI_succ (psOf rs) p k
      rw [psOf_at hlt] at hsu
      have hcall := HP.out k hlt
      obtain ⟨r, hre⟩ : ∃ r, r = rs.getD k rgD := ⟨_, rfl⟩
      rw [← hre] at hcell hrk hring hsu
      clear hre
      cases hq : p k with
      | false =>
        rw [hq] at hcall hsu
        have HS := Lib.hid hsu
        have HC := Lib.hid hcall
        clear hcall hsu hq hrk hring
        go_wp2_with fail
        refine (HC.out _ (by (repeat (first | with_reducible exact Ext.refl _ | with_reducible assumption | ((with_reducible apply Src.ext); with_reducible assumption) | with_reducible refine Ext.alloc ?_ _ | with_reducible refine Ext.drew ?_ | with_reducible refine Ext.drewN ?_ _ | ((with_reducible refine Ext.setCell' ?_ ?_ _); solve | omega | simp | (simp; omega)) | (with_reducible refine Ext.trans ?_ (by with_reducible assumption)))))).mono ?_
        rintro e w1 ⟨rfl, hx1⟩
        go_wp2
        go_roundw
        case rel => exact ⟨k + 1, by omega, by go_num, by rw [HS.out]; simp, by (repeat (first | with_reducible exact Ext.refl _ | with_reducible assumption | ((with_reducible apply Src.ext); with_reducible assumption) | with_reducible refine Ext.alloc ?_ _ | with_reducible refine Ext.drew ?_ | with_reducible refine Ext.drewN ?_ _ | ((with_reducible refine Ext.setCell' ?_ ?_ _); solve | omega | simp | (simp; omega)) | (with_reducible refine Ext.trans ?_ (by with_reducible assumption))))⟩
        case measure => simp [intOf]; omega
      | true =>
        rw [hq] at hcall hsu
        have hbd := areaA_bd hring
        have HC := Lib.hid hcall
        obtain ⟨h0, hl12, ho⟩ := ring_facts hring
        have HO := Lib.hid ho
        have HK := Lib.hid hrk
        have hsum : areaA r.2.2 = ((areaZ r.2.2).natAbs : Int) := rfl
        rw [hsum] at hsu hbd
        have HS := Lib.hid hsu
        clear hcall hsu hq hrk hring ho hsum
        go_wp2_with fail
        refine (HC.out _ (by (repeat (first | with_reducible exact Ext.refl _ | with_reducible assumption | ((with_reducible apply Src.ext); with_reducible assumption) | with_reducible refine Ext.alloc ?_ _ | with_reducible refine Ext.drew ?_ | with_reducible refine Ext.drewN ?_ _ | ((with_reducible refine Ext.setCell' ?_ ?_ _); solve | omega | simp | (simp; omega)) | (with_reducible refine Ext.trans ?_ (by with_reducible assumption)))))).mono ?_
        rintro e w1 ⟨rfl, hx1⟩
        (go_wp2_with fail; refine (i_area _ _ r.2.2 _ (HK.out.1.ext (by (repeat (first | with_reducible exact Ext.refl _ | with_reducible assumption | ((with_reducible apply Src.ext); with_reducible assumption) | with_reducible refine Ext.alloc ?_ _ | with_reducible refine Ext.drew ?_ | with_reducible refine Ext.drewN ?_ _ | ((with_reducible refine Ext.setCell' ?_ ?_ _); solve | omega | simp | (simp; omega)) | (with_reducible refine Ext.trans ?_ (by with_reducible assumption)))))) h0 (by omega) HO.out).mono ?_; rintro e w2 ⟨rfl, hx2⟩; obtain ⟨hc2, hf2⟩ := hx2.rules; have hs2 := hx2.size; (try simp at hs2))
        (go_wp2_with fail; refine (i_absN _ _ (by omega) (by omega)).mono ?_; rintro e w' ⟨rfl, rfl⟩)
        go_wp2
        go_roundw
        case rel => exact ⟨k + 1, by omega, by go_num, by rw [HS.out]; simp, by (repeat (first | with_reducible exact Ext.refl _ | with_reducible assumption | ((with_reducible apply Src.ext); with_reducible assumption) | with_reducible refine Ext.alloc ?_ _ | with_reducible refine Ext.drew ?_ | with_reducible refine Ext.drewN ?_ _ | ((with_reducible refine Ext.setCell' ?_ ?_ _); solve | omega | simp | (simp; omega)) | (with_reducible refine Ext.trans ?_ (by with_reducible assumption))))⟩
        case measure => simp [intOf]; omega
    · obtain rfl : k = rs.length := by omega
      go_wp2
      go_ret
      exact ⟨rfl, by (repeat (first | with_reducible exact Ext.refl _ | with_reducible assumption | ((with_reducible apply Src.ext); with_reducible assumption) | with_reducible refine Ext.alloc ?_ _ | with_reducible refine Ext.drew ?_ | with_reducible refine Ext.drewN ?_ _ | ((with_reducible refine Ext.setCell' ?_ ?_ _); solve | omega | simp | (simp; omega)) | (with_reducible refine Ext.trans ?_ (by with_reducible assumption))))⟩

end Go.Proofs.YtdbheipjbjcikaaGreatDoor
namespace Go.Proofs.YtdbheipjbjcikaaGreatDoor
open Go.RowKit
attribute [local go_sem] ExtOf.cell ExtOf.frozen

set_option maxHeartbeats 1600000 in
theorem i_tells (v u : Vw) (k : Nat) (w : World) (h : SlAt w 1 encS v.2.1 v.2.2.2) (hu : SlAt w 1 encS u.2.1 u.2.2.2) (hk : k < v.2.2.2.length) (hk' : k < u.2.2.2.length) :
    Calls Tryz.prog 101 #[.agg #[.string (tx v.1), .slice v.2.1 v.2.2.2.length v.2.2.1], .agg #[.string (tx u.1), .slice u.2.1 u.2.2.2.length u.2.2.1], .int .i64 k] w fun e w' => e = .returned (.bool (!((tx (v.2.2.2.getD k [])).toList == (tx (u.2.2.2.getD k [])).toList))) ∧ Ext w w' := by
  obtain ⟨b, off, hA, hb, f0⟩ := h.st hk
  obtain ⟨b9, off9, hA', hb9, f1⟩ := hu.st hk'
  rw [hA, hA']
  generalize tx (v.2.2.2.getD k []) = t at *
  generalize tx (u.2.2.2.getD k []) = t' at *
  clear h hu hA hA'
  (have := (show b < w.heap.size + 1 from by omega); have := (show b < w.heap.size + 1 + 1 from by omega))
  (have := (show b9 < w.heap.size + 1 from by omega); have := (show b9 < w.heap.size + 1 + 1 from by omega))
  have q1 : ¬ b = w.heap.size := by omega
  have q2 : ¬ b = w.heap.size + 1 := by omega
  have q3 : ¬ b9 = w.heap.size := by omega
  have q4 : ¬ b9 = w.heap.size + 1 := by omega
  go_enter Tryz.func101, Tryz.ntmps101
  go_wp2
  (refine wp_region_ext (by kernel_rfl) (by kernel_rfl) ?_; (repeat (go_big_quiet_step (fail))); refine wpQuiet_nil ?_; intro wq hxwq; obtain ⟨hcwq, hfwq⟩ := hxwq.rules; have hswq := hxwq.size; (try simp at hswq))
  go_wp2
  go_ret
  exact ⟨rfl, by (repeat (first | with_reducible exact Ext.refl _ | with_reducible assumption | ((with_reducible apply Src.ext); with_reducible assumption) | with_reducible refine Ext.alloc ?_ _ | with_reducible refine Ext.drew ?_ | with_reducible refine Ext.drewN ?_ _ | ((with_reducible refine Ext.setCell' ?_ ?_ _); solve | omega | simp | (simp; omega)) | (with_reducible refine Ext.trans ?_ (by with_reducible assumption))))⟩
set_option maxHeartbeats 1600000 in
theorem i_AreaOf1 (A' : Option Addr) (c' : Nat) (vs : List Vw) (own : ByteArray) (a k b5 b6 b7 : Nat) (w : World) (h' : SlAt w 2 encV A' vs) (hv : Views w vs) (ha : a < vs.length) (hk : k < (vs.getD a vwD).2.2.2.length)
    (h5 : w.cell? ⟨b5, 0, none⟩ = some (.slice A' vs.length c')) (h6 : w.cell? ⟨b6, 0, none⟩ = some (.int .i64 a)) (h7 : w.cell? ⟨b7, 0, none⟩ = some (.string own)) :
    Calls Tryz.prog 99 #[.int .i64 k, .pointer (some ⟨b5, 0, none⟩), .pointer (some ⟨b6, 0, none⟩), .pointer (some ⟨b7, 0, none⟩)] w fun e w' => e = .returned (.bool (fA (voOf vs) a own k)) ∧ Ext w w' := by
  have e5 : b5 < w.heap.size := World.block_lt_of_cell? _ _ h5
  have e6 : b6 < w.heap.size := World.block_lt_of_cell? _ _ h6
  have e7 : b7 < w.heap.size := World.block_lt_of_cell? _ _ h7
  obtain ⟨b, off, rfl, hb, d0, d1⟩ := h'.vw ha
  have hvk := hv _ (vw_mem ha)
  obtain ⟨b2, off2, hA2, hb2, f0⟩ := hvk.1.st hk
  rw [hA2] at d1
  rw [fA_at ha]
  generalize vs.getD a vwD = v at *
  generalize tx (v.2.2.2.getD k []) = t at *
  clear hvk hv h' hA2
  go_enter Tryz.func99, Tryz.ntmps99
  go_wp2
  (refine wp_region_ext (by kernel_rfl) (by kernel_rfl) ?_; (repeat (go_big_quiet_step (fail))); refine wpQuiet_nil ?_; intro wq hxwq; obtain ⟨hcwq, hfwq⟩ := hxwq.rules; have hswq := hxwq.size; (try simp at hswq))
  go_wp2
  go_ret
  exact ⟨rfl, by (repeat (first | with_reducible exact Ext.refl _ | with_reducible assumption | ((with_reducible apply Src.ext); with_reducible assumption) | with_reducible refine Ext.alloc ?_ _ | with_reducible refine Ext.drew ?_ | with_reducible refine Ext.drewN ?_ _ | ((with_reducible refine Ext.setCell' ?_ ?_ _); solve | omega | simp | (simp; omega)) | (with_reducible refine Ext.trans ?_ (by with_reducible assumption))))⟩
theorem en_AreaOf1 (args : Array Value) (w : World) : (callFunc 99 args).run Tryz.prog w = .ok (.enter 99 args) w := enters_isSome Tryz.func99 (by kernel_rfl) (by kernel_rfl) args w
set_option maxHeartbeats 1600000 in
theorem i_Distance1 (A' : Option Addr) (c' : Nat) (vs : List Vw) (a a2 k b5 b6 b7 : Nat) (w : World) (h' : SlAt w 2 encV A' vs) (hv : Views w vs) (ha : a < vs.length) (ha2 : a2 < vs.length) (hk : k < (vs.getD a vwD).2.2.2.length) (hk2 : k < (vs.getD a2 vwD).2.2.2.length)
    (h5 : w.cell? ⟨b5, 0, none⟩ = some (.slice A' vs.length c')) (h6 : w.cell? ⟨b6, 0, none⟩ = some (.int .i64 a)) (h7 : w.cell? ⟨b7, 0, none⟩ = some (.int .i64 a2)) :
    Calls Tryz.prog 100 #[.int .i64 k, .pointer (some ⟨b5, 0, none⟩), .pointer (some ⟨b6, 0, none⟩), .pointer (some ⟨b7, 0, none⟩)] w fun e w' => e = .returned (.bool (fD (voOf vs) a a2 k)) ∧ Ext w w' := by
  have e5 : b5 < w.heap.size := World.block_lt_of_cell? _ _ h5
  have e6 : b6 < w.heap.size := World.block_lt_of_cell? _ _ h6
  have e7 : b7 < w.heap.size := World.block_lt_of_cell? _ _ h7
  obtain ⟨b, off, rfl, hb, d0, d1⟩ := h'.vw ha
  have hd := h'.vw' ha2
  obtain ⟨g0, g1⟩ := hd
  have HC := Lib.hid (fun W hx => i_tells (vs.getD a vwD) (vs.getD a2 vwD) k W ((hv _ (vw_mem ha)).1.ext hx) ((hv _ (vw_mem ha2)).1.ext hx) hk hk2)
  rw [fD_at ha ha2]
  generalize vs.getD a vwD = v at *
  generalize vs.getD a2 vwD = u at *
  generalize tx (v.2.2.2.getD k []) = t at *
  generalize tx (u.2.2.2.getD k []) = t2 at *
  clear hv h'
  go_enter Tryz.func100, Tryz.ntmps100
  go_wp2
  (refine wp_region_ext (by kernel_rfl) (by kernel_rfl) ?_; (repeat (go_big_quiet_step ((go_at_call 101; exact Calls_ext (HC.out _ (ExtOf.ext _)))))); refine wpQuiet_nil ?_; intro wq hxwq; obtain ⟨hcwq, hfwq⟩ := hxwq.rules; have hswq := hxwq.size; (try simp at hswq))
  go_wp2
  go_ret
  exact ⟨rfl, by (repeat (first | with_reducible exact Ext.refl _ | with_reducible assumption | ((with_reducible apply Src.ext); with_reducible assumption) | with_reducible refine Ext.alloc ?_ _ | with_reducible refine Ext.drew ?_ | with_reducible refine Ext.drewN ?_ _ | ((with_reducible refine Ext.setCell' ?_ ?_ _); solve | omega | simp | (simp; omega)) | (with_reducible refine Ext.trans ?_ (by with_reducible assumption))))⟩
theorem en_Distance1 (args : Array Value) (w : World) : (callFunc 100 args).run Tryz.prog w = .ok (.enter 100 args) w := enters_isSome Tryz.func100 (by kernel_rfl) (by kernel_rfl) args w
theorem in_nat {a : Int} {n : Nat} (h : inB a 0 ((n : Int) - 1) = true) : ∃ m : Nat, a = (m : Int) ∧ m < n := by
  simp [inB] at h
  exact ⟨a.toNat, by omega, by omega⟩
set_option maxRecDepth 20000 in
set_option maxHeartbeats 6400000 in
theorem i_AreaOf (A A' : Option Addr) (c c' : Nat) (rs : List Rg) (vs : List Vw) (a : Int) (own : ByteArray) (w : World) (h : SlAt w 1 encR A rs) (hr : Rings w rs) (hl : rs.length ≤ 1048576) (hc : rs.length ≤ c) (h' : SlAt w 2 encV A' vs) (hv : Views w vs) (hl' : vs.length ≤ 1048576) :
    Calls Tryz.prog 38 #[.slice A rs.length c, .slice A' vs.length c', .int .i64 a, .string own] w fun e w' => e = .returned (.tuple #[.int .i64 (arR (psOf rs) (voOf vs) [a] (fA (voOf vs) a.toNat own)), .int .i64 (viC (psOf rs) (voOf vs) [a])]) ∧ Ext w w' := by
  by_cases hcd : viC (psOf rs) (voOf vs) [a] = 0
  · rw [show arR (psOf rs) (voOf vs) [a] (fA (voOf vs) a.toNat own) = arI (psOf rs) (fA (voOf vs) a.toNat own) rs.length by unfold arR; rw [if_pos hcd, psOf_len], hcd]
    obtain ⟨hvb, hin⟩ := viC_zero hcd
    rw [voOf_len] at hin
    simp only [List.all_cons, List.all_nil, Bool.and_true] at hin
    obtain ⟨m, rfl, hm⟩ := in_nat hin
    simp only [Int.toNat_natCast] at *
    have HC : Hid (∀ Ai ci W, Ext w W → SlAt W 1 encI Ai [(m : Int)] → Calls Tryz.prog 97 #[.slice A rs.length c, .slice A' vs.length c', .slice Ai 1 ci] W fun e w' => e = .returned (.int .i64 0) ∧ Ext W w') := Lib.hid fun Ai ci W hx hS => as_int0 (i_viewCode A A' Ai c c' 1 ci rs vs [(m : Int)] W (h.ext hx) (hr.ext hx) hl hc (h'.ext hx) (hv.ext hx) hl' hS rfl (by omega)) hcd
    have HM := Lib.hid (viB_map hvb).1
    have HCL : Hid (∀ W0, Ext w W0 → Blk W0 w.heap.size 49 #[.slice A' vs.length c'] → Blk W0 (w.heap.size + 1) 2 #[.int .i64 m] → Blk W0 (w.heap.size + 1 + 1) 9 #[.string own] → ∀ k : Nat, k < rs.length → ∀ W, Ext W0 W →
        Calls Tryz.prog 99 (#[.int .i64 k] ++ #[.pointer (some ⟨w.heap.size, 0, none⟩), .pointer (some ⟨w.heap.size + 1, 0, none⟩), .pointer (some ⟨w.heap.size + 1 + 1, 0, none⟩)]) W fun e w' => e = .returned (.bool ((fA (voOf vs) m own) k)) ∧ Ext W w') := Lib.hid fun W0 hX B5 B6 B7 k hk W hx =>
      i_AreaOf1 A' c' vs own m k w.heap.size (w.heap.size + 1) (w.heap.size + 1 + 1) W (h'.ext (hX.trans hx)) (hv.ext (hX.trans hx)) hm (by rw [viB_len hvb hm]; exact hk) ((hx.cell _ _ B5.lt).trans (B5.cell 0)) ((hx.cell _ _ B6.lt).trans (B6.cell 0)) ((hx.cell _ _ B7.lt).trans (B7.cell 0))
    clear hcd hin hvb h' hv
    go_enter Tryz.func38, Tryz.ntmps38
    go_wp2_with fail
    refine (HC.out _ _ _ (by (repeat (first | with_reducible exact Ext.refl _ | with_reducible assumption | ((with_reducible apply Src.ext); with_reducible assumption) | with_reducible refine Ext.alloc ?_ _ | with_reducible refine Ext.drew ?_ | with_reducible refine Ext.drewN ?_ _ | ((with_reducible refine Ext.setCell' ?_ ?_ _); solve | omega | simp | (simp; omega)) | (with_reducible refine Ext.trans ?_ (by with_reducible assumption))))) (blk_i1 (by (repeat (first | with_reducible assumption | ((with_reducible apply Blk.new); solve | simp | rfl) | with_reducible apply Blk.drew | with_reducible apply Blk.drewN | ((with_reducible apply Blk.far'); solve | omega | simp | (simp; omega)) | with_reducible apply Blk.set_ | with_reducible apply Blk.alloc | ((with_reducible apply Blk.ext'); with_reducible assumption) | ((with_reducible apply Blk.but'); (with_reducible assumption); solve | omega | (simp; omega))))))).mono ?_
    rintro e w1 ⟨rfl, hx1⟩
    obtain ⟨hc1, hf1⟩ := hx1.rules
    have hs1 := hx1.size
    (try simp at hs1)
    have := (show w.heap.size < w1.heap.size from by omega)
    have := (show w.heap.size + 1 < w1.heap.size from by omega)
    have := (show w.heap.size + 1 + 1 < w1.heap.size from by omega)
    have HB := Lib.hid (HCL.out w1 (by (repeat (first | with_reducible exact Ext.refl _ | with_reducible assumption | ((with_reducible apply Src.ext); with_reducible assumption) | with_reducible refine Ext.alloc ?_ _ | with_reducible refine Ext.drew ?_ | with_reducible refine Ext.drewN ?_ _ | ((with_reducible refine Ext.setCell' ?_ ?_ _); solve | omega | simp | (simp; omega)) | (with_reducible refine Ext.trans ?_ (by with_reducible assumption))))) (Blk.eq (by (repeat (first | with_reducible assumption | ((with_reducible apply Blk.new); solve | simp | rfl) | with_reducible apply Blk.drew | with_reducible apply Blk.drewN | ((with_reducible apply Blk.far'); solve | omega | simp | (simp; omega)) | with_reducible apply Blk.set_ | with_reducible apply Blk.alloc | ((with_reducible apply Blk.ext'); with_reducible assumption) | ((with_reducible apply Blk.but'); (with_reducible assumption); solve | omega | (simp; omega))))) (by rfl)) (Blk.eq (by (repeat (first | with_reducible assumption | ((with_reducible apply Blk.new); solve | simp | rfl) | with_reducible apply Blk.drew | with_reducible apply Blk.drewN | ((with_reducible apply Blk.far'); solve | omega | simp | (simp; omega)) | with_reducible apply Blk.set_ | with_reducible apply Blk.alloc | ((with_reducible apply Blk.ext'); with_reducible assumption) | ((with_reducible apply Blk.but'); (with_reducible assumption); solve | omega | (simp; omega))))) (by rfl)) (Blk.eq (by (repeat (first | with_reducible assumption | ((with_reducible apply Blk.new); solve | simp | rfl) | with_reducible apply Blk.drew | with_reducible apply Blk.drewN | ((with_reducible apply Blk.far'); solve | omega | simp | (simp; omega)) | with_reducible apply Blk.set_ | with_reducible apply Blk.alloc | ((with_reducible apply Blk.ext'); with_reducible assumption) | ((with_reducible apply Blk.but'); (with_reducible assumption); solve | omega | (simp; omega))))) (by rfl)))
    go_wp2_with fail
    refine (i_areaOf _ _ rs (fA (voOf vs) m own) _ _ en_AreaOf1 _ (h.ext (by (repeat (first | with_reducible exact Ext.refl _ | with_reducible assumption | ((with_reducible apply Src.ext); with_reducible assumption) | with_reducible refine Ext.alloc ?_ _ | with_reducible refine Ext.drew ?_ | with_reducible refine Ext.drewN ?_ _ | ((with_reducible refine Ext.setCell' ?_ ?_ _); solve | omega | simp | (simp; omega)) | (with_reducible refine Ext.trans ?_ (by with_reducible assumption)))))) (hr.ext (by (repeat (first | with_reducible exact Ext.refl _ | with_reducible assumption | ((with_reducible apply Src.ext); with_reducible assumption) | with_reducible refine Ext.alloc ?_ _ | with_reducible refine Ext.drew ?_ | with_reducible refine Ext.drewN ?_ _ | ((with_reducible refine Ext.setCell' ?_ ?_ _); solve | omega | simp | (simp; omega)) | (with_reducible refine Ext.trans ?_ (by with_reducible assumption)))))) HM.out HB.out).mono ?_
    rintro e w2 ⟨rfl, hx2⟩
    go_wp2
    go_ret2
    exact ⟨rfl, by (repeat (first | with_reducible exact Ext.refl _ | with_reducible assumption | ((with_reducible apply Src.ext); with_reducible assumption) | with_reducible refine Ext.alloc ?_ _ | with_reducible refine Ext.drew ?_ | with_reducible refine Ext.drewN ?_ _ | ((with_reducible refine Ext.setCell' ?_ ?_ _); solve | omega | simp | (simp; omega)) | (with_reducible refine Ext.trans ?_ (by with_reducible assumption))))⟩
  · rw [show arR (psOf rs) (voOf vs) [a] (fA (voOf vs) a.toNat own) = 0 by unfold arR; rw [if_neg hcd]]
    have HC : Hid (∀ Ai ci W, Ext w W → SlAt W 1 encI Ai [a] → Calls Tryz.prog 97 #[.slice A rs.length c, .slice A' vs.length c', .slice Ai 1 ci] W fun e w' => e = .returned (.int .i64 (viC (psOf rs) (voOf vs) [a])) ∧ Ext W w') := Lib.hid fun Ai ci W hx hS => i_viewCode A A' Ai c c' 1 ci rs vs [a] W (h.ext hx) (hr.ext hx) hl hc (h'.ext hx) (hv.ext hx) hl' hS rfl (by omega)
    generalize viC (psOf rs) (voOf vs) [a] = q at *
    have hne : (q != 0) = true := by simpa using hcd
    clear hcd h hr h' hv
    go_enter Tryz.func38, Tryz.ntmps38
    go_wp2_with fail
    refine (HC.out _ _ _ (by (repeat (first | with_reducible exact Ext.refl _ | with_reducible assumption | ((with_reducible apply Src.ext); with_reducible assumption) | with_reducible refine Ext.alloc ?_ _ | with_reducible refine Ext.drew ?_ | with_reducible refine Ext.drewN ?_ _ | ((with_reducible refine Ext.setCell' ?_ ?_ _); solve | omega | simp | (simp; omega)) | (with_reducible refine Ext.trans ?_ (by with_reducible assumption))))) (blk_i1 (by (repeat (first | with_reducible assumption | ((with_reducible apply Blk.new); solve | simp | rfl) | with_reducible apply Blk.drew | with_reducible apply Blk.drewN | ((with_reducible apply Blk.far'); solve | omega | simp | (simp; omega)) | with_reducible apply Blk.set_ | with_reducible apply Blk.alloc | ((with_reducible apply Blk.ext'); with_reducible assumption) | ((with_reducible apply Blk.but'); (with_reducible assumption); solve | omega | (simp; omega))))))).mono ?_
    rintro e w1 ⟨rfl, hx1⟩
    go_wp2
    go_ret2
    exact ⟨rfl, by (repeat (first | with_reducible exact Ext.refl _ | with_reducible assumption | ((with_reducible apply Src.ext); with_reducible assumption) | with_reducible refine Ext.alloc ?_ _ | with_reducible refine Ext.drew ?_ | with_reducible refine Ext.drewN ?_ _ | ((with_reducible refine Ext.setCell' ?_ ?_ _); solve | omega | simp | (simp; omega)) | (with_reducible refine Ext.trans ?_ (by with_reducible assumption))))⟩
set_option maxRecDepth 20000 in
set_option maxHeartbeats 6400000 in
theorem s_AreaOf (A A' : Option Addr) (c c' : Nat) (rs : List Rg) (vs : List Vw) (a : Int) (own : ByteArray) (w : World) (h : SlAt w 1 encR A rs) (hr : Rings w rs) (hl : rs.length ≤ 1048576) (h' : SlAt w 2 encV A' vs) (hv : Views w vs) (hl' : vs.length ≤ 1048576) :
    Calls Tryz.prog 37 #[.slice A rs.length c, .slice A' vs.length c', .int .i64 a, .string own] w fun e w' => e = .returned (.tuple #[.int .i64 (arR (psOf rs) (voOf vs) [a] (fA (voOf vs) a.toNat own)), .int .i64 (viC (psOf rs) (voOf vs) [a])]) ∧ Ext w w' := by
  by_cases hcd : viC (psOf rs) (voOf vs) [a] = 0
  · rw [show arR (psOf rs) (voOf vs) [a] (fA (voOf vs) a.toNat own) = arI (psOf rs) (fA (voOf vs) a.toNat own) rs.length by unfold arR; rw [if_pos hcd, psOf_len], hcd]
    obtain ⟨hvb, hin⟩ := viC_zero hcd
    rw [voOf_len] at hin
    simp only [List.all_cons, List.all_nil, Bool.and_true] at hin
    obtain ⟨m, rfl, hm⟩ := in_nat hin
    simp only [Int.toNat_natCast] at *
    have hcall := s_l18View A A' c c' rs vs (m : Int) (m : Int) w h hr hl h' hv hl'
    rw [viC_two] at hcall
    rw [hcd] at hcall
    have HC := Lib.hid hcall
    have HM := Lib.hid (viB_map hvb).1
    have HVB := Lib.hid hvb
    clear hcd hin hvb hcall
    go_enter Tryz.func37, Tryz.ntmps37
    go_wp2_with fail
    refine HC.out.mono ?_
    rintro e w1 ⟨rfl, hx1⟩
    go_wp2
    go_loopw [11, 12] (fun s i wr => ∃ k : Nat, k ≤ rs.length ∧ i = .int .i64 k ∧ s = .int .i64 (arI (psOf rs) (fA (voOf vs) m own) k) ∧ Ext w wr) (fun _ i _ => rs.length - (intOf i).toNat)
    case atStart => exact ⟨0, by omega, rfl, rfl, by (repeat (first | with_reducible exact Ext.refl _ | with_reducible assumption | ((with_reducible apply Src.ext); with_reducible assumption) | with_reducible refine Ext.alloc ?_ _ | with_reducible refine Ext.drew ?_ | with_reducible refine Ext.drewN ?_ _ | ((with_reducible refine Ext.setCell' ?_ ?_ _); solve | omega | simp | (simp; omega)) | (with_reducible refine Ext.trans ?_ (by with_reducible assumption))))⟩
    case round =>
      obtain ⟨k, hk, rfl, rfl, hxr⟩ := hrel
      have hsb := arI_bd HM.out (fA (voOf vs) m own) k (by rw [psOf_len]; exact hk)
      have h6 := HM.out.1
      rw [psOf_len] at h6
      by_cases hlt : k < rs.length
      · obtain ⟨b, off, rfl, hb, hcell⟩ := (h.ext hxr).rg hlt
        have hrk := hr _ (rg_mem hlt)
        have hring := HM.out.2.1 k (by rw [psOf_len]; exact hlt)
        rw [psOf_at hlt] at hring
        have hsu := arI_succ (psOf rs) (fA (voOf vs) m own) k
        rw [psOf_at hlt, fA_at hm] at hsu
        obtain ⟨bv, offv, rfl, hbv, d0, d1⟩ := (h'.ext hxr).vw hm
        have hvl := viB_len HVB.out hm
        obtain ⟨b2, off2, hA2, hb2, f0⟩ := ((hv.ext hxr) _ (vw_mem hm)).1.st (k := k) (by rw [hvl]; exact hlt)
        rw [hA2] at d1
        obtain ⟨r, hre⟩ : ∃ r, r = rs.getD k rgD := ⟨_, rfl⟩
        rw [← hre] at hcell hrk hring hsu
        clear hre hA2
        have hbd := areaA_bd hring
        have HR := Lib.hid hring
        have HK := Lib.hid hrk
        have HVL := Lib.hid hvl
        clear hring hrk hvl
        generalize vs.getD m vwD = v at *
        have hkl : k < v.2.2.2.length := by have := HVL.out; omega
        generalize tx (v.2.2.2.getD k []) = t at *
        cases hq : (t.toList == own.toList) with
        | false =>
          rw [hq] at hsu
          have HS := Lib.hid hsu
          clear hsu
          go_wp2
          go_roundw
          case rel => exact ⟨k + 1, by omega, by go_num, by rw [HS.out]; simp, by (repeat (first | with_reducible exact Ext.refl _ | with_reducible assumption | ((with_reducible apply Src.ext); with_reducible assumption) | with_reducible refine Ext.alloc ?_ _ | with_reducible refine Ext.drew ?_ | with_reducible refine Ext.drewN ?_ _ | ((with_reducible refine Ext.setCell' ?_ ?_ _); solve | omega | simp | (simp; omega)) | (with_reducible refine Ext.trans ?_ (by with_reducible assumption))))⟩
          case measure => simp [intOf]; omega
        | true =>
          rw [hq] at hsu
          have HS := Lib.hid hsu
          clear hsu
          (go_wp2_with fail; refine (s_l18Area _ _ r.2.2 _ (HK.out.1.ext (by (repeat (first | with_reducible exact Ext.refl _ | with_reducible assumption | ((with_reducible apply Src.ext); with_reducible assumption) | with_reducible refine Ext.alloc ?_ _ | with_reducible refine Ext.drew ?_ | with_reducible refine Ext.drewN ?_ _ | ((with_reducible refine Ext.setCell' ?_ ?_ _); solve | omega | simp | (simp; omega)) | (with_reducible refine Ext.trans ?_ (by with_reducible assumption)))))) HR.out).mono ?_; rintro e w2 ⟨rfl, hx2⟩; obtain ⟨hc2, hf2⟩ := hx2.rules; have hs2 := hx2.size; (try simp at hs2))
          go_wp2
          go_roundw
          case rel => exact ⟨k + 1, by omega, by go_num, by rw [HS.out]; simp, by (repeat (first | with_reducible exact Ext.refl _ | with_reducible assumption | ((with_reducible apply Src.ext); with_reducible assumption) | with_reducible refine Ext.alloc ?_ _ | with_reducible refine Ext.drew ?_ | with_reducible refine Ext.drewN ?_ _ | ((with_reducible refine Ext.setCell' ?_ ?_ _); solve | omega | simp | (simp; omega)) | (with_reducible refine Ext.trans ?_ (by with_reducible assumption))))⟩
          case measure => simp [intOf]; omega
      · obtain rfl : k = rs.length := by omega
        go_wp2
        go_ret2
        exact ⟨rfl, by (repeat (first | with_reducible exact Ext.refl _ | with_reducible assumption | ((with_reducible apply Src.ext); with_reducible assumption) | with_reducible refine Ext.alloc ?_ _ | with_reducible refine Ext.drew ?_ | with_reducible refine Ext.drewN ?_ _ | ((with_reducible refine Ext.setCell' ?_ ?_ _); solve | omega | simp | (simp; omega)) | (with_reducible refine Ext.trans ?_ (by with_reducible assumption))))⟩
  · rw [show arR (psOf rs) (voOf vs) [a] (fA (voOf vs) a.toNat own) = 0 by unfold arR; rw [if_neg hcd]]
    have hcall := s_l18View A A' c c' rs vs a a w h hr hl h' hv hl'
    rw [viC_two] at hcall
    have HC := Lib.hid hcall
    generalize viC (psOf rs) (voOf vs) [a] = q at *
    have hne : (q != 0) = true := by simpa using hcd
    clear hcd h hr h' hv hcall
    go_enter Tryz.func37, Tryz.ntmps37
    go_wp2_with fail
    refine HC.out.mono ?_
    rintro e w1 ⟨rfl, hx1⟩
    go_wp2
    go_ret2
    exact ⟨rfl, by (repeat (first | with_reducible exact Ext.refl _ | with_reducible assumption | ((with_reducible apply Src.ext); with_reducible assumption) | with_reducible refine Ext.alloc ?_ _ | with_reducible refine Ext.drew ?_ | with_reducible refine Ext.drewN ?_ _ | ((with_reducible refine Ext.setCell' ?_ ?_ _); solve | omega | simp | (simp; omega)) | (with_reducible refine Ext.trans ?_ (by with_reducible assumption))))⟩

theorem s_AreaOf' (A A' : Option Addr) (n m c c' : Nat) (rs : List Rg) (vs : List Vw) (a : Int) (own : ByteArray) (w : World) (h : SlAt w 1 encR A rs) (hr : Rings w rs) (hl : rs.length ≤ 1048576) (h' : SlAt w 2 encV A' vs) (hv : Views w vs) (hl' : vs.length ≤ 1048576) (hn : n = rs.length) (hm : m = vs.length) :
    Calls Tryz.prog 37 #[.slice A n c, .slice A' m c', .int .i64 a, .string own] w fun e w' => e = .returned (.tuple #[.int .i64 (arR (psOf rs) (voOf vs) [a] (fA (voOf vs) a.toNat own)), .int .i64 (viC (psOf rs) (voOf vs) [a])]) ∧ Ext w w' := by
  subst hn hm
  exact s_AreaOf A A' c c' rs vs a own w h hr hl h' hv hl'

theorem i_AreaOf' (A A' : Option Addr) (n m c c' : Nat) (rs : List Rg) (vs : List Vw) (a : Int) (own : ByteArray) (w : World) (h : SlAt w 1 encR A rs) (hr : Rings w rs) (hl : rs.length ≤ 1048576) (hc : rs.length ≤ c) (h' : SlAt w 2 encV A' vs) (hv : Views w vs) (hl' : vs.length ≤ 1048576) (hn : n = rs.length) (hm : m = vs.length) :
    Calls Tryz.prog 38 #[.slice A n c, .slice A' m c', .int .i64 a, .string own] w fun e w' => e = .returned (.tuple #[.int .i64 (arR (psOf rs) (voOf vs) [a] (fA (voOf vs) a.toNat own)), .int .i64 (viC (psOf rs) (voOf vs) [a])]) ∧ Ext w w' := by
  subst hn hm
  exact i_AreaOf A A' c c' rs vs a own w h hr hl hc h' hv hl'

set_option maxRecDepth 20000 in
set_option maxHeartbeats 6400000 in
theorem fnExactAreaOf_walk (A : Option Addr) (c : Nat) (rs : List Rg) (A' : Option Addr) (c' : Nat) (vs : List Vw) (a : Int) (own : ByteArray) (w : World) (h : ArgR w A rs) (h' : ArgV w A' vs) (_hso : own.size ≤ maxLen) :
    Calls Tryz.prog 7 #[.slice A rs.length c, .slice A' vs.length c', .int .i64 a, .string own] w fun e w' => e = .returned (.bool true) ∧ Ext w w' := by
  by_cases hos : 1048576 < own.size
  · go_enter Tryz.func7, Tryz.ntmps7
    go_wp2
    go_ret
    exact ⟨rfl, by (repeat (first | with_reducible exact Ext.refl _ | with_reducible assumption | ((with_reducible apply Src.ext); with_reducible assumption) | with_reducible refine Ext.alloc ?_ _ | with_reducible refine Ext.drew ?_ | with_reducible refine Ext.drewN ?_ _ | ((with_reducible refine Ext.setCell' ?_ ?_ _); solve | omega | simp | (simp; omega)) | (with_reducible refine Ext.trans ?_ (by with_reducible assumption))))⟩
  go_enter Tryz.func7, Tryz.ntmps7
  go_wp2_with fail
  refine (l_szPointSS _ _ rs 1048576 _ h.sl h.len h.lens (by omega) (by omega)).mono ?_
  rintro e w' ⟨⟨z, rfl, hz1, hz⟩, rfl⟩
  rcases hz with rfl | ⟨hz0, hl, hs, _⟩
  · go_wp2
    go_ret
    exact ⟨rfl, Ext.refl _⟩
  have HS := Lib.hid hs
  clear hs
  go_wp2_with fail
  refine (l_szViewS _ _ vs z _ h'.sl h'.len h'.rg hz0 hz1).mono ?_
  rintro e w0 ⟨⟨z2, rfl, hz2, hzz⟩, hx0⟩
  rcases hzz with rfl | ⟨hz3, hvl, hg⟩
  · go_wp2
    go_ret
    exact ⟨rfl, hx0⟩
  · have HG := Lib.hid hg
    clear hg
    go_wp2_with fail
    refine (l_toPointSS _ _ rs _ (h.ext hx0).sl (h.ext hx0).rg hl HS.out).mono ?_
    rintro e w1 ⟨q1, cs1, rfl, hq1, hp1, hB1, hc1, hO1, hx1⟩
    have HP1 := Lib.hid hp1
    have HC1 := Lib.hid hc1
    have HQ1 := Lib.hid hq1
    have HO1 := Lib.hid hO1
    have HB1 := Lib.hid hB1
    clear hp1 hc1 hO1 hq1 hB1
    go_wp2_with fail
    refine (l_toViewS _ _ vs _ (h'.ext (hx0.trans hx1)).sl (fun i hi => ((h'.ext (hx0.trans hx1)).rg i hi).1) hvl HG.out).mono ?_
    rintro e w2 ⟨q2, cs2, rfl, hq2, hp2, hB2, hc2, hO2, hx2⟩
    have HP2 := Lib.hid hp2
    have HC2 := Lib.hid hc2
    have HQ2 := Lib.hid hq2
    have HO2 := Lib.hid hO2
    have HB2 := Lib.hid hB2
    clear hp2 hc2 hO2 hq2 hB2
    go_wp2_with fail
    refine (s_AreaOf' _ _ rs.length vs.length _ _ q1 q2 a own _ ((HB1.out.ext hx2).sl HC1.out len_encR) (HO1.out.ext hx2).rings (by rw [HQ1.out]; exact hl) (HB2.out.sl HC2.out len_encV) HO2.out.views (by rw [HQ2.out]; exact hvl) HQ1.out.symm HQ2.out.symm).mono ?_
    rw [HP1.out, HP2.out]
    rintro e w3 ⟨rfl, hx3⟩
    have hX3 := ((hx0.trans hx1).trans hx2).trans hx3
    go_wp2_with fail
    refine (l_toPointSS _ _ rs _ (h.ext hX3).sl (h.ext hX3).rg hl HS.out).mono ?_
    rintro e w4 ⟨q4, cs4, rfl, hq4, hp4, hB4, hc4, hO4, hx4⟩
    have HP4 := Lib.hid hp4
    have HC4 := Lib.hid hc4
    have HQ4 := Lib.hid hq4
    have HO4 := Lib.hid hO4
    have HB4 := Lib.hid hB4
    clear hp4 hc4 hO4 hq4 hB4
    go_wp2_with fail
    refine (l_toViewS _ _ vs _ (h'.ext (hX3.trans hx4)).sl (fun i hi => ((h'.ext (hX3.trans hx4)).rg i hi).1) hvl HG.out).mono ?_
    rintro e w5 ⟨q5, cs5, rfl, hq5, hp5, hB5, hc5, hO5, hx5⟩
    have HP5 := Lib.hid hp5
    have HC5 := Lib.hid hc5
    have HQ5 := Lib.hid hq5
    have HO5 := Lib.hid hO5
    have HB5 := Lib.hid hB5
    clear hp5 hc5 hO5 hq5 hB5
    go_wp2_with fail
    refine (i_AreaOf' _ _ rs.length vs.length _ _ q4 q5 a own _ ((HB4.out.ext hx5).sl HC4.out len_encR) (HO4.out.ext hx5).rings (by rw [HQ4.out]; exact hl) (by rw [HQ4.out]; exact Nat.le_refl _) (HB5.out.sl HC5.out len_encV) HO5.out.views (by rw [HQ5.out]; exact hvl) HQ4.out.symm HQ5.out.symm).mono ?_
    rw [HP4.out, HP5.out]
    rintro e w6 ⟨rfl, hx6⟩
    have hX6 := ((hX3.trans hx4).trans hx5).trans hx6
    generalize arR (psOf rs) (voOf vs) [a] (fA (voOf vs) a.toNat own) = q1r at *
    generalize viC (psOf rs) (voOf vs) [a] = q2r at *
    have hvb : (q1r != q1r) = false := by simp
    have hvb2 : (q2r != q2r) = false := by simp
    go_wp2_with fail
    refine (l_toPointSS _ _ rs _ (h.ext hX6).sl (h.ext hX6).rg hl HS.out).mono ?_
    rintro e w7 ⟨q7, cs7, rfl, hq7, hp7, hB7, hc7, hO7, hx7⟩
    have HP7 := Lib.hid hp7
    have HC7 := Lib.hid hc7
    have HQ7 := Lib.hid hq7
    have HO7 := Lib.hid hO7
    have HB7 := Lib.hid hB7
    clear hp7 hc7 hO7 hq7 hB7
    go_wp2_with fail
    refine (l_eqSS _ _ _ _ _ q4 q7 _ (((HB4.out.ext hx5).ext hx6).ext hx7 |>.sl HC4.out len_encR) (HB7.out.sl HC7.out len_encR) (((HO4.out.ext hx5).ext hx6).ext hx7).rings HO7.out.rings (by rw [HP4.out, HP7.out]) HQ4.out.symm hl).mono ?_
    rintro e w8 ⟨rfl, hx8⟩
    go_wp2_with fail
    refine (l_toViewS _ _ vs _ (h'.ext ((hX6.trans hx7).trans hx8)).sl (fun i hi => ((h'.ext ((hX6.trans hx7).trans hx8)).rg i hi).1) hvl HG.out).mono ?_
    rintro e w9 ⟨q9, cs9, rfl, hq9, hp9, hB9, hc9, hO9, hx9⟩
    have HP9 := Lib.hid hp9
    have HC9 := Lib.hid hc9
    have HQ9 := Lib.hid hq9
    have HO9 := Lib.hid hO9
    have HB9 := Lib.hid hB9
    clear hp9 hc9 hO9 hq9 hB9
    go_wp2_with fail
    refine (l_eqViewS _ _ _ _ _ q5 q9 _ ((((HB5.out.ext hx6).ext hx7).ext hx8).ext hx9 |>.sl HC5.out len_encV) (HB9.out.sl HC9.out len_encV) ((((HO5.out.ext hx6).ext hx7).ext hx8).ext hx9).views HO9.out.views (by rw [HP5.out, HP9.out]) HQ5.out.symm hvl).mono ?_
    rintro e w10 ⟨rfl, hx10⟩
    go_wp2
    go_ret
    exact ⟨rfl, (((hX6.trans hx7).trans hx8).trans hx9).trans hx10⟩

end Go.Proofs.YtdbheipjbjcikaaGreatDoor
namespace Go.Proofs.YtdbheipjbjcikaaGreatDoor
open Go.RowKit
attribute [local go_sem] ExtOf.cell ExtOf.frozen
set_option maxRecDepth 20000 in
set_option maxHeartbeats 6400000 in
theorem i_DistanceOfViews (A A' : Option Addr) (c c' : Nat) (rs : List Rg) (vs : List Vw) (a a2 : Int) (w : World) (h : SlAt w 1 encR A rs) (hr : Rings w rs) (hl : rs.length ≤ 1048576) (hc : rs.length ≤ c) (h' : SlAt w 2 encV A' vs) (hv : Views w vs) (hl' : vs.length ≤ 1048576) :
    Calls Tryz.prog 40 #[.slice A rs.length c, .slice A' vs.length c', .int .i64 a, .int .i64 a2] w fun e w' => e = .returned (.tuple #[.int .i64 (arR (psOf rs) (voOf vs) [a, a2] (fD (voOf vs) a.toNat a2.toNat)), .int .i64 (viC (psOf rs) (voOf vs) [a, a2])]) ∧ Ext w w' := by
  by_cases hcd : viC (psOf rs) (voOf vs) [a, a2] = 0
  · rw [show arR (psOf rs) (voOf vs) [a, a2] (fD (voOf vs) a.toNat a2.toNat) = arI (psOf rs) (fD (voOf vs) a.toNat a2.toNat) rs.length by unfold arR; rw [if_pos hcd, psOf_len], hcd]
    obtain ⟨hvb, hin⟩ := viC_zero hcd
    rw [voOf_len] at hin
    simp only [List.all_cons, List.all_nil, Bool.and_true, Bool.and_eq_true] at hin
    obtain ⟨m, rfl, hm⟩ := in_nat hin.1
    obtain ⟨m2, rfl, hm2⟩ := in_nat hin.2
    simp only [Int.toNat_natCast] at *
    have HC : Hid (∀ Ai ci W, Ext w W → SlAt W 1 encI Ai [(m : Int), (m2 : Int)] → Calls Tryz.prog 97 #[.slice A rs.length c, .slice A' vs.length c', .slice Ai 2 ci] W fun e w' => e = .returned (.int .i64 0) ∧ Ext W w') := Lib.hid fun Ai ci W hx hS => as_int0 (i_viewCode A A' Ai c c' 2 ci rs vs [(m : Int), (m2 : Int)] W (h.ext hx) (hr.ext hx) hl hc (h'.ext hx) (hv.ext hx) hl' hS rfl (by omega)) hcd
    have HM := Lib.hid (viB_map hvb).1
    have HCL : Hid (∀ W0, Ext w W0 → Blk W0 w.heap.size 49 #[.slice A' vs.length c'] → Blk W0 (w.heap.size + 1) 2 #[.int .i64 m] → Blk W0 (w.heap.size + 1 + 1) 2 #[.int .i64 m2] → ∀ k : Nat, k < rs.length → ∀ W, Ext W0 W →
        Calls Tryz.prog 100 (#[.int .i64 k] ++ #[.pointer (some ⟨w.heap.size, 0, none⟩), .pointer (some ⟨w.heap.size + 1, 0, none⟩), .pointer (some ⟨w.heap.size + 1 + 1, 0, none⟩)]) W fun e w' => e = .returned (.bool ((fD (voOf vs) m m2) k)) ∧ Ext W w') := Lib.hid fun W0 hX B5 B6 B7 k hk W hx =>
      i_Distance1 A' c' vs m m2 k w.heap.size (w.heap.size + 1) (w.heap.size + 1 + 1) W (h'.ext (hX.trans hx)) (hv.ext (hX.trans hx)) hm hm2 (by rw [viB_len hvb hm]; exact hk) (by rw [viB_len hvb hm2]; exact hk) ((hx.cell _ _ B5.lt).trans (B5.cell 0)) ((hx.cell _ _ B6.lt).trans (B6.cell 0)) ((hx.cell _ _ B7.lt).trans (B7.cell 0))
    clear hcd hin hvb h' hv
    go_enter Tryz.func40, Tryz.ntmps40
    go_wp2_with fail
    refine (HC.out _ _ _ (by (repeat (first | with_reducible exact Ext.refl _ | with_reducible assumption | ((with_reducible apply Src.ext); with_reducible assumption) | with_reducible refine Ext.alloc ?_ _ | with_reducible refine Ext.drew ?_ | with_reducible refine Ext.drewN ?_ _ | ((with_reducible refine Ext.setCell' ?_ ?_ _); solve | omega | simp | (simp; omega)) | (with_reducible refine Ext.trans ?_ (by with_reducible assumption))))) (blk_i2 (by (repeat (first | with_reducible assumption | ((with_reducible apply Blk.new); solve | simp | rfl) | with_reducible apply Blk.drew | with_reducible apply Blk.drewN | ((with_reducible apply Blk.far'); solve | omega | simp | (simp; omega)) | with_reducible apply Blk.set_ | with_reducible apply Blk.alloc | ((with_reducible apply Blk.ext'); with_reducible assumption) | ((with_reducible apply Blk.but'); (with_reducible assumption); solve | omega | (simp; omega))))))).mono ?_
    rintro e w1 ⟨rfl, hx1⟩
    obtain ⟨hc1, hf1⟩ := hx1.rules
    have hs1 := hx1.size
    (try simp at hs1)
    have := (show w.heap.size < w1.heap.size from by omega)
    have := (show w.heap.size + 1 < w1.heap.size from by omega)
    have := (show w.heap.size + 1 + 1 < w1.heap.size from by omega)
    have HB := Lib.hid (HCL.out w1 (by (repeat (first | with_reducible exact Ext.refl _ | with_reducible assumption | ((with_reducible apply Src.ext); with_reducible assumption) | with_reducible refine Ext.alloc ?_ _ | with_reducible refine Ext.drew ?_ | with_reducible refine Ext.drewN ?_ _ | ((with_reducible refine Ext.setCell' ?_ ?_ _); solve | omega | simp | (simp; omega)) | (with_reducible refine Ext.trans ?_ (by with_reducible assumption))))) (Blk.eq (by (repeat (first | with_reducible assumption | ((with_reducible apply Blk.new); solve | simp | rfl) | with_reducible apply Blk.drew | with_reducible apply Blk.drewN | ((with_reducible apply Blk.far'); solve | omega | simp | (simp; omega)) | with_reducible apply Blk.set_ | with_reducible apply Blk.alloc | ((with_reducible apply Blk.ext'); with_reducible assumption) | ((with_reducible apply Blk.but'); (with_reducible assumption); solve | omega | (simp; omega))))) (by rfl)) (Blk.eq (by (repeat (first | with_reducible assumption | ((with_reducible apply Blk.new); solve | simp | rfl) | with_reducible apply Blk.drew | with_reducible apply Blk.drewN | ((with_reducible apply Blk.far'); solve | omega | simp | (simp; omega)) | with_reducible apply Blk.set_ | with_reducible apply Blk.alloc | ((with_reducible apply Blk.ext'); with_reducible assumption) | ((with_reducible apply Blk.but'); (with_reducible assumption); solve | omega | (simp; omega))))) (by rfl)) (Blk.eq (by (repeat (first | with_reducible assumption | ((with_reducible apply Blk.new); solve | simp | rfl) | with_reducible apply Blk.drew | with_reducible apply Blk.drewN | ((with_reducible apply Blk.far'); solve | omega | simp | (simp; omega)) | with_reducible apply Blk.set_ | with_reducible apply Blk.alloc | ((with_reducible apply Blk.ext'); with_reducible assumption) | ((with_reducible apply Blk.but'); (with_reducible assumption); solve | omega | (simp; omega))))) (by rfl)))
    go_wp2_with fail
    refine (i_areaOf _ _ rs (fD (voOf vs) m m2) _ _ en_Distance1 _ (h.ext (by (repeat (first | with_reducible exact Ext.refl _ | with_reducible assumption | ((with_reducible apply Src.ext); with_reducible assumption) | with_reducible refine Ext.alloc ?_ _ | with_reducible refine Ext.drew ?_ | with_reducible refine Ext.drewN ?_ _ | ((with_reducible refine Ext.setCell' ?_ ?_ _); solve | omega | simp | (simp; omega)) | (with_reducible refine Ext.trans ?_ (by with_reducible assumption)))))) (hr.ext (by (repeat (first | with_reducible exact Ext.refl _ | with_reducible assumption | ((with_reducible apply Src.ext); with_reducible assumption) | with_reducible refine Ext.alloc ?_ _ | with_reducible refine Ext.drew ?_ | with_reducible refine Ext.drewN ?_ _ | ((with_reducible refine Ext.setCell' ?_ ?_ _); solve | omega | simp | (simp; omega)) | (with_reducible refine Ext.trans ?_ (by with_reducible assumption)))))) HM.out HB.out).mono ?_
    rintro e w2 ⟨rfl, hx2⟩
    go_wp2
    go_ret2
    exact ⟨rfl, by (repeat (first | with_reducible exact Ext.refl _ | with_reducible assumption | ((with_reducible apply Src.ext); with_reducible assumption) | with_reducible refine Ext.alloc ?_ _ | with_reducible refine Ext.drew ?_ | with_reducible refine Ext.drewN ?_ _ | ((with_reducible refine Ext.setCell' ?_ ?_ _); solve | omega | simp | (simp; omega)) | (with_reducible refine Ext.trans ?_ (by with_reducible assumption))))⟩
  · rw [show arR (psOf rs) (voOf vs) [a, a2] (fD (voOf vs) a.toNat a2.toNat) = 0 by unfold arR; rw [if_neg hcd]]
    have HC : Hid (∀ Ai ci W, Ext w W → SlAt W 1 encI Ai [a, a2] → Calls Tryz.prog 97 #[.slice A rs.length c, .slice A' vs.length c', .slice Ai 2 ci] W fun e w' => e = .returned (.int .i64 (viC (psOf rs) (voOf vs) [a, a2])) ∧ Ext W w') := Lib.hid fun Ai ci W hx hS => i_viewCode A A' Ai c c' 2 ci rs vs [a, a2] W (h.ext hx) (hr.ext hx) hl hc (h'.ext hx) (hv.ext hx) hl' hS rfl (by omega)
    generalize viC (psOf rs) (voOf vs) [a, a2] = q at *
    have hne : (q != 0) = true := by simpa using hcd
    clear hcd h hr h' hv
    go_enter Tryz.func40, Tryz.ntmps40
    go_wp2_with fail
    refine (HC.out _ _ _ (by (repeat (first | with_reducible exact Ext.refl _ | with_reducible assumption | ((with_reducible apply Src.ext); with_reducible assumption) | with_reducible refine Ext.alloc ?_ _ | with_reducible refine Ext.drew ?_ | with_reducible refine Ext.drewN ?_ _ | ((with_reducible refine Ext.setCell' ?_ ?_ _); solve | omega | simp | (simp; omega)) | (with_reducible refine Ext.trans ?_ (by with_reducible assumption))))) (blk_i2 (by (repeat (first | with_reducible assumption | ((with_reducible apply Blk.new); solve | simp | rfl) | with_reducible apply Blk.drew | with_reducible apply Blk.drewN | ((with_reducible apply Blk.far'); solve | omega | simp | (simp; omega)) | with_reducible apply Blk.set_ | with_reducible apply Blk.alloc | ((with_reducible apply Blk.ext'); with_reducible assumption) | ((with_reducible apply Blk.but'); (with_reducible assumption); solve | omega | (simp; omega))))))).mono ?_
    rintro e w1 ⟨rfl, hx1⟩
    go_wp2
    go_ret2
    exact ⟨rfl, by (repeat (first | with_reducible exact Ext.refl _ | with_reducible assumption | ((with_reducible apply Src.ext); with_reducible assumption) | with_reducible refine Ext.alloc ?_ _ | with_reducible refine Ext.drew ?_ | with_reducible refine Ext.drewN ?_ _ | ((with_reducible refine Ext.setCell' ?_ ?_ _); solve | omega | simp | (simp; omega)) | (with_reducible refine Ext.trans ?_ (by with_reducible assumption))))⟩
set_option maxRecDepth 20000 in
set_option maxHeartbeats 6400000 in
theorem s_DistanceOfViews (A A' : Option Addr) (c c' : Nat) (rs : List Rg) (vs : List Vw) (a a2 : Int) (w : World) (h : SlAt w 1 encR A rs) (hr : Rings w rs) (hl : rs.length ≤ 1048576) (h' : SlAt w 2 encV A' vs) (hv : Views w vs) (hl' : vs.length ≤ 1048576) :
    Calls Tryz.prog 39 #[.slice A rs.length c, .slice A' vs.length c', .int .i64 a, .int .i64 a2] w fun e w' => e = .returned (.tuple #[.int .i64 (arR (psOf rs) (voOf vs) [a, a2] (fD (voOf vs) a.toNat a2.toNat)), .int .i64 (viC (psOf rs) (voOf vs) [a, a2])]) ∧ Ext w w' := by
  by_cases hcd : viC (psOf rs) (voOf vs) [a, a2] = 0
  · rw [show arR (psOf rs) (voOf vs) [a, a2] (fD (voOf vs) a.toNat a2.toNat) = arI (psOf rs) (fD (voOf vs) a.toNat a2.toNat) rs.length by unfold arR; rw [if_pos hcd, psOf_len], hcd]
    obtain ⟨hvb, hin⟩ := viC_zero hcd
    rw [voOf_len] at hin
    simp only [List.all_cons, List.all_nil, Bool.and_true, Bool.and_eq_true] at hin
    obtain ⟨m, rfl, hm⟩ := in_nat hin.1
    obtain ⟨m2, rfl, hm2⟩ := in_nat hin.2
    simp only [Int.toNat_natCast] at *
    have hcall := s_l18View A A' c c' rs vs (m : Int) (m2 : Int) w h hr hl h' hv hl'
    rw [hcd] at hcall
    have HC := Lib.hid hcall
    have HM := Lib.hid (viB_map hvb).1
    have HVB := Lib.hid hvb
    clear hcd hin hvb hcall
    go_enter Tryz.func39, Tryz.ntmps39
    go_wp2_with fail
    refine HC.out.mono ?_
    rintro e w1 ⟨rfl, hx1⟩
    go_wp2
    go_loopw [11, 12] (fun s i wr => ∃ k : Nat, k ≤ rs.length ∧ i = .int .i64 k ∧ s = .int .i64 (arI (psOf rs) (fD (voOf vs) m m2) k) ∧ Ext w wr) (fun _ i _ => rs.length - (intOf i).toNat)
    case atStart => exact ⟨0, by omega, rfl, rfl, by (repeat (first | with_reducible exact Ext.refl _ | with_reducible assumption | ((with_reducible apply Src.ext); with_reducible assumption) | with_reducible refine Ext.alloc ?_ _ | with_reducible refine Ext.drew ?_ | with_reducible refine Ext.drewN ?_ _ | ((with_reducible refine Ext.setCell' ?_ ?_ _); solve | omega | simp | (simp; omega)) | (with_reducible refine Ext.trans ?_ (by with_reducible assumption))))⟩
    case round =>
      obtain ⟨k, hk, rfl, rfl, hxr⟩ := hrel
      have hsb := arI_bd HM.out (fD (voOf vs) m m2) k (by rw [psOf_len]; exact hk)
      have h6 := HM.out.1
      rw [psOf_len] at h6
      by_cases hlt : k < rs.length
      · obtain ⟨b, off, rfl, hb, hcell⟩ := (h.ext hxr).rg hlt
        have hrk := hr _ (rg_mem hlt)
        have hring := HM.out.2.1 k (by rw [psOf_len]; exact hlt)
        rw [psOf_at hlt] at hring
        have hsu := arI_succ (psOf rs) (fD (voOf vs) m m2) k
        rw [psOf_at hlt, fD_at hm hm2] at hsu
        obtain ⟨bv, offv, rfl, hbv, d0, d1⟩ := (h'.ext hxr).vw hm
        have hvl := viB_len HVB.out hm
        obtain ⟨b2, off2, hA2, hb2, f0⟩ := ((hv.ext hxr) _ (vw_mem hm)).1.st (k := k) (by rw [hvl]; exact hlt)
        rw [hA2] at d1
        have hdv2 := (h'.ext hxr).vw' hm2
        obtain ⟨g0, g1⟩ := hdv2
        obtain ⟨b3, off3, hA3, hb3, f1⟩ := ((hv.ext hxr) _ (vw_mem hm2)).1.st (k := k) (by rw [viB_len HVB.out hm2]; exact hlt)
        rw [hA3] at g1
        obtain ⟨r, hre⟩ : ∃ r, r = rs.getD k rgD := ⟨_, rfl⟩
        rw [← hre] at hcell hrk hring hsu
        clear hre hA2 hA3
        have hbd := areaA_bd hring
        have HR := Lib.hid hring
        have HK := Lib.hid hrk
        have HVL := Lib.hid hvl
        clear hring hrk hvl
        have HVL2 := Lib.hid (viB_len HVB.out hm2)
        generalize vs.getD m vwD = v at *
        generalize vs.getD m2 vwD = u at *
        have hkl : k < v.2.2.2.length := by have := HVL.out; omega
        have hkl2 : k < u.2.2.2.length := by have := HVL2.out; omega
        generalize tx (v.2.2.2.getD k []) = t at *
        generalize tx (u.2.2.2.getD k []) = t2 at *
        cases hq : (t.toList == t2.toList) with
        | true =>
          rw [hq] at hsu
          have HS := Lib.hid hsu
          clear hsu
          go_wp2
          (refine wp_region_ext (by kernel_rfl) (by kernel_rfl) ?_; (repeat (go_big_quiet_step (fail))); refine wpQuiet_nil ?_; intro wq hxwq; obtain ⟨hcwq, hfwq⟩ := hxwq.rules; have hswq := hxwq.size; (try simp at hswq))
          go_wp2
          go_roundw
          case rel => exact ⟨k + 1, by omega, by go_num, by rw [HS.out]; simp, by (repeat (first | with_reducible exact Ext.refl _ | with_reducible assumption | ((with_reducible apply Src.ext); with_reducible assumption) | with_reducible refine Ext.alloc ?_ _ | with_reducible refine Ext.drew ?_ | with_reducible refine Ext.drewN ?_ _ | ((with_reducible refine Ext.setCell' ?_ ?_ _); solve | omega | simp | (simp; omega)) | (with_reducible refine Ext.trans ?_ (by with_reducible assumption))))⟩
          case measure => simp [intOf]; omega
        | false =>
          rw [hq] at hsu
          have HS := Lib.hid hsu
          clear hsu
          go_wp2
          (refine wp_region_ext (by kernel_rfl) (by kernel_rfl) ?_; (repeat (go_big_quiet_step (fail))); refine wpQuiet_nil ?_; intro wq hxwq; obtain ⟨hcwq, hfwq⟩ := hxwq.rules; have hswq := hxwq.size; (try simp at hswq))
          (go_wp2_with fail; refine (s_l18Area _ _ r.2.2 _ (HK.out.1.ext (by (repeat (first | with_reducible exact Ext.refl _ | with_reducible assumption | ((with_reducible apply Src.ext); with_reducible assumption) | with_reducible refine Ext.alloc ?_ _ | with_reducible refine Ext.drew ?_ | with_reducible refine Ext.drewN ?_ _ | ((with_reducible refine Ext.setCell' ?_ ?_ _); solve | omega | simp | (simp; omega)) | (with_reducible refine Ext.trans ?_ (by with_reducible assumption)))))) HR.out).mono ?_; rintro e w2 ⟨rfl, hx2⟩; obtain ⟨hc2, hf2⟩ := hx2.rules; have hs2 := hx2.size; (try simp at hs2))
          go_wp2
          go_roundw
          case rel => exact ⟨k + 1, by omega, by go_num, by rw [HS.out]; simp, by (repeat (first | with_reducible exact Ext.refl _ | with_reducible assumption | ((with_reducible apply Src.ext); with_reducible assumption) | with_reducible refine Ext.alloc ?_ _ | with_reducible refine Ext.drew ?_ | with_reducible refine Ext.drewN ?_ _ | ((with_reducible refine Ext.setCell' ?_ ?_ _); solve | omega | simp | (simp; omega)) | (with_reducible refine Ext.trans ?_ (by with_reducible assumption))))⟩
          case measure => simp [intOf]; omega
      · obtain rfl : k = rs.length := by omega
        go_wp2
        go_ret2
        exact ⟨rfl, by (repeat (first | with_reducible exact Ext.refl _ | with_reducible assumption | ((with_reducible apply Src.ext); with_reducible assumption) | with_reducible refine Ext.alloc ?_ _ | with_reducible refine Ext.drew ?_ | with_reducible refine Ext.drewN ?_ _ | ((with_reducible refine Ext.setCell' ?_ ?_ _); solve | omega | simp | (simp; omega)) | (with_reducible refine Ext.trans ?_ (by with_reducible assumption))))⟩
  · rw [show arR (psOf rs) (voOf vs) [a, a2] (fD (voOf vs) a.toNat a2.toNat) = 0 by unfold arR; rw [if_neg hcd]]
    have hcall := s_l18View A A' c c' rs vs a a2 w h hr hl h' hv hl'
    have HC := Lib.hid hcall
    generalize viC (psOf rs) (voOf vs) [a, a2] = q at *
    have hne : (q != 0) = true := by simpa using hcd
    clear hcd h hr h' hv hcall
    go_enter Tryz.func39, Tryz.ntmps39
    go_wp2_with fail
    refine HC.out.mono ?_
    rintro e w1 ⟨rfl, hx1⟩
    go_wp2
    go_ret2
    exact ⟨rfl, by (repeat (first | with_reducible exact Ext.refl _ | with_reducible assumption | ((with_reducible apply Src.ext); with_reducible assumption) | with_reducible refine Ext.alloc ?_ _ | with_reducible refine Ext.drew ?_ | with_reducible refine Ext.drewN ?_ _ | ((with_reducible refine Ext.setCell' ?_ ?_ _); solve | omega | simp | (simp; omega)) | (with_reducible refine Ext.trans ?_ (by with_reducible assumption))))⟩

theorem s_DistanceOfViews' (A A' : Option Addr) (n m c c' : Nat) (rs : List Rg) (vs : List Vw) (a a2 : Int) (w : World) (h : SlAt w 1 encR A rs) (hr : Rings w rs) (hl : rs.length ≤ 1048576) (h' : SlAt w 2 encV A' vs) (hv : Views w vs) (hl' : vs.length ≤ 1048576) (hn : n = rs.length) (hm : m = vs.length) :
    Calls Tryz.prog 39 #[.slice A n c, .slice A' m c', .int .i64 a, .int .i64 a2] w fun e w' => e = .returned (.tuple #[.int .i64 (arR (psOf rs) (voOf vs) [a, a2] (fD (voOf vs) a.toNat a2.toNat)), .int .i64 (viC (psOf rs) (voOf vs) [a, a2])]) ∧ Ext w w' := by
  subst hn hm
  exact s_DistanceOfViews A A' c c' rs vs a a2 w h hr hl h' hv hl'

theorem i_DistanceOfViews' (A A' : Option Addr) (n m c c' : Nat) (rs : List Rg) (vs : List Vw) (a a2 : Int) (w : World) (h : SlAt w 1 encR A rs) (hr : Rings w rs) (hl : rs.length ≤ 1048576) (hc : rs.length ≤ c) (h' : SlAt w 2 encV A' vs) (hv : Views w vs) (hl' : vs.length ≤ 1048576) (hn : n = rs.length) (hm : m = vs.length) :
    Calls Tryz.prog 40 #[.slice A n c, .slice A' m c', .int .i64 a, .int .i64 a2] w fun e w' => e = .returned (.tuple #[.int .i64 (arR (psOf rs) (voOf vs) [a, a2] (fD (voOf vs) a.toNat a2.toNat)), .int .i64 (viC (psOf rs) (voOf vs) [a, a2])]) ∧ Ext w w' := by
  subst hn hm
  exact i_DistanceOfViews A A' c c' rs vs a a2 w h hr hl hc h' hv hl'

set_option maxRecDepth 20000 in
set_option maxHeartbeats 6400000 in
theorem fnExactDistanceOfViews_walk (A : Option Addr) (c : Nat) (rs : List Rg) (A' : Option Addr) (c' : Nat) (vs : List Vw) (a a2 : Int) (w : World) (h : ArgR w A rs) (h' : ArgV w A' vs) :
    Calls Tryz.prog 8 #[.slice A rs.length c, .slice A' vs.length c', .int .i64 a, .int .i64 a2] w fun e w' => e = .returned (.bool true) ∧ Ext w w' := by
  go_enter Tryz.func8, Tryz.ntmps8
  go_wp2_with fail
  refine (l_szPointSS _ _ rs 1048576 _ h.sl h.len h.lens (by omega) (by omega)).mono ?_
  rintro e w' ⟨⟨z, rfl, hz1, hz⟩, rfl⟩
  rcases hz with rfl | ⟨hz0, hl, hs, _⟩
  · go_wp2
    go_ret
    exact ⟨rfl, Ext.refl _⟩
  have HS := Lib.hid hs
  clear hs
  go_wp2_with fail
  refine (l_szViewS _ _ vs z _ h'.sl h'.len h'.rg hz0 hz1).mono ?_
  rintro e w0 ⟨⟨z2, rfl, hz2, hzz⟩, hx0⟩
  rcases hzz with rfl | ⟨hz3, hvl, hg⟩
  · go_wp2
    go_ret
    exact ⟨rfl, hx0⟩
  · have HG := Lib.hid hg
    clear hg
    go_wp2_with fail
    refine (l_toPointSS _ _ rs _ (h.ext hx0).sl (h.ext hx0).rg hl HS.out).mono ?_
    rintro e w1 ⟨q1, cs1, rfl, hq1, hp1, hB1, hc1, hO1, hx1⟩
    have HP1 := Lib.hid hp1
    have HC1 := Lib.hid hc1
    have HQ1 := Lib.hid hq1
    have HO1 := Lib.hid hO1
    have HB1 := Lib.hid hB1
    clear hp1 hc1 hO1 hq1 hB1
    go_wp2_with fail
    refine (l_toViewS _ _ vs _ (h'.ext (hx0.trans hx1)).sl (fun i hi => ((h'.ext (hx0.trans hx1)).rg i hi).1) hvl HG.out).mono ?_
    rintro e w2 ⟨q2, cs2, rfl, hq2, hp2, hB2, hc2, hO2, hx2⟩
    have HP2 := Lib.hid hp2
    have HC2 := Lib.hid hc2
    have HQ2 := Lib.hid hq2
    have HO2 := Lib.hid hO2
    have HB2 := Lib.hid hB2
    clear hp2 hc2 hO2 hq2 hB2
    go_wp2_with fail
    refine (s_DistanceOfViews' _ _ rs.length vs.length _ _ q1 q2 a a2 _ ((HB1.out.ext hx2).sl HC1.out len_encR) (HO1.out.ext hx2).rings (by rw [HQ1.out]; exact hl) (HB2.out.sl HC2.out len_encV) HO2.out.views (by rw [HQ2.out]; exact hvl) HQ1.out.symm HQ2.out.symm).mono ?_
    rw [HP1.out, HP2.out]
    rintro e w3 ⟨rfl, hx3⟩
    have hX3 := ((hx0.trans hx1).trans hx2).trans hx3
    go_wp2_with fail
    refine (l_toPointSS _ _ rs _ (h.ext hX3).sl (h.ext hX3).rg hl HS.out).mono ?_
    rintro e w4 ⟨q4, cs4, rfl, hq4, hp4, hB4, hc4, hO4, hx4⟩
    have HP4 := Lib.hid hp4
    have HC4 := Lib.hid hc4
    have HQ4 := Lib.hid hq4
    have HO4 := Lib.hid hO4
    have HB4 := Lib.hid hB4
    clear hp4 hc4 hO4 hq4 hB4
    go_wp2_with fail
    refine (l_toViewS _ _ vs _ (h'.ext (hX3.trans hx4)).sl (fun i hi => ((h'.ext (hX3.trans hx4)).rg i hi).1) hvl HG.out).mono ?_
    rintro e w5 ⟨q5, cs5, rfl, hq5, hp5, hB5, hc5, hO5, hx5⟩
    have HP5 := Lib.hid hp5
    have HC5 := Lib.hid hc5
    have HQ5 := Lib.hid hq5
    have HO5 := Lib.hid hO5
    have HB5 := Lib.hid hB5
    clear hp5 hc5 hO5 hq5 hB5
    go_wp2_with fail
    refine (i_DistanceOfViews' _ _ rs.length vs.length _ _ q4 q5 a a2 _ ((HB4.out.ext hx5).sl HC4.out len_encR) (HO4.out.ext hx5).rings (by rw [HQ4.out]; exact hl) (by rw [HQ4.out]; exact Nat.le_refl _) (HB5.out.sl HC5.out len_encV) HO5.out.views (by rw [HQ5.out]; exact hvl) HQ4.out.symm HQ5.out.symm).mono ?_
    rw [HP4.out, HP5.out]
    rintro e w6 ⟨rfl, hx6⟩
    have hX6 := ((hX3.trans hx4).trans hx5).trans hx6
    generalize arR (psOf rs) (voOf vs) [a, a2] (fD (voOf vs) a.toNat a2.toNat) = q1r at *
    generalize viC (psOf rs) (voOf vs) [a, a2] = q2r at *
    have hvb : (q1r != q1r) = false := by simp
    have hvb2 : (q2r != q2r) = false := by simp
    go_wp2_with fail
    refine (l_toPointSS _ _ rs _ (h.ext hX6).sl (h.ext hX6).rg hl HS.out).mono ?_
    rintro e w7 ⟨q7, cs7, rfl, hq7, hp7, hB7, hc7, hO7, hx7⟩
    have HP7 := Lib.hid hp7
    have HC7 := Lib.hid hc7
    have HQ7 := Lib.hid hq7
    have HO7 := Lib.hid hO7
    have HB7 := Lib.hid hB7
    clear hp7 hc7 hO7 hq7 hB7
    go_wp2_with fail
    refine (l_eqSS _ _ _ _ _ q4 q7 _ (((HB4.out.ext hx5).ext hx6).ext hx7 |>.sl HC4.out len_encR) (HB7.out.sl HC7.out len_encR) (((HO4.out.ext hx5).ext hx6).ext hx7).rings HO7.out.rings (by rw [HP4.out, HP7.out]) HQ4.out.symm hl).mono ?_
    rintro e w8 ⟨rfl, hx8⟩
    go_wp2_with fail
    refine (l_toViewS _ _ vs _ (h'.ext ((hX6.trans hx7).trans hx8)).sl (fun i hi => ((h'.ext ((hX6.trans hx7).trans hx8)).rg i hi).1) hvl HG.out).mono ?_
    rintro e w9 ⟨q9, cs9, rfl, hq9, hp9, hB9, hc9, hO9, hx9⟩
    have HP9 := Lib.hid hp9
    have HC9 := Lib.hid hc9
    have HQ9 := Lib.hid hq9
    have HO9 := Lib.hid hO9
    have HB9 := Lib.hid hB9
    clear hp9 hc9 hO9 hq9 hB9
    go_wp2_with fail
    refine (l_eqViewS _ _ _ _ _ q5 q9 _ ((((HB5.out.ext hx6).ext hx7).ext hx8).ext hx9 |>.sl HC5.out len_encV) (HB9.out.sl HC9.out len_encV) ((((HO5.out.ext hx6).ext hx7).ext hx8).ext hx9).views HO9.out.views (by rw [HP5.out, HP9.out]) HQ5.out.symm hvl).mono ?_
    rintro e w10 ⟨rfl, hx10⟩
    go_wp2
    go_ret
    exact ⟨rfl, (((hX6.trans hx7).trans hx8).trans hx9).trans hx10⟩

end Go.Proofs.YtdbheipjbjcikaaGreatDoor
namespace Go.Proofs.YtdbheipjbjcikaaGreatDoor
open Go.RowKit
attribute [local go_sem] ExtOf.cell ExtOf.frozen

/-- ring k is disputed -/
def disB (V : List (List UInt8 × List (List UInt8))) (k : Nat) : Bool := (List.range V.length).any fun i => fD V i 0 k
/-- the disputed ones of the first n rings -/
def disTo (V : List (List UInt8 × List (List UInt8))) (n : Nat) : List Int := ((List.range n).filter fun i => disB V i).map fun i : Nat => (i : Int)
theorem disTo_succ (V : List (List UInt8 × List (List UInt8))) (k : Nat) : disTo V (k + 1) = if disB V k = true then disTo V k ++ [(k : Int)] else disTo V k := by
  unfold disTo
  rw [List.range_succ, List.filter_append, List.map_append]
  by_cases h : disB V k = true
  · rw [if_pos h]; simp [h]
  · rw [if_neg h]; simp [h]
theorem disTo_len (V : List (List UInt8 × List (List UInt8))) (k : Nat) : (disTo V k).length ≤ k := by
  unfold disTo
  rw [List.length_map]
  have := List.length_filter_le (fun i => disB V i) (List.range k)
  rwa [List.length_range] at this
theorem disTo_any {V : List (List UInt8 × List (List UInt8))} {k n : Nat} (h : k < n) : ((disTo V n).any fun z => ((k : Int) == z)) = disB V k := by
  rw [Bool.eq_iff_iff, List.any_eq_true]
  constructor
  · rintro ⟨z, hz, he⟩
    unfold disTo at hz
    obtain ⟨i, hi, rfl⟩ := List.mem_map.1 hz
    have e : k = i := by have := beq_iff_eq.1 he; omega
    rw [e]
    exact (List.mem_filter.1 hi).2
  · intro hd
    refine ⟨(k : Int), ?_, by simp⟩
    unfold disTo
    exact List.mem_map.2 ⟨k, List.mem_filter.2 ⟨List.mem_range.2 h, hd⟩, rfl⟩
theorem disB_vs {vs : List Vw} {k : Nat} (h0 : 0 < vs.length) : (vs.any fun v => !((tx (v.2.2.2.getD k [])).toList == (tx ((vs.getD 0 vwD).2.2.2.getD k [])).toList)) = disB (voOf vs) k := by
  unfold disB
  rw [Bool.eq_iff_iff, List.any_eq_true, List.any_eq_true, voOf_len]
  constructor
  · rintro ⟨v, hv, he⟩
    obtain ⟨i, hi, rfl⟩ := List.mem_iff_getElem.1 hv
    refine ⟨i, List.mem_range.2 hi, ?_⟩
    rw [fD_at hi h0]
    simpa [List.getD, hi] using he
  · rintro ⟨i, hi, he⟩
    have hi' := List.mem_range.1 hi
    rw [fD_at hi' h0] at he
    exact ⟨_, vw_mem hi', he⟩
theorem viB_pos {rs : List Rg} {vs : List Vw} (h : viB (psOf rs) (voOf vs) = true) : 0 < vs.length := by
  have h1 := (viB_map h).2.1
  rw [voOf_len] at h1
  simp [inB] at h1
  omega

set_option maxHeartbeats 1600000 in
theorem i_IndexI (A : Option Addr) (n c : Nat) (xs : List Int) (x : Int) (w : World) (h : SlAt w 1 encI A xs) (hn : n = xs.length) (hl : n ≤ 1048576) :
    Calls Tryz.prog 162 #[.slice A n c, .int .i64 x] w fun e w' => e = .returned (.int .i64 (fstG (fun z => x == z) xs)) ∧ Ext w w' := by
  have HN := Lib.hid hn
  clear hn
  go_enter Tryz.func162, Tryz.ntmps162
  go_wp2
  go_loopw [8] (fun i wr => ∃ k : Nat, k ≤ n ∧ i = .int .i64 k ∧ Hid (∀ j, j < k → (x == xs.getD j 0) = false) ∧ Ext w wr) (fun i _ => n - (intOf i).toNat)
  case atStart => exact ⟨0, by omega, rfl, fun j hj => absurd hj (by omega), by (repeat (first | with_reducible exact Ext.refl _ | with_reducible assumption | ((with_reducible apply Src.ext); with_reducible assumption) | with_reducible refine Ext.alloc ?_ _ | with_reducible refine Ext.drew ?_ | with_reducible refine Ext.drewN ?_ _ | ((with_reducible refine Ext.setCell' ?_ ?_ _); solve | omega | simp | (simp; omega)) | (with_reducible refine Ext.trans ?_ (by with_reducible assumption))))⟩
  case round =>
    obtain ⟨k, hk, rfl, HJ, hxr⟩ := hrel
    by_cases hlt : k < n
    · have hkr : k < xs.length := by rw [← HN.out]; exact hlt
      obtain ⟨b, off, rfl, hb, d0⟩ := (h.ext hxr).it hkr
      cases hq : (x == xs.getD k 0) with
      | true =>
        have HQ := Lib.hid hq
        generalize xs.getD k 0 = z at d0 hq
        go_wp2
        go_ret
        exact ⟨ret_int (fstG_hit (d := 0) (p := fun z => x == z) hkr HQ.out HJ.out), by (repeat (first | with_reducible exact Ext.refl _ | with_reducible assumption | ((with_reducible apply Src.ext); with_reducible assumption) | with_reducible refine Ext.alloc ?_ _ | with_reducible refine Ext.drew ?_ | with_reducible refine Ext.drewN ?_ _ | ((with_reducible refine Ext.setCell' ?_ ?_ _); solve | omega | simp | (simp; omega)) | (with_reducible refine Ext.trans ?_ (by with_reducible assumption))))⟩
      | false =>
        have HJ2 := Lib.hid (upTo_succ (P := fun j => (x == xs.getD j 0) = false) HJ.out hq)
        generalize xs.getD k 0 = z at d0 hq
        go_wp2
        go_roundw
        case rel => exact ⟨k + 1, by omega, by go_num, HJ2, by (repeat (first | with_reducible exact Ext.refl _ | with_reducible assumption | ((with_reducible apply Src.ext); with_reducible assumption) | with_reducible refine Ext.alloc ?_ _ | with_reducible refine Ext.drew ?_ | with_reducible refine Ext.drewN ?_ _ | ((with_reducible refine Ext.setCell' ?_ ?_ _); solve | omega | simp | (simp; omega)) | (with_reducible refine Ext.trans ?_ (by with_reducible assumption))))⟩
        case measure => simp [intOf]; omega
    · obtain rfl : k = n := by omega
      go_wp2
      go_ret
      exact ⟨ret_int (fstG_miss (d := 0) (p := fun z => x == z) (by rw [← HN.out]; exact HJ.out)), by (repeat (first | with_reducible exact Ext.refl _ | with_reducible assumption | ((with_reducible apply Src.ext); with_reducible assumption) | with_reducible refine Ext.alloc ?_ _ | with_reducible refine Ext.drew ?_ | with_reducible refine Ext.drewN ?_ _ | ((with_reducible refine Ext.setCell' ?_ ?_ _); solve | omega | simp | (simp; omega)) | (with_reducible refine Ext.trans ?_ (by with_reducible assumption))))⟩
theorem i_ContainsI (A : Option Addr) (n c : Nat) (xs : List Int) (x : Int) (w : World) (h : SlAt w 1 encI A xs) (hn : n = xs.length) (hl : n ≤ 1048576) :
    Calls Tryz.prog 105 #[.slice A n c, .int .i64 x] w fun e w' => e = .returned (.bool (xs.any fun z => x == z)) ∧ Ext w w' := by
  rw [← fstG_any]
  have HC := Lib.hid (i_IndexI A n c xs x w h hn hl)
  clear h hn
  go_enter Tryz.func105, Tryz.ntmps105
  go_wp2_with fail
  refine HC.out.mono ?_
  rintro e w' ⟨rfl, hx⟩
  go_wp2
  go_ret
  exact ⟨rfl, hx⟩

set_option maxHeartbeats 1600000 in
theorem i_disputed1 (A' : Option Addr) (c' : Nat) (vs : List Vw) (v : Vw) (k b5 b6 : Nat) (w : World) (h' : SlAt w 2 encV A' vs) (hv : Views w vs) (h0 : 0 < vs.length) (hm : v ∈ vs) (hk : k < v.2.2.2.length) (hk0 : k < (vs.getD 0 vwD).2.2.2.length)
    (h5 : w.cell? ⟨b5, 0, none⟩ = some (.slice A' vs.length c')) (h6 : w.cell? ⟨b6, 0, none⟩ = some (.int .i64 k)) :
    Calls Tryz.prog 161 #[.agg #[.string (tx v.1), .slice v.2.1 v.2.2.2.length v.2.2.1], .pointer (some ⟨b5, 0, none⟩), .pointer (some ⟨b6, 0, none⟩)] w fun e w' => e = .returned (.bool (!((tx (v.2.2.2.getD k [])).toList == (tx ((vs.getD 0 vwD).2.2.2.getD k [])).toList))) ∧ Ext w w' := by
  have e5 : b5 < w.heap.size := World.block_lt_of_cell? _ _ h5
  have e6 : b6 < w.heap.size := World.block_lt_of_cell? _ _ h6
  obtain ⟨b, off, rfl, hb, d0, d1⟩ := h'.vw h0
  rw [Nat.zero_mul, Nat.add_zero] at d0 d1
  have HC := Lib.hid (fun W hx => i_tells v (vs.getD 0 vwD) k W ((hv _ hm).1.ext hx) ((hv _ (vw_mem h0)).1.ext hx) hk hk0)
  generalize vs.getD 0 vwD = u at *
  generalize tx (v.2.2.2.getD k []) = t at *
  generalize tx (u.2.2.2.getD k []) = t2 at *
  clear hv h' hm hk hk0
  (have := (show b < w.heap.size + 1 from by omega))
  (have := (show b5 < w.heap.size + 1 from by omega))
  (have := (show b6 < w.heap.size + 1 from by omega))
  have q1 : ¬ b = w.heap.size := by omega
  have q2 : ¬ b5 = w.heap.size := by omega
  have q3 : ¬ b6 = w.heap.size := by omega
  go_enter Tryz.func161, Tryz.ntmps161
  go_wp2
  (refine wp_region_ext (by kernel_rfl) (by kernel_rfl) ?_; (repeat (go_big_quiet_step ((go_at_call 101; exact Calls_ext (HC.out _ (Ext.trans (by (repeat (first | with_reducible exact Ext.refl _ | with_reducible assumption | ((with_reducible apply Src.ext); with_reducible assumption) | with_reducible refine Ext.alloc ?_ _ | with_reducible refine Ext.drew ?_ | with_reducible refine Ext.drewN ?_ _ | ((with_reducible refine Ext.setCell' ?_ ?_ _); solve | omega | simp | (simp; omega)) | (with_reducible refine Ext.trans ?_ (by with_reducible assumption))))) (ExtOf.ext _))))))); refine wpQuiet_nil ?_; intro wq hxwq; obtain ⟨hcwq, hfwq⟩ := hxwq.rules; have hswq := hxwq.size; (try simp at hswq))
  go_wp2
  go_ret
  exact ⟨rfl, by (repeat (first | with_reducible exact Ext.refl _ | with_reducible assumption | ((with_reducible apply Src.ext); with_reducible assumption) | with_reducible refine Ext.alloc ?_ _ | with_reducible refine Ext.drew ?_ | with_reducible refine Ext.drewN ?_ _ | ((with_reducible refine Ext.setCell' ?_ ?_ _); solve | omega | simp | (simp; omega)) | (with_reducible refine Ext.trans ?_ (by with_reducible assumption))))⟩
theorem en_disputed1 (args : Array Value) (w : World) : (callFunc 161 args).run Tryz.prog w = .ok (.enter 161 args) w := enters_isSome Tryz.func161 (by kernel_rfl) (by kernel_rfl) args w
theorem i_DisputedArea1 (A : Option Addr) (n c : Nat) (xs : List Int) (k : Nat) (b5 : Nat) (w : World) (h : SlAt w 1 encI A xs) (hn : n = xs.length) (hl : n ≤ 1048576) (h5 : w.cell? ⟨b5, 0, none⟩ = some (.slice A n c)) :
    Calls Tryz.prog 104 #[.int .i64 k, .pointer (some ⟨b5, 0, none⟩)] w fun e w' => e = .returned (.bool (xs.any fun z => ((k : Int) == z))) ∧ Ext w w' := by
  have HC := Lib.hid (i_ContainsI A n c xs k w h hn hl)
  clear h hn
  go_enter Tryz.func104, Tryz.ntmps104
  go_wp2_with fail
  refine HC.out.mono ?_
  rintro e w' ⟨rfl, hx⟩
  go_wp2
  go_ret
  exact ⟨rfl, hx⟩
theorem en_DisputedArea1 (args : Array Value) (w : World) : (callFunc 104 args).run Tryz.prog w = .ok (.enter 104 args) w := enters_isSome Tryz.func104 (by kernel_rfl) (by kernel_rfl) args w

set_option maxRecDepth 20000 in
set_option maxHeartbeats 6400000 in
theorem i_disputed (A A' : Option Addr) (c c' : Nat) (rs : List Rg) (vs : List Vw) (w : World) (h' : SlAt w 2 encV A' vs) (hv : Views w vs) (hl' : vs.length ≤ 1048576) (hn : rs.length ≤ 6) (h0 : 0 < vs.length) (hlen : ∀ k, k < vs.length → (vs.getD k vwD).2.2.2.length = rs.length) :
    Calls Tryz.prog 103 #[.slice A rs.length c, .slice A' vs.length c'] w fun e w' => ∃ v, e = .returned v ∧ OwI w' w.heap.size v (disTo (voOf vs) rs.length) ∧ Ext w w' := by
  have hgl : ∀ v ∈ vs, v.2.2.2.length = rs.length := fun v hm => by
    obtain ⟨i, hi, rfl⟩ := List.mem_iff_getElem.1 hm
    have := hlen i hi
    simpa [List.getD, hi] using this
  have HC : Hid (∀ k : Nat, k < rs.length → ∀ b6 W, Ext w W → W.cell? ⟨w.heap.size, 0, none⟩ = some (.slice A' vs.length c') → W.cell? ⟨b6, 0, none⟩ = some (.int .i64 k) →
      Calls Tryz.prog 160 #[.slice A' vs.length c', .func (.func 161) #[] #[.pointer (some ⟨w.heap.size, 0, none⟩), .pointer (some ⟨b6, 0, none⟩)]] W fun e w' => e = .returned (.bool (disB (voOf vs) k)) ∧ Ext W w') := Lib.hid fun k hk b6 W hx c5 c6 => by
    rw [← disB_vs h0]
    exact i_ContainsFuncV _ _ _ en_disputed1 A' vs.length c' vs W (h'.ext hx) rfl hl' fun v hm W' hx' =>
      i_disputed1 A' c' vs v k w.heap.size b6 W' (h'.ext (hx.trans hx')) (hv.ext (hx.trans hx')) h0 hm (by rw [hgl v hm]; exact hk) (by rw [hlen 0 h0]; exact hk) ((hx'.cell _ _ (World.block_lt_of_cell? _ _ c5)).trans c5) ((hx'.cell _ _ (World.block_lt_of_cell? _ _ c6)).trans c6)
  clear hlen hgl h' hv
  go_enter Tryz.func103, Tryz.ntmps103
  go_wp2
  go_loopw [5, 9] (fun v i wr => ∃ k : Nat, k ≤ rs.length ∧ i = .int .i64 k ∧ Hid (OwI wr (w.heap.size + 1) v (disTo (voOf vs) k)) ∧ Blk wr w.heap.size 49 #[.slice A' vs.length c'] ∧ Ext w wr) (fun _ i _ => rs.length - (intOf i).toNat)
  case atStart => exact ⟨0, by omega, rfl, Lib.hid (Own.nil _ _), Blk.eq (by (repeat (first | with_reducible assumption | ((with_reducible apply Blk.new); solve | simp | rfl) | with_reducible apply Blk.drew | with_reducible apply Blk.drewN | ((with_reducible apply Blk.far'); solve | omega | simp | (simp; omega)) | with_reducible apply Blk.set_ | with_reducible apply Blk.alloc | ((with_reducible apply Blk.ext'); with_reducible assumption) | ((with_reducible apply Blk.but'); (with_reducible assumption); solve | omega | (simp; omega))))) (by rfl), by (repeat (first | with_reducible exact Ext.refl _ | with_reducible assumption | ((with_reducible apply Src.ext); with_reducible assumption) | with_reducible refine Ext.alloc ?_ _ | with_reducible refine Ext.drew ?_ | with_reducible refine Ext.drewN ?_ _ | ((with_reducible refine Ext.setCell' ?_ ?_ _); solve | omega | simp | (simp; omega)) | (with_reducible refine Ext.trans ?_ (by with_reducible assumption))))⟩
  case round =>
    obtain ⟨k, hk, rfl, HV, hB, hxr⟩ := hrel
    have hcl := disTo_len (voOf vs) k
    by_cases hlt : k < rs.length
    · have hBl := hB.lt
      have e0 : wr.cell? ⟨w.heap.size, 0, none⟩ = some (.slice A' vs.length c') := hB.cell 0
      have hsu := disTo_succ (voOf vs) k
      have hcall := HC.out k hlt
      have q1 : ¬ w.heap.size = wr.heap.size := by omega
      have q2 : ¬ wr.heap.size = w.heap.size := by omega
      cases hq : disB (voOf vs) k with
      | true =>
        rw [hq] at hcall hsu
        have HK := Lib.hid hcall
        have HS := Lib.hid hsu
        clear hcall hsu hq
        go_wp2_with fail
        refine (HK.out _ _ (by (repeat (first | with_reducible exact Ext.refl _ | with_reducible assumption | ((with_reducible apply Src.ext); with_reducible assumption) | with_reducible refine Ext.alloc ?_ _ | with_reducible refine Ext.drew ?_ | with_reducible refine Ext.drewN ?_ _ | ((with_reducible refine Ext.setCell' ?_ ?_ _); solve | omega | simp | (simp; omega)) | (with_reducible refine Ext.trans ?_ (by with_reducible assumption))))) (by simp [go_sem, *]) (by simp [go_sem])).mono ?_
        rintro e w1 ⟨rfl, hx1⟩
        obtain ⟨hc1, hf1⟩ := hx1.rules
        have hs1 := hx1.size
        (try simp at hs1)
        have := (show wr.heap.size < w1.heap.size from by omega)
        have := (show w.heap.size < w1.heap.size from by omega)
        go_wp2_with (at_builtin; refine wpList_append_sl elI len_encI one_encI rfl _ _ rfl rfl (HV.out.ext (by (repeat (first | with_reducible exact Ext.refl _ | with_reducible assumption | ((with_reducible apply Src.ext); with_reducible assumption) | with_reducible refine Ext.alloc ?_ _ | with_reducible refine Ext.drew ?_ | with_reducible refine Ext.drewN ?_ _ | ((with_reducible refine Ext.setCell' ?_ ?_ _); solve | omega | simp | (simp; omega)) | (with_reducible refine Ext.trans ?_ (by with_reducible assumption)))))) (xs := [(k : Int)]) rfl (blk_i1 (by (repeat (first | with_reducible assumption | ((with_reducible apply Blk.new); solve | simp | rfl) | with_reducible apply Blk.drew | with_reducible apply Blk.drewN | ((with_reducible apply Blk.far'); solve | omega | simp | (simp; omega)) | with_reducible apply Blk.set_ | with_reducible apply Blk.alloc | ((with_reducible apply Blk.ext'); with_reducible assumption) | ((with_reducible apply Blk.but'); (with_reducible assumption); solve | omega | (simp; omega)))))) (by simp; unfold maxLen; omega) (by simp; omega) (by first | omega | (simp; omega)) ?_)
        intro v' w5 hown hgrow hcell
        rw [show disTo (voOf vs) k ++ [(k : Int)] = disTo (voOf vs) (k + 1) by rw [HS.out]; simp] at hown
        have HV2 := Lib.hid hown
        have hx5 : Ext w w5 := by
          refine Ext.grown ?_ hgrow (fun q hq => by have := (HV.out.row q hq).1; omega)
          (repeat (first | with_reducible exact Ext.refl _ | with_reducible assumption | ((with_reducible apply Src.ext); with_reducible assumption) | with_reducible refine Ext.alloc ?_ _ | with_reducible refine Ext.drew ?_ | with_reducible refine Ext.drewN ?_ _ | ((with_reducible refine Ext.setCell' ?_ ?_ _); solve | omega | simp | (simp; omega)) | (with_reducible refine Ext.trans ?_ (by with_reducible assumption))))
        have hB5 : Blk w5 w.heap.size 49 #[.slice A' vs.length c'] := by
          refine (hgrow.block _ (by simp; omega) (fun e => ?_)).trans (show Blk _ w.heap.size 49 #[.slice A' vs.length c'] by (repeat (first | with_reducible assumption | ((with_reducible apply Blk.new); solve | simp | rfl) | with_reducible apply Blk.drew | with_reducible apply Blk.drewN | ((with_reducible apply Blk.far'); solve | omega | simp | (simp; omega)) | with_reducible apply Blk.set_ | with_reducible apply Blk.alloc | ((with_reducible apply Blk.ext'); with_reducible assumption) | ((with_reducible apply Blk.but'); (with_reducible assumption); solve | omega | (simp; omega)))))
          have := (HV.out.row _ e.symm).1
          omega
        clear hown hgrow hcell
        go_wp2
        go_roundw
        case rel => exact ⟨k + 1, by omega, by go_num, HV2, hB5, hx5⟩
        case measure => simp [intOf]; omega
      | false =>
        rw [hq] at hcall hsu
        have HK := Lib.hid hcall
        have HS := Lib.hid hsu
        clear hcall hsu hq
        go_wp2_with fail
        refine (HK.out _ _ (by (repeat (first | with_reducible exact Ext.refl _ | with_reducible assumption | ((with_reducible apply Src.ext); with_reducible assumption) | with_reducible refine Ext.alloc ?_ _ | with_reducible refine Ext.drew ?_ | with_reducible refine Ext.drewN ?_ _ | ((with_reducible refine Ext.setCell' ?_ ?_ _); solve | omega | simp | (simp; omega)) | (with_reducible refine Ext.trans ?_ (by with_reducible assumption))))) (by simp [go_sem, *]) (by simp [go_sem])).mono ?_
        rintro e w1 ⟨rfl, hx1⟩
        go_wp2
        go_roundw
        case rel => exact ⟨k + 1, by omega, by go_num, by rw [HS.out]; exact Lib.hid (HV.out.ext (by (repeat (first | with_reducible exact Ext.refl _ | with_reducible assumption | ((with_reducible apply Src.ext); with_reducible assumption) | with_reducible refine Ext.alloc ?_ _ | with_reducible refine Ext.drew ?_ | with_reducible refine Ext.drewN ?_ _ | ((with_reducible refine Ext.setCell' ?_ ?_ _); solve | omega | simp | (simp; omega)) | (with_reducible refine Ext.trans ?_ (by with_reducible assumption)))))), by (repeat (first | with_reducible assumption | ((with_reducible apply Blk.new); solve | simp | rfl) | with_reducible apply Blk.drew | with_reducible apply Blk.drewN | ((with_reducible apply Blk.far'); solve | omega | simp | (simp; omega)) | with_reducible apply Blk.set_ | with_reducible apply Blk.alloc | ((with_reducible apply Blk.ext'); with_reducible assumption) | ((with_reducible apply Blk.but'); (with_reducible assumption); solve | omega | (simp; omega)))), by (repeat (first | with_reducible exact Ext.refl _ | with_reducible assumption | ((with_reducible apply Src.ext); with_reducible assumption) | with_reducible refine Ext.alloc ?_ _ | with_reducible refine Ext.drew ?_ | with_reducible refine Ext.drewN ?_ _ | ((with_reducible refine Ext.setCell' ?_ ?_ _); solve | omega | simp | (simp; omega)) | (with_reducible refine Ext.trans ?_ (by with_reducible assumption))))⟩
        case measure => simp [intOf]; omega
    · obtain rfl : k = rs.length := by omega
      go_wp2
      go_ret
      exact ⟨_, rfl, HV.out.less (by omega), hxr⟩

set_option maxRecDepth 20000 in
set_option maxHeartbeats 6400000 in
theorem i_DisputedArea (A A' : Option Addr) (c c' : Nat) (rs : List Rg) (vs : List Vw) (w : World) (h : SlAt w 1 encR A rs) (hr : Rings w rs) (hl : rs.length ≤ 1048576) (hc : rs.length ≤ c) (h' : SlAt w 2 encV A' vs) (hv : Views w vs) (hl' : vs.length ≤ 1048576) :
    Calls Tryz.prog 42 #[.slice A rs.length c, .slice A' vs.length c'] w fun e w' => e = .returned (.tuple #[.int .i64 (arR (psOf rs) (voOf vs) [] (disB (voOf vs))), .int .i64 (viC (psOf rs) (voOf vs) [])]) ∧ Ext w w' := by
  have hcall := i_viewCode A A' none c c' 0 0 rs vs [] w h hr hl hc h' hv hl' SlAt.nil rfl (by omega)
  by_cases hcd : viC (psOf rs) (voOf vs) [] = 0
  · rw [show arR (psOf rs) (voOf vs) [] (disB (voOf vs)) = arI (psOf rs) (disB (voOf vs)) rs.length by unfold arR; rw [if_pos hcd, psOf_len], hcd]
    rw [hcd] at hcall
    obtain ⟨hvb, _⟩ := viC_zero hcd
    have HC := Lib.hid hcall
    have hm := (viB_map hvb).1
    have h6 := hm.1
    rw [psOf_len] at h6
    have HM := Lib.hid hm
    have HD := Lib.hid (fun W hx => i_disputed A A' c c' rs vs W (h'.ext hx) (hv.ext hx) hl' h6 (viB_pos hvb) (fun k hk => viB_len hvb hk))
    have hdl := disTo_len (voOf vs) rs.length
    clear hcall hcd hvb hm h' hv
    go_enter Tryz.func42, Tryz.ntmps42
    go_wp2_with fail
    refine HC.out.mono ?_
    rintro e w1 ⟨rfl, hx1⟩
    go_wp2_with fail
    refine (HD.out _ (by (repeat (first | with_reducible exact Ext.refl _ | with_reducible assumption | ((with_reducible apply Src.ext); with_reducible assumption) | with_reducible refine Ext.alloc ?_ _ | with_reducible refine Ext.drew ?_ | with_reducible refine Ext.drewN ?_ _ | ((with_reducible refine Ext.setCell' ?_ ?_ _); solve | omega | simp | (simp; omega)) | (with_reducible refine Ext.trans ?_ (by with_reducible assumption)))))).mono ?_
    rintro e w2 ⟨v2, rfl, hO2, hx2⟩
    obtain ⟨A2, c2, rfl, hS2, _, _, _⟩ := hO2.sl len_encI
    have HS2 := Lib.hid hS2
    obtain ⟨n2, hn2⟩ : ∃ n, n = (disTo (voOf vs) rs.length).length := ⟨_, rfl⟩
    rw [← hn2]
    rw [← hn2] at hdl
    have HN2 := Lib.hid hn2
    clear hO2 hS2 hn2
    have HCL : Hid (∀ W0, Ext w2 W0 → Blk W0 w2.heap.size 114 #[.slice A2 n2 c2] → ∀ k : Nat, k < rs.length → ∀ W, Ext W0 W → Calls Tryz.prog 104 (#[.int .i64 k] ++ #[.pointer (some ⟨w2.heap.size, 0, none⟩)]) W fun e w' => e = .returned (.bool (disB (voOf vs) k)) ∧ Ext W w') := Lib.hid fun W0 hX B5 k hk W hx => by
      rw [← disTo_any hk]
      exact i_DisputedArea1 A2 n2 c2 _ k w2.heap.size W ((HS2.out.ext hX).ext hx) HN2.out (by omega) ((hx.cell _ _ B5.lt).trans (B5.cell 0))
    go_wp2_with fail
    refine (i_areaOf _ _ rs (disB (voOf vs)) _ _ en_DisputedArea1 _ (h.ext (by (repeat (first | with_reducible exact Ext.refl _ | with_reducible assumption | ((with_reducible apply Src.ext); with_reducible assumption) | with_reducible refine Ext.alloc ?_ _ | with_reducible refine Ext.drew ?_ | with_reducible refine Ext.drewN ?_ _ | ((with_reducible refine Ext.setCell' ?_ ?_ _); solve | omega | simp | (simp; omega)) | (with_reducible refine Ext.trans ?_ (by with_reducible assumption)))))) (hr.ext (by (repeat (first | with_reducible exact Ext.refl _ | with_reducible assumption | ((with_reducible apply Src.ext); with_reducible assumption) | with_reducible refine Ext.alloc ?_ _ | with_reducible refine Ext.drew ?_ | with_reducible refine Ext.drewN ?_ _ | ((with_reducible refine Ext.setCell' ?_ ?_ _); solve | omega | simp | (simp; omega)) | (with_reducible refine Ext.trans ?_ (by with_reducible assumption)))))) HM.out (HCL.out _ (by (repeat (first | with_reducible exact Ext.refl _ | with_reducible assumption | ((with_reducible apply Src.ext); with_reducible assumption) | with_reducible refine Ext.alloc ?_ _ | with_reducible refine Ext.drew ?_ | with_reducible refine Ext.drewN ?_ _ | ((with_reducible refine Ext.setCell' ?_ ?_ _); solve | omega | simp | (simp; omega)) | (with_reducible refine Ext.trans ?_ (by with_reducible assumption))))) (Blk.eq (by (repeat (first | with_reducible assumption | ((with_reducible apply Blk.new); solve | simp | rfl) | with_reducible apply Blk.drew | with_reducible apply Blk.drewN | ((with_reducible apply Blk.far'); solve | omega | simp | (simp; omega)) | with_reducible apply Blk.set_ | with_reducible apply Blk.alloc | ((with_reducible apply Blk.ext'); with_reducible assumption) | ((with_reducible apply Blk.but'); (with_reducible assumption); solve | omega | (simp; omega))))) (by rfl)))).mono ?_
    rintro e w3 ⟨rfl, hx3⟩
    go_wp2
    go_ret2
    exact ⟨rfl, by (repeat (first | with_reducible exact Ext.refl _ | with_reducible assumption | ((with_reducible apply Src.ext); with_reducible assumption) | with_reducible refine Ext.alloc ?_ _ | with_reducible refine Ext.drew ?_ | with_reducible refine Ext.drewN ?_ _ | ((with_reducible refine Ext.setCell' ?_ ?_ _); solve | omega | simp | (simp; omega)) | (with_reducible refine Ext.trans ?_ (by with_reducible assumption))))⟩
  · rw [show arR (psOf rs) (voOf vs) [] (disB (voOf vs)) = 0 by unfold arR; rw [if_neg hcd]]
    have HC := Lib.hid hcall
    generalize viC (psOf rs) (voOf vs) [] = q at *
    have hne : (q != 0) = true := by simpa using hcd
    clear hcd h hr h' hv hcall
    go_enter Tryz.func42, Tryz.ntmps42
    go_wp2_with fail
    refine HC.out.mono ?_
    rintro e w1 ⟨rfl, hx1⟩
    go_wp2
    go_ret2
    exact ⟨rfl, by (repeat (first | with_reducible exact Ext.refl _ | with_reducible assumption | ((with_reducible apply Src.ext); with_reducible assumption) | with_reducible refine Ext.alloc ?_ _ | with_reducible refine Ext.drew ?_ | with_reducible refine Ext.drewN ?_ _ | ((with_reducible refine Ext.setCell' ?_ ?_ _); solve | omega | simp | (simp; omega)) | (with_reducible refine Ext.trans ?_ (by with_reducible assumption))))⟩
set_option maxRecDepth 20000 in
set_option maxHeartbeats 3200000 in
theorem s_l18Disputed (A' : Option Addr) (c' k : Nat) (vs : List Vw) (w : World) (h' : SlAt w 2 encV A' vs) (hv : Views w vs) (hl' : vs.length ≤ 1048576) (hlen : ∀ i, i < vs.length → k < (vs.getD i vwD).2.2.2.length) :
    Calls Tryz.prog 102 #[.slice A' vs.length c', .int .i64 k] w fun e w' => e = .returned (.bool (disB (voOf vs) k)) ∧ Ext w w' := by
  have HL := Lib.hid hlen
  clear hlen
  go_enter Tryz.func102, Tryz.ntmps102
  go_wp2
  go_loopw [5] (fun i wr => ∃ j : Nat, j ≤ vs.length ∧ i = .int .i64 j ∧ Hid (∀ q, q < j → fD (voOf vs) q 0 k = false) ∧ Ext w wr) (fun i _ => vs.length - (intOf i).toNat)
  case atStart => exact ⟨0, by omega, rfl, fun q hq => absurd hq (by omega), by (repeat (first | with_reducible exact Ext.refl _ | with_reducible assumption | ((with_reducible apply Src.ext); with_reducible assumption) | with_reducible refine Ext.alloc ?_ _ | with_reducible refine Ext.drew ?_ | with_reducible refine Ext.drewN ?_ _ | ((with_reducible refine Ext.setCell' ?_ ?_ _); solve | omega | simp | (simp; omega)) | (with_reducible refine Ext.trans ?_ (by with_reducible assumption))))⟩
  case round =>
    obtain ⟨j, hj, rfl, HJ, hxr⟩ := hrel
    by_cases hlt : j < vs.length
    · have h0 : 0 < vs.length := by omega
      have hkj := HL.out j hlt
      have hk0 := HL.out 0 h0
      obtain ⟨b, off, rfl, hb, d0, d1⟩ := (h'.ext hxr).vw hlt
      obtain ⟨g0, g1⟩ := (h'.ext hxr).vw' h0
      rw [Nat.zero_mul, Nat.add_zero] at g0 g1
      obtain ⟨b2, off2, hA2, hb2, f0⟩ := ((hv.ext hxr) _ (vw_mem hlt)).1.st hkj
      obtain ⟨b3, off3, hA3, hb3, f1⟩ := ((hv.ext hxr) _ (vw_mem h0)).1.st hk0
      rw [hA2] at d1
      rw [hA3] at g1
      have hat := fD_at (k := k) hlt h0
      have HAT := Lib.hid hat
      generalize tx ((vs.getD j vwD).2.2.2.getD k []) = t at *
      generalize tx ((vs.getD 0 vwD).2.2.2.getD k []) = t2 at *
      generalize vs.getD j vwD = v at *
      generalize vs.getD 0 vwD = u at *
      clear hA2 hA3 hat
      cases hq : (t.toList == t2.toList) with
      | true =>
        have HJ2 := Lib.hid (upTo_succ HJ.out (show fD (voOf vs) j 0 k = false by rw [HAT.out, hq]; rfl))
        go_wp2
        (refine wp_region_ext (by kernel_rfl) (by kernel_rfl) ?_; (repeat (go_big_quiet_step (fail))); refine wpQuiet_nil ?_; intro wq hxwq; obtain ⟨hcwq, hfwq⟩ := hxwq.rules; have hswq := hxwq.size; (try simp at hswq))
        go_wp2
        go_roundw
        case rel => exact ⟨j + 1, by omega, by go_num, HJ2, by (repeat (first | with_reducible exact Ext.refl _ | with_reducible assumption | ((with_reducible apply Src.ext); with_reducible assumption) | with_reducible refine Ext.alloc ?_ _ | with_reducible refine Ext.drew ?_ | with_reducible refine Ext.drewN ?_ _ | ((with_reducible refine Ext.setCell' ?_ ?_ _); solve | omega | simp | (simp; omega)) | (with_reducible refine Ext.trans ?_ (by with_reducible assumption))))⟩
        case measure => simp [intOf]; omega
      | false =>
        have HYES : Hid (disB (voOf vs) k = true) := Lib.hid (by
          unfold disB
          rw [List.any_eq_true]
          exact ⟨j, List.mem_range.2 (by rw [voOf_len]; exact hlt), by rw [HAT.out, hq]; rfl⟩)
        go_wp2
        (refine wp_region_ext (by kernel_rfl) (by kernel_rfl) ?_; (repeat (go_big_quiet_step (fail))); refine wpQuiet_nil ?_; intro wq hxwq; obtain ⟨hcwq, hfwq⟩ := hxwq.rules; have hswq := hxwq.size; (try simp at hswq))
        go_wp2
        go_ret
        exact ⟨ret_bool HYES.out.symm, by (repeat (first | with_reducible exact Ext.refl _ | with_reducible assumption | ((with_reducible apply Src.ext); with_reducible assumption) | with_reducible refine Ext.alloc ?_ _ | with_reducible refine Ext.drew ?_ | with_reducible refine Ext.drewN ?_ _ | ((with_reducible refine Ext.setCell' ?_ ?_ _); solve | omega | simp | (simp; omega)) | (with_reducible refine Ext.trans ?_ (by with_reducible assumption))))⟩
    · obtain rfl : j = vs.length := by omega
      have HNO : Hid (disB (voOf vs) k = false) := Lib.hid (by
        unfold disB
        rw [List.any_eq_false]
        intro q hq
        rw [List.mem_range, voOf_len] at hq
        rw [HJ.out q hq]
        simp)
      go_wp2
      go_ret
      exact ⟨ret_bool HNO.out.symm, by (repeat (first | with_reducible exact Ext.refl _ | with_reducible assumption | ((with_reducible apply Src.ext); with_reducible assumption) | with_reducible refine Ext.alloc ?_ _ | with_reducible refine Ext.drew ?_ | with_reducible refine Ext.drewN ?_ _ | ((with_reducible refine Ext.setCell' ?_ ?_ _); solve | omega | simp | (simp; omega)) | (with_reducible refine Ext.trans ?_ (by with_reducible assumption))))⟩
set_option maxRecDepth 20000 in
set_option maxHeartbeats 6400000 in
theorem s_DisputedArea (A A' : Option Addr) (c c' : Nat) (rs : List Rg) (vs : List Vw) (w : World) (h : SlAt w 1 encR A rs) (hr : Rings w rs) (hl : rs.length ≤ 1048576) (h' : SlAt w 2 encV A' vs) (hv : Views w vs) (hl' : vs.length ≤ 1048576) :
    Calls Tryz.prog 41 #[.slice A rs.length c, .slice A' vs.length c'] w fun e w' => e = .returned (.tuple #[.int .i64 (arR (psOf rs) (voOf vs) [] (disB (voOf vs))), .int .i64 (viC (psOf rs) (voOf vs) [])]) ∧ Ext w w' := by
  have hcall := s_AreViews A A' c c' rs vs w h hr hl h' hv hl'
  cases hvb : viB (psOf rs) (voOf vs) with
  | true =>
    have hcd : viC (psOf rs) (voOf vs) [] = 0 := viC_in hvb rfl
    rw [show arR (psOf rs) (voOf vs) [] (disB (voOf vs)) = arI (psOf rs) (disB (voOf vs)) rs.length by unfold arR; rw [if_pos hcd, psOf_len], hcd]
    rw [hvb] at hcall
    have HC := Lib.hid hcall
    have HM := Lib.hid (viB_map hvb).1
    have HD : Hid (∀ k : Nat, k < rs.length → ∀ W, Ext w W → Calls Tryz.prog 102 #[.slice A' vs.length c', .int .i64 k] W fun e w' => e = .returned (.bool (disB (voOf vs) k)) ∧ Ext W w') := Lib.hid fun k hk W hx => s_l18Disputed A' c' k vs W (h'.ext hx) (hv.ext hx) hl' (fun i hi => by rw [viB_len hvb hi]; exact hk)
    clear hcall hcd hvb h' hv
    go_enter Tryz.func41, Tryz.ntmps41
    go_wp2_with fail
    refine HC.out.mono ?_
    rintro e w1 ⟨rfl, hx1⟩
    go_wp2
    go_loopw [6, 7] (fun s i wr => ∃ k : Nat, k ≤ rs.length ∧ i = .int .i64 k ∧ s = .int .i64 (arI (psOf rs) (disB (voOf vs)) k) ∧ Ext w wr) (fun _ i _ => rs.length - (intOf i).toNat)
    case atStart => exact ⟨0, by omega, rfl, rfl, by (repeat (first | with_reducible exact Ext.refl _ | with_reducible assumption | ((with_reducible apply Src.ext); with_reducible assumption) | with_reducible refine Ext.alloc ?_ _ | with_reducible refine Ext.drew ?_ | with_reducible refine Ext.drewN ?_ _ | ((with_reducible refine Ext.setCell' ?_ ?_ _); solve | omega | simp | (simp; omega)) | (with_reducible refine Ext.trans ?_ (by with_reducible assumption))))⟩
    case round =>
      obtain ⟨k, hk, rfl, rfl, hxr⟩ := hrel
      have hsb := arI_bd HM.out (disB (voOf vs)) k (by rw [psOf_len]; exact hk)
      have h6 := HM.out.1
      rw [psOf_len] at h6
      by_cases hlt : k < rs.length
      · obtain ⟨b, off, rfl, hb, hcell⟩ := (h.ext hxr).rg hlt
        have hrk := hr _ (rg_mem hlt)
        have hring := HM.out.2.1 k (by rw [psOf_len]; exact hlt)
        rw [psOf_at hlt] at hring
        have hsu := arI_succ (psOf rs) (disB (voOf vs)) k
        rw [psOf_at hlt] at hsu
        have hcall := HD.out k hlt
        obtain ⟨r, hre⟩ : ∃ r, r = rs.getD k rgD := ⟨_, rfl⟩
        rw [← hre] at hcell hrk hring hsu
        clear hre
        have hbd := areaA_bd hring
        have HR := Lib.hid hring
        have HK := Lib.hid hrk
        clear hring hrk
        cases hq : disB (voOf vs) k with
        | false =>
          rw [hq] at hcall hsu
          have HS := Lib.hid hsu
          have HD2 := Lib.hid hcall
          clear hcall hsu hq
          go_wp2_with fail
          refine (HD2.out _ (by (repeat (first | with_reducible exact Ext.refl _ | with_reducible assumption | ((with_reducible apply Src.ext); with_reducible assumption) | with_reducible refine Ext.alloc ?_ _ | with_reducible refine Ext.drew ?_ | with_reducible refine Ext.drewN ?_ _ | ((with_reducible refine Ext.setCell' ?_ ?_ _); solve | omega | simp | (simp; omega)) | (with_reducible refine Ext.trans ?_ (by with_reducible assumption)))))).mono ?_
          rintro e w2 ⟨rfl, hx2⟩
          go_wp2
          go_roundw
          case rel => exact ⟨k + 1, by omega, by go_num, by rw [HS.out]; simp, by (repeat (first | with_reducible exact Ext.refl _ | with_reducible assumption | ((with_reducible apply Src.ext); with_reducible assumption) | with_reducible refine Ext.alloc ?_ _ | with_reducible refine Ext.drew ?_ | with_reducible refine Ext.drewN ?_ _ | ((with_reducible refine Ext.setCell' ?_ ?_ _); solve | omega | simp | (simp; omega)) | (with_reducible refine Ext.trans ?_ (by with_reducible assumption))))⟩
          case measure => simp [intOf]; omega
        | true =>
          rw [hq] at hcall hsu
          have HS := Lib.hid hsu
          have HD2 := Lib.hid hcall
          clear hcall hsu hq
          (go_wp2_with fail; refine (HD2.out _ (by (repeat (first | with_reducible exact Ext.refl _ | with_reducible assumption | ((with_reducible apply Src.ext); with_reducible assumption) | with_reducible refine Ext.alloc ?_ _ | with_reducible refine Ext.drew ?_ | with_reducible refine Ext.drewN ?_ _ | ((with_reducible refine Ext.setCell' ?_ ?_ _); solve | omega | simp | (simp; omega)) | (with_reducible refine Ext.trans ?_ (by with_reducible assumption)))))).mono ?_; rintro e w2 ⟨rfl, hx2⟩; obtain ⟨hc2, hf2⟩ := hx2.rules; have hs2 := hx2.size; (try simp at hs2); have := (show b < w2.heap.size from by omega))
          (go_wp2_with fail; refine (s_l18Area _ _ r.2.2 _ (HK.out.1.ext (by (repeat (first | with_reducible exact Ext.refl _ | with_reducible assumption | ((with_reducible apply Src.ext); with_reducible assumption) | with_reducible refine Ext.alloc ?_ _ | with_reducible refine Ext.drew ?_ | with_reducible refine Ext.drewN ?_ _ | ((with_reducible refine Ext.setCell' ?_ ?_ _); solve | omega | simp | (simp; omega)) | (with_reducible refine Ext.trans ?_ (by with_reducible assumption)))))) HR.out).mono ?_; rintro e w3 ⟨rfl, hx3⟩; obtain ⟨hc3, hf3⟩ := hx3.rules; have hs3 := hx3.size; (try simp at hs3))
          go_wp2
          go_roundw
          case rel => exact ⟨k + 1, by omega, by go_num, by rw [HS.out]; simp, by (repeat (first | with_reducible exact Ext.refl _ | with_reducible assumption | ((with_reducible apply Src.ext); with_reducible assumption) | with_reducible refine Ext.alloc ?_ _ | with_reducible refine Ext.drew ?_ | with_reducible refine Ext.drewN ?_ _ | ((with_reducible refine Ext.setCell' ?_ ?_ _); solve | omega | simp | (simp; omega)) | (with_reducible refine Ext.trans ?_ (by with_reducible assumption))))⟩
          case measure => simp [intOf]; omega
      · obtain rfl : k = rs.length := by omega
        go_wp2
        go_ret2
        exact ⟨rfl, by (repeat (first | with_reducible exact Ext.refl _ | with_reducible assumption | ((with_reducible apply Src.ext); with_reducible assumption) | with_reducible refine Ext.alloc ?_ _ | with_reducible refine Ext.drew ?_ | with_reducible refine Ext.drewN ?_ _ | ((with_reducible refine Ext.setCell' ?_ ?_ _); solve | omega | simp | (simp; omega)) | (with_reducible refine Ext.trans ?_ (by with_reducible assumption))))⟩
  | false =>
    rw [show arR (psOf rs) (voOf vs) [] (disB (voOf vs)) = 0 by unfold arR; rw [if_neg (by rw [viC_no hvb]; decide)], viC_no hvb]
    rw [hvb] at hcall
    have HC := Lib.hid hcall
    clear hcall hvb h hr h' hv
    go_enter Tryz.func41, Tryz.ntmps41
    go_wp2_with fail
    refine HC.out.mono ?_
    rintro e w1 ⟨rfl, hx1⟩
    go_wp2
    go_ret2
    exact ⟨rfl, by (repeat (first | with_reducible exact Ext.refl _ | with_reducible assumption | ((with_reducible apply Src.ext); with_reducible assumption) | with_reducible refine Ext.alloc ?_ _ | with_reducible refine Ext.drew ?_ | with_reducible refine Ext.drewN ?_ _ | ((with_reducible refine Ext.setCell' ?_ ?_ _); solve | omega | simp | (simp; omega)) | (with_reducible refine Ext.trans ?_ (by with_reducible assumption))))⟩

theorem s_DisputedArea' (A A' : Option Addr) (n m c c' : Nat) (rs : List Rg) (vs : List Vw) (w : World) (h : SlAt w 1 encR A rs) (hr : Rings w rs) (hl : rs.length ≤ 1048576) (h' : SlAt w 2 encV A' vs) (hv : Views w vs) (hl' : vs.length ≤ 1048576) (hn : n = rs.length) (hm : m = vs.length) :
    Calls Tryz.prog 41 #[.slice A n c, .slice A' m c'] w fun e w' => e = .returned (.tuple #[.int .i64 (arR (psOf rs) (voOf vs) [] (disB (voOf vs))), .int .i64 (viC (psOf rs) (voOf vs) [])]) ∧ Ext w w' := by
  subst hn hm
  exact s_DisputedArea A A' c c' rs vs  w h hr hl h' hv hl'

theorem i_DisputedArea' (A A' : Option Addr) (n m c c' : Nat) (rs : List Rg) (vs : List Vw) (w : World) (h : SlAt w 1 encR A rs) (hr : Rings w rs) (hl : rs.length ≤ 1048576) (hc : rs.length ≤ c) (h' : SlAt w 2 encV A' vs) (hv : Views w vs) (hl' : vs.length ≤ 1048576) (hn : n = rs.length) (hm : m = vs.length) :
    Calls Tryz.prog 42 #[.slice A n c, .slice A' m c'] w fun e w' => e = .returned (.tuple #[.int .i64 (arR (psOf rs) (voOf vs) [] (disB (voOf vs))), .int .i64 (viC (psOf rs) (voOf vs) [])]) ∧ Ext w w' := by
  subst hn hm
  exact i_DisputedArea A A' c c' rs vs  w h hr hl hc h' hv hl'

set_option maxRecDepth 20000 in
set_option maxHeartbeats 6400000 in
theorem fnExactDisputedArea_walk (A : Option Addr) (c : Nat) (rs : List Rg) (A' : Option Addr) (c' : Nat) (vs : List Vw) (w : World) (h : ArgR w A rs) (h' : ArgV w A' vs) :
    Calls Tryz.prog 9 #[.slice A rs.length c, .slice A' vs.length c'] w fun e w' => e = .returned (.bool true) ∧ Ext w w' := by
  go_enter Tryz.func9, Tryz.ntmps9
  go_wp2_with fail
  refine (l_szPointSS _ _ rs 1048576 _ h.sl h.len h.lens (by omega) (by omega)).mono ?_
  rintro e w' ⟨⟨z, rfl, hz1, hz⟩, rfl⟩
  rcases hz with rfl | ⟨hz0, hl, hs, _⟩
  · go_wp2
    go_ret
    exact ⟨rfl, Ext.refl _⟩
  have HS := Lib.hid hs
  clear hs
  go_wp2_with fail
  refine (l_szViewS _ _ vs z _ h'.sl h'.len h'.rg hz0 hz1).mono ?_
  rintro e w0 ⟨⟨z2, rfl, hz2, hzz⟩, hx0⟩
  rcases hzz with rfl | ⟨hz3, hvl, hg⟩
  · go_wp2
    go_ret
    exact ⟨rfl, hx0⟩
  · have HG := Lib.hid hg
    clear hg
    go_wp2_with fail
    refine (l_toPointSS _ _ rs _ (h.ext hx0).sl (h.ext hx0).rg hl HS.out).mono ?_
    rintro e w1 ⟨q1, cs1, rfl, hq1, hp1, hB1, hc1, hO1, hx1⟩
    have HP1 := Lib.hid hp1
    have HC1 := Lib.hid hc1
    have HQ1 := Lib.hid hq1
    have HO1 := Lib.hid hO1
    have HB1 := Lib.hid hB1
    clear hp1 hc1 hO1 hq1 hB1
    go_wp2_with fail
    refine (l_toViewS _ _ vs _ (h'.ext (hx0.trans hx1)).sl (fun i hi => ((h'.ext (hx0.trans hx1)).rg i hi).1) hvl HG.out).mono ?_
    rintro e w2 ⟨q2, cs2, rfl, hq2, hp2, hB2, hc2, hO2, hx2⟩
    have HP2 := Lib.hid hp2
    have HC2 := Lib.hid hc2
    have HQ2 := Lib.hid hq2
    have HO2 := Lib.hid hO2
    have HB2 := Lib.hid hB2
    clear hp2 hc2 hO2 hq2 hB2
    go_wp2_with fail
    refine (s_DisputedArea' _ _ rs.length vs.length _ _ q1 q2 _ ((HB1.out.ext hx2).sl HC1.out len_encR) (HO1.out.ext hx2).rings (by rw [HQ1.out]; exact hl) (HB2.out.sl HC2.out len_encV) HO2.out.views (by rw [HQ2.out]; exact hvl) HQ1.out.symm HQ2.out.symm).mono ?_
    rw [HP1.out, HP2.out]
    rintro e w3 ⟨rfl, hx3⟩
    have hX3 := ((hx0.trans hx1).trans hx2).trans hx3
    go_wp2_with fail
    refine (l_toPointSS _ _ rs _ (h.ext hX3).sl (h.ext hX3).rg hl HS.out).mono ?_
    rintro e w4 ⟨q4, cs4, rfl, hq4, hp4, hB4, hc4, hO4, hx4⟩
    have HP4 := Lib.hid hp4
    have HC4 := Lib.hid hc4
    have HQ4 := Lib.hid hq4
    have HO4 := Lib.hid hO4
    have HB4 := Lib.hid hB4
    clear hp4 hc4 hO4 hq4 hB4
    go_wp2_with fail
    refine (l_toViewS _ _ vs _ (h'.ext (hX3.trans hx4)).sl (fun i hi => ((h'.ext (hX3.trans hx4)).rg i hi).1) hvl HG.out).mono ?_
    rintro e w5 ⟨q5, cs5, rfl, hq5, hp5, hB5, hc5, hO5, hx5⟩
    have HP5 := Lib.hid hp5
    have HC5 := Lib.hid hc5
    have HQ5 := Lib.hid hq5
    have HO5 := Lib.hid hO5
    have HB5 := Lib.hid hB5
    clear hp5 hc5 hO5 hq5 hB5
    go_wp2_with fail
    refine (i_DisputedArea' _ _ rs.length vs.length _ _ q4 q5 _ ((HB4.out.ext hx5).sl HC4.out len_encR) (HO4.out.ext hx5).rings (by rw [HQ4.out]; exact hl) (by rw [HQ4.out]; exact Nat.le_refl _) (HB5.out.sl HC5.out len_encV) HO5.out.views (by rw [HQ5.out]; exact hvl) HQ4.out.symm HQ5.out.symm).mono ?_
    rw [HP4.out, HP5.out]
    rintro e w6 ⟨rfl, hx6⟩
    have hX6 := ((hX3.trans hx4).trans hx5).trans hx6
    generalize arR (psOf rs) (voOf vs) [] (disB (voOf vs)) = q1r at *
    generalize viC (psOf rs) (voOf vs) [] = q2r at *
    have hvb : (q1r != q1r) = false := by simp
    have hvb2 : (q2r != q2r) = false := by simp
    go_wp2_with fail
    refine (l_toPointSS _ _ rs _ (h.ext hX6).sl (h.ext hX6).rg hl HS.out).mono ?_
    rintro e w7 ⟨q7, cs7, rfl, hq7, hp7, hB7, hc7, hO7, hx7⟩
    have HP7 := Lib.hid hp7
    have HC7 := Lib.hid hc7
    have HQ7 := Lib.hid hq7
    have HO7 := Lib.hid hO7
    have HB7 := Lib.hid hB7
    clear hp7 hc7 hO7 hq7 hB7
    go_wp2_with fail
    refine (l_eqSS _ _ _ _ _ q4 q7 _ (((HB4.out.ext hx5).ext hx6).ext hx7 |>.sl HC4.out len_encR) (HB7.out.sl HC7.out len_encR) (((HO4.out.ext hx5).ext hx6).ext hx7).rings HO7.out.rings (by rw [HP4.out, HP7.out]) HQ4.out.symm hl).mono ?_
    rintro e w8 ⟨rfl, hx8⟩
    go_wp2_with fail
    refine (l_toViewS _ _ vs _ (h'.ext ((hX6.trans hx7).trans hx8)).sl (fun i hi => ((h'.ext ((hX6.trans hx7).trans hx8)).rg i hi).1) hvl HG.out).mono ?_
    rintro e w9 ⟨q9, cs9, rfl, hq9, hp9, hB9, hc9, hO9, hx9⟩
    have HP9 := Lib.hid hp9
    have HC9 := Lib.hid hc9
    have HQ9 := Lib.hid hq9
    have HO9 := Lib.hid hO9
    have HB9 := Lib.hid hB9
    clear hp9 hc9 hO9 hq9 hB9
    go_wp2_with fail
    refine (l_eqViewS _ _ _ _ _ q5 q9 _ ((((HB5.out.ext hx6).ext hx7).ext hx8).ext hx9 |>.sl HC5.out len_encV) (HB9.out.sl HC9.out len_encV) ((((HO5.out.ext hx6).ext hx7).ext hx8).ext hx9).views HO9.out.views (by rw [HP5.out, HP9.out]) HQ5.out.symm hvl).mono ?_
    rintro e w10 ⟨rfl, hx10⟩
    go_wp2
    go_ret
    exact ⟨rfl, (((hX6.trans hx7).trans hx8).trans hx9).trans hx10⟩

end Go.Proofs.YtdbheipjbjcikaaGreatDoor
namespace Go.Proofs.YtdbheipjbjcikaaGreatDoor
open Go.RowKit
attribute [local go_sem] ExtOf.cell ExtOf.frozen

/-- the text of mark k -/
def mkL (k : Nat) : List UInt8 := 109 :: Lib.decDigits k
/-- the digits of m ahead of o -/
def dgO (m : Nat) (o : List UInt8) : List UInt8 := if m = 0 then o else Lib.decDigits m ++ o
theorem dgO_step {m : Nat} (hm : 0 < m) (o : List UInt8) : dgO (m / 10) (UInt8.ofNat (48 + m % 10) :: o) = dgO m o := by
  unfold dgO
  rw [if_neg (show ¬ m = 0 by omega)]
  by_cases h : m < 10
  · rw [if_pos (by omega), Lib.decDigits_one h, Nat.mod_eq_of_lt h]; rfl
  · rw [if_neg (by omega), show Lib.decDigits m = Lib.decDigits (m / 10) ++ [UInt8.ofNat (48 + m % 10)] by rw [Lib.decDigits, dif_neg h], List.append_assoc]; rfl
theorem dgO_len {m : Nat} {o D : List UInt8} (h : dgO m o = D) : o.length ≤ D.length := by
  rw [← h]
  unfold dgO
  split
  · exact Nat.le_refl _
  · simp
set_option maxRecDepth 20000 in
set_option maxHeartbeats 3200000 in
theorem l_markText (k : Nat) (w : World) (h0 : 0 < k) (h1 : k ≤ 1000000000000000) : Calls Tryz.prog 108 #[.int .i64 k] w fun e w' => e = .returned (.string (tx (mkL k))) ∧ Ext w w' := by
  have hl := dec_len (n := k) (by omega)
  have hle : decide ((k : Int) ≤ 0) = false := decide_eq_false (by omega)
  go_enter Tryz.func108, Tryz.ntmps108
  go_wp2
  go_loopw [0, 3] (fun kv ov wr => ∃ (m : Nat) (o : List UInt8), m ≤ k ∧ kv = .int .i64 m ∧ ov = .string (tx o) ∧ Hid (dgO m o = Lib.decDigits k) ∧ Ext w wr) (fun kv _ _ => (intOf kv).toNat)
  case atStart => exact ⟨k, [], Nat.le_refl _, rfl, rfl, Lib.hid (by unfold dgO; rw [if_neg (by omega), List.append_nil]), by (repeat (first | with_reducible exact Ext.refl _ | with_reducible assumption | ((with_reducible apply Src.ext); with_reducible assumption) | with_reducible refine Ext.alloc ?_ _ | with_reducible refine Ext.drew ?_ | with_reducible refine Ext.drewN ?_ _ | ((with_reducible refine Ext.setCell' ?_ ?_ _); solve | omega | simp | (simp; omega)) | (with_reducible refine Ext.trans ?_ (by with_reducible assumption))))⟩
  case round =>
    obtain ⟨m, o, hm, rfl, rfl, HD, hxr⟩ := hrel
    have hol := dgO_len HD.out
    by_cases hm0 : 0 < m
    · have hq : (m : Int).tdiv 10 = ((m / 10 : Nat) : Int) := by rw [Int.tdiv_eq_ediv_of_nonneg (by omega)]; omega
      have hr : (m : Int).tmod 10 = ((m % 10 : Nat) : Int) := by rw [Int.tmod_eq_emod_of_nonneg (by omega)]; omega
      have hz := dig_nat (Nat.mod_lt m (show 0 < 10 by omega))
      have hml := Nat.mod_lt m (show 0 < 10 by omega)
      have HD2 := Lib.hid ((dgO_step hm0 o).trans HD.out)
      generalize UInt8.ofNat (48 + m % 10) = x at hz HD2
      have hlt : m / 10 < m := by omega
      generalize hn1 : m / 10 = a at *
      generalize hn2 : m % 10 = b at *
      have hconv : ∀ (W : World) (g : Nat), W.cell? ⟨g, 0, none⟩ = some (.int .u8 (48 + (b : Int))) → (convert 28 9 (.slice (some ⟨g, 0, none⟩) 1 1)).run Tryz.prog W = .ok (.string (tx [x])) W := fun W g hc => conv_one hz hc
      have hw1 : IntKind.i64.wrap (a : Int) = (a : Int) := IntWalk.i64_in _ (by omega)
      have hw2 : IntKind.i64.wrap (48 + (b : Int)) = 48 + (b : Int) := IntWalk.i64_in _ (by omega)
      have hw3 : IntKind.u8.wrap (48 + (b : Int)) = 48 + (b : Int) := IntWalk.u8_in _ (by omega)
      have hf : ((tx [x]).size + (tx o).size > 9223372036854775807) = False := eq_false (by rw [tx_size, tx_size]; simp; omega)
      have E1 : Hid (tx [x] ++ tx o = tx (x :: o)) := Lib.hid (by rw [tx_add]; rfl)
      generalize htx : tx [x] = s1 at *
      generalize hto : tx o = s2 at *
      have HA : Hid (a < m ∧ m ≤ k) := Lib.hid ⟨hlt, hm⟩
      clear hz hn1 hn2 hol htx hto
      go_wp2
      go_roundw
      case rel => exact ⟨a, x :: o, by omega, by go_num, by rw [← E1.out], HD2, by (repeat (first | with_reducible exact Ext.refl _ | with_reducible assumption | ((with_reducible apply Src.ext); with_reducible assumption) | with_reducible refine Ext.alloc ?_ _ | with_reducible refine Ext.drew ?_ | with_reducible refine Ext.drewN ?_ _ | ((with_reducible refine Ext.setCell' ?_ ?_ _); solve | omega | simp | (simp; omega)) | (with_reducible refine Ext.trans ?_ (by with_reducible assumption))))⟩
      case measure => simp [intOf]; omega
    · obtain rfl : m = 0 := by omega
      have hE : o = Lib.decDigits k := by have := HD.out; unfold dgO at this; rwa [if_pos rfl] at this
      have hf : (1 + (tx o).size > 9223372036854775807) = False := eq_false (by rw [tx_size]; omega)
      have E1 : Hid ((⟨#[109]⟩ : ByteArray) ++ tx o = tx (mkL k)) := Lib.hid (by rw [tx_cons, hE]; rfl)
      generalize tx o = s2 at *
      clear hE hol
      go_wp2
      go_ret
      exact ⟨congrArg (fun s => Ending.returned (.string s)) E1.out, by (repeat (first | with_reducible exact Ext.refl _ | with_reducible assumption | ((with_reducible apply Src.ext); with_reducible assumption) | with_reducible refine Ext.alloc ?_ _ | with_reducible refine Ext.drew ?_ | with_reducible refine Ext.drewN ?_ _ | ((with_reducible refine Ext.setCell' ?_ ?_ _); solve | omega | simp | (simp; omega)) | (with_reducible refine Ext.trans ?_ (by with_reducible assumption))))⟩
theorem mkL_len {k : Nat} (h : k ≤ 1000000000000000) : (mkL k).length ≤ 21 := by
  have := dec_len (n := k) (by omega)
  simp only [mkL, List.length_cons]
  omega
/-- marks in a list of texts -/
def marksS (k n : Nat) : List (List UInt8) := (List.range n).map fun i => mkL (k + i)
theorem marksS_len (k n : Nat) : (marksS k n).length = n := by simp [marksS]
theorem marksS_at (k : Nat) {n i : Nat} (hi : i < n) : (marksS k n).getD i [] = mkL (k + i) := by simp [marksS, List.getD, hi]
def MarkS (k j sz : Nat) (cs : Array Value) : Prop := cs.size = sz ∧ ∀ q, q < j → cs[q]? = some (.string (tx (mkL (k + q))))
theorem MarkS.step {k j sz : Nat} {cs : Array Value} (h : MarkS k j sz cs) (hs : j < sz) : MarkS k (j + 1) sz (cs.setIfInBounds j (.string (tx (mkL (k + j))))) := by
  have hz := h.1
  refine ⟨by simpa using h.1, fun q hq => ?_⟩
  by_cases e : q = j
  · subst e
    rw [Array.getElem?_setIfInBounds_self_of_lt (by omega)]
  · rw [Array.getElem?_setIfInBounds_ne (by omega)]
    exact h.2 q (by omega)
theorem MarkS.done {k n sz : Nat} {cs : Array Value} (h : MarkS k n sz cs) (hs : n ≤ sz) : cs.toList.take (n * 1) = (marksS k n).flatMap encS := by
  have hz := h.1
  rw [Nat.mul_one]
  apply List.ext_getElem?
  intro i
  rcases Nat.lt_or_ge i n with hi | hi
  · rw [List.getElem?_take_of_lt hi, Array.getElem?_toList, h.2 i hi]
    have hg : (marksS k n)[i]? = some (mkL (k + i)) := by simp [marksS, hi]
    have h0 := flatMap_at (enc := encS) (sz := 1) len_encS (marksS k n) i _ 0 _ hg rfl
    rw [Nat.mul_one, Nat.add_zero] at h0
    rw [h0]
  · have hle : (cs.toList.take n).length ≤ i := by simp; omega
    rw [List.getElem?_eq_none hle, List.getElem?_eq_none (by rw [flatMap_len len_encS, marksS_len]; omega)]
set_option maxHeartbeats 3200000 in
theorem l_markS (base : Nat) (v : Value) (xs : List (List UInt8)) (n k : Nat) (w : World) (h : OwS w base v xs) (hne : n = xs.length) (hl : n ≤ 1048576) (hk : 0 < k) (hk' : k ≤ 100000000000000) :
    Calls Tryz.prog 48 #[v, .int .i64 k] w fun e w' => e = .returned (.int .i64 ((k + n : Nat) : Int)) ∧ OwS w' base v (marksS k n) ∧ w.grownBy w' v.ownBlock := by
  subst hne
  rcases Nat.eq_zero_or_pos xs.length with h0 | h0
  · have hps : xs = [] := List.length_eq_zero_iff.1 h0
    subst hps
    have hv : ∃ A c, v = .slice A 0 c := by obtain ⟨A, c, e, _⟩ := h.sl len_encS; exact ⟨A, c, e⟩
    obtain ⟨A, c, rfl⟩ := hv
    have HH := Lib.hid h
    clear h
    go_enter Tryz.func48, Tryz.ntmps48
    go_wp2
    go_loop [1, 5] (fun m i => i = .int .i64 0 ∧ m = .int .i64 k) (fun _ _ => 0)
    case atStart => exact ⟨rfl, rfl⟩
    case round =>
      obtain ⟨rfl, rfl⟩ := hrel
      go_wp2
      go_ret
      exact ⟨by simp, HH.out, World.grownBy.refl _ _⟩
  · obtain ⟨g, cap, cur, rfl, hb, hB, hn, hm, hs, ht⟩ := h.open_ h0
    have HM := Lib.hid hm
    have HC : Hid (MarkS k 0 cur.size cur) := Lib.hid ⟨rfl, fun q hq => absurd hq (by omega)⟩
    rw [Nat.mul_one] at hs
    clear ht h hm
    go_enter Tryz.func48, Tryz.ntmps48
    go_wp2
    go_loopw [1, 5] (fun m i wr => ∃ (j : Nat) (cs : Array Value), j ≤ xs.length ∧ i = .int .i64 j ∧ m = .int .i64 ((k + j : Nat) : Int) ∧ Blk wr g 9 cs ∧ Hid (MarkS k j cur.size cs) ∧ But g w wr) (fun _ i _ => xs.length - (intOf i).toNat)
    case atStart => exact ⟨0, cur, by omega, rfl, by simp, hB, HC, But.refl g w⟩
    case round =>
      obtain ⟨j, cs, hj, rfl, rfl, hBr, HC, HG⟩ := hrel
      have hgr := hBr.lt
      by_cases hlt : j < xs.length
      · have hcz := HC.out.1
        obtain ⟨u0, hu0⟩ : ∃ u, cs[j]? = some u := ⟨_, Array.getElem?_eq_getElem (by omega)⟩
        rw [← hBr.cell] at hu0
        have f0 := hBr.frozen j
        have HS := Lib.hid (HC.out.step (j := j) (by omega))
        have HT := Lib.hid (fun W => l_markText (k + j) W (by omega) (by omega))
        generalize tx (mkL (k + j)) = s at *
        obtain ⟨kj, hkj⟩ : ∃ q, q = k + j := ⟨_, rfl⟩
        rw [← hkj] at HT ⊢
        have HKJ := Lib.hid hkj
        have hkj2 : kj ≤ 200000000000000 := by omega
        clear hcz hkj
        go_wp2_with fail
        refine (HT.out _).mono ?_
        rintro e w1 ⟨rfl, hx1⟩
        obtain ⟨hc1, hf1⟩ := hx1.rules
        have hs1 := hx1.size
        (try simp at hs1)
        have := (show g < w1.heap.size from by omega)
        go_wp2
        go_roundw
        case rel => exact ⟨j + 1, _, by omega, by go_num, by have := HKJ.out; congr 1; omega, Blk.eq (by (repeat (first | with_reducible assumption | ((with_reducible apply Blk.new); solve | simp | rfl) | with_reducible apply Blk.drew | with_reducible apply Blk.drewN | ((with_reducible apply Blk.far'); solve | omega | simp | (simp; omega)) | with_reducible apply Blk.set_ | with_reducible apply Blk.alloc | ((with_reducible apply Blk.ext'); with_reducible assumption) | ((with_reducible apply Blk.but'); (with_reducible assumption); solve | omega | (simp; omega))))) (by rfl), HS, by (repeat (first | with_reducible exact But.refl _ _ | with_reducible assumption | with_reducible refine But.alloc ?_ _ | with_reducible refine But.drew ?_ | with_reducible refine But.drewN ?_ _ | with_reducible refine But.set_ ?_ _ _ | ((with_reducible refine But.new ?_ ?_ _); solve | omega | simp | (simp; omega)) | (with_reducible refine But.trans ?_ (by with_reducible assumption)) | (with_reducible refine But.trans ?_ (But.of (by with_reducible assumption)))))⟩
        case measure => simp [intOf]; omega
      · obtain rfl : j = xs.length := by omega
        go_wp2
        go_ret
        refine ⟨rfl, ⟨?_, .inr ⟨g, cap, cs, ?_, hb, hBr, ?_, HM.out, ?_, ?_⟩⟩, ?_⟩
        · rw [flatMap_len len_encS]
        · rw [marksS_len]
        · rw [marksS_len]; exact hn
        · rw [HC.out.1, hs, Nat.mul_one]
        · rw [marksS_len]; exact HC.out.done (by omega)
        · exact HG.grown
set_option maxHeartbeats 1600000 in
theorem l_heldS (A : Option Addr) (n c k : Nat) (w : World) (h : SlAt w 1 encS A (marksS k n)) (hl : n ≤ 1048576) (hk : 0 < k) (hk' : k ≤ 100000000000000) :
    Calls Tryz.prog 49 #[.slice A n c, .int .i64 k] w fun e w' => e = .returned (.int .i64 ((k + n : Nat) : Int)) ∧ Ext w w' := by
  go_enter Tryz.func49, Tryz.ntmps49
  go_wp2
  go_loopw [1, 5] (fun m i wr => ∃ j : Nat, j ≤ n ∧ i = .int .i64 j ∧ m = .int .i64 ((k + j : Nat) : Int) ∧ Ext w wr) (fun _ i _ => n - (intOf i).toNat)
  case atStart => exact ⟨0, by omega, rfl, by simp, by (repeat (first | with_reducible exact Ext.refl _ | with_reducible assumption | ((with_reducible apply Src.ext); with_reducible assumption) | with_reducible refine Ext.alloc ?_ _ | with_reducible refine Ext.drew ?_ | with_reducible refine Ext.drewN ?_ _ | ((with_reducible refine Ext.setCell' ?_ ?_ _); solve | omega | simp | (simp; omega)) | (with_reducible refine Ext.trans ?_ (by with_reducible assumption))))⟩
  case round =>
    obtain ⟨j, hj, rfl, rfl, hx⟩ := hrel
    by_cases hlt : j < n
    · obtain ⟨b, off, rfl, hb, d0⟩ := (h.ext hx).st (k := j) (by rw [marksS_len]; exact hlt)
      rw [marksS_at k hlt] at d0
      have HT := Lib.hid (fun W => l_markText (k + j) W (by omega) (by omega))
      generalize tx (mkL (k + j)) = s at *
      have hss : (s.toList == s.toList) = true := by simp
      obtain ⟨kj, hkj⟩ : ∃ q, q = k + j := ⟨_, rfl⟩
      rw [← hkj] at HT ⊢
      have HKJ := Lib.hid hkj
      have hkj2 : kj ≤ 200000000000000 := by omega
      clear hkj
      go_wp2
      (refine wp_region_ext (by kernel_rfl) (by kernel_rfl) ?_; (repeat (go_big_quiet_step ((go_at_call 108; exact Calls_ext (HT.out _))))); refine wpQuiet_nil ?_; intro wq hxwq; obtain ⟨hcwq, hfwq⟩ := hxwq.rules; have hswq := hxwq.size; (try simp at hswq))
      go_wp2
      go_roundw
      case rel => exact ⟨j + 1, by omega, by go_num, by have := HKJ.out; congr 1; omega, by (repeat (first | with_reducible exact Ext.refl _ | with_reducible assumption | ((with_reducible apply Src.ext); with_reducible assumption) | with_reducible refine Ext.alloc ?_ _ | with_reducible refine Ext.drew ?_ | with_reducible refine Ext.drewN ?_ _ | ((with_reducible refine Ext.setCell' ?_ ?_ _); solve | omega | simp | (simp; omega)) | (with_reducible refine Ext.trans ?_ (by with_reducible assumption))))⟩
      case measure => simp [intOf]; omega
    · obtain rfl : j = n := by omega
      go_wp2
      go_ret
      exact ⟨rfl, by (repeat (first | with_reducible exact Ext.refl _ | with_reducible assumption | ((with_reducible apply Src.ext); with_reducible assumption) | with_reducible refine Ext.alloc ?_ _ | with_reducible refine Ext.drew ?_ | with_reducible refine Ext.drewN ?_ _ | ((with_reducible refine Ext.setCell' ?_ ?_ _); solve | omega | simp | (simp; omega)) | (with_reducible refine Ext.trans ?_ (by with_reducible assumption))))⟩

end Go.Proofs.YtdbheipjbjcikaaGreatDoor
namespace Go.Proofs.YtdbheipjbjcikaaGreatDoor
open Go.RowKit
attribute [local go_sem] ExtOf.cell ExtOf.frozen

/-- w' is w with new blocks behind; of the old ones only those from lo to below hi may have turned -/
structure Btw (lo hi : Nat) (w w' : World) : Prop where
  os : w'.os = w.os
  tape : w'.tape = w.tape
  output : w'.output = w.output
  size : w.heap.size ≤ w'.heap.size
  block : ∀ k, k < w.heap.size → (k < lo ∨ hi ≤ k) → w'.heap[k]? = w.heap[k]?
theorem Btw.refl (lo hi : Nat) (w : World) : Btw lo hi w w := ⟨rfl, rfl, rfl, Nat.le_refl _, fun _ _ _ => rfl⟩
theorem Btw.trans {lo hi : Nat} {a b c : World} (h : Btw lo hi a b) (k : Btw lo hi b c) : Btw lo hi a c :=
  ⟨k.os.trans h.os, k.tape.trans h.tape, k.output.trans h.output, Nat.le_trans h.size k.size, fun i hi hc => (k.block i (Nat.lt_of_lt_of_le hi h.size) hc).trans (h.block i hi hc)⟩
theorem Btw.of {lo hi : Nat} {a b : World} (h : Ext a b) : Btw lo hi a b := ⟨h.os, h.tape, h.output, h.size, fun k hk _ => h.block k hk⟩
theorem Btw.on {lo hi : Nat} {a b c : World} (h : Btw lo hi a b) (k : Ext b c) : Btw lo hi a c := h.trans (.of k)
theorem Btw.set_ {lo hi g : Nat} {a w : World} (h : Btw lo hi a w) (h1 : lo ≤ g) (h2 : g < hi) (i : Nat) (u : Value) : Btw lo hi a (w.setCell ⟨g, i, none⟩ u) :=
  h.trans ⟨rfl, rfl, rfl, by simp [World.setCell], fun k _ hk => Below.heap_setCell _ _ _ _ (by show k ≠ g; omega)⟩
theorem Btw.grown {lo hi g : Nat} {a w w' : World} (h : Btw lo hi a w) (hg : w.grownBy w' (some g)) (h1 : lo ≤ g) (h2 : g < hi) : Btw lo hi a w' :=
  ⟨hg.os.trans h.os, hg.tape.trans h.tape, hg.output.trans h.output, Nat.le_trans h.size hg.size, fun k hk hc => (hg.block k (Nat.lt_of_lt_of_le hk h.size) (fun e => by injection e with e; omega)).trans (h.block k hk hc)⟩
theorem Btw.ext {lo hi : Nat} {a w w' : World} (h : Btw lo hi w w') (hx : Ext a w) (hl : a.heap.size ≤ lo) : Ext a w' :=
  ⟨h.os.trans hx.os, h.tape.trans hx.tape, h.output.trans hx.output, Nat.le_trans hx.size h.size, fun k hk => (h.block k (Nat.lt_of_lt_of_le hk hx.size) (.inl (by omega))).trans (hx.block k hk)⟩
theorem SlAt.btw {α : Type} {enc : α → List Value} {sz lo hi : Nat} {w w' : World} {A : Option Addr} {xs : List α} (h : SlAt w sz enc A xs) (hm : Btw lo hi w w') (ha : ∀ q, A = some q → q.block < lo ∨ hi ≤ q.block) : SlAt w' sz enc A xs := fun hn => by
  obtain ⟨b, off, e, hb, hc⟩ := h hn
  refine ⟨b, off, e, Nat.lt_of_lt_of_le hb hm.size, fun i x hi j u hj => ?_⟩
  exact (World.cell?_of_block (a := ⟨b, off + i * sz + j, none⟩) (hm.block b hb (ha _ e))).trans (hc i x hi j u hj)
theorem Blk.btw {lo hi g : Nat} {w w' : World} {t : TypeId} {cs : Array Value} (h : Blk w g t cs) (hm : Btw lo hi w w') (hg : g < lo ∨ hi ≤ g) : Blk w' g t cs := (hm.block g h.lt hg).trans h
theorem Own.btw {α : Type} {enc : α → List Value} {sz lo hi base : Nat} {t : TypeId} {w w' : World} {v : Value} {xs : List α} (h : Own enc sz t w base v xs) (hm : Btw lo hi w w') (hb : hi ≤ base) : Own enc sz t w' base v xs := by
  refine ⟨h.1, ?_⟩
  rcases h.2 with hn | ⟨g, cap, cur, rfl, hbb, hgg, rest⟩
  · exact .inl hn
  · refine .inr ⟨g, cap, cur, rfl, hbb, ?_, rest⟩
    rw [hm.block g (Array.getElem?_eq_some_iff.1 hgg).1 (.inr (by omega))]
    exact hgg

end Go.Proofs.YtdbheipjbjcikaaGreatDoor
namespace Go.Proofs.YtdbheipjbjcikaaGreatDoor
open Go.RowKit
attribute [local go_sem] ExtOf.cell ExtOf.frozen
/-- w' is w with new blocks behind; of the old ones only those between lo and hi may have turned -/
structure Mid (lo hi : Nat) (w w' : World) : Prop where
  os : w'.os = w.os
  tape : w'.tape = w.tape
  output : w'.output = w.output
  size : w.heap.size ≤ w'.heap.size
  block : ∀ k, k < w.heap.size → (k ≤ lo ∨ hi ≤ k) → w'.heap[k]? = w.heap[k]?
theorem Mid.refl (lo hi : Nat) (w : World) : Mid lo hi w w := ⟨rfl, rfl, rfl, Nat.le_refl _, fun _ _ _ => rfl⟩
theorem Mid.grown {lo hi g : Nat} {a w w' : World} (h : Mid lo hi a w) (hg : w.grownBy w' (some g)) (h1 : lo < g) (h2 : g < hi) : Mid lo hi a w' :=
  ⟨hg.os.trans h.os, hg.tape.trans h.tape, hg.output.trans h.output, Nat.le_trans h.size hg.size, fun k hk hc => (hg.block k (Nat.lt_of_lt_of_le hk h.size) (fun e => by injection e with e; omega)).trans (h.block k hk hc)⟩
theorem Mid.ext {lo hi : Nat} {a w w' : World} (h : Mid lo hi w w') (hx : Ext a w) (hl : a.heap.size ≤ lo + 1) : Ext a w' :=
  ⟨h.os.trans hx.os, h.tape.trans hx.tape, h.output.trans hx.output, Nat.le_trans hx.size h.size, fun k hk => (h.block k (Nat.lt_of_lt_of_le hk hx.size) (.inl (by omega))).trans (hx.block k hk)⟩
theorem SlAt.mid {α : Type} {enc : α → List Value} {sz lo hi : Nat} {w w' : World} {A : Option Addr} {xs : List α} (h : SlAt w sz enc A xs) (hm : Mid lo hi w w') (ha : ∀ q, A = some q → q.block ≤ lo ∨ hi ≤ q.block) : SlAt w' sz enc A xs := fun hn => by
  obtain ⟨b, off, e, hb, hc⟩ := h hn
  refine ⟨b, off, e, Nat.lt_of_lt_of_le hb hm.size, fun i x hi j u hj => ?_⟩
  exact (World.cell?_of_block (a := ⟨b, off + i * sz + j, none⟩) (hm.block b hb (ha _ e))).trans (hc i x hi j u hj)
theorem Own.mid {α : Type} {enc : α → List Value} {sz lo hi base : Nat} {t : TypeId} {w w' : World} {v : Value} {xs : List α} (h : Own enc sz t w base v xs) (hm : Mid lo hi w w') (hb : hi ≤ base) : Own enc sz t w' base v xs := by
  refine ⟨h.1, ?_⟩
  rcases h.2 with hn | ⟨g, cap, cur, rfl, hbb, hgg, rest⟩
  · exact .inl hn
  · refine .inr ⟨g, cap, cur, rfl, hbb, ?_, rest⟩
    rw [hm.block g (Array.getElem?_eq_some_iff.1 hgg).1 (.inr (by omega))]
    exact hgg
theorem sumL_le {rs : List Rg} {k m : Nat} (h : k ≤ m) : sumL rs k ≤ sumL rs m := by
  induction m with
  | zero => rw [show k = 0 by omega]; exact Int.le_refl _
  | succ m ih =>
    rcases Nat.lt_or_ge k (m + 1) with c | c
    · have := ih (by omega)
      unfold sumL at *
      rw [tot]
      omega
    · rw [show k = m + 1 by omega]; exact Int.le_refl _
theorem sumL_nonneg (rs : List Rg) (k : Nat) : 0 ≤ sumL rs k := by
  have := sumL_le (rs := rs) (Nat.zero_le k)
  simpa [sumL, tot] using this
set_option maxHeartbeats 6400000 in
theorem l_markSS (base hi : Nat) (off n c : Nat) (rs : List Rg) (k : Int) (w : World) (h : SlAt w 1 encR (some ⟨base, off, none⟩) rs) (hO : RgOwn w base rs) (hn : n = rs.length) (hl : rs.length ≤ 1048576) (hs : sumL rs rs.length ≤ 1048576) (hk : 0 ≤ k) (hk' : k ≤ 1000000000) (hhi : ∀ j, j < rs.length → blkOf (rs.getD j rgD) < hi) :
    Calls Tryz.prog 46 #[.slice (some ⟨base, off, none⟩) n c, .int .i64 k] w fun e w' => e = .returned (.int .i64 (k + 2 * sumL rs rs.length)) ∧ Mid base hi w w' := by
  subst hn
  have HO := Lib.hid hO
  have HS := Lib.hid hs
  have HHI := Lib.hid hhi
  clear hO hs hhi
  go_enter Tryz.func46, Tryz.ntmps46
  go_wp2
  go_loopw [1, 5] (fun m i wr => ∃ j : Nat, j ≤ rs.length ∧ i = .int .i64 j ∧ m = .int .i64 (k + 2 * sumL rs j) ∧ Hid (∀ q, j ≤ q → q < rs.length → ∃ g cs, (rs.getD q rgD).1 = some ⟨g, 0, none⟩ ∧ (rs.getD q rgD).2.1 = (rs.getD q rgD).2.2.length ∧ base < g ∧ g < hi ∧ Blk wr g 70 cs ∧ cs.toList = (rs.getD q rgD).2.2.flatMap encP) ∧ Mid base hi w wr) (fun _ i _ => rs.length - (intOf i).toNat)
  case atStart =>
    refine ⟨0, Nat.zero_le _, rfl, by simp [sumL, tot], Lib.hid (fun q _ hq => ?_), Mid.refl _ _ _⟩
    obtain ⟨g, cs, e, hg, hB, hcs, _⟩ := HO.out q hq
    have hgh := HHI.out q hq
    rw [e] at hgh
    exact ⟨g, cs, by rw [e], by rw [e], hg, hgh, hB, hcs⟩
  case round =>
    obtain ⟨j, hj, rfl, rfl, HR, HM⟩ := hrel
    by_cases hlt : j < rs.length
    · obtain ⟨b, o, e, hbb, hcell⟩ := (h.mid HM (fun q hq => by injection hq with hq; subst hq; exact .inl (Nat.le_refl _))).rg hlt
      injection e with e
      injection e with e1 e2
      subst e1 e2
      obtain ⟨g, cs, eg, ecap, hg, hgw, hB, hcs⟩ := HR.out j (Nat.le_refl _) hlt
      have hOj := HO.out j hlt
      have hsl := sumL_le (rs := rs) (show j ≤ rs.length by omega)
      have hsn := sumL_nonneg rs j
      have hsl1 : sumL rs j ≤ 1048576 := by have := HS.out; omega
      have hsu : sumL rs (j + 1) = sumL rs j + ((rs.getD j rgD).2.2.length : Int) := by unfold sumL; rw [tot]
      have hlen : (rs.getD j rgD).2.2.length ≤ 1048576 := by
        obtain ⟨_, _, _, _, _, _, _, hx⟩ := hOj
        exact hx
      have hOw : OwP wr 0 (.slice (rs.getD j rgD).1 (rs.getD j rgD).2.2.length (rs.getD j rgD).2.1) (rs.getD j rgD).2.2 := by
        rw [eg, ecap]
        exact Own.of_blk hB len_encP hcs (Nat.zero_le _) (by unfold maxLen; omega)
      have HNX : Hid (∀ w', wr.grownBy w' (some g) → (∀ q, j + 1 ≤ q → q < rs.length → ∃ g cs, (rs.getD q rgD).1 = some ⟨g, 0, none⟩ ∧ (rs.getD q rgD).2.1 = (rs.getD q rgD).2.2.length ∧ base < g ∧ g < hi ∧ Blk w' g 70 cs ∧ cs.toList = (rs.getD q rgD).2.2.flatMap encP)) := Lib.hid (fun w' hgr q hq hql => by
        obtain ⟨g', cs', a1, a2, a3, a4, a5, a6⟩ := HR.out q (by omega) hql
        refine ⟨g', cs', a1, a2, a3, a4, ?_, a6⟩
        obtain ⟨g2, cs2, b1, b2, b3, b4, b5, b6⟩ := HO.out q hql
        have hg2 : g2 = g' := by
          rw [b1] at a1
          injection a1 with a1
          injection a1
        have hlt2 := b5 j (by omega)
        unfold blkOf at hlt2
        rw [eg] at hlt2
        simp only at hlt2
        exact (hgr.block g' a5.lt (fun e => by injection e with e; omega)).trans a5)
      have HEG : Hid ((Value.slice (rs.getD j rgD).1 (rs.getD j rgD).2.2.length (rs.getD j rgD).2.1).ownBlock = some g) := Lib.hid (by rw [eg]; rfl)
      obtain ⟨r, hre⟩ : ∃ r, r = rs.getD j rgD := ⟨_, rfl⟩
      rw [← hre] at hcell hOw hsu HEG hlen
      have HSU := Lib.hid hsu
      have HOW := Lib.hid hOw
      clear hre hOw hsu hOj hB hcs eg ecap
      go_wp2_with fail
      refine (l_markPointS _ _ r.2.2 _ _ HOW.out hlen (by omega) (by omega)).mono ?_
      rintro e w1 ⟨rfl, hO1, hg1⟩
      rw [HEG.out] at hg1
      have HN2 := Lib.hid (HNX.out w1 hg1)
      have HM2 := HM.grown hg1 hg hgw
      clear hg1 hO1
      go_wp2
      go_roundw
      case rel => exact ⟨j + 1, by omega, by go_num, by rw [HSU.out]; congr 1; omega, HN2, HM2⟩
      case measure => simp [intOf]; omega
    · obtain rfl : j = rs.length := by omega
      go_wp2
      go_ret
      exact ⟨rfl, HM⟩


theorem Mid.btw {lo hi : Nat} {w w' : World} (h : Mid lo hi w w') : Btw lo hi w w' := ⟨h.os, h.tape, h.output, h.size, fun k hk hc => h.block k hk (by omega)⟩
/-- the owners' slices in a row of views -/
def KeepV (vs : List Vw) (cs : Array Value) : Prop := cs.size = vs.length * 2 ∧ ∀ q, q < vs.length → cs[q * 2 + 1]? = some (.slice (vs.getD q vwD).2.1 (vs.getD q vwD).2.2.2.length (vs.getD q vwD).2.2.1)
theorem KeepV.start {vs : List Vw} {cs : Array Value} (h : cs.toList = vs.flatMap encV) : KeepV vs cs := by
  refine ⟨?_, fun q hq => ?_⟩
  · rw [← Array.length_toList, h, flatMap_len len_encV]
  · rw [← Array.getElem?_toList, h]
    exact flatMap_at (enc := encV) (sz := 2) len_encV vs q _ 1 _ (by simp [List.getD, hq]) rfl
theorem KeepV.step {vs : List Vw} {cs : Array Value} {j : Nat} {u : Value} (h : KeepV vs cs) : KeepV vs (cs.setIfInBounds (j * 2) u) := by
  refine ⟨by simpa using h.1, fun q hq => ?_⟩
  rw [Array.getElem?_setIfInBounds_ne (by omega)]
  exact h.2 q hq
set_option maxRecDepth 20000 in
set_option maxHeartbeats 6400000 in
theorem l_markViewS (lo hi base n c k : Nat) (vs : List Vw) (cs : Array Value) (w : World) (hB : Blk w base 104 cs) (hcs : cs.toList = vs.flatMap encV) (hO : VwOwn w base vs) (hn : n = vs.length) (hl : n ≤ 1048576) (hk : 0 < k) (hk' : k ≤ 1000000000) (h1 : lo ≤ base) (h2 : base < hi) (hhi : ∀ j, j < vs.length → blkV (vs.getD j vwD) < hi) :
    Calls Tryz.prog 47 #[.slice (some ⟨base, 0, none⟩) n c, .int .i64 k] w fun e w' => ∃ z : Nat, e = .returned (.int .i64 z) ∧ 0 < z ∧ Btw lo hi w w' := by
  have HN := Lib.hid hn
  have HO := Lib.hid hO
  have HHI := Lib.hid hhi
  have HCS := Lib.hid (KeepV.start hcs)
  clear hO hhi hcs hn
  go_enter Tryz.func47, Tryz.ntmps47
  go_wp2
  go_loopw [1, 5] (fun m i wr => ∃ (j z : Nat) (cs' : Array Value), j ≤ n ∧ i = .int .i64 j ∧ m = .int .i64 z ∧ 0 < z ∧ z ≤ k + j * 1048577 ∧ Blk wr base 104 cs' ∧ Hid (KeepV vs cs') ∧
    Hid (∀ q, j ≤ q → q < vs.length → ∃ g cs, (vs.getD q vwD).2.1 = some ⟨g, 0, none⟩ ∧ (vs.getD q vwD).2.2.1 = (vs.getD q vwD).2.2.2.length ∧ base < g ∧ g < hi ∧ Blk wr g 9 cs ∧ cs.toList = (vs.getD q vwD).2.2.2.flatMap encS) ∧ Btw lo hi w wr) (fun _ i _ => n - (intOf i).toNat)
  case atStart =>
    refine ⟨0, k, cs, Nat.zero_le _, rfl, rfl, hk, by omega, hB, HCS, Lib.hid (fun q _ hq => ?_), Btw.refl _ _ _⟩
    obtain ⟨g, cs, e, hg, hB, hcs, _⟩ := HO.out q hq
    have hgh := HHI.out q hq
    rw [e] at hgh
    exact ⟨g, cs, by rw [e], by rw [e], hg, hgh, hB, hcs⟩
  case round =>
    obtain ⟨j, z, cs', hj, rfl, rfl, hz, hz2, hBr, HKP, HR, HM⟩ := hrel
    by_cases hlt : j < n
    · have hjv : j < vs.length := by rw [← HN.out]; exact hlt
      obtain ⟨g, gs, eg, ecap, hg, hgw, hgB, hgs⟩ := HR.out j (Nat.le_refl _) hjv
      have hlen : (vs.getD j vwD).2.2.2.length ≤ 1048576 := by
        obtain ⟨_, _, _, _, _, _, _, hx⟩ := HO.out j hjv
        exact hx.2.1
      have hcz := HKP.out.1
      have HNZ := Lib.hid hcz
      obtain ⟨u0, hu0⟩ : ∃ u, cs'[j * 2]? = some u := ⟨_, Array.getElem?_eq_getElem (by omega)⟩
      have hu1 := HKP.out.2 j hjv
      rw [← hBr.cell] at hu0 hu1
      rw [eg, ecap] at hu1
      have f0 := hBr.frozen (j * 2)
      have hBl := hBr.lt
      have hgl := hgB.lt
      have HT := Lib.hid (fun W => l_markText z W hz (by omega))
      have HK2 := Lib.hid (HKP.out.step (j := j) (u := .string (tx (mkL z))))
      have HNX : Hid (∀ w', Blk w' g 9 gs → (∀ q, j + 1 ≤ q → q < vs.length → ∃ g' cs, (vs.getD q vwD).2.1 = some ⟨g', 0, none⟩ ∧ (vs.getD q vwD).2.2.1 = (vs.getD q vwD).2.2.2.length ∧ base < g' ∧ g' < hi ∧ g < g' ∧ Blk wr g' 9 cs ∧ cs.toList = (vs.getD q vwD).2.2.2.flatMap encS)) := Lib.hid (fun w' _ q hq hql => by
        obtain ⟨g', cs', a1, a2, a3, a4, a5, a6⟩ := HR.out q (by omega) hql
        refine ⟨g', cs', a1, a2, a3, a4, ?_, a5, a6⟩
        obtain ⟨g2, cs2, b1, b2, b3, b4, b5, b6⟩ := HO.out q hql
        have hg2 : g2 = g' := by
          rw [b1] at a1
          injection a1 with a1
          injection a1
        have hlt2 := b5 j (by omega)
        unfold blkV at hlt2
        rw [eg] at hlt2
        simp only at hlt2
        omega)
      obtain ⟨L, hLe⟩ : ∃ L, L = (vs.getD j vwD).2.2.2 := ⟨_, rfl⟩
      rw [← hLe] at hu1 hlen hgs
      have HGS := Lib.hid hgs
      have HGB := Lib.hid hgB
      have n1 : ¬ g = base := by omega
      have n2 : ¬ base = g := by omega
      generalize tx (mkL z) = s at *
      clear hLe eg ecap hcz hgs hgB
      go_wp2_with fail
      refine (HT.out _).mono ?_
      rintro e w1 ⟨rfl, hx1⟩
      obtain ⟨hc1, hf1⟩ := hx1.rules
      have hs1 := hx1.size
      (try simp at hs1)
      have := (show base < w1.heap.size from by omega)
      have := (show g < w1.heap.size from by omega)
      have hB1 := hBr.ext hx1
      have HG1 := Lib.hid (HGB.out.ext hx1)
      go_wp2_with fail
      refine (l_markS 0 _ L _ (z + 1) _ (Own.of_blk ((HG1.out).far' n1 _) len_encS HGS.out (Nat.zero_le _) (by unfold maxLen; omega)) rfl hlen (by omega) (by omega)).mono ?_
      rintro e w2 ⟨rfl, hO2, hg2⟩
      rw [show (Value.slice (some ⟨g, 0, none⟩) L.length L.length).ownBlock = some g from rfl] at hg2
      have hB2 : Blk w2 base 104 (cs'.setIfInBounds (j * 2) (.string s)) := (hg2.block base ((hB1.set_ (j * 2) (.string s)).lt) (fun e => by injection e with e; omega)).trans (hB1.set_ (j * 2) (.string s))
      have HB2 := Lib.hid hB2
      have HM2 : Hid (Btw lo hi w w2) := Lib.hid (((HM.on hx1).set_ h1 h2 (j * 2) (.string s)).grown hg2 (by omega) hgw)
      have HN2 : Hid (∀ q, j + 1 ≤ q → q < vs.length → ∃ g cs, (vs.getD q vwD).2.1 = some ⟨g, 0, none⟩ ∧ (vs.getD q vwD).2.2.1 = (vs.getD q vwD).2.2.2.length ∧ base < g ∧ g < hi ∧ Blk w2 g 9 cs ∧ cs.toList = (vs.getD q vwD).2.2.2.flatMap encS) := Lib.hid (fun q hq hql => by
        obtain ⟨g', cs2, a1, a2, a3, a4, a5, a6, a7⟩ := HNX.out _ HGB.out q hq hql
        refine ⟨g', cs2, a1, a2, a3, a4, ?_, a7⟩
        have h3 : Blk (w1.setCell ⟨base, j * 2, none⟩ (.string s)) g' 9 cs2 := (a6.ext hx1).far (by show ¬ g' = base; omega) _
        exact (hg2.block g' h3.lt (fun e => by injection e with e; omega)).trans h3)
      clear hg2 hO2 hB2
      go_wp2
      go_roundw
      case rel => exact ⟨j + 1, z + 1 + L.length, _, by omega, by go_num, rfl, by omega, by omega, HB2.out, HK2, HN2, HM2.out⟩
      case measure => simp [intOf]; omega
    · obtain rfl : j = n := by omega
      go_wp2
      go_ret
      exact ⟨z, rfl, hz, HM⟩

end Go.Proofs.YtdbheipjbjcikaaGreatDoor
namespace Go.Proofs.YtdbheipjbjcikaaGreatDoor
open Go.RowKit
attribute [local go_sem] ExtOf.cell ExtOf.frozen

/-- the owner that view i tells for ring k -/
def ownL (V : List (List UInt8 × List (List UInt8))) (i k : Nat) : List UInt8 := (V.getD i voD).2.getD k []
theorem ownL_at {vs : List Vw} {i k : Nat} (h : i < vs.length) : ownL (voOf vs) i k = (vs.getD i vwD).2.2.2.getD k [] := by unfold ownL; rw [voOf_atD h]
theorem tx_same (a b : List UInt8) : ((tx a).toList == (tx b).toList) = decide (a = b) := by
  rw [tx_toList, tx_toList]
  by_cases h : a = b
  · simp [h]
  · simp [h]
/-- how many of the first m views tell what view i tells -/
def cntO (V : List (List UInt8 × List (List UInt8))) (i k : Nat) : Nat → Nat
  | 0 => 0
  | m + 1 => cntO V i k m + if ownL V m k = ownL V i k then 1 else 0
theorem cntO_le (V : List (List UInt8 × List (List UInt8))) (i k : Nat) : ∀ m, cntO V i k m ≤ m
  | 0 => Nat.le_refl _
  | m + 1 => by
    have := cntO_le V i k m
    rw [cntO]
    split <;> omega
theorem cntO_two {V : List (List UInt8 × List (List UInt8))} {i j k : Nat} (h : ownL V i k ≠ ownL V j k) : ∀ m, cntO V i k m + cntO V j k m ≤ m
  | 0 => Nat.le_refl _
  | m + 1 => by
    have := cntO_two h m
    rw [cntO, cntO]
    by_cases h1 : ownL V m k = ownL V i k
    · rw [if_pos h1, if_neg (fun h2 => h (h1.symm.trans h2))]; omega
    · rw [if_neg h1]
      split <;> omega
def bigO (V : List (List UInt8 × List (List UInt8))) (i k : Nat) : Bool := decide (V.length < 2 * cntO V i k V.length)
theorem bigO_same {V : List (List UInt8 × List (List UInt8))} {i j k : Nat} (h1 : bigO V i k = true) (h2 : bigO V j k = true) : ownL V i k = ownL V j k := by
  rcases Classical.em (ownL V i k = ownL V j k) with h | h
  · exact h
  · have := cntO_two h V.length
    have a := of_decide_eq_true h1
    have b := of_decide_eq_true h2
    omega
/-- the owner that the last of the first n views with most others tells -/
def majS (V : List (List UInt8 × List (List UInt8))) (k : Nat) : Nat → List UInt8
  | 0 => []
  | i + 1 => if bigO V i k = true then ownL V i k else majS V k i
theorem majS_hit {V : List (List UInt8 × List (List UInt8))} {i k : Nat} (h : bigO V i k = true) : ∀ n, i < n → majS V k n = ownL V i k
  | 0, h0 => absurd h0 (by omega)
  | n + 1, hn => by
    rw [majS]
    by_cases hb : bigO V n k = true
    · rw [if_pos hb]; exact bigO_same hb h
    · rw [if_neg hb]
      have : i ≠ n := fun e => hb (e ▸ h)
      exact majS_hit h n (by omega)
theorem majS_none {V : List (List UInt8 × List (List UInt8))} {k : Nat} : ∀ n, (∀ q, q < n → bigO V q k = false) → majS V k n = []
  | 0, _ => rfl
  | n + 1, h => by
    rw [majS, if_neg (by rw [h n (by omega)]; exact Bool.false_ne_true)]
    exact majS_none n fun q hq => h q (by omega)
/-- the owners that most views tell, for the first n rings -/
def majTo (V : List (List UInt8 × List (List UInt8))) (n : Nat) : List (List UInt8) := (List.range n).map fun k => majS V k V.length
theorem majTo_succ (V : List (List UInt8 × List (List UInt8))) (n : Nat) : majTo V (n + 1) = majTo V n ++ [majS V n V.length] := by
  unfold majTo
  rw [List.range_succ, List.map_append]; rfl
theorem majTo_len (V : List (List UInt8 × List (List UInt8))) (n : Nat) : (majTo V n).length = n := by simp [majTo]
noncomputable def majR (L : List (List (Int × Int))) (V : List (List UInt8 × List (List UInt8))) : List (List UInt8) := if viB L V = true then majTo V L.length else []
theorem majR_len (L : List (List (Int × Int))) (V : List (List UInt8 × List (List UInt8))) : (majR L V).length ≤ 6 := by
  unfold majR
  split
  · rename_i h
    rw [majTo_len]
    exact (viB_map h).1.1
  · simp
theorem viB_four {rs : List Rg} {vs : List Vw} (h : viB (psOf rs) (voOf vs) = true) : vs.length ≤ 4 := by
  have h1 := (viB_map h).2.1
  rw [voOf_len] at h1
  simp [inB] at h1
  omega

set_option maxRecDepth 20000 in
set_option maxHeartbeats 6400000 in
theorem i_majority (A' : Option Addr) (c' k : Nat) (vs : List Vw) (w : World) (h' : SlAt w 2 encV A' vs) (hv : Views w vs) (hl' : vs.length ≤ 4) (hlen : ∀ i, i < vs.length → k < (vs.getD i vwD).2.2.2.length) :
    Calls Tryz.prog 106 #[.slice A' vs.length c', .int .i64 k] w fun e w' => e = .returned (.string (tx (majS (voOf vs) k vs.length))) ∧ Ext w w' := by
  have HL := Lib.hid hlen
  clear hlen
  go_enter Tryz.func106, Tryz.ntmps106
  go_wp2
  go_loopw [12] (fun i wr => ∃ j : Nat, j ≤ vs.length ∧ i = .int .i64 j ∧ Hid (∀ q, q < j → bigO (voOf vs) q k = false) ∧ Ext w wr) (fun i _ => vs.length - (intOf i).toNat)
  case atStart => exact ⟨0, by omega, rfl, fun q hq => absurd hq (by omega), by (repeat (first | with_reducible exact Ext.refl _ | with_reducible assumption | ((with_reducible apply Src.ext); with_reducible assumption) | with_reducible refine Ext.alloc ?_ _ | with_reducible refine Ext.drew ?_ | with_reducible refine Ext.drewN ?_ _ | ((with_reducible refine Ext.setCell' ?_ ?_ _); solve | omega | simp | (simp; omega)) | (with_reducible refine Ext.trans ?_ (by with_reducible assumption))))⟩
  case round =>
    obtain ⟨i, hi, rfl, HJ, hxr⟩ := hrel
    obtain ⟨w5, rfl⟩ : ∃ x, x = wr := ⟨wr, rfl⟩
    by_cases hlt : i < vs.length
    · obtain ⟨b, off, rfl, hb, d0, d1⟩ := (h'.ext hxr).vw hlt
      have hki := HL.out i hlt
      have hvi := hv _ (vw_mem hlt)
      have hat := ownL_at (k := k) hlt
      have HC : Hid (∀ j, j < vs.length → ∀ W, Ext w W → Calls Tryz.prog 101 #[.agg #[.string (tx (vs.getD i vwD).1), .slice (vs.getD i vwD).2.1 (vs.getD i vwD).2.2.2.length (vs.getD i vwD).2.2.1], .agg #[.string (tx (vs.getD j vwD).1), .slice (vs.getD j vwD).2.1 (vs.getD j vwD).2.2.2.length (vs.getD j vwD).2.2.1], .int .i64 k] W
          fun e w' => e = .returned (.bool (!(decide (ownL (voOf vs) j k = ownL (voOf vs) i k)))) ∧ Ext W w') := Lib.hid fun j hj W hx => by
        have := i_tells (vs.getD i vwD) (vs.getD j vwD) k W ((hv _ (vw_mem hlt)).1.ext hx) ((hv _ (vw_mem hj)).1.ext hx) (HL.out i hlt) (HL.out j hj)
        rw [tx_same, ← ownL_at hlt, ← ownL_at hj] at this
        rwa [show decide (ownL (voOf vs) j k = ownL (voOf vs) i k) = decide (ownL (voOf vs) i k = ownL (voOf vs) j k) by simp only [eq_comm]]
      obtain ⟨v, hve⟩ : ∃ v, v = vs.getD i vwD := ⟨_, rfl⟩
      rw [← hve] at d0 d1 HC hki hvi hat
      have HVI := Lib.hid hvi
      have HAT := Lib.hid hat
      clear hve hvi hat
      go_wp2
      go_loopw [7, 18] (fun cv jv wi => ∃ m : Nat, m ≤ vs.length ∧ jv = .int .i64 m ∧ cv = .int .i64 (cntO (voOf vs) i k m) ∧ Blk wi w5.heap.size 104 #[.string (tx v.1), .slice v.2.1 v.2.2.2.length v.2.2.1] ∧ Ext w wi) (fun _ jv _ => vs.length - (intOf jv).toNat)
      case atStart => exact ⟨0, by omega, rfl, rfl, Blk.eq (by (repeat (first | with_reducible assumption | ((with_reducible apply Blk.new); solve | simp | rfl) | with_reducible apply Blk.drew | with_reducible apply Blk.drewN | ((with_reducible apply Blk.far'); solve | omega | simp | (simp; omega)) | with_reducible apply Blk.set_ | with_reducible apply Blk.alloc | ((with_reducible apply Blk.ext'); with_reducible assumption) | ((with_reducible apply Blk.but'); (with_reducible assumption); solve | omega | (simp; omega))))) (by rfl), by (repeat (first | with_reducible exact Ext.refl _ | with_reducible assumption | ((with_reducible apply Src.ext); with_reducible assumption) | with_reducible refine Ext.alloc ?_ _ | with_reducible refine Ext.drew ?_ | with_reducible refine Ext.drewN ?_ _ | ((with_reducible refine Ext.setCell' ?_ ?_ _); solve | omega | simp | (simp; omega)) | (with_reducible refine Ext.trans ?_ (by with_reducible assumption))))⟩
      case round =>
        obtain ⟨m, hm, rfl, rfl, hB, hxi⟩ := hrel
        have hcl := cntO_le (voOf vs) i k m
        have e0 : wr.cell? ⟨w5.heap.size, 0, none⟩ = some (.string (tx v.1)) := hB.cell 0
        have e1 : wr.cell? ⟨w5.heap.size, 1, none⟩ = some (.slice v.2.1 v.2.2.2.length v.2.2.1) := hB.cell 1
        have hBl := hB.lt
        by_cases hmt : m < vs.length
        · obtain ⟨g0, g1⟩ := (h'.ext hxi).vw' hmt
          have hcall := HC.out m hmt
          have hown : cntO (voOf vs) i k (m + 1) = cntO (voOf vs) i k m + if ownL (voOf vs) m k = ownL (voOf vs) i k then 1 else 0 := rfl
          obtain ⟨u, hue⟩ : ∃ u, u = vs.getD m vwD := ⟨_, rfl⟩
          rw [← hue] at g0 g1 hcall
          clear hue
          by_cases hq : ownL (voOf vs) m k = ownL (voOf vs) i k
          · rw [decide_eq_true hq] at hcall
            rw [if_pos hq] at hown
            have HS := Lib.hid hown
            have HK := Lib.hid hcall
            clear hcall hown hq
            (go_wp2_with fail; refine (HK.out _ (by (repeat (first | with_reducible exact Ext.refl _ | with_reducible assumption | ((with_reducible apply Src.ext); with_reducible assumption) | with_reducible refine Ext.alloc ?_ _ | with_reducible refine Ext.drew ?_ | with_reducible refine Ext.drewN ?_ _ | ((with_reducible refine Ext.setCell' ?_ ?_ _); solve | omega | simp | (simp; omega)) | (with_reducible refine Ext.trans ?_ (by with_reducible assumption)))))).mono ?_; rintro e w2 ⟨rfl, hx2⟩; obtain ⟨hc2, hf2⟩ := hx2.rules; have hs2 := hx2.size; (try simp at hs2); have := (show w5.heap.size < w2.heap.size from by omega))
            go_wp2
            go_roundw
            case rel => exact ⟨m + 1, by omega, by go_num, by rw [HS.out]; rfl, by (repeat (first | with_reducible assumption | ((with_reducible apply Blk.new); solve | simp | rfl) | with_reducible apply Blk.drew | with_reducible apply Blk.drewN | ((with_reducible apply Blk.far'); solve | omega | simp | (simp; omega)) | with_reducible apply Blk.set_ | with_reducible apply Blk.alloc | ((with_reducible apply Blk.ext'); with_reducible assumption) | ((with_reducible apply Blk.but'); (with_reducible assumption); solve | omega | (simp; omega)))), by (repeat (first | with_reducible exact Ext.refl _ | with_reducible assumption | ((with_reducible apply Src.ext); with_reducible assumption) | with_reducible refine Ext.alloc ?_ _ | with_reducible refine Ext.drew ?_ | with_reducible refine Ext.drewN ?_ _ | ((with_reducible refine Ext.setCell' ?_ ?_ _); solve | omega | simp | (simp; omega)) | (with_reducible refine Ext.trans ?_ (by with_reducible assumption))))⟩
            case measure => simp [intOf]; omega
          · rw [decide_eq_false hq] at hcall
            rw [if_neg hq] at hown
            have HS := Lib.hid hown
            have HK := Lib.hid hcall
            clear hcall hown hq
            (go_wp2_with fail; refine (HK.out _ (by (repeat (first | with_reducible exact Ext.refl _ | with_reducible assumption | ((with_reducible apply Src.ext); with_reducible assumption) | with_reducible refine Ext.alloc ?_ _ | with_reducible refine Ext.drew ?_ | with_reducible refine Ext.drewN ?_ _ | ((with_reducible refine Ext.setCell' ?_ ?_ _); solve | omega | simp | (simp; omega)) | (with_reducible refine Ext.trans ?_ (by with_reducible assumption)))))).mono ?_; rintro e w2 ⟨rfl, hx2⟩; obtain ⟨hc2, hf2⟩ := hx2.rules; have hs2 := hx2.size; (try simp at hs2); have := (show w5.heap.size < w2.heap.size from by omega))
            go_wp2
            go_roundw
            case rel => exact ⟨m + 1, by omega, by go_num, by rw [HS.out]; rfl, by (repeat (first | with_reducible assumption | ((with_reducible apply Blk.new); solve | simp | rfl) | with_reducible apply Blk.drew | with_reducible apply Blk.drewN | ((with_reducible apply Blk.far'); solve | omega | simp | (simp; omega)) | with_reducible apply Blk.set_ | with_reducible apply Blk.alloc | ((with_reducible apply Blk.ext'); with_reducible assumption) | ((with_reducible apply Blk.but'); (with_reducible assumption); solve | omega | (simp; omega)))), by (repeat (first | with_reducible exact Ext.refl _ | with_reducible assumption | ((with_reducible apply Src.ext); with_reducible assumption) | with_reducible refine Ext.alloc ?_ _ | with_reducible refine Ext.drew ?_ | with_reducible refine Ext.drewN ?_ _ | ((with_reducible refine Ext.setCell' ?_ ?_ _); solve | omega | simp | (simp; omega)) | (with_reducible refine Ext.trans ?_ (by with_reducible assumption))))⟩
            case measure => simp [intOf]; omega
        · obtain rfl : m = vs.length := by omega
          obtain ⟨b2, off2, hA2, hb2, f0⟩ := (HVI.out.1.ext hxi).st hki
          rw [hA2] at e1
          obtain ⟨tk, htk⟩ : ∃ t, t = tx (v.2.2.2.getD k []) := ⟨_, rfl⟩
          rw [← htk] at f0
          have HTK := Lib.hid htk
          clear htk
          have HC0 : Hid ((voOf vs).length = vs.length) := Lib.hid (voOf_len vs)
          cases hbg : bigO (voOf vs) i k with
          | true =>
            have HMJ := Lib.hid ((majS_hit hbg vs.length hlt).trans HAT.out)
            have h2 := of_decide_eq_true hbg
            rw [HC0.out] at h2
            clear hbg hA2
            generalize cntO (voOf vs) i k vs.length = cn at *
            have hw : IntKind.i64.wrap (2 * (cn : Int)) = 2 * (cn : Int) := IntWalk.i64_in _ (by omega)
            go_wp2
            go_ret
            exact ⟨by rw [HMJ.out, ← HTK.out]; rfl, by (repeat (first | with_reducible exact Ext.refl _ | with_reducible assumption | ((with_reducible apply Src.ext); with_reducible assumption) | with_reducible refine Ext.alloc ?_ _ | with_reducible refine Ext.drew ?_ | with_reducible refine Ext.drewN ?_ _ | ((with_reducible refine Ext.setCell' ?_ ?_ _); solve | omega | simp | (simp; omega)) | (with_reducible refine Ext.trans ?_ (by with_reducible assumption))))⟩
          | false =>
            have HJ2 := Lib.hid (upTo_succ HJ.out hbg)
            have h2 := of_decide_eq_false hbg
            rw [HC0.out] at h2
            clear hbg hA2
            generalize cntO (voOf vs) i k vs.length = cn at *
            have hw : IntKind.i64.wrap (2 * (cn : Int)) = 2 * (cn : Int) := IntWalk.i64_in _ (by omega)
            go_wp2
            go_roundw
            case rel => exact ⟨i + 1, by omega, by go_num, HJ2, by (repeat (first | with_reducible exact Ext.refl _ | with_reducible assumption | ((with_reducible apply Src.ext); with_reducible assumption) | with_reducible refine Ext.alloc ?_ _ | with_reducible refine Ext.drew ?_ | with_reducible refine Ext.drewN ?_ _ | ((with_reducible refine Ext.setCell' ?_ ?_ _); solve | omega | simp | (simp; omega)) | (with_reducible refine Ext.trans ?_ (by with_reducible assumption))))⟩
            case measure => simp [intOf]; omega
    · obtain rfl : i = vs.length := by omega
      have HMJ := Lib.hid (majS_none vs.length HJ.out)
      go_wp2
      go_ret
      exact ⟨by rw [HMJ.out]; rfl, by (repeat (first | with_reducible exact Ext.refl _ | with_reducible assumption | ((with_reducible apply Src.ext); with_reducible assumption) | with_reducible refine Ext.alloc ?_ _ | with_reducible refine Ext.drew ?_ | with_reducible refine Ext.drewN ?_ _ | ((with_reducible refine Ext.setCell' ?_ ?_ _); solve | omega | simp | (simp; omega)) | (with_reducible refine Ext.trans ?_ (by with_reducible assumption))))⟩

set_option maxRecDepth 20000 in
set_option maxHeartbeats 6400000 in
theorem i_MajorityView (A A' : Option Addr) (c c' : Nat) (rs : List Rg) (vs : List Vw) (w : World) (h : SlAt w 1 encR A rs) (hr : Rings w rs) (hl : rs.length ≤ 1048576) (hc : rs.length ≤ c) (h' : SlAt w 2 encV A' vs) (hv : Views w vs) (hl' : vs.length ≤ 1048576) :
    Calls Tryz.prog 44 #[.slice A rs.length c, .slice A' vs.length c'] w fun e w' => ∃ v, e = .returned (.tuple #[v, .int .i64 (viC (psOf rs) (voOf vs) [])]) ∧ OwS w' w.heap.size v (majR (psOf rs) (voOf vs)) ∧ Ext w w' := by
  have hcall := i_viewCode A A' none c c' 0 0 rs vs [] w h hr hl hc h' hv hl' SlAt.nil rfl (by omega)
  cases hvb : viB (psOf rs) (voOf vs) with
  | true =>
    have hcd : viC (psOf rs) (voOf vs) [] = 0 := viC_in hvb rfl
    rw [show majR (psOf rs) (voOf vs) = majTo (voOf vs) rs.length by unfold majR; rw [if_pos hvb, psOf_len], hcd]
    rw [hcd] at hcall
    have HC := Lib.hid hcall
    have h6 := (viB_map hvb).1.1
    rw [psOf_len] at h6
    have hv4 := viB_four hvb
    have HD : Hid (∀ k : Nat, k < rs.length → ∀ W, Ext w W → Calls Tryz.prog 106 #[.slice A' vs.length c', .int .i64 k] W fun e w' => e = .returned (.string (tx (majS (voOf vs) k vs.length))) ∧ Ext W w') := Lib.hid fun k hk W hx => i_majority A' c' k vs W (h'.ext hx) (hv.ext hx) hv4 (fun i hi => by rw [viB_len hvb hi]; exact hk)
    have HVL := Lib.hid (voOf_len vs)
    clear hcall hcd hvb h hr h' hv
    go_enter Tryz.func44, Tryz.ntmps44
    go_wp2_with fail
    refine HC.out.mono ?_
    rintro e w1 ⟨rfl, hx1⟩
    go_wp2
    go_loopw [7, 17] (fun v i wr => ∃ k : Nat, k ≤ rs.length ∧ i = .int .i64 k ∧ Hid (OwS wr w.heap.size v (majTo (voOf vs) k)) ∧ Ext w wr) (fun _ i _ => rs.length - (intOf i).toNat)
    case atStart => exact ⟨0, by omega, rfl, Lib.hid (Own.nil _ _), by (repeat (first | with_reducible exact Ext.refl _ | with_reducible assumption | ((with_reducible apply Src.ext); with_reducible assumption) | with_reducible refine Ext.alloc ?_ _ | with_reducible refine Ext.drew ?_ | with_reducible refine Ext.drewN ?_ _ | ((with_reducible refine Ext.setCell' ?_ ?_ _); solve | omega | simp | (simp; omega)) | (with_reducible refine Ext.trans ?_ (by with_reducible assumption))))⟩
    case round =>
      obtain ⟨k, hk, rfl, HV, hxr⟩ := hrel
      have hcl : (majTo (voOf vs) k).length ≤ k := by rw [majTo_len]; exact Nat.le_refl _
      have hsr := hxr.size
      by_cases hlt : k < rs.length
      · have hsu := majTo_succ (voOf vs) k
        rw [HVL.out] at hsu
        have HS := Lib.hid hsu
        have HD2 := Lib.hid (HD.out k hlt)
        clear hsu
        go_wp2_with fail
        refine (HD2.out _ (by (repeat (first | with_reducible exact Ext.refl _ | with_reducible assumption | ((with_reducible apply Src.ext); with_reducible assumption) | with_reducible refine Ext.alloc ?_ _ | with_reducible refine Ext.drew ?_ | with_reducible refine Ext.drewN ?_ _ | ((with_reducible refine Ext.setCell' ?_ ?_ _); solve | omega | simp | (simp; omega)) | (with_reducible refine Ext.trans ?_ (by with_reducible assumption)))))).mono ?_
        rintro e w2 ⟨rfl, hx2⟩
        have hs2 := hx2.size
        go_wp2_with (at_builtin; refine wpList_append_sl elS len_encS one_encS rfl _ _ rfl rfl (HV.out.ext (by (repeat (first | with_reducible exact Ext.refl _ | with_reducible assumption | ((with_reducible apply Src.ext); with_reducible assumption) | with_reducible refine Ext.alloc ?_ _ | with_reducible refine Ext.drew ?_ | with_reducible refine Ext.drewN ?_ _ | ((with_reducible refine Ext.setCell' ?_ ?_ _); solve | omega | simp | (simp; omega)) | (with_reducible refine Ext.trans ?_ (by with_reducible assumption)))))) (xs := [majS (voOf vs) k vs.length]) rfl (blk_s1 (by (repeat (first | with_reducible assumption | ((with_reducible apply Blk.new); solve | simp | rfl) | with_reducible apply Blk.drew | with_reducible apply Blk.drewN | ((with_reducible apply Blk.far'); solve | omega | simp | (simp; omega)) | with_reducible apply Blk.set_ | with_reducible apply Blk.alloc | ((with_reducible apply Blk.ext'); with_reducible assumption) | ((with_reducible apply Blk.but'); (with_reducible assumption); solve | omega | (simp; omega)))))) (by simp; unfold maxLen; omega) (by simp; omega) (by first | omega | (simp; omega)) ?_)
        intro v' w5 hown hgrow _
        rw [← HS.out] at hown
        have HV2 := Lib.hid hown
        have hx5 : Ext w w5 := by
          refine Ext.grown ?_ hgrow (fun q hq => (HV.out.row q hq).1)
          (repeat (first | with_reducible exact Ext.refl _ | with_reducible assumption | ((with_reducible apply Src.ext); with_reducible assumption) | with_reducible refine Ext.alloc ?_ _ | with_reducible refine Ext.drew ?_ | with_reducible refine Ext.drewN ?_ _ | ((with_reducible refine Ext.setCell' ?_ ?_ _); solve | omega | simp | (simp; omega)) | (with_reducible refine Ext.trans ?_ (by with_reducible assumption))))
        clear hown hgrow
        go_wp2
        go_roundw
        case rel => exact ⟨k + 1, by omega, by go_num, HV2, hx5⟩
        case measure => simp [intOf]; omega
      · obtain rfl : k = rs.length := by omega
        go_wp2
        go_ret2
        exact ⟨_, rfl, HV.out, hxr⟩
  | false =>
    rw [show majR (psOf rs) (voOf vs) = [] by unfold majR; rw [hvb]; rfl]
    have hcd : viC (psOf rs) (voOf vs) [] = 1 := viC_no hvb
    rw [hcd] at hcall ⊢
    have HC := Lib.hid hcall
    clear hcall hcd hvb h hr h' hv
    go_enter Tryz.func44, Tryz.ntmps44
    go_wp2_with fail
    refine HC.out.mono ?_
    rintro e w1 ⟨rfl, hx1⟩
    go_wp2
    go_ret2
    exact ⟨_, rfl, Own.nil _ _, by (repeat (first | with_reducible exact Ext.refl _ | with_reducible assumption | ((with_reducible apply Src.ext); with_reducible assumption) | with_reducible refine Ext.alloc ?_ _ | with_reducible refine Ext.drew ?_ | with_reducible refine Ext.drewN ?_ _ | ((with_reducible refine Ext.setCell' ?_ ?_ _); solve | omega | simp | (simp; omega)) | (with_reducible refine Ext.trans ?_ (by with_reducible assumption))))⟩
set_option maxRecDepth 20000 in
set_option maxHeartbeats 12800000 in
theorem s_MajorityView (A A' : Option Addr) (c c' : Nat) (rs : List Rg) (vs : List Vw) (w : World) (h : SlAt w 1 encR A rs) (hr : Rings w rs) (hl : rs.length ≤ 1048576) (h' : SlAt w 2 encV A' vs) (hv : Views w vs) (hl' : vs.length ≤ 1048576) :
    Calls Tryz.prog 43 #[.slice A rs.length c, .slice A' vs.length c'] w fun e w' => ∃ v, e = .returned (.tuple #[v, .int .i64 (viC (psOf rs) (voOf vs) [])]) ∧ OwS w' w.heap.size v (majR (psOf rs) (voOf vs)) ∧ Ext w w' := by
  have hcall := s_AreViews A A' c c' rs vs w h hr hl h' hv hl'
  cases hvb : viB (psOf rs) (voOf vs) with
  | true =>
    have hcd : viC (psOf rs) (voOf vs) [] = 0 := viC_in hvb rfl
    rw [show majR (psOf rs) (voOf vs) = majTo (voOf vs) rs.length by unfold majR; rw [if_pos hvb, psOf_len], hcd]
    rw [hvb] at hcall
    have HC := Lib.hid hcall
    have h6 := (viB_map hvb).1.1
    rw [psOf_len] at h6
    have hv4 := viB_four hvb
    have HLN : Hid (∀ k, k < rs.length → ∀ i, i < vs.length → k < (vs.getD i vwD).2.2.2.length) := Lib.hid fun k hk i hi => by rw [viB_len hvb hi]; exact hk
    have HVL := Lib.hid (voOf_len vs)
    clear hcall hcd hvb h hr
    go_enter Tryz.func43, Tryz.ntmps43
    go_wp2_with fail
    refine HC.out.mono ?_
    rintro e w1 ⟨rfl, hx1⟩
    go_wp2
    go_loopw [6, 7] (fun v i wr => ∃ k : Nat, k ≤ rs.length ∧ i = .int .i64 k ∧ Hid (OwS wr w.heap.size v (majTo (voOf vs) k)) ∧ Ext w wr) (fun _ i _ => rs.length - (intOf i).toNat)
    case atStart => exact ⟨0, by omega, rfl, Lib.hid (World.ownsRow_made (base := w.heap.size) (e := 9) (size := 1) w1 #[] 0 hx1.size (Nat.zero_le _) rfl : OwS _ w.heap.size _ (majTo (voOf vs) 0)), by (repeat (first | with_reducible exact Ext.refl _ | with_reducible assumption | ((with_reducible apply Src.ext); with_reducible assumption) | with_reducible refine Ext.alloc ?_ _ | with_reducible refine Ext.drew ?_ | with_reducible refine Ext.drewN ?_ _ | ((with_reducible refine Ext.setCell' ?_ ?_ _); solve | omega | simp | (simp; omega)) | (with_reducible refine Ext.trans ?_ (by with_reducible assumption))))⟩
    case round =>
      obtain ⟨k, hk, rfl, HV, hxr⟩ := hrel
      obtain ⟨w5, rfl⟩ : ∃ x, x = wr := ⟨wr, rfl⟩
      have hcl : (majTo (voOf vs) k).length ≤ k := by rw [majTo_len]; exact Nat.le_refl _
      have hsr := hxr.size
      by_cases hlt : k < rs.length
      · have hsu := majTo_succ (voOf vs) k
        rw [HVL.out] at hsu
        have HS := Lib.hid hsu
        have HLK := Lib.hid (HLN.out k hlt)
        clear hsu
        go_wp2
        go_loopw [8, 9] (fun ov iv wi => ∃ i : Nat, i ≤ vs.length ∧ iv = .int .i64 i ∧ ov = .string (tx (majS (voOf vs) k i)) ∧ Ext w5 wi) (fun _ iv _ => vs.length - (intOf iv).toNat)
        case atStart => exact ⟨0, by omega, rfl, rfl, by (repeat (first | with_reducible exact Ext.refl _ | with_reducible assumption | ((with_reducible apply Src.ext); with_reducible assumption) | with_reducible refine Ext.alloc ?_ _ | with_reducible refine Ext.drew ?_ | with_reducible refine Ext.drewN ?_ _ | ((with_reducible refine Ext.setCell' ?_ ?_ _); solve | omega | simp | (simp; omega)) | (with_reducible refine Ext.trans ?_ (by with_reducible assumption))))⟩
        case round =>
          obtain ⟨i, hi, rfl, rfl, hxi⟩ := hrel
          obtain ⟨w6, rfl⟩ : ∃ x, x = wr := ⟨wr, rfl⟩
          have HX6 : Hid (Ext w w6) := Lib.hid (hxr.trans hxi)
          by_cases hit : i < vs.length
          · obtain ⟨b, off, rfl, hb, d0, d1⟩ := (h'.ext HX6.out).vw hit
            have hki := HLK.out i hit
            obtain ⟨b2, off2, hA2, hb2, f0⟩ := ((hv.ext HX6.out) _ (vw_mem hit)).1.st hki
            rw [hA2] at d1
            have hat := ownL_at (k := k) hit
            obtain ⟨tk, htk⟩ : ∃ t, t = tx ((vs.getD i vwD).2.2.2.getD k []) := ⟨_, rfl⟩
            rw [← htk] at f0
            have HTK : Hid (tk = tx (ownL (voOf vs) i k)) := Lib.hid (by rw [hat]; exact htk)
            generalize vs.getD i vwD = v at *
            clear hA2 hat htk
            go_wp2
            go_loopw [10, 11] (fun cv jv wj => ∃ m : Nat, m ≤ vs.length ∧ jv = .int .i64 m ∧ cv = .int .i64 (cntO (voOf vs) i k m) ∧ Ext w6 wj) (fun _ jv _ => vs.length - (intOf jv).toNat)
            case atStart => exact ⟨0, by omega, rfl, rfl, by (repeat (first | with_reducible exact Ext.refl _ | with_reducible assumption | ((with_reducible apply Src.ext); with_reducible assumption) | with_reducible refine Ext.alloc ?_ _ | with_reducible refine Ext.drew ?_ | with_reducible refine Ext.drewN ?_ _ | ((with_reducible refine Ext.setCell' ?_ ?_ _); solve | omega | simp | (simp; omega)) | (with_reducible refine Ext.trans ?_ (by with_reducible assumption))))⟩
            case round =>
              obtain ⟨m, hm, rfl, rfl, hxj⟩ := hrel
              have HX7 : Hid (Ext w wr) := Lib.hid (HX6.out.trans hxj)
              have hcn := cntO_le (voOf vs) i k m
              have c0 := (hxj.cell b (off + i * 2) hb).trans d0
              have c1 := (hxj.cell b (off + i * 2 + 1) hb).trans d1
              have c2 := (hxj.cell b2 (off2 + k) hb2).trans f0
              have hbw : b < wr.heap.size := Nat.lt_of_lt_of_le hb hxj.size
              have hbw2 : b2 < wr.heap.size := Nat.lt_of_lt_of_le hb2 hxj.size
              by_cases hmt : m < vs.length
              · obtain ⟨g0, g1⟩ := (h'.ext HX7.out).vw' hmt
                have hkm := HLK.out m hmt
                obtain ⟨b3, off3, hA3, hb3, f1⟩ := ((hv.ext HX7.out) _ (vw_mem hmt)).1.st hkm
                rw [hA3] at g1
                have hown : cntO (voOf vs) i k (m + 1) = cntO (voOf vs) i k m + if ownL (voOf vs) m k = ownL (voOf vs) i k then 1 else 0 := rfl
                have hsame := tx_same (ownL (voOf vs) m k) (ownL (voOf vs) i k)
                rw [← HTK.out, ownL_at (k := k) hmt] at hsame
                rw [ownL_at (k := k) hmt] at hown
                generalize ownL (voOf vs) i k = oi at hown hsame
                obtain ⟨om, hom⟩ : ∃ o, o = (vs.getD m vwD).2.2.2.getD k [] := ⟨_, rfl⟩
                rw [← hom] at f1 hown hsame
                generalize vs.getD m vwD = u at *
                generalize tx om = tm at *
                clear hA3 hom
                by_cases hq : om = oi
                · rw [decide_eq_true hq] at hsame
                  rw [if_pos hq] at hown
                  have HSC := Lib.hid hown
                  clear hown hq
                  go_wp2
                  (refine wp_region_ext (by kernel_rfl) (by kernel_rfl) ?_; (repeat (go_big_quiet_step (fail))); refine wpQuiet_nil ?_; intro wq hxwq; obtain ⟨hcwq, hfwq⟩ := hxwq.rules; have hswq := hxwq.size; (try simp at hswq))
                  go_wp2
                  go_roundw
                  case rel => exact ⟨m + 1, by omega, by go_num, by rw [HSC.out]; rfl, by (repeat (first | with_reducible exact Ext.refl _ | with_reducible assumption | ((with_reducible apply Src.ext); with_reducible assumption) | with_reducible refine Ext.alloc ?_ _ | with_reducible refine Ext.drew ?_ | with_reducible refine Ext.drewN ?_ _ | ((with_reducible refine Ext.setCell' ?_ ?_ _); solve | omega | simp | (simp; omega)) | (with_reducible refine Ext.trans ?_ (by with_reducible assumption))))⟩
                  case measure => simp [intOf]; omega
                · rw [decide_eq_false hq] at hsame
                  rw [if_neg hq] at hown
                  have HSC := Lib.hid hown
                  clear hown hq
                  go_wp2
                  (refine wp_region_ext (by kernel_rfl) (by kernel_rfl) ?_; (repeat (go_big_quiet_step (fail))); refine wpQuiet_nil ?_; intro wq hxwq; obtain ⟨hcwq, hfwq⟩ := hxwq.rules; have hswq := hxwq.size; (try simp at hswq))
                  go_wp2
                  go_roundw
                  case rel => exact ⟨m + 1, by omega, by go_num, by rw [HSC.out]; rfl, by (repeat (first | with_reducible exact Ext.refl _ | with_reducible assumption | ((with_reducible apply Src.ext); with_reducible assumption) | with_reducible refine Ext.alloc ?_ _ | with_reducible refine Ext.drew ?_ | with_reducible refine Ext.drewN ?_ _ | ((with_reducible refine Ext.setCell' ?_ ?_ _); solve | omega | simp | (simp; omega)) | (with_reducible refine Ext.trans ?_ (by with_reducible assumption))))⟩
                  case measure => simp [intOf]; omega
              · obtain rfl : m = vs.length := by omega
                have hmj : majS (voOf vs) k (i + 1) = if bigO (voOf vs) i k = true then ownL (voOf vs) i k else majS (voOf vs) k i := rfl
                cases hbg : bigO (voOf vs) i k with
                | true =>
                  rw [hbg, if_pos rfl] at hmj
                  have HMJ := Lib.hid hmj
                  have h2 := of_decide_eq_true hbg
                  rw [HVL.out] at h2
                  clear hbg hmj
                  generalize cntO (voOf vs) i k vs.length = cn at *
                  have hw : IntKind.i64.wrap (2 * (cn : Int)) = 2 * (cn : Int) := IntWalk.i64_in _ (by omega)
                  go_wp2
                  go_roundw
                  case rel => exact ⟨i + 1, by omega, by go_num, by rw [HMJ.out, ← HTK.out], by (repeat (first | with_reducible exact Ext.refl _ | with_reducible assumption | ((with_reducible apply Src.ext); with_reducible assumption) | with_reducible refine Ext.alloc ?_ _ | with_reducible refine Ext.drew ?_ | with_reducible refine Ext.drewN ?_ _ | ((with_reducible refine Ext.setCell' ?_ ?_ _); solve | omega | simp | (simp; omega)) | (with_reducible refine Ext.trans ?_ (by with_reducible assumption))))⟩
                  case measure => simp [intOf]; omega
                | false =>
                  rw [hbg, if_neg Bool.false_ne_true] at hmj
                  have HMJ := Lib.hid hmj
                  have h2 := of_decide_eq_false hbg
                  rw [HVL.out] at h2
                  clear hbg hmj
                  generalize cntO (voOf vs) i k vs.length = cn at *
                  have hw : IntKind.i64.wrap (2 * (cn : Int)) = 2 * (cn : Int) := IntWalk.i64_in _ (by omega)
                  go_wp2
                  go_roundw
                  case rel => exact ⟨i + 1, by omega, by go_num, by rw [HMJ.out], by (repeat (first | with_reducible exact Ext.refl _ | with_reducible assumption | ((with_reducible apply Src.ext); with_reducible assumption) | with_reducible refine Ext.alloc ?_ _ | with_reducible refine Ext.drew ?_ | with_reducible refine Ext.drewN ?_ _ | ((with_reducible refine Ext.setCell' ?_ ?_ _); solve | omega | simp | (simp; omega)) | (with_reducible refine Ext.trans ?_ (by with_reducible assumption))))⟩
                  case measure => simp [intOf]; omega
          · obtain rfl : i = vs.length := by omega
            have hsi := hxi.size
            go_wp2_with (at_builtin; refine wpList_append_sl elS len_encS one_encS rfl _ _ rfl rfl (HV.out.ext (by (repeat (first | with_reducible exact Ext.refl _ | with_reducible assumption | ((with_reducible apply Src.ext); with_reducible assumption) | with_reducible refine Ext.alloc ?_ _ | with_reducible refine Ext.drew ?_ | with_reducible refine Ext.drewN ?_ _ | ((with_reducible refine Ext.setCell' ?_ ?_ _); solve | omega | simp | (simp; omega)) | (with_reducible refine Ext.trans ?_ (by with_reducible assumption)))))) (xs := [majS (voOf vs) k vs.length]) rfl (blk_s1 (by (repeat (first | with_reducible assumption | ((with_reducible apply Blk.new); solve | simp | rfl) | with_reducible apply Blk.drew | with_reducible apply Blk.drewN | ((with_reducible apply Blk.far'); solve | omega | simp | (simp; omega)) | with_reducible apply Blk.set_ | with_reducible apply Blk.alloc | ((with_reducible apply Blk.ext'); with_reducible assumption) | ((with_reducible apply Blk.but'); (with_reducible assumption); solve | omega | (simp; omega)))))) (by simp; unfold maxLen; omega) (by simp; omega) (by first | omega | (simp; omega)) ?_)
            intro v' w7 hown hgrow _
            rw [← HS.out] at hown
            have HV2 := Lib.hid hown
            have hx7 : Ext w w7 := by
              refine Ext.grown ?_ hgrow (fun q hq => (HV.out.row q hq).1)
              (repeat (first | with_reducible exact Ext.refl _ | with_reducible assumption | ((with_reducible apply Src.ext); with_reducible assumption) | with_reducible refine Ext.alloc ?_ _ | with_reducible refine Ext.drew ?_ | with_reducible refine Ext.drewN ?_ _ | ((with_reducible refine Ext.setCell' ?_ ?_ _); solve | omega | simp | (simp; omega)) | (with_reducible refine Ext.trans ?_ (by with_reducible assumption))))
            clear hown hgrow
            go_wp2
            go_roundw
            case rel => exact ⟨k + 1, by omega, by go_num, HV2, hx7⟩
            case measure => simp [intOf]; omega
      · obtain rfl : k = rs.length := by omega
        go_wp2
        go_ret2
        exact ⟨_, rfl, HV.out, hxr⟩
  | false =>
    rw [show majR (psOf rs) (voOf vs) = [] by unfold majR; rw [hvb]; rfl]
    have hcd : viC (psOf rs) (voOf vs) [] = 1 := viC_no hvb
    rw [hcd]
    rw [hvb] at hcall
    have HC := Lib.hid hcall
    clear hcall hcd hvb h hr h' hv
    go_enter Tryz.func43, Tryz.ntmps43
    go_wp2_with fail
    refine HC.out.mono ?_
    rintro e w1 ⟨rfl, hx1⟩
    go_wp2
    go_ret2
    exact ⟨_, rfl, Own.nil _ _, by (repeat (first | with_reducible exact Ext.refl _ | with_reducible assumption | ((with_reducible apply Src.ext); with_reducible assumption) | with_reducible refine Ext.alloc ?_ _ | with_reducible refine Ext.drew ?_ | with_reducible refine Ext.drewN ?_ _ | ((with_reducible refine Ext.setCell' ?_ ?_ _); solve | omega | simp | (simp; omega)) | (with_reducible refine Ext.trans ?_ (by with_reducible assumption))))⟩

end Go.Proofs.YtdbheipjbjcikaaGreatDoor
namespace Go.Proofs.YtdbheipjbjcikaaGreatDoor
open Go.RowKit
attribute [local go_sem] ExtOf.cell ExtOf.frozen

theorem s_MajorityView' (A A' : Option Addr) (n m c c' : Nat) (rs : List Rg) (vs : List Vw) (w : World) (h : SlAt w 1 encR A rs) (hr : Rings w rs) (hl : rs.length ≤ 1048576) (h' : SlAt w 2 encV A' vs) (hv : Views w vs) (hl' : vs.length ≤ 1048576) (hn : n = rs.length) (hm : m = vs.length) :
    Calls Tryz.prog 43 #[.slice A n c, .slice A' m c'] w fun e w' => ∃ v, e = .returned (.tuple #[v, .int .i64 (viC (psOf rs) (voOf vs) [])]) ∧ OwS w' w.heap.size v (majR (psOf rs) (voOf vs)) ∧ Ext w w' := by
  subst hn hm
  exact s_MajorityView A A' c c' rs vs  w h hr hl h' hv hl'

theorem i_MajorityView' (A A' : Option Addr) (n m c c' : Nat) (rs : List Rg) (vs : List Vw) (w : World) (h : SlAt w 1 encR A rs) (hr : Rings w rs) (hl : rs.length ≤ 1048576) (hc : rs.length ≤ c) (h' : SlAt w 2 encV A' vs) (hv : Views w vs) (hl' : vs.length ≤ 1048576) (hn : n = rs.length) (hm : m = vs.length) :
    Calls Tryz.prog 44 #[.slice A n c, .slice A' m c'] w fun e w' => ∃ v, e = .returned (.tuple #[v, .int .i64 (viC (psOf rs) (voOf vs) [])]) ∧ OwS w' w.heap.size v (majR (psOf rs) (voOf vs)) ∧ Ext w w' := by
  subst hn hm
  exact i_MajorityView A A' c c' rs vs  w h hr hl hc h' hv hl'

set_option maxRecDepth 20000 in
set_option maxHeartbeats 12800000 in
theorem fnExactMajorityView_walk (A : Option Addr) (c : Nat) (rs : List Rg) (A' : Option Addr) (c' : Nat) (vs : List Vw) (w : World) (h : ArgR w A rs) (h' : ArgV w A' vs) :
    Calls Tryz.prog 10 #[.slice A rs.length c, .slice A' vs.length c'] w fun e w' => e = .returned (.bool true) ∧ Ext w w' := by
  go_enter Tryz.func10, Tryz.ntmps10
  go_wp2_with fail
  refine (l_szPointSS _ _ rs 1048576 _ h.sl h.len h.lens (by omega) (by omega)).mono ?_
  rintro e w' ⟨⟨z, rfl, hz1, hz⟩, rfl⟩
  rcases hz with rfl | ⟨hz0, hl, hs, hsum⟩
  · go_wp2
    go_ret
    exact ⟨rfl, Ext.refl _⟩
  have HS := Lib.hid hs
  have HSUM := Lib.hid hsum
  clear hs hsum
  go_wp2_with fail
  refine (l_szViewS _ _ vs z _ h'.sl h'.len h'.rg hz0 hz1).mono ?_
  rintro e w0 ⟨⟨z2, rfl, hz2, hzz⟩, hx0⟩
  rcases hzz with rfl | ⟨hz3, hvl, hg⟩
  · go_wp2
    go_ret
    exact ⟨rfl, hx0⟩
  · have HG := Lib.hid hg
    obtain ⟨cd, hcd⟩ : ∃ cd, cd = viC (psOf rs) (voOf vs) [] := ⟨_, rfl⟩
    have HCD := Lib.hid hcd
    have hcc : (cd != cd) = false := by simp
    obtain ⟨m, hm⟩ : ∃ m, m = (majR (psOf rs) (voOf vs)).length := ⟨_, rfl⟩
    have hml : m ≤ 1000 := by rw [hm]; have := majR_len (psOf rs) (voOf vs); omega
    have HM := Lib.hid hm
    have hm0 : ¬ (((1 + m : Nat) : Int) < 0) := by omega
    have hm1 : ((((1 + m : Nat) : Int)) != ((1 + m : Nat) : Int)) = false := by simp
    clear hg hcd hm
    go_wp2_with fail
    refine (l_toPointSS _ _ rs _ (h.ext hx0).sl (h.ext hx0).rg hl HS.out).mono ?_
    rintro e w1 ⟨q1, cs1, rfl, hq1, hp1, hB1, hc1, hO1, hx1⟩
    have HP1 := Lib.hid hp1
    have HC1 := Lib.hid hc1
    have HQ1 := Lib.hid hq1
    have HO1 := Lib.hid hO1
    have HB1 := Lib.hid hB1
    clear hp1 hc1 hO1 hq1 hB1
    go_wp2_with fail
    refine (l_toViewS _ _ vs _ (h'.ext (hx0.trans hx1)).sl (fun i hi => ((h'.ext (hx0.trans hx1)).rg i hi).1) hvl HG.out).mono ?_
    rintro e w2 ⟨q2, cs2, rfl, hq2, hp2, hB2, hc2, hO2, hx2⟩
    have HP2 := Lib.hid hp2
    have HC2 := Lib.hid hc2
    have HQ2 := Lib.hid hq2
    have HO2 := Lib.hid hO2
    have HB2 := Lib.hid hB2
    clear hp2 hc2 hO2 hq2 hB2
    go_wp2_with fail
    refine (s_MajorityView' _ _ rs.length vs.length _ _ q1 q2 _ ((HB1.out.ext hx2).sl HC1.out len_encR) (HO1.out.ext hx2).rings (by rw [HQ1.out]; exact hl) (HB2.out.sl HC2.out len_encV) HO2.out.views (by rw [HQ2.out]; exact hvl) HQ1.out.symm HQ2.out.symm).mono ?_
    rw [HP1.out, HP2.out, ← HCD.out]
    rintro e w3 ⟨v3, rfl, hO3, hx3⟩
    have HO3 := Lib.hid hO3
    obtain ⟨A3, c3, rfl, hS3, _, _, hA3⟩ := hO3.sl len_encS
    rw [← HM.out] at HO3 ⊢
    have HA3 := Lib.hid hA3
    clear hO3 hA3
    have hX3 := ((hx0.trans hx1).trans hx2).trans hx3
    have hs3 : w.heap.size ≤ w3.heap.size := hX3.size
    go_wp2_with fail
    refine (l_toPointSS _ _ rs _ (h.ext hX3).sl (h.ext hX3).rg hl HS.out).mono ?_
    rintro e w4 ⟨q4, cs4, rfl, hq4, hp4, hB4, hc4, hO4, hx4⟩
    have HP4 := Lib.hid hp4
    have HC4 := Lib.hid hc4
    have HQ4 := Lib.hid hq4
    have HO4 := Lib.hid hO4
    have HB4 := Lib.hid hB4
    clear hp4 hc4 hO4 hq4 hB4
    go_wp2_with fail
    refine (l_toViewS _ _ vs _ (h'.ext (hX3.trans hx4)).sl (fun i hi => ((h'.ext (hX3.trans hx4)).rg i hi).1) hvl HG.out).mono ?_
    rintro e w5 ⟨q5, cs5, rfl, hq5, hp5, hB5, hc5, hO5, hx5⟩
    have HP5 := Lib.hid hp5
    have HC5 := Lib.hid hc5
    have HQ5 := Lib.hid hq5
    have HO5 := Lib.hid hO5
    have HB5 := Lib.hid hB5
    clear hp5 hc5 hO5 hq5 hB5
    go_wp2_with fail
    refine (i_MajorityView' _ _ rs.length vs.length _ _ q4 q5 _ ((HB4.out.ext hx5).sl HC4.out len_encR) (HO4.out.ext hx5).rings (by rw [HQ4.out]; exact hl) (by rw [HQ4.out]; exact Nat.le_refl _) (HB5.out.sl HC5.out len_encV) HO5.out.views (by rw [HQ5.out]; exact hvl) HQ4.out.symm HQ5.out.symm).mono ?_
    rw [HP4.out, HP5.out, ← HCD.out]
    rintro e w6 ⟨v6, rfl, hO6, hx6⟩
    have HO6 := Lib.hid hO6
    obtain ⟨A6, c6, rfl, hS6, _, _, hA6⟩ := hO6.sl len_encS
    rw [← HM.out] at HO6 ⊢
    have HA6 := Lib.hid hA6
    clear hO6 hA6
    have hX6 := ((hX3.trans hx4).trans hx5).trans hx6
    go_wp2_with fail
    refine (l_eqS A6 A3 m c6 c3 (majR (psOf rs) (voOf vs)) _ hS6 (hS3.ext ((hx4.trans hx5).trans hx6)) HM.out (by omega)).mono ?_
    rintro e w7 ⟨rfl, hx7⟩
    have hX7 := hX6.trans hx7
    go_wp2_with fail
    refine (l_toPointSS _ _ rs _ (h.ext hX7).sl (h.ext hX7).rg hl HS.out).mono ?_
    rintro e w8 ⟨q8, cs8, rfl, hq8, hp8, hB8, hc8, hO8, hx8⟩
    have HP8 := Lib.hid hp8
    have HC8 := Lib.hid hc8
    have HQ8 := Lib.hid hq8
    have HO8 := Lib.hid hO8
    have HB8 := Lib.hid hB8
    clear hp8 hc8 hO8 hq8 hB8
    go_wp2_with fail
    refine (l_eqSS _ _ _ _ _ q4 q8 _ ((((HB4.out.ext hx5).ext hx6).ext hx7).ext hx8 |>.sl HC4.out len_encR) (HB8.out.sl HC8.out len_encR) ((((HO4.out.ext hx5).ext hx6).ext hx7).ext hx8).rings HO8.out.rings (by rw [HP4.out, HP8.out]) HQ4.out.symm hl).mono ?_
    rintro e w9 ⟨rfl, hx9⟩
    go_wp2_with fail
    refine (l_toViewS _ _ vs _ (h'.ext ((hX7.trans hx8).trans hx9)).sl (fun i hi => ((h'.ext ((hX7.trans hx8).trans hx9)).rg i hi).1) hvl HG.out).mono ?_
    rintro e w10 ⟨q10, cs10, rfl, hq10, hp10, hB10, hc10, hO10, hx10⟩
    have HP10 := Lib.hid hp10
    have HC10 := Lib.hid hc10
    have HQ10 := Lib.hid hq10
    have HO10 := Lib.hid hO10
    have HB10 := Lib.hid hB10
    clear hp10 hc10 hO10 hq10 hB10
    go_wp2_with fail
    refine (l_eqViewS _ _ _ _ _ q5 q10 _ (((((HB5.out.ext hx6).ext hx7).ext hx8).ext hx9).ext hx10 |>.sl HC5.out len_encV) (HB10.out.sl HC10.out len_encV) (((((HO5.out.ext hx6).ext hx7).ext hx8).ext hx9).ext hx10).views HO10.out.views (by rw [HP5.out, HP10.out]) HQ5.out.symm hvl).mono ?_
    rintro e w11 ⟨rfl, hx11⟩
    have hX611 : Ext w6 w11 := (((hx7.trans hx8).trans hx9).trans hx10).trans hx11
    have hX511 : Ext w5 w11 := hx6.trans hX611
    have hX411 : Ext w4 w11 := hx5.trans hX511
    have hX311 : Ext w3 w11 := hx4.trans hX411
    have hX11 : Ext w w11 := hX6.trans hX611
    have hS311 := hS3.ext hX311
    have hS611 := hS6.ext hX611
    have HO611 := Lib.hid (HO6.out.ext hX611)
    have HB411 := Lib.hid (HB4.out.ext hX411)
    have HO411 := Lib.hid (HO4.out.ext hX411)
    have HB511 := Lib.hid (HB5.out.ext hX511)
    have HO511 := Lib.hid (HO5.out.ext hX511)
    have hb4 : w3.heap.size < w4.heap.size := HB4.out.lt
    have hb5 : w4.heap.size < w5.heap.size := HB5.out.lt
    have hsmb := HSUM.out
    have hsm0 := sumL_nonneg rs rs.length
    have hss : sumL q4 q4.length = sumL rs rs.length := by
      rw [HQ4.out]
      exact tot_congr fun i hi => by rw [psOf_at' (rs := rs) HP4.out.symm hi]
    have HSS := Lib.hid hss
    clear hss
    generalize hsme : sumL rs rs.length = sm at *
    obtain ⟨sn, rfl⟩ : ∃ sn : Nat, sm = (sn : Int) := ⟨sm.toNat, by omega⟩
    have HH4 : Hid (∀ j, j < q4.length → blkOf (q4.getD j rgD) < w4.heap.size) := Lib.hid fun j hj => (HO4.out.blk_lt hj).1
    have HH5 : Hid (∀ j, j < q5.length → blkV (q5.getD j vwD) < w5.heap.size) := Lib.hid fun j hj => (HO5.out.blk_lt hj).1
    have h611 := hX611.size
    have h56 := hx6.size
    clear HO6 hS6 hS3 HB4 HO4 HB5 HO5
    go_wp2_with fail
    refine (l_markSS _ w4.heap.size _ _ _ q4 1 _ (HB411.out.sl HC4.out len_encR) HO411.out HQ4.out.symm (by rw [HQ4.out]; exact hl) (by rw [HSS.out]; omega) (by omega) (by omega) HH4.out).mono ?_
    rw [HSS.out, show (1 : Int) + 2 * (sn : Int) = ((1 + 2 * sn : Nat) : Int) by omega]
    rintro e w12 ⟨rfl, hm12⟩
    have hb12 : Btw w3.heap.size w4.heap.size w11 w12 := hm12.btw
    have HB512 := Lib.hid (HB511.out.btw hb12 (.inr (Nat.le_refl _)))
    have HO512 := Lib.hid (HO511.out.mono fun g t cs hg hB => hB.btw hb12 (.inr (by omega)))
    have h1112 := hb12.size
    have hB11 : Btw w3.heap.size w5.heap.size w11 w12 := ⟨hb12.os, hb12.tape, hb12.output, hb12.size, fun k hk hc => hb12.block k hk (by omega)⟩
    have HBA := Lib.hid hB11
    clear hm12 hb12 hB11 HB411 HO411 HB511 HO511
    go_wp2_with fail
    refine (l_markViewS w4.heap.size w5.heap.size _ _ _ (1 + 2 * sn) q5 _ _ HB512.out HC5.out HO512.out HQ5.out.symm (by omega) (by omega) (by omega) (Nat.le_refl _) hb5 HH5.out).mono ?_
    rintro e w13 ⟨zz, rfl, hzz, hb13⟩
    have hzn : ¬ ((zz : Int) < 0) := by omega
    have hBW : Btw w3.heap.size w5.heap.size w11 w13 := HBA.out.trans ⟨hb13.os, hb13.tape, hb13.output, hb13.size, fun k hk hc => hb13.block k hk (by omega)⟩
    have hX13 : Ext w w13 := hBW.ext hX11 (by omega)
    have hS313 := hS311.btw hBW (fun q hq => .inl (by have := HA3.out q hq; omega))
    have hS613 := hS611.btw hBW (fun q hq => .inr (by have := HA6.out q hq; omega))
    have HO13 := Lib.hid (HO611.out.btw hBW (Nat.le_refl _))
    have h1113 := hBW.size
    clear hb13 hBW HB512 HO512 hS311 hS611 HO611 HBA
    go_wp2_with fail
    refine (l_eqS A6 A3 m c6 c3 (majR (psOf rs) (voOf vs)) _ hS613 hS313 HM.out (by omega)).mono ?_
    rintro e w14 ⟨rfl, hx14⟩
    have HO14 := Lib.hid (HO13.out.ext hx14)
    have hS314 := hS313.ext hx14
    have hX14 := hX13.trans hx14
    clear HO13 hS313 hS613
    go_wp2_with fail
    refine (l_markS _ _ _ m 1 _ HO14.out HM.out (by omega) (by omega) (by omega)).mono ?_
    rintro e w15 ⟨rfl, hO15, hg15⟩
    have hX15 : Ext w w15 := hX14.grown hg15 (fun q hq => by have := (HO14.out.row q hq).1; omega)
    have hS315 := hS314.grown hg15 (by intro q hq he; have := HA3.out q hq; have := (HO14.out.row _ he.symm).1; omega)
    obtain ⟨_, _, e', hS615, _⟩ := hO15.sl len_encS
    injection e' with ea eb ec
    subst ea
    clear hg15 hS314 HO14 eb ec hO15
    go_wp2_with fail
    refine (l_heldS _ m _ 1 _ hS615 (by omega) (by omega) (by omega)).mono ?_
    rintro e w16 ⟨rfl, hx16⟩
    have hX16 := hX15.trans hx16
    go_wp2_with fail
    refine (l_toPointSS _ _ rs _ (h.ext hX16).sl (h.ext hX16).rg hl HS.out).mono ?_
    rintro e w17 ⟨q17, cs17, rfl, hq17, hp17, hB17, hc17, hO17, hx17⟩
    have HP17 := Lib.hid hp17
    have HC17 := Lib.hid hc17
    have HQ17 := Lib.hid hq17
    have HO17 := Lib.hid hO17
    have HB17 := Lib.hid hB17
    clear hp17 hc17 hO17 hq17 hB17
    go_wp2_with fail
    refine (l_toViewS _ _ vs _ (h'.ext (hX16.trans hx17)).sl (fun i hi => ((h'.ext (hX16.trans hx17)).rg i hi).1) hvl HG.out).mono ?_
    rintro e w18 ⟨q18, cs18, rfl, hq18, hp18, hB18, hc18, hO18, hx18⟩
    have HP18 := Lib.hid hp18
    have HC18 := Lib.hid hc18
    have HQ18 := Lib.hid hq18
    have HO18 := Lib.hid hO18
    have HB18 := Lib.hid hB18
    clear hp18 hc18 hO18 hq18 hB18
    go_wp2_with fail
    refine (i_MajorityView' _ _ rs.length vs.length _ _ q17 q18 _ ((HB17.out.ext hx18).sl HC17.out len_encR) (HO17.out.ext hx18).rings (by rw [HQ17.out]; exact hl) (by rw [HQ17.out]; exact Nat.le_refl _) (HB18.out.sl HC18.out len_encV) HO18.out.views (by rw [HQ18.out]; exact hvl) HQ17.out.symm HQ18.out.symm).mono ?_
    rw [HP17.out, HP18.out, ← HCD.out]
    rintro e w19 ⟨v19, rfl, hO19, hx19⟩
    have HO19 := Lib.hid hO19
    obtain ⟨A19, c19, rfl, hS19, _, _, hA19⟩ := hO19.sl len_encS
    rw [← HM.out] at HO19 ⊢
    have HA19 := Lib.hid hA19
    clear hO19 hA19
    go_wp2_with fail
    refine (l_eqS A19 A3 m c19 c3 (majR (psOf rs) (voOf vs)) _ hS19 (hS315.ext (((hx16.trans hx17).trans hx18).trans hx19)) HM.out (by omega)).mono ?_
    rintro e w20 ⟨rfl, hx20⟩
    go_wp2_with fail
    refine (l_heldS _ m _ 1 _ (hS615.ext ((((hx16.trans hx17).trans hx18).trans hx19).trans hx20)) (by omega) (by omega) (by omega)).mono ?_
    rintro e w21 ⟨rfl, hx21⟩
    go_wp2
    go_ret
    exact ⟨rfl, ((((hX16.trans hx17).trans hx18).trans hx19).trans hx20).trans hx21⟩

end Go.Proofs.YtdbheipjbjcikaaGreatDoor
