/- Contracts of the rings: the test of a ring, walked over the translation. -/
import Derived.Test.YteppjdoggjcdoaaR
import Derived.RegionTactic
import Derived.BigRegion
import Derived.WalkLawsBesides
import Derived.WalkSpells
import Derived.Lib.MinMax
import Derived.Outline
namespace Go.Proofs.Yteppjdoggjcdoaa
open Go.RowKit
attribute [local go_sem] ExtOf.cell ExtOf.frozen





theorem SlAt.take {α : Type} {w : World} {sz : Nat} {enc : α → List Value} {A : Option Addr} {xs : List α} (h : SlAt w sz enc A xs) (k : Nat) : SlAt w sz enc A (xs.take k) := fun hn => by
  obtain ⟨b, off, e, hb, hc⟩ := h (by rw [List.length_take] at hn; omega)
  refine ⟨b, off, e, hb, fun i x hi j v hj => hc i x ?_ j v hj⟩
  rw [List.getElem?_take] at hi
  split at hi
  · exact hi
  · cases hi
theorem as_bool {P : Program} {f : FuncId} {args : Array Value} {w : World} {b b' : Bool} (h : Calls P f args w fun e w' => e = .returned (.bool b) ∧ Ext w w') (e : b = b') : Calls P f args w fun e w' => e = .returned (.bool b') ∧ Ext w w' := e ▸ h
theorem as_int {P : Program} {f : FuncId} {args : Array Value} {w : World} {k : IntKind} {b b' : Int} (h : Calls P f args w fun e w' => e = .returned (.int k b) ∧ Ext w w') (e : b = b') : Calls P f args w fun e w' => e = .returned (.int k b') ∧ Ext w w' := e ▸ h
theorem i_Contains' (A : Option Addr) (n c : Nat) (xs : List (Int × Int)) (x z : Int) (w : World) (h : SlAt w 2 encP A xs) (hn : n = xs.length) (hl : xs.length ≤ 1048576) :
    Calls Try.prog 107 #[.slice A n c, .agg #[.int .i64 x, .int .i64 z]] w fun e w' => e = .returned (.bool (hasP xs x z)) ∧ Ext w w' := by
  subst hn
  exact i_Contains A c xs x z w h hl
theorem i_length (A : Option Addr) (n c : Nat) (w : World) (_hn : n ≤ 140737488351232) : Calls Try.prog 90 #[.slice A n c] w fun e w' => e = .returned (.int .i64 n) ∧ w = w' := by
  go_enter Try.func90, Try.ntmps90
  go_wp2
  go_ret
  exact ⟨rfl, rfl⟩
/-- what makes a ring valid -/
def RingP (ps : List (Int × Int)) : Prop :=
  3 ≤ ps.length ∧ ps.length ≤ 12 ∧ oks ps = true ∧ (∀ i : Nat, i < ps.length → turnI ps i ≠ 0) ∧ (∀ i k : Nat, k < i → i < ps.length → ¬ (ptx ps i = ptx ps k ∧ ptz ps i = ptz ps k)) ∧ (∀ i k : Nat, i < k → k < ps.length → apB ps i k = true)
open Classical in
noncomputable def ringB (ps : List (Int × Int)) : Bool := decide (RingP ps)
theorem ringB_iff {ps : List (Int × Int)} : ringB ps = true ↔ RingP ps := by simp [ringB]
theorem ringB_no {ps : List (Int × Int)} (h : ¬ RingP ps) : false = ringB ps := by simp [ringB, h]
theorem ringB_yes {ps : List (Int × Int)} (h : RingP ps) : true = ringB ps := by simp [ringB, h]
theorem inB_len {n : Nat} (h : inB n 3 12 = true) : 3 ≤ n ∧ n ≤ 12 := by simp [inB] at h; omega
theorem hasP_take {ps : List (Int × Int)} {k : Nat} (hk : k < ps.length) : hasP (ps.take k) (ptx ps k) (ptz ps k) = true ↔ ∃ j, j < k ∧ ptx ps k = ptx ps j ∧ ptz ps k = ptz ps j := by
  rw [hasP_iff, List.mem_take_iff_getElem]
  constructor
  · rintro ⟨j, hj, e⟩
    have hj1 : j < k := by omega
    have hj2 : j < ps.length := by omega
    refine ⟨j, hj1, ?_, ?_⟩
    · rw [ptx_lt (k := j) hj2, List.getD_eq_getElem?_getD, List.getElem?_eq_getElem hj2, Option.getD_some, e]
    · rw [ptz_lt (k := j) hj2, List.getD_eq_getElem?_getD, List.getElem?_eq_getElem hj2, Option.getD_some, e]
  · rintro ⟨j, hj, e1, e2⟩
    have hj2 : j < ps.length := by omega
    refine ⟨j, by omega, ?_⟩
    rw [e1, e2, ptx_lt hj2, ptz_lt hj2]
    simp [List.getD, hj2]
/-- the first k corners are as they must be -/
def Turned (ps : List (Int × Int)) (k : Nat) : Prop := (∀ i : Nat, i < k → turnI ps i ≠ 0) ∧ (∀ i j : Nat, j < i → i < k → ¬ (ptx ps i = ptx ps j ∧ ptz ps i = ptz ps j))
def Apart (ps : List (Int × Int)) (k : Nat) : Prop := ∀ i j : Nat, i < k → i < j → j < ps.length → apB ps i j = true
def Apart1 (ps : List (Int × Int)) (i m : Nat) : Prop := ∀ j : Nat, i < j → j < m → apB ps i j = true
theorem Turned.succ {ps : List (Int × Int)} {k : Nat} (h : Turned ps k) (hk : k < ps.length) (ht : turnI ps k ≠ 0) (hh : hasP (ps.take k) (ptx ps k) (ptz ps k) = false) : Turned ps (k + 1) := by
  refine ⟨fun i hi => ?_, fun i j hj hi e => ?_⟩
  · rcases Nat.lt_or_ge i k with h1 | h1
    · exact h.1 i h1
    · rw [show i = k by omega]; exact ht
  · rcases Nat.lt_or_ge i k with h1 | h1
    · exact h.2 i j hj h1 e
    · rw [show i = k by omega] at e hj
      have := (hasP_take hk).2 ⟨j, hj, e.1, e.2⟩
      rw [hh] at this
      cases this
theorem Apart.succ {ps : List (Int × Int)} {k m : Nat} (h : Apart ps k) (h1 : Apart1 ps k m) (hm : ps.length ≤ m) : Apart ps (k + 1) := fun i j hi hij hj => by
  rcases Nat.lt_or_ge i k with h2 | h2
  · exact h i j h2 hij hj
  · obtain rfl : i = k := by omega
    exact h1 j hij (by omega)
theorem Apart1.succ {ps : List (Int × Int)} {i m : Nat} (h : Apart1 ps i m) (h1 : apB ps i m = true) : Apart1 ps i (m + 1) := fun j hij hj => by
  rcases Nat.lt_or_ge j m with h2 | h2
  · exact h j hij h2
  · obtain rfl : j = m := by omega
    exact h1
set_option maxHeartbeats 1600000 in
theorem i_IsRing (A : Option Addr) (c : Nat) (ps : List (Int × Int)) (w : World) (h : SlAt w 2 encP A ps) (hl : ps.length ≤ 1048576) (hc : ps.length ≤ c) :
    Calls Try.prog 57 #[.slice A ps.length c] w fun e w' => e = .returned (.bool (ringB ps)) ∧ Ext w w' := by
  by_cases hb : inB ps.length 3 12 = true
  · by_cases ho : oks ps = true
    · obtain ⟨hn3, hn12⟩ := inB_len hb
      obtain ⟨b, off, rfl, hb0⟩ := h.open_ (by omega)
      have har : ∀ W, SlAt W 2 encP (some ⟨b, off, none⟩) ps → Calls Try.prog 106 #[.slice (some ⟨b, off, none⟩) ps.length c] W fun e w' => e = .returned (.bool true) ∧ Ext W w' := fun W hW => by
        have := i_arePoints _ c ps W hW hl
        rwa [show (ps.all fun p => okP p.1 p.2) = true from ho] at this
      have HA := Lib.hid har
      have HO := Lib.hid ho
      clear har ho
      go_enter Try.func57, Try.ntmps57
      go_wp2_with (first | (go_at_call 90; refine (i_length _ _ _ _ (by omega)).mono ?_; rintro e w' ⟨rfl, rfl⟩) | (go_at_call 89; refine (within_any _ _ _ _).mono ?_; rintro e w' ⟨rfl, rfl⟩) | (go_at_call 106; refine (HA.out _ h).mono ?_; rintro e w1 ⟨rfl, hx1⟩; obtain ⟨hc1, hf1⟩ := hx1.rules; have hs1 := hx1.size; (try simp at hs1); have := (show b < w1.heap.size from by omega)))
      go_loopw [16] (fun i wr => ∃ k : Nat, k ≤ ps.length ∧ i = .int .i64 k ∧ Hid (Turned ps k) ∧ Hid (Apart ps k) ∧ Ext w wr) (fun i _ => ps.length - (intOf i).toNat)
      case atStart => exact ⟨0, Nat.zero_le _, rfl, ⟨fun i hi => by omega, fun i j hj hi => by omega⟩, fun i j hi => by omega, by (repeat (first | with_reducible exact Ext.refl _ | with_reducible assumption | ((with_reducible apply Src.ext); with_reducible assumption) | with_reducible refine Ext.alloc ?_ _ | with_reducible refine Ext.drew ?_ | with_reducible refine Ext.drewN ?_ _ | ((with_reducible refine Ext.setCell' ?_ ?_ _); solve | omega | simp | (simp; omega)) | (with_reducible refine Ext.trans ?_ (by with_reducible assumption))))⟩
      case round =>
        obtain ⟨k, hk, rfl, HT, HP, hx⟩ := hrel
        by_cases hlt : k < ps.length
        · have hS := h.ext hx
          obtain ⟨d0, d1⟩ := hS.ring hlt
          have hbr : b < wr.heap.size := by have := hx.size; omega
          by_cases hh : hasP (ps.take k) (ptx ps k) (ptz ps k) = true
          · have hR : ¬ RingP ps := fun hr => by
              obtain ⟨j, hj, e⟩ := (hasP_take hlt).1 hh
              exact hr.2.2.2.2.1 k j hj hlt e
            go_wp2
            (refine wp_region_ext (by kernel_rfl) (by kernel_rfl) ?_; (repeat (go_big_quiet_step (first | (go_at_call 107; exact Calls_ext (as_bool (i_Contains' _ _ _ (ps.take k) _ _ _ ((hS.ext (ExtOf.ext _)).take k) (by simp; omega) (by simp; omega)) hh))))); refine wpQuiet_nil ?_; intro wq hxwq; obtain ⟨hcwq, hfwq⟩ := hxwq.rules; have hswq := hxwq.size; (try simp at hswq))
            go_wp2
            go_ret
            exact ⟨ret_bool (ringB_no hR), by (repeat (first | with_reducible exact Ext.refl _ | with_reducible assumption | ((with_reducible apply Src.ext); with_reducible assumption) | with_reducible refine Ext.alloc ?_ _ | with_reducible refine Ext.drew ?_ | with_reducible refine Ext.drewN ?_ _ | ((with_reducible refine Ext.setCell' ?_ ?_ _); solve | omega | simp | (simp; omega)) | (with_reducible refine Ext.trans ?_ (by with_reducible assumption))))⟩
          · have hh' : hasP (ps.take k) (ptx ps k) (ptz ps k) = false := by simpa using hh
            clear hh
            by_cases ht : turnI ps k = 0
            · have hR : ¬ RingP ps := fun hr => hr.2.2.2.1 k hlt ht
              have tb : (turnI ps k == 0) = true := by rw [beq_iff_eq]; exact ht
              clear ht
              go_wp2
              (refine wp_region_ext (by kernel_rfl) (by kernel_rfl) ?_; (repeat (go_big_quiet_step (first | (go_at_call 107; exact Calls_ext (as_bool (i_Contains' _ _ _ (ps.take k) _ _ _ ((hS.ext (ExtOf.ext _)).take k) (by simp; omega) (by simp; omega)) hh')) | (go_at_call 68; exact Calls_ext (i_turnAt _ _ ps _ _ (hS.ext (ExtOf.ext _)) hlt hl))))); refine wpQuiet_nil ?_; intro wq hxwq; obtain ⟨hcwq, hfwq⟩ := hxwq.rules; have hswq := hxwq.size; (try simp at hswq))
              go_wp2
              go_ret
              exact ⟨ret_bool (ringB_no hR), by (repeat (first | with_reducible exact Ext.refl _ | with_reducible assumption | ((with_reducible apply Src.ext); with_reducible assumption) | with_reducible refine Ext.alloc ?_ _ | with_reducible refine Ext.drew ?_ | with_reducible refine Ext.drewN ?_ _ | ((with_reducible refine Ext.setCell' ?_ ?_ _); solve | omega | simp | (simp; omega)) | (with_reducible refine Ext.trans ?_ (by with_reducible assumption))))⟩
            · have HT1 := HT.out.succ hlt ht hh'
              have HT2 := Lib.hid HT1
              have tb : (turnI ps k == 0) = false := by rw [beq_eq_false_iff_ne]; exact ht
              clear ht HT1
              go_wp2
              (refine wp_region_ext (by kernel_rfl) (by kernel_rfl) ?_; (repeat (go_big_quiet_step (first | (go_at_call 107; exact Calls_ext (as_bool (i_Contains' _ _ _ (ps.take k) _ _ _ ((hS.ext (ExtOf.ext _)).take k) (by simp; omega) (by simp; omega)) hh')) | (go_at_call 68; exact Calls_ext (i_turnAt _ _ ps _ _ (hS.ext (ExtOf.ext _)) hlt hl))))); refine wpQuiet_nil ?_; intro wq hxwq; obtain ⟨hcwq, hfwq⟩ := hxwq.rules; have hswq := hxwq.size; (try simp at hswq))
              go_wp2
              obtain ⟨wo, hwo⟩ : ∃ wo : World, wo = wr := ⟨_, rfl⟩
              have HW := Lib.hid hwo
              clear hwo
              go_loopw [4] (fun i wr2 => ∃ m : Nat, k < m ∧ m ≤ ps.length ∧ i = .int .i64 m ∧ Hid (Apart1 ps k m) ∧ Ext w wr2) (fun i _ => ps.length - (intOf i).toNat)
              case atStart => exact ⟨k + 1, by omega, by omega, by go_num, fun j h1 h2 => by omega, by (repeat (first | with_reducible exact Ext.refl _ | with_reducible assumption | ((with_reducible apply Src.ext); with_reducible assumption) | with_reducible refine Ext.alloc ?_ _ | with_reducible refine Ext.drew ?_ | with_reducible refine Ext.drewN ?_ _ | ((with_reducible refine Ext.setCell' ?_ ?_ _); solve | omega | simp | (simp; omega)) | (with_reducible refine Ext.trans ?_ (by with_reducible assumption))))⟩
              case round =>
                obtain ⟨m, hkm, hm, rfl, HM, hx2⟩ := hrel
                by_cases hlm : m < ps.length
                · by_cases ha : apB ps k m = true
                  · have HM1 := HM.out.succ ha
                    have HM2 := Lib.hid HM1
                    clear HM1
                    go_wp2_with (first | (go_at_call 108; refine (i_areApart _ _ ps _ _ _ (h.ext hx2) hkm hlm hl).mono ?_; rintro e w9 ⟨rfl, hx9⟩; obtain ⟨hc9, hf9⟩ := hx9.rules; have hs9 := hx9.size; (try simp at hs9)))
                    go_roundw
                    case rel => exact ⟨m + 1, by omega, by omega, by go_num, HM2, by (repeat (first | with_reducible exact Ext.refl _ | with_reducible assumption | ((with_reducible apply Src.ext); with_reducible assumption) | with_reducible refine Ext.alloc ?_ _ | with_reducible refine Ext.drew ?_ | with_reducible refine Ext.drewN ?_ _ | ((with_reducible refine Ext.setCell' ?_ ?_ _); solve | omega | simp | (simp; omega)) | (with_reducible refine Ext.trans ?_ (by with_reducible assumption))))⟩
                    case measure => simp [intOf]; omega
                  · have hR : ¬ RingP ps := fun hr => ha (hr.2.2.2.2.2 k m hkm hlm)
                    have ha' : apB ps k m = false := by simpa using ha
                    clear ha
                    go_wp2_with (first | (go_at_call 108; refine (i_areApart _ _ ps _ _ _ (h.ext hx2) hkm hlm hl).mono ?_; rintro e w9 ⟨rfl, hx9⟩; obtain ⟨hc9, hf9⟩ := hx9.rules; have hs9 := hx9.size; (try simp at hs9)))
                    go_ret
                    exact ⟨ret_bool (ringB_no hR), by (repeat (first | with_reducible exact Ext.refl _ | with_reducible assumption | ((with_reducible apply Src.ext); with_reducible assumption) | with_reducible refine Ext.alloc ?_ _ | with_reducible refine Ext.drew ?_ | with_reducible refine Ext.drewN ?_ _ | ((with_reducible refine Ext.setCell' ?_ ?_ _); solve | omega | simp | (simp; omega)) | (with_reducible refine Ext.trans ?_ (by with_reducible assumption))))⟩
                · have HP1 := HP.out.succ HM.out (by omega)
                  have HP2 := Lib.hid HP1
                  clear HP1
                  go_wp2
                  go_roundw
                  case rel => exact ⟨k + 1, by omega, by go_num, HT2, HP2, by (repeat (first | with_reducible exact Ext.refl _ | with_reducible assumption | ((with_reducible apply Src.ext); with_reducible assumption) | with_reducible refine Ext.alloc ?_ _ | with_reducible refine Ext.drew ?_ | with_reducible refine Ext.drewN ?_ _ | ((with_reducible refine Ext.setCell' ?_ ?_ _); solve | omega | simp | (simp; omega)) | (with_reducible refine Ext.trans ?_ (by with_reducible assumption))))⟩
                  case measure => simp [intOf]; omega
        · go_wp2
          go_ret
          obtain rfl : k = ps.length := by omega
          exact ⟨ret_bool (ringB_yes ⟨hn3, hn12, HO.out, HT.out.1, HT.out.2, fun i j hij hj => HP.out i j (by omega) hij hj⟩), by (repeat (first | with_reducible exact Ext.refl _ | with_reducible assumption | ((with_reducible apply Src.ext); with_reducible assumption) | with_reducible refine Ext.alloc ?_ _ | with_reducible refine Ext.drew ?_ | with_reducible refine Ext.drewN ?_ _ | ((with_reducible refine Ext.setCell' ?_ ?_ _); solve | omega | simp | (simp; omega)) | (with_reducible refine Ext.trans ?_ (by with_reducible assumption))))⟩
    · have hR : ¬ RingP ps := fun hr => ho hr.2.2.1
      have har : ∀ W, SlAt W 2 encP A ps → Calls Try.prog 106 #[.slice A ps.length c] W fun e w' => e = .returned (.bool false) ∧ Ext W w' := fun W hW => by
        have := i_arePoints _ c ps W hW hl
        rwa [show (ps.all fun p => okP p.1 p.2) = false from Bool.eq_false_iff.2 ho] at this
      have HA := Lib.hid har
      clear har ho
      go_enter Try.func57, Try.ntmps57
      go_wp2_with (first | (go_at_call 90; refine (i_length _ _ _ _ (by omega)).mono ?_; rintro e w' ⟨rfl, rfl⟩) | (go_at_call 89; refine (within_any _ _ _ _).mono ?_; rintro e w' ⟨rfl, rfl⟩) | (go_at_call 106; refine (HA.out _ h).mono ?_; rintro e w1 ⟨rfl, hx1⟩; obtain ⟨hc1, hf1⟩ := hx1.rules; have hs1 := hx1.size; (try simp at hs1)))
      go_ret
      exact ⟨ret_bool (ringB_no hR), by (repeat (first | with_reducible exact Ext.refl _ | with_reducible assumption | ((with_reducible apply Src.ext); with_reducible assumption) | with_reducible refine Ext.alloc ?_ _ | with_reducible refine Ext.drew ?_ | with_reducible refine Ext.drewN ?_ _ | ((with_reducible refine Ext.setCell' ?_ ?_ _); solve | omega | simp | (simp; omega)) | (with_reducible refine Ext.trans ?_ (by with_reducible assumption))))⟩
  · have hR : ¬ RingP ps := fun hr => hb (by simp [inB]; have := hr.1; have := hr.2.1; omega)
    have hb' : inB ps.length 3 12 = false := by simpa using hb
    clear hb
    go_enter Try.func57, Try.ntmps57
    go_wp2_with (first | (go_at_call 90; refine (i_length _ _ _ _ (by omega)).mono ?_; rintro e w' ⟨rfl, rfl⟩) | (go_at_call 89; refine (within_any _ _ _ _).mono ?_; rintro e w' ⟨rfl, rfl⟩))
    go_ret
    exact ⟨ret_bool (ringB_no hR), by (repeat (first | with_reducible exact Ext.refl _ | with_reducible assumption | ((with_reducible apply Src.ext); with_reducible assumption) | with_reducible refine Ext.alloc ?_ _ | with_reducible refine Ext.drew ?_ | with_reducible refine Ext.drewN ?_ _ | ((with_reducible refine Ext.setCell' ?_ ?_ _); solve | omega | simp | (simp; omega)) | (with_reducible refine Ext.trans ?_ (by with_reducible assumption))))⟩
end Go.Proofs.Yteppjdoggjcdoaa
