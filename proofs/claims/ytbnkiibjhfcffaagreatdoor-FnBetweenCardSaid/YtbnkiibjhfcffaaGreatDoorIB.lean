/- Contracts of the laws on lists of int64, walked over the translation. -/
import Derived.Test.YtbnkiibjhfcffaaGreatDoorG0
import Derived.Deep.RegionHeld3
import Derived.Deep.DeepCutAuto
import Derived.RegionTactic
import Derived.BigRegion
import Derived.WalkLawsBesides
import Derived.WalkSpells
import Derived.Lib.MinMax
import Derived.Outline
namespace Go.Proofs.YtbnkiibjhfcffaaGreatDoor
open Go.RowKit
attribute [local go_sem] ExtOf.cell ExtOf.frozen

theorem len_encI : ∀ x, (encI x).length = 1 := fun _ => rfl
theorem one_encI : ∀ p, ∀ u ∈ encI p, u.oneCell' = true := by
  intro p u hu
  simp [encI] at hu
  subst hu; rfl
theorem elI : ElT Tryz.prog 73 2 1 8 := ElT.mk' (z := .int .i64 0) Tryz.underlying73 (by kernel_rfl) rfl (by omega)
abbrev OwI (w : World) (base : Nat) (v : Value) (xs : List Int) : Prop := Own encI 1 2 w base v xs
theorem blk_i1 {w : World} {g : Nat} {t : TypeId} {x : Int} (h : Blk w g t #[.int .i64 x]) : SlAt w 1 encI (some ⟨g, 0, none⟩) [x] := h.sl rfl len_encI
theorem blk_i2 {w : World} {g : Nat} {t : TypeId} {x y : Int} (h : Blk w g t #[.int .i64 x, .int .i64 y]) : SlAt w 1 encI (some ⟨g, 0, none⟩) [x, y] := h.sl rfl len_encI
theorem SlAt.it {w : World} {A : Option Addr} {xs : List Int} (h : SlAt w 1 encI A xs) {k : Nat} (hk : k < xs.length) :
    ∃ b off, A = some ⟨b, off, none⟩ ∧ b < w.heap.size ∧ w.cell? ⟨b, off + k, none⟩ = some (.int .i64 (xs.getD k 0)) := by
  obtain ⟨b, off, e, hb, hc⟩ := h (by omega)
  have hg : xs[k]? = some (xs.getD k 0) := by simp [List.getD, hk]
  exact ⟨b, off, e, hb, by simpa using hc k _ hg 0 _ rfl⟩
/-- marks in a list of int64 -/
def marksI (k : Int) (n : Nat) : List Int := (List.range n).map fun i : Nat => k + (i : Int)
theorem marksI_len (k : Int) (n : Nat) : (marksI k n).length = n := by simp [marksI]
def MarkI (k : Int) (j sz : Nat) (cs : Array Value) : Prop := cs.size = sz ∧ ∀ q, q < j → cs[q]? = some (.int .i64 (k + (q : Int)))
theorem MarkI.step {k : Int} {j sz : Nat} {cs : Array Value} (h : MarkI k j sz cs) (hs : j < sz) : MarkI k (j + 1) sz (cs.setIfInBounds j (.int .i64 (k + (j : Int)))) := by
  have hz := h.1
  refine ⟨by simpa using h.1, fun q hq => ?_⟩
  by_cases e : q = j
  · subst e
    rw [Array.getElem?_setIfInBounds_self_of_lt (by omega)]
  · rw [Array.getElem?_setIfInBounds_ne (by omega)]
    exact h.2 q (by omega)
theorem MarkI.done {k : Int} {n sz : Nat} {cs : Array Value} (h : MarkI k n sz cs) (hs : n ≤ sz) : cs.toList.take (n * 1) = (marksI k n).flatMap encI := by
  have hz := h.1
  rw [Nat.mul_one]
  apply List.ext_getElem?
  intro i
  rcases Nat.lt_or_ge i n with hi | hi
  · rw [List.getElem?_take_of_lt hi, Array.getElem?_toList, h.2 i hi]
    have hg : (marksI k n)[i]? = some (k + (i : Int)) := by simp [marksI, hi]
    have h0 := flatMap_at (enc := encI) (sz := 1) len_encI (marksI k n) i _ 0 _ hg rfl
    rw [Nat.mul_one, Nat.add_zero] at h0
    rw [h0]
  · have hle : (cs.toList.take n).length ≤ i := by simp; omega
    rw [List.getElem?_eq_none hle, List.getElem?_eq_none (by rw [flatMap_len len_encI, marksI_len]; omega)]
set_option maxHeartbeats 1600000 in
theorem i_areWithin (A : Option Addr) (n c : Nat) (xs : List Int) (lo hi : Int) (w : World) (h : SlAt w 1 encI A xs) (hn : n = xs.length) (hl : n ≤ 1048576) :
    Calls Tryz.prog 50 #[.slice A n c, .int .i64 lo, .int .i64 hi] w fun e w' => e = .returned (.bool (xs.all fun x => inB x lo hi)) ∧ w = w' := by
  have HN := Lib.hid hn
  clear hn
  go_enter Tryz.func50, Tryz.ntmps50
  go_wp2
  go_loop [11] (fun i => ∃ k : Nat, k ≤ n ∧ i = .int .i64 k ∧ Hid (∀ j, j < k → inB (xs.getD j 0) lo hi = true)) (fun i => n - (intOf i).toNat)
  case atStart => exact ⟨0, Nat.zero_le _, rfl, fun j hj => absurd hj (by omega)⟩
  case round =>
    obtain ⟨k, hk, rfl, HJ⟩ := hrel
    by_cases hlt : k < n
    · have hkn : k < xs.length := by rw [← HN.out]; exact hlt
      obtain ⟨b, off, rfl, hb, d0⟩ := h.it hkn
      obtain ⟨x, hx⟩ : ∃ x, x = xs.getD k 0 := ⟨_, rfl⟩
      rw [← hx] at d0
      have HX := Lib.hid hx
      clear hx
      cases hb : inB x lo hi with
      | true =>
        have hcall : ∀ W, Calls Tryz.prog 51 #[.int .i64 x, .int .i64 lo, .int .i64 hi] W fun e w' => e = .returned (.bool true) ∧ W = w' := fun W => by have := within_any x lo hi W; rwa [hb] at this
        have HC := Lib.hid hcall
        have HB := Lib.hid hb
        clear hcall hb
        go_wp2_with fail
        refine (HC.out _).mono ?_
        rintro e w' ⟨rfl, rfl⟩
        go_wp2
        go_round
        case rel =>
          refine ⟨k + 1, by omega, by go_num, fun j hj => ?_⟩
          rcases Nat.lt_or_ge j k with c | c
          · exact HJ.out j c
          · obtain rfl : j = k := by omega
            rw [← HX.out]; exact HB.out
        case measure => simp [intOf]; omega
      | false =>
        have hcall : ∀ W, Calls Tryz.prog 51 #[.int .i64 x, .int .i64 lo, .int .i64 hi] W fun e w' => e = .returned (.bool false) ∧ W = w' := fun W => by have := within_any x lo hi W; rwa [hb] at this
        have HC := Lib.hid hcall
        have HB := Lib.hid hb
        clear hcall hb
        go_wp2_with fail
        refine (HC.out _).mono ?_
        rintro e w' ⟨rfl, rfl⟩
        go_wp2
        go_ret
        refine ⟨ret_bool (Eq.symm ?_), rfl⟩
        rw [List.all_eq_false]
        exact ⟨xs.getD k 0, by simp [List.getD, hkn], by rw [← HX.out, HB.out]; simp⟩
    · obtain rfl : k = n := by omega
      go_wp2
      go_ret
      refine ⟨ret_bool (Eq.symm ?_), rfl⟩
      rw [List.all_eq_true]
      intro x hx
      obtain ⟨j, hj, rfl⟩ := List.mem_iff_getElem.1 hx
      have := HJ.out j (by rw [HN.out]; exact hj)
      simpa [List.getD, hj] using this
end Go.Proofs.YtbnkiibjhfcffaaGreatDoor
