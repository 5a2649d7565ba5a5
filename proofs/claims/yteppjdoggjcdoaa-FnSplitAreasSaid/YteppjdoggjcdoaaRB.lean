/- Plain laws of rings: a ring that is turned or begun elsewhere is a ring. -/
import Derived.Test.YteppjdoggjcdoaaRA
namespace Go.Proofs.Yteppjdoggjcdoaa
open Go.RowKit

theorem sgn_opp' (x : Int) : sgn (-x) = -sgn x := by unfold sgn; omega
theorem cross_flip {a b c d p q r s : Int} (h1 : bdP a b) (h2 : bdP c d) (h3 : bdP p q) (h4 : bdP r s) : crossW c d a b p q r s = crossW a b c d p q r s := by
  unfold crossW
  rw [on_swap h1 h2 h3, on_swap h1 h2 h4]
  unfold bdP at h1 h2 h3 h4
  rw [turnW_swap (ax := a) (az := b) (bx := c) (bz := d) (x := p) (z := q) (by omega) (by omega) (by omega) (by omega) (by omega) (by omega), turnW_swap (ax := a) (az := b) (bx := c) (bz := d) (x := r) (z := s) (by omega) (by omega) (by omega) (by omega) (by omega) (by omega),
    sgn_opp', sgn_opp', Int.neg_mul_neg, Int.mul_comm (sgn (turnW p q r s c d))]
  generalize onW a b c d p q = o1
  generalize onW a b c d r s = o2
  generalize onW p q r s a b = o3
  generalize onW p q r s c d = o4
  generalize decide (sgn (turnW p q r s a b) * sgn (turnW p q r s c d) < 0) = q1
  generalize decide (sgn (turnW a b c d p q) * sgn (turnW a b c d r s) < 0) = q2
  cases o1 <;> cases o2 <;> cases o3 <;> cases o4 <;> cases q1 <;> cases q2 <;> rfl
theorem cross_flip2 {a b c d p q r s : Int} (h1 : bdP a b) (h2 : bdP c d) (h3 : bdP p q) (h4 : bdP r s) : crossW c d a b r s p q = crossW a b c d p q r s := by
  rw [cross_flip h1 h2 h4 h3, cross_comm, cross_flip h3 h4 h1 h2, cross_comm]
theorem turn_rev {a b c d p q : Int} (h1 : bdP a b) (h2 : bdP c d) (h3 : bdP p q) : turnW p q c d a b = - turnW a b c d p q := by
  unfold bdP at h1 h2 h3
  rw [turnW_eq (ax := p) (az := q) (bx := c) (bz := d) (x := a) (z := b) (by omega) (by omega) (by omega) (by omega) (by omega) (by omega), turnW_eq (ax := a) (az := b) (bx := c) (bz := d) (x := p) (z := q) (by omega) (by omega) (by omega) (by omega) (by omega) (by omega)]
  grind
/-- a closed walk of n points -/
structure Cyc (n : Nat) (P : Nat → Int × Int) : Prop where
  lo : 3 ≤ n
  hi : n ≤ 12
  per : ∀ k, P (k + n) = P k
  bd : ∀ k, bdP (P k).1 (P k).2
  turn : ∀ k, turnW (P k).1 (P k).2 (P (k + 1)).1 (P (k + 1)).2 (P (k + 2)).1 (P (k + 2)).2 ≠ 0
  diff : ∀ i j, P i = P j → i % n = j % n
  apart : ∀ i j, i % n ≠ j % n → (i + 1) % n ≠ j % n → (j + 1) % n ≠ i % n → crossW (P i).1 (P i).2 (P (i + 1)).1 (P (i + 1)).2 (P j).1 (P j).2 (P (j + 1)).1 (P (j + 1)).2 = false
theorem mod_cancel {n a b s : Nat} (h0 : 0 < n) (e : (a + s) % n = (b + s) % n) : a % n = b % n := by
  have : (a + s + (n - s % n)) % n = (b + s + (n - s % n)) % n := by rw [Nat.add_mod, e, ← Nat.add_mod]
  have hs : s % n < n := Nat.mod_lt _ h0
  have hq : s + (n - s % n) = n * (s / n + 1) := by have := Nat.div_add_mod s n; rw [Nat.mul_add, Nat.mul_one]; omega
  rw [Nat.add_assoc, Nat.add_assoc, hq, Nat.add_mul_mod_self_left, Nat.add_mul_mod_self_left] at this
  exact this
theorem Cyc.shift {n : Nat} {P : Nat → Int × Int} (h : Cyc n P) (s : Nat) : Cyc n (fun k => P (k + s)) where
  lo := h.lo
  hi := h.hi
  per k := by rw [show k + n + s = k + s + n by omega]; exact h.per _
  bd k := h.bd _
  turn k := by rw [show k + 1 + s = k + s + 1 by omega, show k + 2 + s = k + s + 2 by omega]; exact h.turn _
  diff i j e := mod_cancel (by have := h.lo; omega) (h.diff _ _ e)
  apart i j h1 h2 h3 := by
    have key : ∀ a b : Nat, a % n ≠ b % n → (a + s) % n ≠ (b + s) % n := fun a b hne e => hne (mod_cancel (by have := h.lo; omega) e)
    have := h.apart (i + s) (j + s) (key _ _ h1) (by rw [show i + s + 1 = i + 1 + s by omega]; exact key _ _ h2) (by rw [show j + s + 1 = j + 1 + s by omega]; exact key _ _ h3)
    rw [show i + s + 1 = i + 1 + s by omega, show j + s + 1 = j + 1 + s by omega] at this
    exact this
theorem Cyc.per' {n : Nat} {P : Nat → Int × Int} (h : Cyc n P) (k : Nat) : ∀ q, P (k + n * q) = P k
  | 0 => by simp
  | q + 1 => by rw [Nat.mul_succ, ← Nat.add_assoc, h.per, Cyc.per' h k q]
theorem Cyc.mod {n : Nat} {P : Nat → Int × Int} (h : Cyc n P) (k : Nat) : P (k % n) = P k := by
  have := h.per' (k % n) (k / n)
  rw [Nat.mod_add_div] at this
  exact this.symm
theorem Cyc.back {n : Nat} {P : Nat → Int × Int} (h : Cyc n P) {k q : Nat} (e : k % n = q % n) (hq : q ≤ 2 * n) : P (2 * n - k % n) = P (2 * n - q) := by
  rw [e]
  have hd := Nat.div_add_mod q n
  have hp := h.per' (2 * n - q) (q / n)
  rw [← hp]
  congr 1
  omega
theorem succ_mod {n a : Nat} (ha : a < n) : (a + 1) % n = if a + 1 = n then 0 else a + 1 := by
  split
  · rename_i e; rw [e, Nat.mod_self]
  · exact Nat.mod_eq_of_lt (by omega)
theorem two_sub_mod {n a : Nat} (ha : a < n) : (2 * n - a) % n = if a = 0 then 0 else n - a := by
  split
  · rename_i e; rw [e, Nat.sub_zero, Nat.mul_mod_left]
  · rw [show 2 * n - a = n + (n - a) by omega, Nat.add_mod_left, Nat.mod_eq_of_lt (by omega)]
theorem two_sub_mod1 {n a : Nat} (ha : a < n) : (2 * n - a - 1) % n = n - 1 - a := by
  rw [show 2 * n - a - 1 = n + (n - 1 - a) by omega, Nat.add_mod_left, Nat.mod_eq_of_lt (by omega)]
theorem Cyc.flip {n : Nat} {P : Nat → Int × Int} (h : Cyc n P) : Cyc n (fun k => P (2 * n - k % n)) := by
  have h3 := h.lo
  have hm : ∀ k, k % n < n := fun k => Nat.mod_lt _ (by omega)
  have e1 : ∀ k, P (2 * n - (k + 1) % n) = P (2 * n - k % n - 1) := fun k => by
    rw [h.back (k := k + 1) (q := k % n + 1) (by rw [Nat.mod_add_mod]) (by have := hm k; omega), Nat.sub_sub]
  have e2 : ∀ k, P (2 * n - (k + 2) % n) = P (2 * n - k % n - 2) := fun k => by
    rw [h.back (k := k + 2) (q := k % n + 2) (by rw [Nat.mod_add_mod]) (by have := hm k; omega), Nat.sub_sub]
  refine ⟨h.lo, h.hi, fun k => by rw [Nat.add_mod_right], fun k => h.bd _, fun k => ?_, fun i j e => ?_, fun i j n1 n2 n3 => ?_⟩
  · rw [e1, e2]
    have hk := hm k
    have ht := h.turn (2 * n - k % n - 2)
    rw [show 2 * n - k % n - 2 + 1 = 2 * n - k % n - 1 by omega, show 2 * n - k % n - 2 + 2 = 2 * n - k % n by omega] at ht
    rw [turn_rev (h.bd _) (h.bd _) (h.bd _)]
    omega
  · have := h.diff _ _ e
    have hi := hm i
    have hj := hm j
    rw [two_sub_mod hi, two_sub_mod hj] at this
    split at this <;> split at this <;> omega
  · have hi := hm i
    have hj := hm j
    have ht := h.apart (2 * n - i % n - 1) (2 * n - j % n - 1)
    rw [show 2 * n - i % n - 1 + 1 = 2 * n - i % n by omega, show 2 * n - j % n - 1 + 1 = 2 * n - j % n by omega, two_sub_mod1 hi, two_sub_mod1 hj, two_sub_mod hi, two_sub_mod hj] at ht
    rw [← Nat.mod_add_mod, succ_mod hi] at n2
    rw [← Nat.mod_add_mod, succ_mod hj] at n3
    rw [e1, e1, cross_flip2 (h.bd _) (h.bd _) (h.bd _) (h.bd _)]
    refine ht (by omega) ?_ ?_
    · split at n3 <;> split <;> omega
    · split at n2 <;> split <;> omega
theorem ptx_N (o : List (Int × Int)) (k : Nat) : ptx o (k : Int) = (ptN o k).1 := congrArg Prod.fst (ptxz_nat o k)
theorem ptz_N (o : List (Int × Int)) (k : Nat) : ptz o (k : Int) = (ptN o k).2 := congrArg Prod.snd (ptxz_nat o k)
theorem bd_ok {x z : Int} (h : bdP x z) : okP x z = true := by
  unfold bdP at h
  simp [okP, inB]
  omega
theorem Cyc.ring {n : Nat} {P : Nat → Int × Int} (h : Cyc n P) {o : List (Int × Int)} (hl : o.length = n) (hg : ∀ k, k < n → o.getD k (0, 0) = P k) : RingP o := by
  have h3 := h.lo
  have hp : ∀ k, ptN o k = P k := fun k => by
    unfold ptN
    rw [hl, hg _ (Nat.mod_lt _ (by omega)), h.mod]
  refine ⟨by omega, by have := h.hi; omega, ?_, fun i hi => ?_, fun i k hki hi => ?_, fun i k hik hk => ?_⟩
  · unfold oks
    rw [List.all_eq_true]
    intro p hpm
    obtain ⟨j, hj, rfl⟩ := List.mem_iff_getElem.1 hpm
    have := hg j (by omega)
    rw [show o.getD j (0, 0) = o[j] by simp [List.getD, hj]] at this
    rw [this]
    exact bd_ok (h.bd j)
  · unfold turnI
    rw [show (i : Int) + 1 = ((i + 1 : Nat) : Int) from rfl, show (i : Int) + 2 = ((i + 2 : Nat) : Int) from rfl]
    simp only [ptx_N, ptz_N, hp]
    exact h.turn i
  · rintro ⟨a, b⟩
    rw [ptx_N, ptx_N, hp, hp] at a
    rw [ptz_N, ptz_N, hp, hp] at b
    have := h.diff i k (Prod.ext a b)
    rw [Nat.mod_eq_of_lt (by omega), Nat.mod_eq_of_lt (by omega)] at this
    omega
  · unfold apB
    by_cases c : k = i + 1 ∨ (i = 0 ∧ k + 1 = o.length)
    · simp [c]
    · have hx : crossI o i k = false := by
        unfold crossI
        rw [show (i : Int) + 1 = ((i + 1 : Nat) : Int) from rfl, show (k : Int) + 1 = ((k + 1 : Nat) : Int) from rfl]
        simp only [ptx_N, ptz_N, hp]
        refine h.apart i k ?_ ?_ ?_
        · rw [Nat.mod_eq_of_lt (by omega), Nat.mod_eq_of_lt (by omega)]; omega
        · rw [Nat.mod_eq_of_lt (a := i + 1) (by omega), Nat.mod_eq_of_lt (by omega)]; omega
        · rw [← hl] at *
          rcases Nat.lt_or_ge (k + 1) o.length with c' | c'
          · rw [Nat.mod_eq_of_lt c', Nat.mod_eq_of_lt (by omega)]; omega
          · rw [show k + 1 = o.length by omega, Nat.mod_self, Nat.mod_eq_of_lt (by omega)]; omega
      rw [hx]
      simp
theorem RingP.cyc {ps : List (Int × Int)} (h : RingP ps) : Cyc ps.length (ptN ps) := by
  have h3 := h.1
  have hm : ∀ k, k % ps.length < ps.length := fun k => Nat.mod_lt _ (by omega)
  have hp : ∀ k, ptN ps k = ptN ps (k % ps.length) := fun k => by unfold ptN; rw [Nat.mod_mod]
  have hp1 : ∀ k j, ptN ps (k + j) = ptN ps (k % ps.length + j) := fun k j => by unfold ptN; rw [Nat.mod_add_mod]
  refine ⟨h3, h.2.1, ptN_round ps, fun k => ?_, fun k => ?_, fun i j e => ?_, fun i j n1 n2 n3 => ?_⟩
  · have := bd_at h.2.2.1 (k : Int)
    rwa [ptx_N, ptz_N] at this
  · have := h.2.2.2.1 (k % ps.length) (hm k)
    unfold turnI at this
    rw [show ((k % ps.length : Nat) : Int) + 1 = ((k % ps.length + 1 : Nat) : Int) from rfl, show ((k % ps.length : Nat) : Int) + 2 = ((k % ps.length + 2 : Nat) : Int) from rfl] at this
    simp only [ptx_N, ptz_N] at this
    rwa [hp k, hp1 k 1, hp1 k 2]
  · refine h.diff _ _ (hm i) (hm j) ?_
    exact e
  · rw [hp i, hp1 i 1, hp j, hp1 j 1]
    have hi := hm i
    have hj := hm j
    rw [← Nat.mod_add_mod, succ_mod hi] at n2
    rw [← Nat.mod_add_mod, succ_mod hj] at n3
    generalize i % ps.length = a at *
    generalize j % ps.length = b at *
    have key : ∀ x y : Nat, x < y → y < ps.length → ¬ (y = x + 1 ∨ (x = 0 ∧ y + 1 = ps.length)) → crossW (ptN ps x).1 (ptN ps x).2 (ptN ps (x + 1)).1 (ptN ps (x + 1)).2 (ptN ps y).1 (ptN ps y).2 (ptN ps (y + 1)).1 (ptN ps (y + 1)).2 = false := fun x y hxy hy hne => by
      have := h.2.2.2.2.2 x y hxy hy
      unfold apB at this
      rw [decide_eq_false hne, Bool.false_or, Bool.not_eq_true'] at this
      unfold crossI at this
      rw [show (x : Int) + 1 = ((x + 1 : Nat) : Int) from rfl, show (y : Int) + 1 = ((y + 1 : Nat) : Int) from rfl] at this
      simpa only [ptx_N, ptz_N] using this
    rcases Nat.lt_or_ge a b with c | c
    · exact key a b c hj (by split at n2 <;> split at n3 <;> omega)
    · rw [cross_comm]
      exact key b a (by omega) hi (by split at n2 <;> split at n3 <;> omega)
theorem RingP.rev {ps : List (Int × Int)} (h : RingP ps) : RingP ps.reverse := by
  have h3 := h.1
  refine (h.cyc.flip.shift 1).ring (List.length_reverse ..) fun k hk => ?_
  have : ps.reverse.getD k (0, 0) = atP ps (ps.length - 1 - k) := rev_at hk
  rw [this, h.cyc.back (k := k + 1) (q := k + 1) rfl (by omega), show 2 * ps.length - (k + 1) = ps.length - 1 - k + ps.length by omega, ptN_round, ptN_lt (by omega)]
  rfl
theorem RingP.norm {ps : List (Int × Int)} (h : RingP ps) : RingP (normS ps) := by
  have h0 : 0 < ps.length := by have := h.1; omega
  have hm := minTo_lt h0 (Nat.le_refl ps.length)
  have hg : ∀ k, k < ps.length → (normS ps).getD k (0, 0) = nsAt ps (minTo ps ps.length) k := fun k hk => map_range_getD _ hk
  by_cases c : 0 < areaZ ps
  · refine (h.cyc.shift (minTo ps ps.length)).ring (normS_len ps) fun k hk => ?_
    rw [hg k hk, nsAt, if_pos c, show ((minTo ps ps.length : Int) + (k : Int)) = ((k + minTo ps ps.length : Nat) : Int) by omega, ptxz_nat]; rfl
  · refine (h.cyc.flip.shift (ps.length - minTo ps ps.length)).ring (normS_len ps) fun k hk => ?_
    rw [h.cyc.back (k := k + (ps.length - minTo ps ps.length)) rfl (by omega), hg k hk, nsAt, if_neg c, show ((minTo ps ps.length : Int) + (ps.length : Int) - (k : Int)) = ((minTo ps ps.length + ps.length - k : Nat) : Int) by omega, ptxz_nat,
      show 2 * ps.length - (k + (ps.length - minTo ps ps.length)) = minTo ps ps.length + ps.length - k by omega]; rfl
theorem area_rev {ps : List (Int × Int)} (h0 : 0 < ps.length) : areaZ ps.reverse = - areaZ ps := by
  rw [area_back (P := ptN ps) (t := ps.length - 1) h0 (List.length_reverse ..) (ptN_round ps) fun k hk => ?_, ← area_self h0]
  rw [List.length_reverse] at hk
  have : ps.reverse.getD k (0, 0) = atP ps (ps.length - 1 - k) := rev_at hk
  rw [this, show ps.length - 1 + ps.length - k = ps.length - 1 - k + ps.length by omega, ptN_round, ptN_lt (by omega)]
  rfl
/-- the other way round, a ring has the same normal ring -/
theorem norm_rev {ps : List (Int × Int)} (h : RingP ps) : normS ps.reverse = normS ps := by
  have h0 : 0 < ps.length := by have := h.1; omega
  rw [← norm_same h, ← norm_same h.rev]
  have ho : outI ps.reverse = outI ps := by
    have ha := h.area
    unfold outI
    rw [area_rev h0, List.reverse_reverse]
    split <;> split <;> first | rfl | omega
  unfold normI
  rw [ho, List.length_reverse]
end Go.Proofs.Yteppjdoggjcdoaa
