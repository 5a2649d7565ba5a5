/- Plain geometry: the area of a closed way that does not meet itself is not 0, and its sign tells which side is inside. No program in sight. -/
import Derived.Test.YtdbheipjbjcikaaGreatDoorGB
namespace Go.Proofs.YtdbheipjbjcikaaGreatDoor

/-! sums -/
def tot (f : Nat → Int) : Nat → Int
  | 0 => 0
  | n + 1 => tot f n + f n
theorem tot_congr {f g : Nat → Int} : ∀ {n : Nat}, (∀ i, i < n → f i = g i) → tot f n = tot g n
  | 0, _ => rfl
  | n + 1, h => by
    unfold tot
    rw [tot_congr fun i hi => h i (Nat.lt_succ_of_lt hi), h n (Nat.lt_succ_self n)]
theorem tot_add (f g : Nat → Int) : ∀ n : Nat, tot (fun i => f i + g i) n = tot f n + tot g n
  | 0 => rfl
  | n + 1 => by unfold tot; rw [tot_add f g n]; omega
theorem tot_mul (c : Int) (f : Nat → Int) : ∀ n : Nat, tot (fun i => c * f i) n = c * tot f n
  | 0 => by simp [tot]
  | n + 1 => by unfold tot; rw [tot_mul c f n, Int.mul_add]
theorem tot_zero : ∀ n : Nat, tot (fun _ => 0) n = 0
  | 0 => rfl
  | n + 1 => by unfold tot; rw [tot_zero n]; rfl
theorem tot_swap (F : Nat → Nat → Int) (n : Nat) : ∀ M : Nat, tot (fun k => tot (fun i => F k i) n) M = tot (fun i => tot (fun k => F k i) M) n
  | 0 => by simp [tot, tot_zero]
  | M + 1 => by
    rw [tot, tot_swap F n M, ← tot_add]; rfl
theorem tot_step (f : Nat → Int) : ∀ n : Nat, tot (fun i => f (i + 1) - f i) n = f n - f 0
  | 0 => by simp [tot]
  | n + 1 => by unfold tot; rw [tot_step f n]; omega
theorem tot_nonneg {f : Nat → Int} : ∀ {n : Nat}, (∀ i, i < n → 0 ≤ f i) → 0 ≤ tot f n
  | 0, _ => Int.le_refl _
  | n + 1, h => by
    unfold tot
    have := tot_nonneg (n := n) fun i hi => h i (Nat.lt_succ_of_lt hi)
    have := h n (Nat.lt_succ_self n)
    omega
theorem tot_pos {f : Nat → Int} {k : Nat} (hk : 0 < f k) : ∀ {n : Nat}, k < n → (∀ i, i < n → 0 ≤ f i) → 0 < tot f n
  | 0, h, _ => absurd h (Nat.not_lt_zero _)
  | n + 1, hl, h => by
    unfold tot
    have h1 := tot_nonneg (n := n) fun i hi => h i (Nat.lt_succ_of_lt hi)
    have h2 := h n (Nat.lt_succ_self n)
    by_cases e : k = n
    · subst e; omega
    · have := tot_pos hk (n := n) (by omega) fun i hi => h i (Nat.lt_succ_of_lt hi)
      omega
theorem tot_filter (p : Nat → Bool) (f : Nat → Int) : ∀ n : Nat, (((List.range n).filter p).map f).sum = tot (fun i => if p i = true then f i else 0) n
  | 0 => rfl
  | n + 1 => by
    rw [List.range_succ, List.filter_append, List.map_append, List.sum_append, tot_filter p f n, tot]
    cases h : p n <;> simp [h]

/-! sums of alternating signs -/
theorem sum_perm {l l' : List Int} (h : l.Perm l') : l.sum = l'.sum := by
  induction h with
  | nil => rfl
  | cons x _ ih => simp [ih]
  | swap x y l => simp; omega
  | trans _ _ ih1 ih2 => exact ih1.trans ih2
/-- each number with the sign of how many are less -/
def altL (l : List Int) : Int := (l.map fun x => if l.countP (fun y => decide (y < x)) % 2 = 1 then x else -x).sum
theorem altL_perm {l l' : List Int} (h : l.Perm l') : altL l = altL l' := by
  unfold altL
  rw [show (fun x => if l.countP (fun y => decide (y < x)) % 2 = 1 then x else -x) = (fun x => if l'.countP (fun y => decide (y < x)) % 2 = 1 then x else -x) from funext fun x => by rw [h.countP_eq]]
  exact sum_perm (h.map _)
def altS : Nat → List Int → Int
  | _, [] => 0
  | k, x :: l => (if k % 2 = 1 then x else -x) + altS (k + 1) l
theorem altL_sorted (suf : List Int) : ∀ pre : List Int, (pre ++ suf).Pairwise (· < ·) → (suf.map fun x => if (pre ++ suf).countP (fun y => decide (y < x)) % 2 = 1 then x else -x).sum = altS pre.length suf := by
  induction suf with
  | nil => intro pre _; rfl
  | cons x suf ih =>
    intro pre hp
    have e : pre ++ x :: suf = (pre ++ [x]) ++ suf := by simp
    have := ih (pre ++ [x]) (by rw [← e]; exact hp)
    rw [← e] at this
    rw [List.map_cons, List.sum_cons, this, List.length_append, List.length_singleton, altS]
    have hc : (pre ++ x :: suf).countP (fun y => decide (y < x)) = pre.length := by
      rw [List.pairwise_append] at hp
      obtain ⟨h1, h2, h3⟩ := hp
      rw [List.pairwise_cons] at h2
      rw [List.countP_append, List.countP_cons, List.countP_eq_length.2 (fun y hy => by simpa using h3 y hy x (by simp)), List.countP_eq_zero.2 (fun y hy => by have := h2.1 y hy; simp; omega)]
      simp
    rw [hc]
theorem altS_pos : ∀ (m k : Nat) (l : List Int), l.length = 2 * m → k % 2 = 0 → l.Pairwise (· < ·) → 0 ≤ altS k l ∧ (l ≠ [] → 0 < altS k l)
  | 0, k, l, hl, _, _ => by
    obtain rfl : l = [] := List.length_eq_zero_iff.1 (by omega)
    simp [altS]
  | m + 1, k, [], hl, _, _ => by simp at hl
  | m + 1, k, [x], hl, _, _ => by simp at hl; omega
  | m + 1, k, x :: y :: l, hl, hk, hp => by
    rw [List.pairwise_cons, List.pairwise_cons] at hp
    have := (altS_pos m (k + 1 + 1) l (by simp at hl; omega) (by omega) hp.2.2).1
    have hxy := hp.1 y (by simp)
    simp only [altS, if_neg (show ¬ k % 2 = 1 by omega), if_pos (show (k + 1) % 2 = 1 by omega)]
    omega
theorem altL_pos {l : List Int} (hn : l.Pairwise (· ≠ ·)) (hl : l.length % 2 = 0) : 0 ≤ altL l ∧ (l ≠ [] → 0 < altL l) := by
  have hp : (l.mergeSort fun a b => decide (a ≤ b)).Perm l := List.mergeSort_perm _ _
  have hs : (l.mergeSort fun a b => decide (a ≤ b)).Pairwise (fun a b => decide (a ≤ b) = true) := List.pairwise_mergeSort (by intro a b c; simp; omega) (by intro a b; simp; omega) _
  have hd : (l.mergeSort fun a b => decide (a ≤ b)).Pairwise (· ≠ ·) := (hp.pairwise_iff (fun h => Ne.symm h)).2 hn
  have ho : (l.mergeSort fun a b => decide (a ≤ b)).Pairwise (· < ·) := (hs.and hd).imp (fun ⟨a, b⟩ => by simp at a; omega)
  rw [← altL_perm hp]
  have e := altL_sorted (l.mergeSort fun a b => decide (a ≤ b)) [] (by simpa using ho)
  rw [List.nil_append] at e
  rw [show altL (l.mergeSort fun a b => decide (a ≤ b)) = altS 0 (l.mergeSort fun a b => decide (a ≤ b)) from e]
  have hq := altS_pos (l.length / 2) 0 (l.mergeSort fun a b => decide (a ≤ b)) (by rw [hp.length_eq]; omega) rfl ho
  refine ⟨hq.1, fun hne => hq.2 fun h0 => hne ?_⟩
  rw [h0] at hp
  exact hp.symm.eq_nil
end Go.Proofs.YtdbheipjbjcikaaGreatDoor
