/- Plain geometry: the sign of the area of a closed way that does not meet itself. No program in sight. -/
import Derived.Test.YtdbheipjbjcikaaGreatDoorGC
namespace Go.Proofs.YtdbheipjbjcikaaGreatDoor

/-- the area under an edge, in slices -/
theorem slices (a c B : Int) (β δ : Nat) (hbd : β < δ) (f : Nat → Int) (hf : ∀ k : Nat, f k = if B + 2 * (β : Int) < B + 2 * (k : Int) + 1 ∧ B + 2 * (k : Int) + 1 < B + 2 * (δ : Int) then Seg.nm ⟨a, B + 2 * (β : Int), c, B + 2 * (δ : Int)⟩ (B + 2 * (k : Int) + 1) else 0) (K : Nat) :
    tot f K = a * (2 * ((δ : Int) - β)) * (max 0 (min (K : Int) δ - β)) + (c - a) * (max 0 (min (K : Int) δ - β) * max 0 (min (K : Int) δ - β)) := by
  induction K with
  | zero => simp [tot, show max 0 (min (0 : Int) δ - β) = 0 by omega]
  | succ K ih =>
    rw [tot, ih, hf K]
    by_cases h1 : K < β
    · rw [if_neg (by omega), show max 0 (min (K : Int) δ - β) = 0 by omega, show max 0 (min ((K + 1 : Nat) : Int) δ - β) = 0 by omega]; simp
    · by_cases h2 : K < δ
      · rw [if_pos (by omega), show max 0 (min (K : Int) δ - β) = (K : Int) - β by omega, show max 0 (min ((K + 1 : Nat) : Int) δ - β) = (K : Int) - β + 1 by omega]
        unfold Seg.nm Seg.ad
        simp only
        generalize (K : Int) = k
        generalize (β : Int) = b
        generalize (δ : Int) = d
        grind
      · rw [if_neg (by omega), show max 0 (min (K : Int) δ - β) = (δ : Int) - β by omega, show max 0 (min ((K + 1 : Nat) : Int) δ - β) = (δ : Int) - β by omega]; simp
theorem slices_all (s : Seg) (B : Int) (M : Nat) (h : s.b < s.d) (hB : B ≤ s.b) (hM : s.d ≤ B + 2 * (M : Int)) (e0 : B % 2 = 0) (e1 : s.b % 2 = 0) (e2 : s.d % 2 = 0) :
    4 * tot (fun k => if s.b < B + 2 * (k : Int) + 1 ∧ B + 2 * (k : Int) + 1 < s.d then s.nm (B + 2 * (k : Int) + 1) else 0) M = s.ad * (s.ad * (s.a + s.c)) := by
  obtain ⟨a, b, c, d⟩ := s
  simp only at h hB hM e1 e2 ⊢
  obtain ⟨β, hβ⟩ : ∃ β : Nat, b = B + 2 * (β : Int) := ⟨((b - B) / 2).toNat, by omega⟩
  obtain ⟨δ, hδ⟩ : ∃ δ : Nat, d = B + 2 * (δ : Int) := ⟨((d - B) / 2).toNat, by omega⟩
  subst hβ hδ
  rw [slices a c B β δ (by omega) _ (fun k => rfl) M, show max 0 (min (M : Int) δ - β) = (δ : Int) - β by omega]
  unfold Seg.ad
  simp only
  grind

/-- a common multiple -/
def prodTo (f : Nat → Int) : Nat → Int
  | 0 => 1
  | n + 1 => prodTo f n * f n
theorem prodTo_pos {f : Nat → Int} : ∀ {n : Nat}, (∀ i, i < n → 0 < f i) → 0 < prodTo f n
  | 0, _ => by simp [prodTo]
  | n + 1, h => by
    unfold prodTo
    exact Int.mul_pos (prodTo_pos fun i hi => h i (Nat.lt_succ_of_lt hi)) (h n (Nat.lt_succ_self n))
theorem prodTo_mul {f : Nat → Int} {j : Nat} : ∀ {n : Nat}, j < n → ∃ q, q * f j = prodTo f n
  | 0, h => absurd h (Nat.not_lt_zero _)
  | n + 1, h => by
    unfold prodTo
    by_cases e : j = n
    · subst e; exact ⟨_, rfl⟩
    · obtain ⟨q, hq⟩ := prodTo_mul (f := f) (n := n) (j := j) (by omega)
      exact ⟨q * f n, by rw [← hq]; grind⟩

/-- edge i reaches over height T -/
def spn (x h : Nat → Int) (T : Int) (i : Nat) : Bool := decide ((sg x h i).b < T ∧ T < (sg x h i).d)
theorem spn_eq {x h : Nat → Int} {T : Int} {i : Nat} (h1 : h i ≠ T) (h2 : h (i + 1) ≠ T) : spn x h T i = xor (decide (h i < T)) (decide (h (i + 1) < T)) := by
  have := sg_ends x h i
  unfold spn
  by_cases c1 : h i < T <;> by_cases c2 : h (i + 1) < T
  all_goals simp only [c1, c2, decide_true, decide_false, Bool.xor_true, Bool.xor_false, Bool.not_true, Bool.not_false]
  · rw [decide_eq_false_iff_not]; omega
  · rw [decide_eq_true_eq]; omega
  · rw [decide_eq_true_eq]; omega
  · rw [decide_eq_false_iff_not]; omega
section
variable {n : Nat} {x h : Nat → Int}
/-- an even number of edges reaches over a height -/
theorem spn_even (hc : h n = h 0) {T : Int} (g : Free n h T) : xs (spn x h T) n = false := by
  rw [xs_congr (Q := fun i => xor (decide (h i < T)) (decide (h (i + 1) < T))) (fun i hi => spn_eq (g i (by omega)) (g (i + 1) (by omega)))]
  exact xs_round (P := fun i => decide (h i < T)) (by rw [hc])
/-- twice the area -/
def areaP (n : Nat) (x h : Nat → Int) : Int := tot (fun j => x j * h (j + 1) - x (j + 1) * h j) n
theorem area_slices (hx : x n = x 0) (hh : h n = h 0) : tot (fun j => (h (j + 1) - h j) * (x j + x (j + 1))) n = areaP n x h := by
  unfold areaP
  rw [tot_congr (g := fun j => (x j * h (j + 1) - x (j + 1) * h j) + (x (j + 1) * h (j + 1) - x j * h j)) (fun j _ => by grind), tot_add, tot_step (fun j => x j * h j) n, hx, hh]
  omega
/-- at one height -/
theorem Poly.slice (P : Poly n x h) {D : Int} (hD : 0 < D) {q : Nat → Int} (hq : ∀ j, j < n → q j * (sg x h j).ad = D) {T : Int} (g : Free n h T) :
    0 ≤ tot (fun j => if spn x h T j = true then (if Lp n x h (sg x h j) T = true then q j * (sg x h j).nm T else -(q j * (sg x h j).nm T)) else 0) n ∧
    ((∃ j, j < n ∧ spn x h T j = true) → 0 < tot (fun j => if spn x h T j = true then (if Lp n x h (sg x h j) T = true then q j * (sg x h j).nm T else -(q j * (sg x h j).nm T)) else 0) n) := by
  obtain ⟨X, hX⟩ : ∃ X : Nat → Int, X = fun j => q j * (sg x h j).nm T := ⟨_, rfl⟩
  have hXj : ∀ j, q j * (sg x h j).nm T = X j := fun j => by rw [hX]
  have had : ∀ j, j < n → 0 < (sg x h j).ad := fun j hj => by have := sg_lt (x := x) (P.ne hj); unfold Seg.ad; omega
  have cmp : ∀ i j, i < n → j < n → (X i < X j ↔ 0 < dl (sg x h j) (sg x h i) T) ∧ (X i = X j ↔ dl (sg x h j) (sg x h i) T = 0) := fun i j hi hj => by
    have pi := had i hi
    have pj := had j hj
    have e : (sg x h i).ad * ((sg x h j).ad * (X j - X i)) = D * dl (sg x h j) (sg x h i) T := by
      rw [← hXj, ← hXj]
      unfold dl
      have h1 := hq i hi
      have h2 := hq j hj
      grind
    have m1 := pos_mul (y := (sg x h j).ad * (X j - X i)) pi
    have m2 := pos_mul (y := X j - X i) pj
    have m3 := pos_mul (y := dl (sg x h j) (sg x h i) T) hD
    rw [e] at m1
    omega
  simp only [hXj]
  obtain ⟨l, hl⟩ : ∃ l : List Int, l = ((List.range n).filter (spn x h T)).map X := ⟨_, rfl⟩
  have hcount : ∀ j, j < n → (l.countP (fun y => decide (y < X j)) % 2 = 1 ↔ Lp n x h (sg x h j) T = true) := fun j hj => by
    unfold Lp
    rw [xs_count, decide_eq_true_eq, hl, List.countP_map, List.countP_filter]
    rw [List.countP_congr (q := fun i => spL x h (sg x h j) T i) (fun i hi => ?_)]
    have := cmp i j (List.mem_range.1 hi) hj
    unfold spn spL
    simp [this.1, and_assoc, and_comm, and_left_comm]
  have halt : altL l = tot (fun j => if spn x h T j = true then (if Lp n x h (sg x h j) T = true then X j else -X j) else 0) n := by
    unfold altL
    rw [show l.map (fun x => if l.countP (fun y => decide (y < x)) % 2 = 1 then x else -x) = ((List.range n).filter (spn x h T)).map (fun j => if l.countP (fun y => decide (y < X j)) % 2 = 1 then X j else -X j) by
      conv => lhs; arg 2; rw [hl]
      rw [List.map_map]; rfl]
    rw [tot_filter]
    refine tot_congr fun j hj => ?_
    by_cases hs : spn x h T j = true
    · rw [if_pos hs, if_pos hs]
      by_cases hp : Lp n x h (sg x h j) T = true
      · rw [if_pos ((hcount j hj).2 hp), if_pos hp]
      · rw [if_neg (fun c => hp ((hcount j hj).1 c)), if_neg hp]
    · rw [if_neg hs, if_neg hs]
  have hnd : l.Pairwise (· ≠ ·) := by
    rw [hl, List.pairwise_map]
    refine (List.Pairwise.filter _ (List.nodup_range (n := n))).imp_of_mem fun {i j} hi hj hne => ?_
    rw [List.mem_filter, List.mem_range] at hi hj
    intro e
    have z := (cmp i j hi.1 hj.1).2.1 e
    have s1 := hi.2
    have s2 := hj.2
    unfold spn at s1 s2
    rw [decide_eq_true_eq] at s1 s2
    exact (P.meet j i hj.1 hi.1 (Ne.symm hne) T T s2.1 s2.2 (by omega) (by omega) s2.1 s2.2 (by omega) (by omega)).1 z
  have hev : l.length % 2 = 0 := by
    have := spn_even (x := x) P.ph g
    rw [xs_count, decide_eq_false_iff_not, List.countP_eq_length_filter] at this
    rw [hl, List.length_map]
    omega
  have key := altL_pos hnd hev
  rw [halt] at key
  refine ⟨key.1, fun ⟨j, hj, hs⟩ => key.2 ?_⟩
  rw [hl]
  exact List.ne_nil_of_mem (List.mem_map.2 ⟨j, List.mem_filter.2 ⟨List.mem_range.2 hj, hs⟩, rfl⟩)
theorem tot_neg (f : Nat → Int) (n : Nat) : tot (fun i => -f i) n = -tot f n := by
  have := tot_mul (-1) f n
  rw [tot_congr (g := fun i => -1 * f i) (fun i _ => by omega), this]
  omega
/-- some even number that is not greater than any height, and how far it is to the greatest -/
theorem heights (h : Nat → Int) : ∀ n : Nat, ∃ (B : Int) (M : Nat), B % 2 = 0 ∧ ∀ i, i ≤ n → B ≤ h i ∧ h i ≤ B + 2 * (M : Int)
  | 0 => ⟨h 0 - h 0 % 2, 1, by omega, fun i hi => by obtain rfl : i = 0 := by omega
                                                     omega⟩
  | n + 1 => by
    obtain ⟨B, M, hB, ha⟩ := heights h n
    refine ⟨min B (h (n + 1) - h (n + 1) % 2), (max (B + 2 * (M : Int)) (h (n + 1) + 1) - min B (h (n + 1) - h (n + 1) % 2)).toNat, by omega, fun i hi => ?_⟩
    by_cases e : i = n + 1
    · subst e; omega
    · have := ha i (by omega)
      omega
/-- the sign of the area tells which side is inside -/
theorem Poly.area (P : Poly n x h) : ∃ c : Bool, (∀ j, j < n → ∀ T, (sg x h j).b < T → T < (sg x h j).d → Free n h T → xor (Lp n x h (sg x h j) T) (upE h j) = c) ∧
    (c = false → 0 < areaP n x h) ∧ (c = true → areaP n x h < 0) := by
  obtain ⟨c, hc⟩ := P.const
  refine ⟨c, hc, ?_⟩
  have hsl : ∀ j, j < n → (sg x h j).b < (sg x h j).d := fun j hj => sg_lt (P.ne hj)
  have had : ∀ j, j < n → 0 < (sg x h j).ad := fun j hj => by have := hsl j hj; unfold Seg.ad; omega
  obtain ⟨D, hDe⟩ : ∃ D, D = prodTo (fun j => (sg x h j).ad) n := ⟨_, rfl⟩
  have hD : 0 < D := hDe ▸ prodTo_pos had
  have hq' : ∀ j, ∃ q : Int, j < n → q * (sg x h j).ad = D := fun j => by
    by_cases hj : j < n
    · obtain ⟨q, hq⟩ := prodTo_mul (f := fun j => (sg x h j).ad) hj
      exact ⟨q, fun _ => hDe ▸ hq⟩
    · exact ⟨0, fun h => absurd h hj⟩
  let q : Nat → Int := fun j => (hq' j).choose
  have hq : ∀ j, j < n → q j * (sg x h j).ad = D := fun j hj => (hq' j).choose_spec hj
  obtain ⟨B, M, hB, hr⟩ := heights h n
  have hends : ∀ j, j < n → B ≤ (sg x h j).b ∧ (sg x h j).d ≤ B + 2 * (M : Int) ∧ (sg x h j).b % 2 = 0 ∧ (sg x h j).d % 2 = 0 := fun j hj => by
    have r1 := hr j (by omega)
    have r2 := hr (j + 1) (by omega)
    have v1 := P.even j
    have v2 := P.even (j + 1)
    have := sg_ends x h j
    omega
  -- the sum over all heights of the signed widths
  obtain ⟨V, hV⟩ : ∃ V : Nat → Int, V = fun k : Nat => tot (fun j => if spn x h (B + 2 * (k : Int) + 1) j = true then (if upE h j = true then q j * (sg x h j).nm (B + 2 * (k : Int) + 1) else -(q j * (sg x h j).nm (B + 2 * (k : Int) + 1))) else 0) n := ⟨_, rfl⟩
  have hsum : 4 * tot V M = D * areaP n x h := by
    rw [hV, tot_swap, ← tot_mul, ← area_slices P.px P.ph, ← tot_mul]
    refine tot_congr fun j hj => ?_
    have hs := slices_all (sg x h j) B M (hsl j hj) (hends j hj).1 (hends j hj).2.1 hB (hends j hj).2.2.1 (hends j hj).2.2.2
    have he := sg_ends x h j
    have hqj := hq j hj
    by_cases u : upE h j = true
    · rw [tot_congr (g := fun k : Nat => q j * (if (sg x h j).b < B + 2 * (k : Int) + 1 ∧ B + 2 * (k : Int) + 1 < (sg x h j).d then (sg x h j).nm (B + 2 * (k : Int) + 1) else 0)) (fun k _ => by
        unfold spn; simp only [decide_eq_true_eq, if_pos u]; split <;> first | rfl | simp), tot_mul]
      have hu : h j < h (j + 1) := by unfold upE at u; simpa using u
      rw [show 4 * (q j * tot (fun k : Nat => if (sg x h j).b < B + 2 * (k : Int) + 1 ∧ B + 2 * (k : Int) + 1 < (sg x h j).d then (sg x h j).nm (B + 2 * (k : Int) + 1) else 0) M) = (q j * (sg x h j).ad) * ((sg x h j).ad * ((sg x h j).a + (sg x h j).c)) by rw [Int.mul_assoc, ← hs]; grind, hqj]
      rw [sg_up hu]
      unfold Seg.ad
      simp only
    · rw [tot_congr (g := fun k : Nat => (-q j) * (if (sg x h j).b < B + 2 * (k : Int) + 1 ∧ B + 2 * (k : Int) + 1 < (sg x h j).d then (sg x h j).nm (B + 2 * (k : Int) + 1) else 0)) (fun k _ => by
        unfold spn; simp only [decide_eq_true_eq, if_neg u]; split; exact (Int.neg_mul ..).symm; exact (Int.mul_zero _).symm), tot_mul]
      have hu : ¬ h j < h (j + 1) := by unfold upE at u; simpa using u
      rw [show 4 * (-q j * tot (fun k : Nat => if (sg x h j).b < B + 2 * (k : Int) + 1 ∧ B + 2 * (k : Int) + 1 < (sg x h j).d then (sg x h j).nm (B + 2 * (k : Int) + 1) else 0) M) = -((q j * (sg x h j).ad) * ((sg x h j).ad * ((sg x h j).a + (sg x h j).c))) by rw [Int.mul_assoc, ← hs]; grind, hqj]
      rw [sg_down hu]
      unfold Seg.ad
      simp only
      grind
  have hfree : ∀ k : Nat, Free n h (B + 2 * (k : Int) + 1) := fun k => P.free_odd (by omega)
  have hrel : ∀ k : Nat, V k = (if c = true then -1 else 1) * tot (fun j => if spn x h (B + 2 * (k : Int) + 1) j = true then (if Lp n x h (sg x h j) (B + 2 * (k : Int) + 1) = true then q j * (sg x h j).nm (B + 2 * (k : Int) + 1) else -(q j * (sg x h j).nm (B + 2 * (k : Int) + 1))) else 0) n := fun k => by
    rw [hV, ← tot_mul]
    refine tot_congr fun j hj => ?_
    by_cases hs : spn x h (B + 2 * (k : Int) + 1) j = true
    · rw [if_pos hs, if_pos hs]
      have hs' := hs
      unfold spn at hs'
      rw [decide_eq_true_eq] at hs'
      have := hc j hj _ hs'.1 hs'.2 (hfree k)
      revert this
      cases c <;> cases upE h j <;> cases Lp n x h (sg x h j) (B + 2 * (k : Int) + 1) <;> simp
    · rw [if_neg hs, if_neg hs]; simp
  -- some height has an edge over it
  have n0 : 0 < n := by have := P.n2; omega
  have h0 := hends 0 n0
  have l0 := hsl 0 n0
  obtain ⟨k0, hk0⟩ : ∃ k0 : Nat, (sg x h 0).b + 1 = B + 2 * (k0 : Int) + 1 := ⟨(((sg x h 0).b - B) / 2).toNat, by omega⟩
  have hk0M : k0 < M := by omega
  have hsp : spn x h (B + 2 * (k0 : Int) + 1) 0 = true := by unfold spn; rw [decide_eq_true_eq]; omega
  have S := fun k : Nat => P.slice hD hq (hfree k)
  constructor
  · rintro rfl
    have : 0 < tot V M := by
      refine tot_pos (k := k0) ?_ hk0M fun k _ => ?_
      · rw [hrel]; have := (S k0).2 ⟨0, n0, hsp⟩; simp; omega
      · rw [hrel]; have := (S k).1; simp; omega
    exact (pos_mul (y := areaP n x h) hD).1.1 (by omega)
  · rintro rfl
    have : 0 < tot (fun k => -V k) M := by
      refine tot_pos (k := k0) ?_ hk0M fun k _ => ?_
      · rw [hrel]; have := (S k0).2 ⟨0, n0, hsp⟩; simp; omega
      · rw [hrel]; have := (S k).1; simp; omega
    rw [tot_neg] at this
    exact (pos_mul (y := areaP n x h) hD).2.1.1 (by omega)
end
end Go.Proofs.YtdbheipjbjcikaaGreatDoor
