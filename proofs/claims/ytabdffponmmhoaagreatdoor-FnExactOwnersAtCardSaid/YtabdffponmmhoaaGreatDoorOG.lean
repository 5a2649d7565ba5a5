/- Plain geometry: no point lies inside of two rings of a map. No program in sight. -/
import Derived.Test.YtabdffponmmhoaaGreatDoorGG
namespace Go.Proofs.YtabdffponmmhoaaGreatDoor
open Go.RowKit

section
variable {n m : Nat} {x h y g : Nat → Int}
/-- edge i lies to the left of a point -/
def ptLo (x h : Nat → Int) (X T : Int) (i : Nat) : Bool := decide ((sg x h i).b < T ∧ T < (sg x h i).d ∧ (sg x h i).nm T < X * (sg x h i).ad)
/-- edge i lies to the right of a point -/
def ptRo (x h : Nat → Int) (X T : Int) (i : Nat) : Bool := decide ((sg x h i).b < T ∧ T < (sg x h i).d ∧ X * (sg x h i).ad < (sg x h i).nm T)
theorem mul_le_of {a b c : Int} (hc : 0 < c) (h : a * c ≤ b * c) : a ≤ b := Int.le_of_mul_le_mul_right h hc
theorem dl_trans {s t u : Seg} {T : Int} (hs : 0 < s.ad) (ht : 0 < t.ad) (hu : 0 < u.ad) (h1 : dl s t T ≤ 0) (h2 : dl t u T ≤ 0) : dl s u T ≤ 0 := by
  unfold dl at *
  have a1 : s.nm T * t.ad ≤ t.nm T * s.ad := by omega
  have a2 : t.nm T * u.ad ≤ u.nm T * t.ad := by omega
  have b1 := Int.mul_le_mul_of_nonneg_right a1 (Int.le_of_lt hu)
  have b2 := Int.mul_le_mul_of_nonneg_right a2 (Int.le_of_lt hs)
  have key : (s.nm T * u.ad) * t.ad ≤ (u.nm T * s.ad) * t.ad := by
    have e1 : s.nm T * t.ad * u.ad = (s.nm T * u.ad) * t.ad := by grind
    have e2 : t.nm T * s.ad * u.ad = t.nm T * u.ad * s.ad := by grind
    have e3 : u.nm T * t.ad * s.ad = (u.nm T * s.ad) * t.ad := by grind
    rw [e1, e2] at b1
    rw [e3] at b2
    omega
  have := mul_le_of ht key
  omega
/-- left of an edge that is left of a point -/
theorem pt_trans {s t : Seg} {X T : Int} (hs : 0 < s.ad) (ht : 0 < t.ad) (h1 : dl s t T ≤ 0) (h2 : t.nm T < X * t.ad) : s.nm T < X * s.ad := by
  unfold dl at h1
  have a1 : s.nm T * t.ad ≤ t.nm T * s.ad := by omega
  have a2 := Int.mul_lt_mul_of_pos_right h2 hs
  have key : s.nm T * t.ad < (X * s.ad) * t.ad := by
    have e : X * t.ad * s.ad = X * s.ad * t.ad := by grind
    rw [e] at a2
    omega
  exact Int.lt_of_mul_lt_mul_right key (Int.le_of_lt ht)
theorem dl_self (s : Seg) (T : Int) : dl s s T = 0 := by unfold dl; omega
/-- the rightmost one -/
theorem right_most {T : Int} : ∀ (L : List Seg), L ≠ [] → (∀ s ∈ L, 0 < s.ad) → ∃ e ∈ L, ∀ f ∈ L, dl f e T ≤ 0
  | [], h, _ => absurd rfl h
  | [s], _, _ => ⟨s, List.mem_singleton.2 rfl, fun f hf => by rw [List.mem_singleton.1 hf, dl_self]; omega⟩
  | s :: t :: L, _, hp => by
    obtain ⟨e, he, hm⟩ := right_most (T := T) (t :: L) (by simp) fun u hu => hp u (List.mem_cons_of_mem _ hu)
    rcases Int.lt_or_le 0 (dl s e T) with c | c
    · refine ⟨s, List.mem_cons_self .., fun f hf => ?_⟩
      rcases List.mem_cons.1 hf with rfl | hf
      · rw [dl_self]; omega
      · have h2 : dl e s T ≤ 0 := by rw [dl_swap]; omega
        exact dl_trans (hp f (List.mem_cons_of_mem _ hf)) (hp e (List.mem_cons_of_mem _ he)) (hp s (List.mem_cons_self ..)) (hm f hf) h2
    · refine ⟨e, List.mem_cons_of_mem _ he, fun f hf => ?_⟩
      rcases List.mem_cons.1 hf with rfl | hf
      · exact c
      · exact hm f hf
theorem ptL_iff {X T : Int} {i : Nat} : ptLo x h X T i = true ↔ (sg x h i).b < T ∧ T < (sg x h i).d ∧ (sg x h i).nm T < X * (sg x h i).ad := by unfold ptLo; exact decide_eq_true_iff
theorem xs_some {P : Nat → Bool} : ∀ {n : Nat}, xs P n = true → ∃ i, i < n ∧ P i = true
  | 0, h => by cases h
  | n + 1, h => by
    unfold xs at h
    cases hp : P n with
    | true => exact ⟨n, Nat.lt_succ_self n, hp⟩
    | false =>
      rw [hp] at h
      obtain ⟨i, hi, e⟩ := xs_some (P := P) (n := n) (by simpa using h)
      exact ⟨i, Nat.lt_succ_of_lt hi, e⟩
/-- an edge that a point's left edges do not lie to the right of: what lies to its left is what lies to the point's left -/
theorem left_same {e : Seg} {X T : Int} (he : 0 < e.ad) (h1 : e.b < T) (h2 : T < e.d) (hX : e.nm T < X * e.ad) {i : Nat} (hn : h i ≠ h (i + 1)) (hm : NoMeet e (sg x h i)) (hmax : ptLo x h X T i = true → dl (sg x h i) e T ≤ 0) : ptLo x h X T i = spL x h e T i := by
  have hf := sg_lt (x := x) hn
  have hfa : 0 < (sg x h i).ad := by unfold Seg.ad; omega
  rw [Bool.eq_iff_iff, ptL_iff]
  unfold spL
  rw [decide_eq_true_iff]
  constructor
  · intro hp
    have hd := hmax (ptL_iff.2 hp)
    have hne := (hm T T h1 h2 (by omega) (by omega) h1 h2 (by omega) (by omega)).1
    rw [dl_swap] at hd
    exact ⟨hp.1, hp.2.1, by omega⟩
  · rintro ⟨a, b, c⟩
    exact ⟨a, b, pt_trans hfa he (by rw [dl_swap]; omega) hX⟩
/-- the core, for an edge of the first way that lies just left of the point -/
theorem core_left (PA : Poly n x h) (PB : Poly m y g) {W V : Nat → Bool}
    (hR : ∀ j k, j < n → k < m → (NoMeet (sg x h j) (sg y g k) ∧ NoMeet (sg y g k) (sg x h j)) ∨ (sg x h j = sg y g k ∧ W j = !V k))
    (hA : ∀ j, j < n → ∀ T, (sg x h j).b < T → T < (sg x h j).d → Free n h T → Lp n x h (sg x h j) T = W j)
    (hB : ∀ k, k < m → ∀ T, (sg y g k).b < T → T < (sg y g k).d → Free m g T → Lp m y g (sg y g k) T = V k)
    (hM : ∀ j, j < n → (∀ k, k < m → sg x h j ≠ sg y g k) → ∃ T, (sg x h j).b < T ∧ T < (sg x h j).d ∧ Free m g T ∧ Lp m y g (sg x h j) T = false)
    {X T : Int} (fA : Free n h T) (fB : Free m g T) {j : Nat} (hj : j < n) (hp : ptLo x h X T j = true)
    (mA : ∀ i, i < n → ptLo x h X T i = true → dl (sg x h i) (sg x h j) T ≤ 0) (mB : ∀ k, k < m → ptLo y g X T k = true → dl (sg y g k) (sg x h j) T ≤ 0) :
    ¬ (xs (ptLo x h X T) n = true ∧ xs (ptLo y g X T) m = true) := by
  rintro ⟨oA, oB⟩
  obtain ⟨b1, b2, b3⟩ := ptL_iff.1 hp
  have he : 0 < (sg x h j).ad := by unfold Seg.ad; omega
  have eA : xs (ptLo x h X T) n = !Lp n x h (sg x h j) T := by
    rw [xs_one (P := ptLo x h X T) (Q := spL x h (sg x h j) T) (k := j) (spL_self x h T j) (fun i hi hij => left_same he b1 b2 b3 (PA.ne hi) (PA.meet j i hj hi (Ne.symm hij)) (mA i hi))]
    unfold Lp
    simp [hj, hp]
  by_cases htw : ∃ k, k < m ∧ sg x h j = sg y g k
  · obtain ⟨k, hk, e⟩ := htw
    have hWV : W j = !V k := by
      rcases hR j k hj hk with c | c
      · rw [e] at c
        have hs := sg_lt (x := y) (PB.ne hk)
        rw [e] at b1 b2
        have := (c.1 T T b1 b2 (by omega) (by omega) b1 b2 (by omega) (by omega)).1
        rw [dl_self] at this
        exact absurd rfl this
      · exact c.2
    have eB : xs (ptLo y g X T) m = !Lp m y g (sg y g k) T := by
      rw [e] at he b1 b2 b3 mB
      have hpk : ptLo y g X T k = true := ptL_iff.2 ⟨b1, b2, b3⟩
      rw [xs_one (P := ptLo y g X T) (Q := spL y g (sg y g k) T) (k := k) (spL_self y g T k) (fun i hi hik => left_same he b1 b2 b3 (PB.ne hi) (PB.meet k i hk hi (Ne.symm hik)) (mB i hi))]
      unfold Lp
      simp [hk, hpk]
    rw [hA j hj T b1 b2 fA] at eA
    rw [e] at b1 b2
    rw [hB k hk T b1 b2 fB] at eB
    rw [eA] at oA
    rw [eB] at oB
    rw [hWV] at oA
    revert oA oB
    cases V k <;> simp
  · have hno : ∀ k, k < m → sg x h j ≠ sg y g k := fun k hk e => htw ⟨k, hk, e⟩
    have hnm : ∀ k, k < m → NoMeet (sg x h j) (sg y g k) := fun k hk => by
      rcases hR j k hj hk with c | c
      · exact c.1
      · exact absurd c.1 (hno k hk)
    have eB : xs (ptLo y g X T) m = Lp m y g (sg x h j) T := by
      unfold Lp
      exact xs_congr fun i hi => left_same he b1 b2 b3 (PB.ne hi) (hnm i hi) (mB i hi)
    obtain ⟨S, s1, s2, s3, s4⟩ := hM j hj hno
    have hb : Lp m y g (sg x h j) T = Lp m y g (sg x h j) S := by
      rcases Int.lt_trichotomy T S with c | c | c
      · exact Lp_band ⟨PB.ph, PB.px⟩ (fun i hi => PB.ne hi) (fun i hi => .inl (hnm i hi)) b1 c s2 fB s3
      · rw [c]
      · exact (Lp_band ⟨PB.ph, PB.px⟩ (fun i hi => PB.ne hi) (fun i hi => .inl (hnm i hi)) s1 c b2 s3 fB).symm
    rw [eB, hb, s4] at oB
    cases oB
/-- the core -/
theorem core_none (PA : Poly n x h) (PB : Poly m y g) {W V : Nat → Bool}
    (hR : ∀ j k, j < n → k < m → (NoMeet (sg x h j) (sg y g k) ∧ NoMeet (sg y g k) (sg x h j)) ∨ (sg x h j = sg y g k ∧ W j = !V k))
    (hA : ∀ j, j < n → ∀ T, (sg x h j).b < T → T < (sg x h j).d → Free n h T → Lp n x h (sg x h j) T = W j)
    (hB : ∀ k, k < m → ∀ T, (sg y g k).b < T → T < (sg y g k).d → Free m g T → Lp m y g (sg y g k) T = V k)
    (hM : ∀ j, j < n → (∀ k, k < m → sg x h j ≠ sg y g k) → ∃ T, (sg x h j).b < T ∧ T < (sg x h j).d ∧ Free m g T ∧ Lp m y g (sg x h j) T = false)
    (hM' : ∀ k, k < m → (∀ j, j < n → sg y g k ≠ sg x h j) → ∃ T, (sg y g k).b < T ∧ T < (sg y g k).d ∧ Free n h T ∧ Lp n x h (sg y g k) T = false)
    {X T : Int} (fA : Free n h T) (fB : Free m g T) : ¬ (xs (ptLo x h X T) n = true ∧ xs (ptLo y g X T) m = true) := by
  intro ho
  obtain ⟨i0, hi0, e0⟩ := xs_some ho.1
  have posA : ∀ i, i < n → 0 < (sg x h i).ad := fun i hi => by have := sg_lt (x := x) (PA.ne hi); unfold Seg.ad; omega
  have posB : ∀ i, i < m → 0 < (sg y g i).ad := fun i hi => by have := sg_lt (x := y) (PB.ne hi); unfold Seg.ad; omega
  obtain ⟨e, he, hmax⟩ := right_most (T := T) (((List.range n).filter (ptLo x h X T)).map (sg x h) ++ ((List.range m).filter (ptLo y g X T)).map (sg y g))
    (fun c => by
      have : sg x h i0 ∈ ((List.range n).filter (ptLo x h X T)).map (sg x h) ++ ((List.range m).filter (ptLo y g X T)).map (sg y g) :=
        List.mem_append_left _ (List.mem_map.2 ⟨i0, List.mem_filter.2 ⟨List.mem_range.2 hi0, e0⟩, rfl⟩)
      rw [c] at this
      cases this)
    (fun s hs => by
      rcases List.mem_append.1 hs with c | c
      · obtain ⟨i, hi, rfl⟩ := List.mem_map.1 c
        exact posA i (List.mem_range.1 (List.mem_filter.1 hi).1)
      · obtain ⟨i, hi, rfl⟩ := List.mem_map.1 c
        exact posB i (List.mem_range.1 (List.mem_filter.1 hi).1))
  have mA : ∀ i, i < n → ptLo x h X T i = true → dl (sg x h i) e T ≤ 0 := fun i hi hp => hmax _ (List.mem_append_left _ (List.mem_map.2 ⟨i, List.mem_filter.2 ⟨List.mem_range.2 hi, hp⟩, rfl⟩))
  have mB : ∀ i, i < m → ptLo y g X T i = true → dl (sg y g i) e T ≤ 0 := fun i hi hp => hmax _ (List.mem_append_right _ (List.mem_map.2 ⟨i, List.mem_filter.2 ⟨List.mem_range.2 hi, hp⟩, rfl⟩))
  rcases List.mem_append.1 he with c | c
  · obtain ⟨j, hj, rfl⟩ := List.mem_map.1 c
    obtain ⟨h1, h2⟩ := List.mem_filter.1 hj
    exact core_left PA PB hR hA hB hM fA fB (List.mem_range.1 h1) h2 mA mB ho
  · obtain ⟨j, hj, rfl⟩ := List.mem_map.1 c
    obtain ⟨h1, h2⟩ := List.mem_filter.1 hj
    refine core_left PB PA (W := V) (V := W) (fun k j hk hj => ?_) hB hA hM' fB fA (List.mem_range.1 h1) h2 mB mA ⟨ho.2, ho.1⟩
    rcases hR j k hj hk with c | c
    · exact .inl ⟨c.2, c.1⟩
    · exact .inr ⟨c.1.symm, by rw [c.2]; simp⟩
end

/-! a point's side, told by the edges to its left -/
theorem hgt_inj2 {ax az bx bz : Int} (h1 : -2000 ≤ ax ∧ ax ≤ 2000) (_h2 : -2000 ≤ az ∧ az ≤ 2000) (h3 : -2000 ≤ bx ∧ bx ≤ 2000) (_h4 : -2000 ≤ bz ∧ bz ≤ 2000) (e : hgt ax az = hgt bx bz) : ax = bx ∧ az = bz := by
  unfold hgt at e
  omega
theorem Seg.tz_nm (s : Seg) (x h : Int) : s.nm h = s.tz x h + x * s.ad := by rw [Seg.tz_eq]; omega
theorem sg_mk' (ps : List (Int × Int)) (i : Nat) : sg (rx ps) (rh ps) i = mkSeg (ptx ps i) (ptz ps i) (ptx ps ((i : Int) + 1)) (ptz ps ((i : Int) + 1)) := rfl
theorem in_box {A B Z U : Int} (h : 0 < B) (e : A * B = Z * U) (hz : 0 ≤ Z) (hu : 0 ≤ U) : 0 ≤ A := by
  have h1 := Int.mul_nonneg hz hu
  rw [← e] at h1
  rcases Int.lt_or_le A 0 with c | c
  · have := Int.mul_neg_of_neg_of_pos c h
    omega
  · exact c
/-- a point on an edge, told by heights -/
theorem on_hgt {ax az bx bz x z : Int} (h1 : -2000 ≤ ax ∧ ax ≤ 2000) (h2 : -2000 ≤ az ∧ az ≤ 2000) (h3 : -2000 ≤ bx ∧ bx ≤ 2000) (h4 : -2000 ≤ bz ∧ bz ≤ 2000) (h5 : -2000 ≤ x ∧ x ≤ 2000) (h6 : -2000 ≤ z ∧ z ≤ 2000)
    (_hne : hgt ax az ≠ hgt bx bz) (h : onW ax az bx bz x z = true) : (mkSeg ax az bx bz).on x (hgt x z) := by
  simp only [onW, inB, Bool.and_eq_true, beq_iff_eq, decide_eq_true_eq] at h
  obtain ⟨⟨h0, hx⟩, hz⟩ := h
  rw [turnW_eq2 h1 h2 h3 h4 h5 h6] at h0
  have ht := tz_mk ax az bx bz x z
  have h0' : turnZ ax az bx bz x z = 0 := h0
  rw [h0'] at ht
  have he := mk_ends ax az bx bz
  have key : (hgt ax az ≤ hgt x z ∧ hgt x z ≤ hgt bx bz) ∨ (hgt bx bz ≤ hgt x z ∧ hgt x z ≤ hgt ax az) := by
    unfold hgt
    rcases Int.lt_trichotomy az bz with c | c | c
    · have a1 := in_box (A := 5000 * (z - az) - (x - ax)) (B := bz - az) (Z := z - az) (U := 5000 * (bz - az) - (bx - ax)) (by omega) (by grind) (by omega) (by omega)
      have a2 := in_box (A := 5000 * (bz - z) - (bx - x)) (B := bz - az) (Z := bz - z) (U := 5000 * (bz - az) - (bx - ax)) (by omega) (by grind) (by omega) (by omega)
      omega
    · omega
    · have a1 := in_box (A := 5000 * (z - bz) - (x - bx)) (B := az - bz) (Z := z - bz) (U := 5000 * (az - bz) - (ax - bx)) (by omega) (by grind) (by omega) (by omega)
      have a2 := in_box (A := 5000 * (az - z) - (ax - x)) (B := az - bz) (Z := az - z) (U := 5000 * (az - bz) - (ax - bx)) (by omega) (by grind) (by omega) (by omega)
      omega
  refine ⟨by omega, ?_, ?_⟩ <;> omega
/-- straight with an edge and at a height between its ends' heights: on it -/
theorem hgt_on {ax az bx bz x z : Int} (h1 : -2000 ≤ ax ∧ ax ≤ 2000) (h2 : -2000 ≤ az ∧ az ≤ 2000) (h3 : -2000 ≤ bx ∧ bx ≤ 2000) (h4 : -2000 ≤ bz ∧ bz ≤ 2000) (h5 : -2000 ≤ x ∧ x ≤ 2000) (h6 : -2000 ≤ z ∧ z ≤ 2000)
    (hne : hgt ax az ≠ hgt bx bz) (h : (mkSeg ax az bx bz).on x (hgt x z)) : onW ax az bx bz x z = true := by
  obtain ⟨h0, ha, hb⟩ := h
  have ht := tz_mk ax az bx bz x z
  have t0 : turnW ax az bx bz x z = 0 := by
    have e : turnW ax az bx bz x z = turnZ ax az bx bz x z := turnW_eq2 h1 h2 h3 h4 h5 h6
    rw [e]; omega
  have key : (min ax bx ≤ x ∧ x ≤ max ax bx) ∧ (min az bz ≤ z ∧ z ≤ max az bz) := by
    by_cases u : hgt ax az < hgt bx bz
    · rw [mkSeg_up u] at h0 ha hb
      unfold Seg.tz at h0
      simp only at h0 ha hb
      refine ⟨betw' (D := hgt bx bz - hgt ax az) (t := hgt x z - hgt ax az) (by omega) (by omega) (by omega) (by grind), betw' (D := hgt bx bz - hgt ax az) (t := hgt x z - hgt ax az) (by omega) (by omega) (by omega) ?_⟩
      unfold hgt at h0 ⊢
      grind
    · rw [mkSeg_down u] at h0 ha hb
      unfold Seg.tz at h0
      simp only at h0 ha hb
      rw [Int.min_comm ax, Int.max_comm ax, Int.min_comm az, Int.max_comm az]
      refine ⟨betw' (D := hgt ax az - hgt bx bz) (t := hgt x z - hgt bx bz) (by omega) (by omega) (by omega) (by grind), betw' (D := hgt ax az - hgt bx bz) (t := hgt x z - hgt bx bz) (by omega) (by omega) (by omega) ?_⟩
      unfold hgt at h0 ⊢
      grind
  simp only [onW, inB, t0]
  simp
  omega
theorem sgn_prod {a b : Int} (h : 0 < a * b) (ha : 0 < a) : 0 < b := (pos_mul ha).1.1 h
/-- whether an edge crosses the ray to the east, told by heights -/
theorem flip_right {qs : List (Int × Int)} (hb : Bd2 qs) {x z : Int} (hx : -2000 ≤ x ∧ x ≤ 2000) (hz : -2000 ≤ z ∧ z ≤ 2000) {k : Nat} (off : onE qs x z k = false) : flipE qs x z k = ptRo (rx qs) (rh qs) x (hgt x z) k := by
  obtain ⟨h1, h2⟩ := hb (k : Int)
  obtain ⟨h3, h4⟩ := hb ((k : Int) + 1)
  unfold ptRo flipE
  unfold onE at off
  rw [sg_mk']
  generalize ptx qs (k : Int) = ax at *
  generalize ptz qs (k : Int) = az at *
  generalize ptx qs ((k : Int) + 1) = bx at *
  generalize ptz qs ((k : Int) + 1) = bz at *
  have ht := tz_mk ax az bx bz x z
  have he := mk_ends ax az bx bz
  have hn := (mkSeg ax az bx bz).tz_nm x (hgt x z)
  have hW : turnW ax az bx bz x z = turnZ ax az bx bz x z := turnW_eq2 h1 h2 h3 h4 hx hz
  have hnot : ¬ (turnZ ax az bx bz x z = 0 ∧ min ax bx ≤ x ∧ x ≤ max ax bx ∧ min az bz ≤ z ∧ z ≤ max az bz) := by
    rintro ⟨q0, q1, q2, q3, q4⟩
    have : onW ax az bx bz x z = true := by
      simp only [onW, inB, hW, q0]
      simp
      omega
    rw [this] at off
    cases off
  have hoff2 : turnZ ax az bx bz x z = 0 → ¬ (bz < az ∧ bz ≤ z ∧ z ≤ az) := fun q hh => by
    have := on_of_straight2 h1 h2 h3 h4 hx hz (by rw [hW]; exact q) hh
    rw [this] at off
    cases off
  rw [hW]
  have hR : ∀ {P : Prop} [Decidable P] {b : Bool}, (b = true ↔ P) → b = decide P := fun h => by
    rw [Bool.eq_iff_iff, decide_eq_true_iff]; exact h
  refine hR ?_
  have e0 : turnZ ax az bx bz x z = (bx - ax) * (z - az) - (bz - az) * (x - ax) := rfl
  rcases Int.lt_trichotomy az bz with c | c | c
  · have u : hgt ax az < hgt bx bz := by unfold hgt; omega
    have q1 : decide (az < bz) = true := decide_eq_true c
    rw [q1]
    have hT : (mkSeg ax az bx bz).tz x (hgt x z) = 10000 * turnZ ax az bx bz x z := by omega
    have hb' : (mkSeg ax az bx bz).b = hgt ax az ∧ (mkSeg ax az bx bz).d = hgt bx bz := by omega
    rw [hb'.1, hb'.2, hn, hT]
    have eqz : z = az → turnZ ax az bx bz x z = (bz - az) * (ax - x) := fun e => by rw [e0, e]; grind
    have eqz' : z = bz → turnZ ax az bx bz x z = (bz - az) * (bx - x) := fun e => by rw [e0, e]; grind
    have d0 : 0 < bz - az := by omega
    simp only [bne_iff_ne, ne_eq, Bool.and_eq_true, decide_eq_decide, beq_iff_eq, decide_eq_true_eq]
    constructor
    · rintro ⟨a1, a2⟩
      refine ⟨?_, ?_, by omega⟩
      · unfold hgt
        rcases Int.lt_or_le az z with d | d
        · omega
        · have : z = az := by omega
          have := eqz this
          have := sgn_prod (by rw [← this]; exact a2) d0
          omega
      · unfold hgt
        omega
    · rintro ⟨a1, a2, a3⟩
      have a3 : 0 < turnZ ax az bx bz x z := by omega
      refine ⟨?_, a3⟩
      unfold hgt at a1 a2
      rcases Int.lt_or_le z bz with d | d
      · omega
      · have e : z = bz := by omega
        have := eqz' e
        have := sgn_prod (by rw [← this]; exact a3) d0
        omega
  · subst c
    have q1 : decide (az < az) = false := decide_eq_false (by omega)
    rw [q1]
    simp only [bne_self_eq_false, Bool.false_and, Bool.false_eq_true, false_iff]
    rintro ⟨a1, a2, a3⟩
    have hza : z = az := by
      unfold hgt at he a1 a2
      omega
    have : turnZ ax az bx az x z = 0 := by rw [e0, hza]; simp
    rw [this] at ht
    omega
  · have u : ¬ hgt ax az < hgt bx bz := by unfold hgt; omega
    have q1 : decide (az < bz) = false := decide_eq_false (by omega)
    rw [q1]
    have hT : (mkSeg ax az bx bz).tz x (hgt x z) = -(10000 * turnZ ax az bx bz x z) := by omega
    have hb' : (mkSeg ax az bx bz).b = hgt bx bz ∧ (mkSeg ax az bx bz).d = hgt ax az := by omega
    rw [hb'.1, hb'.2, hn, hT]
    have eqz : z = az → -turnZ ax az bx bz x z = (az - bz) * (ax - x) := fun e => by rw [e0, e]; grind
    have eqz' : z = bz → -turnZ ax az bx bz x z = (az - bz) * (bx - x) := fun e => by rw [e0, e]; grind
    have d0 : 0 < az - bz := by omega
    simp only [bne_iff_ne, ne_eq, Bool.and_eq_true, decide_eq_decide, beq_iff_eq, decide_eq_false_iff_not]
    constructor
    · rintro ⟨a1, a2⟩
      have a2 : turnZ ax az bx bz x z < 0 := by
        rcases Int.lt_trichotomy (turnZ ax az bx bz x z) 0 with d | d | d
        · exact d
        · have := hoff2 d
          omega
        · omega
      refine ⟨?_, ?_, by omega⟩
      · unfold hgt
        rcases Int.lt_or_le bz z with d | d
        · omega
        · have e : z = bz := by omega
          have := eqz' e
          have := sgn_prod (by rw [← this]; omega) d0
          omega
      · unfold hgt
        omega
    · rintro ⟨a1, a2, a3⟩
      have a3 : 0 < -turnZ ax az bx bz x z := by omega
      refine ⟨?_, by omega⟩
      unfold hgt at a1 a2
      rcases Int.lt_or_le z az with d | d
      · omega
      · have e : z = az := by omega
        have := eqz e
        have := sgn_prod (by rw [← this]; exact a3) d0
        omega
theorem side_xs (qs : List (Int × Int)) (x z : Int) : ∀ k : Nat, sideTo qs x z k = if xs (fun i => flipE qs x z (i : Int)) k = true then 1 else -1
  | 0 => rfl
  | k + 1 => by
    unfold sideTo xs
    rw [side_xs qs x z k]
    cases xs (fun i => flipE qs x z (i : Int)) k <;> cases flipE qs x z (k : Int) <;> rfl
theorem Free.of_off {qs : List (Int × Int)} (hb : Bd2 qs) {x z : Int} (hx : -2000 ≤ x ∧ x ≤ 2000) (hz : -2000 ≤ z ∧ z ≤ 2000) (h0 : 0 < qs.length) (off : OffTo qs x z qs.length) : Free qs.length (rh qs) (hgt x z) := by
  intro i hi e
  have key : ∀ k : Nat, k < qs.length → rh qs k ≠ hgt x z := by
    intro k hk e
    obtain ⟨h1, h2⟩ := hb (k : Int)
    unfold rh at e
    obtain ⟨e1, e2⟩ := hgt_inj2 h1 h2 hx hz e
    have := off k hk
    unfold onE at this
    rw [e1, e2] at this
    have q : turnW x z (ptx qs ((k : Int) + 1)) (ptz qs ((k : Int) + 1)) x z = 0 := by simp [turnW, wrap64]
    simp only [onW, inB, q] at this
    simp at this
    omega
  rcases Nat.lt_or_ge i qs.length with c | c
  · exact key i c e
  · obtain rfl : i = qs.length := by omega
    refine key 0 h0 ?_
    rw [← e]
    unfold rh
    rw [show ptx qs (qs.length : Int) = ptx qs ((0 : Nat) : Int) from ptx_round qs 0, show ptz qs (qs.length : Int) = ptz qs ((0 : Nat) : Int) from ptz_round qs 0]
/-- a point off a closed way is inside just where an odd number of edges lies to its left -/
theorem side_left {qs : List (Int × Int)} (hb : Bd2 qs) {x z : Int} (hx : -2000 ≤ x ∧ x ≤ 2000) (hz : -2000 ≤ z ∧ z ≤ 2000) (h0 : 0 < qs.length) (hne : ∀ i, i < qs.length → rh qs i ≠ rh qs (i + 1)) (off : OffTo qs x z qs.length) : 0 < sideZ qs x z ↔ xs (ptLo (rx qs) (rh qs) x (hgt x z)) qs.length = true := by
  have hf := Free.of_off hb hx hz h0 off
  have hr : rh qs qs.length = rh qs 0 := by
    unfold rh
    rw [show ptx qs (qs.length : Int) = ptx qs ((0 : Nat) : Int) from ptx_round qs 0, show ptz qs (qs.length : Int) = ptz qs ((0 : Nat) : Int) from ptz_round qs 0]
  rw [← sideZ_off off, side_xs]
  have e1 : xs (fun i => flipE qs x z (i : Int)) qs.length = xs (ptRo (rx qs) (rh qs) x (hgt x z)) qs.length := xs_congr fun i hi => flip_right hb hx hz (off i hi)
  have e2 : xor (xs (ptLo (rx qs) (rh qs) x (hgt x z)) qs.length) (xs (ptRo (rx qs) (rh qs) x (hgt x z)) qs.length) = false := by
    rw [← xs_xor, ← spn_even (x := rx qs) hr hf]
    refine xs_congr fun i hi => ?_
    obtain ⟨h1, h2⟩ := hb (i : Int)
    obtain ⟨h3, h4⟩ := hb ((i : Int) + 1)
    have ho := off i hi
    have hnz : (sg (rx qs) (rh qs) i).b < hgt x z → hgt x z < (sg (rx qs) (rh qs) i).d → (sg (rx qs) (rh qs) i).nm (hgt x z) ≠ x * (sg (rx qs) (rh qs) i).ad := fun a b e => by
      have hn := (sg (rx qs) (rh qs) i).tz_nm x (hgt x z)
      have hon : (sg (rx qs) (rh qs) i).on x (hgt x z) := ⟨by omega, by omega, by omega⟩
      rw [sg_mk'] at hon
      have := hgt_on h1 h2 h3 h4 hx hz (hne i hi) hon
      unfold onE at ho
      rw [this] at ho
      cases ho
    unfold ptLo ptRo spn
    by_cases hs : (sg (rx qs) (rh qs) i).b < hgt x z ∧ hgt x z < (sg (rx qs) (rh qs) i).d
    · rw [dec_yes hs, dec_yes hs, decide_eq_true hs]
      have := hnz hs.1 hs.2
      rcases Int.lt_or_gt_of_ne this with c | c
      · rw [decide_eq_true c, decide_eq_false (by omega)]; rfl
      · rw [decide_eq_false (by omega), decide_eq_true c]; rfl
    · rw [dec_no hs, dec_no hs, decide_eq_false hs]; rfl
  rw [e1]
  revert e2
  cases xs (ptLo (rx qs) (rh qs) x (hgt x z)) qs.length <;> cases xs (ptRo (rx qs) (rh qs) x (hgt x z)) qs.length <;> simp
end Go.Proofs.YtabdffponmmhoaaGreatDoor
