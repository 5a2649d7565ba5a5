/- Plain geometry: two segments that do not cross lie on the same side of each other wherever both are; parities of counts. No program in sight. -/
namespace Go.Proofs.YtdbheipjbjcikaaGreatDoor

/-- a segment that is not level, from its low end to its high end -/
structure Seg where
  a : Int
  b : Int
  c : Int
  d : Int
/-- its height -/
def Seg.ad (s : Seg) : Int := s.d - s.b
/-- its place at height T, times its height -/
def Seg.nm (s : Seg) (T : Int) : Int := s.a * s.ad + (T - s.b) * (s.c - s.a)
/-- how far s lies to the right of t at height T, times both heights -/
def dl (s t : Seg) (T : Int) : Int := s.nm T * t.ad - t.nm T * s.ad
/-- the turn of a point -/
def Seg.tz (s : Seg) (x h : Int) : Int := (s.c - s.a) * (h - s.b) - (s.d - s.b) * (x - s.a)
theorem Seg.nm_lo (s : Seg) : s.nm s.b = s.a * s.ad := by unfold Seg.nm; simp
theorem Seg.nm_hi (s : Seg) : s.nm s.d = s.c * s.ad := by unfold Seg.nm Seg.ad; grind
theorem Seg.tz_eq (s : Seg) (x h : Int) : s.tz x h = s.nm h - x * s.ad := by unfold Seg.nm Seg.ad Seg.tz; grind
theorem dl_swap (s t : Seg) (T : Int) : dl t s T = - dl s t T := by unfold dl; omega
theorem dl_lin (s t : Seg) : ∃ A B : Int, ∀ T, dl s t T = A + B * T :=
  ⟨(s.a * s.ad - s.b * (s.c - s.a)) * t.ad - (t.a * t.ad - t.b * (t.c - t.a)) * s.ad, (s.c - s.a) * t.ad - (t.c - t.a) * s.ad, fun T => by unfold dl Seg.nm; grind⟩
theorem dl_tlo (s t : Seg) : dl s t t.b = t.ad * s.tz t.a t.b := by unfold dl; rw [Seg.nm_lo, Seg.tz_eq]; grind
theorem dl_thi (s t : Seg) : dl s t t.d = t.ad * s.tz t.c t.d := by unfold dl; rw [Seg.nm_hi, Seg.tz_eq]; grind
theorem dl_slo (s t : Seg) : dl s t s.b = -(s.ad * t.tz s.a s.b) := by unfold dl; rw [Seg.nm_lo, Seg.tz_eq]; grind
theorem dl_shi (s t : Seg) : dl s t s.d = -(s.ad * t.tz s.c s.d) := by unfold dl; rw [Seg.nm_hi, Seg.tz_eq]; grind
theorem pos_mul {x y : Int} (hx : 0 < x) : (0 < x * y ↔ 0 < y) ∧ (x * y < 0 ↔ y < 0) ∧ (x * y = 0 ↔ y = 0) := by
  rcases Int.lt_trichotomy y 0 with h | h | h
  · have := Int.mul_neg_of_pos_of_neg hx h
    omega
  · subst h; simp
  · have := Int.mul_pos hx h
    omega
/-- what a linear function does between two places -/
theorem lin_pos {A B T1 T2 T : Int} (h1 : 0 < A + B * T1) (h2 : 0 < A + B * T2) (hl : T1 ≤ T) (hh : T ≤ T2) : 0 < A + B * T := by
  rcases Int.lt_or_le B 0 with h | h
  · have := Int.mul_le_mul_of_nonpos_left (Int.le_of_lt h) hh
    omega
  · have := Int.mul_le_mul_of_nonneg_left hl h
    omega
theorem lin_neg {A B T1 T2 T : Int} (h1 : A + B * T1 < 0) (h2 : A + B * T2 < 0) (hl : T1 ≤ T) (hh : T ≤ T2) : A + B * T < 0 := by
  rcases Int.lt_or_le B 0 with h | h
  · have := Int.mul_le_mul_of_nonpos_left (Int.le_of_lt h) hl
    omega
  · have := Int.mul_le_mul_of_nonneg_left hh h
    omega
/-- s and t do not meet: at no height that lies within s, and in t or at an end of it; nor do they change their order there -/
def NoMeet (s t : Seg) : Prop :=
  ∀ T1 T2, s.b < T1 → T1 < s.d → t.b ≤ T1 → T1 ≤ t.d → s.b < T2 → T2 < s.d → t.b ≤ T2 → T2 ≤ t.d → dl s t T1 ≠ 0 ∧ (dl s t T1 < 0 ↔ dl s t T2 < 0)
/-- a point lies on a segment -/
def Seg.on (s : Seg) (x h : Int) : Prop := s.tz x h = 0 ∧ s.b ≤ h ∧ h ≤ s.d
/-- the test that two segments have no point in common -/
def ApartS (s t : Seg) : Prop := ¬ s.on t.a t.b ∧ ¬ s.on t.c t.d ∧ ¬ t.on s.a s.b ∧ ¬ t.on s.c s.d ∧
  ¬ ((s.tz t.a t.b < 0 ∧ 0 < s.tz t.c t.d ∨ 0 < s.tz t.a t.b ∧ s.tz t.c t.d < 0) ∧ (t.tz s.a s.b < 0 ∧ 0 < t.tz s.c s.d ∨ 0 < t.tz s.a s.b ∧ t.tz s.c s.d < 0))
theorem ApartS.symm {s t : Seg} (h : ApartS s t) : ApartS t s := ⟨h.2.2.1, h.2.2.2.1, h.1, h.2.1, fun ⟨x, y⟩ => h.2.2.2.2 ⟨y, x⟩⟩
theorem ApartS.noMeet {s t : Seg} (h : ApartS s t) (hs : s.b < s.d) (ht : t.b < t.d) : NoMeet s t := by
  intro T1 T2 a1 a2 a3 a4 b1 b2 b3 b4
  have ps : 0 < s.ad := by unfold Seg.ad; omega
  have pt : 0 < t.ad := by unfold Seg.ad; omega
  obtain ⟨A, B, hl⟩ := dl_lin s t
  obtain ⟨n1, n2, n3, n4, nx⟩ := h
  have e1 := dl_tlo s t
  have e2 := dl_thi s t
  have e3 := dl_slo s t
  have e4 := dl_shi s t
  have m1 := pos_mul (y := s.tz t.a t.b) pt
  have m2 := pos_mul (y := s.tz t.c t.d) pt
  have m3 := pos_mul (y := t.tz s.a s.b) ps
  have m4 := pos_mul (y := t.tz s.c s.d) ps
  rw [← e1] at m1
  rw [← e2] at m2
  rw [show s.ad * t.tz s.a s.b = -dl s t s.b by omega] at m3
  rw [show s.ad * t.tz s.c s.d = -dl s t s.d by omega] at m4
  clear e1 e2 e3 e4
  -- the ends of what they share
  obtain ⟨L, hL⟩ : ∃ L, L = max s.b t.b := ⟨_, rfl⟩
  obtain ⟨H, hH⟩ : ∃ H, H = min s.d t.d := ⟨_, rfl⟩
  have zL : dl s t L ≠ 0 := by
    rcases Int.le_total s.b t.b with c | c
    · rw [show L = t.b by omega]; intro z; exact n1 ⟨m1.2.2.1 z, by omega, by omega⟩
    · rw [show L = s.b by omega]; intro z; exact n3 ⟨m3.2.2.1 (by omega), by omega, by omega⟩
  have zH : dl s t H ≠ 0 := by
    rcases Int.le_total s.d t.d with c | c
    · rw [show H = s.d by omega]; intro z; exact n4 ⟨m4.2.2.1 (by omega), by omega, by omega⟩
    · rw [show H = t.d by omega]; intro z; exact n2 ⟨m2.2.2.1 z, by omega, by omega⟩
  have hLs : s.b ≤ L ∧ t.b ≤ L ∧ L ≤ T1 ∧ L ≤ T2 := by omega
  have hHs : H ≤ s.d ∧ H ≤ t.d ∧ T1 ≤ H ∧ T2 ≤ H := by omega
  have sign : (dl s t L < 0 ∧ dl s t H < 0) ∨ (0 < dl s t L ∧ 0 < dl s t H) := by
    rcases Int.lt_or_lt_of_ne zL with c | c <;> rcases Int.lt_or_lt_of_ne zH with c' | c'
    · exact .inl ⟨c, c'⟩
    · exfalso
      rw [hl] at c c'
      have hB : 0 ≤ B := by
        rcases Int.lt_or_le B 0 with hb | hb
        · have := Int.mul_le_mul_of_nonpos_left (Int.le_of_lt hb) (show L ≤ H by omega)
          omega
        · exact hb
      have q1 := Int.mul_le_mul_of_nonneg_left hLs.1 hB
      have q2 := Int.mul_le_mul_of_nonneg_left hLs.2.1 hB
      have q3 := Int.mul_le_mul_of_nonneg_left hHs.1 hB
      have q4 := Int.mul_le_mul_of_nonneg_left hHs.2.1 hB
      have r1 := hl s.b
      have r2 := hl t.b
      have r3 := hl s.d
      have r4 := hl t.d
      exact nx ⟨.inl ⟨m1.2.1.1 (by omega), m2.1.1 (by omega)⟩, .inr ⟨m3.1.1 (by omega), m4.2.1.1 (by omega)⟩⟩
    · exfalso
      rw [hl] at c c'
      have hB : B ≤ 0 := by
        rcases Int.lt_or_le 0 B with hb | hb
        · have := Int.mul_le_mul_of_nonneg_left (show L ≤ H by omega) (Int.le_of_lt hb)
          omega
        · exact hb
      have q1 := Int.mul_le_mul_of_nonpos_left hB hLs.1
      have q2 := Int.mul_le_mul_of_nonpos_left hB hLs.2.1
      have q3 := Int.mul_le_mul_of_nonpos_left hB hHs.1
      have q4 := Int.mul_le_mul_of_nonpos_left hB hHs.2.1
      have r1 := hl s.b
      have r2 := hl t.b
      have r3 := hl s.d
      have r4 := hl t.d
      exact nx ⟨.inr ⟨m1.1.1 (by omega), m2.2.1.1 (by omega)⟩, .inl ⟨m3.2.1.1 (by omega), m4.1.1 (by omega)⟩⟩
    · exact .inr ⟨c, c'⟩
  rw [hl, hl] at sign
  rcases sign with ⟨c, c'⟩ | ⟨c, c'⟩
  · have d1 := lin_neg c c' hLs.2.2.1 hHs.2.2.1
    have d2 := lin_neg c c' hLs.2.2.2 hHs.2.2.2
    rw [hl, hl]; omega
  · have d1 := lin_pos c c' hLs.2.2.1 hHs.2.2.1
    have d2 := lin_pos c c' hLs.2.2.2 hHs.2.2.2
    rw [hl, hl]; omega
/-- two segments with one end in common and no turn of nothing there -/
theorem noMeet_lo {s t : Seg} (ht : t.b < t.d) (ea : s.a = t.a) (eb : s.b = t.b) (hz : s.tz t.c t.d ≠ 0) : NoMeet s t := by
  intro T1 T2 a1 a2 a3 a4 b1 b2 b3 b4
  have pt : 0 < t.ad := by unfold Seg.ad; omega
  obtain ⟨A, B, hl⟩ := dl_lin s t
  have z0 : dl s t s.b = 0 := by rw [dl_slo, Seg.tz_eq, eb, Seg.nm_lo, ea]; simp
  have z1 : dl s t t.d ≠ 0 := by rw [dl_thi]; intro z; exact hz ((pos_mul pt).2.2.1 z)
  rw [hl] at z0 z1
  rw [hl, hl]
  have hB : B ≠ 0 := by rintro rfl; omega
  rcases Int.lt_or_lt_of_ne hB with hb | hb
  · have q1 := Int.mul_lt_mul_of_neg_left (show s.b < T1 by omega) hb
    have q2 := Int.mul_lt_mul_of_neg_left (show s.b < T2 by omega) hb
    omega
  · have q1 := Int.mul_lt_mul_of_pos_left (show s.b < T1 by omega) hb
    have q2 := Int.mul_lt_mul_of_pos_left (show s.b < T2 by omega) hb
    omega
theorem noMeet_hi {s t : Seg} (ht : t.b < t.d) (ec : s.c = t.c) (ed : s.d = t.d) (hz : s.tz t.a t.b ≠ 0) : NoMeet s t := by
  intro T1 T2 a1 a2 a3 a4 b1 b2 b3 b4
  have pt : 0 < t.ad := by unfold Seg.ad; omega
  obtain ⟨A, B, hl⟩ := dl_lin s t
  have z0 : dl s t s.d = 0 := by rw [dl_shi, Seg.tz_eq, ed, Seg.nm_hi, ec]; simp
  have z1 : dl s t t.b ≠ 0 := by rw [dl_tlo]; intro z; exact hz ((pos_mul pt).2.2.1 z)
  rw [hl] at z0 z1
  rw [hl, hl]
  have hB : B ≠ 0 := by rintro rfl; omega
  rcases Int.lt_or_lt_of_ne hB with hb | hb
  · have q1 := Int.mul_lt_mul_of_neg_left (show T1 < s.d by omega) hb
    have q2 := Int.mul_lt_mul_of_neg_left (show T2 < s.d by omega) hb
    omega
  · have q1 := Int.mul_lt_mul_of_pos_left (show T1 < s.d by omega) hb
    have q2 := Int.mul_lt_mul_of_pos_left (show T2 < s.d by omega) hb
    omega
/-- one ends where the other begins -/
theorem noMeet_chain {s t : Seg} (h : s.d ≤ t.b ∨ t.d ≤ s.b) : NoMeet s t := by
  intro T1 T2 a1 a2 a3 a4 b1 b2 b3 b4
  omega

/-! parities -/
/-- whether the number of indices below n with P is odd -/
def xs (P : Nat → Bool) : Nat → Bool
  | 0 => false
  | n + 1 => xor (xs P n) (P n)
theorem xs_congr {P Q : Nat → Bool} : ∀ {n : Nat}, (∀ i, i < n → P i = Q i) → xs P n = xs Q n
  | 0, _ => rfl
  | n + 1, h => by
    unfold xs
    rw [xs_congr fun i hi => h i (Nat.lt_succ_of_lt hi), h n (Nat.lt_succ_self n)]
theorem xs_xor (P Q : Nat → Bool) : ∀ n : Nat, xs (fun i => xor (P i) (Q i)) n = xor (xs P n) (xs Q n)
  | 0 => rfl
  | n + 1 => by
    unfold xs
    rw [xs_xor P Q n]
    cases xs P n <;> cases xs Q n <;> cases P n <;> cases Q n <;> rfl
theorem xs_none : ∀ n : Nat, xs (fun _ => false) n = false
  | 0 => rfl
  | n + 1 => by unfold xs; rw [xs_none n]; rfl
theorem xs_step (P : Nat → Bool) : ∀ n : Nat, xs (fun i => xor (P i) (P (i + 1))) n = xor (P 0) (P n)
  | 0 => by cases P 0 <;> simp [xs]
  | n + 1 => by
    unfold xs
    rw [xs_step P n]
    cases P 0 <;> cases P n <;> cases P (n + 1) <;> rfl
/-- round a closed way -/
theorem xs_round {P : Nat → Bool} {n : Nat} (h : P n = P 0) : xs (fun i => xor (P i) (P (i + 1))) n = false := by
  rw [xs_step, h]; cases P 0 <;> rfl
theorem xs_one {P Q : Nat → Bool} {k : Nat} (hq : Q k = false) : ∀ {n : Nat}, (∀ i, i < n → i ≠ k → P i = Q i) → xs P n = xor (xs Q n) (decide (k < n) && P k)
  | 0, _ => by simp [xs]
  | n + 1, h => by
    unfold xs
    rw [xs_one hq fun i hi hk => h i (Nat.lt_succ_of_lt hi) hk]
    rcases Nat.lt_trichotomy k n with c | c | c
    · rw [h n (Nat.lt_succ_self n) (by omega)]
      simp [c, Nat.lt_succ_of_lt c]
      cases xs Q n <;> cases P k <;> cases Q n <;> rfl
    · subst c
      simp [hq]
    · rw [h n (Nat.lt_succ_self n) (by omega)]
      simp [show ¬ k < n by omega, show ¬ k < n + 1 by omega]
theorem xs_count (P : Nat → Bool) : ∀ n : Nat, xs P n = decide ((List.range n).countP P % 2 = 1)
  | 0 => rfl
  | n + 1 => by
    unfold xs
    rw [List.range_succ, List.countP_append, xs_count P n]
    cases h : P n
    · simp [h]
    · simp only [List.countP_cons, h, List.countP_nil, if_true]
      generalize (List.range n).countP P = m
      rcases Nat.mod_two_eq_zero_or_one m with e | e
      · simp [e, show (m + (0 + 1)) % 2 = 1 by omega]
      · simp [e, show (m + (0 + 1)) % 2 = 0 by omega]
end Go.Proofs.YtdbheipjbjcikaaGreatDoor
