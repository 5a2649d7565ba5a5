/- Plain geometry: two segments that do not cross lie on the same side of each other wherever both are; parities of counts. No program in sight. Plain geometry: along a closed way that does not meet itself the same side is inside. No program in sight. Plain geometry: the area of a closed way that does not meet itself is not 0, and its sign tells which side is inside. No program in sight. Plain geometry: the sign of the area of a closed way that does not meet itself. No program in sight. Plain geometry: the area of a valid ring is not 0. -/
import Derived.Test.YtabdffponmmhoaaGreatDoorG
namespace Go.Proofs.YtabdffponmmhoaaGreatDoor

/-- a segment that is not level, from its low end to its high end -/
structure Seg where
  a : Int
  b : Int
  c : Int
  d : Int
/-- its height -/
def Seg.ad (s : Seg) : Int := s.d - s.b
/-- its place at height T, times its height -/
def Seg.nm (s : Seg) (T : Int) : Int := s.a * s.ad + (T - s.b) * (s.c - s.a)
/-- how far s lies to the right of t at height T, times both heights -/
def dl (s t : Seg) (T : Int) : Int := s.nm T * t.ad - t.nm T * s.ad
/-- the turn of a point -/
def Seg.tz (s : Seg) (x h : Int) : Int := (s.c - s.a) * (h - s.b) - (s.d - s.b) * (x - s.a)
theorem Seg.nm_lo (s : Seg) : s.nm s.b = s.a * s.ad := by unfold Seg.nm; simp
theorem Seg.nm_hi (s : Seg) : s.nm s.d = s.c * s.ad := by unfold Seg.nm Seg.ad; grind
theorem Seg.tz_eq (s : Seg) (x h : Int) : s.tz x h = s.nm h - x * s.ad := by unfold Seg.nm Seg.ad Seg.tz; grind
theorem dl_swap (s t : Seg) (T : Int) : dl t s T = - dl s t T := by unfold dl; omega
theorem dl_lin (s t : Seg) : ∃ A B : Int, ∀ T, dl s t T = A + B * T :=
  ⟨(s.a * s.ad - s.b * (s.c - s.a)) * t.ad - (t.a * t.ad - t.b * (t.c - t.a)) * s.ad, (s.c - s.a) * t.ad - (t.c - t.a) * s.ad, fun T => by unfold dl Seg.nm; grind⟩
theorem dl_tlo (s t : Seg) : dl s t t.b = t.ad * s.tz t.a t.b := by unfold dl; rw [Seg.nm_lo, Seg.tz_eq]; grind
theorem dl_thi (s t : Seg) : dl s t t.d = t.ad * s.tz t.c t.d := by unfold dl; rw [Seg.nm_hi, Seg.tz_eq]; grind
theorem dl_slo (s t : Seg) : dl s t s.b = -(s.ad * t.tz s.a s.b) := by unfold dl; rw [Seg.nm_lo, Seg.tz_eq]; grind
theorem dl_shi (s t : Seg) : dl s t s.d = -(s.ad * t.tz s.c s.d) := by unfold dl; rw [Seg.nm_hi, Seg.tz_eq]; grind
theorem pos_mul {x y : Int} (hx : 0 < x) : (0 < x * y ↔ 0 < y) ∧ (x * y < 0 ↔ y < 0) ∧ (x * y = 0 ↔ y = 0) := by
  rcases Int.lt_trichotomy y 0 with h | h | h
  · have := Int.mul_neg_of_pos_of_neg hx h
    omega
  · subst h; simp
  · have := Int.mul_pos hx h
    omega
/-- what a linear function does between two places -/
theorem lin_pos {A B T1 T2 T : Int} (h1 : 0 < A + B * T1) (h2 : 0 < A + B * T2) (hl : T1 ≤ T) (hh : T ≤ T2) : 0 < A + B * T := by
  rcases Int.lt_or_le B 0 with h | h
  · have := Int.mul_le_mul_of_nonpos_left (Int.le_of_lt h) hh
    omega
  · have := Int.mul_le_mul_of_nonneg_left hl h
    omega
theorem lin_neg {A B T1 T2 T : Int} (h1 : A + B * T1 < 0) (h2 : A + B * T2 < 0) (hl : T1 ≤ T) (hh : T ≤ T2) : A + B * T < 0 := by
  rcases Int.lt_or_le B 0 with h | h
  · have := Int.mul_le_mul_of_nonpos_left (Int.le_of_lt h) hl
    omega
  · have := Int.mul_le_mul_of_nonneg_left hh h
    omega
/-- s and t do not meet: at no height that lies within s, and in t or at an end of it; nor do they change their order there -/
def NoMeet (s t : Seg) : Prop :=
  ∀ T1 T2, s.b < T1 → T1 < s.d → t.b ≤ T1 → T1 ≤ t.d → s.b < T2 → T2 < s.d → t.b ≤ T2 → T2 ≤ t.d → dl s t T1 ≠ 0 ∧ (dl s t T1 < 0 ↔ dl s t T2 < 0)
/-- a point lies on a segment -/
def Seg.on (s : Seg) (x h : Int) : Prop := s.tz x h = 0 ∧ s.b ≤ h ∧ h ≤ s.d
/-- the test that two segments have no point in common -/
def ApartS (s t : Seg) : Prop := ¬ s.on t.a t.b ∧ ¬ s.on t.c t.d ∧ ¬ t.on s.a s.b ∧ ¬ t.on s.c s.d ∧
  ¬ ((s.tz t.a t.b < 0 ∧ 0 < s.tz t.c t.d ∨ 0 < s.tz t.a t.b ∧ s.tz t.c t.d < 0) ∧ (t.tz s.a s.b < 0 ∧ 0 < t.tz s.c s.d ∨ 0 < t.tz s.a s.b ∧ t.tz s.c s.d < 0))
theorem ApartS.symm {s t : Seg} (h : ApartS s t) : ApartS t s := ⟨h.2.2.1, h.2.2.2.1, h.1, h.2.1, fun ⟨x, y⟩ => h.2.2.2.2 ⟨y, x⟩⟩
theorem ApartS.noMeet {s t : Seg} (h : ApartS s t) (hs : s.b < s.d) (ht : t.b < t.d) : NoMeet s t := by
  intro T1 T2 a1 a2 a3 a4 b1 b2 b3 b4
  have ps : 0 < s.ad := by unfold Seg.ad; omega
  have pt : 0 < t.ad := by unfold Seg.ad; omega
  obtain ⟨A, B, hl⟩ := dl_lin s t
  obtain ⟨n1, n2, n3, n4, nx⟩ := h
  have e1 := dl_tlo s t
  have e2 := dl_thi s t
  have e3 := dl_slo s t
  have e4 := dl_shi s t
  have m1 := pos_mul (y := s.tz t.a t.b) pt
  have m2 := pos_mul (y := s.tz t.c t.d) pt
  have m3 := pos_mul (y := t.tz s.a s.b) ps
  have m4 := pos_mul (y := t.tz s.c s.d) ps
  rw [← e1] at m1
  rw [← e2] at m2
  rw [show s.ad * t.tz s.a s.b = -dl s t s.b by omega] at m3
  rw [show s.ad * t.tz s.c s.d = -dl s t s.d by omega] at m4
  clear e1 e2 e3 e4
  -- the ends of what they share
  obtain ⟨L, hL⟩ : ∃ L, L = max s.b t.b := ⟨_, rfl⟩
  obtain ⟨H, hH⟩ : ∃ H, H = min s.d t.d := ⟨_, rfl⟩
  have zL : dl s t L ≠ 0 := by
    rcases Int.le_total s.b t.b with c | c
    · rw [show L = t.b by omega]; intro z; exact n1 ⟨m1.2.2.1 z, by omega, by omega⟩
    · rw [show L = s.b by omega]; intro z; exact n3 ⟨m3.2.2.1 (by omega), by omega, by omega⟩
  have zH : dl s t H ≠ 0 := by
    rcases Int.le_total s.d t.d with c | c
    · rw [show H = s.d by omega]; intro z; exact n4 ⟨m4.2.2.1 (by omega), by omega, by omega⟩
    · rw [show H = t.d by omega]; intro z; exact n2 ⟨m2.2.2.1 z, by omega, by omega⟩
  have hLs : s.b ≤ L ∧ t.b ≤ L ∧ L ≤ T1 ∧ L ≤ T2 := by omega
  have hHs : H ≤ s.d ∧ H ≤ t.d ∧ T1 ≤ H ∧ T2 ≤ H := by omega
  have sign : (dl s t L < 0 ∧ dl s t H < 0) ∨ (0 < dl s t L ∧ 0 < dl s t H) := by
    rcases Int.lt_or_lt_of_ne zL with c | c <;> rcases Int.lt_or_lt_of_ne zH with c' | c'
    · exact .inl ⟨c, c'⟩
    · exfalso
      rw [hl] at c c'
      have hB : 0 ≤ B := by
        rcases Int.lt_or_le B 0 with hb | hb
        · have := Int.mul_le_mul_of_nonpos_left (Int.le_of_lt hb) (show L ≤ H by omega)
          omega
        · exact hb
      have q1 := Int.mul_le_mul_of_nonneg_left hLs.1 hB
      have q2 := Int.mul_le_mul_of_nonneg_left hLs.2.1 hB
      have q3 := Int.mul_le_mul_of_nonneg_left hHs.1 hB
      have q4 := Int.mul_le_mul_of_nonneg_left hHs.2.1 hB
      have r1 := hl s.b
      have r2 := hl t.b
      have r3 := hl s.d
      have r4 := hl t.d
      exact nx ⟨.inl ⟨m1.2.1.1 (by omega), m2.1.1 (by omega)⟩, .inr ⟨m3.1.1 (by omega), m4.2.1.1 (by omega)⟩⟩
    · exfalso
      rw [hl] at c c'
      have hB : B ≤ 0 := by
        rcases Int.lt_or_le 0 B with hb | hb
        · have := Int.mul_le_mul_of_nonneg_left (show L ≤ H by omega) (Int.le_of_lt hb)
          omega
        · exact hb
      have q1 := Int.mul_le_mul_of_nonpos_left hB hLs.1
      have q2 := Int.mul_le_mul_of_nonpos_left hB hLs.2.1
      have q3 := Int.mul_le_mul_of_nonpos_left hB hHs.1
      have q4 := Int.mul_le_mul_of_nonpos_left hB hHs.2.1
      have r1 := hl s.b
      have r2 := hl t.b
      have r3 := hl s.d
      have r4 := hl t.d
      exact nx ⟨.inr ⟨m1.1.1 (by omega), m2.2.1.1 (by omega)⟩, .inl ⟨m3.2.1.1 (by omega), m4.1.1 (by omega)⟩⟩
    · exact .inr ⟨c, c'⟩
  rw [hl, hl] at sign
  rcases sign with ⟨c, c'⟩ | ⟨c, c'⟩
  · have d1 := lin_neg c c' hLs.2.2.1 hHs.2.2.1
    have d2 := lin_neg c c' hLs.2.2.2 hHs.2.2.2
    rw [hl, hl]; omega
  · have d1 := lin_pos c c' hLs.2.2.1 hHs.2.2.1
    have d2 := lin_pos c c' hLs.2.2.2 hHs.2.2.2
    rw [hl, hl]; omega
/-- two segments with one end in common and no turn of nothing there -/
theorem noMeet_lo {s t : Seg} (ht : t.b < t.d) (ea : s.a = t.a) (eb : s.b = t.b) (hz : s.tz t.c t.d ≠ 0) : NoMeet s t := by
  intro T1 T2 a1 a2 a3 a4 b1 b2 b3 b4
  have pt : 0 < t.ad := by unfold Seg.ad; omega
  obtain ⟨A, B, hl⟩ := dl_lin s t
  have z0 : dl s t s.b = 0 := by rw [dl_slo, Seg.tz_eq, eb, Seg.nm_lo, ea]; simp
  have z1 : dl s t t.d ≠ 0 := by rw [dl_thi]; intro z; exact hz ((pos_mul pt).2.2.1 z)
  rw [hl] at z0 z1
  rw [hl, hl]
  have hB : B ≠ 0 := by rintro rfl; omega
  rcases Int.lt_or_lt_of_ne hB with hb | hb
  · have q1 := Int.mul_lt_mul_of_neg_left (show s.b < T1 by omega) hb
    have q2 := Int.mul_lt_mul_of_neg_left (show s.b < T2 by omega) hb
    omega
  · have q1 := Int.mul_lt_mul_of_pos_left (show s.b < T1 by omega) hb
    have q2 := Int.mul_lt_mul_of_pos_left (show s.b < T2 by omega) hb
    omega
theorem noMeet_hi {s t : Seg} (ht : t.b < t.d) (ec : s.c = t.c) (ed : s.d = t.d) (hz : s.tz t.a t.b ≠ 0) : NoMeet s t := by
  intro T1 T2 a1 a2 a3 a4 b1 b2 b3 b4
  have pt : 0 < t.ad := by unfold Seg.ad; omega
  obtain ⟨A, B, hl⟩ := dl_lin s t
  have z0 : dl s t s.d = 0 := by rw [dl_shi, Seg.tz_eq, ed, Seg.nm_hi, ec]; simp
  have z1 : dl s t t.b ≠ 0 := by rw [dl_tlo]; intro z; exact hz ((pos_mul pt).2.2.1 z)
  rw [hl] at z0 z1
  rw [hl, hl]
  have hB : B ≠ 0 := by rintro rfl; omega
  rcases Int.lt_or_lt_of_ne hB with hb | hb
  · have q1 := Int.mul_lt_mul_of_neg_left (show T1 < s.d by omega) hb
    have q2 := Int.mul_lt_mul_of_neg_left (show T2 < s.d by omega) hb
    omega
  · have q1 := Int.mul_lt_mul_of_pos_left (show T1 < s.d by omega) hb
    have q2 := Int.mul_lt_mul_of_pos_left (show T2 < s.d by omega) hb
    omega
/-- one ends where the other begins -/
theorem noMeet_chain {s t : Seg} (h : s.d ≤ t.b ∨ t.d ≤ s.b) : NoMeet s t := by
  intro T1 T2 a1 a2 a3 a4 b1 b2 b3 b4
  omega

/-! parities -/
/-- whether the number of indices below n with P is odd -/
def xs (P : Nat → Bool) : Nat → Bool
  | 0 => false
  | n + 1 => xor (xs P n) (P n)
theorem xs_congr {P Q : Nat → Bool} : ∀ {n : Nat}, (∀ i, i < n → P i = Q i) → xs P n = xs Q n
  | 0, _ => rfl
  | n + 1, h => by
    unfold xs
    rw [xs_congr fun i hi => h i (Nat.lt_succ_of_lt hi), h n (Nat.lt_succ_self n)]
theorem xs_xor (P Q : Nat → Bool) : ∀ n : Nat, xs (fun i => xor (P i) (Q i)) n = xor (xs P n) (xs Q n)
  | 0 => rfl
  | n + 1 => by
    unfold xs
    rw [xs_xor P Q n]
    cases xs P n <;> cases xs Q n <;> cases P n <;> cases Q n <;> rfl
theorem xs_none : ∀ n : Nat, xs (fun _ => false) n = false
  | 0 => rfl
  | n + 1 => by unfold xs; rw [xs_none n]; rfl
theorem xs_step (P : Nat → Bool) : ∀ n : Nat, xs (fun i => xor (P i) (P (i + 1))) n = xor (P 0) (P n)
  | 0 => by cases P 0 <;> simp [xs]
  | n + 1 => by
    unfold xs
    rw [xs_step P n]
    cases P 0 <;> cases P n <;> cases P (n + 1) <;> rfl
/-- round a closed way -/
theorem xs_round {P : Nat → Bool} {n : Nat} (h : P n = P 0) : xs (fun i => xor (P i) (P (i + 1))) n = false := by
  rw [xs_step, h]; cases P 0 <;> rfl
theorem xs_one {P Q : Nat → Bool} {k : Nat} (hq : Q k = false) : ∀ {n : Nat}, (∀ i, i < n → i ≠ k → P i = Q i) → xs P n = xor (xs Q n) (decide (k < n) && P k)
  | 0, _ => by simp [xs]
  | n + 1, h => by
    unfold xs
    rw [xs_one hq fun i hi hk => h i (Nat.lt_succ_of_lt hi) hk]
    rcases Nat.lt_trichotomy k n with c | c | c
    · rw [h n (Nat.lt_succ_self n) (by omega)]
      simp [c, Nat.lt_succ_of_lt c]
      cases xs Q n <;> cases P k <;> cases Q n <;> rfl
    · subst c
      simp [hq]
    · rw [h n (Nat.lt_succ_self n) (by omega)]
      simp [show ¬ k < n by omega, show ¬ k < n + 1 by omega]
theorem xs_count (P : Nat → Bool) : ∀ n : Nat, xs P n = decide ((List.range n).countP P % 2 = 1)
  | 0 => rfl
  | n + 1 => by
    unfold xs
    rw [List.range_succ, List.countP_append, xs_count P n]
    cases h : P n
    · simp [h]
    · simp only [List.countP_cons, h, List.countP_nil, if_true]
      generalize (List.range n).countP P = m
      rcases Nat.mod_two_eq_zero_or_one m with e | e
      · simp [e, show (m + (0 + 1)) % 2 = 1 by omega]
      · simp [e, show (m + (0 + 1)) % 2 = 0 by omega]
end Go.Proofs.YtabdffponmmhoaaGreatDoor
namespace Go.Proofs.YtabdffponmmhoaaGreatDoor

/-- an edge of a way -/
def sg (x h : Nat → Int) (i : Nat) : Seg := if h i < h (i + 1) then ⟨x i, h i, x (i + 1), h (i + 1)⟩ else ⟨x (i + 1), h (i + 1), x i, h i⟩
theorem sg_up {x h : Nat → Int} {i : Nat} (u : h i < h (i + 1)) : sg x h i = ⟨x i, h i, x (i + 1), h (i + 1)⟩ := if_pos u
theorem sg_down {x h : Nat → Int} {i : Nat} (u : ¬ h i < h (i + 1)) : sg x h i = ⟨x (i + 1), h (i + 1), x i, h i⟩ := if_neg u
theorem NoMeet.pos {e f : Seg} (hm : NoMeet e f) {T1 T2 : Int} (a1 : e.b < T1) (a2 : T1 < e.d) (a3 : f.b ≤ T1) (a4 : T1 ≤ f.d) (b1 : e.b < T2) (b2 : T2 < e.d) (b3 : f.b ≤ T2) (b4 : T2 ≤ f.d) : (0 < dl e f T1 ↔ 0 < dl e f T2) := by
  have h1 := hm T1 T2 a1 a2 a3 a4 b1 b2 b3 b4
  have h2 := hm T2 T1 b1 b2 b3 b4 a1 a2 a3 a4
  omega
theorem dec_no {A B C : Prop} [Decidable A] [Decidable B] [Decidable C] (h : ¬ (A ∧ B)) : decide (A ∧ B ∧ C) = false := by
  rw [decide_eq_false_iff_not]; exact fun ⟨a, b, _⟩ => h ⟨a, b⟩
theorem dec_yes {A B C : Prop} [Decidable A] [Decidable B] [Decidable C] (h : A ∧ B) : decide (A ∧ B ∧ C) = decide C := by
  simp [h.1, h.2]
theorem dec_iff {A B : Prop} [Decidable A] [Decidable B] (h : A ↔ B) : decide A = decide B := by simp [h]
/-- what of f lies to the left of e at two heights, and which ends of f lie in between -/
theorem band {e f : Seg} {T T' : Int} (hf : f.b < f.d) (hm : NoMeet e f) (h1 : e.b < T) (h2 : T < T') (h3 : T' < e.d) (g1 : f.b ≠ T) (g2 : f.b ≠ T') (g3 : f.d ≠ T) (g4 : f.d ≠ T') :
    xor (decide (f.b < T ∧ T < f.d ∧ 0 < dl e f T)) (decide (f.b < T' ∧ T' < f.d ∧ 0 < dl e f T')) =
    xor (decide (T < f.b ∧ f.b < T' ∧ 0 < dl e f f.b)) (decide (T < f.d ∧ f.d < T' ∧ 0 < dl e f f.d)) := by
  rcases (show f.b < T ∨ (T < f.b ∧ f.b < T') ∨ T' < f.b by omega) with c | c | c <;> rcases (show f.d < T ∨ (T < f.d ∧ f.d < T') ∨ T' < f.d by omega) with d | d | d
  · rw [dec_no (by omega), dec_no (by omega), dec_no (by omega), dec_no (by omega)]
  · rw [dec_yes (by omega), dec_no (by omega), dec_no (by omega), dec_yes (by omega), dec_iff (hm.pos (T1 := T) (T2 := f.d) (by omega) (by omega) (by omega) (by omega) (by omega) (by omega) (by omega) (by omega))]
    simp
  · rw [dec_yes (by omega), dec_yes (by omega), dec_no (by omega), dec_no (by omega), dec_iff (hm.pos (T1 := T) (T2 := T') (by omega) (by omega) (by omega) (by omega) (by omega) (by omega) (by omega) (by omega))]
    simp
  · omega
  · rw [dec_no (by omega), dec_no (by omega), dec_yes (by omega), dec_yes (by omega), dec_iff (hm.pos (T1 := f.b) (T2 := f.d) (by omega) (by omega) (by omega) (by omega) (by omega) (by omega) (by omega) (by omega))]
    simp
  · rw [dec_no (by omega), dec_yes (by omega), dec_yes (by omega), dec_no (by omega), dec_iff (hm.pos (T1 := f.b) (T2 := T') (by omega) (by omega) (by omega) (by omega) (by omega) (by omega) (by omega) (by omega))]
    simp
  · omega
  · omega
  · rw [dec_no (by omega), dec_no (by omega), dec_no (by omega), dec_no (by omega)]
/-- edge i lies to the left of e at height T -/
def spL (x h : Nat → Int) (e : Seg) (T : Int) (i : Nat) : Bool := decide ((sg x h i).b < T ∧ T < (sg x h i).d ∧ 0 < dl e (sg x h i) T)
/-- corner k lies to the left of e, between two heights -/
def inI (x h : Nat → Int) (e : Seg) (T T' : Int) (k : Nat) : Bool := decide (T < h k ∧ h k < T' ∧ x k * e.ad < e.nm (h k))
theorem dl_lo_pos {e f : Seg} (hf : f.b < f.d) : 0 < dl e f f.b ↔ f.a * e.ad < e.nm f.b := by
  rw [dl_tlo, (pos_mul (show 0 < f.ad by unfold Seg.ad; omega)).1, Seg.tz_eq]; omega
theorem dl_hi_pos {e f : Seg} (hf : f.b < f.d) : 0 < dl e f f.d ↔ f.c * e.ad < e.nm f.d := by
  rw [dl_thi, (pos_mul (show 0 < f.ad by unfold Seg.ad; omega)).1, Seg.tz_eq]; omega
theorem sg_lt {x h : Nat → Int} {i : Nat} (hn : h i ≠ h (i + 1)) : (sg x h i).b < (sg x h i).d := by
  by_cases u : h i < h (i + 1)
  · rw [sg_up u]; exact u
  · rw [sg_down u]; show h (i + 1) < h i; omega
theorem edge_band {x h : Nat → Int} {e : Seg} {T T' : Int} {i : Nat} (hn : h i ≠ h (i + 1)) (hm : NoMeet e (sg x h i)) (h1 : e.b < T) (h2 : T < T') (h3 : T' < e.d) (g1 : h i ≠ T) (g2 : h i ≠ T') (g3 : h (i + 1) ≠ T) (g4 : h (i + 1) ≠ T') :
    xor (spL x h e T i) (spL x h e T' i) = xor (inI x h e T T' i) (inI x h e T T' (i + 1)) := by
  have hf := sg_lt (x := x) hn
  have l1 := dl_lo_pos (e := e) hf
  have l2 := dl_hi_pos (e := e) hf
  unfold spL inI
  by_cases u : h i < h (i + 1)
  · rw [sg_up u] at *
    rw [band (f := ⟨x i, h i, x (i + 1), h (i + 1)⟩) hf hm h1 h2 h3 g1 g2 g3 g4, dec_iff (and_congr Iff.rfl (and_congr Iff.rfl l1)), dec_iff (and_congr Iff.rfl (and_congr Iff.rfl l2))]
  · rw [sg_down u] at *
    rw [band (f := ⟨x (i + 1), h (i + 1), x i, h i⟩) hf hm h1 h2 h3 g3 g4 g1 g2, dec_iff (and_congr Iff.rfl (and_congr Iff.rfl l1)), dec_iff (and_congr Iff.rfl (and_congr Iff.rfl l2)), Bool.xor_comm]

/-- a closed way of n corners that does not meet itself; no two corners at one height, all heights even -/
structure Poly (n : Nat) (x h : Nat → Int) : Prop where
  n2 : 2 ≤ n
  px : x n = x 0
  ph : h n = h 0
  dist : ∀ i j, i < n → j < n → i ≠ j → h i ≠ h j
  meet : ∀ i j, i < n → j < n → i ≠ j → NoMeet (sg x h i) (sg x h j)
  even : ∀ i, h i % 2 = 0
section
variable {n : Nat} {x h : Nat → Int}
theorem Poly.ne (P : Poly n x h) {i : Nat} (hi : i < n) : h i ≠ h (i + 1) := by
  rcases Nat.lt_or_ge (i + 1) n with c | c
  · exact P.dist i (i + 1) hi c (by omega)
  · rw [show i + 1 = n by omega, P.ph]
    exact P.dist i 0 hi (by have := P.n2; omega) (by have := P.n2; omega)
/-- no corner at height T -/
def Free (n : Nat) (h : Nat → Int) (T : Int) : Prop := ∀ i, i ≤ n → h i ≠ T
theorem Poly.free_odd (P : Poly n x h) {T : Int} (hT : T % 2 = 1) : Free n h T := fun i _ e => by have := P.even i; omega
/-- the parity of the edges to the left of e at height T -/
def Lp (n : Nat) (x h : Nat → Int) (e : Seg) (T : Int) : Bool := xs (spL x h e T) n
theorem sg_ends (x h : Nat → Int) (i : Nat) : ((sg x h i).b = h i ∧ (sg x h i).d = h (i + 1) ∧ (sg x h i).a = x i ∧ (sg x h i).c = x (i + 1) ∧ h i < h (i + 1)) ∨
    ((sg x h i).b = h (i + 1) ∧ (sg x h i).d = h i ∧ (sg x h i).a = x (i + 1) ∧ (sg x h i).c = x i ∧ ¬ h i < h (i + 1)) := by
  by_cases u : h i < h (i + 1)
  · rw [sg_up u]; exact .inl ⟨rfl, rfl, rfl, rfl, u⟩
  · rw [sg_down u]; exact .inr ⟨rfl, rfl, rfl, rfl, u⟩
theorem spL_self (x h : Nat → Int) (T : Int) (j : Nat) : spL x h (sg x h j) T j = false := by
  unfold spL dl
  rw [decide_eq_false_iff_not]
  omega
/-- along an edge of another way, or of this one, the parity stays -/
theorem Lp_band {e : Seg} {T T' : Int} (hc : h n = h 0 ∧ x n = x 0) (hn : ∀ i, i < n → h i ≠ h (i + 1)) (hm : ∀ i, i < n → NoMeet e (sg x h i) ∨ (spL x h e T i = false ∧ spL x h e T' i = false ∧ inI x h e T T' i = inI x h e T T' (i + 1)))
    (h1 : e.b < T) (h2 : T < T') (h3 : T' < e.d) (g : Free n h T) (g' : Free n h T') : Lp n x h e T = Lp n x h e T' := by
  have key : xor (Lp n x h e T) (Lp n x h e T') = false := by
    unfold Lp
    rw [← xs_xor, xs_congr (Q := fun i => xor (inI x h e T T' i) (inI x h e T T' (i + 1)))]
    · exact xs_round (by unfold inI; rw [hc.1, hc.2])
    · intro i hi
      rcases hm i hi with m | ⟨m1, m2, m3⟩
      · exact edge_band (hn i hi) m h1 h2 h3 (g i (by omega)) (g' i (by omega)) (g (i + 1) (by omega)) (g' (i + 1) (by omega))
      · simp only [m1, m2, m3]; simp
  revert key
  cases Lp n x h e T <;> cases Lp n x h e T' <;> simp
theorem Poly.along (P : Poly n x h) {j : Nat} (hj : j < n) {T T' : Int} (h1 : (sg x h j).b < T) (h2 : T < T') (h3 : T' < (sg x h j).d) (g : Free n h T) (g' : Free n h T') : Lp n x h (sg x h j) T = Lp n x h (sg x h j) T' := by
  refine Lp_band ⟨P.ph, P.px⟩ (fun i hi => P.ne hi) (fun i hi => ?_) h1 h2 h3 g g'
  by_cases e : i = j
  · subst e
    refine .inr ⟨spL_self .., spL_self .., ?_⟩
    have := sg_ends x h i
    unfold inI
    rw [dec_no (by omega), dec_no (by omega)]
  · exact .inl (P.meet j i hj hi (Ne.symm e))
theorem Poly.along' (P : Poly n x h) {j : Nat} (hj : j < n) {T T' : Int} (h1 : (sg x h j).b < T) (h2 : T < (sg x h j).d) (h1' : (sg x h j).b < T') (h3 : T' < (sg x h j).d) (g : Free n h T) (g' : Free n h T') : Lp n x h (sg x h j) T = Lp n x h (sg x h j) T' := by
  rcases Int.lt_trichotomy T T' with c | c | c
  · exact P.along hj h1 c h3 g g'
  · rw [c]
  · exact (P.along hj h1' c h2 g' g).symm
/-- edge i lies to the left of corner v at v's height -/
def lftV (x h : Nat → Int) (v i : Nat) : Bool := decide ((sg x h i).b < h v ∧ h v < (sg x h i).d ∧ (sg x h i).nm (h v) < x v * (sg x h i).ad)
theorem Poly.at_corner (P : Poly n x h) {j k p : Nat} (hj : j + 1 < n) (hk : k = j ∧ p = j + 1 ∨ k = j + 1 ∧ p = j) {T : Int} (hT : T = h (j + 1) + 1 ∨ T = h (j + 1) - 1) (h1 : (sg x h k).b < T) (h2 : T < (sg x h k).d) :
    Lp n x h (sg x h k) T = xor (xs (lftV x h (j + 1)) n) (spL x h (sg x h k) T p) := by
  have hp : p < n := by omega
  have hkn : k < n := by omega
  have z : ∀ i, i = k ∨ i = p → lftV x h (j + 1) i = false := by
    intro i hi
    unfold lftV
    rw [dec_no]
    have := sg_ends x h i
    rcases (show i = j ∨ i = j + 1 by omega) with e | e <;> subst e <;> omega
  unfold Lp
  rw [xs_one (Q := lftV x h (j + 1)) (k := p) (z p (.inr rfl))]
  · simp [hp]
  · intro i hi hip
    by_cases hik : i = k
    · subst hik
      rw [z i (.inl rfl), spL_self]
    · have d1 : h i ≠ h (j + 1) := P.dist i (j + 1) hi hj (by omega)
      have d2 : h (i + 1) ≠ h (j + 1) := by
        rcases Nat.lt_or_ge (i + 1) n with c | c
        · exact P.dist (i + 1) (j + 1) c hj (by omega)
        · rw [show i + 1 = n by omega, P.ph]
          exact P.dist 0 (j + 1) (by omega) hj (by omega)
      have v1 := P.even i
      have v2 := P.even (i + 1)
      have v3 := P.even (j + 1)
      have hf := sg_lt (x := x) (P.ne hi)
      have hg := sg_lt (x := x) (P.ne hkn)
      have hi' := sg_ends x h i
      have hm := P.meet i k hi hkn hik
      have hend : ((sg x h k).b = h (j + 1) ∧ (sg x h k).a = x (j + 1)) ∨ ((sg x h k).d = h (j + 1) ∧ (sg x h k).c = x (j + 1)) := by
        have := sg_ends x h k
        rcases hk with ⟨e, _⟩ | ⟨e, _⟩ <;> subst e <;> omega
      unfold spL lftV
      by_cases hs : (sg x h i).b < T ∧ T < (sg x h i).d
      · have hs' : (sg x h i).b < h (j + 1) ∧ h (j + 1) < (sg x h i).d := by omega
        rw [dec_yes hs, dec_yes hs']
        refine dec_iff ?_
        have q := hm T (h (j + 1)) hs.1 hs.2 (by omega) (by omega) hs'.1 hs'.2 (by omega) (by omega)
        rw [dl_swap]
        have ad : 0 < (sg x h k).ad := by unfold Seg.ad; omega
        rcases hend with ⟨eb, ea⟩ | ⟨eb, ea⟩
        · have w := dl_tlo (sg x h i) (sg x h k)
          rw [eb, ea] at w
          have m := (pos_mul (y := (sg x h i).tz (x (j + 1)) (h (j + 1))) ad).2.1
          have t := (sg x h i).tz_eq (x (j + 1)) (h (j + 1))
          omega
        · have w := dl_thi (sg x h i) (sg x h k)
          rw [eb, ea] at w
          have m := (pos_mul (y := (sg x h i).tz (x (j + 1)) (h (j + 1))) ad).2.1
          have t := (sg x h i).tz_eq (x (j + 1)) (h (j + 1))
          omega
      · rw [dec_no hs, dec_no (by omega)]
/-- whether the way goes up along edge j -/
def upE (h : Nat → Int) (j : Nat) : Bool := decide (h j < h (j + 1))
/-- on both sides of a corner -/
theorem Poly.step (P : Poly n x h) {j : Nat} (hj : j + 1 < n) : ∃ T T', (sg x h j).b < T ∧ T < (sg x h j).d ∧ Free n h T ∧ (sg x h (j + 1)).b < T' ∧ T' < (sg x h (j + 1)).d ∧ Free n h T' ∧
    xor (Lp n x h (sg x h j) T) (upE h j) = xor (Lp n x h (sg x h (j + 1)) T') (upE h (j + 1)) := by
  have n1 := P.ne (show j < n by omega)
  have n2 := P.ne hj
  have v1 := P.even j
  have v2 := P.even (j + 1)
  have v3 := P.even (j + 1 + 1)
  have hm := P.meet j (j + 1) (by omega) hj (by omega)
  have e1 := sg_ends x h j
  have e2 := sg_ends x h (j + 1)
  have pick : ∀ T T', (T = h (j + 1) + 1 ∨ T = h (j + 1) - 1) → (T' = h (j + 1) + 1 ∨ T' = h (j + 1) - 1) → (sg x h j).b < T → T < (sg x h j).d → (sg x h (j + 1)).b < T' → T' < (sg x h (j + 1)).d →
      xor (spL x h (sg x h j) T (j + 1)) (upE h j) = xor (spL x h (sg x h (j + 1)) T' j) (upE h (j + 1)) → ∃ T T', (sg x h j).b < T ∧ T < (sg x h j).d ∧ Free n h T ∧ (sg x h (j + 1)).b < T' ∧ T' < (sg x h (j + 1)).d ∧ Free n h T' ∧
    xor (Lp n x h (sg x h j) T) (upE h j) = xor (Lp n x h (sg x h (j + 1)) T') (upE h (j + 1)) := fun T T' t t' a1 a2 a3 a4 hx => by
    refine ⟨T, T', a1, a2, P.free_odd (by omega), a3, a4, P.free_odd (by omega), ?_⟩
    rw [P.at_corner hj (.inl ⟨rfl, rfl⟩) t a1 a2, P.at_corner hj (.inr ⟨rfl, rfl⟩) t' a3 a4, Bool.xor_assoc, Bool.xor_assoc, hx]
  by_cases u1 : h j < h (j + 1) <;> by_cases u2 : h (j + 1) < h (j + 1 + 1)
  · refine pick (h (j + 1) - 1) (h (j + 1) + 1) (.inr rfl) (.inl rfl) (by omega) (by omega) (by omega) (by omega) ?_
    unfold spL upE
    rw [dec_no (by omega), dec_no (by omega)]
    simp [u1, u2]
  · refine pick (h (j + 1) - 1) (h (j + 1) - 1) (.inr rfl) (.inr rfl) (by omega) (by omega) (by omega) (by omega) ?_
    unfold spL upE
    rw [dec_yes (by omega), dec_yes (by omega), dl_swap (sg x h j) (sg x h (j + 1))]
    have q := hm (h (j + 1) - 1) (h (j + 1) - 1) (by omega) (by omega) (by omega) (by omega) (by omega) (by omega) (by omega) (by omega)
    rcases Int.lt_or_lt_of_ne q.1 with c | c
    · simp [u1, u2, c, show ¬ 0 < dl (sg x h j) (sg x h (j + 1)) (h (j + 1) - 1) by omega]
    · simp [u1, u2, c]
      omega
  · refine pick (h (j + 1) + 1) (h (j + 1) + 1) (.inl rfl) (.inl rfl) (by omega) (by omega) (by omega) (by omega) ?_
    unfold spL upE
    rw [dec_yes (by omega), dec_yes (by omega), dl_swap (sg x h j) (sg x h (j + 1))]
    have q := hm (h (j + 1) + 1) (h (j + 1) + 1) (by omega) (by omega) (by omega) (by omega) (by omega) (by omega) (by omega) (by omega)
    rcases Int.lt_or_lt_of_ne q.1 with c | c
    · simp [u1, u2, c, show ¬ 0 < dl (sg x h j) (sg x h (j + 1)) (h (j + 1) + 1) by omega]
    · simp [u1, u2, c]
      omega
  · refine pick (h (j + 1) + 1) (h (j + 1) - 1) (.inl rfl) (.inr rfl) (by omega) (by omega) (by omega) (by omega) ?_
    unfold spL upE
    rw [dec_no (by omega), dec_no (by omega)]
    simp [u1, u2]
/-- the same side is inside, all along the way -/
theorem Poly.const (P : Poly n x h) : ∃ c : Bool, ∀ j, j < n → ∀ T, (sg x h j).b < T → T < (sg x h j).d → Free n h T → xor (Lp n x h (sg x h j) T) (upE h j) = c := by
  have h0 := sg_lt (x := x) (P.ne (show 0 < n by have := P.n2; omega))
  refine ⟨xor (Lp n x h (sg x h 0) ((sg x h 0).b + 1)) (upE h 0), fun j => ?_⟩
  have v0 := P.even 0
  have v1 := P.even (0 + 1)
  have e0 := sg_ends x h 0
  induction j with
  | zero =>
    intro hj T a1 a2 g
    rw [P.along' hj a1 a2 (T' := (sg x h 0).b + 1) (by omega) (by omega) g (P.free_odd (by omega))]
  | succ j ih =>
    intro hj T a1 a2 g
    obtain ⟨S, S', b1, b2, b3, c1, c2, c3, e⟩ := P.step hj
    rw [P.along' hj a1 a2 c1 c2 g c3, ← e]
    exact ih (by omega) S b1 b2 b3
end
end Go.Proofs.YtabdffponmmhoaaGreatDoor
namespace Go.Proofs.YtabdffponmmhoaaGreatDoor

/-! sums -/
def tot (f : Nat → Int) : Nat → Int
  | 0 => 0
  | n + 1 => tot f n + f n
theorem tot_congr {f g : Nat → Int} : ∀ {n : Nat}, (∀ i, i < n → f i = g i) → tot f n = tot g n
  | 0, _ => rfl
  | n + 1, h => by
    unfold tot
    rw [tot_congr fun i hi => h i (Nat.lt_succ_of_lt hi), h n (Nat.lt_succ_self n)]
theorem tot_add (f g : Nat → Int) : ∀ n : Nat, tot (fun i => f i + g i) n = tot f n + tot g n
  | 0 => rfl
  | n + 1 => by unfold tot; rw [tot_add f g n]; omega
theorem tot_mul (c : Int) (f : Nat → Int) : ∀ n : Nat, tot (fun i => c * f i) n = c * tot f n
  | 0 => by simp [tot]
  | n + 1 => by unfold tot; rw [tot_mul c f n, Int.mul_add]
theorem tot_zero : ∀ n : Nat, tot (fun _ => 0) n = 0
  | 0 => rfl
  | n + 1 => by unfold tot; rw [tot_zero n]; rfl
theorem tot_swap (F : Nat → Nat → Int) (n : Nat) : ∀ M : Nat, tot (fun k => tot (fun i => F k i) n) M = tot (fun i => tot (fun k => F k i) M) n
  | 0 => by simp [tot, tot_zero]
  | M + 1 => by
    rw [tot, tot_swap F n M, ← tot_add]; rfl
theorem tot_step (f : Nat → Int) : ∀ n : Nat, tot (fun i => f (i + 1) - f i) n = f n - f 0
  | 0 => by simp [tot]
  | n + 1 => by unfold tot; rw [tot_step f n]; omega
theorem tot_nonneg {f : Nat → Int} : ∀ {n : Nat}, (∀ i, i < n → 0 ≤ f i) → 0 ≤ tot f n
  | 0, _ => Int.le_refl _
  | n + 1, h => by
    unfold tot
    have := tot_nonneg (n := n) fun i hi => h i (Nat.lt_succ_of_lt hi)
    have := h n (Nat.lt_succ_self n)
    omega
theorem tot_pos {f : Nat → Int} {k : Nat} (hk : 0 < f k) : ∀ {n : Nat}, k < n → (∀ i, i < n → 0 ≤ f i) → 0 < tot f n
  | 0, h, _ => absurd h (Nat.not_lt_zero _)
  | n + 1, hl, h => by
    unfold tot
    have h1 := tot_nonneg (n := n) fun i hi => h i (Nat.lt_succ_of_lt hi)
    have h2 := h n (Nat.lt_succ_self n)
    by_cases e : k = n
    · subst e; omega
    · have := tot_pos hk (n := n) (by omega) fun i hi => h i (Nat.lt_succ_of_lt hi)
      omega
theorem tot_filter (p : Nat → Bool) (f : Nat → Int) : ∀ n : Nat, (((List.range n).filter p).map f).sum = tot (fun i => if p i = true then f i else 0) n
  | 0 => rfl
  | n + 1 => by
    rw [List.range_succ, List.filter_append, List.map_append, List.sum_append, tot_filter p f n, tot]
    cases h : p n <;> simp [h]

/-! sums of alternating signs -/
theorem sum_perm {l l' : List Int} (h : l.Perm l') : l.sum = l'.sum := by
  induction h with
  | nil => rfl
  | cons x _ ih => simp [ih]
  | swap x y l => simp; omega
  | trans _ _ ih1 ih2 => exact ih1.trans ih2
/-- each number with the sign of how many are less -/
def altL (l : List Int) : Int := (l.map fun x => if l.countP (fun y => decide (y < x)) % 2 = 1 then x else -x).sum
theorem altL_perm {l l' : List Int} (h : l.Perm l') : altL l = altL l' := by
  unfold altL
  rw [show (fun x => if l.countP (fun y => decide (y < x)) % 2 = 1 then x else -x) = (fun x => if l'.countP (fun y => decide (y < x)) % 2 = 1 then x else -x) from funext fun x => by rw [h.countP_eq]]
  exact sum_perm (h.map _)
def altS : Nat → List Int → Int
  | _, [] => 0
  | k, x :: l => (if k % 2 = 1 then x else -x) + altS (k + 1) l
theorem altL_sorted (suf : List Int) : ∀ pre : List Int, (pre ++ suf).Pairwise (· < ·) → (suf.map fun x => if (pre ++ suf).countP (fun y => decide (y < x)) % 2 = 1 then x else -x).sum = altS pre.length suf := by
  induction suf with
  | nil => intro pre _; rfl
  | cons x suf ih =>
    intro pre hp
    have e : pre ++ x :: suf = (pre ++ [x]) ++ suf := by simp
    have := ih (pre ++ [x]) (by rw [← e]; exact hp)
    rw [← e] at this
    rw [List.map_cons, List.sum_cons, this, List.length_append, List.length_singleton, altS]
    have hc : (pre ++ x :: suf).countP (fun y => decide (y < x)) = pre.length := by
      rw [List.pairwise_append] at hp
      obtain ⟨h1, h2, h3⟩ := hp
      rw [List.pairwise_cons] at h2
      rw [List.countP_append, List.countP_cons, List.countP_eq_length.2 (fun y hy => by simpa using h3 y hy x (by simp)), List.countP_eq_zero.2 (fun y hy => by have := h2.1 y hy; simp; omega)]
      simp
    rw [hc]
theorem altS_pos : ∀ (m k : Nat) (l : List Int), l.length = 2 * m → k % 2 = 0 → l.Pairwise (· < ·) → 0 ≤ altS k l ∧ (l ≠ [] → 0 < altS k l)
  | 0, k, l, hl, _, _ => by
    obtain rfl : l = [] := List.length_eq_zero_iff.1 (by omega)
    simp [altS]
  | m + 1, k, [], hl, _, _ => by simp at hl
  | m + 1, k, [x], hl, _, _ => by simp at hl; omega
  | m + 1, k, x :: y :: l, hl, hk, hp => by
    rw [List.pairwise_cons, List.pairwise_cons] at hp
    have := (altS_pos m (k + 1 + 1) l (by simp at hl; omega) (by omega) hp.2.2).1
    have hxy := hp.1 y (by simp)
    simp only [altS, if_neg (show ¬ k % 2 = 1 by omega), if_pos (show (k + 1) % 2 = 1 by omega)]
    omega
theorem altL_pos {l : List Int} (hn : l.Pairwise (· ≠ ·)) (hl : l.length % 2 = 0) : 0 ≤ altL l ∧ (l ≠ [] → 0 < altL l) := by
  have hp : (l.mergeSort fun a b => decide (a ≤ b)).Perm l := List.mergeSort_perm _ _
  have hs : (l.mergeSort fun a b => decide (a ≤ b)).Pairwise (fun a b => decide (a ≤ b) = true) := List.pairwise_mergeSort (by intro a b c; simp; omega) (by intro a b; simp; omega) _
  have hd : (l.mergeSort fun a b => decide (a ≤ b)).Pairwise (· ≠ ·) := (hp.pairwise_iff (fun h => Ne.symm h)).2 hn
  have ho : (l.mergeSort fun a b => decide (a ≤ b)).Pairwise (· < ·) := (hs.and hd).imp (fun ⟨a, b⟩ => by simp at a; omega)
  rw [← altL_perm hp]
  have e := altL_sorted (l.mergeSort fun a b => decide (a ≤ b)) [] (by simpa using ho)
  rw [List.nil_append] at e
  rw [show altL (l.mergeSort fun a b => decide (a ≤ b)) = altS 0 (l.mergeSort fun a b => decide (a ≤ b)) from e]
  have hq := altS_pos (l.length / 2) 0 (l.mergeSort fun a b => decide (a ≤ b)) (by rw [hp.length_eq]; omega) rfl ho
  refine ⟨hq.1, fun hne => hq.2 fun h0 => hne ?_⟩
  rw [h0] at hp
  exact hp.symm.eq_nil
end Go.Proofs.YtabdffponmmhoaaGreatDoor
namespace Go.Proofs.YtabdffponmmhoaaGreatDoor

/-- the area under an edge, in slices -/
theorem slices (a c B : Int) (β δ : Nat) (hbd : β < δ) (f : Nat → Int) (hf : ∀ k : Nat, f k = if B + 2 * (β : Int) < B + 2 * (k : Int) + 1 ∧ B + 2 * (k : Int) + 1 < B + 2 * (δ : Int) then Seg.nm ⟨a, B + 2 * (β : Int), c, B + 2 * (δ : Int)⟩ (B + 2 * (k : Int) + 1) else 0) (K : Nat) :
    tot f K = a * (2 * ((δ : Int) - β)) * (max 0 (min (K : Int) δ - β)) + (c - a) * (max 0 (min (K : Int) δ - β) * max 0 (min (K : Int) δ - β)) := by
  induction K with
  | zero => simp [tot, show max 0 (min (0 : Int) δ - β) = 0 by omega]
  | succ K ih =>
    rw [tot, ih, hf K]
    by_cases h1 : K < β
    · rw [if_neg (by omega), show max 0 (min (K : Int) δ - β) = 0 by omega, show max 0 (min ((K + 1 : Nat) : Int) δ - β) = 0 by omega]; simp
    · by_cases h2 : K < δ
      · rw [if_pos (by omega), show max 0 (min (K : Int) δ - β) = (K : Int) - β by omega, show max 0 (min ((K + 1 : Nat) : Int) δ - β) = (K : Int) - β + 1 by omega]
        unfold Seg.nm Seg.ad
        simp only
        generalize (K : Int) = k
        generalize (β : Int) = b
        generalize (δ : Int) = d
        grind
      · rw [if_neg (by omega), show max 0 (min (K : Int) δ - β) = (δ : Int) - β by omega, show max 0 (min ((K + 1 : Nat) : Int) δ - β) = (δ : Int) - β by omega]; simp
theorem slices_all (s : Seg) (B : Int) (M : Nat) (h : s.b < s.d) (hB : B ≤ s.b) (hM : s.d ≤ B + 2 * (M : Int)) (e0 : B % 2 = 0) (e1 : s.b % 2 = 0) (e2 : s.d % 2 = 0) :
    4 * tot (fun k => if s.b < B + 2 * (k : Int) + 1 ∧ B + 2 * (k : Int) + 1 < s.d then s.nm (B + 2 * (k : Int) + 1) else 0) M = s.ad * (s.ad * (s.a + s.c)) := by
  obtain ⟨a, b, c, d⟩ := s
  simp only at h hB hM e1 e2 ⊢
  obtain ⟨β, hβ⟩ : ∃ β : Nat, b = B + 2 * (β : Int) := ⟨((b - B) / 2).toNat, by omega⟩
  obtain ⟨δ, hδ⟩ : ∃ δ : Nat, d = B + 2 * (δ : Int) := ⟨((d - B) / 2).toNat, by omega⟩
  subst hβ hδ
  rw [slices a c B β δ (by omega) _ (fun k => rfl) M, show max 0 (min (M : Int) δ - β) = (δ : Int) - β by omega]
  unfold Seg.ad
  simp only
  grind

/-- a common multiple -/
def prodTo (f : Nat → Int) : Nat → Int
  | 0 => 1
  | n + 1 => prodTo f n * f n
theorem prodTo_pos {f : Nat → Int} : ∀ {n : Nat}, (∀ i, i < n → 0 < f i) → 0 < prodTo f n
  | 0, _ => by simp [prodTo]
  | n + 1, h => by
    unfold prodTo
    exact Int.mul_pos (prodTo_pos fun i hi => h i (Nat.lt_succ_of_lt hi)) (h n (Nat.lt_succ_self n))
theorem prodTo_mul {f : Nat → Int} {j : Nat} : ∀ {n : Nat}, j < n → ∃ q, q * f j = prodTo f n
  | 0, h => absurd h (Nat.not_lt_zero _)
  | n + 1, h => by
    unfold prodTo
    by_cases e : j = n
    · subst e; exact ⟨_, rfl⟩
    · obtain ⟨q, hq⟩ := prodTo_mul (f := f) (n := n) (j := j) (by omega)
      exact ⟨q * f n, by rw [← hq]; grind⟩

/-- edge i reaches over height T -/
def spn (x h : Nat → Int) (T : Int) (i : Nat) : Bool := decide ((sg x h i).b < T ∧ T < (sg x h i).d)
theorem spn_eq {x h : Nat → Int} {T : Int} {i : Nat} (h1 : h i ≠ T) (h2 : h (i + 1) ≠ T) : spn x h T i = xor (decide (h i < T)) (decide (h (i + 1) < T)) := by
  have := sg_ends x h i
  unfold spn
  by_cases c1 : h i < T <;> by_cases c2 : h (i + 1) < T
  all_goals simp only [c1, c2, decide_true, decide_false, Bool.xor_true, Bool.xor_false, Bool.not_true, Bool.not_false]
  · rw [decide_eq_false_iff_not]; omega
  · rw [decide_eq_true_eq]; omega
  · rw [decide_eq_true_eq]; omega
  · rw [decide_eq_false_iff_not]; omega
section
variable {n : Nat} {x h : Nat → Int}
/-- an even number of edges reaches over a height -/
theorem spn_even (hc : h n = h 0) {T : Int} (g : Free n h T) : xs (spn x h T) n = false := by
  rw [xs_congr (Q := fun i => xor (decide (h i < T)) (decide (h (i + 1) < T))) (fun i hi => spn_eq (g i (by omega)) (g (i + 1) (by omega)))]
  exact xs_round (P := fun i => decide (h i < T)) (by rw [hc])
/-- twice the area -/
def areaP (n : Nat) (x h : Nat → Int) : Int := tot (fun j => x j * h (j + 1) - x (j + 1) * h j) n
theorem area_slices (hx : x n = x 0) (hh : h n = h 0) : tot (fun j => (h (j + 1) - h j) * (x j + x (j + 1))) n = areaP n x h := by
  unfold areaP
  rw [tot_congr (g := fun j => (x j * h (j + 1) - x (j + 1) * h j) + (x (j + 1) * h (j + 1) - x j * h j)) (fun j _ => by grind), tot_add, tot_step (fun j => x j * h j) n, hx, hh]
  omega
/-- at one height -/
theorem Poly.slice (P : Poly n x h) {D : Int} (hD : 0 < D) {q : Nat → Int} (hq : ∀ j, j < n → q j * (sg x h j).ad = D) {T : Int} (g : Free n h T) :
    0 ≤ tot (fun j => if spn x h T j = true then (if Lp n x h (sg x h j) T = true then q j * (sg x h j).nm T else -(q j * (sg x h j).nm T)) else 0) n ∧
    ((∃ j, j < n ∧ spn x h T j = true) → 0 < tot (fun j => if spn x h T j = true then (if Lp n x h (sg x h j) T = true then q j * (sg x h j).nm T else -(q j * (sg x h j).nm T)) else 0) n) := by
  obtain ⟨X, hX⟩ : ∃ X : Nat → Int, X = fun j => q j * (sg x h j).nm T := ⟨_, rfl⟩
  have hXj : ∀ j, q j * (sg x h j).nm T = X j := fun j => by rw [hX]
  have had : ∀ j, j < n → 0 < (sg x h j).ad := fun j hj => by have := sg_lt (x := x) (P.ne hj); unfold Seg.ad; omega
  have cmp : ∀ i j, i < n → j < n → (X i < X j ↔ 0 < dl (sg x h j) (sg x h i) T) ∧ (X i = X j ↔ dl (sg x h j) (sg x h i) T = 0) := fun i j hi hj => by
    have pi := had i hi
    have pj := had j hj
    have e : (sg x h i).ad * ((sg x h j).ad * (X j - X i)) = D * dl (sg x h j) (sg x h i) T := by
      rw [← hXj, ← hXj]
      unfold dl
      have h1 := hq i hi
      have h2 := hq j hj
      grind
    have m1 := pos_mul (y := (sg x h j).ad * (X j - X i)) pi
    have m2 := pos_mul (y := X j - X i) pj
    have m3 := pos_mul (y := dl (sg x h j) (sg x h i) T) hD
    rw [e] at m1
    omega
  simp only [hXj]
  obtain ⟨l, hl⟩ : ∃ l : List Int, l = ((List.range n).filter (spn x h T)).map X := ⟨_, rfl⟩
  have hcount : ∀ j, j < n → (l.countP (fun y => decide (y < X j)) % 2 = 1 ↔ Lp n x h (sg x h j) T = true) := fun j hj => by
    unfold Lp
    rw [xs_count, decide_eq_true_eq, hl, List.countP_map, List.countP_filter]
    rw [List.countP_congr (q := fun i => spL x h (sg x h j) T i) (fun i hi => ?_)]
    have := cmp i j (List.mem_range.1 hi) hj
    unfold spn spL
    simp [this.1, and_assoc, and_comm, and_left_comm]
  have halt : altL l = tot (fun j => if spn x h T j = true then (if Lp n x h (sg x h j) T = true then X j else -X j) else 0) n := by
    unfold altL
    rw [show l.map (fun x => if l.countP (fun y => decide (y < x)) % 2 = 1 then x else -x) = ((List.range n).filter (spn x h T)).map (fun j => if l.countP (fun y => decide (y < X j)) % 2 = 1 then X j else -X j) by
      conv => lhs; arg 2; rw [hl]
      rw [List.map_map]; rfl]
    rw [tot_filter]
    refine tot_congr fun j hj => ?_
    by_cases hs : spn x h T j = true
    · rw [if_pos hs, if_pos hs]
      by_cases hp : Lp n x h (sg x h j) T = true
      · rw [if_pos ((hcount j hj).2 hp), if_pos hp]
      · rw [if_neg (fun c => hp ((hcount j hj).1 c)), if_neg hp]
    · rw [if_neg hs, if_neg hs]
  have hnd : l.Pairwise (· ≠ ·) := by
    rw [hl, List.pairwise_map]
    refine (List.Pairwise.filter _ (List.nodup_range (n := n))).imp_of_mem fun {i j} hi hj hne => ?_
    rw [List.mem_filter, List.mem_range] at hi hj
    intro e
    have z := (cmp i j hi.1 hj.1).2.1 e
    have s1 := hi.2
    have s2 := hj.2
    unfold spn at s1 s2
    rw [decide_eq_true_eq] at s1 s2
    exact (P.meet j i hj.1 hi.1 (Ne.symm hne) T T s2.1 s2.2 (by omega) (by omega) s2.1 s2.2 (by omega) (by omega)).1 z
  have hev : l.length % 2 = 0 := by
    have := spn_even (x := x) P.ph g
    rw [xs_count, decide_eq_false_iff_not, List.countP_eq_length_filter] at this
    rw [hl, List.length_map]
    omega
  have key := altL_pos hnd hev
  rw [halt] at key
  refine ⟨key.1, fun ⟨j, hj, hs⟩ => key.2 ?_⟩
  rw [hl]
  exact List.ne_nil_of_mem (List.mem_map.2 ⟨j, List.mem_filter.2 ⟨List.mem_range.2 hj, hs⟩, rfl⟩)
theorem tot_neg (f : Nat → Int) (n : Nat) : tot (fun i => -f i) n = -tot f n := by
  have := tot_mul (-1) f n
  rw [tot_congr (g := fun i => -1 * f i) (fun i _ => by omega), this]
  omega
/-- some even number that is not greater than any height, and how far it is to the greatest -/
theorem heights (h : Nat → Int) : ∀ n : Nat, ∃ (B : Int) (M : Nat), B % 2 = 0 ∧ ∀ i, i ≤ n → B ≤ h i ∧ h i ≤ B + 2 * (M : Int)
  | 0 => ⟨h 0 - h 0 % 2, 1, by omega, fun i hi => by obtain rfl : i = 0 := by omega
                                                     omega⟩
  | n + 1 => by
    obtain ⟨B, M, hB, ha⟩ := heights h n
    refine ⟨min B (h (n + 1) - h (n + 1) % 2), (max (B + 2 * (M : Int)) (h (n + 1) + 1) - min B (h (n + 1) - h (n + 1) % 2)).toNat, by omega, fun i hi => ?_⟩
    by_cases e : i = n + 1
    · subst e; omega
    · have := ha i (by omega)
      omega
/-- the sign of the area tells which side is inside -/
theorem Poly.area (P : Poly n x h) : ∃ c : Bool, (∀ j, j < n → ∀ T, (sg x h j).b < T → T < (sg x h j).d → Free n h T → xor (Lp n x h (sg x h j) T) (upE h j) = c) ∧
    (c = false → 0 < areaP n x h) ∧ (c = true → areaP n x h < 0) := by
  obtain ⟨c, hc⟩ := P.const
  refine ⟨c, hc, ?_⟩
  have hsl : ∀ j, j < n → (sg x h j).b < (sg x h j).d := fun j hj => sg_lt (P.ne hj)
  have had : ∀ j, j < n → 0 < (sg x h j).ad := fun j hj => by have := hsl j hj; unfold Seg.ad; omega
  obtain ⟨D, hDe⟩ : ∃ D, D = prodTo (fun j => (sg x h j).ad) n := ⟨_, rfl⟩
  have hD : 0 < D := hDe ▸ prodTo_pos had
  have hq' : ∀ j, ∃ q : Int, j < n → q * (sg x h j).ad = D := fun j => by
    by_cases hj : j < n
    · obtain ⟨q, hq⟩ := prodTo_mul (f := fun j => (sg x h j).ad) hj
      exact ⟨q, fun _ => hDe ▸ hq⟩
    · exact ⟨0, fun h => absurd h hj⟩
  let q : Nat → Int := fun j => (hq' j).choose
  have hq : ∀ j, j < n → q j * (sg x h j).ad = D := fun j hj => (hq' j).choose_spec hj
  obtain ⟨B, M, hB, hr⟩ := heights h n
  have hends : ∀ j, j < n → B ≤ (sg x h j).b ∧ (sg x h j).d ≤ B + 2 * (M : Int) ∧ (sg x h j).b % 2 = 0 ∧ (sg x h j).d % 2 = 0 := fun j hj => by
    have r1 := hr j (by omega)
    have r2 := hr (j + 1) (by omega)
    have v1 := P.even j
    have v2 := P.even (j + 1)
    have := sg_ends x h j
    omega
  -- the sum over all heights of the signed widths
  obtain ⟨V, hV⟩ : ∃ V : Nat → Int, V = fun k : Nat => tot (fun j => if spn x h (B + 2 * (k : Int) + 1) j = true then (if upE h j = true then q j * (sg x h j).nm (B + 2 * (k : Int) + 1) else -(q j * (sg x h j).nm (B + 2 * (k : Int) + 1))) else 0) n := ⟨_, rfl⟩
  have hsum : 4 * tot V M = D * areaP n x h := by
    rw [hV, tot_swap, ← tot_mul, ← area_slices P.px P.ph, ← tot_mul]
    refine tot_congr fun j hj => ?_
    have hs := slices_all (sg x h j) B M (hsl j hj) (hends j hj).1 (hends j hj).2.1 hB (hends j hj).2.2.1 (hends j hj).2.2.2
    have he := sg_ends x h j
    have hqj := hq j hj
    by_cases u : upE h j = true
    · rw [tot_congr (g := fun k : Nat => q j * (if (sg x h j).b < B + 2 * (k : Int) + 1 ∧ B + 2 * (k : Int) + 1 < (sg x h j).d then (sg x h j).nm (B + 2 * (k : Int) + 1) else 0)) (fun k _ => by
        unfold spn; simp only [decide_eq_true_eq, if_pos u]; split <;> first | rfl | simp), tot_mul]
      have hu : h j < h (j + 1) := by unfold upE at u; simpa using u
      rw [show 4 * (q j * tot (fun k : Nat => if (sg x h j).b < B + 2 * (k : Int) + 1 ∧ B + 2 * (k : Int) + 1 < (sg x h j).d then (sg x h j).nm (B + 2 * (k : Int) + 1) else 0) M) = (q j * (sg x h j).ad) * ((sg x h j).ad * ((sg x h j).a + (sg x h j).c)) by rw [Int.mul_assoc, ← hs]; grind, hqj]
      rw [sg_up hu]
      unfold Seg.ad
      simp only
    · rw [tot_congr (g := fun k : Nat => (-q j) * (if (sg x h j).b < B + 2 * (k : Int) + 1 ∧ B + 2 * (k : Int) + 1 < (sg x h j).d then (sg x h j).nm (B + 2 * (k : Int) + 1) else 0)) (fun k _ => by
        unfold spn; simp only [decide_eq_true_eq, if_neg u]; split; exact (Int.neg_mul ..).symm; exact (Int.mul_zero _).symm), tot_mul]
      have hu : ¬ h j < h (j + 1) := by unfold upE at u; simpa using u
      rw [show 4 * (-q j * tot (fun k : Nat => if (sg x h j).b < B + 2 * (k : Int) + 1 ∧ B + 2 * (k : Int) + 1 < (sg x h j).d then (sg x h j).nm (B + 2 * (k : Int) + 1) else 0) M) = -((q j * (sg x h j).ad) * ((sg x h j).ad * ((sg x h j).a + (sg x h j).c))) by rw [Int.mul_assoc, ← hs]; grind, hqj]
      rw [sg_down hu]
      unfold Seg.ad
      simp only
      grind
  have hfree : ∀ k : Nat, Free n h (B + 2 * (k : Int) + 1) := fun k => P.free_odd (by omega)
  have hrel : ∀ k : Nat, V k = (if c = true then -1 else 1) * tot (fun j => if spn x h (B + 2 * (k : Int) + 1) j = true then (if Lp n x h (sg x h j) (B + 2 * (k : Int) + 1) = true then q j * (sg x h j).nm (B + 2 * (k : Int) + 1) else -(q j * (sg x h j).nm (B + 2 * (k : Int) + 1))) else 0) n := fun k => by
    rw [hV, ← tot_mul]
    refine tot_congr fun j hj => ?_
    by_cases hs : spn x h (B + 2 * (k : Int) + 1) j = true
    · rw [if_pos hs, if_pos hs]
      have hs' := hs
      unfold spn at hs'
      rw [decide_eq_true_eq] at hs'
      have := hc j hj _ hs'.1 hs'.2 (hfree k)
      revert this
      cases c <;> cases upE h j <;> cases Lp n x h (sg x h j) (B + 2 * (k : Int) + 1) <;> simp
    · rw [if_neg hs, if_neg hs]; simp
  -- some height has an edge over it
  have n0 : 0 < n := by have := P.n2; omega
  have h0 := hends 0 n0
  have l0 := hsl 0 n0
  obtain ⟨k0, hk0⟩ : ∃ k0 : Nat, (sg x h 0).b + 1 = B + 2 * (k0 : Int) + 1 := ⟨(((sg x h 0).b - B) / 2).toNat, by omega⟩
  have hk0M : k0 < M := by omega
  have hsp : spn x h (B + 2 * (k0 : Int) + 1) 0 = true := by unfold spn; rw [decide_eq_true_eq]; omega
  have S := fun k : Nat => P.slice hD hq (hfree k)
  constructor
  · rintro rfl
    have : 0 < tot V M := by
      refine tot_pos (k := k0) ?_ hk0M fun k _ => ?_
      · rw [hrel]; have := (S k0).2 ⟨0, n0, hsp⟩; simp; omega
      · rw [hrel]; have := (S k).1; simp; omega
    exact (pos_mul (y := areaP n x h) hD).1.1 (by omega)
  · rintro rfl
    have : 0 < tot (fun k => -V k) M := by
      refine tot_pos (k := k0) ?_ hk0M fun k _ => ?_
      · rw [hrel]; have := (S k0).2 ⟨0, n0, hsp⟩; simp; omega
      · rw [hrel]; have := (S k).1; simp; omega
    rw [tot_neg] at this
    exact (pos_mul (y := areaP n x h) hD).2.1.1 (by omega)
end
end Go.Proofs.YtabdffponmmhoaaGreatDoor
namespace Go.Proofs.YtabdffponmmhoaaGreatDoor

/-- a height that tells all points apart -/
def hgt (x z : Int) : Int := 2 * (5000 * z - x)
def mkSeg (ax az bx bz : Int) : Seg := if hgt ax az < hgt bx bz then ⟨ax, hgt ax az, bx, hgt bx bz⟩ else ⟨bx, hgt bx bz, ax, hgt ax az⟩
theorem mkSeg_up {ax az bx bz : Int} (u : hgt ax az < hgt bx bz) : mkSeg ax az bx bz = ⟨ax, hgt ax az, bx, hgt bx bz⟩ := if_pos u
theorem mkSeg_down {ax az bx bz : Int} (u : ¬ hgt ax az < hgt bx bz) : mkSeg ax az bx bz = ⟨bx, hgt bx bz, ax, hgt ax az⟩ := if_neg u
/-- a point within bounds -/
def bdP (x z : Int) : Prop := -1000 ≤ x ∧ x ≤ 1000 ∧ -1000 ≤ z ∧ z ≤ 1000
theorem bdP_of {x z : Int} (h : okP x z = true) : bdP x z := by
  simp [okP, inB] at h
  unfold bdP; omega
theorem hgt_inj {ax az bx bz : Int} (h : bdP ax az) (h' : bdP bx bz) (e : hgt ax az = hgt bx bz) : ax = bx ∧ az = bz := by
  unfold bdP at h h'
  unfold hgt at e
  omega
/-- of opposite signs -/
def opp (x y : Int) : Prop := x < 0 ∧ 0 < y ∨ 0 < x ∧ y < 0
theorem opp.symm {x y : Int} (h : opp x y) : opp y x := by unfold opp at *; omega
theorem sgn_opp (x y : Int) : sgn x * sgn y < 0 ↔ opp x y := by
  unfold opp sgn
  rcases Int.lt_trichotomy x 0 with h | h | h <;> rcases Int.lt_trichotomy y 0 with h' | h' | h'
  all_goals (first
    | (rw [show max (-1) (min 1 x) = -1 by omega, show max (-1) (min 1 y) = -1 by omega]; omega)
    | (rw [show max (-1) (min 1 x) = -1 by omega, show max (-1) (min 1 y) = 0 by omega]; omega)
    | (rw [show max (-1) (min 1 x) = -1 by omega, show max (-1) (min 1 y) = 1 by omega]; omega)
    | (rw [show max (-1) (min 1 x) = 0 by omega]; omega)
    | (rw [show max (-1) (min 1 x) = 1 by omega, show max (-1) (min 1 y) = -1 by omega]; omega)
    | (rw [show max (-1) (min 1 x) = 1 by omega, show max (-1) (min 1 y) = 0 by omega]; omega)
    | (rw [show max (-1) (min 1 x) = 1 by omega, show max (-1) (min 1 y) = 1 by omega]; omega))
def turnZ (ax az bx bz x z : Int) : Int := (bx - ax) * (z - az) - (bz - az) * (x - ax)
theorem turnW_Z {ax az bx bz x z : Int} (ha : bdP ax az) (hb : bdP bx bz) (h : bdP x z) : turnW ax az bx bz x z = turnZ ax az bx bz x z :=
  turnW_eq ⟨ha.1, ha.2.1⟩ ha.2.2 ⟨hb.1, hb.2.1⟩ hb.2.2 ⟨h.1, h.2.1⟩ h.2.2
theorem tz_mk (ax az bx bz x z : Int) : (hgt ax az < hgt bx bz ∧ (mkSeg ax az bx bz).tz x (hgt x z) = 10000 * turnZ ax az bx bz x z) ∨ (¬ hgt ax az < hgt bx bz ∧ (mkSeg ax az bx bz).tz x (hgt x z) = -(10000 * turnZ ax az bx bz x z)) := by
  by_cases u : hgt ax az < hgt bx bz
  · refine .inl ⟨u, ?_⟩
    rw [mkSeg_up u]
    unfold Seg.tz turnZ hgt
    simp only
    grind
  · refine .inr ⟨u, ?_⟩
    rw [mkSeg_down u]
    unfold Seg.tz turnZ hgt
    simp only
    grind
theorem betw' {X Y Z D t : Int} (hD : 0 < D) (ht : 0 ≤ t) (htD : t ≤ D) (e : (X - Y) * D = (Z - Y) * t) : min Y Z ≤ X ∧ X ≤ max Y Z := by
  have := betw hD ht htD e
  omega
theorem on_mk {ax az bx bz x z : Int} (ha : bdP ax az) (hb : bdP bx bz) (hp : bdP x z) (hne : hgt ax az ≠ hgt bx bz) (h : (mkSeg ax az bx bz).on x (hgt x z)) : onW ax az bx bz x z = true := by
  obtain ⟨h0, h1, h2⟩ := h
  have ht := tz_mk ax az bx bz x z
  have t0 : turnW ax az bx bz x z = 0 := by rw [turnW_Z ha hb hp]; omega
  have key : (min ax bx ≤ x ∧ x ≤ max ax bx) ∧ (min az bz ≤ z ∧ z ≤ max az bz) := by
    by_cases u : hgt ax az < hgt bx bz
    · rw [mkSeg_up u] at h0 h1 h2
      unfold Seg.tz at h0
      simp only at h0 h1 h2
      refine ⟨betw' (D := hgt bx bz - hgt ax az) (t := hgt x z - hgt ax az) (by omega) (by omega) (by omega) (by grind), betw' (D := hgt bx bz - hgt ax az) (t := hgt x z - hgt ax az) (by omega) (by omega) (by omega) ?_⟩
      unfold hgt at h0 ⊢
      grind
    · rw [mkSeg_down u] at h0 h1 h2
      unfold Seg.tz at h0
      simp only at h0 h1 h2
      rw [Int.min_comm ax, Int.max_comm ax, Int.min_comm az, Int.max_comm az]
      refine ⟨betw' (D := hgt ax az - hgt bx bz) (t := hgt x z - hgt bx bz) (by omega) (by omega) (by omega) (by grind), betw' (D := hgt ax az - hgt bx bz) (t := hgt x z - hgt bx bz) (by omega) (by omega) (by omega) ?_⟩
      unfold hgt at h0 ⊢
      grind
  simp only [onW, inB, t0]
  simp
  omega
theorem mk_ends (ax az bx bz : Int) : ((mkSeg ax az bx bz).a = ax ∧ (mkSeg ax az bx bz).b = hgt ax az ∧ (mkSeg ax az bx bz).c = bx ∧ (mkSeg ax az bx bz).d = hgt bx bz ∧ hgt ax az < hgt bx bz) ∨
    ((mkSeg ax az bx bz).a = bx ∧ (mkSeg ax az bx bz).b = hgt bx bz ∧ (mkSeg ax az bx bz).c = ax ∧ (mkSeg ax az bx bz).d = hgt ax az ∧ ¬ hgt ax az < hgt bx bz) := by
  by_cases u : hgt ax az < hgt bx bz
  · rw [mkSeg_up u]; exact .inl ⟨rfl, rfl, rfl, rfl, u⟩
  · rw [mkSeg_down u]; exact .inr ⟨rfl, rfl, rfl, rfl, u⟩
theorem mk_lt {ax az bx bz : Int} (hne : hgt ax az ≠ hgt bx bz) : (mkSeg ax az bx bz).b < (mkSeg ax az bx bz).d := by
  have := mk_ends ax az bx bz
  omega
/-- what the test says of two edges -/
theorem crossW_apart {ax az bx bz cx cz dx dz : Int} (ha : bdP ax az) (hb : bdP bx bz) (hc : bdP cx cz) (hd : bdP dx dz) (hn : hgt ax az ≠ hgt bx bz) (hn' : hgt cx cz ≠ hgt dx dz)
    (h : crossW ax az bx bz cx cz dx dz = false) : ApartS (mkSeg ax az bx bz) (mkSeg cx cz dx dz) := by
  simp only [crossW, Bool.or_eq_false_iff, Bool.and_eq_false_iff, decide_eq_false_iff_not] at h
  obtain ⟨⟨⟨⟨o1, o2⟩, o3⟩, o4⟩, o5⟩ := h
  rw [sgn_opp, sgn_opp] at o5
  rw [turnW_Z ha hb hc, turnW_Z ha hb hd, turnW_Z hc hd ha, turnW_Z hc hd hb] at o5
  have n1 : ¬ (mkSeg ax az bx bz).on cx (hgt cx cz) := fun k => by rw [on_mk ha hb hc hn k] at o1; cases o1
  have n2 : ¬ (mkSeg ax az bx bz).on dx (hgt dx dz) := fun k => by rw [on_mk ha hb hd hn k] at o2; cases o2
  have n3 : ¬ (mkSeg cx cz dx dz).on ax (hgt ax az) := fun k => by rw [on_mk hc hd ha hn' k] at o3; cases o3
  have n4 : ¬ (mkSeg cx cz dx dz).on bx (hgt bx bz) := fun k => by rw [on_mk hc hd hb hn' k] at o4; cases o4
  have t1 := tz_mk ax az bx bz cx cz
  have t2 := tz_mk ax az bx bz dx dz
  have t3 := tz_mk cx cz dx dz ax az
  have t4 := tz_mk cx cz dx dz bx bz
  unfold opp at o5
  have e1 := mk_ends ax az bx bz
  have e2 := mk_ends cx cz dx dz
  unfold ApartS
  rcases e1 with ⟨a1, a2, a3, a4, a5⟩ | ⟨a1, a2, a3, a4, a5⟩ <;> rcases e2 with ⟨b1, b2, b3, b4, b5⟩ | ⟨b1, b2, b3, b4, b5⟩ <;> rw [a1, a2, a3, a4, b1, b2, b3, b4]
  · exact ⟨n1, n2, n3, n4, by omega⟩
  · exact ⟨n2, n1, n3, n4, by omega⟩
  · exact ⟨n1, n2, n4, n3, by omega⟩
  · exact ⟨n2, n1, n4, n3, by omega⟩
/-- two edges that follow one another -/
theorem adj_meet {ax az vx vz bx bz : Int} (hn : hgt ax az ≠ hgt vx vz) (hn' : hgt vx vz ≠ hgt bx bz) (ht : turnZ ax az vx vz bx bz ≠ 0) :
    NoMeet (mkSeg ax az vx vz) (mkSeg vx vz bx bz) ∧ NoMeet (mkSeg vx vz bx bz) (mkSeg ax az vx vz) := by
  have t1 := tz_mk ax az vx vz bx bz
  have t2 := tz_mk vx vz bx bz ax az
  have tc : turnZ vx vz bx bz ax az = turnZ ax az vx vz bx bz := by unfold turnZ; grind
  have e1 := mk_ends ax az vx vz
  have e2 := mk_ends vx vz bx bz
  have l1 := mk_lt hn
  have l2 := mk_lt hn'
  rcases e1 with ⟨a1, a2, a3, a4, a5⟩ | ⟨a1, a2, a3, a4, a5⟩ <;> rcases e2 with ⟨b1, b2, b3, b4, b5⟩ | ⟨b1, b2, b3, b4, b5⟩
  · exact ⟨noMeet_chain (.inl (by omega)), noMeet_chain (.inr (by omega))⟩
  · exact ⟨noMeet_hi l2 (by omega) (by omega) (by rw [b1, b2]; omega), noMeet_hi l1 (by omega) (by omega) (by rw [a1, a2]; omega)⟩
  · exact ⟨noMeet_lo l2 (by omega) (by omega) (by rw [b3, b4]; omega), noMeet_lo l1 (by omega) (by omega) (by rw [a3, a4]; omega)⟩
  · exact ⟨noMeet_chain (.inr (by omega)), noMeet_chain (.inl (by omega))⟩
/-- the corners' places and heights -/
def rx (ps : List (Int × Int)) (i : Nat) : Int := ptx ps i
def rh (ps : List (Int × Int)) (i : Nat) : Int := hgt (ptx ps i) (ptz ps i)
theorem sg_mk (ps : List (Int × Int)) (i : Nat) : sg (rx ps) (rh ps) i = mkSeg (ptx ps i) (ptz ps i) (ptx ps ((i + 1 : Nat) : Int)) (ptz ps ((i + 1 : Nat) : Int)) := rfl
theorem ptx_round (ps : List (Int × Int)) (k : Nat) : ptx ps ((ps.length + k : Nat) : Int) = ptx ps k := by unfold ptx; rw [Int.toNat_natCast, Int.toNat_natCast, Nat.add_mod_left]
theorem ptz_round (ps : List (Int × Int)) (k : Nat) : ptz ps ((ps.length + k : Nat) : Int) = ptz ps k := by unfold ptz; rw [Int.toNat_natCast, Int.toNat_natCast, Nat.add_mod_left]
theorem bd_at {ps : List (Int × Int)} (h : oks ps = true) (k : Int) : bdP (ptx ps k) (ptz ps k) := by
  have h1 := ptx_bd h k
  have h2 := ptz_bd h k
  unfold bdP; omega
/-- a valid ring is a closed way that does not meet itself -/
theorem RingP.poly {ps : List (Int × Int)} (h : RingP ps) : Poly ps.length (rx ps) (rh ps) := by
  obtain ⟨h3, _, ho, ht, hd, ha⟩ := h
  have hne : ∀ i j : Nat, i < ps.length → j < ps.length → i ≠ j → rh ps i ≠ rh ps j := fun i j hi hj hij e => by
    have q := hgt_inj (bd_at ho i) (bd_at ho j) e
    rcases Nat.lt_or_gt_of_ne hij with c | c
    · exact hd j i c hj ⟨q.1.symm, q.2.symm⟩
    · exact hd i j c hi q
  have hx0 : rx ps ps.length = rx ps 0 := ptx_round ps 0
  have hh0 : rh ps ps.length = rh ps 0 := by
    unfold rh
    rw [show ptx ps (ps.length : Int) = ptx ps ((0 : Nat) : Int) from ptx_round ps 0, show ptz ps (ps.length : Int) = ptz ps ((0 : Nat) : Int) from ptz_round ps 0]
  have hnx : ∀ i : Nat, i < ps.length → rh ps i ≠ rh ps (i + 1) := fun i hi => by
    rcases Nat.lt_or_ge (i + 1) ps.length with c | c
    · exact hne i (i + 1) hi c (by omega)
    · rw [show i + 1 = ps.length by omega, hh0]
      exact hne i 0 hi (by omega) (by omega)
  have tz : ∀ i : Nat, i < ps.length → turnZ (ptx ps i) (ptz ps i) (ptx ps ((i + 1 : Nat) : Int)) (ptz ps ((i + 1 : Nat) : Int)) (ptx ps ((i + 2 : Nat) : Int)) (ptz ps ((i + 2 : Nat) : Int)) ≠ 0 := fun i hi => by
    rw [← turnW_Z (bd_at ho _) (bd_at ho _) (bd_at ho _)]
    exact ht i hi
  have both : ∀ i j : Nat, i < j → j < ps.length → NoMeet (sg (rx ps) (rh ps) i) (sg (rx ps) (rh ps) j) ∧ NoMeet (sg (rx ps) (rh ps) j) (sg (rx ps) (rh ps) i) := fun i j hij hj => by
    by_cases e1 : j = i + 1
    · subst e1
      have := adj_meet (hnx i (by omega)) (hnx (i + 1) hj) (tz i (by omega))
      exact this
    · by_cases e2 : i = 0 ∧ j + 1 = ps.length
      · obtain ⟨rfl, e2⟩ := e2
        have a := hnx j hj
        have t := tz j hj
        have b := hnx 0 (by omega)
        rw [show j + 2 = ps.length + 1 by omega] at t
        rw [e2] at a t
        rw [ptx_round ps 1, ptz_round ps 1, show ptx ps (ps.length : Int) = ptx ps ((0 : Nat) : Int) from ptx_round ps 0, show ptz ps (ps.length : Int) = ptz ps ((0 : Nat) : Int) from ptz_round ps 0] at t
        rw [hh0] at a
        have := adj_meet a b t
        rw [sg_mk, sg_mk, e2, show ptx ps (ps.length : Int) = ptx ps ((0 : Nat) : Int) from ptx_round ps 0, show ptz ps (ps.length : Int) = ptz ps ((0 : Nat) : Int) from ptz_round ps 0]
        exact ⟨this.2, this.1⟩
      · have hap := ha i j hij hj
        have hcr : crossI ps i j = false := by
          unfold apB at hap
          simpa [show ¬ (j = i + 1 ∨ i = 0 ∧ j + 1 = ps.length) by omega] using hap
        have hA : ApartS (sg (rx ps) (rh ps) i) (sg (rx ps) (rh ps) j) := crossW_apart (bd_at ho _) (bd_at ho _) (bd_at ho _) (bd_at ho _) (hnx i (by omega)) (hnx j hj) hcr
        exact ⟨hA.noMeet (sg_lt (hnx i (by omega))) (sg_lt (hnx j hj)), hA.symm.noMeet (sg_lt (hnx j hj)) (sg_lt (hnx i (by omega)))⟩
  refine ⟨by omega, hx0, hh0, hne, fun i j hi hj hij => ?_, fun i => by unfold rh hgt; omega⟩
  rcases Nat.lt_or_gt_of_ne hij with c | c
  · exact (both i j c hj).1
  · exact (both j i c hi).2
theorem areaP_ring (ps : List (Int × Int)) : ∀ n : Nat, areaP n (rx ps) (rh ps) = 10000 * areaTo ps n
  | 0 => by simp [areaP, tot, areaTo]
  | n + 1 => by
    have := areaP_ring ps n
    unfold areaP at this ⊢
    rw [tot, this, areaTo]
    unfold rx rh hgt
    grind
/-- the area of a valid ring is not 0 -/
theorem RingP.area {ps : List (Int × Int)} (h : RingP ps) : areaZ ps ≠ 0 := by
  obtain ⟨c, _, h0, h1⟩ := h.poly.area
  rw [areaP_ring] at h0 h1
  unfold areaZ
  cases c
  · have := h0 rfl; omega
  · have := h1 rfl; omega
end Go.Proofs.YtabdffponmmhoaaGreatDoor
