/- Plain geometry: along a closed way that does not meet itself the same side is inside. No program in sight. -/
import Derived.Test.YtdbheipjbjcikaaGreatDoorGA
namespace Go.Proofs.YtdbheipjbjcikaaGreatDoor

/-- an edge of a way -/
def sg (x h : Nat → Int) (i : Nat) : Seg := if h i < h (i + 1) then ⟨x i, h i, x (i + 1), h (i + 1)⟩ else ⟨x (i + 1), h (i + 1), x i, h i⟩
theorem sg_up {x h : Nat → Int} {i : Nat} (u : h i < h (i + 1)) : sg x h i = ⟨x i, h i, x (i + 1), h (i + 1)⟩ := if_pos u
theorem sg_down {x h : Nat → Int} {i : Nat} (u : ¬ h i < h (i + 1)) : sg x h i = ⟨x (i + 1), h (i + 1), x i, h i⟩ := if_neg u
theorem NoMeet.pos {e f : Seg} (hm : NoMeet e f) {T1 T2 : Int} (a1 : e.b < T1) (a2 : T1 < e.d) (a3 : f.b ≤ T1) (a4 : T1 ≤ f.d) (b1 : e.b < T2) (b2 : T2 < e.d) (b3 : f.b ≤ T2) (b4 : T2 ≤ f.d) : (0 < dl e f T1 ↔ 0 < dl e f T2) := by
  have h1 := hm T1 T2 a1 a2 a3 a4 b1 b2 b3 b4
  have h2 := hm T2 T1 b1 b2 b3 b4 a1 a2 a3 a4
  omega
theorem dec_no {A B C : Prop} [Decidable A] [Decidable B] [Decidable C] (h : ¬ (A ∧ B)) : decide (A ∧ B ∧ C) = false := by
  rw [decide_eq_false_iff_not]; exact fun ⟨a, b, _⟩ => h ⟨a, b⟩
theorem dec_yes {A B C : Prop} [Decidable A] [Decidable B] [Decidable C] (h : A ∧ B) : decide (A ∧ B ∧ C) = decide C := by
  simp [h.1, h.2]
theorem dec_iff {A B : Prop} [Decidable A] [Decidable B] (h : A ↔ B) : decide A = decide B := by simp [h]
/-- what of f lies to the left of e at two heights, and which ends of f lie in between -/
theorem band {e f : Seg} {T T' : Int} (hf : f.b < f.d) (hm : NoMeet e f) (h1 : e.b < T) (h2 : T < T') (h3 : T' < e.d) (g1 : f.b ≠ T) (g2 : f.b ≠ T') (g3 : f.d ≠ T) (g4 : f.d ≠ T') :
    xor (decide (f.b < T ∧ T < f.d ∧ 0 < dl e f T)) (decide (f.b < T' ∧ T' < f.d ∧ 0 < dl e f T')) =
    xor (decide (T < f.b ∧ f.b < T' ∧ 0 < dl e f f.b)) (decide (T < f.d ∧ f.d < T' ∧ 0 < dl e f f.d)) := by
  rcases (show f.b < T ∨ (T < f.b ∧ f.b < T') ∨ T' < f.b by omega) with c | c | c <;> rcases (show f.d < T ∨ (T < f.d ∧ f.d < T') ∨ T' < f.d by omega) with d | d | d
  · rw [dec_no (by omega), dec_no (by omega), dec_no (by omega), dec_no (by omega)]
  · rw [dec_yes (by omega), dec_no (by omega), dec_no (by omega), dec_yes (by omega), dec_iff (hm.pos (T1 := T) (T2 := f.d) (by omega) (by omega) (by omega) (by omega) (by omega) (by omega) (by omega) (by omega))]
    simp
  · rw [dec_yes (by omega), dec_yes (by omega), dec_no (by omega), dec_no (by omega), dec_iff (hm.pos (T1 := T) (T2 := T') (by omega) (by omega) (by omega) (by omega) (by omega) (by omega) (by omega) (by omega))]
    simp
  · omega
  · rw [dec_no (by omega), dec_no (by omega), dec_yes (by omega), dec_yes (by omega), dec_iff (hm.pos (T1 := f.b) (T2 := f.d) (by omega) (by omega) (by omega) (by omega) (by omega) (by omega) (by omega) (by omega))]
    simp
  · rw [dec_no (by omega), dec_yes (by omega), dec_yes (by omega), dec_no (by omega), dec_iff (hm.pos (T1 := f.b) (T2 := T') (by omega) (by omega) (by omega) (by omega) (by omega) (by omega) (by omega) (by omega))]
    simp
  · omega
  · omega
  · rw [dec_no (by omega), dec_no (by omega), dec_no (by omega), dec_no (by omega)]
/-- edge i lies to the left of e at height T -/
def spL (x h : Nat → Int) (e : Seg) (T : Int) (i : Nat) : Bool := decide ((sg x h i).b < T ∧ T < (sg x h i).d ∧ 0 < dl e (sg x h i) T)
/-- corner k lies to the left of e, between two heights -/
def inI (x h : Nat → Int) (e : Seg) (T T' : Int) (k : Nat) : Bool := decide (T < h k ∧ h k < T' ∧ x k * e.ad < e.nm (h k))
theorem dl_lo_pos {e f : Seg} (hf : f.b < f.d) : 0 < dl e f f.b ↔ f.a * e.ad < e.nm f.b := by
  rw [dl_tlo, (pos_mul (show 0 < f.ad by unfold Seg.ad; omega)).1, Seg.tz_eq]; omega
theorem dl_hi_pos {e f : Seg} (hf : f.b < f.d) : 0 < dl e f f.d ↔ f.c * e.ad < e.nm f.d := by
  rw [dl_thi, (pos_mul (show 0 < f.ad by unfold Seg.ad; omega)).1, Seg.tz_eq]; omega
theorem sg_lt {x h : Nat → Int} {i : Nat} (hn : h i ≠ h (i + 1)) : (sg x h i).b < (sg x h i).d := by
  by_cases u : h i < h (i + 1)
  · rw [sg_up u]; exact u
  · rw [sg_down u]; show h (i + 1) < h i; omega
theorem edge_band {x h : Nat → Int} {e : Seg} {T T' : Int} {i : Nat} (hn : h i ≠ h (i + 1)) (hm : NoMeet e (sg x h i)) (h1 : e.b < T) (h2 : T < T') (h3 : T' < e.d) (g1 : h i ≠ T) (g2 : h i ≠ T') (g3 : h (i + 1) ≠ T) (g4 : h (i + 1) ≠ T') :
    xor (spL x h e T i) (spL x h e T' i) = xor (inI x h e T T' i) (inI x h e T T' (i + 1)) := by
  have hf := sg_lt (x := x) hn
  have l1 := dl_lo_pos (e := e) hf
  have l2 := dl_hi_pos (e := e) hf
  unfold spL inI
  by_cases u : h i < h (i + 1)
  · rw [sg_up u] at *
    rw [band (f := ⟨x i, h i, x (i + 1), h (i + 1)⟩) hf hm h1 h2 h3 g1 g2 g3 g4, dec_iff (and_congr Iff.rfl (and_congr Iff.rfl l1)), dec_iff (and_congr Iff.rfl (and_congr Iff.rfl l2))]
  · rw [sg_down u] at *
    rw [band (f := ⟨x (i + 1), h (i + 1), x i, h i⟩) hf hm h1 h2 h3 g3 g4 g1 g2, dec_iff (and_congr Iff.rfl (and_congr Iff.rfl l1)), dec_iff (and_congr Iff.rfl (and_congr Iff.rfl l2)), Bool.xor_comm]

/-- a closed way of n corners that does not meet itself; no two corners at one height, all heights even -/
structure Poly (n : Nat) (x h : Nat → Int) : Prop where
  n2 : 2 ≤ n
  px : x n = x 0
  ph : h n = h 0
  dist : ∀ i j, i < n → j < n → i ≠ j → h i ≠ h j
  meet : ∀ i j, i < n → j < n → i ≠ j → NoMeet (sg x h i) (sg x h j)
  even : ∀ i, h i % 2 = 0
section
variable {n : Nat} {x h : Nat → Int}
theorem Poly.ne (P : Poly n x h) {i : Nat} (hi : i < n) : h i ≠ h (i + 1) := by
  rcases Nat.lt_or_ge (i + 1) n with c | c
  · exact P.dist i (i + 1) hi c (by omega)
  · rw [show i + 1 = n by omega, P.ph]
    exact P.dist i 0 hi (by have := P.n2; omega) (by have := P.n2; omega)
/-- no corner at height T -/
def Free (n : Nat) (h : Nat → Int) (T : Int) : Prop := ∀ i, i ≤ n → h i ≠ T
theorem Poly.free_odd (P : Poly n x h) {T : Int} (hT : T % 2 = 1) : Free n h T := fun i _ e => by have := P.even i; omega
/-- the parity of the edges to the left of e at height T -/
def Lp (n : Nat) (x h : Nat → Int) (e : Seg) (T : Int) : Bool := xs (spL x h e T) n
theorem sg_ends (x h : Nat → Int) (i : Nat) : ((sg x h i).b = h i ∧ (sg x h i).d = h (i + 1) ∧ (sg x h i).a = x i ∧ (sg x h i).c = x (i + 1) ∧ h i < h (i + 1)) ∨
    ((sg x h i).b = h (i + 1) ∧ (sg x h i).d = h i ∧ (sg x h i).a = x (i + 1) ∧ (sg x h i).c = x i ∧ ¬ h i < h (i + 1)) := by
  by_cases u : h i < h (i + 1)
  · rw [sg_up u]; exact .inl ⟨rfl, rfl, rfl, rfl, u⟩
  · rw [sg_down u]; exact .inr ⟨rfl, rfl, rfl, rfl, u⟩
theorem spL_self (x h : Nat → Int) (T : Int) (j : Nat) : spL x h (sg x h j) T j = false := by
  unfold spL dl
  rw [decide_eq_false_iff_not]
  omega
/-- along an edge of another way, or of this one, the parity stays -/
theorem Lp_band {e : Seg} {T T' : Int} (hc : h n = h 0 ∧ x n = x 0) (hn : ∀ i, i < n → h i ≠ h (i + 1)) (hm : ∀ i, i < n → NoMeet e (sg x h i) ∨ (spL x h e T i = false ∧ spL x h e T' i = false ∧ inI x h e T T' i = inI x h e T T' (i + 1)))
    (h1 : e.b < T) (h2 : T < T') (h3 : T' < e.d) (g : Free n h T) (g' : Free n h T') : Lp n x h e T = Lp n x h e T' := by
  have key : xor (Lp n x h e T) (Lp n x h e T') = false := by
    unfold Lp
    rw [← xs_xor, xs_congr (Q := fun i => xor (inI x h e T T' i) (inI x h e T T' (i + 1)))]
    · exact xs_round (by unfold inI; rw [hc.1, hc.2])
    · intro i hi
      rcases hm i hi with m | ⟨m1, m2, m3⟩
      · exact edge_band (hn i hi) m h1 h2 h3 (g i (by omega)) (g' i (by omega)) (g (i + 1) (by omega)) (g' (i + 1) (by omega))
      · simp only [m1, m2, m3]; simp
  revert key
  cases Lp n x h e T <;> cases Lp n x h e T' <;> simp
theorem Poly.along (P : Poly n x h) {j : Nat} (hj : j < n) {T T' : Int} (h1 : (sg x h j).b < T) (h2 : T < T') (h3 : T' < (sg x h j).d) (g : Free n h T) (g' : Free n h T') : Lp n x h (sg x h j) T = Lp n x h (sg x h j) T' := by
  refine Lp_band ⟨P.ph, P.px⟩ (fun i hi => P.ne hi) (fun i hi => ?_) h1 h2 h3 g g'
  by_cases e : i = j
  · subst e
    refine .inr ⟨spL_self .., spL_self .., ?_⟩
    have := sg_ends x h i
    unfold inI
    rw [dec_no (by omega), dec_no (by omega)]
  · exact .inl (P.meet j i hj hi (Ne.symm e))
theorem Poly.along' (P : Poly n x h) {j : Nat} (hj : j < n) {T T' : Int} (h1 : (sg x h j).b < T) (h2 : T < (sg x h j).d) (h1' : (sg x h j).b < T') (h3 : T' < (sg x h j).d) (g : Free n h T) (g' : Free n h T') : Lp n x h (sg x h j) T = Lp n x h (sg x h j) T' := by
  rcases Int.lt_trichotomy T T' with c | c | c
  · exact P.along hj h1 c h3 g g'
  · rw [c]
  · exact (P.along hj h1' c h2 g' g).symm
/-- edge i lies to the left of corner v at v's height -/
def lftV (x h : Nat → Int) (v i : Nat) : Bool := decide ((sg x h i).b < h v ∧ h v < (sg x h i).d ∧ (sg x h i).nm (h v) < x v * (sg x h i).ad)
theorem Poly.at_corner (P : Poly n x h) {j k p : Nat} (hj : j + 1 < n) (hk : k = j ∧ p = j + 1 ∨ k = j + 1 ∧ p = j) {T : Int} (hT : T = h (j + 1) + 1 ∨ T = h (j + 1) - 1) (h1 : (sg x h k).b < T) (h2 : T < (sg x h k).d) :
    Lp n x h (sg x h k) T = xor (xs (lftV x h (j + 1)) n) (spL x h (sg x h k) T p) := by
  have hp : p < n := by omega
  have hkn : k < n := by omega
  have z : ∀ i, i = k ∨ i = p → lftV x h (j + 1) i = false := by
    intro i hi
    unfold lftV
    rw [dec_no]
    have := sg_ends x h i
    rcases (show i = j ∨ i = j + 1 by omega) with e | e <;> subst e <;> omega
  unfold Lp
  rw [xs_one (Q := lftV x h (j + 1)) (k := p) (z p (.inr rfl))]
  · simp [hp]
  · intro i hi hip
    by_cases hik : i = k
    · subst hik
      rw [z i (.inl rfl), spL_self]
    · have d1 : h i ≠ h (j + 1) := P.dist i (j + 1) hi hj (by omega)
      have d2 : h (i + 1) ≠ h (j + 1) := by
        rcases Nat.lt_or_ge (i + 1) n with c | c
        · exact P.dist (i + 1) (j + 1) c hj (by omega)
        · rw [show i + 1 = n by omega, P.ph]
          exact P.dist 0 (j + 1) (by omega) hj (by omega)
      have v1 := P.even i
      have v2 := P.even (i + 1)
      have v3 := P.even (j + 1)
      have hf := sg_lt (x := x) (P.ne hi)
      have hg := sg_lt (x := x) (P.ne hkn)
      have hi' := sg_ends x h i
      have hm := P.meet i k hi hkn hik
      have hend : ((sg x h k).b = h (j + 1) ∧ (sg x h k).a = x (j + 1)) ∨ ((sg x h k).d = h (j + 1) ∧ (sg x h k).c = x (j + 1)) := by
        have := sg_ends x h k
        rcases hk with ⟨e, _⟩ | ⟨e, _⟩ <;> subst e <;> omega
      unfold spL lftV
      by_cases hs : (sg x h i).b < T ∧ T < (sg x h i).d
      · have hs' : (sg x h i).b < h (j + 1) ∧ h (j + 1) < (sg x h i).d := by omega
        rw [dec_yes hs, dec_yes hs']
        refine dec_iff ?_
        have q := hm T (h (j + 1)) hs.1 hs.2 (by omega) (by omega) hs'.1 hs'.2 (by omega) (by omega)
        rw [dl_swap]
        have ad : 0 < (sg x h k).ad := by unfold Seg.ad; omega
        rcases hend with ⟨eb, ea⟩ | ⟨eb, ea⟩
        · have w := dl_tlo (sg x h i) (sg x h k)
          rw [eb, ea] at w
          have m := (pos_mul (y := (sg x h i).tz (x (j + 1)) (h (j + 1))) ad).2.1
          have t := (sg x h i).tz_eq (x (j + 1)) (h (j + 1))
          omega
        · have w := dl_thi (sg x h i) (sg x h k)
          rw [eb, ea] at w
          have m := (pos_mul (y := (sg x h i).tz (x (j + 1)) (h (j + 1))) ad).2.1
          have t := (sg x h i).tz_eq (x (j + 1)) (h (j + 1))
          omega
      · rw [dec_no hs, dec_no (by omega)]
/-- whether the way goes up along edge j -/
def upE (h : Nat → Int) (j : Nat) : Bool := decide (h j < h (j + 1))
/-- on both sides of a corner -/
theorem Poly.step (P : Poly n x h) {j : Nat} (hj : j + 1 < n) : ∃ T T', (sg x h j).b < T ∧ T < (sg x h j).d ∧ Free n h T ∧ (sg x h (j + 1)).b < T' ∧ T' < (sg x h (j + 1)).d ∧ Free n h T' ∧
    xor (Lp n x h (sg x h j) T) (upE h j) = xor (Lp n x h (sg x h (j + 1)) T') (upE h (j + 1)) := by
  have n1 := P.ne (show j < n by omega)
  have n2 := P.ne hj
  have v1 := P.even j
  have v2 := P.even (j + 1)
  have v3 := P.even (j + 1 + 1)
  have hm := P.meet j (j + 1) (by omega) hj (by omega)
  have e1 := sg_ends x h j
  have e2 := sg_ends x h (j + 1)
  have pick : ∀ T T', (T = h (j + 1) + 1 ∨ T = h (j + 1) - 1) → (T' = h (j + 1) + 1 ∨ T' = h (j + 1) - 1) → (sg x h j).b < T → T < (sg x h j).d → (sg x h (j + 1)).b < T' → T' < (sg x h (j + 1)).d →
      xor (spL x h (sg x h j) T (j + 1)) (upE h j) = xor (spL x h (sg x h (j + 1)) T' j) (upE h (j + 1)) → ∃ T T', (sg x h j).b < T ∧ T < (sg x h j).d ∧ Free n h T ∧ (sg x h (j + 1)).b < T' ∧ T' < (sg x h (j + 1)).d ∧ Free n h T' ∧
    xor (Lp n x h (sg x h j) T) (upE h j) = xor (Lp n x h (sg x h (j + 1)) T') (upE h (j + 1)) := fun T T' t t' a1 a2 a3 a4 hx => by
    refine ⟨T, T', a1, a2, P.free_odd (by omega), a3, a4, P.free_odd (by omega), ?_⟩
    rw [P.at_corner hj (.inl ⟨rfl, rfl⟩) t a1 a2, P.at_corner hj (.inr ⟨rfl, rfl⟩) t' a3 a4, Bool.xor_assoc, Bool.xor_assoc, hx]
  by_cases u1 : h j < h (j + 1) <;> by_cases u2 : h (j + 1) < h (j + 1 + 1)
  · refine pick (h (j + 1) - 1) (h (j + 1) + 1) (.inr rfl) (.inl rfl) (by omega) (by omega) (by omega) (by omega) ?_
    unfold spL upE
    rw [dec_no (by omega), dec_no (by omega)]
    simp [u1, u2]
  · refine pick (h (j + 1) - 1) (h (j + 1) - 1) (.inr rfl) (.inr rfl) (by omega) (by omega) (by omega) (by omega) ?_
    unfold spL upE
    rw [dec_yes (by omega), dec_yes (by omega), dl_swap (sg x h j) (sg x h (j + 1))]
    have q := hm (h (j + 1) - 1) (h (j + 1) - 1) (by omega) (by omega) (by omega) (by omega) (by omega) (by omega) (by omega) (by omega)
    rcases Int.lt_or_lt_of_ne q.1 with c | c
    · simp [u1, u2, c, show ¬ 0 < dl (sg x h j) (sg x h (j + 1)) (h (j + 1) - 1) by omega]
    · simp [u1, u2, c]
      omega
  · refine pick (h (j + 1) + 1) (h (j + 1) + 1) (.inl rfl) (.inl rfl) (by omega) (by omega) (by omega) (by omega) ?_
    unfold spL upE
    rw [dec_yes (by omega), dec_yes (by omega), dl_swap (sg x h j) (sg x h (j + 1))]
    have q := hm (h (j + 1) + 1) (h (j + 1) + 1) (by omega) (by omega) (by omega) (by omega) (by omega) (by omega) (by omega) (by omega)
    rcases Int.lt_or_lt_of_ne q.1 with c | c
    · simp [u1, u2, c, show ¬ 0 < dl (sg x h j) (sg x h (j + 1)) (h (j + 1) + 1) by omega]
    · simp [u1, u2, c]
      omega
  · refine pick (h (j + 1) + 1) (h (j + 1) - 1) (.inl rfl) (.inr rfl) (by omega) (by omega) (by omega) (by omega) ?_
    unfold spL upE
    rw [dec_no (by omega), dec_no (by omega)]
    simp [u1, u2]
/-- the same side is inside, all along the way -/
theorem Poly.const (P : Poly n x h) : ∃ c : Bool, ∀ j, j < n → ∀ T, (sg x h j).b < T → T < (sg x h j).d → Free n h T → xor (Lp n x h (sg x h j) T) (upE h j) = c := by
  have h0 := sg_lt (x := x) (P.ne (show 0 < n by have := P.n2; omega))
  refine ⟨xor (Lp n x h (sg x h 0) ((sg x h 0).b + 1)) (upE h 0), fun j => ?_⟩
  have v0 := P.even 0
  have v1 := P.even (0 + 1)
  have e0 := sg_ends x h 0
  induction j with
  | zero =>
    intro hj T a1 a2 g
    rw [P.along' hj a1 a2 (T' := (sg x h 0).b + 1) (by omega) (by omega) g (P.free_odd (by omega))]
  | succ j ih =>
    intro hj T a1 a2 g
    obtain ⟨S, S', b1, b2, b3, c1, c2, c3, e⟩ := P.step hj
    rw [P.along' hj a1 a2 c1 c2 g c3, ← e]
    exact ih (by omega) S b1 b2 b3
end
end Go.Proofs.YtdbheipjbjcikaaGreatDoor
