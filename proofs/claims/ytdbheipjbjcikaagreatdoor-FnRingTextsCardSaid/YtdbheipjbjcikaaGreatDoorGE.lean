/- Plain geometry: the area of a valid ring is not 0. -/
import Derived.Test.YtdbheipjbjcikaaGreatDoorGD
import Derived.Test.YtdbheipjbjcikaaGreatDoorG
namespace Go.Proofs.YtdbheipjbjcikaaGreatDoor

/-- a height that tells all points apart -/
def hgt (x z : Int) : Int := 2 * (5000 * z - x)
def mkSeg (ax az bx bz : Int) : Seg := if hgt ax az < hgt bx bz then ⟨ax, hgt ax az, bx, hgt bx bz⟩ else ⟨bx, hgt bx bz, ax, hgt ax az⟩
theorem mkSeg_up {ax az bx bz : Int} (u : hgt ax az < hgt bx bz) : mkSeg ax az bx bz = ⟨ax, hgt ax az, bx, hgt bx bz⟩ := if_pos u
theorem mkSeg_down {ax az bx bz : Int} (u : ¬ hgt ax az < hgt bx bz) : mkSeg ax az bx bz = ⟨bx, hgt bx bz, ax, hgt ax az⟩ := if_neg u
/-- a point within bounds -/
def bdP (x z : Int) : Prop := -1000 ≤ x ∧ x ≤ 1000 ∧ -1000 ≤ z ∧ z ≤ 1000
theorem bdP_of {x z : Int} (h : okP x z = true) : bdP x z := by
  simp [okP, inB] at h
  unfold bdP; omega
theorem hgt_inj {ax az bx bz : Int} (h : bdP ax az) (h' : bdP bx bz) (e : hgt ax az = hgt bx bz) : ax = bx ∧ az = bz := by
  unfold bdP at h h'
  unfold hgt at e
  omega
/-- of opposite signs -/
def opp (x y : Int) : Prop := x < 0 ∧ 0 < y ∨ 0 < x ∧ y < 0
theorem opp.symm {x y : Int} (h : opp x y) : opp y x := by unfold opp at *; omega
theorem sgn_opp (x y : Int) : sgn x * sgn y < 0 ↔ opp x y := by
  unfold opp sgn
  rcases Int.lt_trichotomy x 0 with h | h | h <;> rcases Int.lt_trichotomy y 0 with h' | h' | h'
  all_goals (first
    | (rw [show max (-1) (min 1 x) = -1 by omega, show max (-1) (min 1 y) = -1 by omega]; omega)
    | (rw [show max (-1) (min 1 x) = -1 by omega, show max (-1) (min 1 y) = 0 by omega]; omega)
    | (rw [show max (-1) (min 1 x) = -1 by omega, show max (-1) (min 1 y) = 1 by omega]; omega)
    | (rw [show max (-1) (min 1 x) = 0 by omega]; omega)
    | (rw [show max (-1) (min 1 x) = 1 by omega, show max (-1) (min 1 y) = -1 by omega]; omega)
    | (rw [show max (-1) (min 1 x) = 1 by omega, show max (-1) (min 1 y) = 0 by omega]; omega)
    | (rw [show max (-1) (min 1 x) = 1 by omega, show max (-1) (min 1 y) = 1 by omega]; omega))
def turnZ (ax az bx bz x z : Int) : Int := (bx - ax) * (z - az) - (bz - az) * (x - ax)
theorem turnW_Z {ax az bx bz x z : Int} (ha : bdP ax az) (hb : bdP bx bz) (h : bdP x z) : turnW ax az bx bz x z = turnZ ax az bx bz x z :=
  turnW_eq ⟨ha.1, ha.2.1⟩ ha.2.2 ⟨hb.1, hb.2.1⟩ hb.2.2 ⟨h.1, h.2.1⟩ h.2.2
theorem tz_mk (ax az bx bz x z : Int) : (hgt ax az < hgt bx bz ∧ (mkSeg ax az bx bz).tz x (hgt x z) = 10000 * turnZ ax az bx bz x z) ∨ (¬ hgt ax az < hgt bx bz ∧ (mkSeg ax az bx bz).tz x (hgt x z) = -(10000 * turnZ ax az bx bz x z)) := by
  by_cases u : hgt ax az < hgt bx bz
  · refine .inl ⟨u, ?_⟩
    rw [mkSeg_up u]
    unfold Seg.tz turnZ hgt
    simp only
    grind
  · refine .inr ⟨u, ?_⟩
    rw [mkSeg_down u]
    unfold Seg.tz turnZ hgt
    simp only
    grind
theorem betw' {X Y Z D t : Int} (hD : 0 < D) (ht : 0 ≤ t) (htD : t ≤ D) (e : (X - Y) * D = (Z - Y) * t) : min Y Z ≤ X ∧ X ≤ max Y Z := by
  have := betw hD ht htD e
  omega
theorem on_mk {ax az bx bz x z : Int} (ha : bdP ax az) (hb : bdP bx bz) (hp : bdP x z) (hne : hgt ax az ≠ hgt bx bz) (h : (mkSeg ax az bx bz).on x (hgt x z)) : onW ax az bx bz x z = true := by
  obtain ⟨h0, h1, h2⟩ := h
  have ht := tz_mk ax az bx bz x z
  have t0 : turnW ax az bx bz x z = 0 := by rw [turnW_Z ha hb hp]; omega
  have key : (min ax bx ≤ x ∧ x ≤ max ax bx) ∧ (min az bz ≤ z ∧ z ≤ max az bz) := by
    by_cases u : hgt ax az < hgt bx bz
    · rw [mkSeg_up u] at h0 h1 h2
      unfold Seg.tz at h0
      simp only at h0 h1 h2
      refine ⟨betw' (D := hgt bx bz - hgt ax az) (t := hgt x z - hgt ax az) (by omega) (by omega) (by omega) (by grind), betw' (D := hgt bx bz - hgt ax az) (t := hgt x z - hgt ax az) (by omega) (by omega) (by omega) ?_⟩
      unfold hgt at h0 ⊢
      grind
    · rw [mkSeg_down u] at h0 h1 h2
      unfold Seg.tz at h0
      simp only at h0 h1 h2
      rw [Int.min_comm ax, Int.max_comm ax, Int.min_comm az, Int.max_comm az]
      refine ⟨betw' (D := hgt ax az - hgt bx bz) (t := hgt x z - hgt bx bz) (by omega) (by omega) (by omega) (by grind), betw' (D := hgt ax az - hgt bx bz) (t := hgt x z - hgt bx bz) (by omega) (by omega) (by omega) ?_⟩
      unfold hgt at h0 ⊢
      grind
  simp only [onW, inB, t0]
  simp
  omega
theorem mk_ends (ax az bx bz : Int) : ((mkSeg ax az bx bz).a = ax ∧ (mkSeg ax az bx bz).b = hgt ax az ∧ (mkSeg ax az bx bz).c = bx ∧ (mkSeg ax az bx bz).d = hgt bx bz ∧ hgt ax az < hgt bx bz) ∨
    ((mkSeg ax az bx bz).a = bx ∧ (mkSeg ax az bx bz).b = hgt bx bz ∧ (mkSeg ax az bx bz).c = ax ∧ (mkSeg ax az bx bz).d = hgt ax az ∧ ¬ hgt ax az < hgt bx bz) := by
  by_cases u : hgt ax az < hgt bx bz
  · rw [mkSeg_up u]; exact .inl ⟨rfl, rfl, rfl, rfl, u⟩
  · rw [mkSeg_down u]; exact .inr ⟨rfl, rfl, rfl, rfl, u⟩
theorem mk_lt {ax az bx bz : Int} (hne : hgt ax az ≠ hgt bx bz) : (mkSeg ax az bx bz).b < (mkSeg ax az bx bz).d := by
  have := mk_ends ax az bx bz
  omega
/-- what the test says of two edges -/
theorem crossW_apart {ax az bx bz cx cz dx dz : Int} (ha : bdP ax az) (hb : bdP bx bz) (hc : bdP cx cz) (hd : bdP dx dz) (hn : hgt ax az ≠ hgt bx bz) (hn' : hgt cx cz ≠ hgt dx dz)
    (h : crossW ax az bx bz cx cz dx dz = false) : ApartS (mkSeg ax az bx bz) (mkSeg cx cz dx dz) := by
  simp only [crossW, Bool.or_eq_false_iff, Bool.and_eq_false_iff, decide_eq_false_iff_not] at h
  obtain ⟨⟨⟨⟨o1, o2⟩, o3⟩, o4⟩, o5⟩ := h
  rw [sgn_opp, sgn_opp] at o5
  rw [turnW_Z ha hb hc, turnW_Z ha hb hd, turnW_Z hc hd ha, turnW_Z hc hd hb] at o5
  have n1 : ¬ (mkSeg ax az bx bz).on cx (hgt cx cz) := fun k => by rw [on_mk ha hb hc hn k] at o1; cases o1
  have n2 : ¬ (mkSeg ax az bx bz).on dx (hgt dx dz) := fun k => by rw [on_mk ha hb hd hn k] at o2; cases o2
  have n3 : ¬ (mkSeg cx cz dx dz).on ax (hgt ax az) := fun k => by rw [on_mk hc hd ha hn' k] at o3; cases o3
  have n4 : ¬ (mkSeg cx cz dx dz).on bx (hgt bx bz) := fun k => by rw [on_mk hc hd hb hn' k] at o4; cases o4
  have t1 := tz_mk ax az bx bz cx cz
  have t2 := tz_mk ax az bx bz dx dz
  have t3 := tz_mk cx cz dx dz ax az
  have t4 := tz_mk cx cz dx dz bx bz
  unfold opp at o5
  have e1 := mk_ends ax az bx bz
  have e2 := mk_ends cx cz dx dz
  unfold ApartS
  rcases e1 with ⟨a1, a2, a3, a4, a5⟩ | ⟨a1, a2, a3, a4, a5⟩ <;> rcases e2 with ⟨b1, b2, b3, b4, b5⟩ | ⟨b1, b2, b3, b4, b5⟩ <;> rw [a1, a2, a3, a4, b1, b2, b3, b4]
  · exact ⟨n1, n2, n3, n4, by omega⟩
  · exact ⟨n2, n1, n3, n4, by omega⟩
  · exact ⟨n1, n2, n4, n3, by omega⟩
  · exact ⟨n2, n1, n4, n3, by omega⟩
/-- two edges that follow one another -/
theorem adj_meet {ax az vx vz bx bz : Int} (hn : hgt ax az ≠ hgt vx vz) (hn' : hgt vx vz ≠ hgt bx bz) (ht : turnZ ax az vx vz bx bz ≠ 0) :
    NoMeet (mkSeg ax az vx vz) (mkSeg vx vz bx bz) ∧ NoMeet (mkSeg vx vz bx bz) (mkSeg ax az vx vz) := by
  have t1 := tz_mk ax az vx vz bx bz
  have t2 := tz_mk vx vz bx bz ax az
  have tc : turnZ vx vz bx bz ax az = turnZ ax az vx vz bx bz := by unfold turnZ; grind
  have e1 := mk_ends ax az vx vz
  have e2 := mk_ends vx vz bx bz
  have l1 := mk_lt hn
  have l2 := mk_lt hn'
  rcases e1 with ⟨a1, a2, a3, a4, a5⟩ | ⟨a1, a2, a3, a4, a5⟩ <;> rcases e2 with ⟨b1, b2, b3, b4, b5⟩ | ⟨b1, b2, b3, b4, b5⟩
  · exact ⟨noMeet_chain (.inl (by omega)), noMeet_chain (.inr (by omega))⟩
  · exact ⟨noMeet_hi l2 (by omega) (by omega) (by rw [b1, b2]; omega), noMeet_hi l1 (by omega) (by omega) (by rw [a1, a2]; omega)⟩
  · exact ⟨noMeet_lo l2 (by omega) (by omega) (by rw [b3, b4]; omega), noMeet_lo l1 (by omega) (by omega) (by rw [a3, a4]; omega)⟩
  · exact ⟨noMeet_chain (.inr (by omega)), noMeet_chain (.inl (by omega))⟩
/-- the corners' places and heights -/
def rx (ps : List (Int × Int)) (i : Nat) : Int := ptx ps i
def rh (ps : List (Int × Int)) (i : Nat) : Int := hgt (ptx ps i) (ptz ps i)
theorem sg_mk (ps : List (Int × Int)) (i : Nat) : sg (rx ps) (rh ps) i = mkSeg (ptx ps i) (ptz ps i) (ptx ps ((i + 1 : Nat) : Int)) (ptz ps ((i + 1 : Nat) : Int)) := rfl
theorem ptx_round (ps : List (Int × Int)) (k : Nat) : ptx ps ((ps.length + k : Nat) : Int) = ptx ps k := by unfold ptx; rw [Int.toNat_natCast, Int.toNat_natCast, Nat.add_mod_left]
theorem ptz_round (ps : List (Int × Int)) (k : Nat) : ptz ps ((ps.length + k : Nat) : Int) = ptz ps k := by unfold ptz; rw [Int.toNat_natCast, Int.toNat_natCast, Nat.add_mod_left]
theorem bd_at {ps : List (Int × Int)} (h : oks ps = true) (k : Int) : bdP (ptx ps k) (ptz ps k) := by
  have h1 := ptx_bd h k
  have h2 := ptz_bd h k
  unfold bdP; omega
/-- a valid ring is a closed way that does not meet itself -/
theorem RingP.poly {ps : List (Int × Int)} (h : RingP ps) : Poly ps.length (rx ps) (rh ps) := by
  obtain ⟨h3, _, ho, ht, hd, ha⟩ := h
  have hne : ∀ i j : Nat, i < ps.length → j < ps.length → i ≠ j → rh ps i ≠ rh ps j := fun i j hi hj hij e => by
    have q := hgt_inj (bd_at ho i) (bd_at ho j) e
    rcases Nat.lt_or_gt_of_ne hij with c | c
    · exact hd j i c hj ⟨q.1.symm, q.2.symm⟩
    · exact hd i j c hi q
  have hx0 : rx ps ps.length = rx ps 0 := ptx_round ps 0
  have hh0 : rh ps ps.length = rh ps 0 := by
    unfold rh
    rw [show ptx ps (ps.length : Int) = ptx ps ((0 : Nat) : Int) from ptx_round ps 0, show ptz ps (ps.length : Int) = ptz ps ((0 : Nat) : Int) from ptz_round ps 0]
  have hnx : ∀ i : Nat, i < ps.length → rh ps i ≠ rh ps (i + 1) := fun i hi => by
    rcases Nat.lt_or_ge (i + 1) ps.length with c | c
    · exact hne i (i + 1) hi c (by omega)
    · rw [show i + 1 = ps.length by omega, hh0]
      exact hne i 0 hi (by omega) (by omega)
  have tz : ∀ i : Nat, i < ps.length → turnZ (ptx ps i) (ptz ps i) (ptx ps ((i + 1 : Nat) : Int)) (ptz ps ((i + 1 : Nat) : Int)) (ptx ps ((i + 2 : Nat) : Int)) (ptz ps ((i + 2 : Nat) : Int)) ≠ 0 := fun i hi => by
    rw [← turnW_Z (bd_at ho _) (bd_at ho _) (bd_at ho _)]
    exact ht i hi
  have both : ∀ i j : Nat, i < j → j < ps.length → NoMeet (sg (rx ps) (rh ps) i) (sg (rx ps) (rh ps) j) ∧ NoMeet (sg (rx ps) (rh ps) j) (sg (rx ps) (rh ps) i) := fun i j hij hj => by
    by_cases e1 : j = i + 1
    · subst e1
      have := adj_meet (hnx i (by omega)) (hnx (i + 1) hj) (tz i (by omega))
      exact this
    · by_cases e2 : i = 0 ∧ j + 1 = ps.length
      · obtain ⟨rfl, e2⟩ := e2
        have a := hnx j hj
        have t := tz j hj
        have b := hnx 0 (by omega)
        rw [show j + 2 = ps.length + 1 by omega] at t
        rw [e2] at a t
        rw [ptx_round ps 1, ptz_round ps 1, show ptx ps (ps.length : Int) = ptx ps ((0 : Nat) : Int) from ptx_round ps 0, show ptz ps (ps.length : Int) = ptz ps ((0 : Nat) : Int) from ptz_round ps 0] at t
        rw [hh0] at a
        have := adj_meet a b t
        rw [sg_mk, sg_mk, e2, show ptx ps (ps.length : Int) = ptx ps ((0 : Nat) : Int) from ptx_round ps 0, show ptz ps (ps.length : Int) = ptz ps ((0 : Nat) : Int) from ptz_round ps 0]
        exact ⟨this.2, this.1⟩
      · have hap := ha i j hij hj
        have hcr : crossI ps i j = false := by
          unfold apB at hap
          simpa [show ¬ (j = i + 1 ∨ i = 0 ∧ j + 1 = ps.length) by omega] using hap
        have hA : ApartS (sg (rx ps) (rh ps) i) (sg (rx ps) (rh ps) j) := crossW_apart (bd_at ho _) (bd_at ho _) (bd_at ho _) (bd_at ho _) (hnx i (by omega)) (hnx j hj) hcr
        exact ⟨hA.noMeet (sg_lt (hnx i (by omega))) (sg_lt (hnx j hj)), hA.symm.noMeet (sg_lt (hnx j hj)) (sg_lt (hnx i (by omega)))⟩
  refine ⟨by omega, hx0, hh0, hne, fun i j hi hj hij => ?_, fun i => by unfold rh hgt; omega⟩
  rcases Nat.lt_or_gt_of_ne hij with c | c
  · exact (both i j c hj).1
  · exact (both j i c hi).2
theorem areaP_ring (ps : List (Int × Int)) : ∀ n : Nat, areaP n (rx ps) (rh ps) = 10000 * areaTo ps n
  | 0 => by simp [areaP, tot, areaTo]
  | n + 1 => by
    have := areaP_ring ps n
    unfold areaP at this ⊢
    rw [tot, this, areaTo]
    unfold rx rh hgt
    grind
/-- the area of a valid ring is not 0 -/
theorem RingP.area {ps : List (Int × Int)} (h : RingP ps) : areaZ ps ≠ 0 := by
  obtain ⟨c, _, h0, h1⟩ := h.poly.area
  rw [areaP_ring] at h0 h1
  unfold areaZ
  cases c
  · have := h0 rfl; omega
  · have := h1 rfl; omega
end Go.Proofs.YtdbheipjbjcikaaGreatDoor
