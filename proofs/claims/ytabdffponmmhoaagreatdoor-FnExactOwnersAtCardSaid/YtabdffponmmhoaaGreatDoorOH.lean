/- Plain geometry: the rings of a map two by two; no point lies inside of two of them. No program in sight. -/
import Derived.Test.YtabdffponmmhoaaGreatDoorOG
import Derived.Test.YtabdffponmmhoaaGreatDoorMZ
namespace Go.Proofs.YtabdffponmmhoaaGreatDoor
open Go.RowKit

def sgE (e : Ed) : Seg := mkSeg e.1.1 e.1.2 e.2.1 e.2.2
def upEd (e : Ed) : Bool := decide (hgt e.1.1 e.1.2 < hgt e.2.1 e.2.2)
theorem goodEd.ne {e : Ed} (h : goodEd e) : hgt e.1.1 e.1.2 ≠ hgt e.2.1 e.2.2 := fun q => by
  obtain ⟨h1, h2, h3⟩ := h
  have := hgt_inj h1 h2 q
  rw [← Bool.not_eq_true, eqP_iff] at h3
  exact h3 this
theorem mkSeg_swap {ax az bx bz : Int} (hne : hgt ax az ≠ hgt bx bz) : mkSeg bx bz ax az = mkSeg ax az bx bz := by
  by_cases u : hgt ax az < hgt bx bz
  · rw [mkSeg_up u, mkSeg_down (by omega)]
  · rw [mkSeg_down u, mkSeg_up (by omega)]
theorem sgE_flip {e : Ed} (h : goodEd e) : sgE (flipEd e) = sgE e := mkSeg_swap h.ne
theorem upEd_flip {e : Ed} (h : goodEd e) : upEd (flipEd e) = !upEd e := by
  have := h.ne
  unfold upEd flipEd
  by_cases u : hgt e.1.1 e.1.2 < hgt e.2.1 e.2.2
  · rw [decide_eq_true u, decide_eq_false (by simp only; omega)]; rfl
  · rw [decide_eq_false u, decide_eq_true (by simp only; omega)]; rfl
/-- two edges that go out from one corner, neither of them over the other's end -/
theorem corner_rel {v1 v2 a1 a2 b1 b2 : Int} (hv : bdP v1 v2) (ha : bdP a1 a2) (hb : bdP b1 b2) (na : hgt v1 v2 ≠ hgt a1 a2) (nb : hgt v1 v2 ≠ hgt b1 b2) (h1 : onW v1 v2 a1 a2 b1 b2 = false) (h2 : onW v1 v2 b1 b2 a1 a2 = false) :
    NoMeet (mkSeg v1 v2 a1 a2) (mkSeg v1 v2 b1 b2) ∧ NoMeet (mkSeg v1 v2 b1 b2) (mkSeg v1 v2 a1 a2) := by
  have n1 : ¬ (mkSeg v1 v2 a1 a2).on b1 (hgt b1 b2) := fun k => by rw [on_mk hv ha hb na k] at h1; cases h1
  have n2 : ¬ (mkSeg v1 v2 b1 b2).on a1 (hgt a1 a2) := fun k => by rw [on_mk hv hb ha nb k] at h2; cases h2
  unfold Seg.on at n1 n2
  have t1 := tz_mk v1 v2 a1 a2 b1 b2
  have t2 := tz_mk v1 v2 b1 b2 a1 a2
  have tc : turnZ v1 v2 b1 b2 a1 a2 = - turnZ v1 v2 a1 a2 b1 b2 := by unfold turnZ; grind
  have e1 := mk_ends v1 v2 a1 a2
  have e2 := mk_ends v1 v2 b1 b2
  have l1 := mk_lt na
  have l2 := mk_lt nb
  rcases e1 with ⟨a3, a4, a5, a6, a7⟩ | ⟨a3, a4, a5, a6, a7⟩ <;> rcases e2 with ⟨b3, b4, b5, b6, b7⟩ | ⟨b3, b4, b5, b6, b7⟩
  · exact ⟨noMeet_lo l2 (by omega) (by omega) (by rw [b5, b6]; omega), noMeet_lo l1 (by omega) (by omega) (by rw [a5, a6]; omega)⟩
  · exact ⟨noMeet_chain (.inr (by omega)), noMeet_chain (.inl (by omega))⟩
  · exact ⟨noMeet_chain (.inl (by omega)), noMeet_chain (.inr (by omega))⟩
  · exact ⟨noMeet_hi l2 (by omega) (by omega) (by rw [b3, b4]; omega), noMeet_hi l1 (by omega) (by omega) (by rw [a3, a4]; omega)⟩
theorem eqP_refl (a b : Int) : eqP a b a b = true := eqP_iff.2 ⟨rfl, rfl⟩
/-- what the test of two edges says -/
theorem touch_rel {e f : Ed} (ge : goodEd e) (gf : goodEd f) (h : touchE e f = true) : (NoMeet (sgE e) (sgE f) ∧ NoMeet (sgE f) (sgE e)) ∨ f = flipEd e := by
  have ne := ge.ne
  have nf := gf.ne
  obtain ⟨⟨a, b⟩, ⟨c, d⟩⟩ := e
  obtain ⟨⟨p, q⟩, ⟨r, s⟩⟩ := f
  obtain ⟨ga, gb, gab⟩ := ge
  obtain ⟨gp, gr, gpr⟩ := gf
  unfold sgE
  unfold touchE touchB at h
  simp only at *
  by_cases hc : crossW a b c d p q r s = false
  · have hA := crossW_apart ga gb gp gr ne nf hc
    exact .inl ⟨hA.noMeet (mk_lt ne) (mk_lt nf), hA.symm.noMeet (mk_lt nf) (mk_lt ne)⟩
  · rw [if_neg hc] at h
    by_cases h1 : (eqP a b r s && eqP c d p q) = true
    · rw [Bool.and_eq_true] at h1
      obtain ⟨rfl, rfl⟩ := eqP_iff.1 h1.1
      obtain ⟨rfl, rfl⟩ := eqP_iff.1 h1.2
      exact .inr rfl
    · rw [if_neg h1] at h
      by_cases h2 : (eqP a b p q && eqP c d r s) = true
      · rw [if_pos h2] at h; cases h
      · rw [if_neg h2] at h
        left
        by_cases e1 : eqP a b p q = true
        · obtain ⟨rfl, rfl⟩ := eqP_iff.1 e1
          rw [if_pos (by rw [e1]; rfl)] at h
          unfold touchC at h
          simp only [e1, if_true, Bool.and_eq_true, Bool.not_eq_true'] at h
          exact corner_rel ga gb gr ne nf h.1 h.2
        · by_cases e2 : eqP a b r s = true
          · obtain ⟨rfl, rfl⟩ := eqP_iff.1 e2
            rw [if_pos (by rw [e2]; simp)] at h
            unfold touchC at h
            rw [eqP_comm] at e1
            simp only [e2, if_true, if_neg e1, Bool.and_eq_true, Bool.not_eq_true'] at h
            rw [on_swap ga gp gb] at h
            rw [mkSeg_swap (Ne.symm nf)]
            exact corner_rel ga gb gp ne (Ne.symm nf) h.1 h.2
          · rw [if_neg (by simp [e1, e2])] at h
            by_cases e3 : eqP c d p q = true
            · obtain ⟨rfl, rfl⟩ := eqP_iff.1 e3
              rw [if_pos (by rw [e3]; rfl)] at h
              unfold touchC at h
              simp only [e3, if_true, if_neg e1, Bool.and_eq_true, Bool.not_eq_true'] at h
              rw [on_swap gb ga gr] at h
              rw [← mkSeg_swap ne]
              exact corner_rel gb ga gr (Ne.symm ne) nf h.1 h.2
            · by_cases e4 : eqP c d r s = true
              · obtain ⟨rfl, rfl⟩ := eqP_iff.1 e4
                rw [if_pos (by rw [e4]; simp)] at h
                unfold touchC at h
                have e5 : ¬ eqP a b c d = true := by rw [gab]; simp
                have e6 : ¬ eqP p q c d = true := by rw [gpr]; simp
                simp only [if_neg e5, if_neg e6, Bool.and_eq_true, Bool.not_eq_true'] at h
                rw [on_swap gb ga gp, on_swap gb gp ga] at h
                rw [← mkSeg_swap ne, ← mkSeg_swap nf]
                exact corner_rel gb ga gp (Ne.symm ne) (Ne.symm nf) h.1 h.2
              · rw [if_neg (by simp [e3, e4])] at h
                cases h

/-- an edge as the normal ring has it -/
def nrE (ps : List (Int × Int)) (j : Nat) : Ed := if 0 < areaZ ps then edAt ps j else flipEd (edAt ps j)
theorem nrE_mem {ps : List (Int × Int)} (h0 : 0 < ps.length) {j : Nat} (hj : j < ps.length) : nrE ps j ∈ edL (normS ps) := by
  have hm := minTo_lt h0 (Nat.le_refl ps.length)
  unfold nrE
  by_cases c : 0 < areaZ ps
  · rw [if_pos c]
    refine mem_edL.2 ⟨(j + ps.length - minTo ps ps.length) % ps.length, by rw [normS_len]; exact Nat.mod_lt _ h0, ?_⟩
    rw [ns_edge h0 (Nat.mod_lt _ h0), if_pos c, Nat.add_mod_mod, show minTo ps ps.length + (j + ps.length - minTo ps ps.length) = j + ps.length by omega, Nat.add_mod_right, Nat.mod_eq_of_lt hj]
  · rw [if_neg c]
    by_cases c' : j < minTo ps ps.length
    · refine mem_edL.2 ⟨minTo ps ps.length - 1 - j, by rw [normS_len]; omega, ?_⟩
      rw [ns_edge h0 (by omega), if_neg c, show minTo ps ps.length + ps.length - (minTo ps ps.length - 1 - j) - 1 = j + ps.length by omega, Nat.add_mod_right, Nat.mod_eq_of_lt hj]
    · refine mem_edL.2 ⟨minTo ps ps.length + ps.length - 1 - j, by rw [normS_len]; omega, ?_⟩
      rw [ns_edge h0 (by omega), if_neg c, show minTo ps ps.length + ps.length - (minTo ps ps.length + ps.length - 1 - j) - 1 = j by omega, Nat.mod_eq_of_lt hj]
/-- whether the normal ring goes up along an edge -/
def wUp (ps : List (Int × Int)) (j : Nat) : Bool := xor (upE (rh ps) j) (!decide (0 < areaZ ps))
theorem sg_ed {ps : List (Int × Int)} {j : Nat} (hj : j < ps.length) : sg (rx ps) (rh ps) j = sgE (edAt ps j) := by rw [edAt_eq hj, sg_mk]; rfl
theorem upE_ed {ps : List (Int × Int)} {j : Nat} (hj : j < ps.length) : upE (rh ps) j = upEd (edAt ps j) := by rw [edAt_eq hj]; rfl
theorem nrE_facts {ps : List (Int × Int)} (h : RingP ps) {j : Nat} (hj : j < ps.length) : goodEd (nrE ps j) ∧ sgE (nrE ps j) = sg (rx ps) (rh ps) j ∧ upEd (nrE ps j) = wUp ps j := by
  have g := h.ed hj
  rw [sg_ed hj]
  unfold nrE wUp
  rw [upE_ed hj]
  by_cases c : 0 < areaZ ps
  · rw [if_pos c, decide_eq_true c]
    exact ⟨g, rfl, by cases upEd (edAt ps j) <;> rfl⟩
  · rw [if_neg c, decide_eq_false c]
    exact ⟨g.flip, sgE_flip g, by rw [upEd_flip g]; cases upEd (edAt ps j) <;> rfl⟩
theorem apart_facts {pa pb : List (Int × Int)} (h : apartS pa pb = true) : (∀ e ∈ edL (normS pa), ∀ f ∈ edL (normS pb), touchE e f = true) ∧ (∀ e ∈ edL pa, midE pb e = false) ∧ ∀ e ∈ edL pb, midE pa e = false := by
  unfold apartS at h
  simp only [Bool.and_eq_true, List.all_eq_true, Bool.not_eq_true', List.any_eq_false] at h
  exact ⟨h.1.1, fun e he => by simpa using h.1.2 e he, fun e he => by simpa using h.2 e he⟩
theorem ring_rel {pa pb : List (Int × Int)} (ha : RingP pa) (hb : RingP pb) (h : apartS pa pb = true) {j k : Nat} (hj : j < pa.length) (hk : k < pb.length) :
    (NoMeet (sg (rx pa) (rh pa) j) (sg (rx pb) (rh pb) k) ∧ NoMeet (sg (rx pb) (rh pb) k) (sg (rx pa) (rh pa) j)) ∨ (sg (rx pa) (rh pa) j = sg (rx pb) (rh pb) k ∧ wUp pa j = !wUp pb k) := by
  obtain ⟨g1, s1, u1⟩ := nrE_facts ha hj
  obtain ⟨g2, s2, u2⟩ := nrE_facts hb hk
  rw [← s1, ← s2, ← u1, ← u2]
  rcases touch_rel g1 g2 ((apart_facts h).1 _ (nrE_mem (by omega) hj) _ (nrE_mem (by omega) hk)) with c | c
  · exact .inl c
  · right
    rw [c, sgE_flip g1, upEd_flip g1]
    exact ⟨rfl, by simp⟩
/-- inside is to the left of the normal ring's edges -/
theorem ring_left {ps : List (Int × Int)} (h : RingP ps) {j : Nat} (hj : j < ps.length) {T : Int} (h1 : (sg (rx ps) (rh ps) j).b < T) (h2 : T < (sg (rx ps) (rh ps) j).d) (hf : Free ps.length (rh ps) T) : Lp ps.length (rx ps) (rh ps) (sg (rx ps) (rh ps) j) T = wUp ps j := by
  obtain ⟨c, hc, p0, p1⟩ := h.poly.area
  have := hc j hj T h1 h2 hf
  rw [areaP_ring] at p0 p1
  unfold wUp areaZ
  cases c with
  | false =>
    rw [decide_eq_true (by have := p0 rfl; omega)]
    revert this
    cases Lp ps.length (rx ps) (rh ps) (sg (rx ps) (rh ps) j) T <;> cases upE (rh ps) j <;> simp
  | true =>
    rw [decide_eq_false (by have := p1 rfl; omega)]
    revert this
    cases Lp ps.length (rx ps) (rh ps) (sg (rx ps) (rh ps) j) T <;> cases upE (rh ps) j <;> simp
theorem db_at {ps : List (Int × Int)} (h0 : 0 < ps.length) (k : Nat) : ptx (dbTo ps ps.length) (k : Int) = 2 * ptx ps (k : Int) ∧ ptz (dbTo ps ps.length) (k : Int) = 2 * ptz ps (k : Int) := by
  unfold ptx ptz
  rw [dbTo_len, Int.toNat_natCast, dbTo_at (Nat.mod_lt k h0)]
  exact ⟨rfl, rfl⟩
theorem sg_db {ps : List (Int × Int)} (h0 : 0 < ps.length) (i : Nat) : sg (rx (dbTo ps ps.length)) (rh (dbTo ps ps.length)) i = ⟨2 * (sg (rx ps) (rh ps) i).a, 2 * (sg (rx ps) (rh ps) i).b, 2 * (sg (rx ps) (rh ps) i).c, 2 * (sg (rx ps) (rh ps) i).d⟩ := by
  have hr : ∀ k : Nat, rh (dbTo ps ps.length) k = 2 * rh ps k := fun k => by
    unfold rh
    rw [(db_at h0 k).1, (db_at h0 k).2]
    unfold hgt
    omega
  have hx : ∀ k : Nat, rx (dbTo ps ps.length) k = 2 * rx ps k := fun k => (db_at h0 k).1
  by_cases u : rh ps i < rh ps (i + 1)
  · rw [sg_up u, sg_up (by rw [hr, hr]; omega), hr, hr, hx, hx]
  · rw [sg_down u, sg_down (by rw [hr, hr]; omega), hr, hr, hx, hx]
/-- along an edge that no edge of another ring meets all is outside of that ring, since its middle is -/
theorem mid_left {pa pb : List (Int × Int)} (ha : RingP pa) (hb : RingP pb) {j : Nat} (hj : j < pa.length) (hN : ∀ k, k < pb.length → NoMeet (sg (rx pa) (rh pa) j) (sg (rx pb) (rh pb) k)) (hm : midE pb (edAt pa j) = false) :
    ∃ T, (sg (rx pa) (rh pa) j).b < T ∧ T < (sg (rx pa) (rh pa) j).d ∧ Free pb.length (rh pb) T ∧ Lp pb.length (rx pb) (rh pb) (sg (rx pa) (rh pa) j) T = false := by
  have b0 : 0 < pb.length := by have := hb.1; omega
  have hlt := sg_lt (x := rx pa) (ha.poly.ne hj)
  have hse := sg_ends (rx pa) (rh pa) j
  have v1 := ha.poly.even j
  have v2 := ha.poly.even (j + 1)
  have hbe : ∀ {i : Nat}, i < pb.length → rh pb i ≠ rh pb (i + 1) := fun hi => hb.poly.ne hi
  obtain ⟨p1, p2, p3, p4⟩ := bd_at ha.2.2.1 (j : Int)
  obtain ⟨p5, p6, p7, p8⟩ := bd_at ha.2.2.1 ((j + 1 : Nat) : Int)
  obtain ⟨X, hX⟩ : ∃ X, X = ptx pa (j : Int) + ptx pa ((j + 1 : Nat) : Int) := ⟨_, rfl⟩
  obtain ⟨Z, hZ⟩ : ∃ Z, Z = ptz pa (j : Int) + ptz pa ((j + 1 : Nat) : Int) := ⟨_, rfl⟩
  obtain ⟨T, hT⟩ : ∃ T, 2 * T = rh pa j + rh pa (j + 1) := ⟨(rh pa j + rh pa (j + 1)) / 2, by omega⟩
  have hH : hgt X Z = 2 * T := by
    rw [hT, hX, hZ]
    unfold rh hgt
    omega
  have hsX : (sg (rx pa) (rh pa) j).a + (sg (rx pa) (rh pa) j).c = X := by
    rw [hX]
    have e1 : rx pa j = ptx pa (j : Int) := rfl
    have e2 : rx pa (j + 1) = ptx pa ((j + 1 : Nat) : Int) := rfl
    omega
  rw [edAt_eq hj] at hm
  unfold midE midB at hm
  simp only at hm
  rw [← hX, ← hZ, decide_eq_false_iff_not] at hm
  generalize sg (rx pa) (rh pa) j = s at *
  have hs2 : s.b + s.d = 2 * T := by omega
  have hsa : 0 < s.ad := by unfold Seg.ad; omega
  have hnm : 2 * s.nm T = s.ad * X := by
    have e : 2 * (T - s.b) = s.ad := by unfold Seg.ad; omega
    unfold Seg.nm
    rw [← hsX]
    have : 2 * ((T - s.b) * (s.c - s.a)) = s.ad * (s.c - s.a) := by rw [← e]; grind
    grind
  have hbd := dbl_bd hb.2.2.1 b0
  have hx2 : -2000 ≤ X ∧ X ≤ 2000 := by omega
  have hz2 : -2000 ≤ Z ∧ Z ≤ 2000 := by omega
  have hql : (dbTo pb pb.length).length = pb.length := dbTo_len _ _
  have hr : ∀ k : Nat, rh (dbTo pb pb.length) k = 2 * rh pb k := fun k => by
    unfold rh
    rw [(db_at b0 k).1, (db_at b0 k).2]
    unfold hgt
    omega
  have hne2 : ∀ i, i < (dbTo pb pb.length).length → rh (dbTo pb pb.length) i ≠ rh (dbTo pb pb.length) (i + 1) := fun i hi => by
    rw [hql] at hi
    rw [hr, hr]
    have := hbe hi
    omega
  have off : OffTo (dbTo pb pb.length) X Z (dbTo pb pb.length).length := by
    intro k hk
    cases ho : onE (dbTo pb pb.length) X Z k with
    | false => rfl
    | true =>
      exfalso
      unfold onE at ho
      obtain ⟨q1, q2⟩ := hbd (k : Int)
      obtain ⟨q3, q4⟩ := hbd ((k : Int) + 1)
      have hon := on_hgt q1 q2 q3 q4 hx2 hz2 (hne2 k hk) ho
      rw [← sg_mk', sg_db b0, hH] at hon
      rw [hql] at hk
      have hnk := hN k hk
      have hfl := sg_lt (x := rx pb) (hbe hk)
      generalize sg (rx pb) (rh pb) k = f at *
      obtain ⟨o1, o2, o3⟩ := hon
      unfold Seg.tz at o1
      simp only at o1 o2 o3
      have hfn : 2 * f.nm T = f.ad * X := by
        unfold Seg.nm Seg.ad
        grind
      have hd := (hnk T T (by omega) (by omega) (by omega) (by omega) (by omega) (by omega) (by omega) (by omega)).1
      apply hd
      unfold dl
      have : 2 * (s.nm T * f.ad - f.nm T * s.ad) = 0 := by
        have e1 : 2 * (s.nm T * f.ad) = (s.ad * X) * f.ad := by rw [← hnm]; grind
        have e2 : 2 * (f.nm T * s.ad) = (f.ad * X) * s.ad := by rw [← hfn]; grind
        grind
      omega
  have hfree := Free.of_off hbd hx2 hz2 (by rw [hql]; exact b0) off
  refine ⟨T, by omega, by omega, fun i hi => ?_, ?_⟩
  · have := hfree i (by rw [hql]; exact hi)
    rw [hr, hH] at this
    omega
  · have hsd := side_left hbd hx2 hz2 (by rw [hql]; exact b0) hne2 off
    rw [hql, hH] at hsd
    have e : xs (ptLo (rx (dbTo pb pb.length)) (rh (dbTo pb pb.length)) X (2 * T)) pb.length = Lp pb.length (rx pb) (rh pb) s T := by
      unfold Lp
      refine xs_congr fun i hi => ?_
      have hfl := sg_lt (x := rx pb) (hbe hi)
      rw [Bool.eq_iff_iff, ptL_iff, sg_db b0]
      unfold spL
      rw [decide_eq_true_iff]
      generalize sg (rx pb) (rh pb) i = f at *
      have e1 : Seg.nm ⟨2 * f.a, 2 * f.b, 2 * f.c, 2 * f.d⟩ (2 * T) = 4 * f.nm T := by unfold Seg.nm Seg.ad; simp only; grind
      have e2 : Seg.ad ⟨2 * f.a, 2 * f.b, 2 * f.c, 2 * f.d⟩ = 2 * f.ad := by unfold Seg.ad; simp only; omega
      have e3 : 2 * dl s f T = s.ad * (X * f.ad - 2 * f.nm T) := by
        unfold dl
        have g1 : 2 * (s.nm T * f.ad) = (s.ad * X) * f.ad := by rw [← hnm]; grind
        grind
      have e4 := (pos_mul (y := X * f.ad - 2 * f.nm T) hsa).1
      rw [e1, e2]
      simp only
      have e5 : X * (2 * f.ad) = 2 * (X * f.ad) := by grind
      rw [e5]
      omega
    rw [← e]
    cases hq : xs (ptLo (rx (dbTo pb pb.length)) (rh (dbTo pb pb.length)) X (2 * T)) pb.length with
    | false => rfl
    | true => exact absurd (hsd.2 hq) hm
theorem off_of {ps : List (Int × Int)} {x z : Int} (h : 0 < sideZ ps x z) : OffTo ps x z ps.length := by
  intro k hk
  cases ho : onE ps x z k with
  | false => rfl
  | true =>
    have := sideZ_on hk ho
    omega
/-- no point lies inside of two rings that may be on a map together -/
theorem in_one {pa pb : List (Int × Int)} (ha : RingP pa) (hb : RingP pb) (h : apartS pa pb = true) {x z : Int} (hp : bdP x z) : ¬ (0 < sideZ pa x z ∧ 0 < sideZ pb x z) := by
  rintro ⟨h1, h2⟩
  have o1 := off_of h1
  have o2 := off_of h2
  have hx : -2000 ≤ x ∧ x ≤ 2000 := by unfold bdP at hp; omega
  have hz : -2000 ≤ z ∧ z ≤ 2000 := by unfold bdP at hp; omega
  have a0 : 0 < pa.length := by have := ha.1; omega
  have b0 : 0 < pb.length := by have := hb.1; omega
  rw [side_left (Bd2.of ha.2.2.1) hx hz a0 (fun i hi => ha.poly.ne hi) o1] at h1
  rw [side_left (Bd2.of hb.2.2.1) hx hz b0 (fun i hi => hb.poly.ne hi) o2] at h2
  obtain ⟨_, m1, m2⟩ := apart_facts h
  refine core_none ha.poly hb.poly (W := wUp pa) (V := wUp pb) (fun j k hj hk => ring_rel ha hb h hj hk) (fun j hj T q1 q2 q3 => ring_left ha hj q1 q2 q3) (fun j hj T q1 q2 q3 => ring_left hb hj q1 q2 q3) (fun j hj hno => ?_) (fun k hk hno => ?_) (Free.of_off (Bd2.of ha.2.2.1) hx hz a0 o1) (Free.of_off (Bd2.of hb.2.2.1) hx hz b0 o2) ⟨h1, h2⟩
  · refine mid_left ha hb hj (fun k hk => ?_) (m1 _ (mem_edL.2 ⟨j, hj, rfl⟩))
    rcases ring_rel ha hb h hj hk with c | c
    · exact c.1
    · exact absurd c.1 (hno k hk)
  · refine mid_left hb ha hk (fun j hj => ?_) (m2 _ (mem_edL.2 ⟨k, hk, rfl⟩))
    rcases ring_rel ha hb h hj hk with c | c
    · exact c.2
    · exact absurd c.1.symm (hno j hj)
/-- in a map at most one ring holds a point inside -/
theorem map_one {L : List (List (Int × Int))} (h : MapP L) {x z : Int} (hp : bdP x z) {i j : Nat} (hi : i < L.length) (hj : j < L.length) (h1 : 0 < sideZ (L.getD i []) x z) (h2 : 0 < sideZ (L.getD j []) x z) : i = j := by
  rcases Nat.lt_trichotomy i j with c | c | c
  · exact absurd ⟨h1, h2⟩ (in_one (ringB_iff.1 (h.2.1 i hi)) (ringB_iff.1 (h.2.1 j hj)) (h.2.2 j i c hj) hp)
  · exact c
  · exact absurd ⟨h2, h1⟩ (in_one (ringB_iff.1 (h.2.1 j hj)) (ringB_iff.1 (h.2.1 i hi)) (h.2.2 i j c hi) hp)
end Go.Proofs.YtabdffponmmhoaaGreatDoor
