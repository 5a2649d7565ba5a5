/- Plain laws of a ring that a chord cuts: the areas of the parts add up. -/
import Derived.Test.YteppjdoggjcdoaaMN
namespace Go.Proofs.Yteppjdoggjcdoaa

def cr (p q : Int × Int) : Int := p.1 * q.2 - p.2 * q.1
theorem cr_neg (p q : Int × Int) : cr q p = - cr p q := by unfold cr; rw [Int.mul_comm q.1, Int.mul_comm q.2]; omega
/-- the sum along m sides from the s-th point -/
def arc (P : Nat → Int × Int) (s m : Nat) : Int := tot (fun k => cr (P (s + k)) (P (s + k + 1))) m
theorem arc_add (P : Nat → Int × Int) (s m : Nat) : ∀ k, arc P s (m + k) = arc P s m + arc P (s + m) k
  | 0 => by simp [arc, tot]
  | k + 1 => by
    have := arc_add P s m k
    unfold arc at *
    rw [← Nat.add_assoc, tot, this, tot, Nat.add_assoc s m k]
    omega
theorem arc_shift {P : Nat → Int × Int} {n : Nat} (hp : ∀ k, P (k + n) = P k) (s m : Nat) : arc P (s + n) m = arc P s m := by
  refine tot_congr fun k _ => ?_
  rw [show s + n + k = s + k + n by omega, hp, show s + k + n + 1 = s + k + 1 + n by omega, hp]
theorem arc_round {P : Nat → Int × Int} {n : Nat} (hp : ∀ k, P (k + n) = P k) (s : Nat) : arc P s n = arc P 0 n := by
  have h1 := arc_add P 0 s n
  have h2 := arc_add P 0 n s
  rw [Nat.zero_add] at h1 h2
  have h3 := arc_shift hp 0 s
  rw [Nat.zero_add] at h3
  rw [Nat.add_comm n s] at h2
  omega
theorem areaTo_tot (ps : List (Int × Int)) : ∀ m, areaTo ps m = tot (fun k => cr (ptx ps (k : Int), ptz ps (k : Int)) (ptx ps ((k + 1 : Nat) : Int), ptz ps ((k + 1 : Nat) : Int))) m
  | 0 => rfl
  | m + 1 => by rw [areaTo, tot, areaTo_tot ps m]; rfl
/-- the area of a list whose points are those of P from the s-th on -/
theorem area_arc {L : List (Int × Int)} {P : Nat → Int × Int} {s m : Nat} (hL : L.length = m + 1) (h : ∀ k, k < L.length → L.getD k (0, 0) = P (s + k)) : areaZ L = arc P s m + cr (P (s + m)) (P s) := by
  unfold areaZ
  rw [areaTo_tot, hL, tot]
  have e : ∀ k, k ≤ m → (ptx L (k : Int), ptz L (k : Int)) = P (s + k) := fun k hk => by
    rw [ptxz_nat, Nat.mod_eq_of_lt (by omega)]; exact h k (by omega)
  have e0 : (ptx L ((m + 1 : Nat) : Int), ptz L ((m + 1 : Nat) : Int)) = P s := by
    rw [ptxz_nat, hL, Nat.mod_self]; exact h 0 (by omega)
  rw [e m (Nat.le_refl _), e0]
  congr 1
  refine tot_congr fun k hk => ?_
  rw [e k (by omega), e (k + 1) (by omega)]; rfl
/-- a whole round from any point on -/
theorem area_round {L : List (Int × Int)} {P : Nat → Int × Int} {s n : Nat} (h0 : 0 < n) (hL : L.length = n) (hp : ∀ k, P (k + n) = P k) (h : ∀ k, k < L.length → L.getD k (0, 0) = P (s + k)) : areaZ L = arc P 0 n := by
  obtain ⟨m, rfl⟩ : ∃ m, n = m + 1 := ⟨n - 1, by omega⟩
  rw [area_arc hL h, ← arc_round hp s, arc_add P s m 1]
  congr 1
  have := hp s
  simp only [arc, tot, Nat.add_zero, Int.zero_add]
  rw [show s + m + 1 = s + (m + 1) by omega, hp]
theorem tot_rev (f : Nat → Int) : ∀ n : Nat, tot (fun i => f (n - 1 - i)) n = tot f n
  | 0 => rfl
  | n + 1 => by
    have h1 : ∀ m, tot (fun i => f (m - i)) m + f 0 = tot (fun i => f (m - i)) (m + 1) := fun m => by rw [tot, Nat.sub_self]
    have h2 : ∀ (g : Nat → Int) (m : Nat), tot g (m + 1) = g 0 + tot (fun i => g (i + 1)) m := fun g m => by
      induction m with
      | zero => simp [tot]
      | succ m ih => rw [tot, ih, tot]; omega
    rw [show n + 1 - 1 = n from rfl, h2, tot, ← tot_rev f n, Nat.sub_zero, Int.add_comm]
    congr 1
    exact tot_congr fun i hi => by rw [show n - (i + 1) = n - 1 - i by omega]
/-- a whole round the other way -/
theorem area_back {L : List (Int × Int)} {P : Nat → Int × Int} {t n : Nat} (h0 : 0 < n) (hL : L.length = n) (hp : ∀ k, P (k + n) = P k) (h : ∀ k, k < L.length → L.getD k (0, 0) = P (t + n - k)) : areaZ L = - arc P 0 n := by
  have hq : ∀ k, k ≤ n → (ptx L (k : Int), ptz L (k : Int)) = P (t + n - k) := fun k hk => by
    rw [ptxz_nat, hL]
    rcases Nat.lt_or_ge k n with c | c
    · rw [Nat.mod_eq_of_lt c]; exact h k (by omega)
    · obtain rfl : k = n := by omega
      rw [Nat.mod_self, h 0 (by omega), Nat.sub_zero, Nat.add_sub_cancel, hp]
  unfold areaZ
  rw [areaTo_tot, hL, ← arc_round hp t, arc, ← tot_rev, ← Int.neg_neg (tot _ n), ← tot_neg]
  congr 1
  refine tot_congr fun k hk => ?_
  rw [hq (n - 1 - k) (by omega), hq (n - 1 - k + 1) (by omega), ← cr_neg, show t + n - (n - 1 - k + 1) = t + k by omega, show t + n - (n - 1 - k) = t + k + 1 by omega]
def ptN (ps : List (Int × Int)) (k : Nat) : Int × Int := ps.getD (k % ps.length) (0, 0)
theorem ptN_round (ps : List (Int × Int)) (k : Nat) : ptN ps (k + ps.length) = ptN ps k := by unfold ptN; rw [Nat.add_mod_right]
theorem ptN_lt {ps : List (Int × Int)} {k : Nat} (hk : k < ps.length) : ptN ps k = ps.getD k (0, 0) := by unfold ptN; rw [Nat.mod_eq_of_lt hk]
theorem area_self {ps : List (Int × Int)} (h0 : 0 < ps.length) : areaZ ps = arc (ptN ps) 0 ps.length :=
  area_round h0 rfl (ptN_round ps) fun k hk => by rw [Nat.zero_add, ptN_lt hk]
/-- the area of the normal ring -/
theorem area_norm {ps : List (Int × Int)} (h0 : 0 < ps.length) : areaZ (normS ps) = ((areaZ ps).natAbs : Int) := by
  have hg : ∀ k, k < ps.length → (normS ps).getD k (0, 0) = nsAt ps (minTo ps ps.length) k := fun k hk => map_range_getD _ hk
  have hm := minTo_lt h0 (Nat.le_refl ps.length)
  by_cases c : 0 < areaZ ps
  · rw [area_round (P := ptN ps) (s := minTo ps ps.length) h0 (normS_len ps) (ptN_round ps) fun k hk => ?_, ← area_self h0]
    · omega
    · rw [normS_len] at hk
      rw [hg k hk, nsAt, if_pos c, show ((minTo ps ps.length : Int) + (k : Int)) = ((minTo ps ps.length + k : Nat) : Int) by omega, ptxz_nat]; rfl
  · rw [area_back (P := ptN ps) (t := minTo ps ps.length) h0 (normS_len ps) (ptN_round ps) fun k hk => ?_, ← area_self h0]
    · omega
    · rw [normS_len] at hk
      rw [hg k hk, nsAt, if_neg c, show ((minTo ps ps.length : Int) + (ps.length : Int) - (k : Int)) = ((minTo ps ps.length + ps.length - k : Nat) : Int) by omega, ptxz_nat]; rfl
/-- the parts into which a chord cuts a list -/
def cut1 (N : List (Int × Int)) (a b : Nat) : List (Int × Int) := (N.drop a).take (b + 1 - a)
def cut2 (N : List (Int × Int)) (a b : Nat) : List (Int × Int) := N.drop b ++ N.take (a + 1)
theorem cut1_len {N : List (Int × Int)} {a b : Nat} (hab : a < b) (hb : b < N.length) : (cut1 N a b).length = b - a + 1 := by
  unfold cut1; rw [List.length_take, List.length_drop]; omega
theorem cut2_len {N : List (Int × Int)} {a b : Nat} (hab : a < b) (hb : b < N.length) : (cut2 N a b).length = N.length - b + a + 1 := by
  unfold cut2; rw [List.length_append, List.length_take, List.length_drop]; omega
theorem cut1_at {N : List (Int × Int)} {a b k : Nat} (hab : a < b) (hb : b < N.length) (hk : k < b - a + 1) : (cut1 N a b).getD k (0, 0) = ptN N (a + k) := by
  rw [ptN_lt (by omega)]
  unfold cut1
  rw [List.getD_eq_getElem?_getD, List.getElem?_take_of_lt (by omega), List.getElem?_drop, ← List.getD_eq_getElem?_getD]
theorem cut2_at {N : List (Int × Int)} {a b k : Nat} (hab : a < b) (hb : b < N.length) (hk : k < N.length - b + a + 1) : (cut2 N a b).getD k (0, 0) = ptN N (b + k) := by
  unfold cut2
  rw [List.getD_eq_getElem?_getD]
  rcases Nat.lt_or_ge (b + k) N.length with c | c
  · rw [List.getElem?_append_left (by rw [List.length_drop]; omega), List.getElem?_drop, ← List.getD_eq_getElem?_getD, ptN_lt c]
  · rw [List.getElem?_append_right (by rw [List.length_drop]; omega), List.length_drop, List.getElem?_take_of_lt (by omega), ← List.getD_eq_getElem?_getD,
      show b + k = k - (N.length - b) + N.length by omega, ptN_round, ptN_lt (by omega)]
/-- the areas of the parts add up to that of the whole -/
theorem cut_area {N : List (Int × Int)} {a b : Nat} (hab : a < b) (hb : b < N.length) : areaZ (cut1 N a b) + areaZ (cut2 N a b) = areaZ N := by
  rw [area_arc (P := ptN N) (s := a) (cut1_len hab hb) fun k hk => cut1_at hab hb (by rw [cut1_len hab hb] at hk; exact hk),
    area_arc (P := ptN N) (s := b) (cut2_len hab hb) fun k hk => cut2_at hab hb (by rw [cut2_len hab hb] at hk; exact hk),
    area_self (by omega), ← arc_round (ptN_round N) a]
  have h1 := arc_add (ptN N) a (b - a) (N.length - b + a)
  rw [show b - a + (N.length - b + a) = N.length by omega, show a + (b - a) = b by omega] at h1
  rw [h1, show a + (b - a) = b by omega, show b + (N.length - b + a) = a + N.length by omega, ptN_round, cr_neg (ptN N a) (ptN N b)]
  omega
theorem touch_self {e : Ed} (h : goodEd e) : touchE e e = false := by
  obtain ⟨⟨a, b⟩, ⟨c, d⟩⟩ := e
  have h3 := h.2.2
  have h4 := h3
  rw [eqP_comm] at h4
  simp only at h3 h4
  have e1 : ∀ x z, eqP x z x z = true := fun x z => eqP_iff.2 ⟨rfl, rfl⟩
  simp [touchE, touchB, crossW, on_first, h3, h4, e1]
theorem edge_sgn {ps : List (Int × Int)} (h0 : 0 < ps.length) {j : Nat} (hj : j < ps.length) : ∃ i, i < ps.length ∧ edAt (normS ps) i = if 0 < areaZ ps then edAt ps j else flipEd (edAt ps j) := by
  have hm := minTo_lt h0 (Nat.le_refl ps.length)
  by_cases c : 0 < areaZ ps
  · refine ⟨(j + ps.length - minTo ps ps.length) % ps.length, Nat.mod_lt _ h0, ?_⟩
    rw [ns_edge h0 (Nat.mod_lt _ h0), if_pos c, if_pos c, Nat.add_mod_mod, show minTo ps ps.length + (j + ps.length - minTo ps ps.length) = j + ps.length by omega, Nat.add_mod_right, Nat.mod_eq_of_lt hj]
  · by_cases c' : j < minTo ps ps.length
    · refine ⟨minTo ps ps.length - 1 - j, by omega, ?_⟩
      rw [ns_edge h0 (by omega), if_neg c, if_neg c, show minTo ps ps.length + ps.length - (minTo ps ps.length - 1 - j) - 1 = j + ps.length by omega, Nat.add_mod_right, Nat.mod_eq_of_lt hj]
    · refine ⟨minTo ps ps.length + ps.length - 1 - j, by omega, ?_⟩
      rw [ns_edge h0 (by omega), if_neg c, if_neg c, show minTo ps ps.length + ps.length - (minTo ps ps.length + ps.length - 1 - j) - 1 = j by omega, Nat.mod_eq_of_lt hj]
/-- rings of a map, one with an edge and one with its opposite, turn the same way -/
theorem same_turn {pa pb : List (Int × Int)} (ha : RingP pa) (hap : apartS pa pb = true) {i j : Nat} (hi : i < pa.length) (hj : j < pb.length) (he : edAt pb j = flipEd (edAt pa i)) : 0 < areaZ pa ↔ 0 < areaZ pb := by
  have a0 : 0 < pa.length := by omega
  have b0 : 0 < pb.length := by omega
  obtain ⟨p, hp, ep⟩ := edge_sgn a0 hi
  obtain ⟨q, hq, eq⟩ := edge_sgn b0 hj
  have ht : touchE (edAt (normS pa) p) (edAt (normS pb) q) = true := by
    unfold apartS at hap
    simp only [List.all_eq_true, Bool.and_eq_true] at hap
    exact hap.1.1 _ (mem_edL.2 ⟨p, by rw [normS_len]; exact hp, rfl⟩) _ (mem_edL.2 ⟨q, by rw [normS_len]; exact hq, rfl⟩)
  have hg := ha.ed hi
  rw [ep, eq, he] at ht
  by_cases c : 0 < areaZ pa <;> by_cases c' : 0 < areaZ pb
  · exact ⟨fun _ => c', fun _ => c⟩
  · rw [if_pos c, if_neg c', show flipEd (flipEd (edAt pa i)) = edAt pa i from rfl, touch_self hg] at ht
    cases ht
  · rw [if_neg c, if_pos c', touch_self hg.flip] at ht
    cases ht
  · exact ⟨fun h => absurd h c, fun h => absurd h c'⟩
theorem edAt_ptN {L : List (Int × Int)} {k : Nat} (hk : k < L.length) : edAt L k = (ptN L k, ptN L (k + 1)) := by
  rw [edAt_eq hk, ptxz_nat, ptxz_nat]; rfl
/-- the areas of the parts of a cut ring that make a map add up -/
theorem cut_abs {ps : List (Int × Int)} {a b : Nat} (hab : a < b) (hb : b < ps.length) (hm : MapP [cut1 (normS ps) a b, cut2 (normS ps) a b]) : areaA (cut1 (normS ps) a b) + areaA (cut2 (normS ps) a b) = areaA ps := by
  have h0 : 0 < ps.length := by omega
  have hbn : b < (normS ps).length := by rw [normS_len]; exact hb
  have hA := cut_area hab hbn
  rw [area_norm h0] at hA
  have r1 : RingP (cut1 (normS ps) a b) := ringB_iff.1 (hm.2.1 0 (by simp))
  have r2 : RingP (cut2 (normS ps) a b) := ringB_iff.1 (hm.2.1 1 (by simp))
  have hap : apartS (cut1 (normS ps) a b) (cut2 (normS ps) a b) = true := hm.2.2 1 0 (by omega) (by simp)
  have l1 := cut1_len hab hbn
  have l2 := cut2_len hab hbn
  rw [normS_len] at l2
  have hs := same_turn r1 hap (i := b - a) (j := ps.length - b + a) (by omega) (by omega) (by
    rw [edAt_ptN (by omega), edAt_ptN (by omega), flipEd]
    simp only
    rw [show ps.length - b + a + 1 = 0 + (cut2 (normS ps) a b).length by omega, ptN_round, show b - a + 1 = 0 + (cut1 (normS ps) a b).length by omega, ptN_round,
      ptN_lt (k := 0) (by omega), ptN_lt (k := 0) (by omega), ptN_lt (by omega), ptN_lt (by omega), cut1_at hab hbn (by omega), cut1_at hab hbn (by omega), cut2_at hab hbn (by rw [normS_len]; omega), cut2_at hab hbn (by rw [normS_len]; omega),
      show b + (ps.length - b + a) = a + (normS ps).length by rw [normS_len]; omega, ptN_round, show a + (b - a) = b by omega, Nat.add_zero, Nat.add_zero])
  have n1 := r1.area
  have n2 := r2.area
  unfold areaA
  omega
end Go.Proofs.Yteppjdoggjcdoaa
