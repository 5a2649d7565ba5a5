/- Plain laws of a ring that a chord cuts: its parts make a map, and merged they are the ring again. -/
import Derived.Test.YteppjdoggjcdoaaPG
namespace Go.Proofs.Yteppjdoggjcdoaa
open Go.RowKit

/-- R is N, begun s corners later -/
def Rot (R N : List (Int × Int)) (s : Nat) : Prop := R.length = N.length ∧ ∀ k, ptN R k = ptN N (k + s)
theorem Rot.at_ {R N : List (Int × Int)} {s : Nat} (h : Rot R N s) {k : Nat} (hk : k < R.length) : R.getD k (0, 0) = ptN N (k + s) := by rw [← ptN_lt hk]; exact h.2 k
theorem Rot.of {R N : List (Int × Int)} {s : Nat} (hl : R.length = N.length) (h0 : 0 < R.length) (h : ∀ k, k < R.length → R.getD k (0, 0) = ptN N (k + s)) : Rot R N s := ⟨hl, fun k => by
  have e1 : ptN R k = R.getD (k % R.length) (0, 0) := rfl
  rw [e1, h _ (Nat.mod_lt _ h0)]
  unfold ptN
  rw [← hl, Nat.mod_add_mod]⟩
theorem Rot.area {R N : List (Int × Int)} {s : Nat} (h : Rot R N s) (h0 : 0 < N.length) : areaZ R = areaZ N := by
  rw [area_round (P := ptN N) (s := s) h0 h.1 (ptN_round N) (fun k hk => by rw [h.at_ hk, Nat.add_comm]), area_self h0]
/-- it turns counterclockwise and begins with its least corner -/
def Nrm (N : List (Int × Int)) : Prop := 0 < areaZ N ∧ ∀ j, j < N.length → ¬ lessP (atP N j) (atP N 0) = true
theorem norm_rot {F : List (Int × Int)} (h0 : 0 < F.length) (c : 0 < areaZ F) : Rot (normS F) F (minTo F F.length) :=
  Rot.of (normS_len F) (by rw [normS_len]; exact h0) fun k hk => by
    rw [normS_len] at hk
    have hg : (normS F).getD k (0, 0) = nsAt F (minTo F F.length) k := map_range_getD _ hk
    rw [hg, nsAt, if_pos c, show ((minTo F F.length : Int) + (k : Int)) = ((k + minTo F F.length : Nat) : Int) by omega, ptxz_nat]; rfl
theorem ns_point {F : List (Int × Int)} (h0 : 0 < F.length) {k : Nat} (hk : k < F.length) : ∃ j, j < F.length ∧ atP (normS F) k = atP F j := by
  have hg : (normS F).getD k (0, 0) = nsAt F (minTo F F.length) k := map_range_getD _ hk
  unfold atP
  rw [hg, nsAt]
  by_cases c : 0 < areaZ F
  · refine ⟨(minTo F F.length + k) % F.length, Nat.mod_lt _ h0, ?_⟩
    rw [if_pos c, show ((minTo F F.length : Int) + (k : Int)) = ((minTo F F.length + k : Nat) : Int) by omega, ptxz_nat]
  · refine ⟨(minTo F F.length + F.length - k) % F.length, Nat.mod_lt _ h0, ?_⟩
    rw [if_neg c, show ((minTo F F.length : Int) + (F.length : Int) - (k : Int)) = ((minTo F F.length + F.length - k : Nat) : Int) by omega, ptxz_nat]
theorem ns_zero {F : List (Int × Int)} (h0 : 0 < F.length) : atP (normS F) 0 = atP F (minTo F F.length) := by
  have hg : (normS F).getD 0 (0, 0) = nsAt F (minTo F F.length) 0 := map_range_getD _ h0
  have hm := minTo_lt h0 (Nat.le_refl F.length)
  unfold atP
  rw [hg, nsAt]
  by_cases c : 0 < areaZ F
  · rw [if_pos c, show ((minTo F F.length : Int) + ((0 : Nat) : Int)) = ((minTo F F.length : Nat) : Int) by omega, ptxz_nat, Nat.mod_eq_of_lt hm]
  · rw [if_neg c, show ((minTo F F.length : Int) + (F.length : Int) - ((0 : Nat) : Int)) = ((minTo F F.length + F.length : Nat) : Int) by omega, ptxz_nat, Nat.add_mod_right, Nat.mod_eq_of_lt hm]
theorem nrm_norm {F : List (Int × Int)} (h : RingP F) : Nrm (normS F) := by
  have h0 : 0 < F.length := by have := h.1; omega
  refine ⟨by rw [area_norm h0]; have := h.area; omega, fun j hj => ?_⟩
  rw [normS_len] at hj
  obtain ⟨i, hi, e⟩ := ns_point h0 hj
  rw [e, ns_zero h0]
  exact minTo_spec hi
theorem less_anti {a b : Int × Int} (h1 : ¬ lessP a b = true) (h2 : ¬ lessP b a = true) : a = b := by
  rw [lessP_iff] at h1 h2
  exact Prod.ext (by omega) (by omega)
theorem back_mod {n s : Nat} (h0 : 0 < n) : ((n - s % n) % n + s) % n = 0 := by
  have hs := Nat.mod_lt s h0
  rw [Nat.mod_add_mod, ← Nat.add_mod_mod, Nat.sub_add_cancel (Nat.le_of_lt hs), Nat.mod_self]
/-- a rotation of a normal ring has that ring as its normal ring -/
theorem rot_norm {R N : List (Int × Int)} {s : Nat} (hN : RingP N) (hn : Nrm N) (h : Rot R N s) : normS R = N := by
  have h0 : 0 < N.length := by have := hN.1; omega
  have hR0 : 0 < R.length := by rw [h.1]; exact h0
  have ca : 0 < areaZ R := by rw [h.area h0]; exact hn.1
  have h1 := norm_rot hR0 ca
  have hm := minTo_lt hR0 (Nat.le_refl R.length)
  have e1 : atP R (minTo R R.length) = atP N ((minTo R R.length + s) % N.length) := h.at_ hm
  have hz : (minTo R R.length + s) % N.length = 0 := by
    refine hN.diff _ _ (Nat.mod_lt _ h0) h0 ?_
    rw [← e1]
    refine less_anti (by rw [e1]; exact hn.2 _ (Nat.mod_lt _ h0)) ?_
    have hj : (N.length - s % N.length) % N.length < R.length := by rw [h.1]; exact Nat.mod_lt _ h0
    have e2 : atP R ((N.length - s % N.length) % N.length) = atP N 0 := by
      have q : atP R ((N.length - s % N.length) % N.length) = atP N (((N.length - s % N.length) % N.length + s) % N.length) := h.at_ hj
      rw [q, back_mod h0]
    have := minTo_spec (o := R) hj
    rwa [e2] at this
  refine list_getD_ext (0, 0) (by rw [normS_len]; exact h.1) fun k hk => ?_
  rw [h1.at_ hk, h.2]
  rw [normS_len, h.1] at hk
  rw [← ptN_lt hk]
  unfold ptN
  rw [Nat.add_assoc, Nat.add_mod, hz, Nat.add_zero, Nat.mod_mod]
theorem norm_norm {F : List (Int × Int)} (h : RingP F) : normS (normS F) = normS F := rot_norm (s := 0) h.norm (nrm_norm h) ⟨rfl, fun _ => rfl⟩
theorem edL_any {N : List (Int × Int)} (h0 : 0 < N.length) {e : Ed} : e ∈ edL N ↔ ∃ i, e = (ptN N i, ptN N (i + 1)) := by
  constructor
  · intro he
    obtain ⟨i, hi, rfl⟩ := mem_edL'.1 he
    exact ⟨i, edAt_ptN hi⟩
  · rintro ⟨i, rfl⟩
    refine mem_edL'.2 ⟨i % N.length, Nat.mod_lt _ h0, ?_⟩
    rw [edAt_ptN (Nat.mod_lt _ h0)]
    unfold ptN
    rw [Nat.mod_mod, Nat.mod_add_mod]
theorem ptN_same {N : List (Int × Int)} {i j : Nat} (h : i % N.length = j % N.length) : ptN N i = ptN N j := by unfold ptN; rw [h]
theorem rot_edges {R N : List (Int × Int)} {s : Nat} (h : Rot R N s) (h0 : 0 < N.length) {e : Ed} : e ∈ edL R ↔ e ∈ edL N := by
  rw [edL_any (by rw [h.1]; exact h0), edL_any h0]
  constructor
  · rintro ⟨i, rfl⟩
    exact ⟨i + s, by rw [h.2, h.2, show i + 1 + s = i + s + 1 by omega]⟩
  · rintro ⟨i, rfl⟩
    refine ⟨i + (N.length - s % N.length) % N.length, ?_⟩
    have hb := back_mod (s := s) h0
    have hk : ∀ k, ptN N (k + (N.length - s % N.length) % N.length + s) = ptN N k := fun k => ptN_same (by rw [Nat.add_assoc, Nat.add_mod, hb, Nat.add_zero, Nat.mod_mod])
    rw [h.2, h.2, hk, show i + (N.length - s % N.length) % N.length + 1 + s = i + 1 + (N.length - s % N.length) % N.length + s by omega, hk]
/-- a sign that turns with each mark -/
def tg (f : Nat → Bool) : Nat → Int
  | 0 => -1
  | k + 1 => if f k = true then -tg f k else tg f k
theorem tg_head (f : Nat → Bool) : ∀ n, tg f (n + 1) = if f 0 = true then -tg (fun k => f (k + 1)) n else tg (fun k => f (k + 1)) n
  | 0 => rfl
  | n + 1 => by
    rw [tg, tg_head f n, tg]
    cases f 0 <;> cases f (n + 1) <;> simp
theorem tg_shift1 (f : Nat → Bool) (n : Nat) (hp : f n = f 0) : tg (fun k => f (k + 1)) n = tg f n := by
  have h1 := tg_head f n
  rw [tg, hp] at h1
  split at h1 <;> omega
theorem tg_shift (f : Nat → Bool) (n : Nat) (hp : ∀ k, f (k + n) = f k) : ∀ s, tg (fun k => f (k + s)) n = tg f n
  | 0 => rfl
  | s + 1 => by
    have h1 := tg_shift1 (fun k => f (k + s)) n (by show f (n + s) = f (0 + s); rw [Nat.add_comm n s, hp, Nat.zero_add])
    rw [tg_shift f n hp s] at h1
    rw [← h1]
    congr 1
    funext k
    rw [show k + (s + 1) = k + 1 + s by omega]
/-- whether an edge crosses the ray, whether it holds the point -/
def flB (x z : Int) (p q : Int × Int) : Bool := (decide (z < p.2) != decide (z < q.2)) && (decide (0 < turnW p.1 p.2 q.1 q.2 x z) == decide (p.2 < q.2))
theorem flipE_pt (ps : List (Int × Int)) (x z : Int) (k : Nat) : flipE ps x z (k : Int) = flB x z (ptN ps k) (ptN ps (k + 1)) := by
  unfold flipE flB
  rw [show (k : Int) + 1 = ((k + 1 : Nat) : Int) by omega, ptx_N, ptz_N, ptx_N, ptz_N]
theorem onE_pt (ps : List (Int × Int)) (x z : Int) (k : Nat) : onE ps x z (k : Int) = onW (ptN ps k).1 (ptN ps k).2 (ptN ps (k + 1)).1 (ptN ps (k + 1)).2 x z := by
  unfold onE
  rw [show (k : Int) + 1 = ((k + 1 : Nat) : Int) by omega, ptx_N, ptz_N, ptx_N, ptz_N]
theorem sideTo_tg (ps : List (Int × Int)) (x z : Int) : ∀ n : Nat, sideTo ps x z n = tg (fun k => flB x z (ptN ps k) (ptN ps (k + 1))) n
  | 0 => rfl
  | n + 1 => by rw [sideTo, tg, sideTo_tg ps x z n, flipE_pt]
theorem side_rot {R N : List (Int × Int)} {s : Nat} (h : Rot R N s) (h0 : 0 < N.length) (x z : Int) : sideZ R x z = sideZ N x z := by
  have hR0 : 0 < R.length := by rw [h.1]; exact h0
  have hany : ∀ L : List (Int × Int), 0 < L.length → ((List.range L.length).any (fun k => onE L x z k) = true ↔ ∃ e ∈ edL L, onW e.1.1 e.1.2 e.2.1 e.2.2 x z = true) := fun L hL => by
    rw [List.any_eq_true]
    constructor
    · rintro ⟨k, hk, q⟩
      rw [onE_pt] at q
      exact ⟨_, (edL_any hL).2 ⟨k, rfl⟩, q⟩
    · rintro ⟨e, he, q⟩
      obtain ⟨i, hi, rfl⟩ := mem_edL'.1 he
      rw [edAt_ptN hi] at q
      exact ⟨i, List.mem_range.2 hi, by rw [onE_pt]; exact q⟩
  have h1 : ((List.range R.length).any (fun k => onE R x z k) = true) ↔ ((List.range N.length).any (fun k => onE N x z k) = true) := by
    rw [hany R hR0, hany N h0]
    constructor
    · rintro ⟨e, he, q⟩; exact ⟨e, (rot_edges h h0).1 he, q⟩
    · rintro ⟨e, he, q⟩; exact ⟨e, (rot_edges h h0).2 he, q⟩
  have h2 : sideTo R x z R.length = sideTo N x z N.length := by
    rw [sideTo_tg, sideTo_tg, h.1, ← tg_shift (fun k => flB x z (ptN N k) (ptN N (k + 1))) N.length (fun k => by rw [ptN_round, show k + N.length + 1 = k + 1 + N.length by omega, ptN_round]) s]
    congr 1
    funext k
    rw [h.2, h.2, show k + 1 + s = k + s + 1 by omega]
  unfold sideZ
  rw [h2]
  by_cases c : (List.range N.length).any (fun k => onE N x z k) = true
  · rw [if_pos c, if_pos (h1.2 c)]
  · rw [if_neg c, if_neg (fun q => c (h1.1 q))]
theorem dbl_pt {Q : List (Int × Int)} (h0 : 0 < Q.length) (k : Nat) : ptN (dbTo Q Q.length) k = dbP (ptN Q k) := by
  unfold ptN
  rw [dbTo_len]
  have hk := Nat.mod_lt k h0
  unfold dbTo atP
  simp [List.getD, hk]
theorem mid_rot {R N : List (Int × Int)} {s : Nat} (h : Rot R N s) (h0 : 0 < N.length) (e : Ed) : midE R e = midE N e := by
  have hR0 : 0 < R.length := by rw [h.1]; exact h0
  have hd : Rot (dbTo R R.length) (dbTo N N.length) s := ⟨by rw [dbTo_len, dbTo_len]; exact h.1, fun k => by rw [dbl_pt hR0, dbl_pt h0, h.2]⟩
  unfold midE midB
  rw [side_rot hd (by rw [dbTo_len]; exact h0)]
theorem apart_rot {F S F' S' : List (Int × Int)} {s t : Nat} (hF : Rot F' F s) (hS : Rot S' S t) (f0 : 0 < F.length) (s0 : 0 < S.length) (n1 : normS F' = normS F) (n2 : normS S' = normS S) (h : apartS F S = true) : apartS F' S' = true := by
  have hm : ∀ (A B A' B' : List (Int × Int)) (i j : Nat), Rot A' A i → Rot B' B j → 0 < A.length → 0 < B.length → (edL A').any (midE B') = (edL A).any (midE B) := fun A B A' B' i j hA hB a0 b0 => by
    rw [Bool.eq_iff_iff, List.any_eq_true, List.any_eq_true]
    constructor
    · rintro ⟨e, he, q⟩
      rw [mid_rot hB b0] at q
      exact ⟨e, (rot_edges hA a0).1 he, q⟩
    · rintro ⟨e, he, q⟩
      rw [← mid_rot hB b0] at q
      exact ⟨e, (rot_edges hA a0).2 he, q⟩
  unfold apartS at *
  rw [n1, n2, hm F S F' S' s t hF hS f0 s0, hm S F S' F' t s hS hF s0 f0]
  exact h
theorem stP_ring {N : List (Int × Int)} (h : RingP N) : stP N = N := by
  have hall : ∀ i, i < N.length → stB N i = true := fun i hi => by
    have h3 := h.1
    have e0 : atP N i = ptN N i := by rw [ptN_lt hi]; rfl
    have ht := h.cyc.turn (i + N.length - 1)
    rw [show i + N.length - 1 + 1 = i + N.length by omega, ptN_round, show i + N.length - 1 + 2 = i + 1 + N.length by omega, ptN_round] at ht
    unfold stB
    rw [e0, show (i : Int) + 1 = ((i + 1 : Nat) : Int) by omega, ptx_N, ptz_N, ptx_N, ptz_N, bne_iff_ne]
    exact ht
  have : ∀ k, k ≤ N.length → stTo N k = N.take k := fun k => by
    induction k with
    | zero => intro _; rfl
    | succ k ih =>
      intro hk
      rw [stTo_yes (hall k (by omega)), ih (by omega), List.take_succ_eq_append_getElem (by omega)]
      congr 2
      unfold atP
      simp [List.getD, show k < N.length by omega]
  unfold stP
  rw [this _ (Nat.le_refl _), List.take_length]
theorem rot_ring {R N : List (Int × Int)} {s : Nat} (hN : RingP N) (h : Rot R N s) : RingP R :=
  (hN.cyc.shift s).ring h.1 fun k hk => h.at_ (by rw [h.1]; exact hk)
theorem no_back {N : List (Int × Int)} (h : RingP N) {i j : Nat} (h1 : ptN N j = ptN N (i + 1)) (h2 : ptN N (j + 1) = ptN N i) : False := by
  have h3 := h.1
  have e1 := h.cyc.diff _ _ h1
  have e2 := h.cyc.diff _ _ h2
  have e3 : (i + 1 + 1) % N.length = (j + 1) % N.length := by rw [Nat.add_mod, ← e1, ← Nat.add_mod]
  have e4 := mod_cancel (n := N.length) (a := 2) (b := 0) (s := i) (by omega) (by rw [show 2 + i = i + 1 + 1 by omega, Nat.zero_add, e3, e2])
  rw [Nat.zero_mod, Nat.mod_eq_of_lt (by omega)] at e4
  omega
theorem cut1_pt {N : List (Int × Int)} {a b k : Nat} (hab : a < b) (hb : b < N.length) (hk : k < b - a + 1) : ptN (cut1 N a b) k = ptN N (a + k) := by
  rw [ptN_lt (by rw [cut1_len hab hb]; exact hk), cut1_at hab hb hk]
theorem cut2_pt {N : List (Int × Int)} {a b k : Nat} (hab : a < b) (hb : b < N.length) (hk : k < N.length - b + a + 1) : ptN (cut2 N a b) k = ptN N (b + k) := by
  rw [ptN_lt (by rw [cut2_len hab hb]; exact hk), cut2_at hab hb hk]
theorem cut1_ed {N : List (Int × Int)} {a b : Nat} (hab : a < b) (hb : b < N.length) {e : Ed} : e ∈ edL (cut1 N a b) ↔ (∃ i, a ≤ i ∧ i < b ∧ e = (ptN N i, ptN N (i + 1))) ∨ e = (ptN N b, ptN N a) := by
  have hl := cut1_len hab hb
  rw [mem_edL']
  have hlast : edAt (cut1 N a b) (b - a) = (ptN N b, ptN N a) := by
    rw [edAt_ptN (by omega), cut1_pt hab hb (by omega), show b - a + 1 = 0 + (cut1 N a b).length by omega, ptN_round, cut1_pt hab hb (by omega), show a + (b - a) = b by omega, Nat.add_zero]
  have hmid : ∀ k, k < b - a → edAt (cut1 N a b) k = (ptN N (a + k), ptN N (a + k + 1)) := fun k hk => by
    rw [edAt_ptN (by omega), cut1_pt hab hb (by omega), cut1_pt hab hb (by omega)]; rfl
  constructor
  · rintro ⟨k, hk, rfl⟩
    rcases Nat.lt_or_ge k (b - a) with c | c
    · exact .inl ⟨a + k, by omega, by omega, hmid k c⟩
    · rw [show k = b - a by omega]
      exact .inr hlast
  · rintro (⟨i, h1, h2, rfl⟩ | rfl)
    · refine ⟨i - a, by omega, ?_⟩
      rw [hmid (i - a) (by omega), show a + (i - a) = i by omega]
    · exact ⟨b - a, by omega, hlast⟩
theorem cut2_ed {N : List (Int × Int)} {a b : Nat} (hab : a < b) (hb : b < N.length) {e : Ed} : e ∈ edL (cut2 N a b) ↔ (∃ i, b ≤ i ∧ i < N.length + a ∧ e = (ptN N i, ptN N (i + 1))) ∨ e = (ptN N a, ptN N b) := by
  have hl := cut2_len hab hb
  rw [mem_edL']
  have hlast : edAt (cut2 N a b) (N.length - b + a) = (ptN N a, ptN N b) := by
    rw [edAt_ptN (by omega), cut2_pt hab hb (by omega), show N.length - b + a + 1 = 0 + (cut2 N a b).length by omega, ptN_round, cut2_pt hab hb (by omega), show b + (N.length - b + a) = a + N.length by omega, ptN_round, Nat.add_zero]
  have hmid : ∀ k, k < N.length - b + a → edAt (cut2 N a b) k = (ptN N (b + k), ptN N (b + k + 1)) := fun k hk => by
    rw [edAt_ptN (by omega), cut2_pt hab hb (by omega), cut2_pt hab hb (by omega)]; rfl
  constructor
  · rintro ⟨k, hk, rfl⟩
    rcases Nat.lt_or_ge k (N.length - b + a) with c | c
    · exact .inl ⟨b + k, by omega, by omega, hmid k c⟩
    · rw [show k = N.length - b + a by omega]
      exact .inr hlast
  · rintro (⟨i, h1, h2, rfl⟩ | rfl)
    · refine ⟨i - b, by omega, ?_⟩
      rw [hmid (i - b) (by omega), show b + (i - b) = i by omega]
    · exact ⟨N.length - b + a, by omega, hlast⟩
theorem split_un {N p q : List (Int × Int)} (h : RingP N) {a b : Nat} (hab : a < b) (hb : b < N.length) (hp : ∀ e, e ∈ edL (normS p) ↔ e ∈ edL (cut1 N a b)) (hq : ∀ e, e ∈ edL (normS q) ↔ e ∈ edL (cut2 N a b)) :
    (∀ e, e ∈ unE p q ↔ ∃ i, a ≤ i ∧ i < b ∧ e = (ptN N i, ptN N (i + 1))) ∧ (∀ e, e ∈ unE q p ↔ ∃ i, b ≤ i ∧ i < N.length + a ∧ e = (ptN N i, ptN N (i + 1))) ∧ (ptN N b, ptN N a) ∈ shE p q := by
  refine ⟨fun e => ?_, fun e => ?_, ?_⟩
  · rw [unE_mem, hp, hq, cut1_ed hab hb, cut2_ed hab hb]
    constructor
    · rintro ⟨q1 | rfl, q2⟩
      · exact q1
      · exact absurd (.inr rfl) q2
    · rintro ⟨i, h1, h2, rfl⟩
      refine ⟨.inl ⟨i, h1, h2, rfl⟩, ?_⟩
      rintro (⟨j, h3, h4, e⟩ | e)
      · injection e with e1 e2
        exact no_back h e1.symm e2.symm
      · injection e with e1 e2
        have := h.cyc.diff _ _ e2
        rw [Nat.mod_eq_of_lt (by omega), Nat.mod_eq_of_lt hb] at this
        omega
  · rw [unE_mem, hp, hq, cut1_ed hab hb, cut2_ed hab hb]
    constructor
    · rintro ⟨q1 | rfl, q2⟩
      · exact q1
      · exact absurd (.inr rfl) q2
    · rintro ⟨i, h1, h2, rfl⟩
      refine ⟨.inl ⟨i, h1, h2, rfl⟩, ?_⟩
      rintro (⟨j, h3, h4, e⟩ | e)
      · injection e with e1 e2
        exact no_back h e1.symm e2.symm
      · injection e with e1 e2
        have := h.cyc.diff _ _ e2
        rw [Nat.mod_eq_of_lt (a := a) (by omega)] at this
        rcases Nat.lt_or_ge i N.length with c | c
        · rw [Nat.mod_eq_of_lt c] at this; omega
        · rw [show i = i - N.length + N.length by omega, Nat.add_mod_right, Nat.mod_eq_of_lt (by omega)] at this; omega
  · rw [shE_mem, hp, hq, cut1_ed hab hb, cut2_ed hab hb]
    exact ⟨.inr rfl, .inr rfl⟩
theorem split_perm {N p q : List (Int × Int)} (h : RingP N) (rp : RingP p) (rq : RingP q) {a b : Nat} (hab : a < b) (hb : b < N.length) (hp : ∀ e, e ∈ edL (normS p) ↔ e ∈ edL (cut1 N a b)) (hq : ∀ e, e ∈ edL (normS q) ↔ e ∈ edL (cut2 N a b)) :
    (mgE p q).length = N.length ∧ ∀ e, e ∈ mgE p q ↔ ∃ i, e = (ptN N i, ptN N (i + 1)) := by
  obtain ⟨u1, u2, _⟩ := split_un h hab hb hp hq
  have h3 := h.1
  have n1 : (unE p q).Nodup := (edL_nodup rp.diffN).sublist (by unfold unE unTo; rw [List.take_length]; exact List.filter_sublist)
  have n2 : (unE q p).Nodup := (edL_nodup rq.diffN).sublist (by unfold unE unTo; rw [List.take_length]; exact List.filter_sublist)
  have hmem : ∀ e, e ∈ mgE p q ↔ ∃ i, e = (ptN N i, ptN N (i + 1)) := fun e => by
    unfold mgE
    rw [List.mem_append, u1, u2]
    constructor
    · rintro (⟨i, _, _, q⟩ | ⟨i, _, _, q⟩) <;> exact ⟨i, q⟩
    · rintro ⟨i, rfl⟩
      have hr := Nat.mod_lt i (show 0 < N.length by omega)
      have e1 : ptN N i = ptN N (i % N.length) := ptN_same (by rw [Nat.mod_mod])
      have e2 : ptN N (i + 1) = ptN N (i % N.length + 1) := ptN_same (by rw [Nat.mod_add_mod])
      rcases Nat.lt_or_ge (i % N.length) a with c | c
      · refine .inr ⟨i % N.length + N.length, by omega, by omega, ?_⟩
        rw [ptN_round, show i % N.length + N.length + 1 = i % N.length + 1 + N.length by omega, ptN_round, e1, e2]
      · rcases Nat.lt_or_ge (i % N.length) b with c' | c'
        · exact .inl ⟨i % N.length, c, c', by rw [e1, e2]⟩
        · exact .inr ⟨i % N.length, c', by omega, by rw [e1, e2]⟩
  have hnd : (mgE p q).Nodup := by
    unfold mgE
    rw [List.nodup_append]
    refine ⟨n1, n2, fun x hx y hy exy => ?_⟩
    subst exy
    obtain ⟨i, h1, h2, e1⟩ := (u1 x).1 hx
    obtain ⟨j, h4, h5, e2⟩ := (u2 x).1 hy
    rw [e1] at e2
    injection e2 with e2 _
    have := h.cyc.diff _ _ e2
    rw [Nat.mod_eq_of_lt (a := i) (by omega)] at this
    rcases Nat.lt_or_ge j N.length with c | c
    · rw [Nat.mod_eq_of_lt c] at this; omega
    · rw [show j = j - N.length + N.length by omega, Nat.add_mod_right, Nat.mod_eq_of_lt (by omega)] at this; omega
  refine ⟨?_, hmem⟩
  have hd : Diff N := h.diff
  have l1 := nodup_sub hnd (m := edL N) (fun x hx => (edL_any (by omega)).2 ((hmem x).1 hx))
  have l2 := nodup_sub (edL_nodup hd) (m := mgE p q) (fun x hx => (hmem x).2 ((edL_any (by omega)).1 hx))
  rw [edL_len] at l1 l2
  omega
theorem nx_ring {N : List (Int × Int)} {es : List Ed} (h : RingP N) (hes : ∀ e, e ∈ es ↔ ∃ i, e = (ptN N i, ptN N (i + 1))) (i : Nat) : nx es (ptN N i) = some (ptN N (i + 1)) := by
  unfold nx
  cases hf : es.find? (fun e => decide (e.1 = ptN N i)) with
  | none =>
    rw [List.find?_eq_none] at hf
    exact absurd (hf _ ((hes _).2 ⟨i, rfl⟩)) (by simp)
  | some e =>
    have h1 := List.find?_some hf
    have h2 := List.mem_of_find?_eq_some hf
    obtain ⟨j, rfl⟩ := (hes e).1 h2
    simp only [decide_eq_true_eq] at h1
    have := h.cyc.diff _ _ h1
    simp only [Option.map_some]
    rw [ptN_same (i := j + 1) (j := i + 1) (by rw [Nat.add_mod, this, ← Nat.add_mod])]
theorem wk_ring {N : List (Int × Int)} {es : List Ed} (h : RingP N) (hes : ∀ e, e ∈ es ↔ ∃ i, e = (ptN N i, ptN N (i + 1))) (h0 : 0 < es.length) : ∃ i0, ∀ k, wk es k = some (ptN N (k + i0)) := by
  obtain ⟨i0, e0⟩ := (hes (es.getD 0 edD)).1 (by simp [List.getD, h0])
  refine ⟨i0, fun k => ?_⟩
  induction k with
  | zero => rw [wk_zero h0, e0, Nat.zero_add]
  | succ k ih => rw [wk_next ih, nx_ring h hes, show k + 1 + i0 = k + i0 + 1 by omega]
/-- edges of a ring in any order make that ring -/
theorem one_ring {N : List (Int × Int)} {es : List Ed} (h : RingP N) (hn : Nrm N) (hes : ∀ e, e ∈ es ↔ ∃ i, e = (ptN N i, ptN N (i + 1))) (hl : es.length = N.length) : mgB es = true ∧ mgR es = N := by
  have h3 := h.1
  obtain ⟨i0, hw⟩ := wk_ring h hes (by omega)
  have hone : OneR es := by
    refine ⟨by omega, by rw [hw]; rfl, by rw [hw, hw, hl, Nat.zero_add, Nat.add_comm, ptN_round], fun j h1 h2 e => ?_⟩
    rw [hw, hw] at e
    injection e with e
    have := mod_cancel (by omega) (h.cyc.diff _ _ e)
    rw [Nat.zero_mod, Nat.mod_eq_of_lt (by omega)] at this
    omega
  have hrot : Rot (wkL es es.length) N i0 := Rot.of (by rw [wkL_len]; exact hl) (by rw [wkL_len]; omega) fun k hk => by
    rw [wkL_len] at hk
    rw [wkL_at es hk, hw]; rfl
  have hr := rot_ring h hrot
  have hs := stP_ring hr
  have hb : mgB es = true := by rw [mgB_yes hone, hs]; exact ringB_iff.2 hr
  exact ⟨hb, by rw [mgR_yes hb, hs]; exact rot_norm h hn hrot⟩
/-- the parts of a cut ring make a map, and merged they are the ring -/
theorem split_all {ps : List (Int × Int)} {a b : Nat} (hr : RingP ps) (hab : a < b) (hb : b < ps.length) (hm : MapP [cut1 (normS ps) a b, cut2 (normS ps) a b]) :
    MapP [normS (cut1 (normS ps) a b), normS (cut2 (normS ps) a b)] ∧ shE (normS (cut1 (normS ps) a b)) (normS (cut2 (normS ps) a b)) ≠ [] ∧
      mgB (mgE (normS (cut1 (normS ps) a b)) (normS (cut2 (normS ps) a b))) = true ∧ mgR (mgE (normS (cut1 (normS ps) a b)) (normS (cut2 (normS ps) a b))) = normS ps := by
  have h0 : 0 < ps.length := by omega
  have hbn : b < (normS ps).length := by rw [normS_len]; exact hb
  have hA := cut_area hab hbn
  have hB := cut_abs hab hb hm
  rw [area_norm h0] at hA
  have r1 : RingP (cut1 (normS ps) a b) := ringB_iff.1 (hm.2.1 0 (by simp))
  have r2 : RingP (cut2 (normS ps) a b) := ringB_iff.1 (hm.2.1 1 (by simp))
  have hap : apartS (cut1 (normS ps) a b) (cut2 (normS ps) a b) = true := hm.2.2 1 0 (by omega) (by simp)
  have z1 := r1.area
  have z2 := r2.area
  unfold areaA at hB
  have c1 : 0 < areaZ (cut1 (normS ps) a b) := by omega
  have c2 : 0 < areaZ (cut2 (normS ps) a b) := by omega
  have hN := hr.norm
  have hNN := nrm_norm hr
  generalize normS ps = N at *
  have l1 : 0 < (cut1 N a b).length := by have := r1.1; omega
  have l2 : 0 < (cut2 N a b).length := by have := r2.1; omega
  have t1 := norm_rot l1 c1
  have t2 := norm_rot l2 c2
  have i1 := norm_norm r1
  have i2 := norm_norm r2
  have p1 := r1.norm
  have p2 := r2.norm
  have ha2 := apart_rot t1 t2 l1 l2 i1 i2 hap
  have hp : ∀ e, e ∈ edL (normS (normS (cut1 N a b))) ↔ e ∈ edL (cut1 N a b) := fun e => by rw [i1]; exact rot_edges t1 l1
  have hq : ∀ e, e ∈ edL (normS (normS (cut2 N a b))) ↔ e ∈ edL (cut2 N a b) := fun e => by rw [i2]; exact rot_edges t2 l2
  have hs := (split_un hN hab hbn hp hq).2.2
  obtain ⟨hlen, hmem⟩ := split_perm hN p1 p2 hab hbn hp hq
  obtain ⟨m1, m2⟩ := one_ring hN hNN hmem hlen
  refine ⟨⟨by simp, fun i hi => ?_, fun i j hji hi => ?_⟩, (fun e => by rw [e] at hs; cases hs), m1, m2⟩
  · simp only [List.length_cons, List.length_nil] at hi
    rcases (show i = 0 ∨ i = 1 by omega) with rfl | rfl
    · exact ringB_iff.2 p1
    · exact ringB_iff.2 p2
  · simp only [List.length_cons, List.length_nil] at hi
    obtain rfl : i = 1 := by omega
    obtain rfl : j = 0 := by omega
    exact ha2
end Go.Proofs.Yteppjdoggjcdoaa
