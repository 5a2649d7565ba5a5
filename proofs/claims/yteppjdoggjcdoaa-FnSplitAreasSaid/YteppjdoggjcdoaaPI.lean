/- Plain laws of merged rings: straightening keeps the area, and what is merged has the areas of both. -/
import Derived.Test.YteppjdoggjcdoaaPF
import Derived.Test.YteppjdoggjcdoaaRB
namespace Go.Proofs.Yteppjdoggjcdoaa
open Go.RowKit

/-- twice the area of three points, with its sign -/
def tr (a b c : Int × Int) : Int := (b.1 - a.1) * (c.2 - a.2) - (b.2 - a.2) * (c.1 - a.1)
theorem tr_cr (a b c : Int × Int) : tr a b c = cr a b + cr b c - cr a c := by unfold tr cr; grind
theorem on_line {a p q r : Int × Int} (h1 : tr a p q = 0) (h2 : tr p q r = 0) (hne : p ≠ q) : tr a q r = 0 := by
  have k1 : tr a q r * (q.1 - p.1) = 0 := by
    have : tr a q r * (q.1 - p.1) = (r.1 - q.1) * tr a p q - (a.1 - q.1) * tr p q r := by unfold tr; grind
    rw [this, h1, h2]; simp
  have k2 : tr a q r * (q.2 - p.2) = 0 := by
    have : tr a q r * (q.2 - p.2) = (r.2 - q.2) * tr a p q - (a.2 - q.2) * tr p q r := by unfold tr; grind
    rw [this, h1, h2]; simp
  rcases Int.mul_eq_zero.1 k1 with c | c
  · exact c
  · rcases Int.mul_eq_zero.1 k2 with c' | c'
    · exact c'
    · exact absurd (Prod.ext (by omega) (by omega)) hne
/-- a way in one line has the area of its ends -/
theorem line_arc {P : Nat → Int × Int} {s : Nat} : ∀ m : Nat, (∀ k, s < k → k < s + m + 1 → tr (P (k - 1)) (P k) (P (k + 1)) = 0) → (∀ k, P k ≠ P (k + 1)) →
    arc P s (m + 1) = cr (P s) (P (s + m + 1)) ∧ (0 < m → tr (P s) (P (s + m)) (P (s + m + 1)) = 0)
  | 0, _, _ => ⟨by simp [arc, tot], fun h => absurd h (by omega)⟩
  | m + 1, h, hd => by
    obtain ⟨i1, i2⟩ := line_arc m (fun k h1 h2 => h k h1 (by omega)) hd
    have h0 := h (s + m + 1) (by omega) (by omega)
    rw [show s + m + 1 - 1 = s + m by omega] at h0
    have ht : tr (P s) (P (s + m + 1)) (P (s + m + 1 + 1)) = 0 := by
      rcases Nat.eq_zero_or_pos m with c | c
      · subst c
        exact h0
      · exact on_line (i2 c) h0 (hd _)
    refine ⟨?_, fun _ => ht⟩
    rw [arc_add P s (m + 1) 1, i1, tr_cr] at *
    have : arc P (s + (m + 1)) 1 = cr (P (s + m + 1)) (P (s + m + 1 + 1)) := by simp [arc, tot, Nat.add_assoc]
    rw [this, show s + (m + 1) + 1 = s + m + 1 + 1 by omega]
    omega
theorem oks_ptN {o : List (Int × Int)} (ho : oks o = true) (k : Nat) : bdP (ptN o k).1 (ptN o k).2 := by
  have h0 : okP (ptN o k).1 (ptN o k).2 = true := by
    unfold ptN
    rcases Nat.eq_zero_or_pos o.length with c | c
    · rw [List.length_eq_zero_iff.1 c]; rfl
    · have hk := Nat.mod_lt k c
      have := List.all_eq_true.1 ho (o.getD (k % o.length) (0, 0)) (by simp [List.getD, hk])
      exact this
  simp [okP, inB] at h0
  unfold bdP
  omega
theorem stB_iff {o : List (Int × Int)} (ho : oks o = true) {i : Nat} (hi : i < o.length) : stB o i = false ↔ tr (ptN o (i + o.length - 1)) (ptN o i) (ptN o (i + 1)) = 0 := by
  unfold stB
  have e0 : atP o i = ptN o i := by rw [ptN_lt hi]; rfl
  rw [e0, show (i : Int) + 1 = ((i + 1 : Nat) : Int) by omega, ptx_N, ptz_N, ptx_N, ptz_N]
  have b1 := oks_ptN ho (i + o.length - 1)
  have b2 := oks_ptN ho i
  have b3 := oks_ptN ho (i + 1)
  generalize ptN o (i + o.length - 1) = p at *
  generalize ptN o i = q at *
  generalize ptN o (i + 1) = r at *
  unfold bdP at b1 b2 b3
  rw [turnW_eq (by omega) (by omega) (by omega) (by omega) (by omega) (by omega)]
  unfold tr
  simp
theorem arc_congr {P Q : Nat → Int × Int} {s m : Nat} (h : ∀ k, k ≤ m → P (s + k) = Q (s + k)) : arc P s m = arc Q s m := by
  refine tot_congr fun k hk => ?_
  rw [h k (by omega), show s + k + 1 = s + (k + 1) by omega, h (k + 1) (by omega)]
/-- what is known of the points that stay, of the first k -/
def StK (o : List (Int × Int)) (k : Nat) : Prop :=
  (stTo o k = [] ∧ ∀ i, i < k → stB o i = false) ∨
  ∃ f l m, f ≤ l ∧ l < k ∧ (∀ i, i < f → stB o i = false) ∧ (∀ i, l < i → i < k → stB o i = false) ∧ (stTo o k).length = m + 1 ∧ (stTo o k).getD 0 (0, 0) = ptN o f ∧ (stTo o k).getD m (0, 0) = ptN o l ∧ arc (fun j => (stTo o k).getD j (0, 0)) 0 m = arc (ptN o) f (l - f)
theorem tr_gone {o : List (Int × Int)} (ho : oks o = true) {x : Nat} (hx : 0 < x) (hn : x < o.length) (h : stB o x = false) : tr (ptN o (x - 1)) (ptN o x) (ptN o (x + 1)) = 0 := by
  have := (stB_iff ho hn).1 h
  rwa [show x + o.length - 1 = x - 1 + o.length by omega, ptN_round] at this
theorem stK {o : List (Int × Int)} (ho : oks o = true) (hd : ∀ k, ptN o k ≠ ptN o (k + 1)) : ∀ k, k ≤ o.length → StK o k
  | 0, _ => .inl ⟨rfl, fun i hi => absurd hi (by omega)⟩
  | k + 1, hk => by
    have ih := stK ho hd k (by omega)
    have hat : atP o k = ptN o k := by rw [ptN_lt (by omega)]; rfl
    cases hb : stB o k with
    | false =>
      rcases ih with ⟨h1, h2⟩ | ⟨f, l, m, h1, h2, h3, h4, h5⟩
      · refine .inl ⟨by rw [stTo_no hb]; exact h1, fun i hi => ?_⟩
        rcases Nat.lt_or_ge i k with c | c
        · exact h2 i c
        · rw [show i = k by omega]; exact hb
      · refine .inr ⟨f, l, m, h1, by omega, h3, fun i hi hi2 => ?_, by rw [stTo_no hb]; exact h5⟩
        rcases Nat.lt_or_ge i k with c | c
        · exact h4 i hi c
        · rw [show i = k by omega]; exact hb
    | true =>
      rcases ih with ⟨h1, h2⟩ | ⟨f, l, m, h1, h2, h3, h4, h5, h6, h7, h8⟩
      · refine .inr ⟨k, k, 0, Nat.le_refl _, by omega, h2, fun i hi hi2 => absurd hi (by omega), ?_, ?_, ?_, ?_⟩
        · rw [stTo_yes hb, h1]; rfl
        · rw [stTo_yes hb, h1, ← hat]; rfl
        · rw [stTo_yes hb, h1, ← hat]; rfl
        · rw [Nat.sub_self]; rfl
      · have hL : (stTo o (k + 1)).length = m + 1 + 1 := by rw [stTo_yes hb, List.length_append, h5]; rfl
        have hlt : ∀ j, j < m + 1 → (stTo o (k + 1)).getD j (0, 0) = (stTo o k).getD j (0, 0) := fun j hj => by
          rw [stTo_yes hb, List.getD_eq_getElem?_getD, List.getElem?_append_left (by omega), ← List.getD_eq_getElem?_getD]
        have hend : (stTo o (k + 1)).getD (m + 1) (0, 0) = ptN o k := by
          rw [stTo_yes hb, List.getD_eq_getElem?_getD, List.getElem?_append_right (by omega), h5, Nat.sub_self, ← hat]; rfl
        refine .inr ⟨f, k, m + 1, by omega, by omega, h3, fun i hi hi2 => absurd hi (by omega), hL, ?_, hend, ?_⟩
        · rw [hlt 0 (by omega)]; exact h6
        · have hline := (line_arc (P := ptN o) (s := l) (k - l - 1) (fun x h1 h2 => tr_gone ho (by omega) (by omega) (h4 x h1 (by omega))) hd).1
          rw [show k - l - 1 + 1 = k - l by omega, show l + (k - l - 1) + 1 = k by omega] at hline
          have ha : arc (fun j => (stTo o (k + 1)).getD j (0, 0)) 0 m = arc (fun j => (stTo o k).getD j (0, 0)) 0 m := arc_congr fun j hj => by rw [Nat.zero_add]; exact hlt j (by omega)
          rw [arc_add _ 0 m 1, ha, h8]
          have h1' : arc (fun j => (stTo o (k + 1)).getD j (0, 0)) (0 + m) 1 = cr (ptN o l) (ptN o k) := by
            simp only [arc, tot, Nat.zero_add, Nat.add_zero, Int.zero_add]
            rw [hlt m (by omega), h7, hend]
          rw [h1', ← hline]
          have := arc_add (ptN o) f (l - f) (k - l)
          rw [show f + (l - f) = l by omega, show l - f + (k - l) = k - f by omega] at this
          omega
/-- a straightened ring has the area of the way -/
theorem area_st {o : List (Int × Int)} (ho : oks o = true) (hd : ∀ k, ptN o k ≠ ptN o (k + 1)) (h0 : 0 < (stP o).length) : areaZ (stP o) = areaZ o := by
  have hn : 0 < o.length := by have := stTo_len o o.length; unfold stP at h0; omega
  rcases stK ho hd o.length (Nat.le_refl _) with ⟨h1, _⟩ | ⟨f, l, m, h1, h2, h3, h4, h5, h6, h7, h8⟩
  · unfold stP at h0
    rw [h1] at h0
    exact absurd h0 (by simp)
  · unfold stP
    rw [area_arc (P := fun j => (stTo o o.length).getD j (0, 0)) (s := 0) h5 (fun k _ => by rw [Nat.zero_add]), h8, Nat.zero_add, h6, h7, area_self hn, ← arc_round (ptN_round o) f]
    have hline := (line_arc (P := ptN o) (s := l) (f + o.length - l - 1) (fun x hx1 hx2 => by
      rcases Nat.lt_or_ge x o.length with c | c
      · exact tr_gone ho (by omega) c (h4 x hx1 c)
      · obtain ⟨y, rfl⟩ : ∃ y, x = y + o.length := ⟨x - o.length, by omega⟩
        have hy := (stB_iff ho (i := y) (by omega)).1 (h3 y (by omega))
        rw [show y + o.length + 1 = y + 1 + o.length by omega, ptN_round, ptN_round]
        exact hy) hd).1
    rw [show f + o.length - l - 1 + 1 = f + o.length - l by omega, show l + (f + o.length - l - 1) + 1 = f + o.length by omega, ptN_round] at hline
    rw [← hline]
    have := arc_add (ptN o) f (l - f) (f + o.length - l)
    rw [show f + (l - f) = l by omega, show l - f + (f + o.length - l) = o.length by omega] at this
    omega
/-- the area along edges -/
def crE (e : Ed) : Int := cr e.1 e.2
def sumE : List Ed → Int
  | [] => 0
  | e :: l => crE e + sumE l
theorem sumE_append (l m : List Ed) : sumE (l ++ m) = sumE l + sumE m := by
  induction l with
  | nil => simp [sumE]
  | cons x l ih => rw [List.cons_append, sumE, sumE, ih]; omega
theorem sumE_perm {l m : List Ed} (h : l.Perm m) : sumE l = sumE m := by
  induction h with
  | nil => rfl
  | cons x _ ih => rw [sumE, sumE, ih]
  | swap x y l => simp only [sumE]; omega
  | trans _ _ h1 h2 => omega
theorem sumE_flip : ∀ l : List Ed, sumE (l.map flipEd) = - sumE l
  | [] => rfl
  | e :: l => by
    have : crE (flipEd e) = - crE e := cr_neg e.1 e.2
    rw [List.map_cons, sumE, sumE, sumE_flip l, this]; omega
theorem sumE_part (p : Ed → Bool) : ∀ l : List Ed, sumE (l.filter p) + sumE (l.filter fun e => !p e) = sumE l
  | [] => rfl
  | e :: l => by
    have := sumE_part p l
    cases h : p e with
    | true => simp only [List.filter_cons, h, sumE, Bool.not_true, if_true]; simp; omega
    | false => simp only [List.filter_cons, h, sumE, Bool.not_false, if_true]; simp; omega
theorem sumE_range (f : Nat → Ed) : ∀ n, sumE ((List.range n).map f) = tot (fun k => crE (f k)) n
  | 0 => rfl
  | n + 1 => by rw [List.range_succ, List.map_append, sumE_append, sumE_range f n, tot]; simp [sumE]
theorem sumE_edL {o : List (Int × Int)} : sumE (edL o) = areaZ o := by
  unfold edL edTo areaZ
  rw [sumE_range, areaTo_tot]
  refine tot_congr fun k hk => ?_
  unfold crE edAt
  rw [show (ptx o (k : Int), ptz o (k : Int)) = atP o k by rw [ptxz_at, Nat.mod_eq_of_lt hk]]
  rfl
theorem nodup_sub {α : Type} [DecidableEq α] : ∀ {l m : List α}, l.Nodup → (∀ x ∈ l, x ∈ m) → l.length ≤ m.length
  | [], m, _, _ => Nat.zero_le _
  | a :: l, m, hn, hs => by
    have ham : a ∈ m := hs a (by simp)
    rw [List.nodup_cons] at hn
    have hp := List.perm_cons_erase ham
    have hl : (m.erase a).length + 1 = m.length := by have := hp.length_eq; simpa using this.symm
    have := nodup_sub hn.2 (m := m.erase a) (fun x hx => (List.mem_erase_of_ne (fun e => hn.1 (by rw [← e]; exact hx))).2 (hs x (by simp [hx])))
    simp only [List.length_cons]
    omega
theorem edL_nodup {o : List (Int × Int)} (hd : Diff o) : (edL o).Nodup := by
  unfold edL edTo
  rw [List.nodup_iff_pairwise_ne, List.pairwise_map]
  refine List.Pairwise.imp_of_mem ?_ (List.pairwise_lt_range (n := o.length))
  intro a b ha hb hab e
  rw [List.mem_range] at ha hb
  have e1 := congrArg Prod.fst e
  exact absurd (hd a b ha hb e1) (by omega)
theorem flip_flip (e : Ed) : flipEd (flipEd e) = e := rfl
theorem shE_perm {pa pb : List (Int × Int)} (ha : RingP pa) (hb : RingP pb) : ((shE pa pb).map flipEd).Perm (shE pb pa) := by
  have na : (shE pa pb).Nodup := (edL_nodup ha.diffN).sublist (by unfold shE shTo; rw [List.take_length]; exact List.filter_sublist)
  have nb : (shE pb pa).Nodup := (edL_nodup hb.diffN).sublist (by unfold shE shTo; rw [List.take_length]; exact List.filter_sublist)
  have nf : ∀ l : List Ed, l.Nodup → (l.map flipEd).Nodup := fun l hl => by
    rw [List.nodup_iff_pairwise_ne] at *
    rw [List.pairwise_map]
    exact hl.imp fun h e => h (by have := congrArg flipEd e; rwa [flip_flip, flip_flip] at this)
  have s1 : ∀ x ∈ (shE pa pb).map flipEd, x ∈ shE pb pa := fun x hx => by
    obtain ⟨e, he, rfl⟩ := List.mem_map.1 hx
    have := shE_mem.1 he
    exact shE_mem.2 ⟨this.2, by rw [flip_flip]; exact this.1⟩
  have s2 : ∀ x ∈ (shE pb pa).map flipEd, x ∈ shE pa pb := fun x hx => by
    obtain ⟨e, he, rfl⟩ := List.mem_map.1 hx
    have := shE_mem.1 he
    exact shE_mem.2 ⟨this.2, by rw [flip_flip]; exact this.1⟩
  have l2 := nodup_sub (nf _ nb) s2
  rw [List.length_map] at l2
  exact perm_of_in (nf _ na) s1 (by rw [List.length_map]; exact l2)
theorem shE_len_comm {pa pb : List (Int × Int)} (ha : RingP pa) (hb : RingP pb) : (shE pb pa).length = (shE pa pb).length := by
  have := (shE_perm ha hb).length_eq
  rw [List.length_map] at this
  exact this.symm
theorem sum_un {pa pb : List (Int × Int)} (ha : RingP pa) (hb : RingP pb) : sumE (unE pa pb ++ unE pb pa) = areaA pa + areaA pb := by
  have h1 : sumE (shE pa pb) + sumE (unE pa pb) = sumE (edL (normS pa)) := by unfold shE unE shTo unTo; rw [List.take_length]; exact sumE_part _ _
  have h2 : sumE (shE pb pa) + sumE (unE pb pa) = sumE (edL (normS pb)) := by unfold shE unE shTo unTo; rw [List.take_length]; exact sumE_part _ _
  have h3 := sumE_perm (shE_perm ha hb)
  rw [sumE_flip] at h3
  rw [sumE_edL, area_norm (by have := ha.1; omega)] at h1
  rw [sumE_edL, area_norm (by have := hb.1; omega)] at h2
  rw [sumE_append]
  unfold areaA
  omega
theorem wkL_ptN {es : List Ed} (h : Ret es es.length) (h0 : 0 < es.length) {k : Nat} (hk : k ≤ es.length) : wk es k = some (ptN (wkL es es.length) k) := by
  obtain ⟨p, hp⟩ := wk_some h.1 hk
  unfold ptN
  rw [wkL_len]
  rcases Nat.lt_or_ge k es.length with c | c
  · rw [Nat.mod_eq_of_lt c, wkL_at es c, hp]; rfl
  · obtain rfl : k = es.length := by omega
    rw [Nat.mod_self, wkL_at es h0, ← h.2.1, hp]; rfl
theorem way_perm {es : List Ed} (h : Ret es es.length) (h0 : 0 < es.length) : ((List.range es.length).map fun k => (ptN (wkL es es.length) k, ptN (wkL es es.length) (k + 1))).Perm es := by
  refine perm_of_in ?_ (fun x hx => ?_) (by simp)
  · rw [List.nodup_iff_pairwise_ne, List.pairwise_map]
    refine List.Pairwise.imp_of_mem ?_ (List.pairwise_lt_range (n := es.length))
    intro a b ha hb hab e
    rw [List.mem_range] at ha hb
    have e1 := congrArg Prod.fst e
    simp only at e1
    exact h.diff hab hb (by rw [wkL_ptN h h0 (by omega), wkL_ptN h h0 (by omega), e1])
  · obtain ⟨k, hk, rfl⟩ := List.mem_map.1 hx
    rw [List.mem_range] at hk
    obtain ⟨e, he, h1, h2⟩ := wk_edge (wkL_ptN h h0 (by omega)) (wkL_ptN h h0 (k := k + 1) (by omega))
    rw [← h1, ← h2]
    exact he
theorem way_area {es : List Ed} (h : Ret es es.length) (h0 : 0 < es.length) : areaZ (wkL es es.length) = sumE es := by
  rw [← sumE_perm (way_perm h h0), sumE_range, area_self (by rw [wkL_len]; exact h0), wkL_len]
  unfold arc crE
  refine tot_congr fun k _ => ?_
  rw [Nat.zero_add]
theorem way_diff {es : List Ed} (h : Ret es es.length) (h2 : 2 ≤ es.length) (k : Nat) : ptN (wkL es es.length) k ≠ ptN (wkL es es.length) (k + 1) := by
  intro e
  have hm : ∀ k, ptN (wkL es es.length) k = ptN (wkL es es.length) (k % es.length) := fun k => by unfold ptN; rw [wkL_len, Nat.mod_mod]
  rw [hm k, hm (k + 1)] at e
  have a := Nat.mod_lt k (show 0 < es.length by omega)
  have b := Nat.mod_lt (k + 1) (show 0 < es.length by omega)
  have hne : k % es.length ≠ (k + 1) % es.length := by
    rw [Nat.add_mod, Nat.mod_eq_of_lt (show 1 < es.length by omega)]
    rcases Nat.lt_or_ge (k % es.length + 1) es.length with c | c
    · rw [Nat.mod_eq_of_lt c]; omega
    · rw [show k % es.length + 1 = es.length by omega, Nat.mod_self]; omega
  have ha := wkL_ptN h (by omega) (Nat.le_of_lt a)
  have hb := wkL_ptN h (by omega) (Nat.le_of_lt b)
  rcases Nat.lt_or_gt_of_ne hne with c | c
  · exact h.diff c b (by rw [ha, hb, e])
  · exact h.diff c a (by rw [ha, hb, e])
theorem edL_ok {ps : List (Int × Int)} (h : RingP ps) {e : Ed} (he : e ∈ edL (normS ps)) : okP e.1.1 e.1.2 = true := by
  obtain ⟨i, hi, rfl⟩ := mem_edL'.1 he
  have ho := (ring_facts (ringB_iff.2 h.norm)).2.2
  exact List.all_eq_true.1 ho _ (by unfold edAt atP; simp [List.getD, hi])
theorem way_oks {es : List Ed} (h : Ret es es.length) (ho : ∀ e ∈ es, okP e.1.1 e.1.2 = true) : oks (wkL es es.length) = true := by
  unfold oks
  rw [List.all_eq_true]
  intro p hp
  have := h.starts.subset hp
  obtain ⟨e, he, rfl⟩ := List.mem_map.1 this
  exact ho e he
/-- the edges of two rings that they do not share -/
def mgE (pa pb : List (Int × Int)) : List Ed := unE pa pb ++ unE pb pa
theorem mgE_len (pa pb : List (Int × Int)) : (mgE pa pb).length ≤ pa.length + pb.length := by
  unfold mgE
  rw [List.length_append]
  have := unE_len pa pb
  have := unE_len pb pa
  omega
/-- what is merged has the areas of both -/
theorem merge_area {pa pb : List (Int × Int)} (ha : RingP pa) (hb : RingP pb) (h : Ret (mgE pa pb) (mgE pa pb).length) (hr : RingP (stP (wkL (mgE pa pb) (mgE pa pb).length))) :
    areaA (normS (stP (wkL (mgE pa pb) (mgE pa pb).length))) = areaA pa + areaA pb := by
  have h3 := hr.1
  have hle := stTo_len (wkL (mgE pa pb) (mgE pa pb).length) (wkL (mgE pa pb) (mgE pa pb).length).length
  have h2 : 3 ≤ (mgE pa pb).length := by unfold stP at h3; rw [wkL_len] at hle; rw [wkL_len] at h3; omega
  have hok : ∀ e ∈ mgE pa pb, okP e.1.1 e.1.2 = true := fun e he => by
    rcases List.mem_append.1 he with q | q
    · exact edL_ok ha (unE_mem.1 q).1
    · exact edL_ok hb (unE_mem.1 q).1
  have ho := way_oks h hok
  have hA := area_st ho (way_diff h (by omega)) (by omega)
  have hS := way_area h (by omega)
  have hU : sumE (mgE pa pb) = areaA pa + areaA pb := sum_un ha hb
  have hN := area_norm (ps := stP (wkL (mgE pa pb) (mgE pa pb).length)) (by omega)
  rw [hA, hS, hU] at hN
  have p1 : 0 ≤ areaA pa := by unfold areaA; omega
  have p2 : 0 ≤ areaA pb := by unfold areaA; omega
  show ((areaZ (normS _)).natAbs : Int) = _
  rw [hN]
  omega
end Go.Proofs.Yteppjdoggjcdoaa
