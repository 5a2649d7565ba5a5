/- Plain laws of maps: both ways of testing rings give one answer. -/
import Derived.Test.YtdbheipjbjcikaaGreatDoorMI
namespace Go.Proofs.YtdbheipjbjcikaaGreatDoor
open Go.RowKit

theorem eqP_comm (a b c d : Int) : eqP a b c d = eqP c d a b := by
  rw [Bool.eq_iff_iff, eqP_iff, eqP_iff]; omega
theorem turn_first (a b c d : Int) : turnW a b c d a b = 0 := by simp [turnW, wrap64]
theorem turn_last (a b c d : Int) : turnW a b c d c d = 0 := by unfold turnW; rw [Int.mul_comm, Int.sub_self]; simp [wrap64]
theorem on_first (a b c d : Int) : onW a b c d a b = true := by simp [onW, inB, turn_first]; omega
theorem on_last (a b c d : Int) : onW a b c d c d = true := by simp [onW, inB, turn_last]; omega
theorem on_swap {a b c d x z : Int} (h1 : bdP a b) (h2 : bdP c d) (h3 : bdP x z) : onW c d a b x z = onW a b c d x z := by
  unfold bdP at h1 h2 h3
  unfold onW
  rw [turnW_swap (by omega) (by omega) (by omega) (by omega) (by omega) (by omega), Int.min_comm c a, Int.max_comm c a, Int.min_comm d b, Int.max_comm d b]
  congr 2
  rw [Bool.eq_iff_iff, beq_iff_eq, beq_iff_eq]; omega
theorem cross_comm (a b c d p q r s : Int) : crossW a b c d p q r s = crossW p q r s a b c d := by
  unfold crossW
  cases onW a b c d p q <;> cases onW a b c d r s <;> cases onW p q r s a b <;> cases onW p q r s c d <;> simp [Bool.and_comm]
/-- two edges fit just where they may touch -/
theorem fit_touch {a b c d p q r s : Int} (h1 : bdP a b) (h2 : bdP c d) (h3 : bdP p q) (h4 : bdP r s) (n1 : eqP a b c d = false) (n2 : eqP p q r s = false) : fitB a b c d p q r s = touchB p q r s a b c d := by
  have c1 : eqP a b p q = true → crossW p q r s a b c d = true := fun e => by
    obtain ⟨rfl, rfl⟩ := eqP_iff.1 e
    simp [crossW, on_first]
  have c2 : eqP a b r s = true → crossW p q r s a b c d = true := fun e => by
    obtain ⟨rfl, rfl⟩ := eqP_iff.1 e
    simp [crossW, on_last]
  have c3 : eqP c d p q = true → crossW p q r s a b c d = true := fun e => by
    obtain ⟨rfl, rfl⟩ := eqP_iff.1 e
    simp [crossW, on_first]
  have c4 : eqP c d r s = true → crossW p q r s a b c d = true := fun e => by
    obtain ⟨rfl, rfl⟩ := eqP_iff.1 e
    simp [crossW, on_last]
  unfold fitB touchB jointV eqEd touchC
  simp only []
  rw [eqP_comm p q a b, eqP_comm p q c d, eqP_comm r s a b, eqP_comm r s c d, cross_comm a b c d p q r s, show eqP p q p q = true from eqP_iff.2 ⟨rfl, rfl⟩, n2]
  rcases e1 : eqP a b p q with _ | _ <;> rcases e2 : eqP a b r s with _ | _ <;> rcases e3 : eqP c d p q with _ | _ <;> rcases e4 : eqP c d r s with _ | _
  · cases crossW p q r s a b c d <;> simp
  · obtain ⟨rfl, rfl⟩ := eqP_iff.1 e4
    rw [c4 e4]
    simp
    rw [on_swap h1 h2 h3, on_swap h3 h2 h1, Bool.and_comm]
  · obtain ⟨rfl, rfl⟩ := eqP_iff.1 e3
    rw [c3 e3]
    simp
    rw [on_swap h1 h2 h4, Bool.and_comm]
  · obtain ⟨rfl, rfl⟩ := eqP_iff.1 e3
    rw [e4] at n2
    cases n2
  · obtain ⟨rfl, rfl⟩ := eqP_iff.1 e2
    rw [c2 e2]
    simp
    rw [on_swap h3 h1 h2, Bool.and_comm]
  · obtain ⟨rfl, rfl⟩ := eqP_iff.1 e2
    rw [eqP_comm, n1] at e4
    cases e4
  · simp
  · obtain ⟨rfl, rfl⟩ := eqP_iff.1 e3
    rw [e4] at n2
    cases n2
  · obtain ⟨rfl, rfl⟩ := eqP_iff.1 e1
    rw [c1 e1]
    simp [Bool.and_comm]
  · rw [c1 e1]
    simp
  · obtain ⟨rfl, rfl⟩ := eqP_iff.1 e1
    rw [eqP_comm, n1] at e3
    cases e3
  · obtain ⟨rfl, rfl⟩ := eqP_iff.1 e1
    rw [eqP_comm, n1] at e3
    cases e3
  · obtain ⟨rfl, rfl⟩ := eqP_iff.1 e1
    rw [e2] at n2
    cases n2
  · obtain ⟨rfl, rfl⟩ := eqP_iff.1 e1
    rw [e2] at n2
    cases n2
  · obtain ⟨rfl, rfl⟩ := eqP_iff.1 e1
    rw [e2] at n2
    cases n2
  · obtain ⟨rfl, rfl⟩ := eqP_iff.1 e1
    rw [e2] at n2
    cases n2
def flipEd (e : Ed) : Ed := (e.2, e.1)
theorem mid_flip (ps : List (Int × Int)) (e : Ed) : midE ps (flipEd e) = midE ps e := by
  unfold midE midB flipEd
  rw [Int.add_comm e.2.1, Int.add_comm e.2.2]
/-- an edge, by its index -/
theorem edAt_eq {o : List (Int × Int)} {k : Nat} (hk : k < o.length) : edAt o k = ((ptx o (k : Int), ptz o (k : Int)), (ptx o ((k + 1 : Nat) : Int), ptz o ((k + 1 : Nat) : Int))) := by
  unfold edAt atP
  rw [ptx_lt hk, ptz_lt hk]; rfl
theorem pt_mod (o : List (Int × Int)) (k : Nat) : (ptx o (k : Int), ptz o (k : Int)) = (ptx o ((k % o.length : Nat) : Int), ptz o ((k % o.length : Nat) : Int)) := by
  rw [ptxz_nat, ptxz_nat, Nat.mod_mod]
theorem edAt_mod {o : List (Int × Int)} (h0 : 0 < o.length) (k : Nat) : ((ptx o (k : Int), ptz o (k : Int)), (ptx o ((k + 1 : Nat) : Int), ptz o ((k + 1 : Nat) : Int))) = edAt o (k % o.length) := by
  have hm := Nat.mod_lt k h0
  rw [edAt_eq hm, pt_mod o k, pt_mod o (k + 1), pt_mod o (k % o.length + 1), Nat.mod_add_mod]
theorem ns_pt {ps : List (Int × Int)} (h0 : 0 < ps.length) (i : Nat) (hi : i ≤ ps.length) : (ptx (normS ps) (i : Int), ptz (normS ps) (i : Int)) = nsAt ps (minTo ps ps.length) i := by
  have hm := minTo_lt h0 (Nat.le_refl ps.length)
  rw [ptxz_nat, normS_len]
  rcases Nat.lt_or_ge i ps.length with c | c
  · rw [Nat.mod_eq_of_lt c]
    exact map_range_getD _ c
  · obtain rfl : i = ps.length := by omega
    rw [Nat.mod_self, show (normS ps).getD 0 (0, 0) = nsAt ps (minTo ps ps.length) 0 from map_range_getD _ h0]
    unfold nsAt
    split
    · rw [show ((minTo ps ps.length : Int) + ((0 : Nat) : Int)) = ((minTo ps ps.length : Nat) : Int) by omega, show ((minTo ps ps.length : Int) + (ps.length : Int)) = ((minTo ps ps.length + ps.length : Nat) : Int) by omega, pt_mod ps (minTo ps ps.length + ps.length), Nat.add_mod_right, ← pt_mod]
    · rw [show ((minTo ps ps.length : Int) + (ps.length : Int) - ((0 : Nat) : Int)) = ((minTo ps ps.length + ps.length : Nat) : Int) by omega, show ((minTo ps ps.length : Int) + (ps.length : Int) - (ps.length : Int)) = ((minTo ps ps.length : Nat) : Int) by omega, pt_mod ps (minTo ps ps.length + ps.length), Nat.add_mod_right, ← pt_mod]
/-- the edges of the normal ring are those of the ring, all of them turned or none -/
theorem ns_edge {ps : List (Int × Int)} (h0 : 0 < ps.length) {i : Nat} (hi : i < ps.length) :
    edAt (normS ps) i = if 0 < areaZ ps then edAt ps ((minTo ps ps.length + i) % ps.length) else flipEd (edAt ps ((minTo ps ps.length + ps.length - i - 1) % ps.length)) := by
  have hm := minTo_lt h0 (Nat.le_refl ps.length)
  have e1 := ns_pt h0 i (by omega)
  have e2 := ns_pt h0 (i + 1) (by omega)
  rw [edAt_eq (by rw [normS_len]; exact hi), e1, e2]
  unfold nsAt
  split
  · rw [← edAt_mod h0, show ((minTo ps ps.length : Int) + (i : Int)) = ((minTo ps ps.length + i : Nat) : Int) by omega, show ((minTo ps ps.length : Int) + ((i + 1 : Nat) : Int)) = ((minTo ps ps.length + i + 1 : Nat) : Int) by omega]
  · rw [← edAt_mod h0, show ((minTo ps ps.length : Int) + (ps.length : Int) - (i : Int)) = ((minTo ps ps.length + ps.length - i - 1 + 1 : Nat) : Int) by omega, show ((minTo ps ps.length : Int) + (ps.length : Int) - ((i + 1 : Nat) : Int)) = ((minTo ps ps.length + ps.length - i - 1 : Nat) : Int) by omega]
    rfl
theorem edge_fwd {ps : List (Int × Int)} (h0 : 0 < ps.length) {i : Nat} (hi : i < ps.length) : ∃ j, j < ps.length ∧ (edAt (normS ps) i = edAt ps j ∨ edAt (normS ps) i = flipEd (edAt ps j)) := by
  rw [ns_edge h0 hi]
  split
  · exact ⟨_, Nat.mod_lt _ h0, .inl rfl⟩
  · exact ⟨_, Nat.mod_lt _ h0, .inr rfl⟩
theorem edge_bwd {ps : List (Int × Int)} (h0 : 0 < ps.length) {j : Nat} (hj : j < ps.length) : ∃ i, i < ps.length ∧ (edAt (normS ps) i = edAt ps j ∨ edAt (normS ps) i = flipEd (edAt ps j)) := by
  have hm := minTo_lt h0 (Nat.le_refl ps.length)
  by_cases c : 0 < areaZ ps
  · refine ⟨(j + ps.length - minTo ps ps.length) % ps.length, Nat.mod_lt _ h0, ?_⟩
    rw [ns_edge h0 (Nat.mod_lt _ h0), if_pos c, Nat.add_mod_mod, show minTo ps ps.length + (j + ps.length - minTo ps ps.length) = j + ps.length by omega, Nat.add_mod_right, Nat.mod_eq_of_lt hj]
    exact .inl rfl
  · by_cases c' : j < minTo ps ps.length
    · refine ⟨minTo ps ps.length - 1 - j, by omega, ?_⟩
      rw [ns_edge h0 (by omega), if_neg c, show minTo ps ps.length + ps.length - (minTo ps ps.length - 1 - j) - 1 = j + ps.length by omega, Nat.add_mod_right, Nat.mod_eq_of_lt hj]
      exact .inr rfl
    · refine ⟨minTo ps ps.length + ps.length - 1 - j, by omega, ?_⟩
      rw [ns_edge h0 (by omega), if_neg c, show minTo ps ps.length + ps.length - (minTo ps ps.length + ps.length - 1 - j) - 1 = j by omega, Nat.mod_eq_of_lt hj]
      exact .inr rfl
/-- an edge is within bounds and is no point -/
def goodEd (e : Ed) : Prop := bdP e.1.1 e.1.2 ∧ bdP e.2.1 e.2.2 ∧ eqP e.1.1 e.1.2 e.2.1 e.2.2 = false
theorem goodEd.flip {e : Ed} (h : goodEd e) : goodEd (flipEd e) := ⟨h.2.1, h.1, by have := h.2.2; rw [eqP_comm] at this; exact this⟩
theorem RingP.ed {ps : List (Int × Int)} (h : RingP ps) {k : Nat} (hk : k < ps.length) : goodEd (edAt ps k) := by
  have h3 := h.1
  refine ⟨by rw [edAt_eq hk]; exact bd_at h.2.2.1 _, by rw [edAt_eq hk]; exact bd_at h.2.2.1 _, ?_⟩
  rw [edAt_eq hk]
  rw [← Bool.not_eq_true, eqP_iff]
  intro e
  have hd := h.2.2.2.2.1
  rcases Nat.lt_or_ge (k + 1) ps.length with c | c
  · exact hd (k + 1) k (by omega) c ⟨e.1.symm, e.2.symm⟩
  · have e0 : k + 1 = ps.length + 0 := by omega
    rw [e0] at e
    simp only [ptx_round, ptz_round] at e
    exact hd k 0 (by omega) hk e
theorem RingP.nsEd {ps : List (Int × Int)} (h : RingP ps) {k : Nat} (hk : k < ps.length) : goodEd (edAt (normS ps) k) := by
  obtain ⟨j, hj, e | e⟩ := edge_fwd (by omega) hk
  · rw [e]; exact h.ed hj
  · rw [e]; exact (h.ed hj).flip
theorem mem_edL {o : List (Int × Int)} {e : Ed} : e ∈ edL o ↔ ∃ k, k < o.length ∧ edAt o k = e := by
  unfold edL edTo
  simp [List.mem_map, List.mem_range]
theorem mids_same {ps : List (Int × Int)} (h0 : 0 < ps.length) (qs : List (Int × Int)) : (∀ e ∈ edL (normS ps), midE qs e = false) ↔ (edL ps).any (midE qs) = false := by
  rw [List.any_eq_false]
  constructor
  · intro h e he
    obtain ⟨k, hk, rfl⟩ := mem_edL.1 he
    obtain ⟨i, hi, e | e⟩ := edge_bwd h0 hk
    · have := h _ (mem_edL.2 ⟨i, by rw [normS_len]; exact hi, rfl⟩)
      rw [e] at this
      simp [this]
    · have := h _ (mem_edL.2 ⟨i, by rw [normS_len]; exact hi, rfl⟩)
      rw [e, mid_flip] at this
      simp [this]
  · intro h e he
    obtain ⟨k, hk, rfl⟩ := mem_edL.1 he
    rw [normS_len] at hk
    obtain ⟨i, hi, e | e⟩ := edge_fwd h0 hk
    · have := h _ (mem_edL.2 ⟨i, hi, rfl⟩)
      rw [e]
      simpa using this
    · have := h _ (mem_edL.2 ⟨i, hi, rfl⟩)
      rw [e, mid_flip]
      simpa using this
/-- the program's test is the reference's -/
theorem fit_apart {pa pb : List (Int × Int)} (ha : RingP pa) (hb : RingP pb) : fitT pa pb = apartS pb pa := by
  have a0 : 0 < pa.length := by have := ha.1; omega
  have b0 : 0 < pb.length := by have := hb.1; omega
  have ma := mids_same a0 pb
  have mb := mids_same b0 pa
  have touch : ∀ e ∈ edL (normS pa), ∀ f ∈ edL (normS pb), fitE e f = touchE f e := fun e he f hf => by
    obtain ⟨k, hk, rfl⟩ := mem_edL.1 he
    obtain ⟨m, hm, rfl⟩ := mem_edL.1 hf
    rw [normS_len] at hk hm
    have g1 := ha.nsEd hk
    have g2 := hb.nsEd hm
    exact fit_touch g1.1 g1.2.1 g2.1 g2.2.1 g1.2.2 g2.2.2
  rw [Bool.eq_iff_iff]
  unfold fitT apartS in1 in2
  rw [norm_same ha, norm_same hb]
  simp only [List.all_eq_true, Bool.and_eq_true, Bool.not_eq_true']
  rw [← ma, ← mb]
  constructor
  · intro h
    refine ⟨⟨fun f hf e he => ?_, fun f hf => ?_⟩, fun e he => (h e he).1⟩
    · rw [← touch e he f hf]; exact ((h e he).2 f hf).1
    · have he : edAt (normS pa) 0 ∈ edL (normS pa) := mem_edL.2 ⟨0, by rw [normS_len]; exact a0, rfl⟩
      exact ((h _ he).2 f hf).2
  · rintro ⟨⟨h1, h2⟩, h3⟩ e he
    refine ⟨h3 e he, fun f hf => ⟨?_, h2 f hf⟩⟩
    rw [touch e he f hf]; exact h1 f hf e he
end Go.Proofs.YtdbheipjbjcikaaGreatDoor
