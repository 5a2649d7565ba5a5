/- Plain laws of spans in which nothing changes, and of the best names: no program in sight. -/
import Derived.Test.YtapfokfbdmcokaaGreatDoorYG
namespace Go.Proofs.YtapfokfbdmcokaaGreatDoor
open Go.RowKit

section
variable {d : Pd} {L : List Lk} {y a : Int}
theorem exB_iff {z : Int} : exB d z = true ↔ d.2.2.1 ≤ z ∧ z ≤ d.2.2.2.1 := inB_iff
theorem exB_no {z : Int} : exB d z = false ↔ z < d.2.2.1 ∨ d.2.2.2.1 < z := inB_no
theorem sbP_self (h : exB d y = true) : sbP d L y y = true := by unfold sbP; rw [h, stB_refl]; rfl
theorem sbP_iff {z : Int} : sbP d L y z = true ↔ exB d z = true ∧ stB d L z y = true := by unfold sbP; rw [Bool.and_eq_true]
/-- one year further down, as the program sees it -/
theorem lo_step (hy : exB d y = true) (ha : a ≤ y) (hs : sbP d L y a = true) (hf : d.2.2.1 < a) (h : sdB d L a = true) : sbP d L y (a - 1) = true := by
  obtain ⟨h1, h2⟩ := exB_iff.1 hy
  have e1 : exB d a = true := (sbP_iff.1 hs).1
  have e2 : exB d (a - 1) = true := exB_iff.2 ⟨by omega, by omega⟩
  rw [sdB_both e1 e2] at h
  refine sbP_iff.2 ⟨e2, ?_⟩
  rw [← stB_trans h]
  exact (sbP_iff.1 hs).2
theorem lo_stop (hy : exB d y = true) (ha : a ≤ y) (hs : sbP d L y a = true) (h : ¬ d.2.2.1 < a ∨ sdB d L a = false) : sbP d L y (a - 1) = false := by
  obtain ⟨h1, h2⟩ := exB_iff.1 hy
  by_cases hf : d.2.2.1 < a
  · have e1 : exB d a = true := (sbP_iff.1 hs).1
    have e2 : exB d (a - 1) = true := exB_iff.2 ⟨by omega, by omega⟩
    have h3 : sdB d L a = false := h.elim (fun q => absurd hf q) id
    rw [sdB_both e1 e2, stB_trans (sbP_iff.1 hs).2, stB_symm] at h3
    unfold sbP
    rw [h3, Bool.and_false]
  · have e2 : exB d (a - 1) = false := exB_no.2 (.inl (by omega))
    unfold sbP
    rw [e2, Bool.false_and]
theorem hi_step (hy : exB d y = true) (ha : y ≤ a) (hs : sbP d L y a = true) (hf : a < d.2.2.2.1) (h : sdB d L (a + 1) = true) : sbP d L y (a + 1) = true := by
  obtain ⟨h1, h2⟩ := exB_iff.1 hy
  have e1 : exB d a = true := (sbP_iff.1 hs).1
  have e2 : exB d (a + 1) = true := exB_iff.2 ⟨by omega, by omega⟩
  have e3 : a + 1 - 1 = a := by omega
  rw [sdB_both e2 (by rw [e3]; exact e1), e3] at h
  refine sbP_iff.2 ⟨e2, ?_⟩
  rw [stB_trans h]
  exact (sbP_iff.1 hs).2
theorem hi_stop (hy : exB d y = true) (ha : y ≤ a) (hs : sbP d L y a = true) (h : ¬ a < d.2.2.2.1 ∨ sdB d L (a + 1) = false) : sbP d L y (a + 1) = false := by
  obtain ⟨h1, h2⟩ := exB_iff.1 hy
  by_cases hf : a < d.2.2.2.1
  · have e1 : exB d a = true := (sbP_iff.1 hs).1
    have e2 : exB d (a + 1) = true := exB_iff.2 ⟨by omega, by omega⟩
    have e3 : a + 1 - 1 = a := by omega
    have h3 : sdB d L (a + 1) = false := h.elim (fun q => absurd hf q) id
    rw [sdB_both e2 (by rw [e3]; exact e1), e3, stB_symm, stB_trans (sbP_iff.1 hs).2, stB_symm] at h3
    unfold sbP
    rw [h3, Bool.and_false]
  · have e2 : exB d (a + 1) = false := exB_no.2 (.inr (by omega))
    unfold sbP
    rw [e2, Bool.false_and]
/-- the years from a up to y (down from b) have y's state -/
def UpS (d : Pd) (L : List Lk) (y a : Int) : Prop := a ≤ y ∧ ∀ z, a ≤ z → z ≤ y → sbP d L y z = true
def DnS (d : Pd) (L : List Lk) (y b : Int) : Prop := y ≤ b ∧ ∀ z, y ≤ z → z ≤ b → sbP d L y z = true
theorem UpS.at (h : UpS d L y a) : sbP d L y a = true := h.2 a (Int.le_refl _) h.1
theorem DnS.at (h : DnS d L y a) : sbP d L y a = true := h.2 a h.1 (Int.le_refl _)
theorem UpS.start (h : exB d y = true) : UpS d L y y := by
  refine ⟨Int.le_refl _, fun z h1 h2 => ?_⟩
  obtain rfl : z = y := by omega
  exact sbP_self h
theorem DnS.start (h : exB d y = true) : DnS d L y y := by
  refine ⟨Int.le_refl _, fun z h1 h2 => ?_⟩
  obtain rfl : z = y := by omega
  exact sbP_self h
theorem UpS.step (h : UpS d L y a) (hn : sbP d L y (a - 1) = true) : UpS d L y (a - 1) := ⟨by have := h.1; omega, fun z h1 h2 => by
  by_cases e : z = a - 1
  · rw [e]; exact hn
  · exact h.2 z (by omega) h2⟩
theorem DnS.step (h : DnS d L y a) (hn : sbP d L y (a + 1) = true) : DnS d L y (a + 1) := ⟨by have := h.1; omega, fun z h1 h2 => by
  by_cases e : z = a + 1
  · rw [e]; exact hn
  · exact h.2 z h1 (by omega)⟩
theorem UpS.lo (h : UpS d L y a) (hn : sbP d L y (a - 1) = false) : loS (sbP d L y) y = a := loS_eq ⟨h.1, h.2, hn⟩
theorem DnS.hi (h : DnS d L y a) (hn : sbP d L y (a + 1) = false) : hiS (sbP d L y) y = a := hiS_eq ⟨h.1, h.2, hn⟩
theorem UpS.ge (h : UpS d L y a) : d.2.2.1 ≤ a := (exB_iff.1 (sbP_iff.1 h.at).1).1
theorem DnS.le (h : DnS d L y a) : a ≤ d.2.2.2.1 := (exB_iff.1 (sbP_iff.1 h.at).1).2
end
theorem sbP_stB {d : Pd} {L : List Lk} {y z : Int} (h : exB d z = true) : sbP d L y z = stB d L z y := by unfold sbP; rw [h, Bool.true_and]
theorem sbP_ex {d : Pd} {L : List Lk} {y z : Int} (h : exB d z = false) : sbP d L y z = false := by unfold sbP; rw [h, Bool.false_and]

/-- the best name so far -/
def bsSt (ns : List Nm) (x : List UInt8) (b i : Int) : Int := if (ns.getD i.toNat nmD).2.1 = x ∧ (b < 0 ∨ (ns.getD i.toNat nmD).2.2.1 < (ns.getD b.toNat nmD).2.2.1) then i else b
def bsF (ns : List Nm) (x : List UInt8) (l : List Int) : Int := l.foldl (bsSt ns x) (-1)
theorem bsF_add (ns : List Nm) (x : List UInt8) (l : List Int) (i : Int) : bsF ns x (l ++ [i]) = bsSt ns x (bsF ns x l) i := by simp [bsF, List.foldl_append]
theorem bsSt_yes {ns : List Nm} {x : List UInt8} {b i : Int} (h : (ns.getD i.toNat nmD).2.1 = x) (h2 : b < 0 ∨ (ns.getD i.toNat nmD).2.2.1 < (ns.getD b.toNat nmD).2.2.1) : bsSt ns x b i = i := if_pos ⟨h, h2⟩
theorem bsSt_no {ns : List Nm} {x : List UInt8} {b i : Int} (h : (ns.getD i.toNat nmD).2.1 ≠ x ∨ ¬ (b < 0 ∨ (ns.getD i.toNat nmD).2.2.1 < (ns.getD b.toNat nmD).2.2.1)) : bsSt ns x b i = b := if_neg (fun q => h.elim (fun e => e q.1) (fun e => e q.2))
theorem bsF_fold (ns : List Nm) (x : List UInt8) : ∀ (l : List Int) (b : Int), l.foldl (bsSt ns x) b = b ∨ l.foldl (bsSt ns x) b ∈ l
  | [], _ => .inl rfl
  | i :: l, b => by
    rw [List.foldl_cons]
    rcases bsF_fold ns x l (bsSt ns x b i) with h | h
    · rw [h]
      unfold bsSt
      split
      · exact .inr (List.mem_cons_self ..)
      · exact .inl rfl
    · exact .inr (List.mem_cons_of_mem _ h)
theorem bsF_cases (ns : List Nm) (x : List UInt8) (l : List Int) : bsF ns x l = -1 ∨ bsF ns x l ∈ l := bsF_fold ns x l (-1)
theorem usTo_mem {ns : List Nm} {y : Int} {k : Nat} {i : Int} (h : i ∈ usTo ns y k) : ∃ j : Nat, i = j ∧ j < k := by
  unfold usTo at h
  rw [List.mem_map] at h
  obtain ⟨j, hj, e⟩ := h
  rw [List.mem_filter, List.mem_range] at hj
  exact ⟨j, e.symm, hj.1⟩
theorem usTo_bs (ns : List Nm) (x : List UInt8) (y : Int) (k : Nat) : bsF ns x (usTo ns y k) = -1 ∨ ∃ j : Nat, bsF ns x (usTo ns y k) = j ∧ j < k := by
  rcases bsF_cases ns x (usTo ns y k) with h | h
  · exact .inl h
  · exact .inr (usTo_mem h)
theorem bsF_part {ns : List Nm} {x : List UInt8} {y : Int} {j : Nat} : bsF ns x ((usL ns y).take j) = -1 ∨ ∃ i : Nat, bsF ns x ((usL ns y).take j) = i ∧ i < ns.length := by
  rcases bsF_cases ns x ((usL ns y).take j) with h | h
  · exact .inl h
  · exact .inr (usTo_mem (List.mem_of_mem_take h))
theorem bsF_take {ns : List Nm} {x : List UInt8} {l : List Int} {j : Nat} (hj : j < l.length) : bsF ns x (l.take (j + 1)) = bsSt ns x (bsF ns x (l.take j)) (l.getD j 0) := by
  rw [List.take_succ_eq_append_getElem hj, bsF_add]
  simp [List.getD, hj]
/-- the best name in the first language that has one -/
def bsG (ns : List Nm) (us : List Int) : List (List UInt8) → Int
  | [] => -1
  | x :: xs => if 0 ≤ bsF ns x us then bsF ns x us else bsG ns us xs
theorem bsG_skip {ns : List Nm} {us : List Int} {ls : List (List UInt8)} {k : Nat} (hk : k < ls.length) (h : ¬ 0 ≤ bsF ns (ls.getD k []) us) : bsG ns us (ls.drop k) = bsG ns us (ls.drop (k + 1)) := by
  have e : ls.getD k [] = ls[k] := by simp [List.getD, hk]
  rw [List.drop_eq_getElem_cons hk, bsG, if_neg (by rw [← e]; exact h)]
theorem bsG_hit {ns : List Nm} {us : List Int} {ls : List (List UInt8)} {k : Nat} (hk : k < ls.length) (h : 0 ≤ bsF ns (ls.getD k []) us) : bsG ns us (ls.drop k) = bsF ns (ls.getD k []) us := by
  have e : ls.getD k [] = ls[k] := by simp [List.getD, hk]
  rw [List.drop_eq_getElem_cons hk, bsG, if_pos (by rw [← e]; exact h), e]
theorem bsG_end {ns : List Nm} {us : List Int} {ls : List (List UInt8)} : bsG ns us (ls.drop ls.length) = -1 := by rw [List.drop_length]; rfl
def bsN (d : Pd) (ls : List (List UInt8)) (y : Int) : Int := bsG d.2.2.2.2 (usL d.2.2.2.2 y) ls
theorem bsG_cases {ns : List Nm} {y : Int} : ∀ ls : List (List UInt8), bsG ns (usL ns y) ls = -1 ∨ ∃ i : Nat, bsG ns (usL ns y) ls = i ∧ i < ns.length
  | [] => .inl rfl
  | x :: ls => by
    unfold bsG
    split
    · rcases usTo_bs ns x y ns.length with h | h
      · rename_i q
        unfold usL at q
        rw [h] at q
        omega
      · exact .inr h
    · exact bsG_cases ls
/-- the name of a place in a year -/
def nmO (d : Pd) (ls : List (List UInt8)) (y : Int) : List UInt8 := if bsN d ls y < 0 then d.1 else (d.2.2.2.2.getD (bsN d ls y).toNat nmD).1
/-- all are languages -/
def lgB (ls : List (List UInt8)) : Bool := ls.all fun s => smL s 2 3
/-- who has another name -/
def renB (ls : List (List UInt8)) (a b : Int) (d : Pd) : Bool := exB d a && (exB d b && !(nmO d ls a == nmO d ls b))
noncomputable def renR (D : List Pd) (L : List Lk) (ls : List (List UInt8)) (a b : Int) : List (List UInt8) := if wyC D L (lgB ls) [a, b] = 0 then cdsP (renB ls a b) D else []
theorem renR_len (D : List Pd) (L : List Lk) (ls : List (List UInt8)) (a b : Int) : (renR D L ls a b).length ≤ 1000000 := by
  unfold renR
  split
  · rename_i h
    have h1 := wdB_len (wyC_zero h).1
    have h2 := cdsP_len (renB ls a b) D
    omega
  · simp
/-- each place of a way up has been told -/
theorem way_told {α : Type} [DecidableEq α] {p : α → Option α} : ∀ (f : Nat) (w : List α) (c : α), ∀ z ∈ (way p f w c).1, z ∈ w ∨ ∃ u, p u = some z
  | 0, w, c, z, h => .inl h
  | f + 1, w, c, z, h => by
    unfold way at h
    rcases hp : p c with _ | n
    · rw [hp] at h; exact .inl h
    · rw [hp] at h
      dsimp only at h
      by_cases hm : n ∈ w
      · rw [if_pos hm] at h; exact .inl h
      · rw [if_neg hm] at h
        rcases way_told f (w ++ [n]) n z h with q | q
        · rcases List.mem_append.1 q with q | q
          · exact .inl q
          · exact .inr ⟨c, by rw [List.mem_singleton.1 q]; exact hp⟩
        · exact .inr q
theorem wayU_told {L : List Lk} {x : List UInt8} {y : Int} {z : List UInt8} (h : z ∈ (wayU L x y).1) : z = x ∨ ∃ l ∈ L, l.2.1 = z := by
  rcases way_told _ _ _ z h with q | ⟨u, q⟩
  · exact .inl (List.mem_singleton.1 q)
  · unfold par at q
    rcases hl : lkOf L u y with _ | l
    · rw [hl] at q; cases q
    · rw [hl] at q
      injection q with q
      exact .inr ⟨l, (lkOf_some hl).1, q⟩
theorem hasB_some {D : List Pd} {x : List UInt8} {a b : Int} (h : hasB D x a b = true) : (fndP D x).isSome = true := by
  unfold hasB at h
  cases hf : fndP D x with
  | none => rw [hf] at h; cases h
  | some d => rfl
theorem wdB_way {D : List Pd} {L : List Lk} (h : wdB D L = true) {x : List UInt8} (hx : (fndP D x).isSome = true) {y : Int} {z : List UInt8} (hz : z ∈ (wayU L x y).1) : (fndP D z).isSome = true := by
  rcases wayU_told hz with rfl | ⟨l, hl, rfl⟩
  · exact hx
  · have h1 := List.all_eq_true.1 (wdB_iff.1 h).2.2 l hl
    unfold wlB at h1
    rw [Bool.and_eq_true] at h1
    exact hasB_some h1.2
end Go.Proofs.YtapfokfbdmcokaaGreatDoor
