/- Plain laws of spans in which nothing changes, and of the best names: no program in sight. Codes of places, and places found, as the program sees them. The same state, and turns, as the specification sees them. -/
import Derived.Test.YtlnliajnipniaaaGreatDoorYJ
namespace Go.Proofs.YtlnliajnipniaaaGreatDoor
open Go.RowKit
section
variable {d : Pd} {L : List Lk} {y a : Int}
theorem exB_iff {z : Int} : exB d z = true ↔ d.2.2.1 ≤ z ∧ z ≤ d.2.2.2.1 := inB_iff
theorem exB_no {z : Int} : exB d z = false ↔ z < d.2.2.1 ∨ d.2.2.2.1 < z := inB_no
theorem sbP_self (h : exB d y = true) : sbP d L y y = true := by unfold sbP; rw [h, stB_refl]; rfl
theorem sbP_iff {z : Int} : sbP d L y z = true ↔ exB d z = true ∧ stB d L z y = true := by unfold sbP; rw [Bool.and_eq_true]
theorem lo_step (hy : exB d y = true) (ha : a ≤ y) (hs : sbP d L y a = true) (hf : d.2.2.1 < a) (h : sdB d L a = true) : sbP d L y (a - 1) = true := by
 obtain ⟨h1, h2⟩ := exB_iff.1 hy
 have e1 : exB d a = true := (sbP_iff.1 hs).1
 have e2 : exB d (a - 1) = true := exB_iff.2 ⟨by omega, by omega⟩
 rw [sdB_both e1 e2] at h
 refine sbP_iff.2 ⟨e2, ?_⟩
 rw [← stB_trans h]
 exact (sbP_iff.1 hs).2
theorem lo_stop (hy : exB d y = true) (ha : a ≤ y) (hs : sbP d L y a = true) (h : ¬ d.2.2.1 < a ∨ sdB d L a = false) : sbP d L y (a - 1) = false := by
 obtain ⟨h1, h2⟩ := exB_iff.1 hy
 by_cases hf : d.2.2.1 < a
 ·have e1 : exB d a = true := (sbP_iff.1 hs).1
  have e2 : exB d (a - 1) = true := exB_iff.2 ⟨by omega, by omega⟩
  have h3 : sdB d L a = false := h.elim (fun q => absurd hf q) id
  rw [sdB_both e1 e2, stB_trans (sbP_iff.1 hs).2, stB_symm] at h3
  unfold sbP
  rw [h3, Bool.and_false]
 ·have e2 : exB d (a - 1) = false := exB_no.2 (.inl (by omega))
  unfold sbP
  rw [e2, Bool.false_and]
theorem hi_step (hy : exB d y = true) (ha : y ≤ a) (hs : sbP d L y a = true) (hf : a < d.2.2.2.1) (h : sdB d L (a + 1) = true) : sbP d L y (a + 1) = true := by
 obtain ⟨h1, h2⟩ := exB_iff.1 hy
 have e1 : exB d a = true := (sbP_iff.1 hs).1
 have e2 : exB d (a + 1) = true := exB_iff.2 ⟨by omega, by omega⟩
 have e3 : a + 1 - 1 = a := by omega
 rw [sdB_both e2 (by rw [e3]; exact e1), e3] at h
 refine sbP_iff.2 ⟨e2, ?_⟩
 rw [stB_trans h]
 exact (sbP_iff.1 hs).2
theorem hi_stop (hy : exB d y = true) (ha : y ≤ a) (hs : sbP d L y a = true) (h : ¬ a < d.2.2.2.1 ∨ sdB d L (a + 1) = false) : sbP d L y (a + 1) = false := by
 obtain ⟨h1, h2⟩ := exB_iff.1 hy
 by_cases hf : a < d.2.2.2.1
 ·have e1 : exB d a = true := (sbP_iff.1 hs).1
  have e2 : exB d (a + 1) = true := exB_iff.2 ⟨by omega, by omega⟩
  have e3 : a + 1 - 1 = a := by omega
  have h3 : sdB d L (a + 1) = false := h.elim (fun q => absurd hf q) id
  rw [sdB_both e2 (by rw [e3]; exact e1), e3, stB_symm, stB_trans (sbP_iff.1 hs).2, stB_symm] at h3
  unfold sbP
  rw [h3, Bool.and_false]
 ·have e2 : exB d (a + 1) = false := exB_no.2 (.inr (by omega))
  unfold sbP
  rw [e2, Bool.false_and]
def UpS (d : Pd) (L : List Lk) (y a : Int) : Prop := a ≤ y ∧ ∀ z, a ≤ z → z ≤ y → sbP d L y z = true
def DnS (d : Pd) (L : List Lk) (y b : Int) : Prop := y ≤ b ∧ ∀ z, y ≤ z → z ≤ b → sbP d L y z = true
theorem UpS.at (h : UpS d L y a) : sbP d L y a = true := h.2 a (Int.le_refl _) h.1
theorem DnS.at (h : DnS d L y a) : sbP d L y a = true := h.2 a h.1 (Int.le_refl _)
theorem UpS.start (h : exB d y = true) : UpS d L y y := by
 refine ⟨Int.le_refl _, fun z h1 h2 => ?_⟩
 obtain rfl : z = y := by omega
 exact sbP_self h
theorem DnS.start (h : exB d y = true) : DnS d L y y := by
 refine ⟨Int.le_refl _, fun z h1 h2 => ?_⟩
 obtain rfl : z = y := by omega
 exact sbP_self h
theorem UpS.step (h : UpS d L y a) (hn : sbP d L y (a - 1) = true) : UpS d L y (a - 1) := ⟨by have := h.1; omega, fun z h1 h2 => by
 by_cases e : z = a - 1
 ·rw [e]; exact hn
 ·exact h.2 z (by omega) h2⟩
theorem DnS.step (h : DnS d L y a) (hn : sbP d L y (a + 1) = true) : DnS d L y (a + 1) := ⟨by have := h.1; omega, fun z h1 h2 => by
 by_cases e : z = a + 1
 ·rw [e]; exact hn
 ·exact h.2 z h1 (by omega)⟩
theorem UpS.lo (h : UpS d L y a) (hn : sbP d L y (a - 1) = false) : loS (sbP d L y) y = a := loS_eq ⟨h.1, h.2, hn⟩
theorem DnS.hi (h : DnS d L y a) (hn : sbP d L y (a + 1) = false) : hiS (sbP d L y) y = a := hiS_eq ⟨h.1, h.2, hn⟩
end
theorem sbP_stB {d : Pd} {L : List Lk} {y z : Int} (h : exB d z = true) : sbP d L y z = stB d L z y := by unfold sbP; rw [h, Bool.true_and]
theorem sbP_ex {d : Pd} {L : List Lk} {y z : Int} (h : exB d z = false) : sbP d L y z = false := by unfold sbP; rw [h, Bool.false_and]
def bsSt (ns : List Nm) (x : List UInt8) (b i : Int) : Int := if (ns.getD i.toNat nmD).2.1 = x ∧ (b < 0 ∨ (ns.getD i.toNat nmD).2.2.1 < (ns.getD b.toNat nmD).2.2.1) then i else b
def bsF (ns : List Nm) (x : List UInt8) (l : List Int) : Int := l.foldl (bsSt ns x) (-1)
theorem bsF_add (ns : List Nm) (x : List UInt8) (l : List Int) (i : Int) : bsF ns x (l ++ [i]) = bsSt ns x (bsF ns x l) i := by simp [bsF, List.foldl_append]
theorem bsSt_yes {ns : List Nm} {x : List UInt8} {b i : Int} (h : (ns.getD i.toNat nmD).2.1 = x) (h2 : b < 0 ∨ (ns.getD i.toNat nmD).2.2.1 < (ns.getD b.toNat nmD).2.2.1) : bsSt ns x b i = i := if_pos ⟨h, h2⟩
theorem bsSt_no {ns : List Nm} {x : List UInt8} {b i : Int} (h : (ns.getD i.toNat nmD).2.1 ≠ x ∨ ¬ (b < 0 ∨ (ns.getD i.toNat nmD).2.2.1 < (ns.getD b.toNat nmD).2.2.1)) : bsSt ns x b i = b := if_neg (fun q => h.elim (fun e => e q.1) (fun e => e q.2))
theorem bsF_fold (ns : List Nm) (x : List UInt8) : ∀ (l : List Int) (b : Int), l.foldl (bsSt ns x) b = b ∨ l.foldl (bsSt ns x) b ∈ l
 | [], _ => .inl rfl
 | i :: l, b => by
  rw [List.foldl_cons]
  rcases bsF_fold ns x l (bsSt ns x b i) with h | h
  ·rw [h]
   unfold bsSt
   split
   ·exact .inr (List.mem_cons_self ..)
   ·exact .inl rfl
  ·exact .inr (List.mem_cons_of_mem _ h)
theorem bsF_cases (ns : List Nm) (x : List UInt8) (l : List Int) : bsF ns x l = -1 ∨ bsF ns x l ∈ l := bsF_fold ns x l (-1)
theorem usTo_mem {ns : List Nm} {y : Int} {k : Nat} {i : Int} (h : i ∈ usTo ns y k) : ∃ j : Nat, i = j ∧ j < k := by
 unfold usTo at h
 rw [List.mem_map] at h
 obtain ⟨j, hj, e⟩ := h
 rw [List.mem_filter, List.mem_range] at hj
 exact ⟨j, e.symm, hj.1⟩
theorem usTo_bs (ns : List Nm) (x : List UInt8) (y : Int) (k : Nat) : bsF ns x (usTo ns y k) = -1 ∨ ∃ j : Nat, bsF ns x (usTo ns y k) = j ∧ j < k := by
 rcases bsF_cases ns x (usTo ns y k) with h | h
 ·exact .inl h
 ·exact .inr (usTo_mem h)
theorem bsF_part {ns : List Nm} {x : List UInt8} {y : Int} {j : Nat} : bsF ns x ((usL ns y).take j) = -1 ∨ ∃ i : Nat, bsF ns x ((usL ns y).take j) = i ∧ i < ns.length := by
 rcases bsF_cases ns x ((usL ns y).take j) with h | h
 ·exact .inl h
 ·exact .inr (usTo_mem (List.mem_of_mem_take h))
theorem bsF_take {ns : List Nm} {x : List UInt8} {l : List Int} {j : Nat} (hj : j < l.length) : bsF ns x (l.take (j + 1)) = bsSt ns x (bsF ns x (l.take j)) (l.getD j 0) := by
 rw [List.take_succ_eq_append_getElem hj, bsF_add]
 simp [List.getD, hj]
def bsG (ns : List Nm) (us : List Int) : List (List UInt8) → Int
 | [] => -1
 | x :: xs => if 0 ≤ bsF ns x us then bsF ns x us else bsG ns us xs
theorem bsG_skip {ns : List Nm} {us : List Int} {ls : List (List UInt8)} {k : Nat} (hk : k < ls.length) (h : ¬ 0 ≤ bsF ns (ls.getD k []) us) : bsG ns us (ls.drop k) = bsG ns us (ls.drop (k + 1)) := by
 have e : ls.getD k [] = ls[k] := by simp [List.getD, hk]
 rw [List.drop_eq_getElem_cons hk, bsG, if_neg (by rw [← e]; exact h)]
theorem bsG_hit {ns : List Nm} {us : List Int} {ls : List (List UInt8)} {k : Nat} (hk : k < ls.length) (h : 0 ≤ bsF ns (ls.getD k []) us) : bsG ns us (ls.drop k) = bsF ns (ls.getD k []) us := by
 have e : ls.getD k [] = ls[k] := by simp [List.getD, hk]
 rw [List.drop_eq_getElem_cons hk, bsG, if_pos (by rw [← e]; exact h), e]
theorem bsG_end {ns : List Nm} {us : List Int} {ls : List (List UInt8)} : bsG ns us (ls.drop ls.length) = -1 := by rw [List.drop_length]; rfl
def bsN (d : Pd) (ls : List (List UInt8)) (y : Int) : Int := bsG d.2.2.2.2 (usL d.2.2.2.2 y) ls
theorem bsG_cases {ns : List Nm} {y : Int} : ∀ ls : List (List UInt8), bsG ns (usL ns y) ls = -1 ∨ ∃ i : Nat, bsG ns (usL ns y) ls = i ∧ i < ns.length
 | [] => .inl rfl
 | x :: ls => by
  unfold bsG
  split
  ·rcases usTo_bs ns x y ns.length with h | h
   ·rename_i q
    unfold usL at q
    rw [h] at q
    omega
   ·exact .inr h
  ·exact bsG_cases ls
def nmO (d : Pd) (ls : List (List UInt8)) (y : Int) : List UInt8 := if bsN d ls y < 0 then d.1 else (d.2.2.2.2.getD (bsN d ls y).toNat nmD).1
def lgB (ls : List (List UInt8)) : Bool := ls.all fun s => smL s 2 3
theorem way_told {α : Type} [DecidableEq α] {p : α → Option α} : ∀ (f : Nat) (w : List α) (c : α), ∀ z ∈ (way p f w c).1, z ∈ w ∨ ∃ u, p u = some z
 | 0, w, c, z, h => .inl h
 | f + 1, w, c, z, h => by
  unfold way at h
  rcases hp : p c with _ | n
  ·rw [hp] at h; exact .inl h
  ·rw [hp] at h
   dsimp only at h
   by_cases hm : n ∈ w
   ·rw [if_pos hm] at h; exact .inl h
   ·rw [if_neg hm] at h
    rcases way_told f (w ++ [n]) n z h with q | q
    ·rcases List.mem_append.1 q with q | q
     ·exact .inl q
     ·exact .inr ⟨c, by rw [List.mem_singleton.1 q]; exact hp⟩
    ·exact .inr q
theorem wayU_told {L : List Lk} {x : List UInt8} {y : Int} {z : List UInt8} (h : z ∈ (wayU L x y).1) : z = x ∨ ∃ l ∈ L, l.2.1 = z := by
 rcases way_told _ _ _ z h with q | ⟨u, q⟩
 ·exact .inl (List.mem_singleton.1 q)
 ·unfold par at q
  rcases hl : lkOf L u y with _ | l
  ·rw [hl] at q; cases q
  ·rw [hl] at q
   injection q with q
   exact .inr ⟨l, (lkOf_some hl).1, q⟩
theorem hasB_some {D : List Pd} {x : List UInt8} {a b : Int} (h : hasB D x a b = true) : (fndP D x).isSome = true := by
 unfold hasB at h
 cases hf : fndP D x with
 | none => rw [hf] at h; cases h
 | some d => rfl
theorem wdB_way {D : List Pd} {L : List Lk} (h : wdB D L = true) {x : List UInt8} (hx : (fndP D x).isSome = true) {y : Int} {z : List UInt8} (hz : z ∈ (wayU L x y).1) : (fndP D z).isSome = true := by
 rcases wayU_told hz with rfl | ⟨l, hl, rfl⟩
 ·exact hx
 ·have h1 := List.all_eq_true.1 (wdB_iff.1 h).2.2 l hl
  unfold wlB at h1
  rw [Bool.and_eq_true] at h1
  exact hasB_some h1.2
end Go.Proofs.YtlnliajnipniaaaGreatDoor
namespace Go.Proofs.YtlnliajnipniaaaGreatDoor
open Go.RowKit
attribute [local go_sem] ExtOf.cell ExtOf.frozen
def IsP (w : World) (d : Pd) (v : Value) : Prop := ∃ p : Pl, PlAt w p ∧ d = pdOf p ∧ plB d = true ∧ v = plV p
theorem IsP.ext {w w' : World} {d : Pd} {v : Value} (h : IsP w d v) (hx : Ext w w') : IsP w' d v := by
 obtain ⟨p, h1, h2, h3, h4⟩ := h
 exact ⟨p, h1.ext hx, h2, h3, h4⟩
theorem IsP.yrs {w : World} {d : Pd} {s0 : ByteArray} {s1 s2 s3 : Int} {s4 : Option Addr} {s5 s6 : Nat} (h : IsP w d (.agg #[.string s0, .int .i64 s1, .int .i64 s2, .int .i64 s3, .slice s4 s5 s6])) : s2 = d.2.2.1 ∧ s3 = d.2.2.2.1 ∧ s0 = tx d.1 := by
 obtain ⟨p, h1, rfl, h3, h4⟩ := h
 unfold plV at h4
 injection h4 with h4
 injection h4 with h4
 simp at h4
 exact ⟨h4.2.2.1, h4.2.2.2.1, h4.1⟩
theorem plB_sp {d : Pd} (h : plB d = true) : -3000 ≤ d.2.2.1 ∧ d.2.2.1 ≤ d.2.2.2.1 ∧ d.2.2.2.1 ≤ 3000 := spB_iff.1 (plB_iff.1 h).2.2.1
section
variable {w : World} {A A' : Option Addr} {n c m c' : Nat} {ps : List Pl} {L : List Lk}
theorem isP_at (h : WIn w A A' n c m c' ps L) (hw : wdB (psD ps) L = true) {k : Nat} (hk : k < ps.length) : IsP w (pdOf (ps.getD k plD)) (plV (ps.getD k plD)) := by
 refine ⟨ps.getD k plD, h.pl _ (pl_mem hk), rfl, ?_, rfl⟩
 have := wdB_pl hw (j := k) (by rw [psD_len]; exact hk)
 rwa [psD_at hk] at this
theorem i_placeP (x : List UInt8) (h : WIn w A A' n c m c' ps L) (hw : wdB (psD ps) L = true) (hs : (fndP (psD ps) x).isSome = true) :
  Calls Tryz.prog 24 #[.agg #[.slice A n c, .slice A' m c'], .string (tx x)] w fun e w' => ∃ (s0 : ByteArray) (s1 s2 s3 : Int) (s4 : Option Addr) (s5 s6 : Nat), Hid (IsP w ((fndP (psD ps) x).getD pdD) (.agg #[.string s0, .int .i64 s1, .int .i64 s2, .int .i64 s3, .slice s4 s5 s6])) ∧ e = .returned (.agg #[.string s0, .int .i64 s1, .int .i64 s2, .int .i64 s3, .slice s4 s5 s6]) ∧ Ext w w' := by
 refine (i_place (A' := A') (m := m) (c' := c') x h.sq h.hn (by rw [h.hn]; exact h.hl) (asc_of (wdB_iff.1 hw).1) hs).mono ?_
 rintro e w' ⟨k, hk, _, hf, rfl, hx⟩
 refine ⟨_, _, _, _, _, _, _, hI ?_, rfl, hx⟩
 rw [hf]
 exact isP_at h hw hk
theorem IsP.steady {d : Pd} {v : Value} (hP : IsP w d v) (h : SlAt w 4 encK A' L) (hn : m = L.length) (hl : m ≤ 1048576) (hm : Mx w) (z : Int) (h1 : -3001 ≤ z) (h2 : z ≤ 3001) :
  Calls Tryz.prog 25 #[.agg #[.slice A n c, .slice A' m c'], v, .int .i64 z] w fun e w' => e = .returned (.bool (sdB d L z)) ∧ Ext w w' := by
 obtain ⟨p, g1, rfl, g3, rfl⟩ := hP
 obtain ⟨_, _, q3, q4, _⟩ := plB_iff.1 g3
 exact i_isSteady A A' n c m c' L p z w h hn hl g1 hm q4 q3 h1 h2
theorem IsP.ex {d : Pd} {v : Value} (hP : IsP w d v) (z : Int) (W : World) : Calls Tryz.prog 31 #[v, .int .i64 z] W fun e w' => e = .returned (.bool (exB d z)) ∧ Ext W w' := by
 obtain ⟨p, g1, rfl, g3, rfl⟩ := hP
 exact s_l11Exists p z W
theorem plC_ne {D : List Pd} {x : List UInt8} {ok : Bool} {y : Int} (h : ¬ wyC D L (smL x 1 16 && ok) [y] = 0) : plC D L x ok y = wyC D L (smL x 1 16 && ok) [y] := by unfold plC; rw [if_neg h]
theorem plC_has {D : List Pd} {x : List UInt8} {ok : Bool} {y : Int} (h : wyC D L (smL x 1 16 && ok) [y] = 0) (hf : (fndP D x).isSome = true) : plC D L x ok y = 0 := by unfold plC; rw [if_pos h, if_pos hf]
theorem plC_lacks {D : List Pd} {x : List UInt8} {ok : Bool} {y : Int} (h : wyC D L (smL x 1 16 && ok) [y] = 0) (hf : (fndP D x).isSome = false) : plC D L x ok y = 4 := by unfold plC; rw [if_pos h, if_neg (by rw [hf]; simp)]
theorem ssC_ne {D : List Pd} {x : List UInt8} {ok : Bool} {y : Int} (h : ¬ plC D L x ok y = 0) : ssC D L x ok y = plC D L x ok y := by unfold ssC; rw [if_neg h]
theorem ssC_yes {D : List Pd} {x : List UInt8} {ok : Bool} {y : Int} (h : plC D L x ok y = 0) (he : exB ((fndP D x).getD pdD) y = true) : ssC D L x ok y = 0 := by unfold ssC; rw [if_pos h, if_pos he]
theorem ssC_no {D : List Pd} {x : List UInt8} {ok : Bool} {y : Int} (h : plC D L x ok y = 0) (he : exB ((fndP D x).getD pdD) y = false) : ssC D L x ok y = 5 := by unfold ssC; rw [if_pos h, if_neg (by rw [he]; simp)]
set_option maxRecDepth 20000 in
set_option maxHeartbeats 12800000 in
theorem i_placeCode (x : List UInt8) (y : Int) (ok : Bool) (h : WIn w A A' n c m c' ps L) (hx : x.length ≤ 1048576) (hm : Mx w) :
  Calls Tryz.prog 30 #[.agg #[.slice A n c, .slice A' m c'], .string (tx x), .bool ok, .int .i64 y] w fun e w' => e = .returned (.int .i64 (ssC (psD ps) L x ok y)) ∧ Ext w w' := by
 have HW := hI (fun W => by have := i_IsWord (tx x) W (by rw [tx_size]; omega); rw [smB_tx] at this; exact this)
 have HC0 : Hid (∀ r W g, Ext w W → Blk W g 2 #[.int .i64 y] → Calls Tryz.prog 21 #[.agg #[.slice A n c, .slice A' m c'], .bool r, .slice (some ⟨g, 0, none⟩) 1 1] W fun e w' => e = .returned (.int .i64 (wyC (psD ps) L r [y])) ∧ Ext W w') := hI (fun r W g hW hB => i_worldCode r [y] _ 1 1 (h.ext hW) (hm.ext hW) (blk_i1 hB) rfl (by omega))
 have HK : Hid (∀ W, Ext (w.alloc (.cells #[.slice A n c, .slice A' m c'] 27)) W → W.cell? ⟨w.heap.size, 0, none⟩ = some (.slice A n c) ∧ W.cell? ⟨w.heap.size, 1, none⟩ = some (.slice A' m c')) := hI (fun W hW => by
  have B := (Blk.new (cs := #[.slice A n c, .slice A' m c']) (t := 27) (w := w) rfl).ext hW
  exact ⟨B.cell 0, B.cell 1⟩)
 cases hq : smL x 1 16 with
 | false =>
  have hz : wyC (psD ps) L false [y] = 1 := wyC_no rfl
  have hr : ssC (psD ps) L x ok y = 1 := by
   have e : plC (psD ps) L x ok y = 1 := by rw [plC_ne (by rw [hq, Bool.false_and, hz]; omega), hq, Bool.false_and, hz]
   rw [ssC_ne (by omega), e]
  have HC := hI (HC0.out false)
  rw [hz] at HC
  rw [hr]
  rw [hq] at HW
  clear HC0 hq hz hr h hm hx
  generalize tx x = sx at *
  go_enter Tryz.func30, Tryz.ntmps30
  go_wp2
  refine wp_region_held_drew (S := (fun w' => w'.cell? ⟨w.heap.size, 0, none⟩ = some (.slice A n c) ∧ w'.cell? ⟨w.heap.size, 1, none⟩ = some (.slice A' m c'))) (by kernel_rfl) (by (first | go_keep | exact HK.out _ (by (with_reducible repeat (first | exact Ext.refl _ | assumption | (apply Src.ext; assumption) | refine Ext.alloc ?_ _ | refine Ext.drew ?_ | refine Ext.drewN ?_ _ | (refine Ext.setCell' ?_ ?_ _; solve | omega | simp | (simp; omega)) | refine Ext.trans ?_ (by assumption)))))) (fun hHeld => ?_)
  (refine wpAnyH_takeD (i := 0) (d := some 10) (v := ?_) rfl rfl (by kernel_rfl) (by kernel_rfl) (by kernel_rfl) (fun _ _ _ h => h) (Or.inl ⟨by rfl, ?_⟩) (by assumption) ?_; rotate_left; focus (intro w hSw; (try dsimp only at hSw); go_simp; (try with_reducible rfl); done); (try simp only [Act.put, List.setIfInBounds_toArray, List.set_cons_zero, List.set_cons_succ]))
  (refine wpAnyH_takeD (i := 1) (d := some 11) (v := ?_) rfl rfl (by kernel_rfl) (by kernel_rfl) (by kernel_rfl) (fun _ _ _ h => h) (Or.inl ⟨by rfl, ?_⟩) (by assumption) ?_; rotate_left; focus (intro w hSw; (try dsimp only at hSw); go_simp; (try with_reducible rfl); done); (try simp only [Act.put, List.setIfInBounds_toArray, List.set_cons_zero, List.set_cons_succ]))
  (refine wpAnyH_takeD (i := 6) (d := some 16) (v := ?_) rfl rfl (by kernel_rfl) (by kernel_rfl) (by kernel_rfl) (fun _ _ _ h => h) (Or.inl ⟨by rfl, ?_⟩) (by assumption) ?_; rotate_left; focus (intro w hSw; (try dsimp only at hSw); go_simp; (try with_reducible rfl); done); (try simp only [Act.put, List.setIfInBounds_toArray, List.set_cons_zero, List.set_cons_succ]))
  (refine wpAnyH_ready (rs := [2, 7]) (by kernel_rfl) (by simp) ?_)
  refine AllReadyH.cons rfl (fun K hK => ?_) (AllReadyH.cons rfl (fun K hK => ?_) AllReadyH.nil)
  ·go_simp
   (go_at_call 22; refine (HW.out _).mono ?_; rintro e w7 ⟨rfl, hx7⟩; have hs7 := hx7.size; (try simp at hs7))
   (try go_wp2_with fail)
   (refine hK.out _ _ (by  (first | go_keep | exact HK.out _ (xT (xD xR) hx7)) ) (fun hHeld => ?_); clear hK K; (try simp only [Act.put, List.setIfInBounds_toArray, List.set_cons_zero, List.set_cons_succ]))
   (refine wpAnyH_takeD (i := 3) (d := some 13) (v := ?_) rfl rfl (by kernel_rfl) (by kernel_rfl) (by kernel_rfl) (fun _ _ _ h => h) (Or.inl ⟨by rfl, ?_⟩) (by assumption) ?_; rotate_left; focus (intro w hSw; (try dsimp only at hSw); go_simp; (try with_reducible rfl); done); (try simp only [Act.put, List.setIfInBounds_toArray, List.set_cons_zero, List.set_cons_succ]))
   (refine wpAnyH_takeD (i := 4) (d := some 14) (v := undef) rfl rfl (by kernel_rfl) (by kernel_rfl) (by kernel_rfl) (fun _ _ _ h => h) (Or.inr ⟨by rfl, rfl⟩) (by assumption) ?_; (try simp only [Act.put, List.setIfInBounds_toArray, List.set_cons_zero, List.set_cons_succ]))
   (refine wpAnyH_takeD (i := 5) (d := some 15) (v := ?_) rfl rfl (by kernel_rfl) (by kernel_rfl) (by kernel_rfl) (fun _ _ _ h => h) (Or.inl ⟨by rfl, ?_⟩) (by assumption) ?_; rotate_left; focus (intro w hSw; (try dsimp only at hSw); go_simp; (try with_reducible rfl); done); (try simp only [Act.put, List.setIfInBounds_toArray, List.set_cons_zero, List.set_cons_succ]))
   (refine wpAnyH_ready (rs := [7]) (by kernel_rfl) (by simp) ?_)
   refine AllReadyH.cons rfl (fun K hK => ?_) AllReadyH.nil
   go_simp
   (try go_wp2_with fail)
   (refine hK.out _ _ (by  (first | go_keep | exact HK.out _ (by (with_reducible repeat (first | exact Ext.refl _ | assumption | (apply Src.ext; assumption) | refine Ext.alloc ?_ _ | refine Ext.drew ?_ | refine Ext.drewN ?_ _ | (refine Ext.setCell' ?_ ?_ _; solve | omega | simp | (simp; omega)) | refine Ext.trans ?_ (by assumption))))) ) (fun hHeld => ?_); clear hK K; (try simp only [Act.put, List.setIfInBounds_toArray, List.set_cons_zero, List.set_cons_succ]))
   (refine wpAnyH_ready (rs := [8]) (by kernel_rfl) (by simp) ?_)
   refine AllReadyH.cons rfl (fun K hK => ?_) AllReadyH.nil
   go_simp
   (go_at_call 21; refine (HC.out _ _ (xA (xT (xD (xA xR)) hx7)) (bN (by omega))).mono ?_; rintro e w8 ⟨rfl, hx8⟩; have hs8 := hx8.size; (try simp at hs8); obtain ⟨y0, y1⟩ := HK.out w8 (xT (xA (xT (xD xR) hx7)) hx8))
   (try go_wp2_with fail)
   (refine hK.out _ _ (by  (first | go_keep | exact HK.out _ (by (with_reducible repeat (first | exact Ext.refl _ | assumption | (apply Src.ext; assumption) | refine Ext.alloc ?_ _ | refine Ext.drew ?_ | refine Ext.drewN ?_ _ | (refine Ext.setCell' ?_ ?_ _; solve | omega | simp | (simp; omega)) | refine Ext.trans ?_ (by assumption))))) ) (fun hHeld => ?_); clear hK K; (try simp only [Act.put, List.setIfInBounds_toArray, List.set_cons_zero, List.set_cons_succ]))
   (refine wpAnyH_takeD (i := 9) (d := some 9) (v := ?_) rfl rfl (by kernel_rfl) (by kernel_rfl) (by kernel_rfl) (fun _ _ _ h => h) (Or.inl ⟨by rfl, ?_⟩) (by assumption) ?_; rotate_left; focus (intro w hSw; (try dsimp only at hSw); go_simp; (try with_reducible rfl); done); (try simp only [Act.put, List.setIfInBounds_toArray, List.set_cons_zero, List.set_cons_succ]))
   refine wpAnyH_done (by kernel_rfl) ?_ _
   go_wp2
   go_ret
   exact ⟨rfl, xT (xA (xT (xD (xA xR)) hx7)) hx8⟩
  ·go_simp
   (try go_wp2_with fail)
   (refine hK.out _ _ (by  (first | go_keep | exact HK.out _ (by (with_reducible repeat (first | exact Ext.refl _ | assumption | (apply Src.ext; assumption) | refine Ext.alloc ?_ _ | refine Ext.drew ?_ | refine Ext.drewN ?_ _ | (refine Ext.setCell' ?_ ?_ _; solve | omega | simp | (simp; omega)) | refine Ext.trans ?_ (by assumption))))) ) (fun hHeld => ?_); clear hK K; (try simp only [Act.put, List.setIfInBounds_toArray, List.set_cons_zero, List.set_cons_succ]))
   (refine wpAnyH_ready (rs := [2]) (by kernel_rfl) (by simp) ?_)
   refine AllReadyH.cons rfl (fun K hK => ?_) AllReadyH.nil
   go_simp
   (go_at_call 22; refine (HW.out _).mono ?_; rintro e w7 ⟨rfl, hx7⟩; have hs7 := hx7.size; (try simp at hs7))
   (try go_wp2_with fail)
   (refine hK.out _ _ (by  (first | go_keep | exact HK.out _ (xT (xD (xA xR)) hx7)) ) (fun hHeld => ?_); clear hK K; (try simp only [Act.put, List.setIfInBounds_toArray, List.set_cons_zero, List.set_cons_succ]))
   (refine wpAnyH_takeD (i := 3) (d := some 13) (v := ?_) rfl rfl (by kernel_rfl) (by kernel_rfl) (by kernel_rfl) (fun _ _ _ h => h) (Or.inl ⟨by rfl, ?_⟩) (by assumption) ?_; rotate_left; focus (intro w hSw; (try dsimp only at hSw); go_simp; (try with_reducible rfl); done); (try simp only [Act.put, List.setIfInBounds_toArray, List.set_cons_zero, List.set_cons_succ]))
   (refine wpAnyH_takeD (i := 4) (d := some 14) (v := undef) rfl rfl (by kernel_rfl) (by kernel_rfl) (by kernel_rfl) (fun _ _ _ h => h) (Or.inr ⟨by rfl, rfl⟩) (by assumption) ?_; (try simp only [Act.put, List.setIfInBounds_toArray, List.set_cons_zero, List.set_cons_succ]))
   (refine wpAnyH_takeD (i := 5) (d := some 15) (v := ?_) rfl rfl (by kernel_rfl) (by kernel_rfl) (by kernel_rfl) (fun _ _ _ h => h) (Or.inl ⟨by rfl, ?_⟩) (by assumption) ?_; rotate_left; focus (intro w hSw; (try dsimp only at hSw); go_simp; (try with_reducible rfl); done); (try simp only [Act.put, List.setIfInBounds_toArray, List.set_cons_zero, List.set_cons_succ]))
   (refine wpAnyH_ready (rs := [8]) (by kernel_rfl) (by simp) ?_)
   refine AllReadyH.cons rfl (fun K hK => ?_) AllReadyH.nil
   go_simp
   (go_at_call 21; refine (HC.out _ _ (xT (xD (xA (xA xR))) hx7) (bE hx7 (bD (bN (by first|omega|simp))))).mono ?_; rintro e w8 ⟨rfl, hx8⟩; have hs8 := hx8.size; (try simp at hs8); obtain ⟨y0, y1⟩ := HK.out w8 (xT (xT (xD (xA xR)) hx7) hx8))
   (try go_wp2_with fail)
   (refine hK.out _ _ (by  (first | go_keep | exact HK.out _ (by (with_reducible repeat (first | exact Ext.refl _ | assumption | (apply Src.ext; assumption) | refine Ext.alloc ?_ _ | refine Ext.drew ?_ | refine Ext.drewN ?_ _ | (refine Ext.setCell' ?_ ?_ _; solve | omega | simp | (simp; omega)) | refine Ext.trans ?_ (by assumption))))) ) (fun hHeld => ?_); clear hK K; (try simp only [Act.put, List.setIfInBounds_toArray, List.set_cons_zero, List.set_cons_succ]))
   (refine wpAnyH_takeD (i := 9) (d := some 9) (v := ?_) rfl rfl (by kernel_rfl) (by kernel_rfl) (by kernel_rfl) (fun _ _ _ h => h) (Or.inl ⟨by rfl, ?_⟩) (by assumption) ?_; rotate_left; focus (intro w hSw; (try dsimp only at hSw); go_simp; (try with_reducible rfl); done); (try simp only [Act.put, List.setIfInBounds_toArray, List.set_cons_zero, List.set_cons_succ]))
   refine wpAnyH_done (by kernel_rfl) ?_ _
   go_wp2
   go_ret
   exact ⟨rfl, xT (xT (xD (xA (xA xR))) hx7) hx8⟩
 | true =>
  have HC := hI (HC0.out ok)
  have hok : (smL x 1 16 && ok) = ok := by rw [hq, Bool.true_and]
  rw [hq] at HW
  by_cases hz : wyC (psD ps) L ok [y] = 0
  ·have hw := (wyC_zero hz).1
   have HP := hI (fun W (hW : Ext w W) => i_hasPlace (w := W) (c := c) (A' := A') (m := m) (c' := c') x (h.sq.ext hW) h.hn (by rw [h.hn]; exact h.hl) (asc_of (wdB_iff.1 hw).1))
   rw [hz] at HC
   cases hf : (fndP (psD ps) x).isSome with
   | false =>
    have e : plC (psD ps) L x ok y = 4 := plC_lacks (by rw [hok]; exact hz) hf
    rw [ssC_ne (by omega), e]
    rw [hf] at HP
    clear HC0 hq hz h hm hx hok hw hf e
    generalize tx x = sx at *
    go_enter Tryz.func30, Tryz.ntmps30
    go_wp2
    go_region_held3 (fun w' => w'.cell? ⟨w.heap.size, 0, none⟩ = some (.slice A n c) ∧ w'.cell? ⟨w.heap.size, 1, none⟩ = some (.slice A' m c')) (first | go_keep | exact HK.out _ (by with_reducible first|exact xT (xD xR) hx7|exact xT (xD (xA xR)) hx7)) (first | (go_at_call 22; refine (HW.out _).mono ?_; rintro e w7 ⟨rfl, hx7⟩; have hs7 := hx7.size; (try simp at hs7)) | (go_at_call 21; refine (HC.out _ _ (by with_reducible first|exact xT (xD (xA (xA xR))) hx7|exact xA (xT (xD (xA xR)) hx7)) (by with_reducible first|exact bN (by omega)|exact bE hx7 (bD (bN (by first|omega|simp))))).mono ?_; rintro e w8 ⟨rfl, hx8⟩; have hs8 := hx8.size; (try simp at hs8); obtain ⟨y0, y1⟩ := HK.out w8 (by with_reducible first|exact xT (xT (xD (xA xR)) hx7) hx8|exact xT (xA (xT (xD xR) hx7)) hx8)))
    all_goals
     go_wp2_with fail
     refine (HP.out _ (by with_reducible first|exact xT (xT (xD (xA (xA xR))) hx7) hx8|exact xT (xA (xT (xD (xA xR)) hx7)) hx8)).mono ?_
     rintro e w9 ⟨rfl, hx9⟩
     obtain ⟨u0, u1⟩ := HK.out w9 (by with_reducible first|exact xT (xT (xT (xD (xA xR)) hx7) hx8) hx9|exact xT (xT (xA (xT (xD xR) hx7)) hx8) hx9)
     go_wp2
     go_ret
     exact ⟨rfl, by with_reducible first|exact xT (xT (xA (xT (xD (xA xR)) hx7)) hx8) hx9|exact xT (xT (xT (xD (xA (xA xR))) hx7) hx8) hx9⟩
   | true =>
    have e : plC (psD ps) L x ok y = 0 := plC_has (by rw [hok]; exact hz) hf
    have HL := hI (fun W (hW : Ext w W) => i_placeP (w := W) x (h.ext hW) hw hf)
    rw [hf] at HP
    cases hex : exB ((fndP (psD ps) x).getD pdD) y with
    | false =>
     rw [ssC_no e hex]
     clear HC0 hq hz h hm hx hok hw hf e
     generalize (fndP (psD ps) x).getD pdD = d at *
     generalize tx x = sx at *
     go_enter Tryz.func30, Tryz.ntmps30
     go_wp2
     go_region_held3 (fun w' => w'.cell? ⟨w.heap.size, 0, none⟩ = some (.slice A n c) ∧ w'.cell? ⟨w.heap.size, 1, none⟩ = some (.slice A' m c')) (first | go_keep | exact HK.out _ (by with_reducible first|exact xT (xD xR) hx7|exact xT (xD (xA xR)) hx7)) (first | (go_at_call 22; refine (HW.out _).mono ?_; rintro e w7 ⟨rfl, hx7⟩; have hs7 := hx7.size; (try simp at hs7)) | (go_at_call 21; refine (HC.out _ _ (by with_reducible first|exact xT (xD (xA (xA xR))) hx7|exact xA (xT (xD (xA xR)) hx7)) (by with_reducible first|exact bN (by omega)|exact bE hx7 (bD (bN (by first|omega|simp))))).mono ?_; rintro e w8 ⟨rfl, hx8⟩; have hs8 := hx8.size; (try simp at hs8); obtain ⟨y0, y1⟩ := HK.out w8 (by with_reducible first|exact xT (xT (xD (xA xR)) hx7) hx8|exact xT (xA (xT (xD xR) hx7)) hx8)))
     all_goals
      go_wp2_with fail
      refine (HP.out _ (by with_reducible first|exact xT (xT (xD (xA (xA xR))) hx7) hx8|exact xT (xA (xT (xD (xA xR)) hx7)) hx8)).mono ?_
      rintro e w9 ⟨rfl, hx9⟩
      obtain ⟨u0, u1⟩ := HK.out w9 (by with_reducible first|exact xT (xT (xT (xD (xA xR)) hx7) hx8) hx9|exact xT (xT (xA (xT (xD xR) hx7)) hx8) hx9)
      go_wp2_with fail
      refine (HL.out _ (by with_reducible first|exact xT (xT (xA (xT (xD (xA xR)) hx7)) hx8) hx9|exact xT (xT (xT (xD (xA (xA xR))) hx7) hx8) hx9)).mono ?_
      rintro e w10 ⟨s0, s1, s2, s3, s4, s5, s6, HI, rfl, hx10⟩
      have hfd : ∀ W : World, (Instr.field 57 (.agg #[.string s0, .int .i64 s1, .int .i64 s2, .int .i64 s3, .slice s4 s5 s6]) 2).run Tryz.prog W = .ok (.agg #[.int .i64 s2, .int .i64 s3]) W := fun _ => by kernel_rfl
      have HS : Hid (∀ W, Calls Tryz.prog 56 #[.agg #[.int .i64 s2, .int .i64 s3], .int .i64 y] W fun e w' => e = .returned (.bool false) ∧ Ext W w') := hI (fun W => by
       have := i_has s2 s3 y W
       obtain ⟨rfl, rfl, _⟩ := HI.out.yrs
       rwa [show inB y d.2.2.1 d.2.2.2.1 = false from hex] at this)
      (go_wp2_with fail; refine (HS.out _).mono ?_; rintro e w11 ⟨rfl, hx11⟩; obtain ⟨hc11, hf11, hs11⟩ := hx11.all; (try simp at hs11))
      go_wp2
      go_ret
      exact ⟨rfl, by with_reducible first|exact xT (xT (xT (xT (xT (xD (xA (xA xR))) hx7) hx8) hx9) hx10) hx11|exact xT (xT (xT (xT (xA (xT (xD (xA xR)) hx7)) hx8) hx9) hx10) hx11⟩
    | true =>
     rw [ssC_yes e hex]
     clear HC0 hq hz h hm hx hok hw hf e
     generalize (fndP (psD ps) x).getD pdD = d at *
     generalize tx x = sx at *
     go_enter Tryz.func30, Tryz.ntmps30
     go_wp2
     go_region_held3 (fun w' => w'.cell? ⟨w.heap.size, 0, none⟩ = some (.slice A n c) ∧ w'.cell? ⟨w.heap.size, 1, none⟩ = some (.slice A' m c')) (first | go_keep | exact HK.out _ (by with_reducible first|exact xT (xD xR) hx7|exact xT (xD (xA xR)) hx7)) (first | (go_at_call 22; refine (HW.out _).mono ?_; rintro e w7 ⟨rfl, hx7⟩; have hs7 := hx7.size; (try simp at hs7)) | (go_at_call 21; refine (HC.out _ _ (by with_reducible first|exact xT (xD (xA (xA xR))) hx7|exact xA (xT (xD (xA xR)) hx7)) (by with_reducible first|exact bN (by omega)|exact bE hx7 (bD (bN (by first|omega|simp))))).mono ?_; rintro e w8 ⟨rfl, hx8⟩; have hs8 := hx8.size; (try simp at hs8); obtain ⟨y0, y1⟩ := HK.out w8 (by with_reducible first|exact xT (xT (xD (xA xR)) hx7) hx8|exact xT (xA (xT (xD xR) hx7)) hx8)))
     all_goals
      go_wp2_with fail
      refine (HP.out _ (by with_reducible first|exact xT (xT (xD (xA (xA xR))) hx7) hx8|exact xT (xA (xT (xD (xA xR)) hx7)) hx8)).mono ?_
      rintro e w9 ⟨rfl, hx9⟩
      obtain ⟨u0, u1⟩ := HK.out w9 (by with_reducible first|exact xT (xT (xT (xD (xA xR)) hx7) hx8) hx9|exact xT (xT (xA (xT (xD xR) hx7)) hx8) hx9)
      go_wp2_with fail
      refine (HL.out _ (by with_reducible first|exact xT (xT (xA (xT (xD (xA xR)) hx7)) hx8) hx9|exact xT (xT (xT (xD (xA (xA xR))) hx7) hx8) hx9)).mono ?_
      rintro e w10 ⟨s0, s1, s2, s3, s4, s5, s6, HI, rfl, hx10⟩
      have hfd : ∀ W : World, (Instr.field 57 (.agg #[.string s0, .int .i64 s1, .int .i64 s2, .int .i64 s3, .slice s4 s5 s6]) 2).run Tryz.prog W = .ok (.agg #[.int .i64 s2, .int .i64 s3]) W := fun _ => by kernel_rfl
      have HS : Hid (∀ W, Calls Tryz.prog 56 #[.agg #[.int .i64 s2, .int .i64 s3], .int .i64 y] W fun e w' => e = .returned (.bool true) ∧ Ext W w') := hI (fun W => by
       have := i_has s2 s3 y W
       obtain ⟨rfl, rfl, _⟩ := HI.out.yrs
       rwa [show inB y d.2.2.1 d.2.2.2.1 = true from hex] at this)
      (go_wp2_with fail; refine (HS.out _).mono ?_; rintro e w11 ⟨rfl, hx11⟩; obtain ⟨hc11, hf11, hs11⟩ := hx11.all; (try simp at hs11))
      go_wp2
      go_ret
      exact ⟨rfl, by with_reducible first|exact xT (xT (xT (xT (xT (xD (xA (xA xR))) hx7) hx8) hx9) hx10) hx11|exact xT (xT (xT (xT (xA (xT (xD (xA xR)) hx7)) hx8) hx9) hx10) hx11⟩
  ·have e : plC (psD ps) L x ok y = wyC (psD ps) L ok [y] := by rw [plC_ne (by rw [hok]; exact hz), hok]
   rw [ssC_ne (by rw [e]; exact hz), e]
   generalize wyC (psD ps) L ok [y] = cd at *
   have hcd : (cd != 0) = true := by simpa using hz
   clear HC0 hq h hm hx hok e
   generalize tx x = sx at *
   go_enter Tryz.func30, Tryz.ntmps30
   go_wp2
   go_region_held3 (fun w' => w'.cell? ⟨w.heap.size, 0, none⟩ = some (.slice A n c) ∧ w'.cell? ⟨w.heap.size, 1, none⟩ = some (.slice A' m c')) (first | go_keep | exact HK.out _ (by with_reducible first|exact xT (xD xR) hx7|exact xT (xD (xA xR)) hx7)) (first | (go_at_call 22; refine (HW.out _).mono ?_; rintro e w7 ⟨rfl, hx7⟩; have hs7 := hx7.size; (try simp at hs7)) | (go_at_call 21; refine (HC.out _ _ (by with_reducible first|exact xT (xD (xA (xA xR))) hx7|exact xA (xT (xD (xA xR)) hx7)) (by with_reducible first|exact bN (by omega)|exact bE hx7 (bD (bN (by first|omega|simp))))).mono ?_; rintro e w8 ⟨rfl, hx8⟩; have hs8 := hx8.size; (try simp at hs8); obtain ⟨y0, y1⟩ := HK.out w8 (by with_reducible first|exact xT (xT (xD (xA xR)) hx7) hx8|exact xT (xA (xT (xD xR) hx7)) hx8)))
   all_goals
    go_wp2
    go_ret
    exact ⟨rfl, by with_reducible first|exact xT (xT (xD (xA (xA xR))) hx7) hx8|exact xT (xA (xT (xD (xA xR)) hx7)) hx8⟩
end
set_option maxRecDepth 20000 in
set_option maxHeartbeats 12800000 in
theorem s_l14Same (A A' : Option Addr) (n c m c' : Nat) (L : List Lk) (p : Pl) (a b : Int) (w : World) (h : SlAt w 4 encK A' L) (hn : m = L.length) (hl : m ≤ 1048576) (hp : PlAt w p) (h12 : p.2.2.2.2.2.2.length ≤ 1000) :
  Calls Tryz.prog 32 #[.agg #[.slice A n c, .slice A' m c'], .agg #[.string (tx p.1), .int .i64 p.2.1, .int .i64 p.2.2.1, .int .i64 p.2.2.2.1, .slice p.2.2.2.2.1 p.2.2.2.2.2.2.length p.2.2.2.2.2.1], .int .i64 a, .int .i64 b] w fun e w' => e = .returned (.bool (stB (pdOf p) L a b)) ∧ Ext w w' := by
 have HUV : Hid (∀ z us, ((z = a ∧ us = usL p.2.2.2.2.2.2 a) ∨ (z = b ∧ us = usL p.2.2.2.2.2.2 b)) → ∀ W, Ext w W → Calls Tryz.prog 63 #[.slice p.2.2.2.2.1 p.2.2.2.2.2.2.length p.2.2.2.2.2.1, .int .i64 z] W fun e w' => ∃ v, e = .returned v ∧ OwI w' W.heap.size v us ∧ Ext W w') := hI (fun z us hz W hW => by
  rcases hz with ⟨rfl, rfl⟩ | ⟨rfl, rfl⟩
  ·exact s_l09Used _ _ _ _ _ W (hp.1.ext hW) rfl h12
  ·exact s_l09Used _ _ _ _ _ W (hp.1.ext hW) rfl h12)
 have hlu : ∀ z, (usL p.2.2.2.2.2.2 z).length ≤ 1048576 := fun z => Nat.le_trans (usTo_len _ _ _) (by omega)
 have HE : Hid (∀ W v v' b1 b2, OwI W b1 v (usL p.2.2.2.2.2.2 a) → OwI W b2 v' (usL p.2.2.2.2.2.2 b) → Calls Tryz.prog 62 #[v, v'] W fun e w' => e = .returned (.bool (usL p.2.2.2.2.2.2 a == usL p.2.2.2.2.2.2 b)) ∧ Ext W w') := hI (fun W v v' b1 b2 hO hO' => by
  obtain ⟨A1, c1, rfl, hS1, _⟩ := hO.sl len_encI
  obtain ⟨A2, c2, rfl, hS2, _⟩ := hO'.sl len_encI
  exact s_l01Same _ _ _ _ _ _ _ _ _ hS1 hS2 rfl rfl (hlu _) (hlu _))
 obtain ⟨py, hpy⟩ : ∃ py, parT L p.1 a = py := ⟨_, rfl⟩
 obtain ⟨pz, hpz⟩ : ∃ pz, parT L p.1 b = pz := ⟨_, rfl⟩
 have HP2 : Hid (∀ z (s : ByteArray), (z = a ∧ s = tx py) ∨ (z = b ∧ s = tx pz) → ∀ W, Ext w W → Calls Tryz.prog 64 #[.slice A' m c', .string (tx p.1), .int .i64 z] W fun e w' => e = .returned (.string s) ∧ Ext W w') := hI (fun z s hz W hW => by
  rcases hz with ⟨rfl, rfl⟩ | ⟨rfl, rfl⟩
  ·rw [← hpy]; exact s_l12Parent A' m c' L p.1 _ W (h.ext hW) hn hl
  ·rw [← hpz]; exact s_l12Parent A' m c' L p.1 _ W (h.ext hW) hn hl)
 have HST : Hid (stB (pdOf p) L a b = ((usL p.2.2.2.2.2.2 a == usL p.2.2.2.2.2.2 b) && ((tx py).toList == (tx pz).toList))) := hI (by
  rw [tx_toL, tx_toL, ← hpy, ← hpz]; rfl)
 clear h hn hp hlu hpy hpz h12
 rw [HST.out]
 clear HST
 generalize usL p.2.2.2.2.2.2 a = uy at *
 generalize usL p.2.2.2.2.2.2 b = uz at *
 generalize tx py = sy at *
 generalize tx pz = sz at *
 generalize tx p.1 = s0 at *
 generalize p.2.1 = s1 at *
 generalize p.2.2.1 = s2 at *
 generalize p.2.2.2.1 = s3 at *
 generalize p.2.2.2.2.1 = s4 at *
 generalize p.2.2.2.2.2.1 = s6 at *
 generalize p.2.2.2.2.2.2.length = s5 at *
 generalize (uy == uz) = q1 at *
 have HK : Hid (∀ W, Ext ((w.alloc (.cells #[.slice A n c, .slice A' m c'] 27)).alloc (.cells #[.string s0, .int .i64 s1, .int .i64 s2, .int .i64 s3, .slice s4 s5 s6] 57)) W → W.cell? ⟨w.heap.size, 0, none⟩ = some (.slice A n c) ∧ W.cell? ⟨w.heap.size, 1, none⟩ = some (.slice A' m c') ∧ W.cell? ⟨w.heap.size + 1, 0, none⟩ = some (.string s0) ∧ W.cell? ⟨w.heap.size + 1, 1, none⟩ = some (.int .i64 s1) ∧ W.cell? ⟨w.heap.size + 1, 2, none⟩ = some (.int .i64 s2) ∧ W.cell? ⟨w.heap.size + 1, 3, none⟩ = some (.int .i64 s3) ∧ W.cell? ⟨w.heap.size + 1, 4, none⟩ = some (.slice s4 s5 s6)) := hI (fun W hW => by
  have B3 := ((Blk.new (cs := #[.slice A n c, .slice A' m c']) (t := 27) (w := w) rfl).alloc (.cells #[.string s0, .int .i64 s1, .int .i64 s2, .int .i64 s3, .slice s4 s5 s6] 57)).ext hW
  have B4 := (Blk.new (cs := #[.string s0, .int .i64 s1, .int .i64 s2, .int .i64 s3, .slice s4 s5 s6]) (t := 57) (w := w.alloc (.cells #[.slice A n c, .slice A' m c'] 27)) rfl).ext hW
  simp only [World.size_alloc] at B4
  exact ⟨B3.cell 0, B3.cell 1, B4.cell 0, B4.cell 1, B4.cell 2, B4.cell 3, B4.cell 4⟩)
 obtain ⟨g1, g2, g3, g4, g5, g6, g7⟩ := HK.out _ (Ext.refl _)
 cases q1 with
 | false =>
   rw [Bool.false_and]
   go_enter Tryz.func32, Tryz.ntmps32
   go_wp2
   refine wp_region_held_drew (S := (fun w' => w'.cell? ⟨w.heap.size, 0, none⟩ = some (.slice A n c) ∧ w'.cell? ⟨w.heap.size, 1, none⟩ = some (.slice A' m c') ∧ w'.cell? ⟨w.heap.size + 1, 0, none⟩ = some (.string s0) ∧ w'.cell? ⟨w.heap.size + 1, 1, none⟩ = some (.int .i64 s1) ∧ w'.cell? ⟨w.heap.size + 1, 2, none⟩ = some (.int .i64 s2) ∧ w'.cell? ⟨w.heap.size + 1, 3, none⟩ = some (.int .i64 s3) ∧ w'.cell? ⟨w.heap.size + 1, 4, none⟩ = some (.slice s4 s5 s6))) (by kernel_rfl) (by (first | go_keep | exact HK.out _ (by (with_reducible repeat (first | exact Ext.refl _ | assumption | (apply Src.ext; assumption) | refine Ext.alloc ?_ _ | refine Ext.drew ?_ | refine Ext.drewN ?_ _ | (refine Ext.setCell' ?_ ?_ _; solve | omega | simp | (simp; omega)) | refine Ext.trans ?_ (by assumption)))))) (fun hHeld => ?_)
   (refine wpAnyH_takeD (i := 0) (d := some 9) (v := ?_) rfl rfl (by kernel_rfl) (by kernel_rfl) (by kernel_rfl) (fun _ _ _ h => h) (Or.inl ⟨by rfl, ?_⟩) (by assumption) ?_; rotate_left; focus (intro w hSw; (try dsimp only at hSw); go_simp; (try with_reducible rfl); done); (try simp only [Act.put, List.setIfInBounds_toArray, List.set_cons_zero, List.set_cons_succ]))
   (refine wpAnyH_takeD (i := 1) (d := some 10) (v := ?_) rfl rfl (by kernel_rfl) (by kernel_rfl) (by kernel_rfl) (fun _ _ _ h => h) (Or.inl ⟨by rfl, ?_⟩) (by assumption) ?_; rotate_left; focus (intro w hSw; (try dsimp only at hSw); go_simp; (try with_reducible rfl); done); (try simp only [Act.put, List.setIfInBounds_toArray, List.set_cons_zero, List.set_cons_succ]))
   (refine wpAnyH_takeD (i := 2) (d := some 11) (v := ?_) rfl rfl (by kernel_rfl) (by kernel_rfl) (by kernel_rfl) (fun _ _ _ h => h) (Or.inl ⟨by rfl, ?_⟩) (by assumption) ?_; rotate_left; focus (intro w hSw; (try dsimp only at hSw); go_simp; (try with_reducible rfl); done); (try simp only [Act.put, List.setIfInBounds_toArray, List.set_cons_zero, List.set_cons_succ]))
   (refine wpAnyH_takeD (i := 4) (d := some 13) (v := ?_) rfl rfl (by kernel_rfl) (by kernel_rfl) (by kernel_rfl) (fun _ _ _ h => h) (Or.inl ⟨by rfl, ?_⟩) (by assumption) ?_; rotate_left; focus (intro w hSw; (try dsimp only at hSw); go_simp; (try with_reducible rfl); done); (try simp only [Act.put, List.setIfInBounds_toArray, List.set_cons_zero, List.set_cons_succ]))
   (refine wpAnyH_takeD (i := 5) (d := some 14) (v := ?_) rfl rfl (by kernel_rfl) (by kernel_rfl) (by kernel_rfl) (fun _ _ _ h => h) (Or.inl ⟨by rfl, ?_⟩) (by assumption) ?_; rotate_left; focus (intro w hSw; (try dsimp only at hSw); go_simp; (try with_reducible rfl); done); (try simp only [Act.put, List.setIfInBounds_toArray, List.set_cons_zero, List.set_cons_succ]))
   (refine wpAnyH_takeD (i := 6) (d := some 15) (v := ?_) rfl rfl (by kernel_rfl) (by kernel_rfl) (by kernel_rfl) (fun _ _ _ h => h) (Or.inl ⟨by rfl, ?_⟩) (by assumption) ?_; rotate_left; focus (intro w hSw; (try dsimp only at hSw); go_simp; (try with_reducible rfl); done); (try simp only [Act.put, List.setIfInBounds_toArray, List.set_cons_zero, List.set_cons_succ]))
   (refine wpAnyH_ready (rs := [3]) (by kernel_rfl) (by simp) ?_)
   refine AllReadyH.cons rfl (fun K hK => ?_) AllReadyH.nil
   go_simp
   (go_at_call 63; refine (HUV.out _ _ (by first | exact .inl ⟨rfl, rfl⟩ | exact .inr ⟨rfl, rfl⟩) _ (xD (xA (xA xR)))).mono ?_; rintro e w7 ⟨v7, rfl, hO7, hx7⟩; have hs7 := hx7.size; have HO7 := hI hO7; clear hO7)
   (try go_wp2_with fail)
   (refine hK.out _ _ (by  (first | go_keep | exact HK.out _ (xT (xD xR) hx7)) ) (fun hHeld => ?_); clear hK K; (try simp only [Act.put, List.setIfInBounds_toArray, List.set_cons_zero, List.set_cons_succ]))
   (refine wpAnyH_ready (rs := [7]) (by kernel_rfl) (by simp) ?_)
   refine AllReadyH.cons rfl (fun K hK => ?_) AllReadyH.nil
   go_simp
   (go_at_call 63; refine (HUV.out _ _ (by first | exact .inl ⟨rfl, rfl⟩ | exact .inr ⟨rfl, rfl⟩) _ (xT (xD (xA (xA xR))) hx7)).mono ?_; rintro e w7 ⟨v7, rfl, hO7, hx7⟩; have hs7 := hx7.size; have HO7 := hI hO7; clear hO7)
   (try go_wp2_with fail)
   (refine hK.out _ _ (by  (first | go_keep | exact HK.out _ (xT (xT (xD xR) (by assumption)) hx7)) ) (fun hHeld => ?_); clear hK K; (try simp only [Act.put, List.setIfInBounds_toArray, List.set_cons_zero, List.set_cons_succ]))
   (refine wpAnyH_ready (rs := [8]) (by kernel_rfl) (by simp) ?_)
   refine AllReadyH.cons rfl (fun K hK => ?_) AllReadyH.nil
   go_simp
   (go_at_call 62; refine (HE.out _ _ _ _ _ (Own.ext (Hid.out (by assumption)) hx7) (Own.ext (Hid.out (by assumption)) xR)).mono ?_; rintro e w8 ⟨rfl, hx8⟩; have hs8 := hx8.size)
   (try go_wp2_with fail)
   (refine hK.out _ _ (by  (first | go_keep | exact HK.out _ (xT (xT (xT (xD xR) (by assumption)) hx7) hx8)) ) (fun hHeld => ?_); clear hK K; (try simp only [Act.put, List.setIfInBounds_toArray, List.set_cons_zero, List.set_cons_succ]))
   (refine wpAnyH_takeD (i := 9) (d := some 18) (v := ?_) rfl rfl (by kernel_rfl) (by kernel_rfl) (by kernel_rfl) (fun _ _ _ h => h) (Or.inl ⟨by rfl, ?_⟩) (by assumption) ?_; rotate_left; focus (intro w hSw; (try dsimp only at hSw); go_simp; (try with_reducible rfl); done); (try simp only [Act.put, List.setIfInBounds_toArray, List.set_cons_zero, List.set_cons_succ]))
   (refine wpAnyH_takeD (i := 10) (d := some 19) (v := undef) rfl rfl (by kernel_rfl) (by kernel_rfl) (by kernel_rfl) (fun _ _ _ h => h) (Or.inr ⟨by rfl, rfl⟩) (by assumption) ?_; (try simp only [Act.put, List.setIfInBounds_toArray, List.set_cons_zero, List.set_cons_succ]))
   (refine wpAnyH_takeD (i := 11) (d := some 20) (v := undef) rfl rfl (by kernel_rfl) (by kernel_rfl) (by kernel_rfl) (fun _ _ _ h => h) (Or.inr ⟨by rfl, rfl⟩) (by assumption) ?_; (try simp only [Act.put, List.setIfInBounds_toArray, List.set_cons_zero, List.set_cons_succ]))
   (refine wpAnyH_takeD (i := 12) (d := some 21) (v := undef) rfl rfl (by kernel_rfl) (by kernel_rfl) (by kernel_rfl) (fun _ _ _ h => h) (Or.inr ⟨by rfl, rfl⟩) (by assumption) ?_; (try simp only [Act.put, List.setIfInBounds_toArray, List.set_cons_zero, List.set_cons_succ]))
   (refine wpAnyH_takeD (i := 13) (d := some 22) (v := undef) rfl rfl (by kernel_rfl) (by kernel_rfl) (by kernel_rfl) (fun _ _ _ h => h) (Or.inr ⟨by rfl, rfl⟩) (by assumption) ?_; (try simp only [Act.put, List.setIfInBounds_toArray, List.set_cons_zero, List.set_cons_succ]))
   (refine wpAnyH_takeD (i := 14) (d := some 23) (v := undef) rfl rfl (by kernel_rfl) (by kernel_rfl) (by kernel_rfl) (fun _ _ _ h => h) (Or.inr ⟨by rfl, rfl⟩) (by assumption) ?_; (try simp only [Act.put, List.setIfInBounds_toArray, List.set_cons_zero, List.set_cons_succ]))
   (refine wpAnyH_takeD (i := 15) (d := some 24) (v := undef) rfl rfl (by kernel_rfl) (by kernel_rfl) (by kernel_rfl) (fun _ _ _ h => h) (Or.inr ⟨by rfl, rfl⟩) (by assumption) ?_; (try simp only [Act.put, List.setIfInBounds_toArray, List.set_cons_zero, List.set_cons_succ]))
   (refine wpAnyH_takeD (i := 16) (d := some 25) (v := undef) rfl rfl (by kernel_rfl) (by kernel_rfl) (by kernel_rfl) (fun _ _ _ h => h) (Or.inr ⟨by rfl, rfl⟩) (by assumption) ?_; (try simp only [Act.put, List.setIfInBounds_toArray, List.set_cons_zero, List.set_cons_succ]))
   (refine wpAnyH_takeD (i := 17) (d := some 26) (v := undef) rfl rfl (by kernel_rfl) (by kernel_rfl) (by kernel_rfl) (fun _ _ _ h => h) (Or.inr ⟨by rfl, rfl⟩) (by assumption) ?_; (try simp only [Act.put, List.setIfInBounds_toArray, List.set_cons_zero, List.set_cons_succ]))
   (refine wpAnyH_takeD (i := 18) (d := some 27) (v := undef) rfl rfl (by kernel_rfl) (by kernel_rfl) (by kernel_rfl) (fun _ _ _ h => h) (Or.inr ⟨by rfl, rfl⟩) (by assumption) ?_; (try simp only [Act.put, List.setIfInBounds_toArray, List.set_cons_zero, List.set_cons_succ]))
   (refine wpAnyH_takeD (i := 19) (d := some 28) (v := undef) rfl rfl (by kernel_rfl) (by kernel_rfl) (by kernel_rfl) (fun _ _ _ h => h) (Or.inr ⟨by rfl, rfl⟩) (by assumption) ?_; (try simp only [Act.put, List.setIfInBounds_toArray, List.set_cons_zero, List.set_cons_succ]))
   (refine wpAnyH_takeD (i := 20) (d := some 29) (v := undef) rfl rfl (by kernel_rfl) (by kernel_rfl) (by kernel_rfl) (fun _ _ _ h => h) (Or.inr ⟨by rfl, rfl⟩) (by assumption) ?_; (try simp only [Act.put, List.setIfInBounds_toArray, List.set_cons_zero, List.set_cons_succ]))
   (refine wpAnyH_takeD (i := 21) (d := some 30) (v := undef) rfl rfl (by kernel_rfl) (by kernel_rfl) (by kernel_rfl) (fun _ _ _ h => h) (Or.inr ⟨by rfl, rfl⟩) (by assumption) ?_; (try simp only [Act.put, List.setIfInBounds_toArray, List.set_cons_zero, List.set_cons_succ]))
   (refine wpAnyH_takeD (i := 22) (d := some 31) (v := undef) rfl rfl (by kernel_rfl) (by kernel_rfl) (by kernel_rfl) (fun _ _ _ h => h) (Or.inr ⟨by rfl, rfl⟩) (by assumption) ?_; (try simp only [Act.put, List.setIfInBounds_toArray, List.set_cons_zero, List.set_cons_succ]))
   (refine wpAnyH_takeD (i := 23) (d := some 32) (v := ?_) rfl rfl (by kernel_rfl) (by kernel_rfl) (by kernel_rfl) (fun _ _ _ h => h) (Or.inl ⟨by rfl, ?_⟩) (by assumption) ?_; rotate_left; focus (intro w hSw; (try dsimp only at hSw); go_simp; (try with_reducible rfl); done); (try simp only [Act.put, List.setIfInBounds_toArray, List.set_cons_zero, List.set_cons_succ]))
   (refine wpAnyH_takeD (i := 24) (d := some 8) (v := ?_) rfl rfl (by kernel_rfl) (by kernel_rfl) (by kernel_rfl) (fun _ _ _ h => h) (Or.inl ⟨by rfl, ?_⟩) (by assumption) ?_; rotate_left; focus (intro w hSw; (try dsimp only at hSw); go_simp; (try with_reducible rfl); done); (try simp only [Act.put, List.setIfInBounds_toArray, List.set_cons_zero, List.set_cons_succ]))
   refine wpAnyH_done (by kernel_rfl) ?_ _
   go_wp2
   go_ret
   exact ⟨rfl, xT (xT (xT (xD (xA (xA xR))) (by assumption)) hx7) hx8⟩
 | true =>
   rw [Bool.true_and]
   go_enter Tryz.func32, Tryz.ntmps32
   go_wp2
   go_region_held3 (fun w' => w'.cell? ⟨w.heap.size, 0, none⟩ = some (.slice A n c) ∧ w'.cell? ⟨w.heap.size, 1, none⟩ = some (.slice A' m c') ∧ w'.cell? ⟨w.heap.size + 1, 0, none⟩ = some (.string s0) ∧ w'.cell? ⟨w.heap.size + 1, 1, none⟩ = some (.int .i64 s1) ∧ w'.cell? ⟨w.heap.size + 1, 2, none⟩ = some (.int .i64 s2) ∧ w'.cell? ⟨w.heap.size + 1, 3, none⟩ = some (.int .i64 s3) ∧ w'.cell? ⟨w.heap.size + 1, 4, none⟩ = some (.slice s4 s5 s6)) (first | go_keep | exact HK.out _ (by with_reducible first|exact xT (xD xR) hx7|exact xT (xT (xD xR) (by assumption)) hx7|exact xT (xT (xT (xD xR) (by assumption)) hx7) hx8|exact xT (xT (xT (xT (xD xR) (by assumption)) hx7) hx8) hx9|exact xT (xT (xT (xT (xT (xD xR) (by assumption)) hx7) hx8) (by assumption)) hx9)) (first | (go_at_call 63; refine (HUV.out _ _ (by first | exact .inl ⟨rfl, rfl⟩ | exact .inr ⟨rfl, rfl⟩) _ (by with_reducible first|exact xD (xA (xA xR))|exact xT (xD (xA (xA xR))) hx7)).mono ?_; rintro e w7 ⟨v7, rfl, hO7, hx7⟩; have hs7 := hx7.size; have HO7 := hI hO7; clear hO7) | (go_at_call 62; refine (HE.out _ _ _ _ _ (Own.ext (Hid.out (by assumption)) hx7) (Own.ext (Hid.out (by assumption)) xR)).mono ?_; rintro e w8 ⟨rfl, hx8⟩; have hs8 := hx8.size) | (go_at_call 64; refine (HP2.out _ _ (by first | exact .inl ⟨rfl, rfl⟩ | exact .inr ⟨rfl, rfl⟩) _ (by with_reducible first|exact xT (xT (xT (xD (xA (xA xR))) (by assumption)) hx7) hx8|exact xT (xT (xT (xT (xD (xA (xA xR))) (by assumption)) hx7) hx8) hx9)).mono ?_; rintro e w9 ⟨rfl, hx9⟩; have hs9 := hx9.size))
   all_goals
    go_wp2
    go_ret
    exact ⟨rfl, xT (xT (xT (xT (xT (xD (xA (xA xR))) (by assumption)) hx7) hx8) (by assumption)) hx9⟩
section
variable {w : World} {A A' : Option Addr} {n c m c' : Nat} {ps : List Pl} {L : List Lk}
theorem IsP.same {d : Pd} {v : Value} (hP : IsP w d v) (h : SlAt w 4 encK A' L) (hn : m = L.length) (hl : m ≤ 1048576) (a b : Int) :
  Calls Tryz.prog 32 #[.agg #[.slice A n c, .slice A' m c'], v, .int .i64 a, .int .i64 b] w fun e w' => e = .returned (.bool (stB d L a b)) ∧ Ext w w' := by
 obtain ⟨p, g1, rfl, g3, rfl⟩ := hP
 obtain ⟨_, _, q3, q4, _⟩ := plB_iff.1 g3
 have h12 : p.2.2.2.2.2.2.length ≤ 12 := (nsB_iff.1 q4).2
 exact s_l14Same A A' n c m c' L p a b w h hn hl g1 (by omega)
set_option maxRecDepth 20000 in
set_option maxHeartbeats 6400000 in
theorem IsP.turn {d : Pd} {s0 : ByteArray} {s1 s2 s3 : Int} {s4 : Option Addr} {s5 s6 : Nat} (hP : IsP w d (.agg #[.string s0, .int .i64 s1, .int .i64 s2, .int .i64 s3, .slice s4 s5 s6])) (h : SlAt w 4 encK A' L) (hn : m = L.length) (hl : m ≤ 1048576) (y : Int) (h1 : -3001 ≤ y) (h2 : y ≤ 3001) :
  Calls Tryz.prog 28 #[.agg #[.slice A n c, .slice A' m c'], .agg #[.string s0, .int .i64 s1, .int .i64 s2, .int .i64 s3, .slice s4 s5 s6], .int .i64 y] w fun e w' => e = .returned (.bool (!sdB d L y)) ∧ Ext w w' := by
 have hwr : IntKind.i64.wrap (y - 1) = y - 1 := IntWalk.i64_in _ (by omega)
 have HX := hI (fun z W => hP.ex z W)
 have HSM := hI (fun W (hW : Ext w W) => (hP.ext hW).same (A := A) (n := n) (c := c) (c' := c') (h.ext hW) hn hl (y - 1) y)
 obtain ⟨e1, he1⟩ : ∃ e1, exB d y = e1 := ⟨_, rfl⟩
 obtain ⟨e2, he2⟩ : ∃ e2, exB d (y - 1) = e2 := ⟨_, rfl⟩
 have HH : Hid (∀ z q, (z = y ∧ q = e1) ∨ (z = y - 1 ∧ q = e2) → ∀ W, Calls Tryz.prog 31 #[.agg #[.string s0, .int .i64 s1, .int .i64 s2, .int .i64 s3, .slice s4 s5 s6], .int .i64 z] W fun e w' => e = .returned (.bool q) ∧ Ext W w') := hI (fun z q hz W => by
  rcases hz with ⟨rfl, rfl⟩ | ⟨rfl, rfl⟩
  ·rw [← he1]; exact HX.out _ W
  ·rw [← he2]; exact HX.out _ W)
 have hst : e1 = true → e2 = true → sdB d L y = stB d L (y - 1) y := fun h1 h2 => by rw [sdB_both (he1.trans h1) (he2.trans h2), stB_symm]
 have hsn : (e1 && e2) = false → sdB d L y = (e1 == e2) := fun h1 => by rw [sdB_not (by rw [he1, he2]; exact h1), he1, he2]
 generalize sdB d L y = res at *
 generalize stB d L (y - 1) y = qs at *
 clear HX he1 he2 hP h hn hl
 have HK : Hid (∀ W, Ext ((w.alloc (.cells #[.slice A n c, .slice A' m c'] 27)).alloc (.cells #[.string s0, .int .i64 s1, .int .i64 s2, .int .i64 s3, .slice s4 s5 s6] 57)) W → W.cell? ⟨w.heap.size, 0, none⟩ = some (.slice A n c) ∧ W.cell? ⟨w.heap.size, 1, none⟩ = some (.slice A' m c') ∧ W.cell? ⟨w.heap.size + 1, 0, none⟩ = some (.string s0) ∧ W.cell? ⟨w.heap.size + 1, 1, none⟩ = some (.int .i64 s1) ∧ W.cell? ⟨w.heap.size + 1, 2, none⟩ = some (.int .i64 s2) ∧ W.cell? ⟨w.heap.size + 1, 3, none⟩ = some (.int .i64 s3) ∧ W.cell? ⟨w.heap.size + 1, 4, none⟩ = some (.slice s4 s5 s6)) := hI (fun W hW => by
  have B3 := ((Blk.new (cs := #[.slice A n c, .slice A' m c']) (t := 27) (w := w) rfl).alloc (.cells #[.string s0, .int .i64 s1, .int .i64 s2, .int .i64 s3, .slice s4 s5 s6] 57)).ext hW
  have B4 := (Blk.new (cs := #[.string s0, .int .i64 s1, .int .i64 s2, .int .i64 s3, .slice s4 s5 s6]) (t := 57) (w := w.alloc (.cells #[.slice A n c, .slice A' m c'] 27)) rfl).ext hW
  simp only [World.size_alloc] at B4
  exact ⟨B3.cell 0, B3.cell 1, B4.cell 0, B4.cell 1, B4.cell 2, B4.cell 3, B4.cell 4⟩)
 obtain ⟨g1, g2, g3, g4, g5, g6, g7⟩ := HK.out _ (Ext.refl _)
 cases e1 <;> cases e2
 case true.true =>
  rw [hst rfl rfl]
  clear hst hsn
  go_enter Tryz.func28, Tryz.ntmps28
  go_wp2
  (refine wp_region_ext (by kernel_rfl) (by kernel_rfl) ?_; (repeat (go_big_quiet_step ((go_at_call 31; exact Calls_ext (HH.out _ _ (by first | exact .inl ⟨rfl, rfl⟩ | exact .inr ⟨rfl, rfl⟩) _))))); refine wpQuiet_nil ?_; intro wq hxwq; obtain ⟨hcwq, hfwq, hswq⟩ := hxwq.all; (try simp at hswq))
  obtain ⟨k1, k2, k3, k4, k5, k6, k7⟩ := HK.out wq hxwq
  go_wp2_with fail
  refine (HSM.out _ (xT (xA (xA xR)) hxwq)).mono ?_
  rintro e w6 ⟨rfl, hx6⟩
  go_wp2
  go_ret
  exact ⟨rfl, xT (xT (xA (xA xR)) hxwq) hx6⟩
 all_goals
  rw [hsn rfl]
  clear hst hsn
  go_enter Tryz.func28, Tryz.ntmps28
  go_wp2
  (refine wp_region_ext (by kernel_rfl) (by kernel_rfl) ?_; (repeat (go_big_quiet_step ((go_at_call 31; exact Calls_ext (HH.out _ _ (by first | exact .inl ⟨rfl, rfl⟩ | exact .inr ⟨rfl, rfl⟩) _))))); refine wpQuiet_nil ?_; intro wq hxwq; obtain ⟨hcwq, hfwq, hswq⟩ := hxwq.all; (try simp at hswq))
  go_wp2
  go_ret
  exact ⟨rfl, xT (xA (xA xR)) hxwq⟩
end
end Go.Proofs.YtlnliajnipniaaaGreatDoor
