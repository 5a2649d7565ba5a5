/- Plain laws of spans in which nothing changes, and of the best names: no program in sight. Codes of places, and places found, as the program sees them. -/
import Derived.Test.YtbnkiibjhfcffaaGreatDoorYG
import Derived.Test.YtbnkiibjhfcffaaGreatDoorYJ
import Derived.Deep.RegionHeld3
import Derived.Deep.DeepCutAuto
import Derived.RegionTactic
import Derived.BigRegion
import Derived.WalkLawsBesides
import Derived.WalkSpells
import Derived.Lib.MinMax
import Derived.Outline
namespace Go.Proofs.YtbnkiibjhfcffaaGreatDoor
open Go.RowKit

section
variable {d : Pd} {L : List Lk} {y a : Int}
theorem exB_iff {z : Int} : exB d z = true ↔ d.2.2.1 ≤ z ∧ z ≤ d.2.2.2.1 := inB_iff
theorem sbP_self (h : exB d y = true) : sbP d L y y = true := by unfold sbP; rw [h, stB_refl]; rfl
theorem sbP_iff {z : Int} : sbP d L y z = true ↔ exB d z = true ∧ stB d L z y = true := by unfold sbP; rw [Bool.and_eq_true]
/-- the years from a up to y (down from b) have y's state -/
def UpS (d : Pd) (L : List Lk) (y a : Int) : Prop := a ≤ y ∧ ∀ z, a ≤ z → z ≤ y → sbP d L y z = true
def DnS (d : Pd) (L : List Lk) (y b : Int) : Prop := y ≤ b ∧ ∀ z, y ≤ z → z ≤ b → sbP d L y z = true
theorem UpS.at (h : UpS d L y a) : sbP d L y a = true := h.2 a (Int.le_refl _) h.1
theorem DnS.at (h : DnS d L y a) : sbP d L y a = true := h.2 a h.1 (Int.le_refl _)
theorem UpS.start (h : exB d y = true) : UpS d L y y := by
  refine ⟨Int.le_refl _, fun z h1 h2 => ?_⟩
  obtain rfl : z = y := by omega
  exact sbP_self h
theorem DnS.start (h : exB d y = true) : DnS d L y y := by
  refine ⟨Int.le_refl _, fun z h1 h2 => ?_⟩
  obtain rfl : z = y := by omega
  exact sbP_self h
theorem UpS.step (h : UpS d L y a) (hn : sbP d L y (a - 1) = true) : UpS d L y (a - 1) := ⟨by have := h.1; omega, fun z h1 h2 => by
  by_cases e : z = a - 1
  · rw [e]; exact hn
  · exact h.2 z (by omega) h2⟩
theorem DnS.step (h : DnS d L y a) (hn : sbP d L y (a + 1) = true) : DnS d L y (a + 1) := ⟨by have := h.1; omega, fun z h1 h2 => by
  by_cases e : z = a + 1
  · rw [e]; exact hn
  · exact h.2 z h1 (by omega)⟩
theorem UpS.lo (h : UpS d L y a) (hn : sbP d L y (a - 1) = false) : loS (sbP d L y) y = a := loS_eq ⟨h.1, h.2, hn⟩
theorem DnS.hi (h : DnS d L y a) (hn : sbP d L y (a + 1) = false) : hiS (sbP d L y) y = a := hiS_eq ⟨h.1, h.2, hn⟩
theorem DnS.le (h : DnS d L y a) : a ≤ d.2.2.2.1 := (exB_iff.1 (sbP_iff.1 h.at).1).2
end
/-- the best name so far -/
def bsSt (ns : List Nm) (x : List UInt8) (b i : Int) : Int := if (ns.getD i.toNat nmD).2.1 = x ∧ (b < 0 ∨ (ns.getD i.toNat nmD).2.2.1 < (ns.getD b.toNat nmD).2.2.1) then i else b
def bsF (ns : List Nm) (x : List UInt8) (l : List Int) : Int := l.foldl (bsSt ns x) (-1)
theorem bsF_add (ns : List Nm) (x : List UInt8) (l : List Int) (i : Int) : bsF ns x (l ++ [i]) = bsSt ns x (bsF ns x l) i := by simp [bsF, List.foldl_append]
theorem bsSt_yes {ns : List Nm} {x : List UInt8} {b i : Int} (h : (ns.getD i.toNat nmD).2.1 = x) (h2 : b < 0 ∨ (ns.getD i.toNat nmD).2.2.1 < (ns.getD b.toNat nmD).2.2.1) : bsSt ns x b i = i := if_pos ⟨h, h2⟩
theorem bsSt_no {ns : List Nm} {x : List UInt8} {b i : Int} (h : (ns.getD i.toNat nmD).2.1 ≠ x ∨ ¬ (b < 0 ∨ (ns.getD i.toNat nmD).2.2.1 < (ns.getD b.toNat nmD).2.2.1)) : bsSt ns x b i = b := if_neg (fun q => h.elim (fun e => e q.1) (fun e => e q.2))
theorem bsF_fold (ns : List Nm) (x : List UInt8) : ∀ (l : List Int) (b : Int), l.foldl (bsSt ns x) b = b ∨ l.foldl (bsSt ns x) b ∈ l
  | [], _ => .inl rfl
  | i :: l, b => by
    rw [List.foldl_cons]
    rcases bsF_fold ns x l (bsSt ns x b i) with h | h
    · rw [h]
      unfold bsSt
      split
      · exact .inr (List.mem_cons_self ..)
      · exact .inl rfl
    · exact .inr (List.mem_cons_of_mem _ h)
theorem bsF_cases (ns : List Nm) (x : List UInt8) (l : List Int) : bsF ns x l = -1 ∨ bsF ns x l ∈ l := bsF_fold ns x l (-1)
theorem usTo_mem {ns : List Nm} {y : Int} {k : Nat} {i : Int} (h : i ∈ usTo ns y k) : ∃ j : Nat, i = j ∧ j < k := by
  unfold usTo at h
  rw [List.mem_map] at h
  obtain ⟨j, hj, e⟩ := h
  rw [List.mem_filter, List.mem_range] at hj
  exact ⟨j, e.symm, hj.1⟩
theorem usTo_bs (ns : List Nm) (x : List UInt8) (y : Int) (k : Nat) : bsF ns x (usTo ns y k) = -1 ∨ ∃ j : Nat, bsF ns x (usTo ns y k) = j ∧ j < k := by
  rcases bsF_cases ns x (usTo ns y k) with h | h
  · exact .inl h
  · exact .inr (usTo_mem h)
theorem bsF_part {ns : List Nm} {x : List UInt8} {y : Int} {j : Nat} : bsF ns x ((usL ns y).take j) = -1 ∨ ∃ i : Nat, bsF ns x ((usL ns y).take j) = i ∧ i < ns.length := by
  rcases bsF_cases ns x ((usL ns y).take j) with h | h
  · exact .inl h
  · exact .inr (usTo_mem (List.mem_of_mem_take h))
theorem bsF_take {ns : List Nm} {x : List UInt8} {l : List Int} {j : Nat} (hj : j < l.length) : bsF ns x (l.take (j + 1)) = bsSt ns x (bsF ns x (l.take j)) (l.getD j 0) := by
  rw [List.take_succ_eq_append_getElem hj, bsF_add]
  simp [List.getD, hj]
/-- the best name in the first language that has one -/
def bsG (ns : List Nm) (us : List Int) : List (List UInt8) → Int
  | [] => -1
  | x :: xs => if 0 ≤ bsF ns x us then bsF ns x us else bsG ns us xs
theorem bsG_skip {ns : List Nm} {us : List Int} {ls : List (List UInt8)} {k : Nat} (hk : k < ls.length) (h : ¬ 0 ≤ bsF ns (ls.getD k []) us) : bsG ns us (ls.drop k) = bsG ns us (ls.drop (k + 1)) := by
  have e : ls.getD k [] = ls[k] := by simp [List.getD, hk]
  rw [List.drop_eq_getElem_cons hk, bsG, if_neg (by rw [← e]; exact h)]
theorem bsG_hit {ns : List Nm} {us : List Int} {ls : List (List UInt8)} {k : Nat} (hk : k < ls.length) (h : 0 ≤ bsF ns (ls.getD k []) us) : bsG ns us (ls.drop k) = bsF ns (ls.getD k []) us := by
  have e : ls.getD k [] = ls[k] := by simp [List.getD, hk]
  rw [List.drop_eq_getElem_cons hk, bsG, if_pos (by rw [← e]; exact h), e]
theorem bsG_end {ns : List Nm} {us : List Int} {ls : List (List UInt8)} : bsG ns us (ls.drop ls.length) = -1 := by rw [List.drop_length]; rfl
def bsN (d : Pd) (ls : List (List UInt8)) (y : Int) : Int := bsG d.2.2.2.2 (usL d.2.2.2.2 y) ls
theorem bsG_cases {ns : List Nm} {y : Int} : ∀ ls : List (List UInt8), bsG ns (usL ns y) ls = -1 ∨ ∃ i : Nat, bsG ns (usL ns y) ls = i ∧ i < ns.length
  | [] => .inl rfl
  | x :: ls => by
    unfold bsG
    split
    · rcases usTo_bs ns x y ns.length with h | h
      · rename_i q
        unfold usL at q
        rw [h] at q
        omega
      · exact .inr h
    · exact bsG_cases ls
/-- the name of a place in a year -/
def nmO (d : Pd) (ls : List (List UInt8)) (y : Int) : List UInt8 := if bsN d ls y < 0 then d.1 else (d.2.2.2.2.getD (bsN d ls y).toNat nmD).1
/-- all are languages -/
def lgB (ls : List (List UInt8)) : Bool := ls.all fun s => smL s 2 3
/-- who has another name -/
def renB (ls : List (List UInt8)) (a b : Int) (d : Pd) : Bool := exB d a && (exB d b && !(nmO d ls a == nmO d ls b))
noncomputable def renR (D : List Pd) (L : List Lk) (ls : List (List UInt8)) (a b : Int) : List (List UInt8) := if wyC D L (lgB ls) [a, b] = 0 then cdsP (renB ls a b) D else []
theorem renR_len (D : List Pd) (L : List Lk) (ls : List (List UInt8)) (a b : Int) : (renR D L ls a b).length ≤ 1000000 := by
  unfold renR
  split
  · rename_i h
    have h1 := wdB_len (wyC_zero h).1
    have h2 := cdsP_len (renB ls a b) D
    omega
  · simp
end Go.Proofs.YtbnkiibjhfcffaaGreatDoor

namespace Go.Proofs.YtbnkiibjhfcffaaGreatDoor
open Go.RowKit
attribute [local go_sem] ExtOf.cell ExtOf.frozen


/-- a place as the program holds it: its names read as they are told -/
def IsP (w : World) (d : Pd) (v : Value) : Prop := ∃ p : Pl, PlAt w p ∧ d = pdOf p ∧ plB d = true ∧ v = plV p
theorem IsP.ext {w w' : World} {d : Pd} {v : Value} (h : IsP w d v) (hx : Ext w w') : IsP w' d v := by
  obtain ⟨p, h1, h2, h3, h4⟩ := h
  exact ⟨p, h1.ext hx, h2, h3, h4⟩
section
variable {w : World} {A A' : Option Addr} {n c m c' : Nat} {ps : List Pl} {L : List Lk}

theorem IsP.ex {d : Pd} {v : Value} (hP : IsP w d v) (z : Int) (W : World) : Calls Tryz.prog 27 #[v, .int .i64 z] W fun e w' => e = .returned (.bool (exB d z)) ∧ Ext W w' := by
  obtain ⟨p, g1, rfl, g3, rfl⟩ := hP
  exact s_l11Exists p z W
end
end Go.Proofs.YtbnkiibjhfcffaaGreatDoor
