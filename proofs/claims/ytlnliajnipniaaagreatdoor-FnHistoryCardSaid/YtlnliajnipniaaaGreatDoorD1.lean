/- Plain laws of the years in which two worlds differ: no program in sight. Equal lists of texts, and texts of names, as the program and the specification see them. A place that is not the same in two worlds, as the program tells it. -/
import Derived.Test.YtlnliajnipniaaaGreatDoorZ3
import Derived.Test.YtlnliajnipniaaaGreatDoorY1
namespace Go.Proofs.YtlnliajnipniaaaGreatDoor
open Go.RowKit
def txTo (ns : List Nm) (y : Int) (k : Nat) : List (List UInt8) := (usTo ns y k).map fun i => (ns.getD i.toNat nmD).1
def txL (ns : List Nm) (y : Int) : List (List UInt8) := txTo ns y ns.length
theorem txTo_succ (ns : List Nm) (y : Int) (k : Nat) : txTo ns y (k + 1) = if usB ns y k = true then txTo ns y k ++ [(ns.getD k nmD).1] else txTo ns y k := by
 unfold txTo
 rw [usTo_succ]
 split <;> simp
theorem txTo_len (ns : List Nm) (y : Int) (k : Nat) : (txTo ns y k).length ≤ k := by unfold txTo; rw [List.length_map]; exact usTo_len _ _ _
def txPart (ns : List Nm) (y : Int) (j : Nat) : List (List UInt8) := ((usL ns y).take j).map fun i => (ns.getD i.toNat nmD).1
theorem txPart_succ {ns : List Nm} {y : Int} {j : Nat} (hj : j < (usL ns y).length) : txPart ns y (j + 1) = txPart ns y j ++ [(ns.getD ((usL ns y).getD j 0).toNat nmD).1] := by
 unfold txPart
 rw [List.take_succ_eq_append_getElem hj, List.map_append]
 simp [List.getD, hj]
theorem txPart_all (ns : List Nm) (y : Int) : txPart ns y (usL ns y).length = txL ns y := by unfold txPart txL txTo usL; rw [List.take_length]
theorem txPart_len (ns : List Nm) (y : Int) (j : Nat) : (txPart ns y j).length ≤ ns.length := by
 unfold txPart
 rw [List.length_map, List.length_take]
 have := usTo_len ns y ns.length
 unfold usL
 omega
def dfB (D : List Pd) (L : List Lk) (D' : List Pd) (L' : List Lk) (y : Int) (x : List UInt8) : Bool :=
 !(txL ((fndP D x).getD pdD).2.2.2.2 y == txL ((fndP D' x).getD pdD).2.2.2.2 y) || !(parT L x y == parT L' x y)
def exY (y : Int) (d : Pd) : Bool := exB d y
def difY (D : List Pd) (L : List Lk) (D' : List Pd) (L' : List Lk) (y : Int) : Bool := !(cdsP (exY y) D == cdsP (exY y) D') || (cdsP (exY y) D).any (dfB D L D' L' y)
section
variable {D D' : List Pd} {L L' : List Lk} {y : Int}
theorem difY_codes (h : (cdsP (exY y) D == cdsP (exY y) D') = false) : difY D L D' L' y = true := by unfold difY; rw [h]; rfl
theorem difY_any (h : (cdsP (exY y) D == cdsP (exY y) D') = true) : difY D L D' L' y = (cdsP (exY y) D).any (dfB D L D' L' y) := by unfold difY; rw [h]; rfl
end
open Classical in
noncomputable def difB (D : List Pd) (L : List Lk) (D' : List Pd) (L' : List Lk) (year : Int) : Bool := decide (∃ z, -3000 ≤ z ∧ z < year ∧ difY D L D' L' z = true)
open Classical in
theorem difB_yes {D D' : List Pd} {L L' : List Lk} {year z : Int} (h1 : -3000 ≤ z) (h2 : z < year) (h : difY D L D' L' z = true) : difB D L D' L' year = true := by
 unfold difB
 exact decide_eq_true ⟨z, h1, h2, h⟩
open Classical in
theorem difB_no {D D' : List Pd} {L L' : List Lk} {year : Int} (h : ∀ z, -3000 ≤ z → z < year → difY D L D' L' z = false) : difB D L D' L' year = false := by
 unfold difB
 refine decide_eq_false ?_
 rintro ⟨z, h1, h2, h3⟩
 rw [h z h1 h2] at h3; cases h3
def mkN (ns : List Nm) (k : Nat) : List Int := (ns.take k).flatMap fun n => [n.2.2.2.1, n.2.2.2.2 + 1]
def mkP (D : List Pd) (k : Nat) : List Int := (D.take k).flatMap fun d => [d.2.2.1, d.2.2.2.1 + 1] ++ mkN d.2.2.2.2 d.2.2.2.2.length
def mkK (L : List Lk) (k : Nat) : List Int := (L.take k).flatMap fun l => [l.2.2.1, l.2.2.2 + 1]
def mkW (D : List Pd) (L : List Lk) : List Int := ([-3000] ++ mkP D D.length) ++ mkK L L.length
theorem mkN_succ {ns : List Nm} {k : Nat} (hk : k < ns.length) : mkN ns (k + 1) = mkN ns k ++ [(ns.getD k nmD).2.2.2.1, (ns.getD k nmD).2.2.2.2 + 1] := by
 unfold mkN
 rw [List.take_succ_eq_append_getElem hk, List.flatMap_append]
 simp [List.getD, hk]
theorem mkP_succ {D : List Pd} {k : Nat} (hk : k < D.length) : mkP D (k + 1) = mkP D k ++ ([(D.getD k pdD).2.2.1, (D.getD k pdD).2.2.2.1 + 1] ++ mkN (D.getD k pdD).2.2.2.2 (D.getD k pdD).2.2.2.2.length) := by
 unfold mkP
 rw [List.take_succ_eq_append_getElem hk, List.flatMap_append]
 simp [List.getD, hk]
theorem mkK_succ {L : List Lk} {k : Nat} (hk : k < L.length) : mkK L (k + 1) = mkK L k ++ [(L.getD k lkD).2.2.1, (L.getD k lkD).2.2.2 + 1] := by
 unfold mkK
 rw [List.take_succ_eq_append_getElem hk, List.flatMap_append]
 simp [List.getD, hk]
theorem mkN_len (ns : List Nm) (k : Nat) : (mkN ns k).length ≤ 2 * k := by
 unfold mkN
 have : ∀ l : List Nm, (l.flatMap fun n => [n.2.2.2.1, n.2.2.2.2 + 1]).length = 2 * l.length := fun l => by
  induction l with
  | nil => rfl
  | cons n l ih => simp [List.flatMap_cons] at *; omega
 rw [this, List.length_take]
 omega
theorem mkK_len (L : List Lk) (k : Nat) : (mkK L k).length ≤ 2 * k := by
 unfold mkK
 have : ∀ l : List Lk, (l.flatMap fun n => [n.2.2.1, n.2.2.2 + 1]).length = 2 * l.length := fun l => by
  induction l with
  | nil => rfl
  | cons n l ih => simp [List.flatMap_cons] at *; omega
 rw [this, List.length_take]
 omega
theorem mkP_len {D : List Pd} (h : ∀ d ∈ D, d.2.2.2.2.length ≤ 12) (k : Nat) : (mkP D k).length ≤ 26 * k := by
 unfold mkP
 have : ∀ l : List Pd, (∀ d ∈ l, d.2.2.2.2.length ≤ 12) → (l.flatMap fun d => [d.2.2.1, d.2.2.2.1 + 1] ++ mkN d.2.2.2.2 d.2.2.2.2.length).length ≤ 26 * l.length := fun l => by
  induction l with
  | nil => intro _; simp
  | cons d l ih =>
   intro hl
   have h1 := ih fun d hd => hl d (List.mem_cons_of_mem _ hd)
   have h2 := hl d (List.mem_cons_self ..)
   have h3 := mkN_len d.2.2.2.2 d.2.2.2.2.length
   rw [List.flatMap_cons, List.length_append, List.length_append, List.length_cons]
   simp only [List.length_cons, List.length_nil]
   omega
 have h1 := this (D.take k) fun d hd => h d (List.mem_of_mem_take hd)
 rw [List.length_take] at h1
 omega
theorem mem_mkN {ns : List Nm} {n : Nm} (h : n ∈ ns) : n.2.2.2.1 ∈ mkN ns ns.length ∧ n.2.2.2.2 + 1 ∈ mkN ns ns.length := by
 unfold mkN
 rw [List.take_length]
 exact ⟨List.mem_flatMap.2 ⟨n, h, by simp⟩, List.mem_flatMap.2 ⟨n, h, by simp⟩⟩
theorem mem_mkP {D : List Pd} {L : List Lk} {d : Pd} (h : d ∈ D) {m : Int} (hm : m ∈ [d.2.2.1, d.2.2.2.1 + 1] ++ mkN d.2.2.2.2 d.2.2.2.2.length) : m ∈ mkW D L := by
 unfold mkW
 refine List.mem_append_left _ (List.mem_append_right _ ?_)
 unfold mkP
 rw [List.take_length]
 exact List.mem_flatMap.2 ⟨d, h, hm⟩
theorem mem_mkK {D : List Pd} {L : List Lk} {l : Lk} (h : l ∈ L) {m : Int} (hm : m ∈ [l.2.2.1, l.2.2.2 + 1]) : m ∈ mkW D L := by
 unfold mkW
 refine List.mem_append_right _ ?_
 unfold mkK
 rw [List.take_length]
 exact List.mem_flatMap.2 ⟨l, h, hm⟩
theorem mkW_first (D : List Pd) (L : List Lk) : (-3000 : Int) ∈ mkW D L := by
 unfold mkW
 exact List.mem_append_left _ (List.mem_append_left _ (by simp))
theorem mkW_lo {D : List Pd} {L : List Lk} (h : wdB D L = true) : ∀ m ∈ mkW D L, -3000 ≤ m := by
 intro m hm
 unfold mkW at hm
 rcases List.mem_append.1 hm with hm | hm
 ·rcases List.mem_append.1 hm with hm | hm
  ·rw [List.mem_singleton.1 hm]; exact Int.le_refl _
  ·unfold mkP at hm
   rw [List.take_length] at hm
   obtain ⟨d, hd, hm⟩ := List.mem_flatMap.1 hm
   obtain ⟨j, hj, rfl⟩ := List.mem_iff_getElem.1 hd
   have hp := wdB_pl h hj
   rw [show D.getD j pdD = D[j] by simp [List.getD, hj]] at hp
   obtain ⟨_, _, h3, h4, _⟩ := plB_iff.1 hp
   obtain ⟨a1, a2, a3⟩ := spB_iff.1 h3
   rcases List.mem_append.1 hm with hm | hm
   ·simp at hm
    rcases hm with rfl | rfl <;> omega
   ·unfold mkN at hm
    rw [List.take_length] at hm
    obtain ⟨n, hn, hm⟩ := List.mem_flatMap.1 hm
    obtain ⟨i, hi, rfl⟩ := List.mem_iff_getElem.1 hn
    have h5 := (okN_iff.1 ((nsB_iff.1 h4).1 i hi)).1
    rw [show (D[j].2.2.2.2).getD i nmD = D[j].2.2.2.2[i] by simp [List.getD, hi]] at h5
    unfold nmB at h5
    simp only [Bool.and_eq_true] at h5
    obtain ⟨b1, b2, b3⟩ := spB_iff.1 h5.2
    simp at hm
    rcases hm with rfl | rfl <;> omega
 ·unfold mkK at hm
  rw [List.take_length] at hm
  obtain ⟨l, hl, hm⟩ := List.mem_flatMap.1 hm
  obtain ⟨j, hj, rfl⟩ := List.mem_iff_getElem.1 hl
  have h1 := ((lksB_iff.1 (wdB_iff.1 h).2.1).1.1 j hj).1
  rw [show L.getD j lkD = L[j] by simp [List.getD, hj]] at h1
  unfold lkB at h1
  simp only [Bool.and_eq_true] at h1
  obtain ⟨b1, b2, b3⟩ := spB_iff.1 h1.2
  simp at hm
  rcases hm with rfl | rfl <;> omega
theorem inB_const {f t a b : Int} (hab : a ≤ b) (h1 : ¬ (a < f ∧ f ≤ b)) (h2 : ¬ (a < t + 1 ∧ t + 1 ≤ b)) : inB a f t = inB b f t := by
 apply Bool.eq_iff_iff.2
 rw [inB_iff, inB_iff]
 omega
section
variable {D D' : List Pd} {L L' : List Lk} {a b : Int}
theorem ex_const (hab : a ≤ b) (h : ∀ m ∈ mkW D L, ¬ (a < m ∧ m ≤ b)) {d : Pd} (hd : d ∈ D) : exB d a = exB d b :=
 inB_const hab (h _ (mem_mkP hd (by simp))) (h _ (mem_mkP hd (by simp)))
theorem us_const (hab : a ≤ b) (h : ∀ m ∈ mkW D L, ¬ (a < m ∧ m ≤ b)) {d : Pd} (hd : d ∈ D) : usL d.2.2.2.2 a = usL d.2.2.2.2 b := by
 have : ∀ k, k ≤ d.2.2.2.2.length → usTo d.2.2.2.2 a k = usTo d.2.2.2.2 b k := fun k => by
  induction k with
  | zero => intro _; rfl
  | succ k ih =>
   intro hk
   have hm : d.2.2.2.2.getD k nmD ∈ d.2.2.2.2 := by simp [List.getD, show k < d.2.2.2.2.length by omega]
   have e : usB d.2.2.2.2 a k = usB d.2.2.2.2 b k := inB_const hab (h _ (mem_mkP hd (List.mem_append_right _ (mem_mkN hm).1))) (h _ (mem_mkP hd (List.mem_append_right _ (mem_mkN hm).2)))
   rw [usTo_succ, usTo_succ, ih (by omega), e]
 exact this _ (Nat.le_refl _)
theorem pr_const (hab : a ≤ b) (h : ∀ m ∈ mkW D L, ¬ (a < m ∧ m ≤ b)) (x : List UInt8) : parT L x a = parT L x b := by
 unfold parT
 rw [par_const (fun l hl => lkHas_const hab (h _ (mem_mkK hl (by simp))) (h _ (mem_mkK hl (by simp)))) x]
theorem cds_const (hab : a ≤ b) (h : ∀ m ∈ mkW D L, ¬ (a < m ∧ m ≤ b)) : cdsP (exY a) D = cdsP (exY b) D := by
 unfold cdsP
 rw [List.filter_congr fun d hd => show exY a d = exY b d from ex_const (L := L) hab h hd]
theorem tx_const (hab : a ≤ b) (h : ∀ m ∈ mkW D L, ¬ (a < m ∧ m ≤ b)) (x : List UInt8) : txL ((fndP D x).getD pdD).2.2.2.2 a = txL ((fndP D x).getD pdD).2.2.2.2 b := by
 cases hf : fndP D x with
 | none => rfl
 | some d =>
  have hd : d ∈ D := List.mem_of_find?_eq_some hf
  show txL d.2.2.2.2 a = txL d.2.2.2.2 b
  have := us_const (L := L) hab h hd
  unfold usL at this
  unfold txL txTo
  rw [this]
theorem dif_const (hab : a ≤ b) (h : ∀ m ∈ mkW D L ++ mkW D' L', ¬ (a < m ∧ m ≤ b)) : difY D L D' L' a = difY D L D' L' b := by
 have h1 : ∀ m ∈ mkW D L, ¬ (a < m ∧ m ≤ b) := fun m hm => h m (List.mem_append_left _ hm)
 have h2 : ∀ m ∈ mkW D' L', ¬ (a < m ∧ m ≤ b) := fun m hm => h m (List.mem_append_right _ hm)
 have e : dfB D L D' L' a = dfB D L D' L' b := funext fun x => by
  unfold dfB
  rw [tx_const hab h1 x, tx_const hab h2 x, pr_const hab h1 x, pr_const hab h2 x]
 unfold difY
 rw [cds_const hab h1, cds_const hab h2, e]
open Classical in
theorem dif_marks (hw : wdB D L = true) (hw' : wdB D' L' = true) {year : Int} : difB D L D' L' year = true ↔ ∃ m ∈ mkW D L ++ mkW D' L', m < year ∧ difY D L D' L' m = true := by
 have h := marks_law (M := mkW D L ++ mkW D' L') (lo := -3000) (year := year) (p := difY D L D' L') (List.mem_append_left _ (mkW_first D L)) (fun m hm => (List.mem_append.1 hm).elim (mkW_lo hw m) (mkW_lo hw' m)) (fun a b _ hab hm => dif_const hab hm)
 unfold difB
 rw [decide_eq_true_iff]
 exact h
end
theorem getD_at2 {α : Type} {l : List α} {k : Nat} {d : α} (hk : k < l.length) : l.getD k d = l[k] := by simp [List.getD, hk]
theorem dif_hit {D D' : List Pd} {L L' : List Lk} (hw : wdB D L = true) (hw' : wdB D' L' = true) {year : Int} {k : Nat} (hk : k < (mkW D L ++ mkW D' L').length) (h1 : (mkW D L ++ mkW D' L').getD k 0 < year) (h : difY D L D' L' ((mkW D L ++ mkW D' L').getD k 0) = true) : difB D L D' L' year = true :=
 (dif_marks hw hw').2 ⟨_, mem_getD hk, h1, h⟩
theorem dif_none {D D' : List Pd} {L L' : List Lk} (hw : wdB D L = true) (hw' : wdB D' L' = true) {year : Int} (h : ∀ k, k < (mkW D L ++ mkW D' L').length → (mkW D L ++ mkW D' L').getD k 0 < year → difY D L D' L' ((mkW D L ++ mkW D' L').getD k 0) = false) : difB D L D' L' year = false := by
 cases e : difB D L D' L' year with
 | false => rfl
 | true =>
  obtain ⟨m, hm, h1, h2⟩ := (dif_marks hw hw').1 e
  obtain ⟨k, hk, rfl⟩ := List.mem_iff_getElem.1 hm
  have := h k hk (by rw [getD_at2 hk]; exact h1)
  rw [getD_at2 hk] at this
  rw [this] at h2; cases h2
end Go.Proofs.YtlnliajnipniaaaGreatDoor
namespace Go.Proofs.YtlnliajnipniaaaGreatDoor
open Go.RowKit
attribute [local go_sem] ExtOf.cell ExtOf.frozen
theorem take_beqS {α : Type} [BEq α] [LawfulBEq α] {d : α} {xs ys : List α} {k : Nat} (h : ¬ xs.getD k d = ys.getD k d) : (xs == ys) = false := by
 rw [beq_eq_false_iff_ne]
 intro e
 subst e
 exact h rfl
theorem all_beqS {α : Type} [BEq α] [LawfulBEq α] {d : α} {xs ys : List α} (hl : xs.length = ys.length) (h : ∀ j, j < xs.length → xs.getD j d = ys.getD j d) : (xs == ys) = true := by
 rw [beq_iff_eq]
 apply List.ext_getElem hl
 intro i h1 h2
 have := h i h1
 simpa [List.getD, h1, h2] using this
set_option maxHeartbeats 3200000 in
theorem i_EqualS (A A' : Option Addr) (n c m d : Nat) (xs ys : List (List UInt8)) (w : World) (h : SlAt w 1 encS A xs) (h' : SlAt w 1 encS A' ys) (hn : n = xs.length) (hm : m = ys.length) (hl : n ≤ 1048576) (hl' : m ≤ 1048576) :
  Calls Tryz.prog 79 #[.slice A n c, .slice A' m d] w fun e w' => e = .returned (.bool (xs == ys)) ∧ Ext w w' := by
 have HN := hI hn
 have HM := hI hm
 clear hn hm
 by_cases hnm : n = m
 ·subst hnm
  have hn1 : (((n : Nat) : Int) != (n : Int)) = false := by simp
  go_enter Tryz.func79, Tryz.ntmps79
  go_wp2
  go_loopw [13] (fun i wr => ∃ k : Nat, k ≤ n ∧ i = .int .i64 k ∧ Hid (∀ j, j < k → xs.getD j [] = ys.getD j []) ∧ Ext w wr) (fun i _ => n - (intOf i).toNat)
  case atStart => exact ⟨0, Nat.zero_le _, rfl, hI (fun j hj => absurd hj (by omega)), xR⟩
  case round =>
   obtain ⟨k, hk, rfl, HJ, hx⟩ := hrel
   by_cases hlt : k < n
   ·have hkx : k < xs.length := by rw [← HN.out]; exact hlt
    have hky : k < ys.length := by rw [← HM.out]; exact hlt
    obtain ⟨b, off, rfl, hb, d0⟩ := (h.ext hx).st hkx
    obtain ⟨b', off', rfl, hb', d1⟩ := (h'.ext hx).st hky
    have hxt := tx_beq (xs.getD k []) (ys.getD k [])
    by_cases hxy : xs.getD k [] = ys.getD k []
    ·have HJ2 := hI (upTo1 HJ.out hxy)
     rw [show (xs.getD k [] == ys.getD k []) = true by rw [beq_iff_eq]; exact hxy] at hxt
     generalize tx (xs.getD k []) = sx at *
     generalize tx (ys.getD k []) = sy at *
     clear hkx hky hxy
     go_wp2
     (refine wp_region_ext (by kernel_rfl) (by kernel_rfl) ?_; (repeat (go_big_quiet_step (fail))); refine wpQuiet_nil ?_; intro wq hxwq; obtain ⟨hcwq, hfwq, hswq⟩ := hxwq.all; (try simp at hswq))
     go_wp2
     go_roundw
     case rel => exact ⟨k + 1, by omega, by go_num, HJ2, xT hx hxwq⟩
     case measure => simp [intOf]; omega
    ·have HF := hI (take_beqS (d := []) hxy)
     rw [show (xs.getD k [] == ys.getD k []) = false by rw [beq_eq_false_iff_ne]; exact hxy] at hxt
     generalize tx (xs.getD k []) = sx at *
     generalize tx (ys.getD k []) = sy at *
     clear hkx hky hxy
     go_wp2
     (refine wp_region_ext (by kernel_rfl) (by kernel_rfl) ?_; (repeat (go_big_quiet_step (fail))); refine wpQuiet_nil ?_; intro wq hxwq; obtain ⟨hcwq, hfwq, hswq⟩ := hxwq.all; (try simp at hswq))
     go_wp2
     go_ret
     exact ⟨ret_bool' HF.out.symm, xT hx hxwq⟩
   ·obtain rfl : k = n := by omega
    have HT := hI (all_beqS (d := []) (by rw [← HN.out, ← HM.out]) (fun j hj => HJ.out j (by rw [HN.out]; exact hj)))
    go_wp2
    go_ret
    exact ⟨ret_bool' HT.out.symm, hx⟩
 ·have HF : Hid ((xs == ys) = false) := hI (by rw [beq_eq_false_iff_ne]; intro e; exact hnm (by rw [HN.out, HM.out, e]))
  have hnm1 : ((n : Int) != (m : Int)) = true := by simp; omega
  go_enter Tryz.func79, Tryz.ntmps79
  go_wp2
  go_ret
  exact ⟨ret_bool' HF.out.symm, xR⟩
set_option maxHeartbeats 3200000 in
theorem s_l14Equal (A A' : Option Addr) (n c m d : Nat) (xs ys : List (List UInt8)) (w : World) (h : SlAt w 1 encS A xs) (h' : SlAt w 1 encS A' ys) (hn : n = xs.length) (hm : m = ys.length) (hl : n ≤ 1048576) (hl' : m ≤ 1048576) :
  Calls Tryz.prog 86 #[.slice A n c, .slice A' m d] w fun e w' => e = .returned (.bool (xs == ys)) ∧ Ext w w' := by
 have HN := hI hn
 have HM := hI hm
 clear hn hm
 by_cases hnm : n = m
 ·subst hnm
  have hn1 : (((n : Nat) : Int) != (n : Int)) = false := by simp
  go_enter Tryz.func86, Tryz.ntmps86
  go_wp2
  go_loopw [5] (fun i wr => ∃ k : Nat, k ≤ n ∧ i = .int .i64 k ∧ Hid (∀ j, j < k → xs.getD j [] = ys.getD j []) ∧ Ext w wr) (fun i _ => n - (intOf i).toNat)
  case atStart => exact ⟨0, Nat.zero_le _, rfl, hI (fun j hj => absurd hj (by omega)), xR⟩
  case round =>
   obtain ⟨k, hk, rfl, HJ, hx⟩ := hrel
   by_cases hlt : k < n
   ·have hkx : k < xs.length := by rw [← HN.out]; exact hlt
    have hky : k < ys.length := by rw [← HM.out]; exact hlt
    obtain ⟨b, off, rfl, hb, d0⟩ := (h.ext hx).st hkx
    obtain ⟨b', off', rfl, hb', d1⟩ := (h'.ext hx).st hky
    have hxt := tx_beq (xs.getD k []) (ys.getD k [])
    by_cases hxy : xs.getD k [] = ys.getD k []
    ·have HJ2 := hI (upTo1 HJ.out hxy)
     rw [show (xs.getD k [] == ys.getD k []) = true by rw [beq_iff_eq]; exact hxy] at hxt
     generalize tx (xs.getD k []) = sx at *
     generalize tx (ys.getD k []) = sy at *
     clear hkx hky hxy
     go_wp2
     (refine wp_region_ext (by kernel_rfl) (by kernel_rfl) ?_; (repeat (go_big_quiet_step (fail))); refine wpQuiet_nil ?_; intro wq hxwq; obtain ⟨hcwq, hfwq, hswq⟩ := hxwq.all; (try simp at hswq))
     go_wp2
     go_roundw
     case rel => exact ⟨k + 1, by omega, by go_num, HJ2, xT hx hxwq⟩
     case measure => simp [intOf]; omega
    ·have HF := hI (take_beqS (d := []) hxy)
     rw [show (xs.getD k [] == ys.getD k []) = false by rw [beq_eq_false_iff_ne]; exact hxy] at hxt
     generalize tx (xs.getD k []) = sx at *
     generalize tx (ys.getD k []) = sy at *
     clear hkx hky hxy
     go_wp2
     (refine wp_region_ext (by kernel_rfl) (by kernel_rfl) ?_; (repeat (go_big_quiet_step (fail))); refine wpQuiet_nil ?_; intro wq hxwq; obtain ⟨hcwq, hfwq, hswq⟩ := hxwq.all; (try simp at hswq))
     go_wp2
     go_ret
     exact ⟨ret_bool' HF.out.symm, xT hx hxwq⟩
   ·obtain rfl : k = n := by omega
    have HT := hI (all_beqS (d := []) (by rw [← HN.out, ← HM.out]) (fun j hj => HJ.out j (by rw [HN.out]; exact hj)))
    go_wp2
    go_ret
    exact ⟨ret_bool' HT.out.symm, hx⟩
 ·have HF : Hid ((xs == ys) = false) := hI (by rw [beq_eq_false_iff_ne]; intro e; exact hnm (by rw [HN.out, HM.out, e]))
  have hnm1 : ((n : Int) != (m : Int)) = true := by simp; omega
  go_enter Tryz.func86, Tryz.ntmps86
  go_wp2
  go_ret
  exact ⟨ret_bool' HF.out.symm, xR⟩
set_option maxRecDepth 20000 in
set_option maxHeartbeats 6400000 in
theorem i_textsIn (p : Pl) (y : Int) (w : World) (h : PlAt w p) (hl : p.2.2.2.2.2.2.length ≤ 1000) :
  Calls Tryz.prog 82 #[.agg #[.string (tx p.1), .int .i64 p.2.1, .int .i64 p.2.2.1, .int .i64 p.2.2.2.1, .slice p.2.2.2.2.1 p.2.2.2.2.2.2.length p.2.2.2.2.2.1], .int .i64 y] w fun e w' => ∃ v, e = .returned v ∧ OwS w' w.heap.size v (txL p.2.2.2.2.2.2 y) ∧ Ext w w' := by
 have HS := hI h.1
 clear h
 generalize tx p.1 = q0 at *
 generalize p.2.1 = q1 at *
 generalize p.2.2.1 = q2 at *
 generalize p.2.2.2.1 = q3 at *
 generalize p.2.2.2.2.1 = A at *
 generalize p.2.2.2.2.2.1 = c at *
 generalize p.2.2.2.2.2.2 = ns at *
 obtain ⟨n, hn⟩ : ∃ n, n = ns.length := ⟨_, rfl⟩
 have HN := hI hn
 rw [← hn] at hl ⊢
 clear hn
 go_enter Tryz.func82, Tryz.ntmps82
 go_wp2
 go_loopw [5, 11] (fun v i wr => ∃ k : Nat, k ≤ n ∧ i = .int .i64 k ∧ Hid (OwS wr w.heap.size v (txTo ns y k)) ∧ Ext w wr) (fun _ i _ => n - (intOf i).toNat)
 case atStart => exact ⟨0, by omega, rfl, hI (Own.nil _ _), xA xR⟩
 case round =>
  obtain ⟨k, hk, rfl, HV, hxr⟩ := hrel
  obtain ⟨w5, rfl⟩ : ∃ x, x = wr := ⟨wr, rfl⟩
  by_cases hlt : k < n
  ·have hkr : k < ns.length := by rw [← HN.out]; exact hlt
   obtain ⟨b, off, rfl, hb, d0, d1, d2, d3, d4⟩ := (HS.out.ext hxr).nm hkr
   have hsucc := txTo_succ ns y k
   have hln := txTo_len ns y k
   have HH := hI (fun W => i_has (ns.getD k nmD).2.2.2.1 (ns.getD k nmD).2.2.2.2 y W)
   have hlk : usB ns y k = inB y (ns.getD k nmD).2.2.2.1 (ns.getD k nmD).2.2.2.2 := rfl
   cases hq : usB ns y k with
   | false =>
    rw [hq] at hsucc
    rw [← hlk, hq] at HH
    have HSU : Hid (txTo ns y (k + 1) = txTo ns y k) := hI (by rw [hsucc]; simp)
    clear hsucc hlk hq hln
    generalize ns.getD k nmD = l at *
    generalize tx l.1 = s0 at *
    generalize tx l.2.1 = s1 at *
    go_wp2_with fail
    refine (HH.out _).mono ?_
    rintro e w1 ⟨rfl, hx1⟩
    go_wp2
    go_roundw
    case rel => exact ⟨k + 1, by omega, by go_num, hI (by rw [HSU.out]; exact HV.out.ext (xT (xA xR) hx1)), xT (xA hxr) hx1⟩
    case measure => simp [intOf]; omega
   | true =>
    rw [hq] at hsucc
    rw [← hlk, hq] at HH
    have HSU : Hid (txTo ns y (k + 1) = txTo ns y k ++ [(ns.getD k nmD).1]) := hI (by rw [hsucc]; simp)
    have HBL := hI (fun (W : World) (g : Nat) (hB : Blk W g 9 #[.string (tx (ns.getD k nmD).1)]) => blk_s1c hB)
    have HLN : Hid ((txTo ns y k).length ≤ 1000) := hI (by omega)
    clear hsucc hlk hq hln
    generalize ns.getD k nmD = l at *
    generalize tx l.1 = s0 at *
    generalize tx l.2.1 = s1 at *
    go_wp2_with fail
    refine (HH.out _).mono ?_
    rintro e w1 ⟨rfl, hx1⟩
    obtain ⟨hc1, hf1⟩ := hx1.rules
    have hs1 := hx1.size
    (try simp at hs1)
    have := (show w5.heap.size < w1.heap.size from by omega)
    have hsr := hxr.size
    have HV1 : Hid (OwS w1 w.heap.size _ (txTo ns y k)) := hI (HV.out.ext (xT (xA xR) hx1))
    go_wp2_with (at_builtin; refine wpList_append_sl elS len_encS one_encS rfl _ _ rfl rfl (HV1.out.ext (xA xR)) (xs := [l.1]) rfl (HBL.out _ _ (bN (by omega))) (by have := HLN.out; simp; unfold maxLen; omega) (by have := HLN.out; simp; omega) (by first | omega | (simp; omega)) ?_)
    intro v' w6 hown hgrow _
    have HV2 := hI hown
    have hx6 : Ext w w6 := by
     refine Ext.grown ?_ hgrow (fun q hq => (HV.out.row q hq).1)
     exact xA (xT (xA hxr) hx1)
    clear hown hgrow
    go_wp2
    go_roundw
    case rel => exact ⟨k + 1, by omega, by go_num, hI (by rw [HSU.out]; exact HV2.out), hx6⟩
    case measure => simp [intOf]; omega
  ·obtain rfl : k = n := by omega
   have HO : Hid (OwS w5 w.heap.size _ (txL ns y)) := hI (by unfold txL; rw [← HN.out]; exact HV.out)
   go_wp2
   go_ret
   exact ⟨_, rfl, HO.out.ext xR, hxr⟩
set_option maxHeartbeats 3200000 in
theorem i_differIn1 (p : Pl) (y : Int) (b5 : Nat) (w : World) (h5 : w.cell? ⟨b5, 0, none⟩ = some (.int .i64 y)) :
  Calls Tryz.prog 77 (#[plV p] ++ #[.pointer (some ⟨b5, 0, none⟩)]) w fun e w' => e = .returned (.bool (exY y (pdOf p))) ∧ Ext w w' := by
 have e5 : b5 < w.heap.size := World.block_lt_of_cell? _ _ h5
 have hpv : plV p = .agg #[.string (tx p.1), .int .i64 p.2.1, .int .i64 p.2.2.1, .int .i64 p.2.2.2.1, .slice p.2.2.2.2.1 p.2.2.2.2.2.2.length p.2.2.2.2.2.1] := rfl
 have HH : Hid (∀ W, Calls Tryz.prog 56 #[.agg #[.int .i64 p.2.2.1, .int .i64 p.2.2.2.1], .int .i64 y] W fun e w' => e = .returned (.bool (exY y (pdOf p))) ∧ Ext W w') := hI (fun W => i_has _ _ _ W)
 rw [hpv]
 generalize exY y (pdOf p) = q at *
 generalize tx p.1 = s0 at *
 clear hpv
 go_enter Tryz.func77, Tryz.ntmps77
 go_wp2_with fail
 refine (HH.out _).mono ?_
 rintro e w1 ⟨rfl, hx1⟩
 go_wp2
 go_ret
 exact ⟨rfl, xT (xA xR) hx1⟩
theorem en_differIn1 (args : Array Value) (w : World) : (callFunc 77 args).run Tryz.prog w = .ok (.enter 77 args) w := enters_isSome Tryz.func77 (by kernel_rfl) (by kernel_rfl) args w
set_option maxHeartbeats 3200000 in
theorem s_l11Year (A : Option Addr) (n c : Nat) (ps : List Pl) (y : Int) (w : World) (h : SlAt w 5 encQ A ps) (hp : Places w ps) (hn : n = ps.length) (hl : ps.length ≤ 1048576) (hr : rgB (psD ps) = true) (hy : inB y (-3000) 3000 = true) :
  Calls Tryz.prog 135 #[.slice A n c, .int .i64 y] w fun e w' => e = .returned (.int .i64 0) ∧ Ext w w' := by
 have HA := hI (fun W (hW : Ext w W) => s_IsRegister A n c ps W (h.ext hW) (hp.ext hW) hn hl)
 have HY := hI (fun W => s_l02Year y W)
 rw [hr] at HA
 rw [hy] at HY
 clear h hp hn hr hy
 go_enter Tryz.func135, Tryz.ntmps135
 (go_wp2_with fail; refine (HA.out _ xR).mono ?_; rintro e w1 ⟨rfl, hx1⟩; obtain ⟨hc1, hf1, hs1⟩ := hx1.all; (try simp at hs1))
 (go_wp2_with fail; refine (HY.out _).mono ?_; rintro e w' ⟨rfl, rfl⟩)
 go_wp2
 go_ret
 exact ⟨rfl, hx1⟩
set_option maxRecDepth 20000 in
set_option maxHeartbeats 6400000 in
theorem s_PlacesIn (A : Option Addr) (n c : Nat) (ps : List Pl) (y : Int) (w : World) (h : SlAt w 5 encQ A ps) (hp : Places w ps) (hn : n = ps.length) (hl : ps.length ≤ 1000) (hr : rgB (psD ps) = true) (hy : inB y (-3000) 3000 = true) :
  Calls Tryz.prog 85 #[.slice A n c, .int .i64 y] w fun e w' => ∃ v, e = .returned (.tuple #[v, .int .i64 0]) ∧ OwS w' w.heap.size v (cdsP (exY y) (psD ps)) ∧ Ext w w' := by
 have HY := hI (fun W (hW : Ext w W) => s_l11Year A n c ps y W (h.ext hW) (hp.ext hW) hn (by omega) hr hy)
 have HS := hI h
 have HN := hI hn
 have hnl : n ≤ 1000 := by omega
 have HFIN : Hid (cdsTo (exY y) (psD ps) n = cdsP (exY y) (psD ps)) := hI (by rw [hn, ← psD_len, cdsTo_all])
 clear h hp hn hl hr hy
 go_enter Tryz.func85, Tryz.ntmps85
 go_wp2_with fail
 refine (HY.out _ xR).mono ?_
 rintro e w1 ⟨rfl, hx1⟩
 have hs1 := hx1.size
 go_wp2
 go_loopw [7, 8] (fun v i wr => ∃ k : Nat, k ≤ n ∧ i = .int .i64 k ∧ Hid (OwS wr w.heap.size v (cdsTo (exY y) (psD ps) k)) ∧ Ext w wr) (fun _ i _ => n - (intOf i).toNat)
 case atStart => exact ⟨0, by omega, rfl, hI (Own.of_blk (g := w1.heap.size) (cs := #[]) (xs := []) (bN (by omega)) len_encS rfl (by omega) (by simp)), xA hx1⟩
 case round =>
  obtain ⟨k, hk, rfl, HV, hxr⟩ := hrel
  obtain ⟨w5, rfl⟩ : ∃ x, x = wr := ⟨wr, rfl⟩
  by_cases hlt : k < n
  ·have hkr : k < ps.length := by rw [← HN.out]; exact hlt
   obtain ⟨b9, off, rfl, hb, d0, d1, d2, d3, d4⟩ := (HS.out.ext hxr).pl hkr
   have hsucc := cdsTo_succ (p := exY y) (D := psD ps) (k := k) (by rw [psD_len]; exact hkr)
   rw [psD_at hkr] at hsucc
   have hln := cdsTo_len (exY y) (psD ps) k
   have HH : Hid (∀ W, Calls Tryz.prog 31 #[.agg #[.string (tx (ps.getD k plD).1), .int .i64 (ps.getD k plD).2.1, .int .i64 (ps.getD k plD).2.2.1, .int .i64 (ps.getD k plD).2.2.2.1, .slice (ps.getD k plD).2.2.2.2.1 (ps.getD k plD).2.2.2.2.2.2.length (ps.getD k plD).2.2.2.2.2.1], .int .i64 y] W fun e w' => e = .returned (.bool (exY y (pdOf (ps.getD k plD)))) ∧ Ext W w') := hI (fun W => s_l11Exists _ _ W)
   cases hq : exY y (pdOf (ps.getD k plD)) with
   | false =>
    rw [hq] at hsucc HH
    have HSU : Hid (cdsTo (exY y) (psD ps) (k + 1) = cdsTo (exY y) (psD ps) k) := hI (by rw [hsucc]; simp)
    clear hsucc hq hln
    generalize ps.getD k plD = l at *
    generalize tx l.1 = s0 at *
    generalize l.2.1 = s1 at *
    generalize l.2.2.1 = s2 at *
    generalize l.2.2.2.1 = s3 at *
    generalize l.2.2.2.2.1 = s4 at *
    generalize l.2.2.2.2.2.2.length = s5 at *
    generalize l.2.2.2.2.2.1 = s6 at *
    go_wp2_with fail
    refine (HH.out _).mono ?_
    rintro e w6 ⟨rfl, hx6⟩
    go_wp2
    go_roundw
    case rel => exact ⟨k + 1, by omega, by go_num, hI (by rw [HSU.out]; exact HV.out.ext hx6), xT hxr hx6⟩
    case measure => simp [intOf]; omega
   | true =>
    rw [hq] at hsucc HH
    have HSU : Hid (cdsTo (exY y) (psD ps) (k + 1) = cdsTo (exY y) (psD ps) k ++ [(ps.getD k plD).1]) := hI (by rw [hsucc]; simp; rfl)
    have HBL := hI (fun (W : World) (g : Nat) (hB : Blk W g 9 #[.string (tx (ps.getD k plD).1)]) => blk_s1c hB)
    have HLN : Hid ((cdsTo (exY y) (psD ps) k).length ≤ 1000) := hI (by omega)
    clear hsucc hq hln
    generalize ps.getD k plD = l at *
    generalize tx l.1 = s0 at *
    generalize l.2.1 = s1 at *
    generalize l.2.2.1 = s2 at *
    generalize l.2.2.2.1 = s3 at *
    generalize l.2.2.2.2.1 = s4 at *
    generalize l.2.2.2.2.2.2.length = s5 at *
    generalize l.2.2.2.2.2.1 = s6 at *
    have hsr := hxr.size
    go_wp2_with fail
    refine (HH.out _).mono ?_
    rintro e w6 ⟨rfl, hx6⟩
    obtain ⟨hc6, hf6⟩ := hx6.rules
    have hs6 := hx6.size
    (try simp at hs6)
    have := (show b9 < w6.heap.size from by omega)
    have HV1 : Hid (OwS w6 w.heap.size _ (cdsTo (exY y) (psD ps) k)) := hI (HV.out.ext hx6)
    go_wp2_with (at_builtin; refine wpList_append_sl elS len_encS one_encS rfl _ _ rfl rfl (HV1.out.ext (xA xR)) (xs := [l.1]) rfl (HBL.out _ _ (bN (by omega))) (by have := HLN.out; simp; unfold maxLen; omega) (by have := HLN.out; simp; omega) (by first | omega | (simp; omega)) ?_)
    intro v' w7 hown hgrow _
    have HV2 := hI hown
    have hx7 : Ext w w7 := by
     refine Ext.grown ?_ hgrow (fun q hq => (HV.out.row q hq).1)
     exact xA (xT hxr hx6)
    clear hown hgrow
    go_wp2
    go_roundw
    case rel => exact ⟨k + 1, by omega, by go_num, hI (by rw [HSU.out]; exact HV2.out), hx7⟩
    case measure => simp [intOf]; omega
  ·obtain rfl : k = n := by omega
   have HO : Hid (OwS w5 w.heap.size _ (cdsP (exY y) (psD ps))) := hI (by rw [← HFIN.out]; exact HV.out)
   go_wp2
   go_ret2
   exact ⟨_, rfl, HO.out.ext xR, hxr⟩
theorem cds_found {D : List Pd} {p : Pd → Bool} {x : List UInt8} (h : x ∈ cdsP p D) : (fndP D x).isSome = true := by
 unfold cdsP at h
 rw [List.mem_map] at h
 obtain ⟨d, hd, e⟩ := h
 unfold fndP
 rw [List.find?_isSome]
 exact ⟨d, (List.mem_filter.1 hd).1, by rw [beq_iff_eq]; exact e⟩
theorem isP_fnd' {w : World} {A A' : Option Addr} {n c m c' : Nat} {ps : List Pl} {L : List Lk} (h : WIn w A A' n c m c' ps L) (hw : wdB (psD ps) L = true) {z : List UInt8} (hf : (fndP (psD ps) z).isSome = true) : ∃ v, IsP w ((fndP (psD ps) z).getD pdD) v := by
 obtain ⟨k, hk1, hk2, hk3, hk4⟩ := fnd_some hf
 rw [psD_len] at hk2
 rw [psD_at hk2] at hk3
 refine ⟨plV (ps.getD k plD), ?_⟩
 rw [hk3]
 exact isP_at h hw hk2
theorem names12 {w : World} {d : Pd} {v : Value} (h : IsP w d v) : d.2.2.2.2.length ≤ 12 := by
 obtain ⟨p, _, rfl, h3, _⟩ := h
 exact (nsB_iff.1 (plB_iff.1 h3).2.2.2.1).2
theorem IsP.texts {w : World} {d : Pd} {v : Value} (h : IsP w d v) (y : Int) : Calls Tryz.prog 82 #[v, .int .i64 y] w fun e w' => ∃ v', e = .returned v' ∧ OwS w' w.heap.size v' (txL d.2.2.2.2 y) ∧ Ext w w' := by
 have h12 := names12 h
 obtain ⟨p, g1, rfl, g3, rfl⟩ := h
 have h13 : p.2.2.2.2.2.2.length ≤ 12 := h12
 exact i_textsIn p y w g1 (by omega)
section
variable {w : World} {A A' B B' : Option Addr} {n c m c' n2 c2 m2 d2 : Nat} {ps ps2 : List Pl} {L L2 : List Lk}
set_option maxRecDepth 20000 in
set_option maxHeartbeats 12800000 in
theorem i_differIn2 (x : List UInt8) (y : Int) (b3 b5 b4 : Nat) (h : WIn w A A' n c m c' ps L) (h2 : WIn w B B' n2 c2 m2 d2 ps2 L2) (hw : wdB (psD ps) L = true) (hw2 : wdB (psD ps2) L2 = true) (hf : (fndP (psD ps) x).isSome = true) (hf2 : (fndP (psD ps2) x).isSome = true)
  (k3 : Blk w b3 27 #[.slice A n c, .slice A' m c']) (k5 : w.cell? ⟨b5, 0, none⟩ = some (.int .i64 y)) (k4 : Blk w b4 27 #[.slice B n2 c2, .slice B' m2 d2]) :
  Calls Tryz.prog 81 (#[.string (tx x)] ++ #[.pointer (some ⟨b3, 0, none⟩), .pointer (some ⟨b5, 0, none⟩), .pointer (some ⟨b4, 0, none⟩)]) w fun e w' => e = .returned (.bool (dfB (psD ps) L (psD ps2) L2 y x)) ∧ Ext w w' := by
 have hlm : m ≤ 1048576 := by rw [h.hm]; exact h.hl'
 have hlm2 : m2 ≤ 1048576 := by rw [h2.hm]; exact h2.hl'
 have HPA := hI (fun W (hW : Ext w W) => i_placeP (w := W) x (h.ext hW) hw hf)
 have HPB := hI (fun W (hW : Ext w W) => i_placeP (w := W) x (h2.ext hW) hw2 hf2)
 have HTX := hI (fun W d v (hP : IsP W d v) => hP.texts y)
 obtain ⟨pa, hpa⟩ : ∃ pa, parT L x y = pa := ⟨_, rfl⟩
 obtain ⟨pb, hpb⟩ : ∃ pb, parT L2 x y = pb := ⟨_, rfl⟩
 have HQA : Hid (∀ W, Ext w W → Calls Tryz.prog 59 #[.agg #[.slice A n c, .slice A' m c'], .string (tx x), .int .i64 y] W fun e w' => e = .returned (.string (tx pa)) ∧ Ext W w') := hI (fun W hW => by rw [← hpa]; exact i_parentOf x y (h.sk.ext hW) h.hm hlm)
 have HQB : Hid (∀ W, Ext w W → Calls Tryz.prog 59 #[.agg #[.slice B n2 c2, .slice B' m2 d2], .string (tx x), .int .i64 y] W fun e w' => e = .returned (.string (tx pb)) ∧ Ext W w') := hI (fun W hW => by rw [← hpb]; exact i_parentOf x y (h2.sk.ext hW) h2.hm hlm2)
 obtain ⟨va, hva⟩ := isP_fnd' h hw hf
 obtain ⟨vb, hvb⟩ := isP_fnd' h2 hw2 hf2
 have ha12 := names12 hva
 have hb12 := names12 hvb
 have hD : dfB (psD ps) L (psD ps2) L2 y x = (!(txL ((fndP (psD ps) x).getD pdD).2.2.2.2 y == txL ((fndP (psD ps2) x).getD pdD).2.2.2.2 y) || !((tx pa).toList == (tx pb).toList)) := by
  rw [tx_beq, ← hpa, ← hpb]; rfl
 rw [hD]
 generalize (fndP (psD ps) x).getD pdD = da at *
 generalize (fndP (psD ps2) x).getD pdD = db at *
 have HE : Hid (∀ W v v' q1 q2, OwS W q1 v (txL da.2.2.2.2 y) → OwS W q2 v' (txL db.2.2.2.2 y) → Calls Tryz.prog 79 #[v, v'] W fun e w' => e = .returned (.bool (txL da.2.2.2.2 y == txL db.2.2.2.2 y)) ∧ Ext W w') := hI (fun W v v' q1 q2 hO hO' => by
  obtain ⟨A1, e1, rfl, hS1, _⟩ := hO.sl len_encS
  obtain ⟨A2, e2, rfl, hS2, _⟩ := hO'.sl len_encS
  exact i_EqualS _ _ _ _ _ _ _ _ _ hS1 hS2 rfl rfl (Nat.le_trans (txTo_len _ _ _) (by omega)) (Nat.le_trans (txTo_len _ _ _) (by omega)))
 have e3 := k3.lt
 have e4 := k4.lt
 have e5 : b5 < w.heap.size := World.block_lt_of_cell? _ _ k5
 have HK : Hid (∀ W, Ext w W → W.cell? ⟨b3, 0, none⟩ = some (.slice A n c) ∧ W.cell? ⟨b3, 1, none⟩ = some (.slice A' m c') ∧ W.cell? ⟨b5, 0, none⟩ = some (.int .i64 y) ∧ W.cell? ⟨b4, 0, none⟩ = some (.slice B n2 c2) ∧ W.cell? ⟨b4, 1, none⟩ = some (.slice B' m2 d2)) := hI (fun W hW => ⟨(k3.ext hW).cell 0, (k3.ext hW).cell 1, (hW.cell _ _ e5).trans k5, (k4.ext hW).cell 0, (k4.ext hW).cell 1⟩)
 obtain ⟨g1, g2, g3, g4, g5⟩ := HK.out w (Ext.refl _)
 generalize hq1 : (txL da.2.2.2.2 y == txL db.2.2.2.2 y) = q1 at *
 clear hq1 h h2 hw hw2 hf hf2 k3 k4 k5 hD hpa hpb hva hvb ha12 hb12
 generalize tx pa = sa at *
 generalize tx pb = sb at *
 have HPP : Hid (∀ v d, (v = .agg #[.slice A n c, .slice A' m c'] ∧ d = da) ∨ (v = .agg #[.slice B n2 c2, .slice B' m2 d2] ∧ d = db) → ∀ W, Ext w W → Calls Tryz.prog 24 #[v, .string (tx x)] W fun e w' => ∃ (s0 : ByteArray) (s1 s2 s3 : Int) (s4 : Option Addr) (s5 s6 : Nat), Hid (IsP W d (.agg #[.string s0, .int .i64 s1, .int .i64 s2, .int .i64 s3, .slice s4 s5 s6])) ∧ e = .returned (.agg #[.string s0, .int .i64 s1, .int .i64 s2, .int .i64 s3, .slice s4 s5 s6]) ∧ Ext W w') := hI (fun v d hv W hW => by
  rcases hv with ⟨rfl, rfl⟩ | ⟨rfl, rfl⟩
  ·exact HPA.out W hW
  ·exact HPB.out W hW)
 have HQQ : Hid (∀ v s, (v = .agg #[.slice A n c, .slice A' m c'] ∧ s = sa) ∨ (v = .agg #[.slice B n2 c2, .slice B' m2 d2] ∧ s = sb) → ∀ W, Ext w W → Calls Tryz.prog 59 #[v, .string (tx x), .int .i64 y] W fun e w' => e = .returned (.string s) ∧ Ext W w') := hI (fun v s hv W hW => by
  rcases hv with ⟨rfl, rfl⟩ | ⟨rfl, rfl⟩
  ·exact HQA.out W hW
  ·exact HQB.out W hW)
 clear HPA HPB HQA HQB
 generalize tx x = sx at *
 cases q1 with
 | false =>
   rw [show (!false || !(sa.toList == sb.toList)) = true from rfl]
   go_enter Tryz.func81, Tryz.ntmps81
   go_wp2
   refine wp_region_held_drew (S := (fun w' => w'.cell? ⟨b3, 0, none⟩ = some (.slice A n c) ∧ w'.cell? ⟨b3, 1, none⟩ = some (.slice A' m c') ∧ w'.cell? ⟨b5, 0, none⟩ = some (.int .i64 y) ∧ w'.cell? ⟨b4, 0, none⟩ = some (.slice B n2 c2) ∧ w'.cell? ⟨b4, 1, none⟩ = some (.slice B' m2 d2))) (by kernel_rfl) (by (first | go_keep | exact HK.out _ (by (with_reducible repeat (first | exact Ext.refl _ | assumption | (apply Src.ext; assumption) | refine Ext.alloc ?_ _ | refine Ext.drew ?_ | refine Ext.drewN ?_ _ | (refine Ext.setCell' ?_ ?_ _; solve | omega | simp | (simp; omega)) | refine Ext.trans ?_ (by assumption)))))) (fun hHeld => ?_)
   (refine wpAnyH_takeD (i := 0) (d := some 6) (v := ?_) rfl rfl (by kernel_rfl) (by kernel_rfl) (by kernel_rfl) (fun _ _ _ h => h) (Or.inl ⟨by rfl, ?_⟩) (by assumption) ?_; rotate_left; focus (intro w hSw; (try dsimp only at hSw); go_simp; (try with_reducible rfl); done); (try simp only [Act.put, List.setIfInBounds_toArray, List.set_cons_zero, List.set_cons_succ]))
   (refine wpAnyH_takeD (i := 1) (d := some 7) (v := ?_) rfl rfl (by kernel_rfl) (by kernel_rfl) (by kernel_rfl) (fun _ _ _ h => h) (Or.inl ⟨by rfl, ?_⟩) (by assumption) ?_; rotate_left; focus (intro w hSw; (try dsimp only at hSw); go_simp; (try with_reducible rfl); done); (try simp only [Act.put, List.setIfInBounds_toArray, List.set_cons_zero, List.set_cons_succ]))
   (refine wpAnyH_takeD (i := 3) (d := some 9) (v := ?_) rfl rfl (by kernel_rfl) (by kernel_rfl) (by kernel_rfl) (fun _ _ _ h => h) (Or.inl ⟨by rfl, ?_⟩) (by assumption) ?_; rotate_left; focus (intro w hSw; (try dsimp only at hSw); go_simp; (try with_reducible rfl); done); (try simp only [Act.put, List.setIfInBounds_toArray, List.set_cons_zero, List.set_cons_succ]))
   (refine wpAnyH_takeD (i := 5) (d := some 11) (v := ?_) rfl rfl (by kernel_rfl) (by kernel_rfl) (by kernel_rfl) (fun _ _ _ h => h) (Or.inl ⟨by rfl, ?_⟩) (by assumption) ?_; rotate_left; focus (intro w hSw; (try dsimp only at hSw); go_simp; (try with_reducible rfl); done); (try simp only [Act.put, List.setIfInBounds_toArray, List.set_cons_zero, List.set_cons_succ]))
   (refine wpAnyH_takeD (i := 6) (d := some 12) (v := ?_) rfl rfl (by kernel_rfl) (by kernel_rfl) (by kernel_rfl) (fun _ _ _ h => h) (Or.inl ⟨by rfl, ?_⟩) (by assumption) ?_; rotate_left; focus (intro w hSw; (try dsimp only at hSw); go_simp; (try with_reducible rfl); done); (try simp only [Act.put, List.setIfInBounds_toArray, List.set_cons_zero, List.set_cons_succ]))
   (refine wpAnyH_takeD (i := 8) (d := some 14) (v := ?_) rfl rfl (by kernel_rfl) (by kernel_rfl) (by kernel_rfl) (fun _ _ _ h => h) (Or.inl ⟨by rfl, ?_⟩) (by assumption) ?_; rotate_left; focus (intro w hSw; (try dsimp only at hSw); go_simp; (try with_reducible rfl); done); (try simp only [Act.put, List.setIfInBounds_toArray, List.set_cons_zero, List.set_cons_succ]))
   (refine wpAnyH_ready (rs := [2]) (by kernel_rfl) (by simp) ?_)
   refine AllReadyH.cons rfl (fun K hK => ?_) AllReadyH.nil
   go_simp
   (go_at_call 24; refine (HPP.out _ _ (by first | exact .inl ⟨rfl, rfl⟩ | exact .inr ⟨rfl, rfl⟩) _ (xD xR)).mono ?_; rintro e w6 ⟨s0, s1, s2, s3, s4, s5, s6, HIA, rfl, hx6⟩; have hs6 := hx6.size)
   (try go_wp2_with fail)
   (refine hK.out _ _ (by  (first | go_keep | exact HK.out _ (xT (xD xR) hx6)) ) (fun hHeld => ?_); clear hK K; (try simp only [Act.put, List.setIfInBounds_toArray, List.set_cons_zero, List.set_cons_succ]))
   (refine wpAnyH_ready (rs := [4]) (by kernel_rfl) (by simp) ?_)
   refine AllReadyH.cons rfl (fun K hK => ?_) AllReadyH.nil
   go_simp
   (go_at_call 82; refine (HTX.out _ _ _ (IsP.ext (Hid.out (by assumption)) hx6)).mono ?_; rintro e w8 ⟨v8, rfl, hO8, hx8⟩; have hs8 := hx8.size; have HO8 := hI hO8; clear hO8)
   (try go_wp2_with fail)
   (refine hK.out _ _ (by  (first | go_keep | exact HK.out _ (xT (xT (xD xR) hx6) hx8)) ) (fun hHeld => ?_); clear hK K; (try simp only [Act.put, List.setIfInBounds_toArray, List.set_cons_zero, List.set_cons_succ]))
   (refine wpAnyH_ready (rs := [7]) (by kernel_rfl) (by simp) ?_)
   refine AllReadyH.cons rfl (fun K hK => ?_) AllReadyH.nil
   go_simp
   (go_at_call 24; refine (HPP.out _ _ (by first | exact .inl ⟨rfl, rfl⟩ | exact .inr ⟨rfl, rfl⟩) _ (xT (xT (xD xR) hx6) hx8)).mono ?_; rintro e w6 ⟨s0, s1, s2, s3, s4, s5, s6, HIA, rfl, hx6⟩; have hs6 := hx6.size)
   (try go_wp2_with fail)
   (refine hK.out _ _ (by  (first | go_keep | exact HK.out _ (xT (xT (xT (xD xR) (by assumption)) hx8) hx6)) ) (fun hHeld => ?_); clear hK K; (try simp only [Act.put, List.setIfInBounds_toArray, List.set_cons_zero, List.set_cons_succ]))
   (refine wpAnyH_ready (rs := [9]) (by kernel_rfl) (by simp) ?_)
   refine AllReadyH.cons rfl (fun K hK => ?_) AllReadyH.nil
   go_simp
   (go_at_call 82; refine (HTX.out _ _ _ (IsP.ext (Hid.out (by assumption)) hx6)).mono ?_; rintro e w8 ⟨v8, rfl, hO8, hx8⟩; have hs8 := hx8.size; have HO8 := hI hO8; clear hO8)
   (try go_wp2_with fail)
   (refine hK.out _ _ (by  (first | go_keep | exact HK.out _ (xT (xT (xT (xT (xD xR) (by assumption)) (by assumption)) hx6) hx8)) ) (fun hHeld => ?_); clear hK K; (try simp only [Act.put, List.setIfInBounds_toArray, List.set_cons_zero, List.set_cons_succ]))
   (refine wpAnyH_ready (rs := [10]) (by kernel_rfl) (by simp) ?_)
   refine AllReadyH.cons rfl (fun K hK => ?_) AllReadyH.nil
   go_simp
   (go_at_call 79; refine (HE.out _ _ _ _ _ (Own.ext (Hid.out (by assumption)) (xT hx6 hx8)) (Own.ext (Hid.out (by assumption)) xR)).mono ?_; rintro e w10 ⟨rfl, hx10⟩; have hs10 := hx10.size)
   (try go_wp2_with fail)
   (refine hK.out _ _ (by  (first | go_keep | exact HK.out _ (xT (xT (xT (xT (xT (xD xR) (by assumption)) (by assumption)) hx6) hx8) hx10)) ) (fun hHeld => ?_); clear hK K; (try simp only [Act.put, List.setIfInBounds_toArray, List.set_cons_zero, List.set_cons_succ]))
   (refine wpAnyH_takeD (i := 11) (d := some 17) (v := ?_) rfl rfl (by kernel_rfl) (by kernel_rfl) (by kernel_rfl) (fun _ _ _ h => h) (Or.inl ⟨by rfl, ?_⟩) (by assumption) ?_; rotate_left; focus (intro w hSw; (try dsimp only at hSw); go_simp; (try with_reducible rfl); done); (try simp only [Act.put, List.setIfInBounds_toArray, List.set_cons_zero, List.set_cons_succ]))
   (refine wpAnyH_takeD (i := 12) (d := some 18) (v := ?_) rfl rfl (by kernel_rfl) (by kernel_rfl) (by kernel_rfl) (fun _ _ _ h => h) (Or.inl ⟨by rfl, ?_⟩) (by assumption) ?_; rotate_left; focus (intro w hSw; (try dsimp only at hSw); go_simp; (try with_reducible rfl); done); (try simp only [Act.put, List.setIfInBounds_toArray, List.set_cons_zero, List.set_cons_succ]))
   (refine wpAnyH_takeD (i := 13) (d := some 19) (v := undef) rfl rfl (by kernel_rfl) (by kernel_rfl) (by kernel_rfl) (fun _ _ _ h => h) (Or.inr ⟨by rfl, rfl⟩) (by assumption) ?_; (try simp only [Act.put, List.setIfInBounds_toArray, List.set_cons_zero, List.set_cons_succ]))
   (refine wpAnyH_takeD (i := 14) (d := some 20) (v := undef) rfl rfl (by kernel_rfl) (by kernel_rfl) (by kernel_rfl) (fun _ _ _ h => h) (Or.inr ⟨by rfl, rfl⟩) (by assumption) ?_; (try simp only [Act.put, List.setIfInBounds_toArray, List.set_cons_zero, List.set_cons_succ]))
   (refine wpAnyH_takeD (i := 15) (d := some 21) (v := undef) rfl rfl (by kernel_rfl) (by kernel_rfl) (by kernel_rfl) (fun _ _ _ h => h) (Or.inr ⟨by rfl, rfl⟩) (by assumption) ?_; (try simp only [Act.put, List.setIfInBounds_toArray, List.set_cons_zero, List.set_cons_succ]))
   (refine wpAnyH_takeD (i := 16) (d := some 22) (v := undef) rfl rfl (by kernel_rfl) (by kernel_rfl) (by kernel_rfl) (fun _ _ _ h => h) (Or.inr ⟨by rfl, rfl⟩) (by assumption) ?_; (try simp only [Act.put, List.setIfInBounds_toArray, List.set_cons_zero, List.set_cons_succ]))
   (refine wpAnyH_takeD (i := 17) (d := some 23) (v := undef) rfl rfl (by kernel_rfl) (by kernel_rfl) (by kernel_rfl) (fun _ _ _ h => h) (Or.inr ⟨by rfl, rfl⟩) (by assumption) ?_; (try simp only [Act.put, List.setIfInBounds_toArray, List.set_cons_zero, List.set_cons_succ]))
   (refine wpAnyH_takeD (i := 18) (d := some 24) (v := undef) rfl rfl (by kernel_rfl) (by kernel_rfl) (by kernel_rfl) (fun _ _ _ h => h) (Or.inr ⟨by rfl, rfl⟩) (by assumption) ?_; (try simp only [Act.put, List.setIfInBounds_toArray, List.set_cons_zero, List.set_cons_succ]))
   (refine wpAnyH_takeD (i := 19) (d := some 25) (v := undef) rfl rfl (by kernel_rfl) (by kernel_rfl) (by kernel_rfl) (fun _ _ _ h => h) (Or.inr ⟨by rfl, rfl⟩) (by assumption) ?_; (try simp only [Act.put, List.setIfInBounds_toArray, List.set_cons_zero, List.set_cons_succ]))
   (refine wpAnyH_takeD (i := 20) (d := some 26) (v := undef) rfl rfl (by kernel_rfl) (by kernel_rfl) (by kernel_rfl) (fun _ _ _ h => h) (Or.inr ⟨by rfl, rfl⟩) (by assumption) ?_; (try simp only [Act.put, List.setIfInBounds_toArray, List.set_cons_zero, List.set_cons_succ]))
   (refine wpAnyH_takeD (i := 21) (d := some 27) (v := undef) rfl rfl (by kernel_rfl) (by kernel_rfl) (by kernel_rfl) (fun _ _ _ h => h) (Or.inr ⟨by rfl, rfl⟩) (by assumption) ?_; (try simp only [Act.put, List.setIfInBounds_toArray, List.set_cons_zero, List.set_cons_succ]))
   (refine wpAnyH_takeD (i := 22) (d := some 28) (v := ?_) rfl rfl (by kernel_rfl) (by kernel_rfl) (by kernel_rfl) (fun _ _ _ h => h) (Or.inl ⟨by rfl, ?_⟩) (by assumption) ?_; rotate_left; focus (intro w hSw; (try dsimp only at hSw); go_simp; (try with_reducible rfl); done); (try simp only [Act.put, List.setIfInBounds_toArray, List.set_cons_zero, List.set_cons_succ]))
   (refine wpAnyH_takeD (i := 23) (d := some 5) (v := ?_) rfl rfl (by kernel_rfl) (by kernel_rfl) (by kernel_rfl) (fun _ _ _ h => h) (Or.inl ⟨by rfl, ?_⟩) (by assumption) ?_; rotate_left; focus (intro w hSw; (try dsimp only at hSw); go_simp; (try with_reducible rfl); done); (try simp only [Act.put, List.setIfInBounds_toArray, List.set_cons_zero, List.set_cons_succ]))
   refine wpAnyH_done (by kernel_rfl) ?_ _
   go_wp2
   go_ret
   exact ⟨rfl, xT (xT (xT (xT (xT (xD xR) (by assumption)) (by assumption)) hx6) hx8) hx10⟩
 | true =>
   rw [show (!true || !(sa.toList == sb.toList)) = !(sa.toList == sb.toList) from rfl]
   go_enter Tryz.func81, Tryz.ntmps81
   go_wp2
   go_region_held3 (fun w' => w'.cell? ⟨b3, 0, none⟩ = some (.slice A n c) ∧ w'.cell? ⟨b3, 1, none⟩ = some (.slice A' m c') ∧ w'.cell? ⟨b5, 0, none⟩ = some (.int .i64 y) ∧ w'.cell? ⟨b4, 0, none⟩ = some (.slice B n2 c2) ∧ w'.cell? ⟨b4, 1, none⟩ = some (.slice B' m2 d2)) (first | go_keep | exact HK.out _ (by with_reducible first|exact xT (xD xR) hx6|exact xT (xT (xD xR) hx6) hx8|exact xT (xT (xT (xD xR) (by assumption)) hx8) hx6|exact xT (xT (xT (xT (xD xR) (by assumption)) (by assumption)) hx6) hx8|exact xT (xT (xT (xT (xT (xD xR) (by assumption)) (by assumption)) hx6) hx8) hx10|exact xT (xT (xT (xT (xT (xT (xD xR) (by assumption)) (by assumption)) hx6) hx8) hx10) hx11|exact xT (xT (xT (xT (xT (xT (xT (xD xR) (by assumption)) (by assumption)) hx6) hx8) hx10) (by assumption)) hx11)) (first | (go_at_call 24; refine (HPP.out _ _ (by first | exact .inl ⟨rfl, rfl⟩ | exact .inr ⟨rfl, rfl⟩) _ (by with_reducible first|exact xD xR|exact xT (xT (xD xR) hx6) hx8)).mono ?_; rintro e w6 ⟨s0, s1, s2, s3, s4, s5, s6, HIA, rfl, hx6⟩; have hs6 := hx6.size) | (go_at_call 82; refine (HTX.out _ _ _ (IsP.ext (Hid.out (by assumption)) hx6)).mono ?_; rintro e w8 ⟨v8, rfl, hO8, hx8⟩; have hs8 := hx8.size; have HO8 := hI hO8; clear hO8) | (go_at_call 79; refine (HE.out _ _ _ _ _ (Own.ext (Hid.out (by assumption)) (xT hx6 hx8)) (Own.ext (Hid.out (by assumption)) xR)).mono ?_; rintro e w10 ⟨rfl, hx10⟩; have hs10 := hx10.size) | (go_at_call 59; refine (HQQ.out _ _ (by first | exact .inl ⟨rfl, rfl⟩ | exact .inr ⟨rfl, rfl⟩) _ (by with_reducible first|exact xT (xT (xT (xT (xT (xD xR) (by assumption)) (by assumption)) hx6) hx8) hx10|exact xT (xT (xT (xT (xT (xT (xD xR) (by assumption)) (by assumption)) hx6) hx8) hx10) hx11)).mono ?_; rintro e w11 ⟨rfl, hx11⟩; have hs11 := hx11.size))
   all_goals
    go_wp2
    go_ret
    exact ⟨rfl, xT (xT (xT (xT (xT (xT (xT (xD xR) (by assumption)) (by assumption)) hx6) hx8) hx10) (by assumption)) hx11⟩
end
theorem en_differIn2 (args : Array Value) (w : World) : (callFunc 81 args).run Tryz.prog w = .ok (.enter 81 args) w := enters_isSome Tryz.func81 (by kernel_rfl) (by kernel_rfl) args w
end Go.Proofs.YtlnliajnipniaaaGreatDoor
