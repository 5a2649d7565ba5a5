/- Plain laws of the years in which two worlds differ: no program in sight. -/
import Derived.Test.YtapfokfbdmcokaaGreatDoorHI
namespace Go.Proofs.YtapfokfbdmcokaaGreatDoor
open Go.RowKit

/-- the texts of the names that are used in a year, among the first k -/
def txTo (ns : List Nm) (y : Int) (k : Nat) : List (List UInt8) := (usTo ns y k).map fun i => (ns.getD i.toNat nmD).1
def txL (ns : List Nm) (y : Int) : List (List UInt8) := txTo ns y ns.length
theorem txTo_succ (ns : List Nm) (y : Int) (k : Nat) : txTo ns y (k + 1) = if usB ns y k = true then txTo ns y k ++ [(ns.getD k nmD).1] else txTo ns y k := by
  unfold txTo
  rw [usTo_succ]
  split <;> simp
theorem txTo_len (ns : List Nm) (y : Int) (k : Nat) : (txTo ns y k).length ≤ k := by unfold txTo; rw [List.length_map]; exact usTo_len _ _ _
def txPart (ns : List Nm) (y : Int) (j : Nat) : List (List UInt8) := ((usL ns y).take j).map fun i => (ns.getD i.toNat nmD).1
theorem txPart_succ {ns : List Nm} {y : Int} {j : Nat} (hj : j < (usL ns y).length) : txPart ns y (j + 1) = txPart ns y j ++ [(ns.getD ((usL ns y).getD j 0).toNat nmD).1] := by
  unfold txPart
  rw [List.take_succ_eq_append_getElem hj, List.map_append]
  simp [List.getD, hj]
theorem txPart_all (ns : List Nm) (y : Int) : txPart ns y (usL ns y).length = txL ns y := by unfold txPart txL txTo usL; rw [List.take_length]
theorem txPart_len (ns : List Nm) (y : Int) (j : Nat) : (txPart ns y j).length ≤ ns.length := by
  unfold txPart
  rw [List.length_map, List.length_take]
  have := usTo_len ns y ns.length
  unfold usL
  omega
/-- a place is not the same in two worlds -/
def dfB (D : List Pd) (L : List Lk) (D' : List Pd) (L' : List Lk) (y : Int) (x : List UInt8) : Bool :=
  !(txL ((fndP D x).getD pdD).2.2.2.2 y == txL ((fndP D' x).getD pdD).2.2.2.2 y) || !(parT L x y == parT L' x y)
def exY (y : Int) (d : Pd) : Bool := exB d y
/-- two worlds differ in a year -/
def difY (D : List Pd) (L : List Lk) (D' : List Pd) (L' : List Lk) (y : Int) : Bool := !(cdsP (exY y) D == cdsP (exY y) D') || (cdsP (exY y) D).any (dfB D L D' L' y)
section
variable {D D' : List Pd} {L L' : List Lk} {y : Int}
theorem difY_codes (h : (cdsP (exY y) D == cdsP (exY y) D') = false) : difY D L D' L' y = true := by unfold difY; rw [h]; rfl
theorem difY_any (h : (cdsP (exY y) D == cdsP (exY y) D') = true) : difY D L D' L' y = (cdsP (exY y) D).any (dfB D L D' L' y) := by unfold difY; rw [h]; rfl
end
open Classical in
noncomputable def difB (D : List Pd) (L : List Lk) (D' : List Pd) (L' : List Lk) (year : Int) : Bool := decide (∃ z, -3000 ≤ z ∧ z < year ∧ difY D L D' L' z = true)
open Classical in
theorem difB_yes {D D' : List Pd} {L L' : List Lk} {year z : Int} (h1 : -3000 ≤ z) (h2 : z < year) (h : difY D L D' L' z = true) : difB D L D' L' year = true := by
  unfold difB
  exact decide_eq_true ⟨z, h1, h2, h⟩
open Classical in
theorem difB_no {D D' : List Pd} {L L' : List Lk} {year : Int} (h : ∀ z, -3000 ≤ z → z < year → difY D L D' L' z = false) : difB D L D' L' year = false := by
  unfold difB
  refine decide_eq_false ?_
  rintro ⟨z, h1, h2, h3⟩
  rw [h z h1 h2] at h3; cases h3

/-- the years in which something begins or has ended -/
def mkN (ns : List Nm) (k : Nat) : List Int := (ns.take k).flatMap fun n => [n.2.2.2.1, n.2.2.2.2 + 1]
def mkP (D : List Pd) (k : Nat) : List Int := (D.take k).flatMap fun d => [d.2.2.1, d.2.2.2.1 + 1] ++ mkN d.2.2.2.2 d.2.2.2.2.length
def mkK (L : List Lk) (k : Nat) : List Int := (L.take k).flatMap fun l => [l.2.2.1, l.2.2.2 + 1]
def mkW (D : List Pd) (L : List Lk) : List Int := ([-3000] ++ mkP D D.length) ++ mkK L L.length
theorem mkN_succ {ns : List Nm} {k : Nat} (hk : k < ns.length) : mkN ns (k + 1) = mkN ns k ++ [(ns.getD k nmD).2.2.2.1, (ns.getD k nmD).2.2.2.2 + 1] := by
  unfold mkN
  rw [List.take_succ_eq_append_getElem hk, List.flatMap_append]
  simp [List.getD, hk]
theorem mkP_succ {D : List Pd} {k : Nat} (hk : k < D.length) : mkP D (k + 1) = mkP D k ++ ([(D.getD k pdD).2.2.1, (D.getD k pdD).2.2.2.1 + 1] ++ mkN (D.getD k pdD).2.2.2.2 (D.getD k pdD).2.2.2.2.length) := by
  unfold mkP
  rw [List.take_succ_eq_append_getElem hk, List.flatMap_append]
  simp [List.getD, hk]
theorem mkK_succ {L : List Lk} {k : Nat} (hk : k < L.length) : mkK L (k + 1) = mkK L k ++ [(L.getD k lkD).2.2.1, (L.getD k lkD).2.2.2 + 1] := by
  unfold mkK
  rw [List.take_succ_eq_append_getElem hk, List.flatMap_append]
  simp [List.getD, hk]
theorem mkN_len (ns : List Nm) (k : Nat) : (mkN ns k).length ≤ 2 * k := by
  unfold mkN
  have : ∀ l : List Nm, (l.flatMap fun n => [n.2.2.2.1, n.2.2.2.2 + 1]).length = 2 * l.length := fun l => by
    induction l with
    | nil => rfl
    | cons n l ih => simp [List.flatMap_cons] at *; omega
  rw [this, List.length_take]
  omega
theorem mkK_len (L : List Lk) (k : Nat) : (mkK L k).length ≤ 2 * k := by
  unfold mkK
  have : ∀ l : List Lk, (l.flatMap fun n => [n.2.2.1, n.2.2.2 + 1]).length = 2 * l.length := fun l => by
    induction l with
    | nil => rfl
    | cons n l ih => simp [List.flatMap_cons] at *; omega
  rw [this, List.length_take]
  omega
theorem mkP_len {D : List Pd} (h : ∀ d ∈ D, d.2.2.2.2.length ≤ 12) (k : Nat) : (mkP D k).length ≤ 26 * k := by
  unfold mkP
  have : ∀ l : List Pd, (∀ d ∈ l, d.2.2.2.2.length ≤ 12) → (l.flatMap fun d => [d.2.2.1, d.2.2.2.1 + 1] ++ mkN d.2.2.2.2 d.2.2.2.2.length).length ≤ 26 * l.length := fun l => by
    induction l with
    | nil => intro _; simp
    | cons d l ih =>
      intro hl
      have h1 := ih fun d hd => hl d (List.mem_cons_of_mem _ hd)
      have h2 := hl d (List.mem_cons_self ..)
      have h3 := mkN_len d.2.2.2.2 d.2.2.2.2.length
      rw [List.flatMap_cons, List.length_append, List.length_append, List.length_cons]
      simp only [List.length_cons, List.length_nil]
      omega
  have h1 := this (D.take k) fun d hd => h d (List.mem_of_mem_take hd)
  rw [List.length_take] at h1
  omega
theorem mem_mkN {ns : List Nm} {n : Nm} (h : n ∈ ns) : n.2.2.2.1 ∈ mkN ns ns.length ∧ n.2.2.2.2 + 1 ∈ mkN ns ns.length := by
  unfold mkN
  rw [List.take_length]
  exact ⟨List.mem_flatMap.2 ⟨n, h, by simp⟩, List.mem_flatMap.2 ⟨n, h, by simp⟩⟩
theorem mem_mkP {D : List Pd} {L : List Lk} {d : Pd} (h : d ∈ D) {m : Int} (hm : m ∈ [d.2.2.1, d.2.2.2.1 + 1] ++ mkN d.2.2.2.2 d.2.2.2.2.length) : m ∈ mkW D L := by
  unfold mkW
  refine List.mem_append_left _ (List.mem_append_right _ ?_)
  unfold mkP
  rw [List.take_length]
  exact List.mem_flatMap.2 ⟨d, h, hm⟩
theorem mem_mkK {D : List Pd} {L : List Lk} {l : Lk} (h : l ∈ L) {m : Int} (hm : m ∈ [l.2.2.1, l.2.2.2 + 1]) : m ∈ mkW D L := by
  unfold mkW
  refine List.mem_append_right _ ?_
  unfold mkK
  rw [List.take_length]
  exact List.mem_flatMap.2 ⟨l, h, hm⟩
theorem mkW_first (D : List Pd) (L : List Lk) : (-3000 : Int) ∈ mkW D L := by
  unfold mkW
  exact List.mem_append_left _ (List.mem_append_left _ (by simp))
theorem mkW_lo {D : List Pd} {L : List Lk} (h : wdB D L = true) : ∀ m ∈ mkW D L, -3000 ≤ m := by
  intro m hm
  unfold mkW at hm
  rcases List.mem_append.1 hm with hm | hm
  · rcases List.mem_append.1 hm with hm | hm
    · rw [List.mem_singleton.1 hm]; exact Int.le_refl _
    · unfold mkP at hm
      rw [List.take_length] at hm
      obtain ⟨d, hd, hm⟩ := List.mem_flatMap.1 hm
      obtain ⟨j, hj, rfl⟩ := List.mem_iff_getElem.1 hd
      have hp := wdB_pl h hj
      rw [show D.getD j pdD = D[j] by simp [List.getD, hj]] at hp
      obtain ⟨_, _, h3, h4, _⟩ := plB_iff.1 hp
      obtain ⟨a1, a2, a3⟩ := spB_iff.1 h3
      rcases List.mem_append.1 hm with hm | hm
      · simp at hm
        rcases hm with rfl | rfl <;> omega
      · unfold mkN at hm
        rw [List.take_length] at hm
        obtain ⟨n, hn, hm⟩ := List.mem_flatMap.1 hm
        obtain ⟨i, hi, rfl⟩ := List.mem_iff_getElem.1 hn
        have h5 := (okN_iff.1 ((nsB_iff.1 h4).1 i hi)).1
        rw [show (D[j].2.2.2.2).getD i nmD = D[j].2.2.2.2[i] by simp [List.getD, hi]] at h5
        unfold nmB at h5
        simp only [Bool.and_eq_true] at h5
        obtain ⟨b1, b2, b3⟩ := spB_iff.1 h5.2
        simp at hm
        rcases hm with rfl | rfl <;> omega
  · unfold mkK at hm
    rw [List.take_length] at hm
    obtain ⟨l, hl, hm⟩ := List.mem_flatMap.1 hm
    obtain ⟨j, hj, rfl⟩ := List.mem_iff_getElem.1 hl
    have h1 := ((lksB_iff.1 (wdB_iff.1 h).2.1).1.1 j hj).1
    rw [show L.getD j lkD = L[j] by simp [List.getD, hj]] at h1
    unfold lkB at h1
    simp only [Bool.and_eq_true] at h1
    obtain ⟨b1, b2, b3⟩ := spB_iff.1 h1.2
    simp at hm
    rcases hm with rfl | rfl <;> omega

theorem inB_const {f t a b : Int} (hab : a ≤ b) (h1 : ¬ (a < f ∧ f ≤ b)) (h2 : ¬ (a < t + 1 ∧ t + 1 ≤ b)) : inB a f t = inB b f t := by
  apply Bool.eq_iff_iff.2
  rw [inB_iff, inB_iff]
  omega
section
variable {D D' : List Pd} {L L' : List Lk} {a b : Int}
theorem ex_const (hab : a ≤ b) (h : ∀ m ∈ mkW D L, ¬ (a < m ∧ m ≤ b)) {d : Pd} (hd : d ∈ D) : exB d a = exB d b :=
  inB_const hab (h _ (mem_mkP hd (by simp))) (h _ (mem_mkP hd (by simp)))
theorem us_const (hab : a ≤ b) (h : ∀ m ∈ mkW D L, ¬ (a < m ∧ m ≤ b)) {d : Pd} (hd : d ∈ D) : usL d.2.2.2.2 a = usL d.2.2.2.2 b := by
  have : ∀ k, k ≤ d.2.2.2.2.length → usTo d.2.2.2.2 a k = usTo d.2.2.2.2 b k := fun k => by
    induction k with
    | zero => intro _; rfl
    | succ k ih =>
      intro hk
      have hm : d.2.2.2.2.getD k nmD ∈ d.2.2.2.2 := by simp [List.getD, show k < d.2.2.2.2.length by omega]
      have e : usB d.2.2.2.2 a k = usB d.2.2.2.2 b k := inB_const hab (h _ (mem_mkP hd (List.mem_append_right _ (mem_mkN hm).1))) (h _ (mem_mkP hd (List.mem_append_right _ (mem_mkN hm).2)))
      rw [usTo_succ, usTo_succ, ih (by omega), e]
  exact this _ (Nat.le_refl _)
theorem pr_const (hab : a ≤ b) (h : ∀ m ∈ mkW D L, ¬ (a < m ∧ m ≤ b)) (x : List UInt8) : parT L x a = parT L x b := by
  unfold parT
  rw [par_const (fun l hl => lkHas_const hab (h _ (mem_mkK hl (by simp))) (h _ (mem_mkK hl (by simp)))) x]
theorem cds_const (hab : a ≤ b) (h : ∀ m ∈ mkW D L, ¬ (a < m ∧ m ≤ b)) : cdsP (exY a) D = cdsP (exY b) D := by
  unfold cdsP
  rw [List.filter_congr fun d hd => show exY a d = exY b d from ex_const (L := L) hab h hd]
theorem tx_const (hab : a ≤ b) (h : ∀ m ∈ mkW D L, ¬ (a < m ∧ m ≤ b)) (x : List UInt8) : txL ((fndP D x).getD pdD).2.2.2.2 a = txL ((fndP D x).getD pdD).2.2.2.2 b := by
  cases hf : fndP D x with
  | none => rfl
  | some d =>
    have hd : d ∈ D := List.mem_of_find?_eq_some hf
    show txL d.2.2.2.2 a = txL d.2.2.2.2 b
    have := us_const (L := L) hab h hd
    unfold usL at this
    unfold txL txTo
    rw [this]
theorem dif_const (hab : a ≤ b) (h : ∀ m ∈ mkW D L ++ mkW D' L', ¬ (a < m ∧ m ≤ b)) : difY D L D' L' a = difY D L D' L' b := by
  have h1 : ∀ m ∈ mkW D L, ¬ (a < m ∧ m ≤ b) := fun m hm => h m (List.mem_append_left _ hm)
  have h2 : ∀ m ∈ mkW D' L', ¬ (a < m ∧ m ≤ b) := fun m hm => h m (List.mem_append_right _ hm)
  have e : dfB D L D' L' a = dfB D L D' L' b := funext fun x => by
    unfold dfB
    rw [tx_const hab h1 x, tx_const hab h2 x, pr_const hab h1 x, pr_const hab h2 x]
  unfold difY
  rw [cds_const hab h1, cds_const hab h2, e]
open Classical in
/-- a year before is found among the marks -/
theorem dif_marks (hw : wdB D L = true) (hw' : wdB D' L' = true) {year : Int} : difB D L D' L' year = true ↔ ∃ m ∈ mkW D L ++ mkW D' L', m < year ∧ difY D L D' L' m = true := by
  have h := marks_law (M := mkW D L ++ mkW D' L') (lo := -3000) (year := year) (p := difY D L D' L') (List.mem_append_left _ (mkW_first D L)) (fun m hm => (List.mem_append.1 hm).elim (mkW_lo hw m) (mkW_lo hw' m)) (fun a b _ hab hm => dif_const hab hm)
  unfold difB
  rw [decide_eq_true_iff]
  exact h
end
theorem getD_at2 {α : Type} {l : List α} {k : Nat} {d : α} (hk : k < l.length) : l.getD k d = l[k] := by simp [List.getD, hk]
/-- the marks looked at so far -/
theorem dif_hit {D D' : List Pd} {L L' : List Lk} (hw : wdB D L = true) (hw' : wdB D' L' = true) {year : Int} {k : Nat} (hk : k < (mkW D L ++ mkW D' L').length) (h1 : (mkW D L ++ mkW D' L').getD k 0 < year) (h : difY D L D' L' ((mkW D L ++ mkW D' L').getD k 0) = true) : difB D L D' L' year = true :=
  (dif_marks hw hw').2 ⟨_, mem_getD hk, h1, h⟩
theorem dif_none {D D' : List Pd} {L L' : List Lk} (hw : wdB D L = true) (hw' : wdB D' L' = true) {year : Int} (h : ∀ k, k < (mkW D L ++ mkW D' L').length → (mkW D L ++ mkW D' L').getD k 0 < year → difY D L D' L' ((mkW D L ++ mkW D' L').getD k 0) = false) : difB D L D' L' year = false := by
  cases e : difB D L D' L' year with
  | false => rfl
  | true =>
    obtain ⟨m, hm, h1, h2⟩ := (dif_marks hw hw').1 e
    obtain ⟨k, hk, rfl⟩ := List.mem_iff_getElem.1 hm
    have := h k hk (by rw [getD_at2 hk]; exact h1)
    rw [getD_at2 hk] at this
    rw [this] at h2; cases h2
end Go.Proofs.YtapfokfbdmcokaaGreatDoor
