/- The plain laws of parents and ways up. The laws' helpers over texts and links. The roots of links in a year, as the specification tells them. -/
import Derived.Test.YtncccigbiefnkaaGreatDoorW2
import Derived.Test.YtncccigbiefnkaaGreatDoorS1
namespace Go.Proofs.YtncccigbiefnkaaGreatDoor
open Go.RowKit

section
variable {α : Type} [DecidableEq α] {p : α → Option α}
theorem way_pre : ∀ (f : Nat) (w : List α) (c : α), ∃ t, (way p f w c).1 = w ++ t
  | 0, w, c => ⟨[], by simp [way]⟩
  | f + 1, w, c => by
    rcases hp : p c with _ | n
    · exact ⟨[], by rw [way_none hp]; simp⟩
    · by_cases hm : n ∈ w
      · exact ⟨[], by rw [way_hit (Nat.succ_pos f) hp hm]; simp⟩
      · rw [way_on hp hm]
        obtain ⟨t, ht⟩ := way_pre f (w ++ [n]) n
        exact ⟨n :: t, by rw [ht]; simp⟩
theorem way_from : ∀ (f : Nat) (w : List α) (c : α), ∀ z ∈ (way p f w c).1, z ∈ w ∨ ∃ x, p x = some z
  | 0, w, c, z, hz => .inl (by simpa [way] using hz)
  | f + 1, w, c, z, hz => by
    rcases hp : p c with _ | n
    · rw [way_none hp] at hz; exact .inl hz
    · by_cases hm : n ∈ w
      · rw [way_hit (Nat.succ_pos f) hp hm] at hz; exact .inl hz
      · rw [way_on hp hm] at hz
        rcases way_from f (w ++ [n]) n z hz with h | h
        · rcases List.mem_append.1 h with h | h
          · exact .inl h
          · exact .inr ⟨c, by rw [hp, List.mem_singleton.1 h]⟩
        · exact .inr h
end
theorem wayU_none' {L : List Lk} {x : List UInt8} {y : Int} (hp : par L x y = none) : (wayU L x y).1 = [x] := by
  unfold wayU
  rw [way_none (p := fun x => par L x y) hp]
theorem wayU_some' {L : List Lk} {x n : List UInt8} {y : Int} (hp : par L x y = some n) (hf : (wayU L x y).2 = false) : n ≠ x ∧ ∃ t, (wayU L x y).1 = x :: n :: t := by
  unfold wayU at *
  by_cases hm : n ∈ [x]
  · rw [way_hit (p := fun x => par L x y) (Nat.succ_pos _) hp hm] at hf
    cases hf
  · rw [way_on (p := fun x => par L x y) hp hm]
    obtain ⟨t, ht⟩ := way_pre (p := fun x => par L x y) L.length ([x] ++ [n]) n
    exact ⟨fun e => hm (by rw [e]; simp), t, by rw [ht]; rfl⟩
theorem flat_of {L : List Lk} {x z : List UInt8} {y : Int} (h : lkC L [x] y = 0) : (wayU L z y).2 = false := (lksB_iff.1 (lkC_zero h).1).way z y
/-- what the way up begins with, and whether it goes on -/
theorem up_law {L : List Lk} {x : List UInt8} {y : Int} (h : lkC L [x] y = 0) : 0 < (wayU L x y).1.length ∧ (wayU L x y).1.getD 0 [] = x ∧ decide (1 < (wayU L x y).1.length) = (par L x y).isSome ∧ ((par L x y).isSome = true → (wayU L x y).1.getD 1 [] = parT L x y) := by
  rcases hp : par L x y with _ | n
  · rw [wayU_none' hp]; simp
  · obtain ⟨_, t, ht⟩ := wayU_some' hp (flat_of h)
    rw [ht]
    refine ⟨by simp, by simp, by simp, fun _ => ?_⟩
    unfold parT
    rw [hp]; rfl
theorem par_word {L : List Lk} {x n : List UInt8} {y : Int} (hL : lksB L = true) (hp : par L x y = some n) : smL n 1 16 = true := by
  unfold par at hp
  rcases hl : lkOf L x y with _ | l
  · rw [hl] at hp; cases hp
  · rw [hl] at hp
    obtain ⟨hm, _, _⟩ := lkOf_some hl
    obtain ⟨i, hi, rfl⟩ := List.mem_iff_getElem.1 hm
    have := ((lksB_iff.1 hL).1.1 i hi).1
    simp only [List.getD, List.getElem?_eq_getElem hi, Option.getD_some, lkB, Bool.and_eq_true] at this
    have e : L[i].2.1 = n := by simpa using hp
    rw [← e]; exact this.1.1.2
/-- the way's last place has no parent -/
theorem last_law {L : List Lk} {x : List UInt8} {y : Int} (h : lkC L [x] y = 0) : parC L ((wayU L x y).1.getD ((wayU L x y).1.length - 1) []) y = 4 := by
  obtain ⟨c, hc, hl, he⟩ := wayU_last L x y
  rw [hc]
  rw [flat_of h] at he
  obtain ⟨h1, h2, h3⟩ := lkC_zero h
  have hm : c ∈ (wayU L x y).1 := by
    rw [← hc]
    have hq : (wayU L x y).1.length - 1 < (wayU L x y).1.length := by omega
    simp [List.getD, hq]
  have hw : smL c 1 16 = true := by
    rcases way_from (p := fun x => par L x y) _ _ _ c hm with hx | ⟨z, hz⟩
    · rw [List.mem_singleton.1 hx]; simpa using h2
    · exact par_word h1 hz
  exact (parC_none (lkC_ok h1 (by simp [hw]) h3) he.symm).1
/-- children lie inside, and no place lies in itself -/
theorem chi_in {L : List Lk} {x z : List UInt8} {y : Int} (h : lkC L [x] y = 0) (hz : z ∈ chiR L x y) : z ∈ insR L x y := by
  unfold chiR at hz
  unfold insR
  rw [if_pos h, List.mem_filter] at *
  refine ⟨hz.1, ?_⟩
  have hq : parT L z y = x := by simpa [chiB] using hz.2
  have hx : x ≠ [] := smA_ne (lkC_zero h).2.1
  have hp : par L z y = some x := by rw [← hq]; exact parT_some (by rw [hq]; exact hx)
  obtain ⟨hn, t, ht⟩ := wayU_some' hp (flat_of h)
  unfold insB
  rw [ht]
  simp
  exact fun e => hn e.symm
theorem self_out {L : List Lk} {x : List UInt8} {y : Int} : x ∉ insR L x y := by
  unfold insR
  split
  · rw [List.mem_filter]
    rintro ⟨_, h⟩
    simp [insB] at h
  · simp
/-- a link that was added tells its child's parent -/
theorem add_law {L : List Lk} {l : Lk} (h : addC L l = 0) : parC (L ++ [l]) l.1 l.2.2.1 = 0 ∧ parV (L ++ [l]) l.1 l.2.2.1 = l.2.1 := by
  unfold addC at h
  split at h
  · rename_i hb
    split at h
    · rename_i hL
      have hl := hb.2
      simp only [lkB, Bool.and_eq_true] at hl
      have hsp := hl.2
      have hs : inB l.2.2.1 (-3000) 3000 = true ∧ lkHas l l.2.2.1 = true := by
        simp [spB, inB, lkHas] at hsp ⊢
        omega
      have hk : lkC (L ++ [l]) [l.1] l.2.2.1 = 0 := lkC_ok hL (by simp [hl.1.1.1]) hs.1
      have hm : l ∈ L ++ [l] := by simp
      obtain ⟨m, hm2⟩ := lkOf_ex hm hs.2
      obtain ⟨h1, h2, h3⟩ := lkOf_some hm2
      have e : m = l := alone_eq (lksB_iff.1 hL).1.alone h1 hm h2 h3 hs.2
      have hp : par (L ++ [l]) l.1 l.2.2.1 = some l.2.1 := by unfold par; rw [hm2, e]; rfl
      have := parC_some hk (by rw [hp]; rfl)
      exact ⟨this.1, by rw [this.2, parT_of hp]⟩
    · cases h
  · cases h
end Go.Proofs.YtncccigbiefnkaaGreatDoor
namespace Go.Proofs.YtncccigbiefnkaaGreatDoor
open Go.RowKit
attribute [local go_sem] ExtOf.cell ExtOf.frozen

theorem l_bigQ (A : Option Addr) (c : Nat) (n : Nat) (w : World) : Calls Tryz.prog 7 #[.slice A n c] w fun e w' => e = .returned (.bool (decide (4096 < n))) ∧ w = w' := by
  go_enter Tryz.func7, Tryz.ntmps7
  go_wp2
  go_ret
  exact ⟨ret_bool' (by rw [decide_eq_decide]; omega), rfl⟩
set_option maxHeartbeats 3200000 in
theorem l_likeTexts (A A' : Option Addr) (n c n' c' : Nat) (xs : List (List UInt8)) (w : World) (h : SlAt w 1 encS A xs) (h' : SlAt w 1 encS A' xs) (hn : n = xs.length) (hn' : n' = xs.length) (hl : n ≤ 1048576) :
    Calls Tryz.prog 45 #[.slice A n c, .slice A' n' c'] w fun e w' => e = .returned (.bool true) ∧ Ext w w' := by
  obtain rfl : n' = n := by rw [hn', hn]
  have hn1 : (((n' : Nat) : Int) != (n' : Int)) = false := by simp
  have HN := Lib.hid hn
  clear hn hn'
  go_enter Tryz.func45, Tryz.ntmps45
  go_wp2
  go_loopw [5] (fun i wr => ∃ k : Nat, k ≤ n' ∧ i = .int .i64 k ∧ Ext w wr) (fun i _ => n' - (intOf i).toNat)
  case atStart => exact ⟨0, Nat.zero_le _, rfl, by (repeat (first | with_reducible exact Ext.refl _ | with_reducible assumption | ((with_reducible apply Src.ext); with_reducible assumption) | with_reducible refine Ext.alloc ?_ _ | with_reducible refine Ext.drew ?_ | with_reducible refine Ext.drewN ?_ _ | ((with_reducible refine Ext.setCell' ?_ ?_ _); solve | omega | simp | (simp; omega)) | (with_reducible refine Ext.trans ?_ (by with_reducible assumption))))⟩
  case round =>
    obtain ⟨k, hk, rfl, hx⟩ := hrel
    by_cases hlt : k < n'
    · obtain ⟨b, off, rfl, hb, d0⟩ := (h.ext hx).st (k := k) (by rw [← HN.out]; exact hlt)
      obtain ⟨b', off', rfl, hb', e0⟩ := (h'.ext hx).st (k := k) (by rw [← HN.out]; exact hlt)
      generalize tx (xs.getD k []) = p at *
      have hxx : (p.toList == p.toList) = true := by simp
      go_wp2
      (refine wp_region_ext (by kernel_rfl) (by kernel_rfl) ?_; (repeat (go_big_quiet_step (fail))); refine wpQuiet_nil ?_; intro wq hxwq; obtain ⟨hcwq, hfwq⟩ := hxwq.rules; have hswq := hxwq.size; (try simp at hswq))
      go_wp2
      go_roundw
      case rel => exact ⟨k + 1, by omega, by go_num, by (repeat (first | with_reducible exact Ext.refl _ | with_reducible assumption | ((with_reducible apply Src.ext); with_reducible assumption) | with_reducible refine Ext.alloc ?_ _ | with_reducible refine Ext.drew ?_ | with_reducible refine Ext.drewN ?_ _ | ((with_reducible refine Ext.setCell' ?_ ?_ _); solve | omega | simp | (simp; omega)) | (with_reducible refine Ext.trans ?_ (by with_reducible assumption))))⟩
      case measure => simp [intOf]; omega
    · go_wp2
      go_ret
      exact ⟨rfl, by (repeat (first | with_reducible exact Ext.refl _ | with_reducible assumption | ((with_reducible apply Src.ext); with_reducible assumption) | with_reducible refine Ext.alloc ?_ _ | with_reducible refine Ext.drew ?_ | with_reducible refine Ext.drewN ?_ _ | ((with_reducible refine Ext.setCell' ?_ ?_ _); solve | omega | simp | (simp; omega)) | (with_reducible refine Ext.trans ?_ (by with_reducible assumption))))⟩
set_option maxHeartbeats 3200000 in
theorem l_likeLinks (A A' : Option Addr) (n c n' c' : Nat) (xs : List Lk) (w : World) (h : SlAt w 4 encK A xs) (h' : SlAt w 4 encK A' xs) (hn : n = xs.length) (hn' : n' = xs.length) (hl : n ≤ 1048576) :
    Calls Tryz.prog 18 #[.slice A n c, .slice A' n' c'] w fun e w' => e = .returned (.bool true) ∧ Ext w w' := by
  obtain rfl : n' = n := by rw [hn', hn]
  have hn1 : (((n' : Nat) : Int) != (n' : Int)) = false := by simp
  have HN := Lib.hid hn
  clear hn hn'
  go_enter Tryz.func18, Tryz.ntmps18
  go_wp2
  go_loopw [5] (fun i wr => ∃ k : Nat, k ≤ n' ∧ i = .int .i64 k ∧ Ext w wr) (fun i _ => n' - (intOf i).toNat)
  case atStart => exact ⟨0, Nat.zero_le _, rfl, by (repeat (first | with_reducible exact Ext.refl _ | with_reducible assumption | ((with_reducible apply Src.ext); with_reducible assumption) | with_reducible refine Ext.alloc ?_ _ | with_reducible refine Ext.drew ?_ | with_reducible refine Ext.drewN ?_ _ | ((with_reducible refine Ext.setCell' ?_ ?_ _); solve | omega | simp | (simp; omega)) | (with_reducible refine Ext.trans ?_ (by with_reducible assumption))))⟩
  case round =>
    obtain ⟨k, hk, rfl, hx⟩ := hrel
    by_cases hlt : k < n'
    · obtain ⟨b, off, rfl, hb, d0, d1, d2, d3⟩ := (h.ext hx).lk (k := k) (by rw [← HN.out]; exact hlt)
      obtain ⟨b', off', rfl, hb', e0, e1, e2, e3⟩ := (h'.ext hx).lk (k := k) (by rw [← HN.out]; exact hlt)
      generalize xs.getD k lkD = l at *
      generalize tx l.1 = p at *
      generalize tx l.2.1 = q at *
      generalize l.2.2.1 = f at *
      generalize l.2.2.2 = d at *
      have hxx : (p.toList == p.toList) = true := by simp
      have hyy : (q.toList == q.toList) = true := by simp
      go_wp2
      (refine wp_region_ext (by kernel_rfl) (by kernel_rfl) ?_; (repeat (go_big_quiet_step (fail))); refine wpQuiet_nil ?_; intro wq hxwq; obtain ⟨hcwq, hfwq⟩ := hxwq.rules; have hswq := hxwq.size; (try simp at hswq))
      go_wp2
      go_roundw
      case rel => exact ⟨k + 1, by omega, by go_num, by (repeat (first | with_reducible exact Ext.refl _ | with_reducible assumption | ((with_reducible apply Src.ext); with_reducible assumption) | with_reducible refine Ext.alloc ?_ _ | with_reducible refine Ext.drew ?_ | with_reducible refine Ext.drewN ?_ _ | ((with_reducible refine Ext.setCell' ?_ ?_ _); solve | omega | simp | (simp; omega)) | (with_reducible refine Ext.trans ?_ (by with_reducible assumption))))⟩
      case measure => simp [intOf]; omega
    · go_wp2
      go_ret
      exact ⟨rfl, by (repeat (first | with_reducible exact Ext.refl _ | with_reducible assumption | ((with_reducible apply Src.ext); with_reducible assumption) | with_reducible refine Ext.alloc ?_ _ | with_reducible refine Ext.drew ?_ | with_reducible refine Ext.drewN ?_ _ | ((with_reducible refine Ext.setCell' ?_ ?_ _); solve | omega | simp | (simp; omega)) | (with_reducible refine Ext.trans ?_ (by with_reducible assumption))))⟩
set_option maxHeartbeats 3200000 in
theorem l_hasText (A : Option Addr) (n c : Nat) (xs : List (List UInt8)) (x : List UInt8) (w : World) (h : SlAt w 1 encS A xs) (hn : n = xs.length) (hl : n ≤ 1048576) :
    Calls Tryz.prog 26 #[.slice A n c, .string (tx x)] w fun e w' => e = .returned (.bool (decide (x ∈ xs))) ∧ Ext w w' := by
  have HN := Lib.hid hn
  have HX := Lib.hid (tx_toL x)
  clear hn
  generalize tx x = sx at *
  go_enter Tryz.func26, Tryz.ntmps26
  go_wp2
  go_loopw [5] (fun i wr => ∃ k : Nat, k ≤ n ∧ i = .int .i64 k ∧ Hid (x ∉ xs.take k) ∧ Ext w wr) (fun i _ => n - (intOf i).toNat)
  case atStart => exact ⟨0, Nat.zero_le _, rfl, Lib.hid (by simp), by (repeat (first | with_reducible exact Ext.refl _ | with_reducible assumption | ((with_reducible apply Src.ext); with_reducible assumption) | with_reducible refine Ext.alloc ?_ _ | with_reducible refine Ext.drew ?_ | with_reducible refine Ext.drewN ?_ _ | ((with_reducible refine Ext.setCell' ?_ ?_ _); solve | omega | simp | (simp; omega)) | (with_reducible refine Ext.trans ?_ (by with_reducible assumption))))⟩
  case round =>
    obtain ⟨k, hk, rfl, HJ, hx⟩ := hrel
    by_cases hlt : k < n
    · have hkl : k < xs.length := by rw [← HN.out]; exact hlt
      obtain ⟨b, off, rfl, hb, d0⟩ := (h.ext hx).st (k := k) hkl
      have htk : xs.take (k + 1) = xs.take k ++ [xs.getD k []] := by rw [List.take_succ_eq_append_getElem hkl]; simp [List.getD, hkl]
      have hmem : xs.getD k [] ∈ xs := by simp [List.getD, hkl]
      have hq : ((tx (xs.getD k [])).toList == sx.toList) = decide (xs.getD k [] = x) := by
        rw [tx_toL, HX.out]
        by_cases e : xs.getD k [] = x
        · rw [e]; simp
        · rw [decide_eq_false e]; exact beq_eq_false_iff_ne.2 e
      have HT := Lib.hid htk
      have HM := Lib.hid hmem
      clear htk hmem hkl
      generalize hz : xs.getD k [] = z at *
      clear hz
      generalize tx z = sz at *
      by_cases e : z = x
      · have hq' : (sz.toList == sx.toList) = true := by rw [hq, decide_eq_true e]
        have HE : Hid (decide (x ∈ xs) = true) := Lib.hid (by rw [← e]; exact decide_eq_true HM.out)
        clear hq e
        go_wp2
        go_ret
        exact ⟨ret_bool' HE.out.symm, by (repeat (first | with_reducible exact Ext.refl _ | with_reducible assumption | ((with_reducible apply Src.ext); with_reducible assumption) | with_reducible refine Ext.alloc ?_ _ | with_reducible refine Ext.drew ?_ | with_reducible refine Ext.drewN ?_ _ | ((with_reducible refine Ext.setCell' ?_ ?_ _); solve | omega | simp | (simp; omega)) | (with_reducible refine Ext.trans ?_ (by with_reducible assumption))))⟩
      · have hq' : (sz.toList == sx.toList) = false := by rw [hq, decide_eq_false e]
        have HJ2 : Hid (x ∉ xs.take (k + 1)) := Lib.hid (by rw [HT.out, List.mem_append, List.mem_singleton]; rintro (h1 | h1); exact HJ.out h1; exact e h1.symm)
        clear hq e
        go_wp2
        go_roundw
        case rel => exact ⟨k + 1, by omega, by go_num, HJ2, by (repeat (first | with_reducible exact Ext.refl _ | with_reducible assumption | ((with_reducible apply Src.ext); with_reducible assumption) | with_reducible refine Ext.alloc ?_ _ | with_reducible refine Ext.drew ?_ | with_reducible refine Ext.drewN ?_ _ | ((with_reducible refine Ext.setCell' ?_ ?_ _); solve | omega | simp | (simp; omega)) | (with_reducible refine Ext.trans ?_ (by with_reducible assumption))))⟩
        case measure => simp [intOf]; omega
    · obtain rfl : k = n := by omega
      have HE : Hid (decide (x ∈ xs) = false) := Lib.hid (decide_eq_false (by have := HJ.out; rwa [HN.out, List.take_length] at this))
      go_wp2
      go_ret
      exact ⟨ret_bool' HE.out.symm, by (repeat (first | with_reducible exact Ext.refl _ | with_reducible assumption | ((with_reducible apply Src.ext); with_reducible assumption) | with_reducible refine Ext.alloc ?_ _ | with_reducible refine Ext.drew ?_ | with_reducible refine Ext.drewN ?_ _ | ((with_reducible refine Ext.setCell' ?_ ?_ _); solve | omega | simp | (simp; omega)) | (with_reducible refine Ext.trans ?_ (by with_reducible assumption))))⟩
end Go.Proofs.YtncccigbiefnkaaGreatDoor
namespace Go.Proofs.YtncccigbiefnkaaGreatDoor
open Go.RowKit
attribute [local go_sem] ExtOf.cell ExtOf.frozen

theorem insF_mem : ∀ {l o : List Tx} {z : Tx}, z ∈ l.foldl insA o ↔ z ∈ o ∨ z ∈ l
  | [], o, z => by simp
  | x :: l, o, z => by
    rw [List.foldl_cons, insF_mem, insA_mem, List.mem_cons]
    constructor
    · rintro ((h | h) | h)
      · exact .inr (.inl h)
      · exact .inl h
      · exact .inr (.inr h)
    · rintro (h | h | h)
      · exact .inl (.inr h)
      · exact .inl (.inl h)
      · exact .inr h
theorem insF_alf : ∀ {l o : List Tx}, Alf o → Alf (l.foldl insA o)
  | [], o, h => h
  | x :: l, o, h => by rw [List.foldl_cons]; exact insF_alf (insA_alf h)
theorem insL_sort (l : List Tx) : insL l = sortA l := (sortA_eq (insF_alf List.Pairwise.nil) (fun x => by rw [insF_mem]; simp)).symm
theorem insL_len (l : List Tx) : (insL l).length ≤ l.length := by
  have hs : ∀ (l o : List Tx), (l.foldl insA o).length ≤ o.length + l.length := by
    intro l
    induction l with
    | nil => intro o; simp
    | cons x l ih =>
      intro o
      rw [List.foldl_cons, List.length_cons]
      have h1 := ih (insA o x)
      have h2 := insA_len o x
      omega
  have := hs l []
  simpa [insL] using this
theorem par_emp {L : List Lk} {x : List UInt8} {y : Int} (hT : Told L) : (tx (parT L x y)).toList.isEmpty = !(par L x y).isSome := by
  rw [tx_toL]
  cases hp : (par L x y).isSome with
  | false => rw [parT_no hp]; rfl
  | true => simpa using parT_yes hT hp


end Go.Proofs.YtncccigbiefnkaaGreatDoor
