/- The plain laws of parents and ways up. The laws' helpers over texts and links. The roots of links in a year, as the specification tells them. -/
import Derived.Test.YtbnkiibjhfcffaaGreatDoorW2
import Derived.Test.YtbnkiibjhfcffaaGreatDoorS1
namespace Go.Proofs.YtbnkiibjhfcffaaGreatDoor
open Go.RowKit

section
variable {α : Type} [DecidableEq α] {p : α → Option α}
end

end Go.Proofs.YtbnkiibjhfcffaaGreatDoor

namespace Go.Proofs.YtbnkiibjhfcffaaGreatDoor
open Go.RowKit
attribute [local go_sem] ExtOf.cell ExtOf.frozen

theorem l_bigQ (A : Option Addr) (c : Nat) (n : Nat) (w : World) : Calls Tryz.prog 4 #[.slice A n c] w fun e w' => e = .returned (.bool (decide (4096 < n))) ∧ w = w' := by
  go_enter Tryz.func4, Tryz.ntmps4
  go_wp2
  go_ret
  exact ⟨ret_bool' (by rw [decide_eq_decide]; omega), rfl⟩
set_option maxHeartbeats 3200000 in
theorem l_likeTexts (A A' : Option Addr) (n c n' c' : Nat) (xs : List (List UInt8)) (w : World) (h : SlAt w 1 encS A xs) (h' : SlAt w 1 encS A' xs) (hn : n = xs.length) (hn' : n' = xs.length) (hl : n ≤ 1048576) :
    Calls Tryz.prog 16 #[.slice A n c, .slice A' n' c'] w fun e w' => e = .returned (.bool true) ∧ Ext w w' := by
  obtain rfl : n' = n := by rw [hn', hn]
  have hn1 : (((n' : Nat) : Int) != (n' : Int)) = false := by simp
  have HN := Lib.hid hn
  clear hn hn'
  go_enter Tryz.func16, Tryz.ntmps16
  go_wp2
  go_loopw [5] (fun i wr => ∃ k : Nat, k ≤ n' ∧ i = .int .i64 k ∧ Ext w wr) (fun i _ => n' - (intOf i).toNat)
  case atStart => exact ⟨0, Nat.zero_le _, rfl, by (with_reducible repeat (first | exact Ext.refl _ | assumption | (apply Src.ext; assumption) | refine Ext.alloc ?_ _ | refine Ext.drew ?_ | refine Ext.drewN ?_ _ | (refine Ext.setCell' ?_ ?_ _; solve | omega | simp | (simp; omega)) | refine Ext.trans ?_ (by assumption)))⟩
  case round =>
    obtain ⟨k, hk, rfl, hx⟩ := hrel
    by_cases hlt : k < n'
    · obtain ⟨b, off, rfl, hb, d0⟩ := (h.ext hx).st (k := k) (by rw [← HN.out]; exact hlt)
      obtain ⟨b', off', rfl, hb', e0⟩ := (h'.ext hx).st (k := k) (by rw [← HN.out]; exact hlt)
      generalize tx (xs.getD k []) = p at *
      have hxx : (p.toList == p.toList) = true := by simp
      go_wp2
      (refine wp_region_ext (by kernel_rfl) (by kernel_rfl) ?_; (repeat (go_big_quiet_step (fail))); refine wpQuiet_nil ?_; intro wq hxwq; obtain ⟨hcwq, hfwq⟩ := hxwq.rules; have hswq := hxwq.size; (try simp at hswq))
      go_wp2
      go_roundw
      case rel => exact ⟨k + 1, by omega, by go_num, by (with_reducible repeat (first | exact Ext.refl _ | assumption | (apply Src.ext; assumption) | refine Ext.alloc ?_ _ | refine Ext.drew ?_ | refine Ext.drewN ?_ _ | (refine Ext.setCell' ?_ ?_ _; solve | omega | simp | (simp; omega)) | refine Ext.trans ?_ (by assumption)))⟩
      case measure => simp [intOf]; omega
    · go_wp2
      go_ret
      exact ⟨rfl, by (with_reducible repeat (first | exact Ext.refl _ | assumption | (apply Src.ext; assumption) | refine Ext.alloc ?_ _ | refine Ext.drew ?_ | refine Ext.drewN ?_ _ | (refine Ext.setCell' ?_ ?_ _; solve | omega | simp | (simp; omega)) | refine Ext.trans ?_ (by assumption)))⟩
set_option maxHeartbeats 3200000 in
theorem l_hasText (A : Option Addr) (n c : Nat) (xs : List (List UInt8)) (x : List UInt8) (w : World) (h : SlAt w 1 encS A xs) (hn : n = xs.length) (hl : n ≤ 1048576) :
    Calls Tryz.prog 19 #[.slice A n c, .string (tx x)] w fun e w' => e = .returned (.bool (decide (x ∈ xs))) ∧ Ext w w' := by
  have HN := Lib.hid hn
  have HX := Lib.hid (tx_toL x)
  clear hn
  generalize tx x = sx at *
  go_enter Tryz.func19, Tryz.ntmps19
  go_wp2
  go_loopw [5] (fun i wr => ∃ k : Nat, k ≤ n ∧ i = .int .i64 k ∧ Hid (x ∉ xs.take k) ∧ Ext w wr) (fun i _ => n - (intOf i).toNat)
  case atStart => exact ⟨0, Nat.zero_le _, rfl, Lib.hid (by simp), by (with_reducible repeat (first | exact Ext.refl _ | assumption | (apply Src.ext; assumption) | refine Ext.alloc ?_ _ | refine Ext.drew ?_ | refine Ext.drewN ?_ _ | (refine Ext.setCell' ?_ ?_ _; solve | omega | simp | (simp; omega)) | refine Ext.trans ?_ (by assumption)))⟩
  case round =>
    obtain ⟨k, hk, rfl, HJ, hx⟩ := hrel
    by_cases hlt : k < n
    · have hkl : k < xs.length := by rw [← HN.out]; exact hlt
      obtain ⟨b, off, rfl, hb, d0⟩ := (h.ext hx).st (k := k) hkl
      have htk : xs.take (k + 1) = xs.take k ++ [xs.getD k []] := by rw [List.take_succ_eq_append_getElem hkl]; simp [List.getD, hkl]
      have hmem : xs.getD k [] ∈ xs := by simp [List.getD, hkl]
      have hq : ((tx (xs.getD k [])).toList == sx.toList) = decide (xs.getD k [] = x) := by
        rw [tx_toL, HX.out]
        by_cases e : xs.getD k [] = x
        · rw [e]; simp
        · rw [decide_eq_false e]; exact beq_eq_false_iff_ne.2 e
      have HT := Lib.hid htk
      have HM := Lib.hid hmem
      clear htk hmem hkl
      generalize hz : xs.getD k [] = z at *
      clear hz
      generalize tx z = sz at *
      by_cases e : z = x
      · have hq' : (sz.toList == sx.toList) = true := by rw [hq, decide_eq_true e]
        have HE : Hid (decide (x ∈ xs) = true) := Lib.hid (by rw [← e]; exact decide_eq_true HM.out)
        clear hq e
        go_wp2
        go_ret
        exact ⟨ret_bool' HE.out.symm, by (with_reducible repeat (first | exact Ext.refl _ | assumption | (apply Src.ext; assumption) | refine Ext.alloc ?_ _ | refine Ext.drew ?_ | refine Ext.drewN ?_ _ | (refine Ext.setCell' ?_ ?_ _; solve | omega | simp | (simp; omega)) | refine Ext.trans ?_ (by assumption)))⟩
      · have hq' : (sz.toList == sx.toList) = false := by rw [hq, decide_eq_false e]
        have HJ2 : Hid (x ∉ xs.take (k + 1)) := Lib.hid (by rw [HT.out, List.mem_append, List.mem_singleton]; rintro (h1 | h1); exact HJ.out h1; exact e h1.symm)
        clear hq e
        go_wp2
        go_roundw
        case rel => exact ⟨k + 1, by omega, by go_num, HJ2, by (with_reducible repeat (first | exact Ext.refl _ | assumption | (apply Src.ext; assumption) | refine Ext.alloc ?_ _ | refine Ext.drew ?_ | refine Ext.drewN ?_ _ | (refine Ext.setCell' ?_ ?_ _; solve | omega | simp | (simp; omega)) | refine Ext.trans ?_ (by assumption)))⟩
        case measure => simp [intOf]; omega
    · obtain rfl : k = n := by omega
      have HE : Hid (decide (x ∈ xs) = false) := Lib.hid (decide_eq_false (by have := HJ.out; rwa [HN.out, List.take_length] at this))
      go_wp2
      go_ret
      exact ⟨ret_bool' HE.out.symm, by (with_reducible repeat (first | exact Ext.refl _ | assumption | (apply Src.ext; assumption) | refine Ext.alloc ?_ _ | refine Ext.drew ?_ | refine Ext.drewN ?_ _ | (refine Ext.setCell' ?_ ?_ _; solve | omega | simp | (simp; omega)) | refine Ext.trans ?_ (by assumption)))⟩
end Go.Proofs.YtbnkiibjhfcffaaGreatDoor
namespace Go.Proofs.YtbnkiibjhfcffaaGreatDoor
open Go.RowKit
attribute [local go_sem] ExtOf.cell ExtOf.frozen

end Go.Proofs.YtbnkiibjhfcffaaGreatDoor
