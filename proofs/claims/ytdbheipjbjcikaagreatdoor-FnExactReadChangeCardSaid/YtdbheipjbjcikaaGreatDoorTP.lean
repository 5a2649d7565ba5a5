/- Contracts of changes read, walked over the translation. -/
import Derived.Test.YtdbheipjbjcikaaGreatDoorTO
import Derived.Deep.RegionHeld3
import Derived.Deep.DeepCutAuto
import Derived.RegionTactic
import Derived.BigRegion
import Derived.WalkLawsBesides
import Derived.WalkSpells
import Derived.Lib.MinMax
import Derived.Outline
namespace Go.Proofs.YtdbheipjbjcikaaGreatDoor
open Go.RowKit
attribute [local go_sem] ExtOf.cell ExtOf.frozen

open Go.PlainAid
theorem chg_parts {l : List UInt8} {L : List (List UInt8)} (hL : sp 47 l = L) {p : Chg} (h : chB p.y p.k p.co p.ot p.la p.te = true) (e : l = chT p.y p.k p.co p.ot p.la p.te) : L = chL p.y p.k p.co p.ot p.la p.te := by
  rw [← hL, e, sp_chT h]
theorem frB_tx {s : ByteArray} {q : List UInt8} (h : (46 : UInt8) ∉ s.data.toList) (e : q = (dtB s).data.toList) : frB (tx q) = s := by
  rw [e, tx_data, fr_dt (fun e => h (by rw [e]; exact List.mem_singleton.2 rfl))]
theorem chB_year {y k : Int} {co ot la te : ByteArray} (h : chB y k co ot la te = true) : -9999 ≤ y ∧ y ≤ 9999 := by
  unfold chB at h
  rw [Bool.and_eq_true] at h
  have h1 := h.1
  simp [inB] at h1
  omega
theorem chg_none {l p0 p1 p2 p3 p4 p5 : List UInt8} {v k : Int} (hL : sp 47 l = [p0, p1, p2, p3, p4, p5]) (hv : ∀ y, -9999 ≤ y → y ≤ 9999 → p0 = Lib.itoa y → v = y) (hk : ∀ y, 0 ≤ y → y ≤ 3 → p1 = Lib.itoa y → k = y)
    (hn : ¬ (chB v k (tx p2) (frB (tx p3)) (frB (tx p4)) (frB (tx p5)) = true ∧ l = chT v k (tx p2) (frB (tx p3)) (frB (tx p4)) (frB (tx p5)))) : rdCh l = none := by
  refine rdCh_no fun p hp e => hn ?_
  have hpt := chg_parts hL hp e
  simp only [chL, List.cons.injEq, and_true] at hpt
  obtain ⟨a1, a2, a3, a4, a5, a6⟩ := hpt
  obtain ⟨_, n1, n2⟩ := chB_facts hp
  obtain ⟨y0, y1⟩ := chB_year hp
  obtain ⟨_, m1, m2, m3⟩ := chB_free (b := 46) (by decide) (by decide) hp
  rw [hv _ y0 y1 a1, hk _ n1 n2 a2, ← eq_tx a3.symm, frB_tx m1 a4, frB_tx m2 a5, frB_tx m3 a6]
  exact ⟨hp, e⟩
theorem chg_none0 {l p0 p1 p2 p3 p4 p5 : List UInt8} (hL : sp 47 l = [p0, p1, p2, p3, p4, p5]) (hv : ∀ y, -9999 ≤ y → y ≤ 9999 → p0 ≠ Lib.itoa y) : rdCh l = none :=
  rdCh_no fun p hp e => by
    have hpt := chg_parts hL hp e
    simp only [chL, List.cons.injEq, and_true] at hpt
    exact hv _ (chB_year hp).1 (chB_year hp).2 hpt.1
theorem chg_none1 {l p0 p1 p2 p3 p4 p5 : List UInt8} (hL : sp 47 l = [p0, p1, p2, p3, p4, p5]) (hv : ∀ y, 0 ≤ y → y ≤ 3 → p1 ≠ Lib.itoa y) : rdCh l = none :=
  rdCh_no fun p hp e => by
    have hpt := chg_parts hL hp e
    simp only [chL, List.cons.injEq, and_true] at hpt
    exact hv _ (chB_facts hp).2.1 (chB_facts hp).2.2 hpt.2.1
theorem chg_none6 {l : List UInt8} (h : (sp 47 l).length ≠ 6) : rdCh l = none :=
  rdCh_no fun p hp e => h (by rw [e, sp_chT hp]; rfl)
theorem s_l13Read (s : ByteArray) (w : World) : Calls Tryz.prog 56 #[.string s] w fun e w' => e = .returned (.string (frB s)) ∧ Ext w w' := by
  by_cases h : s.data.toList = [46]
  · rw [show frB s = ⟨#[]⟩ by unfold frB; rw [if_pos h]]
    obtain rfl : s = ⟨#[46]⟩ := eq_tx h
    go_enter Tryz.func56, Tryz.ntmps56
    go_wp2
    go_ret
    exact ⟨rfl, by (repeat (first | with_reducible exact Ext.refl _ | with_reducible assumption | ((with_reducible apply Src.ext); with_reducible assumption) | with_reducible refine Ext.alloc ?_ _ | with_reducible refine Ext.drew ?_ | with_reducible refine Ext.drewN ?_ _ | ((with_reducible refine Ext.setCell' ?_ ?_ _); solve | omega | simp | (simp; omega)) | (with_reducible refine Ext.trans ?_ (by with_reducible assumption))))⟩
  · rw [show frB s = s by unfold frB; rw [if_neg h]]
    have hne : (s.toList == [46]) = false := by rw [ByteArray.toList_eq]; exact beq_eq_false_iff_ne.2 h
    go_enter Tryz.func56, Tryz.ntmps56
    go_wp2
    go_ret
    exact ⟨rfl, by (repeat (first | with_reducible exact Ext.refl _ | with_reducible assumption | ((with_reducible apply Src.ext); with_reducible assumption) | with_reducible refine Ext.alloc ?_ _ | with_reducible refine Ext.drew ?_ | with_reducible refine Ext.drewN ?_ _ | ((with_reducible refine Ext.setCell' ?_ ?_ _); solve | omega | simp | (simp; omega)) | (with_reducible refine Ext.trans ?_ (by with_reducible assumption))))⟩
theorem i_fromDot (s : ByteArray) (w : World) : Calls Tryz.prog 61 #[.string s] w fun e w' => e = .returned (.string (frB s)) ∧ Ext w w' := by
  by_cases h : s.data.toList = [46]
  · rw [show frB s = ⟨#[]⟩ by unfold frB; rw [if_pos h]]
    obtain rfl : s = ⟨#[46]⟩ := eq_tx h
    go_enter Tryz.func61, Tryz.ntmps61
    go_wp2
    go_ret
    exact ⟨rfl, by (repeat (first | with_reducible exact Ext.refl _ | with_reducible assumption | ((with_reducible apply Src.ext); with_reducible assumption) | with_reducible refine Ext.alloc ?_ _ | with_reducible refine Ext.drew ?_ | with_reducible refine Ext.drewN ?_ _ | ((with_reducible refine Ext.setCell' ?_ ?_ _); solve | omega | simp | (simp; omega)) | (with_reducible refine Ext.trans ?_ (by with_reducible assumption))))⟩
  · rw [show frB s = s by unfold frB; rw [if_neg h]]
    have hne : (s.toList == [46]) = false := by rw [ByteArray.toList_eq]; exact beq_eq_false_iff_ne.2 h
    go_enter Tryz.func61, Tryz.ntmps61
    go_wp2
    go_ret
    exact ⟨rfl, by (repeat (first | with_reducible exact Ext.refl _ | with_reducible assumption | ((with_reducible apply Src.ext); with_reducible assumption) | with_reducible refine Ext.alloc ?_ _ | with_reducible refine Ext.drew ?_ | with_reducible refine Ext.drewN ?_ _ | ((with_reducible refine Ext.setCell' ?_ ?_ _); solve | omega | simp | (simp; omega)) | (with_reducible refine Ext.trans ?_ (by with_reducible assumption))))⟩

end Go.Proofs.YtdbheipjbjcikaaGreatDoor
