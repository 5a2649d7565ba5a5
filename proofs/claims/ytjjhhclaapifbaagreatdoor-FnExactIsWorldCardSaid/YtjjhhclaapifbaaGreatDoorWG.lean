/- Registers, as the specification sees them. -/
import Derived.Test.YtjjhhclaapifbaaGreatDoorWF
import Derived.Deep.RegionHeld3
import Derived.Deep.DeepCutAuto
import Derived.RegionTactic
import Derived.BigRegion
import Derived.WalkLawsBesides
import Derived.WalkSpells
import Derived.Lib.MinMax
import Derived.Outline
namespace Go.Proofs.YtjjhhclaapifbaaGreatDoor
open Go.RowKit
attribute [local go_sem] ExtOf.cell ExtOf.frozen

def okR (D : List Pd) (j : Nat) : Bool := plB (D.getD j pdD) && (decide (j = 0) || Op.bytesLess (D.getD (j - 1) pdD).1 (D.getD j pdD).1)
/-- a register -/
def rgB (D : List Pd) : Bool := ((List.range D.length).all fun j => okR D j) && decide (D.length ≤ 10)
theorem rgB_iff {D : List Pd} : rgB D = true ↔ (∀ j, j < D.length → okR D j = true) ∧ D.length ≤ 10 := by simp [rgB]
theorem rgB_no {D : List Pd} {j : Nat} (hj : j < D.length) (h : okR D j = false) : rgB D = false := by
  cases e : rgB D with
  | false => rfl
  | true => rw [(rgB_iff.1 e).1 j hj] at h; cases h

set_option maxRecDepth 20000 in
set_option maxHeartbeats 12800000 in
theorem s_IsRegister (A : Option Addr) (n c : Nat) (ps : List Pl) (w : World) (h : SlAt w 5 encQ A ps) (hp : Places w ps) (hn : n = ps.length) (hl : ps.length ≤ 1048576) :
    Calls Tryz.prog 54 #[.slice A n c] w fun e w' => e = .returned (.bool (rgB (psD ps))) ∧ Ext w w' := by
  have HN := Lib.hid hn
  have hn2 : n ≤ 1048576 := by omega
  clear hn
  go_enter Tryz.func54, Tryz.ntmps54
  go_wp2
  go_loopw [3] (fun i wr => ∃ k : Nat, k ≤ n ∧ i = .int .i64 k ∧ Hid (∀ j, j < k → okR (psD ps) j = true) ∧ Ext w wr) (fun i _ => n - (intOf i).toNat)
  case atStart => exact ⟨0, by omega, rfl, fun j hj => absurd hj (by omega), by (repeat (first | with_reducible exact Ext.refl _ | with_reducible assumption | ((with_reducible apply Src.ext); with_reducible assumption) | with_reducible refine Ext.alloc ?_ _ | with_reducible refine Ext.drew ?_ | with_reducible refine Ext.drewN ?_ _ | ((with_reducible refine Ext.setCell' ?_ ?_ _); solve | omega | simp | (simp; omega)) | (with_reducible refine Ext.trans ?_ (by with_reducible assumption))))⟩
  case round =>
    obtain ⟨k, hk, rfl, HJ, hxr⟩ := hrel
    obtain ⟨w5, rfl⟩ : ∃ x, x = wr := ⟨wr, rfl⟩
    by_cases hlt : k < n
    · have hkl : k < ps.length := by have := HN.out; omega
      have hkd : k < (psD ps).length := by rw [psD_len]; exact hkl
      obtain ⟨b, off, rfl, hb, d0, d1, d2, d3, d4⟩ := (h.ext hxr).pl hkl
      have hprev : ∀ m, k = m + 1 → w5.cell? ⟨b, off + m * 5, none⟩ = some (.string (tx (ps.getD m plD).1)) ∧ (psD ps).getD m pdD = pdOf (ps.getD m plD) := fun m hm => ⟨((h.ext hxr).pl' (show m < ps.length by omega)).1, psD_at (by omega)⟩
      have HPV := Lib.hid hprev
      have hvk := (hp _ (pl_mem hkl))
      have hat := psD_at hkl
      obtain ⟨v, hve⟩ : ∃ v, v = ps.getD k plD := ⟨_, rfl⟩
      rw [← hve] at d0 d1 d2 d3 d4 hvk hat
      obtain ⟨vc, vl, va, vb, vA, vcap, vns⟩ := v
      simp only [pdOf] at d0 d1 d2 d3 d4 hat
      have HAT := Lib.hid hat
      have HVK := Lib.hid hvk
      have HC := Lib.hid (fun W (hW : Ext w W) => s_IsPlace vc vl va vb vA vns.length vcap vns W hvk.2.2.1 (hvk.1.ext hW) rfl hvk.2.2.2.1 hvk.2.2.2.2)
      have HKD := Lib.hid hkd
      have HTC := Lib.hid (tx_toL vc)
      clear hve hvk hat hprev hkd hkl
      have HS := Lib.hid h
      clear h hp
      generalize hq0 : plB (vc, vl, va, vb, vns) = q at HC
      have HQ : Hid (plB ((psD ps).getD k pdD) = q) := Lib.hid (by rw [HAT.out]; exact hq0)
      cases q with
      | false =>
        have HNO : Hid (rgB (psD ps) = false) := Lib.hid (rgB_no HKD.out (by unfold okR; rw [HQ.out]; rfl))
        generalize tx vc = sc at *
        generalize vns.length = vn at *
        clear hq0 HPV
        go_wp2
        (refine wp_region_ext (by kernel_rfl) (by kernel_rfl) ?_; (repeat (go_big_quiet_step ((go_at_call 110; exact Calls_ext (HC.out _ (hxr.trans (ExtOf.ext _))))))); refine wpQuiet_nil ?_; intro wq hxwq; obtain ⟨hcwq, hfwq⟩ := hxwq.rules; have hswq := hxwq.size; (try simp at hswq))
        go_wp2
        go_ret
        exact ⟨ret_bool HNO.out.symm, by (repeat (first | with_reducible exact Ext.refl _ | with_reducible assumption | ((with_reducible apply Src.ext); with_reducible assumption) | with_reducible refine Ext.alloc ?_ _ | with_reducible refine Ext.drew ?_ | with_reducible refine Ext.drewN ?_ _ | ((with_reducible refine Ext.setCell' ?_ ?_ _); solve | omega | simp | (simp; omega)) | (with_reducible refine Ext.trans ?_ (by with_reducible assumption))))⟩
      | true =>
        by_cases hk0 : k = 0
        · have hg0 : decide (0 < k) = false := decide_eq_false (by omega)
          have HJ2 := Lib.hid (upTo1 HJ.out (show okR (psD ps) k = true by unfold okR; rw [HQ.out, hk0]; rfl))
          generalize tx vc = sc at *
          generalize vns.length = vn at *
          clear hq0 HPV hk0
          go_wp2
          (refine wp_region_ext (by kernel_rfl) (by kernel_rfl) ?_; (repeat (go_big_quiet_step ((go_at_call 110; exact Calls_ext (HC.out _ (hxr.trans (ExtOf.ext _))))))); refine wpQuiet_nil ?_; intro wq hxwq; obtain ⟨hcwq, hfwq⟩ := hxwq.rules; have hswq := hxwq.size; (try simp at hswq))
          go_wp2
          go_roundw
          case rel => exact ⟨k + 1, by omega, by go_num, HJ2, by (repeat (first | with_reducible exact Ext.refl _ | with_reducible assumption | ((with_reducible apply Src.ext); with_reducible assumption) | with_reducible refine Ext.alloc ?_ _ | with_reducible refine Ext.drew ?_ | with_reducible refine Ext.drewN ?_ _ | ((with_reducible refine Ext.setCell' ?_ ?_ _); solve | omega | simp | (simp; omega)) | (with_reducible refine Ext.trans ?_ (by with_reducible assumption))))⟩
          case measure => simp [intOf]; omega
        · obtain ⟨m, hm⟩ : ∃ m, k = m + 1 := ⟨k - 1, by omega⟩
          obtain ⟨p0, hpa⟩ := HPV.out m hm
          have hg0 : decide (0 < k) = true := decide_eq_true (by omega)
          have hw : IntKind.i64.wrap ((k : Int) - 1) = (m : Int) := by rw [IntWalk.i64_in _ (by omega)]; omega
          have HKM : Hid (k - 1 = m ∧ ¬ k = 0) := Lib.hid ⟨by omega, hk0⟩
          have htm := tx_toL (ps.getD m plD).1
          have HVAL : Hid (okR (psD ps) k = Op.bytesLess (tx (ps.getD m plD).1).toList (tx vc).toList) := Lib.hid (by unfold okR; rw [HQ.out, HKM.out.1, hpa, HAT.out, htm, HTC.out]; simp [HKM.out.2, pdOf])
          have HLEN : Hid (m < n) := Lib.hid (by omega)
          have hmn : m < n := by omega
          have HMM := Lib.hid hm
          generalize tx vc = sc at *
          generalize tx (ps.getD m plD).1 = s0 at *
          generalize vns.length = vn at *
          clear hq0 HPV hk0 hpa htm hm
          cases hb2 : Op.bytesLess s0.toList sc.toList with
          | true =>
            have HJ2 := Lib.hid (upTo1 HJ.out (show okR (psD ps) k = true by rw [HVAL.out, hb2]))
            go_wp2
            (refine wp_region_ext (by kernel_rfl) (by kernel_rfl) ?_; (repeat (go_big_quiet_step ((go_at_call 110; exact Calls_ext (HC.out _ (hxr.trans (ExtOf.ext _))))))); refine wpQuiet_nil ?_; intro wq hxwq; obtain ⟨hcwq, hfwq⟩ := hxwq.rules; have hswq := hxwq.size; (try simp at hswq))
            go_wp2
            go_roundw
            case rel => exact ⟨k + 1, by omega, by go_num, HJ2, by (repeat (first | with_reducible exact Ext.refl _ | with_reducible assumption | ((with_reducible apply Src.ext); with_reducible assumption) | with_reducible refine Ext.alloc ?_ _ | with_reducible refine Ext.drew ?_ | with_reducible refine Ext.drewN ?_ _ | ((with_reducible refine Ext.setCell' ?_ ?_ _); solve | omega | simp | (simp; omega)) | (with_reducible refine Ext.trans ?_ (by with_reducible assumption))))⟩
            case measure => simp [intOf]; omega
          | false =>
            have HNO : Hid (rgB (psD ps) = false) := Lib.hid (rgB_no HKD.out (by rw [HVAL.out, hb2]))
            go_wp2
            (refine wp_region_ext (by kernel_rfl) (by kernel_rfl) ?_; (repeat (go_big_quiet_step ((go_at_call 110; exact Calls_ext (HC.out _ (hxr.trans (ExtOf.ext _))))))); refine wpQuiet_nil ?_; intro wq hxwq; obtain ⟨hcwq, hfwq⟩ := hxwq.rules; have hswq := hxwq.size; (try simp at hswq))
            go_wp2
            go_ret
            exact ⟨ret_bool HNO.out.symm, by (repeat (first | with_reducible exact Ext.refl _ | with_reducible assumption | ((with_reducible apply Src.ext); with_reducible assumption) | with_reducible refine Ext.alloc ?_ _ | with_reducible refine Ext.drew ?_ | with_reducible refine Ext.drewN ?_ _ | ((with_reducible refine Ext.setCell' ?_ ?_ _); solve | omega | simp | (simp; omega)) | (with_reducible refine Ext.trans ?_ (by with_reducible assumption))))⟩
    · obtain rfl : k = n := by omega
      have hres : rgB (psD ps) = decide ((k : Int) ≤ 10) := by
        have h1 := HN.out
        have h2 := psD_len ps
        cases e : decide ((k : Int) ≤ 10) with
        | true => exact rgB_iff.2 ⟨fun j hj => HJ.out j (by omega), by simp at e; omega⟩
        | false =>
          cases e2 : rgB (psD ps) with
          | false => rfl
          | true => have := (rgB_iff.1 e2).2; simp at e; omega
      have HR := Lib.hid hres
      clear hres
      go_wp2
      go_ret
      exact ⟨ret_bool HR.out.symm, by (repeat (first | with_reducible exact Ext.refl _ | with_reducible assumption | ((with_reducible apply Src.ext); with_reducible assumption) | with_reducible refine Ext.alloc ?_ _ | with_reducible refine Ext.drew ?_ | with_reducible refine Ext.drewN ?_ _ | ((with_reducible refine Ext.setCell' ?_ ?_ _); solve | omega | simp | (simp; omega)) | (with_reducible refine Ext.trans ?_ (by with_reducible assumption))))⟩
end Go.Proofs.YtjjhhclaapifbaaGreatDoor
