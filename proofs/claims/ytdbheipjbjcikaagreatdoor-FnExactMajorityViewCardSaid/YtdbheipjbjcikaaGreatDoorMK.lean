/- Contracts of the maps: IsMap, walked over the translation. -/
import Derived.Test.YtdbheipjbjcikaaGreatDoorMJ
import Derived.Deep.RegionHeld3
import Derived.Deep.DeepCutAuto
import Derived.RegionTactic
import Derived.BigRegion
import Derived.WalkLawsBesides
import Derived.WalkSpells
import Derived.Lib.MinMax
import Derived.Outline
namespace Go.Proofs.YtdbheipjbjcikaaGreatDoor
open Go.RowKit
attribute [local go_sem] ExtOf.cell ExtOf.frozen

theorem enters_isSome {P : Program} {f : FuncId} {fn : Func} (hf : P.funcs[f]? = some fn) (hname : (fn.name == "runtime.NumGoroutine") = false) (hb : fn.body.isSome = true) (args : Array Value) (w : World) : (callFunc f args).run P w = .ok (.enter f args) w := by
  have h1 : fn.name ≠ "runtime.NumGoroutine" := by simpa using hname
  obtain ⟨c, hc⟩ := Option.isSome_iff_exists.1 hb
  simp [callFunc, hf, h1, hc, mark]
theorem en_ring (args : Array Value) (w : World) : (callFunc 151 args).run Tryz.prog w = .ok (.enter 151 args) w := enters_isSome Tryz.func151 (by kernel_rfl) (by kernel_rfl) args w
theorem en_fit (args : Array Value) (w : World) : (callFunc 152 args).run Tryz.prog w = .ok (.enter 152 args) w := enters_isSome Tryz.func152 (by kernel_rfl) (by kernel_rfl) args w
theorem i_anyBad (A : Option Addr) (c : Nat) (rs : List Rg) (w : World) (h : SlAt w 1 encR A rs) (hr : Rings w rs) (hl : rs.length ≤ 1048576) :
    Calls Tryz.prog 150 #[.slice A rs.length c, .func (.func 151) #[] #[]] w fun e w' => e = .returned (.bool (rs.any fun r => !ringB r.2.2)) ∧ Ext w w' :=
  i_ContainsFuncR (fun r => !ringB r.2.2) _ #[] en_ring A rs.length c rs w h rfl hl (fun r hm W hx => i_notRing r W ((hr r hm).1.ext hx) (hr r hm).2.1 (hr r hm).2.2)
theorem i_anyMeet (A : Option Addr) (n c nb : Nat) (rs : List Rg) (r0 : Rg) (w : World) (h : SlAt w 1 encR A rs) (hr : Rings w rs) (hn : n = rs.length) (hl : n ≤ 1048576) (hv : ∀ r ∈ rs, ringB r.2.2 = true) (hv0 : ringB r0.2.2 = true) (h0 : SlAt w 2 encP r0.1 r0.2.2)
    (hb : nb < w.heap.size) (hc : w.cell? ⟨nb, 0, none⟩ = some (.slice r0.1 r0.2.2.length r0.2.1)) :
    Calls Tryz.prog 150 #[.slice A n c, .func (.func 152) #[] #[.pointer (some ⟨nb, 0, none⟩)]] w fun e w' => e = .returned (.bool (rs.any fun r => !fitT r0.2.2 r.2.2)) ∧ Ext w w' :=
  i_ContainsFuncR (fun r => !fitT r0.2.2 r.2.2) _ #[.pointer (some ⟨nb, 0, none⟩)] en_fit A n c rs w h hn hl (fun r hm W hx => i_notFit r0 r nb W ((hx.cell nb 0 hb).trans hc) (h0.ext hx) ((hr r hm).1.ext hx) hv0 (hv r hm))
theorem psOf_mem {rs : List Rg} (h : ∀ i, i < rs.length → ringB (rs.getD i rgD).2.2 = true) : ∀ r ∈ rs, ringB r.2.2 = true := fun r hr => by
  obtain ⟨j, hj, rfl⟩ := List.mem_iff_getElem.1 hr
  have := h j hj
  simpa [List.getD, hj] using this
set_option maxRecDepth 20000 in
set_option maxHeartbeats 12800000 in
theorem i_IsMap (A : Option Addr) (c : Nat) (rs : List Rg) (w : World) (h : SlAt w 1 encR A rs) (hr : Rings w rs) (hl : rs.length ≤ 1048576) (hc : rs.length ≤ c) :
    Calls Tryz.prog 92 #[.slice A rs.length c] w fun e w' => e = .returned (.bool (mapB (psOf rs))) ∧ Ext w w' := by
  by_cases h6 : rs.length ≤ 6
  · have H6 := Lib.hid h6
    by_cases hbad : (rs.any fun r => !ringB r.2.2) = true
    · have HNO : Hid (¬ MapP (psOf rs)) := Lib.hid (fun hM => by
        obtain ⟨r, hm, hx⟩ := List.any_eq_true.1 hbad
        obtain ⟨j, hj, rfl⟩ := List.mem_iff_getElem.1 hm
        have := hM.2.1 j (by rw [psOf_len]; exact hj)
        rw [psOf_at hj, show rs.getD j rgD = rs[j] by simp [List.getD, hj]] at this
        rw [this] at hx
        cases hx)
      have hcall : ∀ W, Ext w W → Calls Tryz.prog 150 #[.slice A rs.length c, .func (.func 151) #[] #[]] W fun e w' => e = .returned (.bool true) ∧ Ext W w' := fun W hx => as_bool (i_anyBad A c rs W (h.ext hx) (hr.ext hx) hl) hbad
      have HC := Lib.hid hcall
      clear hbad hcall
      go_enter Tryz.func92, Tryz.ntmps92
      go_wp2_with fail
      refine (HC.out _ (Ext.refl _)).mono ?_
      rintro e w1 ⟨rfl, hx1⟩
      go_wp2
      go_ret
      exact ⟨ret_bool (mapB_no HNO.out), hx1⟩
    · have hbad' : (rs.any fun r => !ringB r.2.2) = false := Bool.eq_false_iff.2 hbad
      have hall : ∀ i, i < rs.length → ringB (rs.getD i rgD).2.2 = true := fun i hi => by
        have := List.any_eq_false.1 hbad' _ (rg_mem hi)
        simpa using this
      have HALL := Lib.hid hall
      have hcall : ∀ W, Ext w W → Calls Tryz.prog 150 #[.slice A rs.length c, .func (.func 151) #[] #[]] W fun e w' => e = .returned (.bool false) ∧ Ext W w' := fun W hx => as_bool (i_anyBad A c rs W (h.ext hx) (hr.ext hx) hl) hbad'
      have HC := Lib.hid hcall
      clear hbad hbad' hcall hall
      go_enter Tryz.func92, Tryz.ntmps92
      go_wp2_with fail
      refine (HC.out _ (Ext.refl _)).mono ?_
      rintro e w1 ⟨rfl, hx1⟩
      go_wp2
      go_loopw [14] (fun i wr => ∃ k : Nat, k ≤ rs.length ∧ i = .int .i64 k ∧ Hid (∀ i, i < k → ∀ j, j < i → fitT (rs.getD i rgD).2.2 (rs.getD j rgD).2.2 = true) ∧ Ext w wr) (fun i _ => rs.length - (intOf i).toNat)
      case atStart => exact ⟨0, by omega, rfl, fun j hj => absurd hj (by omega), hx1⟩
      case round =>
        obtain ⟨k, hk, rfl, HF, hxr⟩ := hrel
        by_cases hlt : k < rs.length
        · obtain ⟨b, off, rfl, hb⟩ := h.openR (by omega)
          have hbr : b < wr.heap.size := Nat.lt_of_lt_of_le hb hxr.size
          have hc0 := (h.ext hxr).rg' hlt
          have hrk := (hr.ext hxr) _ (rg_mem hlt)
          have hring := HALL.out k hlt
          have hv : ∀ q ∈ rs.take k, ringB q.2.2 = true := fun q hq => psOf_mem HALL.out q (List.mem_of_mem_take hq)
          have hkc : k < c := by omega
          have hkl : k = (rs.take k).length := by rw [List.length_take]; omega
          have hcall : ∀ W, Ext wr W → W.cell? ⟨wr.heap.size, 0, none⟩ = some (.slice (rs.getD k rgD).1 (rs.getD k rgD).2.2.length (rs.getD k rgD).2.1) → wr.heap.size < W.heap.size →
              Calls Tryz.prog 150 #[.slice (some ⟨b, off, none⟩) k c, .func (.func 152) #[] #[.pointer (some ⟨wr.heap.size, 0, none⟩)]] W fun e w' => e = .returned (.bool ((rs.take k).any fun q => !fitT (rs.getD k rgD).2.2 q.2.2)) ∧ Ext W w' := fun W hx hcell hsz =>
            i_anyMeet _ k c wr.heap.size (rs.take k) (rs.getD k rgD) W (((h.ext hxr).ext hx).take k) (((hr.ext hxr).ext hx).take k) hkl (by omega) hv hring (hrk.1.ext hx) hsz hcell
          rcases hq : ((rs.take k).any fun q => !fitT (rs.getD k rgD).2.2 q.2.2) with _ | _
          · have hF1 : ∀ j, j < k → fitT (rs.getD k rgD).2.2 (rs.getD j rgD).2.2 = true := fun j hj => by
              have hjl : j < rs.length := by omega
              have := List.any_eq_false.1 hq (rs.getD j rgD) (by
                rw [List.mem_take_iff_getElem]
                exact ⟨j, by omega, by simp [List.getD, hjl]⟩)
              simpa using this
            have HF2 := Lib.hid (upTo_succ HF.out hF1)
            rw [hq] at hcall
            have HC := Lib.hid hcall
            clear hq hcall hrk hring hv hkl hF1
            obtain ⟨r, hre⟩ : ∃ r, r = rs.getD k rgD := ⟨_, rfl⟩
            rw [← hre] at hc0 HC
            clear hre
            go_wp2_with fail
            refine (HC.out _ (by (repeat (first | with_reducible exact Ext.refl _ | with_reducible assumption | ((with_reducible apply Src.ext); with_reducible assumption) | with_reducible refine Ext.alloc ?_ _ | with_reducible refine Ext.drew ?_ | with_reducible refine Ext.drewN ?_ _ | ((with_reducible refine Ext.setCell' ?_ ?_ _); solve | omega | simp | (simp; omega)) | (with_reducible refine Ext.trans ?_ (by with_reducible assumption))))) (by first | exact (Blk.new rfl : Blk _ wr.heap.size 30 #[.slice r.1 r.2.2.length r.2.1]).cell 0 | simp) (by simp)).mono ?_
            rintro e w2 ⟨rfl, hx2⟩
            go_wp2
            go_roundw
            case rel => exact ⟨k + 1, by omega, by go_num, HF2, by (repeat (first | with_reducible exact Ext.refl _ | with_reducible assumption | ((with_reducible apply Src.ext); with_reducible assumption) | with_reducible refine Ext.alloc ?_ _ | with_reducible refine Ext.drew ?_ | with_reducible refine Ext.drewN ?_ _ | ((with_reducible refine Ext.setCell' ?_ ?_ _); solve | omega | simp | (simp; omega)) | (with_reducible refine Ext.trans ?_ (by with_reducible assumption))))⟩
            case measure => simp [intOf]; omega
          · have HNO : Hid (¬ MapP (psOf rs)) := Lib.hid (fun hM => by
              obtain ⟨q, hm, hx⟩ := List.any_eq_true.1 hq
              rw [List.mem_take_iff_getElem] at hm
              obtain ⟨j, hj, rfl⟩ := hm
              have hjk : j < k := by omega
              have hjl : j < rs.length := by omega
              have h1 := hM.2.2 k j hjk (by rw [psOf_len]; exact hlt)
              rw [psOf_at hlt, psOf_at hjl, ← fit_apart (ringB_iff.1 (HALL.out k hlt)) (ringB_iff.1 (HALL.out j hjl)), show rs.getD j rgD = rs[j] by simp [List.getD, hjl]] at h1
              rw [h1] at hx
              cases hx)
            rw [hq] at hcall
            have HC := Lib.hid hcall
            clear hq hcall hrk hring hv hkl
            obtain ⟨r, hre⟩ : ∃ r, r = rs.getD k rgD := ⟨_, rfl⟩
            rw [← hre] at hc0 HC
            clear hre
            go_wp2_with fail
            refine (HC.out _ (by (repeat (first | with_reducible exact Ext.refl _ | with_reducible assumption | ((with_reducible apply Src.ext); with_reducible assumption) | with_reducible refine Ext.alloc ?_ _ | with_reducible refine Ext.drew ?_ | with_reducible refine Ext.drewN ?_ _ | ((with_reducible refine Ext.setCell' ?_ ?_ _); solve | omega | simp | (simp; omega)) | (with_reducible refine Ext.trans ?_ (by with_reducible assumption))))) (by first | exact (Blk.new rfl : Blk _ wr.heap.size 30 #[.slice r.1 r.2.2.length r.2.1]).cell 0 | simp) (by simp)).mono ?_
            rintro e w2 ⟨rfl, hx2⟩
            go_wp2
            go_ret
            exact ⟨ret_bool (mapB_no HNO.out), by (repeat (first | with_reducible exact Ext.refl _ | with_reducible assumption | ((with_reducible apply Src.ext); with_reducible assumption) | with_reducible refine Ext.alloc ?_ _ | with_reducible refine Ext.drew ?_ | with_reducible refine Ext.drewN ?_ _ | ((with_reducible refine Ext.setCell' ?_ ?_ _); solve | omega | simp | (simp; omega)) | (with_reducible refine Ext.trans ?_ (by with_reducible assumption))))⟩
        · obtain rfl : k = rs.length := by omega
          have HYES : Hid (MapP (psOf rs)) := Lib.hid ⟨by rw [psOf_len]; exact H6.out, fun i hi => by rw [psOf_len] at hi; rw [psOf_at hi]; exact HALL.out i hi, fun i j hj hi => by
            rw [psOf_len] at hi
            have hjl : j < rs.length := by omega
            rw [psOf_at hi, psOf_at hjl, ← fit_apart (ringB_iff.1 (HALL.out i hi)) (ringB_iff.1 (HALL.out j hjl))]
            exact HF.out i hi j hj⟩
          go_wp2
          go_ret
          exact ⟨ret_bool (mapB_yes HYES.out), by (repeat (first | with_reducible exact Ext.refl _ | with_reducible assumption | ((with_reducible apply Src.ext); with_reducible assumption) | with_reducible refine Ext.alloc ?_ _ | with_reducible refine Ext.drew ?_ | with_reducible refine Ext.drewN ?_ _ | ((with_reducible refine Ext.setCell' ?_ ?_ _); solve | omega | simp | (simp; omega)) | (with_reducible refine Ext.trans ?_ (by with_reducible assumption))))⟩
  · have HNO : Hid (¬ MapP (psOf rs)) := Lib.hid (fun hM => h6 (by have := hM.1; rwa [psOf_len] at this))
    go_enter Tryz.func92, Tryz.ntmps92
    go_wp2
    go_ret
    exact ⟨ret_bool (mapB_no HNO.out), by (repeat (first | with_reducible exact Ext.refl _ | with_reducible assumption | ((with_reducible apply Src.ext); with_reducible assumption) | with_reducible refine Ext.alloc ?_ _ | with_reducible refine Ext.drew ?_ | with_reducible refine Ext.drewN ?_ _ | ((with_reducible refine Ext.setCell' ?_ ?_ _); solve | omega | simp | (simp; omega)) | (with_reducible refine Ext.trans ?_ (by with_reducible assumption))))⟩

end Go.Proofs.YtdbheipjbjcikaaGreatDoor
