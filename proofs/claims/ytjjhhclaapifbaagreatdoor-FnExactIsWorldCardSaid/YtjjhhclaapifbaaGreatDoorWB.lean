/- Lists of names, as the specification sees them. -/
import Derived.Test.YtjjhhclaapifbaaGreatDoorWA
import Derived.Deep.RegionHeld3
import Derived.Deep.DeepCutAuto
import Derived.RegionTactic
import Derived.BigRegion
import Derived.WalkLawsBesides
import Derived.WalkSpells
import Derived.Lib.MinMax
import Derived.Outline
namespace Go.Proofs.YtjjhhclaapifbaaGreatDoor
open Go.RowKit
attribute [local go_sem] ExtOf.cell ExtOf.frozen

/-- the texts of these names are not long -/
def Names (ns : List Nm) : Prop := ∀ j, GoodN (ns.getD j nmD)

set_option maxRecDepth 20000 in
set_option maxHeartbeats 12800000 in
theorem s_AreNames (A : Option Addr) (n c : Nat) (ns : List Nm) (w : World) (h : SlAt w 5 encN A ns) (hn : n = ns.length) (hl : ns.length ≤ 1048576) (hg : Names ns) :
    Calls Tryz.prog 165 #[.slice A n c] w fun e w' => e = .returned (.bool (nsB ns)) ∧ Ext w w' := by
  have HN := Lib.hid hn
  have hn2 : n ≤ 1048576 := by omega
  clear hn
  go_enter Tryz.func165, Tryz.ntmps165
  go_wp2
  go_loopw [3] (fun i wr => ∃ k : Nat, k ≤ n ∧ i = .int .i64 k ∧ Hid (∀ j, j < k → okN ns j = true) ∧ Ext w wr) (fun i _ => n - (intOf i).toNat)
  case atStart => exact ⟨0, by omega, rfl, fun j hj => absurd hj (by omega), by (repeat (first | with_reducible exact Ext.refl _ | with_reducible assumption | ((with_reducible apply Src.ext); with_reducible assumption) | with_reducible refine Ext.alloc ?_ _ | with_reducible refine Ext.drew ?_ | with_reducible refine Ext.drewN ?_ _ | ((with_reducible refine Ext.setCell' ?_ ?_ _); solve | omega | simp | (simp; omega)) | (with_reducible refine Ext.trans ?_ (by with_reducible assumption))))⟩
  case round =>
    obtain ⟨k, hk, rfl, HJ, hxr⟩ := hrel
    obtain ⟨w5, rfl⟩ : ∃ x, x = wr := ⟨wr, rfl⟩
    by_cases hlt : k < n
    · have hkl : k < ns.length := by have := HN.out; omega
      obtain ⟨b, off, rfl, hb, d0, d1, d2, d3, d4⟩ := (h.ext hxr).nm hkl
      have HS := Lib.hid h
      have hgk := hg k
      obtain ⟨v, hve⟩ : ∃ v, v = ns.getD k nmD := ⟨_, rfl⟩
      rw [← hve] at d0 d1 d2 d3 d4 hgk
      have HV := Lib.hid hve
      obtain ⟨vt, vl, vs, va, vb⟩ := v
      simp only at d0 d1 d2 d3 d4
      have HC := Lib.hid (fun W => (s_IsName (tx vt) (tx vl) vs va vb W (by rw [tx_size]; exact hgk.1) (by rw [tx_size]; exact hgk.2)))
      rw [tx_list, tx_list] at HC
      have HC : Hid (∀ W, Calls Tryz.prog 192 #[.agg #[.string (tx vt), .string (tx vl), .int .i64 vs, .int .i64 va, .int .i64 vb]] W fun e w' => e = .returned (.bool (nmB (ns.getD k nmD))) ∧ Ext W w') := Lib.hid (by rw [← HV.out]; exact HC.out)
      have htl := tx_toL vl
      have HVL := Lib.hid htl
      generalize tx vt = st at *
      generalize tx vl = sl at *
      clear hve hgk htl h
      cases hq : nmB (ns.getD k nmD) with
      | false =>
        have HNO : Hid (nsB ns = false) := Lib.hid (nsB_no hkl (okN_no hq))
        rw [hq] at HC
        clear hq hkl
        (go_wp2_with fail; refine (HC.out _).mono ?_; rintro e w1 ⟨rfl, hx1⟩; obtain ⟨hc1, hf1⟩ := hx1.rules; have hs1 := hx1.size; (try simp at hs1); have := (show b < w1.heap.size from by omega))
        go_wp2
        go_ret
        exact ⟨ret_bool HNO.out.symm, by (repeat (first | with_reducible exact Ext.refl _ | with_reducible assumption | ((with_reducible apply Src.ext); with_reducible assumption) | with_reducible refine Ext.alloc ?_ _ | with_reducible refine Ext.drew ?_ | with_reducible refine Ext.drewN ?_ _ | ((with_reducible refine Ext.setCell' ?_ ?_ _); solve | omega | simp | (simp; omega)) | (with_reducible refine Ext.trans ?_ (by with_reducible assumption))))⟩
      | true =>
        rw [hq] at HC
        have HQ := Lib.hid hq
        have HKL := Lib.hid hkl
        clear hq hkl
        (go_wp2_with fail; refine (HC.out _).mono ?_; rintro e w1 ⟨rfl, hx1⟩; obtain ⟨hc1, hf1⟩ := hx1.rules; have hs1 := hx1.size; (try simp at hs1); have := (show b < w1.heap.size from by omega); have := (show w5.heap.size < w1.heap.size from by omega))
        go_wp2
        go_loopw [5] (fun i wi => ∃ j : Nat, j ≤ k ∧ i = .int .i64 j ∧ Hid (∀ q, q < j → clB (ns.getD k nmD) (ns.getD q nmD) = false) ∧ Blk wi w5.heap.size 150 #[.string st, .string sl, .int .i64 vs, .int .i64 va, .int .i64 vb] ∧ Ext w wi) (fun i _ => k - (intOf i).toNat)
        case atStart => exact ⟨0, by omega, rfl, fun q hq => absurd hq (by omega), Blk.eq (by (repeat (first | with_reducible assumption | ((with_reducible apply Blk.new); solve | simp | rfl) | with_reducible apply Blk.drew | with_reducible apply Blk.drewN | ((with_reducible apply Blk.far'); solve | omega | simp | (simp; omega)) | with_reducible apply Blk.set_ | with_reducible apply Blk.alloc | ((with_reducible apply Blk.ext'); with_reducible assumption) | ((with_reducible apply Blk.but'); (with_reducible assumption); solve | omega | (simp; omega))))) (by rfl), by (repeat (first | with_reducible exact Ext.refl _ | with_reducible assumption | ((with_reducible apply Src.ext); with_reducible assumption) | with_reducible refine Ext.alloc ?_ _ | with_reducible refine Ext.drew ?_ | with_reducible refine Ext.drewN ?_ _ | ((with_reducible refine Ext.setCell' ?_ ?_ _); solve | omega | simp | (simp; omega)) | (with_reducible refine Ext.trans ?_ (by with_reducible assumption))))⟩
        case round =>
          obtain ⟨j, hj, rfl, HO, hB, hxi⟩ := hrel
          by_cases hjk : j < k
          · have hjl : j < ns.length := by have := HKL.out; omega
            obtain ⟨e0, e1, e2, e3, e4⟩ := (HS.out.ext hxi).nm' hjl
            have hBl := hB.lt
            have hBf := hB.frozen
            have a0 : wr.cell? ⟨w5.heap.size, 0, none⟩ = some (.string st) := hB.cell 0
            have a1 : wr.cell? ⟨w5.heap.size, 1, none⟩ = some (.string sl) := hB.cell 1
            have a2 : wr.cell? ⟨w5.heap.size, 2, none⟩ = some (.int .i64 vs) := hB.cell 2
            have a3 : wr.cell? ⟨w5.heap.size, 3, none⟩ = some (.int .i64 va) := hB.cell 3
            have a4 : wr.cell? ⟨w5.heap.size, 4, none⟩ = some (.int .i64 vb) := hB.cell 4
            obtain ⟨u, hue⟩ : ∃ u, u = ns.getD j nmD := ⟨_, rfl⟩
            rw [← hue] at e0 e1 e2 e3 e4
            have HU := Lib.hid hue
            obtain ⟨ut, ul, us, ua, ub⟩ := u
            simp only at e0 e1 e2 e3 e4
            have htu := tx_toL ul
            have HCL : Hid (clB (ns.getD k nmD) (ns.getD j nmD) = (decide (vs = 0) && decide (us = 0) && (sl.toList == (tx ul).toList) && meetB va vb ua ub)) := Lib.hid (by rw [← HV.out, ← HU.out, htu, HVL.out]; rfl)
            have HNO : Hid (clB (ns.getD k nmD) (ns.getD j nmD) = true → nsB ns = false) := Lib.hid (fun e => nsB_no HKL.out (okN_cl hjk e))
            generalize tx ut = su at *
            generalize tx ul = sv at *
            clear hue htu
            have HB := Lib.hid hB
            clear hB
            have := hxr.size
            have HM := Lib.hid (fun W => s_l02Meet va vb ua ub W)
            cases hA : decide (vs = 0) with
            | false =>
              have HO2 := Lib.hid (upTo1 HO.out (show clB (ns.getD k nmD) (ns.getD j nmD) = false by rw [HCL.out]; rw [hA]; simp))
              have hA' : ¬ vs = 0 := by simpa using hA
              clear hA
              go_wp2
              go_roundw
              case rel => exact ⟨j + 1, by omega, by go_num, HO2, HB.out.ext (by (repeat (first | with_reducible exact Ext.refl _ | with_reducible assumption | ((with_reducible apply Src.ext); with_reducible assumption) | with_reducible refine Ext.alloc ?_ _ | with_reducible refine Ext.drew ?_ | with_reducible refine Ext.drewN ?_ _ | ((with_reducible refine Ext.setCell' ?_ ?_ _); solve | omega | simp | (simp; omega)) | (with_reducible refine Ext.trans ?_ (by with_reducible assumption))))), by (repeat (first | with_reducible exact Ext.refl _ | with_reducible assumption | ((with_reducible apply Src.ext); with_reducible assumption) | with_reducible refine Ext.alloc ?_ _ | with_reducible refine Ext.drew ?_ | with_reducible refine Ext.drewN ?_ _ | ((with_reducible refine Ext.setCell' ?_ ?_ _); solve | omega | simp | (simp; omega)) | (with_reducible refine Ext.trans ?_ (by with_reducible assumption))))⟩
              case measure => simp [intOf]; omega
            | true =>
              obtain rfl : vs = 0 := by simpa using hA
              clear hA
              cases hB : decide (us = 0) with
              | false =>
                have HO2 := Lib.hid (upTo1 HO.out (show clB (ns.getD k nmD) (ns.getD j nmD) = false by rw [HCL.out]; rw [hB]; simp))
                have hB' : ¬ us = 0 := by simpa using hB
                clear hB
                go_wp2
                go_roundw
                case rel => exact ⟨j + 1, by omega, by go_num, HO2, HB.out.ext (by (repeat (first | with_reducible exact Ext.refl _ | with_reducible assumption | ((with_reducible apply Src.ext); with_reducible assumption) | with_reducible refine Ext.alloc ?_ _ | with_reducible refine Ext.drew ?_ | with_reducible refine Ext.drewN ?_ _ | ((with_reducible refine Ext.setCell' ?_ ?_ _); solve | omega | simp | (simp; omega)) | (with_reducible refine Ext.trans ?_ (by with_reducible assumption))))), by (repeat (first | with_reducible exact Ext.refl _ | with_reducible assumption | ((with_reducible apply Src.ext); with_reducible assumption) | with_reducible refine Ext.alloc ?_ _ | with_reducible refine Ext.drew ?_ | with_reducible refine Ext.drewN ?_ _ | ((with_reducible refine Ext.setCell' ?_ ?_ _); solve | omega | simp | (simp; omega)) | (with_reducible refine Ext.trans ?_ (by with_reducible assumption))))⟩
                case measure => simp [intOf]; omega
              | true =>
                obtain rfl : us = 0 := by simpa using hB
                clear hB
                cases hC : (sl.toList == sv.toList) with
                | false =>
                  have HO2 := Lib.hid (upTo1 HO.out (show clB (ns.getD k nmD) (ns.getD j nmD) = false by rw [HCL.out]; rw [hC]; simp))
                  have hC' : ¬ sl.toList = sv.toList := by simpa using hC
                  clear hC
                  go_wp2
                  go_roundw
                  case rel => exact ⟨j + 1, by omega, by go_num, HO2, HB.out.ext (by (repeat (first | with_reducible exact Ext.refl _ | with_reducible assumption | ((with_reducible apply Src.ext); with_reducible assumption) | with_reducible refine Ext.alloc ?_ _ | with_reducible refine Ext.drew ?_ | with_reducible refine Ext.drewN ?_ _ | ((with_reducible refine Ext.setCell' ?_ ?_ _); solve | omega | simp | (simp; omega)) | (with_reducible refine Ext.trans ?_ (by with_reducible assumption))))), by (repeat (first | with_reducible exact Ext.refl _ | with_reducible assumption | ((with_reducible apply Src.ext); with_reducible assumption) | with_reducible refine Ext.alloc ?_ _ | with_reducible refine Ext.drew ?_ | with_reducible refine Ext.drewN ?_ _ | ((with_reducible refine Ext.setCell' ?_ ?_ _); solve | omega | simp | (simp; omega)) | (with_reducible refine Ext.trans ?_ (by with_reducible assumption))))⟩
                  case measure => simp [intOf]; omega
                | true =>
                  cases hD : meetB va vb ua ub with
                  | false =>
                    have HO2 := Lib.hid (upTo1 HO.out (show clB (ns.getD k nmD) (ns.getD j nmD) = false by rw [HCL.out]; rw [hD]; simp))
                    rw [hD] at HM
                    clear hD
                    (go_wp2_with fail; refine (HM.out _).mono ?_; rintro e w2 ⟨rfl, hx2⟩; obtain ⟨hc2, hf2⟩ := hx2.rules; have hs2 := hx2.size; (try simp at hs2); have := (show b < w2.heap.size from by omega); have := (show w5.heap.size < w2.heap.size from by omega))
                    go_wp2
                    go_roundw
                    case rel => exact ⟨j + 1, by omega, by go_num, HO2, HB.out.ext (by (repeat (first | with_reducible exact Ext.refl _ | with_reducible assumption | ((with_reducible apply Src.ext); with_reducible assumption) | with_reducible refine Ext.alloc ?_ _ | with_reducible refine Ext.drew ?_ | with_reducible refine Ext.drewN ?_ _ | ((with_reducible refine Ext.setCell' ?_ ?_ _); solve | omega | simp | (simp; omega)) | (with_reducible refine Ext.trans ?_ (by with_reducible assumption))))), by (repeat (first | with_reducible exact Ext.refl _ | with_reducible assumption | ((with_reducible apply Src.ext); with_reducible assumption) | with_reducible refine Ext.alloc ?_ _ | with_reducible refine Ext.drew ?_ | with_reducible refine Ext.drewN ?_ _ | ((with_reducible refine Ext.setCell' ?_ ?_ _); solve | omega | simp | (simp; omega)) | (with_reducible refine Ext.trans ?_ (by with_reducible assumption))))⟩
                    case measure => simp [intOf]; omega
                  | true =>
                    have HNO2 := Lib.hid (HNO.out (by rw [HCL.out, hC, hD]; rfl))
                    rw [hD] at HM
                    clear hD
                    (go_wp2_with fail; refine (HM.out _).mono ?_; rintro e w2 ⟨rfl, hx2⟩; obtain ⟨hc2, hf2⟩ := hx2.rules; have hs2 := hx2.size; (try simp at hs2); have := (show b < w2.heap.size from by omega); have := (show w5.heap.size < w2.heap.size from by omega))
                    go_wp2
                    go_ret
                    exact ⟨ret_bool HNO2.out.symm, by (repeat (first | with_reducible exact Ext.refl _ | with_reducible assumption | ((with_reducible apply Src.ext); with_reducible assumption) | with_reducible refine Ext.alloc ?_ _ | with_reducible refine Ext.drew ?_ | with_reducible refine Ext.drewN ?_ _ | ((with_reducible refine Ext.setCell' ?_ ?_ _); solve | omega | simp | (simp; omega)) | (with_reducible refine Ext.trans ?_ (by with_reducible assumption))))⟩
          · obtain rfl : j = k := by omega
            have HJ2 := Lib.hid (upTo1 HJ.out (okN_iff.2 ⟨HQ.out, HO.out⟩))
            go_wp2
            go_roundw
            case rel => exact ⟨j + 1, by omega, by go_num, HJ2, by (repeat (first | with_reducible exact Ext.refl _ | with_reducible assumption | ((with_reducible apply Src.ext); with_reducible assumption) | with_reducible refine Ext.alloc ?_ _ | with_reducible refine Ext.drew ?_ | with_reducible refine Ext.drewN ?_ _ | ((with_reducible refine Ext.setCell' ?_ ?_ _); solve | omega | simp | (simp; omega)) | (with_reducible refine Ext.trans ?_ (by with_reducible assumption))))⟩
            case measure => simp [intOf]; omega
    · obtain rfl : k = n := by omega
      have hres : nsB ns = decide ((k : Int) ≤ 12) := by
        have h1 := HN.out
        cases e : decide ((k : Int) ≤ 12) with
        | true => exact nsB_iff.2 ⟨fun j hj => HJ.out j (by omega), by simp at e; omega⟩
        | false =>
          cases e2 : nsB ns with
          | false => rfl
          | true => have := (nsB_iff.1 e2).2; simp at e; omega
      have HR := Lib.hid hres
      clear hres
      go_wp2
      go_ret
      exact ⟨ret_bool HR.out.symm, by (repeat (first | with_reducible exact Ext.refl _ | with_reducible assumption | ((with_reducible apply Src.ext); with_reducible assumption) | with_reducible refine Ext.alloc ?_ _ | with_reducible refine Ext.drew ?_ | with_reducible refine Ext.drewN ?_ _ | ((with_reducible refine Ext.setCell' ?_ ?_ _); solve | omega | simp | (simp; omega)) | (with_reducible refine Ext.trans ?_ (by with_reducible assumption))))⟩
end Go.Proofs.YtjjhhclaapifbaaGreatDoor
