/- Languages and best names, as the program and the specification see them. -/
import Derived.Test.YtapfokfbdmcokaaGreatDoorYP
import Derived.Deep.RegionHeld3
import Derived.Deep.DeepCutAuto
import Derived.RegionTactic
import Derived.BigRegion
import Derived.WalkLawsBesides
import Derived.WalkSpells
import Derived.Lib.MinMax
import Derived.Outline
namespace Go.Proofs.YtapfokfbdmcokaaGreatDoor
open Go.RowKit
attribute [local go_sem] ExtOf.cell ExtOf.frozen


section
variable {ns : List Nm} {x : List UInt8} {y : Int} {j : Nat}
theorem bs_not (h : usB ns y j = false) : bsF ns x (usTo ns y (j + 1)) = bsF ns x (usTo ns y j) := by rw [usTo_succ, if_neg (by rw [h]; simp)]
theorem bs_lang (h : (ns.getD j nmD).2.1 ≠ x) : bsF ns x (usTo ns y (j + 1)) = bsF ns x (usTo ns y j) := by
  rw [usTo_succ]
  split
  · rw [bsF_add, bsSt_no (.inl h)]
  · rfl
theorem bs_yes (h : usB ns y j = true) (hl : (ns.getD j nmD).2.1 = x) {b : Int} (hb : b = bsF ns x (usTo ns y j)) (hc : b < 0 ∨ (ns.getD j nmD).2.2.1 < (ns.getD b.toNat nmD).2.2.1) : bsF ns x (usTo ns y (j + 1)) = (j : Int) := by
  rw [usTo_succ, if_pos h, bsF_add, ← hb, bsSt_yes hl hc]
theorem bs_no (h : usB ns y j = true) {b : Int} (hb : b = bsF ns x (usTo ns y j)) (hc : ¬ (b < 0 ∨ (ns.getD j nmD).2.2.1 < (ns.getD b.toNat nmD).2.2.1)) : bsF ns x (usTo ns y (j + 1)) = b := by
  rw [usTo_succ, if_pos h, bsF_add, ← hb, bsSt_no (.inr hc)]
end
theorem lgB_any (ls : List (List UInt8)) : lgB ls = !(ls.any fun s => !smL s 2 3) := by
  unfold lgB
  rw [List.not_any_eq_all_not]
  simp
theorem tx_beq (a b : List UInt8) : ((tx a).toList == (tx b).toList) = (a == b) := by rw [tx_toL, tx_toL]

theorem i_areLanguages1 (s : List UInt8) (w : World) (hs : s.length ≤ 1048576) :
    Calls Tryz.prog 132 (#[.string (tx s)] ++ #[]) w fun e w' => e = .returned (.bool (!smL s 2 3)) ∧ Ext w w' := by
  have HL : Hid (∀ W, Calls Tryz.prog 133 #[.string (tx s)] W fun e w' => e = .returned (.bool (smL s 2 3)) ∧ Ext W w') := Lib.hid (fun W => by
    have := i_isLanguage (tx s) W (by rw [tx_size]; exact hs)
    rwa [tx_list] at this)
  generalize smL s 2 3 = q at *
  generalize tx s = sx at *
  clear hs
  go_enter Tryz.func132, Tryz.ntmps132
  (go_wp2_with fail; refine (HL.out _).mono ?_; rintro e w1 ⟨rfl, hx1⟩; obtain ⟨hc1, hf1⟩ := hx1.rules; have hs1 := hx1.size; (try simp at hs1))
  go_wp2
  go_ret
  exact ⟨rfl, by (repeat (first | with_reducible exact Ext.refl _ | with_reducible assumption | ((with_reducible apply Src.ext); with_reducible assumption) | with_reducible refine Ext.alloc ?_ _ | with_reducible refine Ext.drew ?_ | with_reducible refine Ext.drewN ?_ _ | ((with_reducible refine Ext.setCell' ?_ ?_ _); solve | omega | simp | (simp; omega)) | (with_reducible refine Ext.trans ?_ (by with_reducible assumption))))⟩
theorem en_areLanguages1 (args : Array Value) (w : World) : (callFunc 132 args).run Tryz.prog w = .ok (.enter 132 args) w := enters_isSome Tryz.func132 (by kernel_rfl) (by kernel_rfl) args w
theorem i_areLanguages (A : Option Addr) (n c : Nat) (ls : List (List UInt8)) (w : World) (h : SlAt w 1 encS A ls) (hn : n = ls.length) (hl : n ≤ 1048576) (hs : ∀ s ∈ ls, s.length ≤ 1048576) :
    Calls Tryz.prog 78 #[.slice A n c] w fun e w' => e = .returned (.bool (lgB ls)) ∧ Ext w w' := by
  have HC := Lib.hid (fun W (hW : Ext w W) => i_ContainsFuncS (fun s => !smL s 2 3) _ #[] en_areLanguages1 A n c ls W (h.ext hW) hn hl (fun s hm W' _ => i_areLanguages1 s W' (hs s hm)))
  rw [lgB_any]
  generalize (ls.any fun s => !smL s 2 3) = q at *
  clear h hn hs
  go_enter Tryz.func78, Tryz.ntmps78
  (go_wp2_with fail; refine (HC.out _ (by (repeat (first | with_reducible exact Ext.refl _ | with_reducible assumption | ((with_reducible apply Src.ext); with_reducible assumption) | with_reducible refine Ext.alloc ?_ _ | with_reducible refine Ext.drew ?_ | with_reducible refine Ext.drewN ?_ _ | ((with_reducible refine Ext.setCell' ?_ ?_ _); solve | omega | simp | (simp; omega)) | (with_reducible refine Ext.trans ?_ (by with_reducible assumption)))))).mono ?_; rintro e w1 ⟨rfl, hx1⟩; obtain ⟨hc1, hf1⟩ := hx1.rules; have hs1 := hx1.size; (try simp at hs1))
  go_wp2
  go_ret
  exact ⟨rfl, by (repeat (first | with_reducible exact Ext.refl _ | with_reducible assumption | ((with_reducible apply Src.ext); with_reducible assumption) | with_reducible refine Ext.alloc ?_ _ | with_reducible refine Ext.drew ?_ | with_reducible refine Ext.drewN ?_ _ | ((with_reducible refine Ext.setCell' ?_ ?_ _); solve | omega | simp | (simp; omega)) | (with_reducible refine Ext.trans ?_ (by with_reducible assumption))))⟩
set_option maxHeartbeats 3200000 in
theorem s_l14Languages (A : Option Addr) (n c : Nat) (ls : List (List UInt8)) (w : World) (h : SlAt w 1 encS A ls) (hn : n = ls.length) (hl : n ≤ 1048576) (hs : ∀ s ∈ ls, s.length ≤ 1048576) :
    Calls Tryz.prog 76 #[.slice A n c] w fun e w' => e = .returned (.int .i64 (if lgB ls = true then 0 else 1)) ∧ Ext w w' := by
  have HN := Lib.hid hn
  have HS := Lib.hid h
  have HLS := Lib.hid hs
  have HP := Lib.hid (fun k (hk : k < ls.length) W => by
    have := s_l09Language (tx (ls.getD k [])) W (by rw [tx_size]; exact hs _ (by simp [List.getD, hk]))
    rw [tx_list] at this
    exact this)
  obtain ⟨r, hr⟩ : ∃ r : Int, r = (if lgB ls = true then 0 else 1) := ⟨_, rfl⟩
  have HR := Lib.hid hr
  rw [← hr]
  clear hn h hs hr
  go_enter Tryz.func76, Tryz.ntmps76
  go_wp2
  go_loopw [3] (fun i wr => ∃ k : Nat, k ≤ n ∧ i = .int .i64 k ∧ Hid (∀ j, j < k → smL (ls.getD j []) 2 3 = true) ∧ Ext w wr) (fun i _ => n - (intOf i).toNat)
  case atStart => exact ⟨0, by omega, rfl, Lib.hid (fun j hj => absurd hj (by omega)), by (repeat (first | with_reducible exact Ext.refl _ | with_reducible assumption | ((with_reducible apply Src.ext); with_reducible assumption) | with_reducible refine Ext.alloc ?_ _ | with_reducible refine Ext.drew ?_ | with_reducible refine Ext.drewN ?_ _ | ((with_reducible refine Ext.setCell' ?_ ?_ _); solve | omega | simp | (simp; omega)) | (with_reducible refine Ext.trans ?_ (by with_reducible assumption))))⟩
  case round =>
    obtain ⟨k, hk, rfl, HJ, hxr⟩ := hrel
    obtain ⟨w5, rfl⟩ : ∃ x, x = wr := ⟨wr, rfl⟩
    by_cases hlt : k < n
    · have hkr : k < ls.length := by rw [← HN.out]; exact hlt
      obtain ⟨b, off, hA, hb, d0⟩ := (HS.out.ext hxr).st hkr
      subst hA
      have HC := Lib.hid (HP.out k hkr)
      cases hq : smL (ls.getD k []) 2 3 with
      | true =>
        have HJ2 := Lib.hid (upTo1 HJ.out hq)
        rw [hq] at HC
        clear hq
        generalize tx (ls.getD k []) = sx at *
        (go_wp2_with fail; refine (HC.out _).mono ?_; rintro e w1 ⟨rfl, hx1⟩; obtain ⟨hc1, hf1⟩ := hx1.rules; have hs1 := hx1.size; (try simp at hs1))
        go_wp2
        go_roundw
        case rel => exact ⟨k + 1, by omega, by go_num, HJ2, by (repeat (first | with_reducible exact Ext.refl _ | with_reducible assumption | ((with_reducible apply Src.ext); with_reducible assumption) | with_reducible refine Ext.alloc ?_ _ | with_reducible refine Ext.drew ?_ | with_reducible refine Ext.drewN ?_ _ | ((with_reducible refine Ext.setCell' ?_ ?_ _); solve | omega | simp | (simp; omega)) | (with_reducible refine Ext.trans ?_ (by with_reducible assumption))))⟩
        case measure => simp [intOf]; omega
      | false =>
        have HF : Hid (lgB ls = false) := Lib.hid (by
          unfold lgB
          rw [List.all_eq_false]
          exact ⟨ls.getD k [], by simp [List.getD, hkr], by rw [hq]; simp⟩)
        rw [hq] at HC
        clear hq
        generalize tx (ls.getD k []) = sx at *
        (go_wp2_with fail; refine (HC.out _).mono ?_; rintro e w1 ⟨rfl, hx1⟩; obtain ⟨hc1, hf1⟩ := hx1.rules; have hs1 := hx1.size; (try simp at hs1))
        go_wp2
        go_ret
        exact ⟨by rw [HR.out, HF.out]; rfl, by (repeat (first | with_reducible exact Ext.refl _ | with_reducible assumption | ((with_reducible apply Src.ext); with_reducible assumption) | with_reducible refine Ext.alloc ?_ _ | with_reducible refine Ext.drew ?_ | with_reducible refine Ext.drewN ?_ _ | ((with_reducible refine Ext.setCell' ?_ ?_ _); solve | omega | simp | (simp; omega)) | (with_reducible refine Ext.trans ?_ (by with_reducible assumption))))⟩
    · obtain rfl : k = n := by omega
      have HT : Hid (lgB ls = true) := Lib.hid (by
        unfold lgB
        rw [List.all_eq_true]
        intro s hs
        obtain ⟨j, hj, rfl⟩ := List.mem_iff_getElem.1 hs
        have := HJ.out j (by rw [HN.out]; exact hj)
        simpa [List.getD, hj] using this)
      go_wp2
      go_ret
      exact ⟨by rw [HR.out, HT.out]; rfl, by (repeat (first | with_reducible exact Ext.refl _ | with_reducible assumption | ((with_reducible apply Src.ext); with_reducible assumption) | with_reducible refine Ext.alloc ?_ _ | with_reducible refine Ext.drew ?_ | with_reducible refine Ext.drewN ?_ _ | ((with_reducible refine Ext.setCell' ?_ ?_ _); solve | omega | simp | (simp; omega)) | (with_reducible refine Ext.trans ?_ (by with_reducible assumption))))⟩

end Go.Proofs.YtapfokfbdmcokaaGreatDoor
