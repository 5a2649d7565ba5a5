/- Best names, as the program sees them. -/
import Derived.Test.YtapfokfbdmcokaaGreatDoorYU
import Derived.Deep.RegionHeld3
import Derived.Deep.DeepCutAuto
import Derived.RegionTactic
import Derived.BigRegion
import Derived.WalkLawsBesides
import Derived.WalkSpells
import Derived.Lib.MinMax
import Derived.Outline
namespace Go.Proofs.YtapfokfbdmcokaaGreatDoor
open Go.RowKit
attribute [local go_sem] ExtOf.cell ExtOf.frozen


set_option maxRecDepth 20000 in
set_option maxHeartbeats 12800000 in
theorem i_bestIn (A A' : Option Addr) (n c m c' : Nat) (ns : List Nm) (ls : List (List UInt8)) (y : Int) (w : World) (h : SlAt w 5 encN A ns) (h' : SlAt w 1 encS A' ls) (hn : n = ns.length) (hm : m = ls.length) (hl : n ≤ 1048576) (hl' : m ≤ 1048576) :
    Calls Tryz.prog 134 #[.slice A n c, .slice A' m c', .int .i64 y] w fun e w' => e = .returned (.int .i64 (bsG ns (usL ns y) ls)) ∧ Ext w w' := by
  have HN := Lib.hid hn
  have HM := Lib.hid hm
  have HS := Lib.hid h
  have HS' := Lib.hid h'
  obtain ⟨r, hr⟩ : ∃ r, r = bsG ns (usL ns y) ls := ⟨_, rfl⟩
  have HR := Lib.hid hr
  rw [← hr]
  clear hr hn hm h h'
  go_enter Tryz.func134, Tryz.ntmps134
  go_wp2
  go_loopw [14] (fun i wr => ∃ k : Nat, k ≤ m ∧ i = .int .i64 k ∧ Hid (bsG ns (usL ns y) (ls.drop k) = r) ∧ Ext w wr) (fun i _ => m - (intOf i).toNat)
  case atStart => exact ⟨0, by omega, rfl, Lib.hid (by rw [List.drop_zero, HR.out]), by (repeat (first | with_reducible exact Ext.refl _ | with_reducible assumption | ((with_reducible apply Src.ext); with_reducible assumption) | with_reducible refine Ext.alloc ?_ _ | with_reducible refine Ext.drew ?_ | with_reducible refine Ext.drewN ?_ _ | ((with_reducible refine Ext.setCell' ?_ ?_ _); solve | omega | simp | (simp; omega)) | (with_reducible refine Ext.trans ?_ (by with_reducible assumption))))⟩
  case round =>
    obtain ⟨k, hk, rfl, HG, hxr⟩ := hrel
    obtain ⟨w5, rfl⟩ : ∃ x, x = wr := ⟨wr, rfl⟩
    by_cases hlt : k < m
    · have hkr : k < ls.length := by rw [← HM.out]; exact hlt
      obtain ⟨b8, off8, hA8, hb8, c8⟩ := (HS'.out.ext hxr).st hkr
      subst hA8
      obtain ⟨x, hx⟩ : ∃ x, x = ls.getD k [] := ⟨_, rfl⟩
      rw [← hx] at c8
      have HX := Lib.hid hx
      have HXT : Hid (∀ a : List UInt8, ((tx a).toList == (tx x).toList) = (a == x)) := Lib.hid (fun a => tx_beq a x)
      generalize tx x = sx at *
      clear hx
      have HLT := Lib.hid hkr
      go_wp2
      go_loopw [9, 20] (fun bv i wr => ∃ (j : Nat) (bz : Int), j ≤ n ∧ i = .int .i64 j ∧ bv = .int .i64 bz ∧ Hid (bz = bsF ns x (usTo ns y j)) ∧ Ext w wr) (fun _ i _ => n - (intOf i).toNat)
      case atStart => exact ⟨0, -1, by omega, rfl, rfl, Lib.hid rfl, by (repeat (first | with_reducible exact Ext.refl _ | with_reducible assumption | ((with_reducible apply Src.ext); with_reducible assumption) | with_reducible refine Ext.alloc ?_ _ | with_reducible refine Ext.drew ?_ | with_reducible refine Ext.drewN ?_ _ | ((with_reducible refine Ext.setCell' ?_ ?_ _); solve | omega | simp | (simp; omega)) | (with_reducible refine Ext.trans ?_ (by with_reducible assumption))))⟩
      case round =>
        obtain ⟨j, bz, hj, rfl, rfl, HB, hxq⟩ := hrel
        obtain ⟨w6, rfl⟩ : ∃ x, x = wr := ⟨wr, rfl⟩
        by_cases hjl : j < n
        · have hjr : j < ns.length := by rw [← HN.out]; exact hjl
          obtain ⟨b, off, hA, hb, d0, d1, d2, d3, d4⟩ := (HS.out.ext hxq).nm hjr
          subst hA
          obtain ⟨q, hq⟩ : ∃ q, usB ns y j = q := ⟨_, rfl⟩
          have HH : Hid (∀ W, Calls Tryz.prog 57 #[.agg #[.int .i64 (ns.getD j nmD).2.2.2.1, .int .i64 (ns.getD j nmD).2.2.2.2], .int .i64 y] W fun e w' => e = .returned (.bool q) ∧ Ext W w') := Lib.hid (fun W => by
            have := i_has (ns.getD j nmD).2.2.2.1 (ns.getD j nmD).2.2.2.2 y W
            rwa [show inB y (ns.getD j nmD).2.2.2.1 (ns.getD j nmD).2.2.2.2 = q from hq] at this)
          have hxt := HXT.out (ns.getD j nmD).2.1
          have HC : bz = -1 ∨ ∃ i : Nat, bz = i ∧ i < j := by rw [HB.out]; exact usTo_bs ns x y j
          by_cases hlx : (ns.getD j nmD).2.1 = x
          · rw [show ((ns.getD j nmD).2.1 == x) = true by rw [beq_iff_eq]; exact hlx] at hxt
            cases q with
            | false =>
              have NX := Lib.hid (bs_not (x := x) hq)
              clear hlx hq HC
              generalize (ns.getD j nmD).2.2.1 = st at *
              generalize (ns.getD j nmD).2.2.2.1 = yf at *
              generalize (ns.getD j nmD).2.2.2.2 = yt at *
              generalize tx (ns.getD j nmD).2.1 = sl at *
              generalize tx (ns.getD j nmD).1 = s0 at *
              go_wp2
              (refine wp_region_ext (by kernel_rfl) (by kernel_rfl) ?_; (repeat (go_big_quiet_step ((go_at_call 57; exact Calls_ext (HH.out _))))); refine wpQuiet_nil ?_; intro wq hxwq; obtain ⟨hcwq, hfwq⟩ := hxwq.rules; have hswq := hxwq.size; (try simp at hswq))
              go_wp2
              go_roundw
              case rel => exact ⟨j + 1, _, by omega, by go_num, rfl, Lib.hid (by first | (rw [NX.out]; exact HB.out) | rw [NX.out]), by (repeat (first | with_reducible exact Ext.refl _ | with_reducible assumption | ((with_reducible apply Src.ext); with_reducible assumption) | with_reducible refine Ext.alloc ?_ _ | with_reducible refine Ext.drew ?_ | with_reducible refine Ext.drewN ?_ _ | ((with_reducible refine Ext.setCell' ?_ ?_ _); solve | omega | simp | (simp; omega)) | (with_reducible refine Ext.trans ?_ (by with_reducible assumption))))⟩
              case measure => simp [intOf]; omega
            | true =>
              rcases HC with rfl | ⟨i, rfl, hi⟩
              · have NX := Lib.hid (bs_yes hq hlx HB.out (.inl (by omega)))
                clear hlx hq
                generalize (ns.getD j nmD).2.2.1 = st at *
                generalize (ns.getD j nmD).2.2.2.1 = yf at *
                generalize (ns.getD j nmD).2.2.2.2 = yt at *
                generalize tx (ns.getD j nmD).2.1 = sl at *
                generalize tx (ns.getD j nmD).1 = s0 at *
                go_wp2
                (refine wp_region_ext (by kernel_rfl) (by kernel_rfl) ?_; (repeat (go_big_quiet_step ((go_at_call 57; exact Calls_ext (HH.out _))))); refine wpQuiet_nil ?_; intro wq hxwq; obtain ⟨hcwq, hfwq⟩ := hxwq.rules; have hswq := hxwq.size; (try simp at hswq))
                go_wp2
                go_roundw
                case rel => exact ⟨j + 1, _, by omega, by go_num, rfl, Lib.hid (by first | (rw [NX.out]; exact HB.out) | rw [NX.out]), by (repeat (first | with_reducible exact Ext.refl _ | with_reducible assumption | ((with_reducible apply Src.ext); with_reducible assumption) | with_reducible refine Ext.alloc ?_ _ | with_reducible refine Ext.drew ?_ | with_reducible refine Ext.drewN ?_ _ | ((with_reducible refine Ext.setCell' ?_ ?_ _); solve | omega | simp | (simp; omega)) | (with_reducible refine Ext.trans ?_ (by with_reducible assumption))))⟩
                case measure => simp [intOf]; omega
              · have hir : i < ns.length := by omega
                obtain ⟨e0, e1, e2, e3, e4⟩ := (HS.out.ext hxq).nm' hir
                have hin : i < n := by omega
                have hi0 : decide ((i : Int) < 0) = false := decide_eq_false (by omega)
                by_cases hst : (ns.getD j nmD).2.2.1 < (ns.getD i nmD).2.2.1
                · have NX := Lib.hid (bs_yes hq hlx HB.out (.inr hst))
                  have hsd : decide ((ns.getD j nmD).2.2.1 < (ns.getD i nmD).2.2.1) = true := decide_eq_true hst
                  clear hlx hq hst e0 e1 e3 e4
                  generalize (ns.getD i nmD).2.2.1 = si at *
                  generalize (ns.getD j nmD).2.2.1 = st at *
                  generalize (ns.getD j nmD).2.2.2.1 = yf at *
                  generalize (ns.getD j nmD).2.2.2.2 = yt at *
                  generalize tx (ns.getD j nmD).2.1 = sl at *
                  generalize tx (ns.getD j nmD).1 = s0 at *
                  go_wp2
                  (refine wp_region_ext (by kernel_rfl) (by kernel_rfl) ?_; (repeat (go_big_quiet_step ((go_at_call 57; exact Calls_ext (HH.out _))))); refine wpQuiet_nil ?_; intro wq hxwq; obtain ⟨hcwq, hfwq⟩ := hxwq.rules; have hswq := hxwq.size; (try simp at hswq))
                  go_wp2
                  go_roundw
                  case rel => exact ⟨j + 1, _, by omega, by go_num, rfl, Lib.hid (by first | (rw [NX.out]; exact HB.out) | rw [NX.out]), by (repeat (first | with_reducible exact Ext.refl _ | with_reducible assumption | ((with_reducible apply Src.ext); with_reducible assumption) | with_reducible refine Ext.alloc ?_ _ | with_reducible refine Ext.drew ?_ | with_reducible refine Ext.drewN ?_ _ | ((with_reducible refine Ext.setCell' ?_ ?_ _); solve | omega | simp | (simp; omega)) | (with_reducible refine Ext.trans ?_ (by with_reducible assumption))))⟩
                  case measure => simp [intOf]; omega
                · have NX := Lib.hid (bs_no hq HB.out (x := x) (by
                    rintro (q | q)
                    · omega
                    · exact hst q))
                  have hsd : decide ((ns.getD j nmD).2.2.1 < (ns.getD i nmD).2.2.1) = false := decide_eq_false hst
                  clear hlx hq hst e0 e1 e3 e4
                  generalize (ns.getD i nmD).2.2.1 = si at *
                  generalize (ns.getD j nmD).2.2.1 = st at *
                  generalize (ns.getD j nmD).2.2.2.1 = yf at *
                  generalize (ns.getD j nmD).2.2.2.2 = yt at *
                  generalize tx (ns.getD j nmD).2.1 = sl at *
                  generalize tx (ns.getD j nmD).1 = s0 at *
                  go_wp2
                  (refine wp_region_ext (by kernel_rfl) (by kernel_rfl) ?_; (repeat (go_big_quiet_step ((go_at_call 57; exact Calls_ext (HH.out _))))); refine wpQuiet_nil ?_; intro wq hxwq; obtain ⟨hcwq, hfwq⟩ := hxwq.rules; have hswq := hxwq.size; (try simp at hswq))
                  go_wp2
                  go_roundw
                  case rel => exact ⟨j + 1, _, by omega, by go_num, rfl, Lib.hid (by first | (rw [NX.out]; exact HB.out) | rw [NX.out]), by (repeat (first | with_reducible exact Ext.refl _ | with_reducible assumption | ((with_reducible apply Src.ext); with_reducible assumption) | with_reducible refine Ext.alloc ?_ _ | with_reducible refine Ext.drew ?_ | with_reducible refine Ext.drewN ?_ _ | ((with_reducible refine Ext.setCell' ?_ ?_ _); solve | omega | simp | (simp; omega)) | (with_reducible refine Ext.trans ?_ (by with_reducible assumption))))⟩
                  case measure => simp [intOf]; omega
          · rw [show ((ns.getD j nmD).2.1 == x) = false by rw [beq_eq_false_iff_ne]; exact hlx] at hxt
            have NX := Lib.hid (bs_lang (y := y) hlx)
            clear hlx hq HC
            generalize (ns.getD j nmD).2.2.1 = st at *
            generalize (ns.getD j nmD).2.2.2.1 = yf at *
            generalize (ns.getD j nmD).2.2.2.2 = yt at *
            generalize tx (ns.getD j nmD).2.1 = sl at *
            generalize tx (ns.getD j nmD).1 = s0 at *
            go_wp2
            (refine wp_region_ext (by kernel_rfl) (by kernel_rfl) ?_; (repeat (go_big_quiet_step ((go_at_call 57; exact Calls_ext (HH.out _))))); refine wpQuiet_nil ?_; intro wq hxwq; obtain ⟨hcwq, hfwq⟩ := hxwq.rules; have hswq := hxwq.size; (try simp at hswq))
            go_wp2
            go_roundw
            case rel => exact ⟨j + 1, _, by omega, by go_num, rfl, Lib.hid (by first | (rw [NX.out]; exact HB.out) | rw [NX.out]), by (repeat (first | with_reducible exact Ext.refl _ | with_reducible assumption | ((with_reducible apply Src.ext); with_reducible assumption) | with_reducible refine Ext.alloc ?_ _ | with_reducible refine Ext.drew ?_ | with_reducible refine Ext.drewN ?_ _ | ((with_reducible refine Ext.setCell' ?_ ?_ _); solve | omega | simp | (simp; omega)) | (with_reducible refine Ext.trans ?_ (by with_reducible assumption))))⟩
            case measure => simp [intOf]; omega
        · obtain rfl : j = n := by omega
          have HBB : Hid (bz = bsF ns x (usL ns y)) := Lib.hid (by unfold usL; rw [← HN.out]; exact HB.out)
          by_cases hbz : 0 ≤ bz
          · have HRR : Hid (bz = r) := Lib.hid (by rw [← HG.out, bsG_hit HLT.out (by rw [← HX.out, ← HBB.out]; exact hbz), ← HX.out]; exact HBB.out)
            go_wp2
            go_ret
            exact ⟨ret_int HRR.out, by (repeat (first | with_reducible exact Ext.refl _ | with_reducible assumption | ((with_reducible apply Src.ext); with_reducible assumption) | with_reducible refine Ext.alloc ?_ _ | with_reducible refine Ext.drew ?_ | with_reducible refine Ext.drewN ?_ _ | ((with_reducible refine Ext.setCell' ?_ ?_ _); solve | omega | simp | (simp; omega)) | (with_reducible refine Ext.trans ?_ (by with_reducible assumption))))⟩
          · have HGG : Hid (bsG ns (usL ns y) (ls.drop (k + 1)) = r) := Lib.hid (by rw [← bsG_skip HLT.out (by rw [← HX.out, ← HBB.out]; exact hbz)]; exact HG.out)
            go_wp2
            go_roundw
            case rel => exact ⟨k + 1, by omega, by go_num, HGG, by (repeat (first | with_reducible exact Ext.refl _ | with_reducible assumption | ((with_reducible apply Src.ext); with_reducible assumption) | with_reducible refine Ext.alloc ?_ _ | with_reducible refine Ext.drew ?_ | with_reducible refine Ext.drewN ?_ _ | ((with_reducible refine Ext.setCell' ?_ ?_ _); solve | omega | simp | (simp; omega)) | (with_reducible refine Ext.trans ?_ (by with_reducible assumption))))⟩
            case measure => simp [intOf]; omega
    · obtain rfl : k = m := by omega
      have HRR : Hid (-1 = r) := Lib.hid (by rw [← HG.out, HM.out]; exact bsG_end.symm)
      go_wp2
      go_ret
      exact ⟨ret_int HRR.out, by (repeat (first | with_reducible exact Ext.refl _ | with_reducible assumption | ((with_reducible apply Src.ext); with_reducible assumption) | with_reducible refine Ext.alloc ?_ _ | with_reducible refine Ext.drew ?_ | with_reducible refine Ext.drewN ?_ _ | ((with_reducible refine Ext.setCell' ?_ ?_ _); solve | omega | simp | (simp; omega)) | (with_reducible refine Ext.trans ?_ (by with_reducible assumption))))⟩

end Go.Proofs.YtapfokfbdmcokaaGreatDoor
