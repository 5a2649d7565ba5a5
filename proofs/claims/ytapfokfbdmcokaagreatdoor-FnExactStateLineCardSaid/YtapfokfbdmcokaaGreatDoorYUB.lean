/- Best names, as the specification sees them. -/
import Derived.Test.YtapfokfbdmcokaaGreatDoorYU
import Derived.Deep.RegionHeld3
import Derived.Deep.DeepCutAuto
import Derived.RegionTactic
import Derived.BigRegion
import Derived.WalkLawsBesides
import Derived.WalkSpells
import Derived.Lib.MinMax
import Derived.Outline
namespace Go.Proofs.YtapfokfbdmcokaaGreatDoor
open Go.RowKit
attribute [local go_sem] ExtOf.cell ExtOf.frozen


set_option maxRecDepth 20000 in
set_option maxHeartbeats 12800000 in
theorem s_l09Best (A A' : Option Addr) (n c m c' : Nat) (ns : List Nm) (ls : List (List UInt8)) (y : Int) (w : World) (h : SlAt w 5 encN A ns) (h' : SlAt w 1 encS A' ls) (hn : n = ns.length) (hm : m = ls.length) (hl : n ≤ 1000) (hl' : m ≤ 1048576) :
    Calls Tryz.prog 131 #[.slice A n c, .slice A' m c', .int .i64 y] w fun e w' => e = .returned (.int .i64 (bsG ns (usL ns y) ls)) ∧ Ext w w' := by
  have HU := Lib.hid (fun W (hW : Ext w W) => s_l09Used A n c ns y W (h.ext hW) hn hl)
  have HN := Lib.hid hn
  have HM := Lib.hid hm
  have HS := Lib.hid h
  have HS' := Lib.hid h'
  obtain ⟨r, hr⟩ : ∃ r, r = bsG ns (usL ns y) ls := ⟨_, rfl⟩
  have HR := Lib.hid hr
  rw [← hr]
  clear hr hn hm h h'
  go_enter Tryz.func131, Tryz.ntmps131
  go_wp2_with fail
  refine (HU.out _ (by (repeat (first | with_reducible exact Ext.refl _ | with_reducible assumption | ((with_reducible apply Src.ext); with_reducible assumption) | with_reducible refine Ext.alloc ?_ _ | with_reducible refine Ext.drew ?_ | with_reducible refine Ext.drewN ?_ _ | ((with_reducible refine Ext.setCell' ?_ ?_ _); solve | omega | simp | (simp; omega)) | (with_reducible refine Ext.trans ?_ (by with_reducible assumption)))))).mono ?_
  rintro e w1 ⟨v, rfl, hO, hx1⟩
  obtain ⟨A7, c7, rfl, hS7, _⟩ := hO.sl len_encI
  have HS7 := Lib.hid hS7
  have hul : (usL ns y).length ≤ 1048576 := Nat.le_trans (usTo_len _ _ _) (by rw [← HN.out]; omega)
  obtain ⟨p, hp⟩ : ∃ p, p = (usL ns y).length := ⟨_, rfl⟩
  rw [← hp] at hul ⊢
  have HPL := Lib.hid hp
  have HX1 := Lib.hid hx1
  clear hS7 hO hp HU hx1
  go_wp2
  go_loopw [8] (fun i wr => ∃ k : Nat, k ≤ m ∧ i = .int .i64 k ∧ Hid (bsG ns (usL ns y) (ls.drop k) = r) ∧ Ext w1 wr) (fun i _ => m - (intOf i).toNat)
  case atStart => exact ⟨0, by omega, rfl, Lib.hid (by rw [List.drop_zero, HR.out]), by (repeat (first | with_reducible exact Ext.refl _ | with_reducible assumption | ((with_reducible apply Src.ext); with_reducible assumption) | with_reducible refine Ext.alloc ?_ _ | with_reducible refine Ext.drew ?_ | with_reducible refine Ext.drewN ?_ _ | ((with_reducible refine Ext.setCell' ?_ ?_ _); solve | omega | simp | (simp; omega)) | (with_reducible refine Ext.trans ?_ (by with_reducible assumption))))⟩
  case round =>
    obtain ⟨k, hk, rfl, HG, hxr⟩ := hrel
    obtain ⟨w5, rfl⟩ : ∃ x, x = wr := ⟨wr, rfl⟩
    by_cases hlt : k < m
    · have hkr : k < ls.length := by rw [← HM.out]; exact hlt
      have HLT := Lib.hid hkr
      go_wp2
      go_loopw [9, 10] (fun bv i wr => ∃ (j : Nat) (bz : Int), j ≤ p ∧ i = .int .i64 j ∧ bv = .int .i64 bz ∧ Hid (bz = bsF ns (ls.getD k []) ((usL ns y).take j)) ∧ Ext w1 wr) (fun _ i _ => p - (intOf i).toNat)
      case atStart => exact ⟨0, -1, by omega, rfl, rfl, Lib.hid rfl, by (repeat (first | with_reducible exact Ext.refl _ | with_reducible assumption | ((with_reducible apply Src.ext); with_reducible assumption) | with_reducible refine Ext.alloc ?_ _ | with_reducible refine Ext.drew ?_ | with_reducible refine Ext.drewN ?_ _ | ((with_reducible refine Ext.setCell' ?_ ?_ _); solve | omega | simp | (simp; omega)) | (with_reducible refine Ext.trans ?_ (by with_reducible assumption))))⟩
      case round =>
        obtain ⟨j, bz, hj, rfl, rfl, HB, hxq⟩ := hrel
        obtain ⟨w6, rfl⟩ : ∃ x, x = wr := ⟨wr, rfl⟩
        by_cases hjl : j < p
        · have hju : j < (usL ns y).length := by rw [← HPL.out]; exact hjl
          obtain ⟨b8, off8, hA8, hb8, c8⟩ := ((HS'.out.ext HX1.out).ext hxq).st hkr
          subst hA8
          obtain ⟨b7, off7, hA7, hb7, c7u⟩ := (HS7.out.ext hxq).it hju
          subst hA7
          obtain ⟨i0, hi0, hi1, hi2⟩ := usTo_at ns y ns.length hju
          have hgu : (usL ns y).getD j 0 = (i0 : Int) := hi0
          rw [hgu] at c7u
          have htk := bsF_take (ns := ns) (x := ls.getD k []) hju
          rw [← HB.out, hgu] at htk
          have hin0 : i0 < n := by rw [HN.out]; exact hi1
          obtain ⟨b, off, hA, hb, d0, d1, d2, d3, d4⟩ := ((HS.out.ext HX1.out).ext hxq).nm hi1
          subst hA
          have hxt := tx_beq (ns.getD i0 nmD).2.1 (ls.getD k [])
          have HC : bz = -1 ∨ ∃ i : Nat, bz = i ∧ i < ns.length := by rw [HB.out]; exact bsF_part
          by_cases hlx : (ns.getD i0 nmD).2.1 = ls.getD k []
          · rw [show ((ns.getD i0 nmD).2.1 == ls.getD k []) = true by rw [beq_iff_eq]; exact hlx] at hxt
            rcases HC with rfl | ⟨i, rfl, hi⟩
            · have NX : Hid (_ = (i0 : Int)) := Lib.hid (htk.trans (bsSt_yes hlx (.inl (by omega))))
              clear hlx htk hi0 hi2 hgu d0 d3 d4
              generalize (ns.getD i0 nmD).2.2.1 = st at *
              generalize tx (ns.getD i0 nmD).2.1 = sl at *
              generalize tx (ls.getD k []) = sx at *
              go_wp2
              (refine wp_region_ext (by kernel_rfl) (by kernel_rfl) ?_; (repeat (go_big_quiet_step (fail))); refine wpQuiet_nil ?_; intro wq hxwq; obtain ⟨hcwq, hfwq⟩ := hxwq.rules; have hswq := hxwq.size; (try simp at hswq))
              go_wp2
              go_roundw
              case rel => exact ⟨j + 1, _, by omega, by go_num, rfl, Lib.hid (by first | (rw [NX.out]; exact HB.out) | rw [NX.out]), by (repeat (first | with_reducible exact Ext.refl _ | with_reducible assumption | ((with_reducible apply Src.ext); with_reducible assumption) | with_reducible refine Ext.alloc ?_ _ | with_reducible refine Ext.drew ?_ | with_reducible refine Ext.drewN ?_ _ | ((with_reducible refine Ext.setCell' ?_ ?_ _); solve | omega | simp | (simp; omega)) | (with_reducible refine Ext.trans ?_ (by with_reducible assumption))))⟩
              case measure => simp [intOf]; omega
            · have hin : i < n := by rw [HN.out]; exact hi
              obtain ⟨e0, e1, e2, e3, e4⟩ := ((HS.out.ext HX1.out).ext hxq).nm' hi
              have hin9 : decide ((i : Int) < 0) = false := decide_eq_false (by omega)
              by_cases hst : (ns.getD i0 nmD).2.2.1 < (ns.getD i nmD).2.2.1
              · have NX : Hid (_ = (i0 : Int)) := Lib.hid (htk.trans (bsSt_yes hlx (.inr hst)))
                have hsd : decide ((ns.getD i0 nmD).2.2.1 < (ns.getD i nmD).2.2.1) = true := decide_eq_true hst
                clear hlx htk hi0 hi2 hgu d0 d3 d4 hst e0 e1 e3 e4
                generalize (ns.getD i nmD).2.2.1 = si at *
                generalize (ns.getD i0 nmD).2.2.1 = st at *
                generalize tx (ns.getD i0 nmD).2.1 = sl at *
                generalize tx (ls.getD k []) = sx at *
                go_wp2
                (refine wp_region_ext (by kernel_rfl) (by kernel_rfl) ?_; (repeat (go_big_quiet_step (fail))); refine wpQuiet_nil ?_; intro wq hxwq; obtain ⟨hcwq, hfwq⟩ := hxwq.rules; have hswq := hxwq.size; (try simp at hswq))
                go_wp2
                go_roundw
                case rel => exact ⟨j + 1, _, by omega, by go_num, rfl, Lib.hid (by first | (rw [NX.out]; exact HB.out) | rw [NX.out]), by (repeat (first | with_reducible exact Ext.refl _ | with_reducible assumption | ((with_reducible apply Src.ext); with_reducible assumption) | with_reducible refine Ext.alloc ?_ _ | with_reducible refine Ext.drew ?_ | with_reducible refine Ext.drewN ?_ _ | ((with_reducible refine Ext.setCell' ?_ ?_ _); solve | omega | simp | (simp; omega)) | (with_reducible refine Ext.trans ?_ (by with_reducible assumption))))⟩
                case measure => simp [intOf]; omega
              · have NX : Hid (_ = (i : Int)) := Lib.hid (htk.trans (bsSt_no (.inr (by
                  rintro (q | q)
                  · omega
                  · exact hst q))))
                have hsd : decide ((ns.getD i0 nmD).2.2.1 < (ns.getD i nmD).2.2.1) = false := decide_eq_false hst
                clear hlx htk hi0 hi2 hgu d0 d3 d4 hst e0 e1 e3 e4
                generalize (ns.getD i nmD).2.2.1 = si at *
                generalize (ns.getD i0 nmD).2.2.1 = st at *
                generalize tx (ns.getD i0 nmD).2.1 = sl at *
                generalize tx (ls.getD k []) = sx at *
                go_wp2
                (refine wp_region_ext (by kernel_rfl) (by kernel_rfl) ?_; (repeat (go_big_quiet_step (fail))); refine wpQuiet_nil ?_; intro wq hxwq; obtain ⟨hcwq, hfwq⟩ := hxwq.rules; have hswq := hxwq.size; (try simp at hswq))
                go_wp2
                go_roundw
                case rel => exact ⟨j + 1, _, by omega, by go_num, rfl, Lib.hid (by first | (rw [NX.out]; exact HB.out) | rw [NX.out]), by (repeat (first | with_reducible exact Ext.refl _ | with_reducible assumption | ((with_reducible apply Src.ext); with_reducible assumption) | with_reducible refine Ext.alloc ?_ _ | with_reducible refine Ext.drew ?_ | with_reducible refine Ext.drewN ?_ _ | ((with_reducible refine Ext.setCell' ?_ ?_ _); solve | omega | simp | (simp; omega)) | (with_reducible refine Ext.trans ?_ (by with_reducible assumption))))⟩
                case measure => simp [intOf]; omega
          · rw [show ((ns.getD i0 nmD).2.1 == ls.getD k []) = false by rw [beq_eq_false_iff_ne]; exact hlx] at hxt
            have NX : Hid (_ = bz) := Lib.hid (htk.trans (bsSt_no (.inl hlx)))
            clear hlx htk hi0 hi2 hgu HC d0 d3 d4
            generalize (ns.getD i0 nmD).2.2.1 = st at *
            generalize tx (ns.getD i0 nmD).2.1 = sl at *
            generalize tx (ls.getD k []) = sx at *
            go_wp2
            (refine wp_region_ext (by kernel_rfl) (by kernel_rfl) ?_; (repeat (go_big_quiet_step (fail))); refine wpQuiet_nil ?_; intro wq hxwq; obtain ⟨hcwq, hfwq⟩ := hxwq.rules; have hswq := hxwq.size; (try simp at hswq))
            go_wp2
            go_roundw
            case rel => exact ⟨j + 1, _, by omega, by go_num, rfl, Lib.hid (by first | (rw [NX.out]; exact HB.out) | rw [NX.out]), by (repeat (first | with_reducible exact Ext.refl _ | with_reducible assumption | ((with_reducible apply Src.ext); with_reducible assumption) | with_reducible refine Ext.alloc ?_ _ | with_reducible refine Ext.drew ?_ | with_reducible refine Ext.drewN ?_ _ | ((with_reducible refine Ext.setCell' ?_ ?_ _); solve | omega | simp | (simp; omega)) | (with_reducible refine Ext.trans ?_ (by with_reducible assumption))))⟩
            case measure => simp [intOf]; omega
        · obtain rfl : j = p := by omega
          have HBB : Hid (bz = bsF ns (ls.getD k []) (usL ns y)) := Lib.hid (by have := HB.out; rwa [HPL.out, List.take_length] at this)
          by_cases hbz : 0 ≤ bz
          · have HRR : Hid (bz = r) := Lib.hid (by rw [← HG.out, bsG_hit HLT.out (by rw [← HBB.out]; exact hbz)]; exact HBB.out)
            go_wp2
            go_ret
            exact ⟨ret_int HRR.out, HX1.out.trans (by (repeat (first | with_reducible exact Ext.refl _ | with_reducible assumption | ((with_reducible apply Src.ext); with_reducible assumption) | with_reducible refine Ext.alloc ?_ _ | with_reducible refine Ext.drew ?_ | with_reducible refine Ext.drewN ?_ _ | ((with_reducible refine Ext.setCell' ?_ ?_ _); solve | omega | simp | (simp; omega)) | (with_reducible refine Ext.trans ?_ (by with_reducible assumption)))))⟩
          · have HGG : Hid (bsG ns (usL ns y) (ls.drop (k + 1)) = r) := Lib.hid (by rw [← bsG_skip HLT.out (by rw [← HBB.out]; exact hbz)]; exact HG.out)
            go_wp2
            go_roundw
            case rel => exact ⟨k + 1, by omega, by go_num, HGG, by (repeat (first | with_reducible exact Ext.refl _ | with_reducible assumption | ((with_reducible apply Src.ext); with_reducible assumption) | with_reducible refine Ext.alloc ?_ _ | with_reducible refine Ext.drew ?_ | with_reducible refine Ext.drewN ?_ _ | ((with_reducible refine Ext.setCell' ?_ ?_ _); solve | omega | simp | (simp; omega)) | (with_reducible refine Ext.trans ?_ (by with_reducible assumption))))⟩
            case measure => simp [intOf]; omega
    · obtain rfl : k = m := by omega
      have HRR : Hid (-1 = r) := Lib.hid (by rw [← HG.out, HM.out]; exact bsG_end.symm)
      go_wp2
      go_ret
      exact ⟨ret_int HRR.out, HX1.out.trans (by (repeat (first | with_reducible exact Ext.refl _ | with_reducible assumption | ((with_reducible apply Src.ext); with_reducible assumption) | with_reducible refine Ext.alloc ?_ _ | with_reducible refine Ext.drew ?_ | with_reducible refine Ext.drewN ?_ _ | ((with_reducible refine Ext.setCell' ?_ ?_ _); solve | omega | simp | (simp; omega)) | (with_reducible refine Ext.trans ?_ (by with_reducible assumption)))))⟩

end Go.Proofs.YtapfokfbdmcokaaGreatDoor
