/- Contracts of the rings: the reference's test of a ring; laws, walked over the translation. -/
import Derived.Test.YteppjdoggjcdoaaS
import Derived.RegionTactic
import Derived.BigRegion
import Derived.WalkLawsBesides
import Derived.WalkSpells
import Derived.Lib.MinMax
import Derived.Outline
namespace Go.Proofs.Yteppjdoggjcdoaa
open Go.RowKit
attribute [local go_sem] ExtOf.cell ExtOf.frozen






/-- corner k differs from the first m -/
def Differs (ps : List (Int × Int)) (k m : Nat) : Prop := ∀ j : Nat, j < m → ¬ (ptx ps k = ptx ps j ∧ ptz ps k = ptz ps j)
theorem Differs.succ {ps : List (Int × Int)} {k m : Nat} (h : Differs ps k m) (e : eqP (ptx ps k) (ptz ps k) (ptx ps m) (ptz ps m) = false) : Differs ps k (m + 1) := fun j hj => by
  rcases Nat.lt_or_ge j m with h1 | h1
  · exact h j h1
  · obtain rfl : j = m := by omega
    exact ne_of_eqP e
theorem Turned.succ' {ps : List (Int × Int)} {k : Nat} (h : Turned ps k) (ht : turnI ps k ≠ 0) (hd : Differs ps k k) : Turned ps (k + 1) := by
  refine ⟨fun i hi => ?_, fun i j hj hi e => ?_⟩
  · rcases Nat.lt_or_ge i k with h1 | h1
    · exact h.1 i h1
    · rw [show i = k by omega]; exact ht
  · rcases Nat.lt_or_ge i k with h1 | h1
    · exact h.2 i j hj h1 e
    · rw [show i = k by omega] at e hj
      exact hd j hj e
theorem apB_next {ps : List (Int × Int)} {i k : Nat} (h : k = i + 1 ∨ (i = 0 ∧ k + 1 = ps.length)) : apB ps i k = true := by simp [apB, h]
theorem apB_cross {ps : List (Int × Int)} {i k : Nat} (h : crossI ps i k = false) : apB ps i k = true := by simp [apB, h]
theorem apB_no {ps : List (Int × Int)} {i k : Nat} (h : crossI ps i k = true) (h1 : ¬ k = i + 1) (h2 : ¬ (i = 0 ∧ k + 1 = ps.length)) : apB ps i k = false := by
  unfold apB
  rw [h, decide_eq_false (by rintro (h | h); exact h1 h; exact h2 h)]
  rfl
set_option maxHeartbeats 3200000 in
theorem s_IsRing (A : Option Addr) (c : Nat) (ps : List (Int × Int)) (w : World) (h : SlAt w 2 encP A ps) (hl : ps.length ≤ 1048576) :
    Calls Try.prog 59 #[.slice A ps.length c] w fun e w' => e = .returned (.bool (ringB ps)) ∧ Ext w w' := by
  by_cases hb : inB ps.length 3 12 = true
  · by_cases ho : oks ps = true
    · obtain ⟨hn3, hn12⟩ := inB_len hb
      obtain ⟨b, off, rfl, hb0⟩ := h.open_ (by omega)
      have har : ∀ W, SlAt W 2 encP (some ⟨b, off, none⟩) ps → Calls Try.prog 111 #[.slice (some ⟨b, off, none⟩) ps.length c] W fun e w' => e = .returned (.bool true) ∧ Ext W w' := fun W hW => by
        have := s_arePoints _ c ps W hW hl
        rwa [show (ps.all fun p => okP p.1 p.2) = true from ho] at this
      have HA := Lib.hid har
      have HO := Lib.hid ho
      clear har ho
      go_enter Try.func59, Try.ntmps59
      go_wp2_with (first | (go_at_call 110; refine (l01In_any _ _ _ _).mono ?_; rintro e w' ⟨rfl, rfl⟩) | (go_at_call 111; refine (HA.out _ h).mono ?_; rintro e w1 ⟨rfl, hx1⟩; obtain ⟨hc1, hf1⟩ := hx1.rules; have hs1 := hx1.size; (try simp at hs1); have := (show b < w1.heap.size from by omega)))
      go_loopw [4] (fun i wr => ∃ k : Nat, k ≤ ps.length ∧ i = .int .i64 k ∧ Hid (Turned ps k) ∧ Ext w wr) (fun i _ => ps.length - (intOf i).toNat)
      case atStart => exact ⟨0, Nat.zero_le _, rfl, ⟨fun i hi => by omega, fun i j hj hi => by omega⟩, by (repeat (first | with_reducible exact Ext.refl _ | with_reducible assumption | ((with_reducible apply Src.ext); with_reducible assumption) | with_reducible refine Ext.alloc ?_ _ | with_reducible refine Ext.drew ?_ | with_reducible refine Ext.drewN ?_ _ | ((with_reducible refine Ext.setCell' ?_ ?_ _); solve | omega | simp | (simp; omega)) | (with_reducible refine Ext.trans ?_ (by with_reducible assumption))))⟩
      case round =>
        obtain ⟨k, hk, rfl, HT, hx⟩ := hrel
        by_cases hlt : k < ps.length
        · have hS := h.ext hx
          obtain ⟨d0, d1⟩ := hS.ring hlt
          have hbr : b < wr.heap.size := by have := hx.size; omega
          by_cases ht : turnI ps k = 0
          · have hR : ¬ RingP ps := fun hr => hr.2.2.2.1 k hlt ht
            have tb : (turnW (ptx ps k) (ptz ps k) (ptx ps (k + 1)) (ptz ps (k + 1)) (ptx ps (k + 2)) (ptz ps (k + 2)) == 0) = true := by rw [beq_iff_eq]; exact ht
            clear ht
            go_wp2
            (refine wp_region_ext (by kernel_rfl) (by kernel_rfl) ?_; (repeat (go_big_quiet_step (first | (go_at_call 70; exact Calls_ext (s_corner _ _ ps _ _ (hS.ext (ExtOf.ext _)) (by omega) hl (by omega) (by omega))) | (go_at_call 69; exact Calls_ext (s_turn _ _ _ _ _ _ _))))); refine wpQuiet_nil ?_; intro wq hxwq; obtain ⟨hcwq, hfwq⟩ := hxwq.rules; have hswq := hxwq.size; (try simp at hswq))
            go_wp2
            go_ret
            exact ⟨ret_bool (ringB_no hR), by (repeat (first | with_reducible exact Ext.refl _ | with_reducible assumption | ((with_reducible apply Src.ext); with_reducible assumption) | with_reducible refine Ext.alloc ?_ _ | with_reducible refine Ext.drew ?_ | with_reducible refine Ext.drewN ?_ _ | ((with_reducible refine Ext.setCell' ?_ ?_ _); solve | omega | simp | (simp; omega)) | (with_reducible refine Ext.trans ?_ (by with_reducible assumption))))⟩
          · have HN := Lib.hid ht
            have tb : (turnW (ptx ps k) (ptz ps k) (ptx ps (k + 1)) (ptz ps (k + 1)) (ptx ps (k + 2)) (ptz ps (k + 2)) == 0) = false := by rw [beq_eq_false_iff_ne]; exact ht
            clear ht
            go_wp2
            (refine wp_region_ext (by kernel_rfl) (by kernel_rfl) ?_; (repeat (go_big_quiet_step (first | (go_at_call 70; exact Calls_ext (s_corner _ _ ps _ _ (hS.ext (ExtOf.ext _)) (by omega) hl (by omega) (by omega))) | (go_at_call 69; exact Calls_ext (s_turn _ _ _ _ _ _ _))))); refine wpQuiet_nil ?_; intro wq hxwq; obtain ⟨hcwq, hfwq⟩ := hxwq.rules; have hswq := hxwq.size; (try simp at hswq))
            go_wp2
            go_loopw [5] (fun i wr2 => ∃ m : Nat, m ≤ k ∧ i = .int .i64 m ∧ Hid (Differs ps k m) ∧ Ext w wr2) (fun i _ => ps.length - (intOf i).toNat)
            case atStart => exact ⟨0, by omega, by go_num, fun j h1 => by omega, by (repeat (first | with_reducible exact Ext.refl _ | with_reducible assumption | ((with_reducible apply Src.ext); with_reducible assumption) | with_reducible refine Ext.alloc ?_ _ | with_reducible refine Ext.drew ?_ | with_reducible refine Ext.drewN ?_ _ | ((with_reducible refine Ext.setCell' ?_ ?_ _); solve | omega | simp | (simp; omega)) | (with_reducible refine Ext.trans ?_ (by with_reducible assumption))))⟩
            case round =>
              obtain ⟨m, hm, rfl, HD, hx2⟩ := hrel
              by_cases hlm : m < k
              · have hS2 := h.ext hx2
                obtain ⟨p0, p1⟩ := hS2.ring hlt
                obtain ⟨q0, q1⟩ := hS2.ring (k := m) (by omega)
                have hmn : m < ps.length := by omega
                have hbr2 := Nat.lt_of_lt_of_le hb0 hx2.size
                by_cases he : eqP (ptx ps k) (ptz ps k) (ptx ps m) (ptz ps m) = true
                · have hR : ¬ RingP ps := fun hr => hr.2.2.2.2.1 k m hlm hlt (eqP_iff.1 he)
                  go_wp2
                  (refine wp_region_ext (by kernel_rfl) (by kernel_rfl) ?_; (repeat (go_big_quiet_step (fail))); refine wpQuiet_nil ?_; intro wp hxwp; obtain ⟨hcwp, hfwp⟩ := hxwp.rules; have hswp := hxwp.size; (try simp at hswp))
                  go_wp2
                  go_ret
                  exact ⟨ret_bool (ringB_no hR), by (repeat (first | with_reducible exact Ext.refl _ | with_reducible assumption | ((with_reducible apply Src.ext); with_reducible assumption) | with_reducible refine Ext.alloc ?_ _ | with_reducible refine Ext.drew ?_ | with_reducible refine Ext.drewN ?_ _ | ((with_reducible refine Ext.setCell' ?_ ?_ _); solve | omega | simp | (simp; omega)) | (with_reducible refine Ext.trans ?_ (by with_reducible assumption))))⟩
                · have he' : eqP (ptx ps k) (ptz ps k) (ptx ps m) (ptz ps m) = false := Bool.eq_false_iff.2 he
                  clear he
                  go_wp2
                  (refine wp_region_ext (by kernel_rfl) (by kernel_rfl) ?_; (repeat (go_big_quiet_step (fail))); refine wpQuiet_nil ?_; intro wp hxwp; obtain ⟨hcwp, hfwp⟩ := hxwp.rules; have hswp := hxwp.size; (try simp at hswp))
                  go_wp2
                  go_roundw
                  case rel => exact ⟨m + 1, by omega, by go_num, HD.out.succ he', by (repeat (first | with_reducible exact Ext.refl _ | with_reducible assumption | ((with_reducible apply Src.ext); with_reducible assumption) | with_reducible refine Ext.alloc ?_ _ | with_reducible refine Ext.drew ?_ | with_reducible refine Ext.drewN ?_ _ | ((with_reducible refine Ext.setCell' ?_ ?_ _); solve | omega | simp | (simp; omega)) | (with_reducible refine Ext.trans ?_ (by with_reducible assumption))))⟩
                  case measure => simp [intOf]; omega
              · go_wp2
                go_roundw
                case rel =>
                  obtain rfl : m = k := by omega
                  exact ⟨m + 1, by omega, by go_num, HT.out.succ' HN.out HD.out, by (repeat (first | with_reducible exact Ext.refl _ | with_reducible assumption | ((with_reducible apply Src.ext); with_reducible assumption) | with_reducible refine Ext.alloc ?_ _ | with_reducible refine Ext.drew ?_ | with_reducible refine Ext.drewN ?_ _ | ((with_reducible refine Ext.setCell' ?_ ?_ _); solve | omega | simp | (simp; omega)) | (with_reducible refine Ext.trans ?_ (by with_reducible assumption))))⟩
                case measure => simp [intOf]; omega
        · obtain rfl : k = ps.length := by omega
          go_wp2
          go_loopw [6] (fun i wr2 => ∃ k : Nat, k ≤ ps.length ∧ i = .int .i64 k ∧ Hid (Apart ps k) ∧ Ext w wr2) (fun i _ => ps.length - (intOf i).toNat)
          case atStart => exact ⟨0, by omega, by go_num, fun i j hi => by omega, by (repeat (first | with_reducible exact Ext.refl _ | with_reducible assumption | ((with_reducible apply Src.ext); with_reducible assumption) | with_reducible refine Ext.alloc ?_ _ | with_reducible refine Ext.drew ?_ | with_reducible refine Ext.drewN ?_ _ | ((with_reducible refine Ext.setCell' ?_ ?_ _); solve | omega | simp | (simp; omega)) | (with_reducible refine Ext.trans ?_ (by with_reducible assumption))))⟩
          case round =>
            obtain ⟨i, hi, rfl, HP, hx2⟩ := hrel
            by_cases hli : i < ps.length
            · go_wp2
              go_loopw [7] (fun u wr3 => ∃ m : Nat, i + 2 ≤ m ∧ m ≤ ps.length + 1 ∧ u = .int .i64 m ∧ Hid (Apart1 ps i m) ∧ Ext w wr3) (fun u _ => ps.length + 1 - (intOf u).toNat)
              case atStart => exact ⟨i + 2, by omega, by omega, by go_num, fun j h1 h2 => apB_next (by omega), by (repeat (first | with_reducible exact Ext.refl _ | with_reducible assumption | ((with_reducible apply Src.ext); with_reducible assumption) | with_reducible refine Ext.alloc ?_ _ | with_reducible refine Ext.drew ?_ | with_reducible refine Ext.drewN ?_ _ | ((with_reducible refine Ext.setCell' ?_ ?_ _); solve | omega | simp | (simp; omega)) | (with_reducible refine Ext.trans ?_ (by with_reducible assumption))))⟩
              case round =>
                obtain ⟨m, hkm, hm, rfl, HM, hx3⟩ := hrel
                by_cases hlm : m < ps.length
                · have hS3 := h.ext hx3
                  obtain ⟨p0, p1⟩ := hS3.ring hli
                  obtain ⟨o0, o1⟩ := hS3.ring (k := i + 1) (by omega)
                  obtain ⟨q0, q1⟩ := hS3.ring hlm
                  by_cases h0 : i = 0 ∧ m + 1 = ps.length
                  · have HM1 := HM.out.succ (apB_next (Or.inr h0))
                    have HM2 := Lib.hid HM1
                    have t1 : ((i : Int) == 0) = true := by rw [beq_iff_eq]; omega
                    have t2 : ((m : Int) == (ps.length : Int) - 1) = true := by rw [beq_iff_eq]; omega
                    clear HM1 h0
                    go_wp2
                    go_roundw
                    case rel => exact ⟨m + 1, by omega, by omega, by go_num, HM2, by (repeat (first | with_reducible exact Ext.refl _ | with_reducible assumption | ((with_reducible apply Src.ext); with_reducible assumption) | with_reducible refine Ext.alloc ?_ _ | with_reducible refine Ext.drew ?_ | with_reducible refine Ext.drewN ?_ _ | ((with_reducible refine Ext.setCell' ?_ ?_ _); solve | omega | simp | (simp; omega)) | (with_reducible refine Ext.trans ?_ (by with_reducible assumption))))⟩
                    case measure => simp [intOf]; omega
                  · have HZ := Lib.hid h0
                    have hi1 : i + 1 < ps.length := by omega
                    rw [show ((i + 1 : Nat) : Int) = (i : Int) + 1 from rfl] at o0 o1
                    have hbr3 := Nat.lt_of_lt_of_le hb0 hx3.size
                    by_cases h00 : i = 0
                    · have t1 : ((i : Int) == 0) = true := by rw [beq_iff_eq]; omega
                      have t2 : ((m : Int) == (ps.length : Int) - 1) = false := by rw [beq_eq_false_iff_ne]; omega
                      clear h0 h00
                      by_cases hcr : crossI ps i m = true
                      · have hR : ¬ RingP ps := fun hr => by
                          have e1 := hr.2.2.2.2.2 i m (by omega) hlm
                          rw [apB_no hcr (by omega) HZ.out] at e1
                          cases e1
                        have hcr' : crossW (ptx ps i) (ptz ps i) (ptx ps (i + 1)) (ptz ps (i + 1)) (ptx ps m) (ptz ps m) (ptx ps (m + 1)) (ptz ps (m + 1)) = true := hcr
                        clear hcr
                        go_wp2
                        (refine wp_region_ext (by kernel_rfl) (by kernel_rfl) ?_; (repeat (go_big_quiet_step (first | (go_at_call 70; exact Calls_ext (s_corner _ _ ps _ _ (hS3.ext (ExtOf.ext _)) (by omega) hl (by omega) (by omega))) | (go_at_call 112; exact Calls_ext (as_bool (s_doCross _ _ _ _ _ _ _ _ _) hcr'))))); refine wpQuiet_nil ?_; intro wq hxwq; obtain ⟨hcwq, hfwq⟩ := hxwq.rules; have hswq := hxwq.size; (try simp at hswq))
                        go_wp2
                        go_ret
                        exact ⟨ret_bool (ringB_no hR), by (repeat (first | with_reducible exact Ext.refl _ | with_reducible assumption | ((with_reducible apply Src.ext); with_reducible assumption) | with_reducible refine Ext.alloc ?_ _ | with_reducible refine Ext.drew ?_ | with_reducible refine Ext.drewN ?_ _ | ((with_reducible refine Ext.setCell' ?_ ?_ _); solve | omega | simp | (simp; omega)) | (with_reducible refine Ext.trans ?_ (by with_reducible assumption))))⟩
                      · have HM1 := HM.out.succ (apB_cross (Bool.eq_false_iff.2 hcr))
                        have HM2 := Lib.hid HM1
                        have hcr' : crossW (ptx ps i) (ptz ps i) (ptx ps (i + 1)) (ptz ps (i + 1)) (ptx ps m) (ptz ps m) (ptx ps (m + 1)) (ptz ps (m + 1)) = false := Bool.eq_false_iff.2 hcr
                        clear hcr HM1
                        go_wp2
                        (refine wp_region_ext (by kernel_rfl) (by kernel_rfl) ?_; (repeat (go_big_quiet_step (first | (go_at_call 70; exact Calls_ext (s_corner _ _ ps _ _ (hS3.ext (ExtOf.ext _)) (by omega) hl (by omega) (by omega))) | (go_at_call 112; exact Calls_ext (as_bool (s_doCross _ _ _ _ _ _ _ _ _) hcr'))))); refine wpQuiet_nil ?_; intro wq hxwq; obtain ⟨hcwq, hfwq⟩ := hxwq.rules; have hswq := hxwq.size; (try simp at hswq))
                        go_wp2
                        go_roundw
                        case rel => exact ⟨m + 1, by omega, by omega, by go_num, HM2, by (repeat (first | with_reducible exact Ext.refl _ | with_reducible assumption | ((with_reducible apply Src.ext); with_reducible assumption) | with_reducible refine Ext.alloc ?_ _ | with_reducible refine Ext.drew ?_ | with_reducible refine Ext.drewN ?_ _ | ((with_reducible refine Ext.setCell' ?_ ?_ _); solve | omega | simp | (simp; omega)) | (with_reducible refine Ext.trans ?_ (by with_reducible assumption))))⟩
                        case measure => simp [intOf]; omega
                    · have t1 : ((i : Int) == 0) = false := by rw [beq_eq_false_iff_ne]; omega
                      clear h0 h00
                      by_cases hcr : crossI ps i m = true
                      · have hR : ¬ RingP ps := fun hr => by
                          have e1 := hr.2.2.2.2.2 i m (by omega) hlm
                          rw [apB_no hcr (by omega) HZ.out] at e1
                          cases e1
                        have hcr' : crossW (ptx ps i) (ptz ps i) (ptx ps (i + 1)) (ptz ps (i + 1)) (ptx ps m) (ptz ps m) (ptx ps (m + 1)) (ptz ps (m + 1)) = true := hcr
                        clear hcr
                        go_wp2
                        (refine wp_region_ext (by kernel_rfl) (by kernel_rfl) ?_; (repeat (go_big_quiet_step (first | (go_at_call 70; exact Calls_ext (s_corner _ _ ps _ _ (hS3.ext (ExtOf.ext _)) (by omega) hl (by omega) (by omega))) | (go_at_call 112; exact Calls_ext (as_bool (s_doCross _ _ _ _ _ _ _ _ _) hcr'))))); refine wpQuiet_nil ?_; intro wq hxwq; obtain ⟨hcwq, hfwq⟩ := hxwq.rules; have hswq := hxwq.size; (try simp at hswq))
                        go_wp2
                        go_ret
                        exact ⟨ret_bool (ringB_no hR), by (repeat (first | with_reducible exact Ext.refl _ | with_reducible assumption | ((with_reducible apply Src.ext); with_reducible assumption) | with_reducible refine Ext.alloc ?_ _ | with_reducible refine Ext.drew ?_ | with_reducible refine Ext.drewN ?_ _ | ((with_reducible refine Ext.setCell' ?_ ?_ _); solve | omega | simp | (simp; omega)) | (with_reducible refine Ext.trans ?_ (by with_reducible assumption))))⟩
                      · have HM1 := HM.out.succ (apB_cross (Bool.eq_false_iff.2 hcr))
                        have HM2 := Lib.hid HM1
                        have hcr' : crossW (ptx ps i) (ptz ps i) (ptx ps (i + 1)) (ptz ps (i + 1)) (ptx ps m) (ptz ps m) (ptx ps (m + 1)) (ptz ps (m + 1)) = false := Bool.eq_false_iff.2 hcr
                        clear hcr HM1
                        go_wp2
                        (refine wp_region_ext (by kernel_rfl) (by kernel_rfl) ?_; (repeat (go_big_quiet_step (first | (go_at_call 70; exact Calls_ext (s_corner _ _ ps _ _ (hS3.ext (ExtOf.ext _)) (by omega) hl (by omega) (by omega))) | (go_at_call 112; exact Calls_ext (as_bool (s_doCross _ _ _ _ _ _ _ _ _) hcr'))))); refine wpQuiet_nil ?_; intro wq hxwq; obtain ⟨hcwq, hfwq⟩ := hxwq.rules; have hswq := hxwq.size; (try simp at hswq))
                        go_wp2
                        go_roundw
                        case rel => exact ⟨m + 1, by omega, by omega, by go_num, HM2, by (repeat (first | with_reducible exact Ext.refl _ | with_reducible assumption | ((with_reducible apply Src.ext); with_reducible assumption) | with_reducible refine Ext.alloc ?_ _ | with_reducible refine Ext.drew ?_ | with_reducible refine Ext.drewN ?_ _ | ((with_reducible refine Ext.setCell' ?_ ?_ _); solve | omega | simp | (simp; omega)) | (with_reducible refine Ext.trans ?_ (by with_reducible assumption))))⟩
                        case measure => simp [intOf]; omega
                · have HP1 := HP.out.succ HM.out (by omega)
                  have HP2 := Lib.hid HP1
                  clear HP1
                  go_wp2
                  go_roundw
                  case rel => exact ⟨i + 1, by omega, by go_num, HP2, by (repeat (first | with_reducible exact Ext.refl _ | with_reducible assumption | ((with_reducible apply Src.ext); with_reducible assumption) | with_reducible refine Ext.alloc ?_ _ | with_reducible refine Ext.drew ?_ | with_reducible refine Ext.drewN ?_ _ | ((with_reducible refine Ext.setCell' ?_ ?_ _); solve | omega | simp | (simp; omega)) | (with_reducible refine Ext.trans ?_ (by with_reducible assumption))))⟩
                  case measure => simp [intOf]; omega
            · go_wp2
              go_ret
              obtain rfl : i = ps.length := by omega
              exact ⟨ret_bool (ringB_yes ⟨hn3, hn12, HO.out, HT.out.1, HT.out.2, fun i j hij hj => HP.out i j (by omega) hij hj⟩), by (repeat (first | with_reducible exact Ext.refl _ | with_reducible assumption | ((with_reducible apply Src.ext); with_reducible assumption) | with_reducible refine Ext.alloc ?_ _ | with_reducible refine Ext.drew ?_ | with_reducible refine Ext.drewN ?_ _ | ((with_reducible refine Ext.setCell' ?_ ?_ _); solve | omega | simp | (simp; omega)) | (with_reducible refine Ext.trans ?_ (by with_reducible assumption))))⟩
    · have hR : ¬ RingP ps := fun hr => ho hr.2.2.1
      have har : ∀ W, SlAt W 2 encP A ps → Calls Try.prog 111 #[.slice A ps.length c] W fun e w' => e = .returned (.bool false) ∧ Ext W w' := fun W hW => by
        have := s_arePoints _ c ps W hW hl
        rwa [show (ps.all fun p => okP p.1 p.2) = false from Bool.eq_false_iff.2 ho] at this
      have HA := Lib.hid har
      clear har ho
      go_enter Try.func59, Try.ntmps59
      go_wp2_with (first | (go_at_call 110; refine (l01In_any _ _ _ _).mono ?_; rintro e w' ⟨rfl, rfl⟩) | (go_at_call 111; refine (HA.out _ h).mono ?_; rintro e w1 ⟨rfl, hx1⟩; obtain ⟨hc1, hf1⟩ := hx1.rules; have hs1 := hx1.size; (try simp at hs1)))
      go_ret
      exact ⟨ret_bool (ringB_no hR), by (repeat (first | with_reducible exact Ext.refl _ | with_reducible assumption | ((with_reducible apply Src.ext); with_reducible assumption) | with_reducible refine Ext.alloc ?_ _ | with_reducible refine Ext.drew ?_ | with_reducible refine Ext.drewN ?_ _ | ((with_reducible refine Ext.setCell' ?_ ?_ _); solve | omega | simp | (simp; omega)) | (with_reducible refine Ext.trans ?_ (by with_reducible assumption))))⟩
  · have hR : ¬ RingP ps := fun hr => hb (by simp [inB]; have := hr.1; have := hr.2.1; omega)
    have hb' : inB ps.length 3 12 = false := by simpa using hb
    clear hb
    go_enter Try.func59, Try.ntmps59
    go_wp2_with (first | (go_at_call 110; refine (l01In_any _ _ _ _).mono ?_; rintro e w' ⟨rfl, rfl⟩))
    go_ret
    exact ⟨ret_bool (ringB_no hR), by (repeat (first | with_reducible exact Ext.refl _ | with_reducible assumption | ((with_reducible apply Src.ext); with_reducible assumption) | with_reducible refine Ext.alloc ?_ _ | with_reducible refine Ext.drew ?_ | with_reducible refine Ext.drewN ?_ _ | ((with_reducible refine Ext.setCell' ?_ ?_ _); solve | omega | simp | (simp; omega)) | (with_reducible refine Ext.trans ?_ (by with_reducible assumption))))⟩
end Go.Proofs.Yteppjdoggjcdoaa
