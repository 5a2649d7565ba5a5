/- Sets of years, as the program asks them; equal rows of spans, as the law does. -/
import Derived.Test.YtncccigbiefnkaaGreatDoorH5
import Derived.Test.YtncccigbiefnkaaGreatDoorW3
import Derived.Test.YtncccigbiefnkaaGreatDoorZB
import Derived.Deep.RegionHeld3
import Derived.Deep.DeepCutAuto
import Derived.RegionTactic
import Derived.BigRegion
import Derived.WalkLawsBesides
import Derived.WalkSpells
import Derived.Lib.MinMax
import Derived.Outline
namespace Go.Proofs.YtncccigbiefnkaaGreatDoor
open Go.RowKit
attribute [local go_sem] ExtOf.cell ExtOf.frozen

set_option maxHeartbeats 3200000 in
theorem l_likeSpans (A A' : Option Addr) (n c n' c' : Nat) (S : List Sn) (w : World) (h : SlAt w 2 encSn A S) (h' : SlAt w 2 encSn A' S) (hn : n = S.length) (hn' : n' = S.length) (hl : n ≤ 1048576) :
    Calls Tryz.prog 17 #[.slice A n c, .slice A' n' c'] w fun e w' => e = .returned (.bool true) ∧ Ext w w' := by
  obtain rfl : n' = n := by rw [hn', hn]
  have hn1 : (((n' : Nat) : Int) != (n' : Int)) = false := by simp
  have HN := Lib.hid hn
  clear hn hn'
  go_enter Tryz.func17, Tryz.ntmps17
  go_wp2
  go_loopw [5] (fun i wr => ∃ k : Nat, k ≤ n' ∧ i = .int .i64 k ∧ Ext w wr) (fun i _ => n' - (intOf i).toNat)
  case atStart => exact ⟨0, Nat.zero_le _, rfl, by (repeat (first | with_reducible exact Ext.refl _ | with_reducible assumption | ((with_reducible apply Src.ext); with_reducible assumption) | with_reducible refine Ext.alloc ?_ _ | with_reducible refine Ext.drew ?_ | with_reducible refine Ext.drewN ?_ _ | ((with_reducible refine Ext.setCell' ?_ ?_ _); solve | omega | simp | (simp; omega)) | (with_reducible refine Ext.trans ?_ (by with_reducible assumption))))⟩
  case round =>
    obtain ⟨k, hk, rfl, hx⟩ := hrel
    by_cases hlt : k < n'
    · obtain ⟨b, off, rfl, hb, d0, d1⟩ := (h.ext hx).sn (k := k) (by rw [← HN.out]; exact hlt)
      obtain ⟨b', off', rfl, hb', e0, e1⟩ := (h'.ext hx).sn (k := k) (by rw [← HN.out]; exact hlt)
      generalize S.getD k (0, 0) = p at *
      obtain ⟨x, z⟩ := p
      simp only at d0 d1 e0 e1
      go_wp2
      (refine wp_region_ext (by kernel_rfl) (by kernel_rfl) ?_; (repeat (go_big_quiet_step (fail))); refine wpQuiet_nil ?_; intro wq hxwq; obtain ⟨hcwq, hfwq⟩ := hxwq.rules; have hswq := hxwq.size; (try simp at hswq))
      go_wp2
      go_roundw
      case rel => exact ⟨k + 1, by omega, by go_num, by (repeat (first | with_reducible exact Ext.refl _ | with_reducible assumption | ((with_reducible apply Src.ext); with_reducible assumption) | with_reducible refine Ext.alloc ?_ _ | with_reducible refine Ext.drew ?_ | with_reducible refine Ext.drewN ?_ _ | ((with_reducible refine Ext.setCell' ?_ ?_ _); solve | omega | simp | (simp; omega)) | (with_reducible refine Ext.trans ?_ (by with_reducible assumption))))⟩
      case measure => simp [intOf]; omega
    · go_wp2
      go_ret
      exact ⟨rfl, by (repeat (first | with_reducible exact Ext.refl _ | with_reducible assumption | ((with_reducible apply Src.ext); with_reducible assumption) | with_reducible refine Ext.alloc ?_ _ | with_reducible refine Ext.drew ?_ | with_reducible refine Ext.drewN ?_ _ | ((with_reducible refine Ext.setCell' ?_ ?_ _); solve | omega | simp | (simp; omega)) | (with_reducible refine Ext.trans ?_ (by with_reducible assumption))))⟩

set_option maxHeartbeats 3200000 in
theorem i_AreYears (A : Option Addr) (n c : Nat) (S : List Sn) (w : World) (h : SlAt w 2 encSn A S) (hn : n = S.length) (hY : YrsOk S) :
    Calls Tryz.prog 87 #[.slice A n c] w fun e w' => e = .returned (.bool true) ∧ Ext w w' := by
  have HN := Lib.hid hn
  have HY := Lib.hid hY
  have hn12 : n ≤ 12 := by have := hY.2.2; omega
  have HS := Lib.hid h
  clear hn hY h
  go_enter Tryz.func87, Tryz.ntmps87
  go_wp2
  go_loopw [7] (fun i wr => ∃ k : Nat, k ≤ n ∧ i = .int .i64 k ∧ Ext w wr) (fun i _ => n - (intOf i).toNat)
  case atStart => exact ⟨0, by omega, rfl, by (repeat (first | with_reducible exact Ext.refl _ | with_reducible assumption | ((with_reducible apply Src.ext); with_reducible assumption) | with_reducible refine Ext.alloc ?_ _ | with_reducible refine Ext.drew ?_ | with_reducible refine Ext.drewN ?_ _ | ((with_reducible refine Ext.setCell' ?_ ?_ _); solve | omega | simp | (simp; omega)) | (with_reducible refine Ext.trans ?_ (by with_reducible assumption))))⟩
  case round =>
    obtain ⟨k, hk, rfl, hxr⟩ := hrel
    obtain ⟨w5, rfl⟩ : ∃ x, x = wr := ⟨wr, rfl⟩
    by_cases hlt : k < n
    · have hkl : k < S.length := by have := HN.out; omega
      obtain ⟨b, off, rfl, hb, d0, d1⟩ := (HS.out.ext hxr).sn hkl
      have hprev : ∀ m, k = m + 1 → w5.cell? ⟨b, off + m * 2 + 1, none⟩ = some (.int .i64 (S.getD m (0, 0)).2) := fun m hm => by
        obtain ⟨b9, off9, e9, _, _, p1⟩ := (HS.out.ext hxr).sn (show m < S.length by omega)
        injection e9 with e9
        injection e9 with q1 q2
        subst q1 q2
        exact p1
      have HPV := Lib.hid hprev
      obtain ⟨hsp, hpr⟩ := HY.out.at_ hkl
      have HPR := Lib.hid hpr
      have HC := Lib.hid (fun W => as_boolY (i_IsSpan (S.getD k (0, 0)).1 (S.getD k (0, 0)).2 W) hsp)
      have hbd := spB_iff.1 hsp
      obtain ⟨v, hve⟩ : ∃ v, v = S.getD k (0, 0) := ⟨_, rfl⟩
      rw [← hve] at d0 d1 HC HPR hbd
      obtain ⟨va, vb⟩ := v
      simp only at d0 d1 HC HPR hbd
      clear hve hprev hpr hsp
      by_cases hk0 : k = 0
      · have hg0 : decide (0 < k) = false := decide_eq_false (by omega)
        clear HPV hk0 HPR
        go_wp2
        (refine wp_region_ext (by kernel_rfl) (by kernel_rfl) ?_; (repeat (go_big_quiet_step ((go_at_call 163; exact Calls_ext (HC.out _))))); refine wpQuiet_nil ?_; intro wq hxwq; obtain ⟨hcwq, hfwq⟩ := hxwq.rules; have hswq := hxwq.size; (try simp at hswq))
        all_goals go_wp2
        all_goals go_roundw
        case rel => exact ⟨k + 1, by omega, by go_num, by (repeat (first | with_reducible exact Ext.refl _ | with_reducible assumption | ((with_reducible apply Src.ext); with_reducible assumption) | with_reducible refine Ext.alloc ?_ _ | with_reducible refine Ext.drew ?_ | with_reducible refine Ext.drewN ?_ _ | ((with_reducible refine Ext.setCell' ?_ ?_ _); solve | omega | simp | (simp; omega)) | (with_reducible refine Ext.trans ?_ (by with_reducible assumption))))⟩
        case measure => simp [intOf]; omega
      · obtain ⟨m, hm⟩ : ∃ m, k = m + 1 := ⟨k - 1, by omega⟩
        have p0 := HPV.out m hm
        have hpk := HPR.out (by omega)
        rw [show k - 1 = m by omega] at hpk
        obtain ⟨hmsp, _⟩ := HY.out.at_ (show m < S.length by omega)
        have hmb := spB_iff.1 hmsp
        generalize (S.getD m (0, 0)).2 = u at *
        generalize (S.getD m (0, 0)).1 = u0 at *
        have hg0 : decide (0 < k) = true := decide_eq_true (by omega)
        have hw : IntKind.i64.wrap ((k : Int) - 1) = (m : Int) := by rw [IntWalk.i64_in _ (by omega)]; omega
        have hw2 : IntKind.i64.wrap (u + 2) = u + 2 := IntWalk.i64_in _ (by omega)
        have hmn : m < n := by omega
        have hge : decide (va < u + 2) = false := decide_eq_false (by omega)
        have HMM := Lib.hid hm
        clear HPV hk0 hm hpk HPR hmsp
        go_wp2
        (refine wp_region_ext (by kernel_rfl) (by kernel_rfl) ?_; (repeat (go_big_quiet_step ((go_at_call 163; exact Calls_ext (HC.out _))))); refine wpQuiet_nil ?_; intro wq hxwq; obtain ⟨hcwq, hfwq⟩ := hxwq.rules; have hswq := hxwq.size; (try simp at hswq))
        all_goals go_wp2
        all_goals go_roundw
        case rel => exact ⟨k + 1, by omega, by go_num, by (repeat (first | with_reducible exact Ext.refl _ | with_reducible assumption | ((with_reducible apply Src.ext); with_reducible assumption) | with_reducible refine Ext.alloc ?_ _ | with_reducible refine Ext.drew ?_ | with_reducible refine Ext.drewN ?_ _ | ((with_reducible refine Ext.setCell' ?_ ?_ _); solve | omega | simp | (simp; omega)) | (with_reducible refine Ext.trans ?_ (by with_reducible assumption))))⟩
        case measure => simp [intOf]; omega
    · obtain rfl : k = n := by omega
      have hle : decide ((k : Int) ≤ 12) = true := decide_eq_true (by omega)
      go_wp2
      go_ret
      exact ⟨rfl, by (repeat (first | with_reducible exact Ext.refl _ | with_reducible assumption | ((with_reducible apply Src.ext); with_reducible assumption) | with_reducible refine Ext.alloc ?_ _ | with_reducible refine Ext.drew ?_ | with_reducible refine Ext.drewN ?_ _ | ((with_reducible refine Ext.setCell' ?_ ?_ _); solve | omega | simp | (simp; omega)) | (with_reducible refine Ext.trans ?_ (by with_reducible assumption))))⟩

set_option maxHeartbeats 1600000 in
theorem i_hasYear1 (s : Sn) (y : Int) (b : Nat) (w : World) (hb : w.cell? ⟨b, 0, none⟩ = some (.int .i64 y)) :
    Calls Tryz.prog 165 #[.agg #[.int .i64 s.1, .int .i64 s.2], .pointer (some ⟨b, 0, none⟩)] w fun e w' => e = .returned (.bool (inB y s.1 s.2)) ∧ Ext w w' := by
  have eb : b < w.heap.size := World.block_lt_of_cell? _ _ hb
  have nb : ¬ b = w.heap.size := by omega
  have HH := Lib.hid (fun W => i_has s.1 s.2 y W)
  generalize s.1 = p at *
  generalize s.2 = q at *
  go_enter Tryz.func165, Tryz.ntmps165
  go_wp2_with fail
  refine (HH.out _).mono ?_
  rintro e w1 ⟨rfl, hx1⟩
  go_wp2
  go_ret
  exact ⟨rfl, by (repeat (first | with_reducible exact Ext.refl _ | with_reducible assumption | ((with_reducible apply Src.ext); with_reducible assumption) | with_reducible refine Ext.alloc ?_ _ | with_reducible refine Ext.drew ?_ | with_reducible refine Ext.drewN ?_ _ | ((with_reducible refine Ext.setCell' ?_ ?_ _); solve | omega | simp | (simp; omega)) | (with_reducible refine Ext.trans ?_ (by with_reducible assumption))))⟩
theorem en_hasYear1 (args : Array Value) (w : World) : (callFunc 165 args).run Tryz.prog w = .ok (.enter 165 args) w := enters_isSome Tryz.func165 (by kernel_rfl) (by kernel_rfl) args w
set_option maxHeartbeats 3200000 in
theorem i_IndexFuncSn (p : Sn → Bool) (g : Nat) (lb : Array Value) (eg : ∀ args w, (callFunc g args).run Tryz.prog w = .ok (.enter g args) w) (A : Option Addr) (n c : Nat) (xs : List (Sn)) (w : World) (h : SlAt w 2 encSn A xs) (hn : n = xs.length) (hl : n ≤ 1048576)
    (hp : ∀ x ∈ xs, ∀ W, Ext w W → Calls Tryz.prog g (#[.agg #[.int .i64 x.1, .int .i64 x.2]] ++ lb) W fun e w' => e = .returned (.bool (p x)) ∧ Ext W w') :
    Calls Tryz.prog 225 #[.slice A n c, .func (.func g) #[] lb] w fun e w' => e = .returned (.int .i64 (fstG p xs)) ∧ Ext w w' := by
  have HP := Lib.hid hp
  have HN := Lib.hid hn
  clear hp hn
  go_enter Tryz.func225, Tryz.ntmps225
  go_wp2
  go_loopw [8] (fun i wr => ∃ k : Nat, k ≤ n ∧ i = .int .i64 k ∧ Hid (∀ j, j < k → p (xs.getD j (0, 0)) = false) ∧ Ext w wr) (fun i _ => n - (intOf i).toNat)
  case atStart => exact ⟨0, by omega, rfl, fun j hj => absurd hj (by omega), by (repeat (first | with_reducible exact Ext.refl _ | with_reducible assumption | ((with_reducible apply Src.ext); with_reducible assumption) | with_reducible refine Ext.alloc ?_ _ | with_reducible refine Ext.drew ?_ | with_reducible refine Ext.drewN ?_ _ | ((with_reducible refine Ext.setCell' ?_ ?_ _); solve | omega | simp | (simp; omega)) | (with_reducible refine Ext.trans ?_ (by with_reducible assumption))))⟩
  case round =>
    obtain ⟨k, hk, rfl, HJ, hxr⟩ := hrel
    by_cases hlt : k < n
    · have hkr : k < xs.length := by rw [← HN.out]; exact hlt
      obtain ⟨b, off, rfl, hb, d0, d1⟩ := (h.ext hxr).sn hkr
      have hcall := HP.out _ (mem_getD (d := (0, 0)) hkr)
      cases hq : p (xs.getD k (0, 0)) with
      | true =>
        have HQ := Lib.hid hq
        rw [hq] at hcall
        have HC := Lib.hid hcall
        clear hcall hq
        obtain ⟨r, hr⟩ : ∃ r, r = xs.getD k (0, 0) := ⟨_, rfl⟩
        rw [← hr] at d0 d1 HC HQ
        have HR := Lib.hid hr
        clear hr
        go_wp2_with fail
        refine (HC.out _ (by (repeat (first | with_reducible exact Ext.refl _ | with_reducible assumption | ((with_reducible apply Src.ext); with_reducible assumption) | with_reducible refine Ext.alloc ?_ _ | with_reducible refine Ext.drew ?_ | with_reducible refine Ext.drewN ?_ _ | ((with_reducible refine Ext.setCell' ?_ ?_ _); solve | omega | simp | (simp; omega)) | (with_reducible refine Ext.trans ?_ (by with_reducible assumption)))))).mono ?_
        rintro e w' ⟨rfl, hx'⟩
        go_wp2
        go_ret
        exact ⟨ret_int (fstG_hit hkr (by rw [← HR.out]; exact HQ.out) HJ.out), by (repeat (first | with_reducible exact Ext.refl _ | with_reducible assumption | ((with_reducible apply Src.ext); with_reducible assumption) | with_reducible refine Ext.alloc ?_ _ | with_reducible refine Ext.drew ?_ | with_reducible refine Ext.drewN ?_ _ | ((with_reducible refine Ext.setCell' ?_ ?_ _); solve | omega | simp | (simp; omega)) | (with_reducible refine Ext.trans ?_ (by with_reducible assumption))))⟩
      | false =>
        have HJ2 := Lib.hid (upTo_succ HJ.out hq)
        rw [hq] at hcall
        have HC := Lib.hid hcall
        clear hcall hq
        obtain ⟨r, hr⟩ : ∃ r, r = xs.getD k (0, 0) := ⟨_, rfl⟩
        rw [← hr] at d0 d1 HC
        have HR := Lib.hid hr
        clear hr
        go_wp2_with fail
        refine (HC.out _ (by (repeat (first | with_reducible exact Ext.refl _ | with_reducible assumption | ((with_reducible apply Src.ext); with_reducible assumption) | with_reducible refine Ext.alloc ?_ _ | with_reducible refine Ext.drew ?_ | with_reducible refine Ext.drewN ?_ _ | ((with_reducible refine Ext.setCell' ?_ ?_ _); solve | omega | simp | (simp; omega)) | (with_reducible refine Ext.trans ?_ (by with_reducible assumption)))))).mono ?_
        rintro e w' ⟨rfl, hx'⟩
        go_wp2
        go_roundw
        case rel => exact ⟨k + 1, by omega, by go_num, HJ2, by (repeat (first | with_reducible exact Ext.refl _ | with_reducible assumption | ((with_reducible apply Src.ext); with_reducible assumption) | with_reducible refine Ext.alloc ?_ _ | with_reducible refine Ext.drew ?_ | with_reducible refine Ext.drewN ?_ _ | ((with_reducible refine Ext.setCell' ?_ ?_ _); solve | omega | simp | (simp; omega)) | (with_reducible refine Ext.trans ?_ (by with_reducible assumption))))⟩
        case measure => simp [intOf]; omega
    · obtain rfl : k = n := by omega
      go_wp2
      go_ret
      exact ⟨ret_int (fstG_miss (by rw [← HN.out]; exact HJ.out)), by (repeat (first | with_reducible exact Ext.refl _ | with_reducible assumption | ((with_reducible apply Src.ext); with_reducible assumption) | with_reducible refine Ext.alloc ?_ _ | with_reducible refine Ext.drew ?_ | with_reducible refine Ext.drewN ?_ _ | ((with_reducible refine Ext.setCell' ?_ ?_ _); solve | omega | simp | (simp; omega)) | (with_reducible refine Ext.trans ?_ (by with_reducible assumption))))⟩

set_option maxHeartbeats 3200000 in
theorem i_ContainsFuncSn (p : Sn → Bool) (g : Nat) (lb : Array Value) (eg : ∀ args w, (callFunc g args).run Tryz.prog w = .ok (.enter g args) w) (A : Option Addr) (n c : Nat) (xs : List (Sn)) (w : World) (h : SlAt w 2 encSn A xs) (hn : n = xs.length) (hl : n ≤ 1048576)
    (hp : ∀ x ∈ xs, ∀ W, Ext w W → Calls Tryz.prog g (#[.agg #[.int .i64 x.1, .int .i64 x.2]] ++ lb) W fun e w' => e = .returned (.bool (p x)) ∧ Ext W w') :
    Calls Tryz.prog 164 #[.slice A n c, .func (.func g) #[] lb] w fun e w' => e = .returned (.bool (xs.any p)) ∧ Ext w w' := by
  rw [← fstG_any]
  have hcall := i_IndexFuncSn p g lb eg A n c xs w h hn hl hp
  have HC := Lib.hid hcall
  clear hcall hp hn
  go_enter Tryz.func164, Tryz.ntmps164
  go_wp2_with fail
  refine HC.out.mono ?_
  rintro e w' ⟨rfl, hx⟩
  go_wp2
  go_ret
  exact ⟨rfl, hx⟩
set_option maxHeartbeats 1600000 in
theorem i_hasYear (A : Option Addr) (n c : Nat) (S : List Sn) (y : Int) (w : World) (h : SlAt w 2 encSn A S) (hn : n = S.length) (hl : n ≤ 1048576) :
    Calls Tryz.prog 88 #[.slice A n c, .int .i64 y] w fun e w' => e = .returned (.bool (hasY S y)) ∧ Ext w w' := by
  have HC : Hid (∀ W (lb : Array Value) b5, lb = #[.pointer (some ⟨b5, 0, none⟩)] → Blk W b5 2 #[.int .i64 y] → Ext w W → Calls Tryz.prog 164 #[.slice A n c, .func (.func 165) #[] lb] W fun e w' => e = .returned (.bool (hasY S y)) ∧ Ext W w') := Lib.hid (fun W lb b5 hlb h5' hx => by
    subst hlb
    have h5 : W.cell? ⟨b5, 0, none⟩ = some (.int .i64 y) := h5'.cell 0
    exact i_ContainsFuncSn (fun s => inB y s.1 s.2) _ _ en_hasYear1 A n c S W (h.ext hx) hn hl (fun s _ W' hW' => i_hasYear1 s y b5 W' ((hW'.cell _ _ (World.block_lt_of_cell? _ _ h5)).trans h5)))
  generalize hasY S y = r at *
  clear h hn
  go_enter Tryz.func88, Tryz.ntmps88
  go_wp2_with fail
  refine (HC.out _ _ _ rfl (by (repeat (first | with_reducible assumption | ((with_reducible apply Blk.new); solve | simp | rfl) | with_reducible apply Blk.drew | with_reducible apply Blk.drewN | ((with_reducible apply Blk.far'); solve | omega | simp | (simp; omega)) | with_reducible apply Blk.set_ | with_reducible apply Blk.alloc | ((with_reducible apply Blk.ext'); with_reducible assumption) | ((with_reducible apply Blk.but'); (with_reducible assumption); solve | omega | (simp; omega))))) (by (repeat (first | with_reducible exact Ext.refl _ | with_reducible assumption | ((with_reducible apply Src.ext); with_reducible assumption) | with_reducible refine Ext.alloc ?_ _ | with_reducible refine Ext.drew ?_ | with_reducible refine Ext.drewN ?_ _ | ((with_reducible refine Ext.setCell' ?_ ?_ _); solve | omega | simp | (simp; omega)) | (with_reducible refine Ext.trans ?_ (by with_reducible assumption)))))).mono ?_
  rintro e w1 ⟨rfl, hx1⟩
  go_wp2
  go_ret
  exact ⟨rfl, by (repeat (first | with_reducible exact Ext.refl _ | with_reducible assumption | ((with_reducible apply Src.ext); with_reducible assumption) | with_reducible refine Ext.alloc ?_ _ | with_reducible refine Ext.drew ?_ | with_reducible refine Ext.drewN ?_ _ | ((with_reducible refine Ext.setCell' ?_ ?_ _); solve | omega | simp | (simp; omega)) | (with_reducible refine Ext.trans ?_ (by with_reducible assumption))))⟩
set_option maxHeartbeats 1600000 in
theorem i_HasYear (A : Option Addr) (n c : Nat) (S : List Sn) (y : Int) (w : World) (h : SlAt w 2 encSn A S) (hn : n = S.length) (hY : YrsOk S) :
    Calls Tryz.prog 24 #[.slice A n c, .int .i64 y] w fun e w' => e = .returned (.tuple #[.bool (hasY S y), .int .i64 0]) ∧ Ext w w' := by
  have HA := Lib.hid (fun W (hW : Ext w W) => i_AreYears A n c S W (h.ext hW) hn hY)
  have HB := Lib.hid (fun W (hW : Ext w W) => i_hasYear A n c S y W (h.ext hW) hn (by have := hY.2.2; omega))
  generalize hasY S y = r at *
  clear h hn hY
  go_enter Tryz.func24, Tryz.ntmps24
  (go_wp2_with fail; refine (HA.out _ (by (repeat (first | with_reducible exact Ext.refl _ | with_reducible assumption | ((with_reducible apply Src.ext); with_reducible assumption) | with_reducible refine Ext.alloc ?_ _ | with_reducible refine Ext.drew ?_ | with_reducible refine Ext.drewN ?_ _ | ((with_reducible refine Ext.setCell' ?_ ?_ _); solve | omega | simp | (simp; omega)) | (with_reducible refine Ext.trans ?_ (by with_reducible assumption)))))).mono ?_; rintro e w1 ⟨rfl, hx1⟩; obtain ⟨hc1, hf1⟩ := hx1.rules; have hs1 := hx1.size; (try simp at hs1))
  (go_wp2_with fail; refine (HB.out _ (by (repeat (first | with_reducible exact Ext.refl _ | with_reducible assumption | ((with_reducible apply Src.ext); with_reducible assumption) | with_reducible refine Ext.alloc ?_ _ | with_reducible refine Ext.drew ?_ | with_reducible refine Ext.drewN ?_ _ | ((with_reducible refine Ext.setCell' ?_ ?_ _); solve | omega | simp | (simp; omega)) | (with_reducible refine Ext.trans ?_ (by with_reducible assumption)))))).mono ?_; rintro e w2 ⟨rfl, hx2⟩; obtain ⟨hc2, hf2⟩ := hx2.rules; have hs2 := hx2.size; (try simp at hs2))
  go_wp2
  go_ret2
  exact ⟨rfl, by (repeat (first | with_reducible exact Ext.refl _ | with_reducible assumption | ((with_reducible apply Src.ext); with_reducible assumption) | with_reducible refine Ext.alloc ?_ _ | with_reducible refine Ext.drew ?_ | with_reducible refine Ext.drewN ?_ _ | ((with_reducible refine Ext.setCell' ?_ ?_ _); solve | omega | simp | (simp; omega)) | (with_reducible refine Ext.trans ?_ (by with_reducible assumption))))⟩
end Go.Proofs.YtncccigbiefnkaaGreatDoor
