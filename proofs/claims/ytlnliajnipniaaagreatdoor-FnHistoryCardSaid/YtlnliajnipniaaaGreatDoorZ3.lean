/- Languages and best names, as the program and the specification see them. Best names, as the program sees them. Best names, as the specification sees them. -/
import Derived.Test.YtlnliajnipniaaaGreatDoorZ2
namespace Go.Proofs.YtlnliajnipniaaaGreatDoor
open Go.RowKit
attribute [local go_sem] ExtOf.cell ExtOf.frozen
section
variable {ns : List Nm} {x : List UInt8} {y : Int} {j : Nat}
theorem bs_not (h : usB ns y j = false) : bsF ns x (usTo ns y (j + 1)) = bsF ns x (usTo ns y j) := by rw [usTo_succ, if_neg (by rw [h]; simp)]
theorem bs_lang (h : (ns.getD j nmD).2.1 ≠ x) : bsF ns x (usTo ns y (j + 1)) = bsF ns x (usTo ns y j) := by
 rw [usTo_succ]
 split
 ·rw [bsF_add, bsSt_no (.inl h)]
 ·rfl
theorem bs_yes (h : usB ns y j = true) (hl : (ns.getD j nmD).2.1 = x) {b : Int} (hb : b = bsF ns x (usTo ns y j)) (hc : b < 0 ∨ (ns.getD j nmD).2.2.1 < (ns.getD b.toNat nmD).2.2.1) : bsF ns x (usTo ns y (j + 1)) = (j : Int) := by
 rw [usTo_succ, if_pos h, bsF_add, ← hb, bsSt_yes hl hc]
theorem bs_no (h : usB ns y j = true) {b : Int} (hb : b = bsF ns x (usTo ns y j)) (hc : ¬ (b < 0 ∨ (ns.getD j nmD).2.2.1 < (ns.getD b.toNat nmD).2.2.1)) : bsF ns x (usTo ns y (j + 1)) = b := by
 rw [usTo_succ, if_pos h, bsF_add, ← hb, bsSt_no (.inr hc)]
end
theorem lgB_any (ls : List (List UInt8)) : lgB ls = !(ls.any fun s => !smL s 2 3) := by
 unfold lgB
 rw [List.not_any_eq_all_not]
 simp
theorem tx_beq (a b : List UInt8) : ((tx a).toList == (tx b).toList) = (a == b) := by rw [tx_toL, tx_toL]
theorem i_areLanguages1 (s : List UInt8) (w : World) (hs : s.length ≤ 1048576) :
  Calls Tryz.prog 88 (#[.string (tx s)] ++ #[]) w fun e w' => e = .returned (.bool (!smL s 2 3)) ∧ Ext w w' := by
 have HL : Hid (∀ W, Calls Tryz.prog 89 #[.string (tx s)] W fun e w' => e = .returned (.bool (smL s 2 3)) ∧ Ext W w') := hI (fun W => by
  have := i_isLanguage (tx s) W (by rw [tx_size]; exact hs)
  rwa [tx_list] at this)
 generalize smL s 2 3 = q at *
 generalize tx s = sx at *
 clear hs
 go_enter Tryz.func88, Tryz.ntmps88
 (go_wp2_with fail; refine (HL.out _).mono ?_; rintro e w1 ⟨rfl, hx1⟩; obtain ⟨hc1, hf1, hs1⟩ := hx1.all; (try simp at hs1))
 go_wp2
 go_ret
 exact ⟨rfl, hx1⟩
theorem en_areLanguages1 (args : Array Value) (w : World) : (callFunc 88 args).run Tryz.prog w = .ok (.enter 88 args) w := enters_isSome Tryz.func88 (by kernel_rfl) (by kernel_rfl) args w
theorem i_areLanguages (A : Option Addr) (n c : Nat) (ls : List (List UInt8)) (w : World) (h : SlAt w 1 encS A ls) (hn : n = ls.length) (hl : n ≤ 1048576) (hs : ∀ s ∈ ls, s.length ≤ 1048576) :
  Calls Tryz.prog 45 #[.slice A n c] w fun e w' => e = .returned (.bool (lgB ls)) ∧ Ext w w' := by
 have HC := hI (fun W (hW : Ext w W) => i_ContainsFuncS (fun s => !smL s 2 3) _ #[] en_areLanguages1 A n c ls W (h.ext hW) hn hl (fun s hm W' _ => i_areLanguages1 s W' (hs s hm)))
 rw [lgB_any]
 generalize (ls.any fun s => !smL s 2 3) = q at *
 clear h hn hs
 go_enter Tryz.func45, Tryz.ntmps45
 (go_wp2_with fail; refine (HC.out _ xR).mono ?_; rintro e w1 ⟨rfl, hx1⟩; obtain ⟨hc1, hf1, hs1⟩ := hx1.all; (try simp at hs1))
 go_wp2
 go_ret
 exact ⟨rfl, hx1⟩
set_option maxHeartbeats 3200000 in
theorem s_l14Languages (A : Option Addr) (n c : Nat) (ls : List (List UInt8)) (w : World) (h : SlAt w 1 encS A ls) (hn : n = ls.length) (hl : n ≤ 1048576) (hs : ∀ s ∈ ls, s.length ≤ 1048576) :
  Calls Tryz.prog 49 #[.slice A n c] w fun e w' => e = .returned (.int .i64 (if lgB ls = true then 0 else 1)) ∧ Ext w w' := by
 have HN := hI hn
 have HS := hI h
 have HLS := hI hs
 have HP := hI (fun k (hk : k < ls.length) W => by
  have := s_l09Language (tx (ls.getD k [])) W (by rw [tx_size]; exact hs _ (by simp [List.getD, hk]))
  rw [tx_list] at this
  exact this)
 obtain ⟨r, hr⟩ : ∃ r : Int, r = (if lgB ls = true then 0 else 1) := ⟨_, rfl⟩
 have HR := hI hr
 rw [← hr]
 clear hn h hs hr
 go_enter Tryz.func49, Tryz.ntmps49
 go_wp2
 go_loopw [3] (fun i wr => ∃ k : Nat, k ≤ n ∧ i = .int .i64 k ∧ Hid (∀ j, j < k → smL (ls.getD j []) 2 3 = true) ∧ Ext w wr) (fun i _ => n - (intOf i).toNat)
 case atStart => exact ⟨0, by omega, rfl, hI (fun j hj => absurd hj (by omega)), xR⟩
 case round =>
  obtain ⟨k, hk, rfl, HJ, hxr⟩ := hrel
  obtain ⟨w5, rfl⟩ : ∃ x, x = wr := ⟨wr, rfl⟩
  by_cases hlt : k < n
  ·have hkr : k < ls.length := by rw [← HN.out]; exact hlt
   obtain ⟨b, off, hA, hb, d0⟩ := (HS.out.ext hxr).st hkr
   subst hA
   have HC := hI (HP.out k hkr)
   cases hq : smL (ls.getD k []) 2 3 with
   | true =>
    have HJ2 := hI (upTo1 HJ.out hq)
    rw [hq] at HC
    clear hq
    generalize tx (ls.getD k []) = sx at *
    (go_wp2_with fail; refine (HC.out _).mono ?_; rintro e w1 ⟨rfl, hx1⟩; obtain ⟨hc1, hf1, hs1⟩ := hx1.all; (try simp at hs1))
    go_wp2
    go_roundw
    case rel => exact ⟨k + 1, by omega, by go_num, HJ2, xT hxr hx1⟩
    case measure => simp [intOf]; omega
   | false =>
    have HF : Hid (lgB ls = false) := hI (by
     unfold lgB
     rw [List.all_eq_false]
     exact ⟨ls.getD k [], by simp [List.getD, hkr], by rw [hq]; simp⟩)
    rw [hq] at HC
    clear hq
    generalize tx (ls.getD k []) = sx at *
    (go_wp2_with fail; refine (HC.out _).mono ?_; rintro e w1 ⟨rfl, hx1⟩; obtain ⟨hc1, hf1, hs1⟩ := hx1.all; (try simp at hs1))
    go_wp2
    go_ret
    exact ⟨by rw [HR.out, HF.out]; rfl, xT hxr hx1⟩
  ·obtain rfl : k = n := by omega
   have HT : Hid (lgB ls = true) := hI (by
    unfold lgB
    rw [List.all_eq_true]
    intro s hs
    obtain ⟨j, hj, rfl⟩ := List.mem_iff_getElem.1 hs
    have := HJ.out j (by rw [HN.out]; exact hj)
    simpa [List.getD, hj] using this)
   go_wp2
   go_ret
   exact ⟨by rw [HR.out, HT.out]; rfl, hxr⟩
set_option maxRecDepth 20000 in
set_option maxHeartbeats 12800000 in
theorem i_bestIn (A A' : Option Addr) (n c m c' : Nat) (ns : List Nm) (ls : List (List UInt8)) (y : Int) (w : World) (h : SlAt w 5 encN A ns) (h' : SlAt w 1 encS A' ls) (hn : n = ns.length) (hm : m = ls.length) (hl : n ≤ 1048576) (hl' : m ≤ 1048576) :
  Calls Tryz.prog 92 #[.slice A n c, .slice A' m c', .int .i64 y] w fun e w' => e = .returned (.int .i64 (bsG ns (usL ns y) ls)) ∧ Ext w w' := by
 have HN := hI hn
 have HM := hI hm
 have HS := hI h
 have HS' := hI h'
 obtain ⟨r, hr⟩ : ∃ r, r = bsG ns (usL ns y) ls := ⟨_, rfl⟩
 have HR := hI hr
 rw [← hr]
 clear hr hn hm h h'
 go_enter Tryz.func92, Tryz.ntmps92
 go_wp2
 go_loopw [14] (fun i wr => ∃ k : Nat, k ≤ m ∧ i = .int .i64 k ∧ Hid (bsG ns (usL ns y) (ls.drop k) = r) ∧ Ext w wr) (fun i _ => m - (intOf i).toNat)
 case atStart => exact ⟨0, by omega, rfl, hI (by rw [List.drop_zero, HR.out]), xR⟩
 case round =>
  obtain ⟨k, hk, rfl, HG, hxr⟩ := hrel
  obtain ⟨w5, rfl⟩ : ∃ x, x = wr := ⟨wr, rfl⟩
  by_cases hlt : k < m
  ·have hkr : k < ls.length := by rw [← HM.out]; exact hlt
   obtain ⟨b8, off8, hA8, hb8, c8⟩ := (HS'.out.ext hxr).st hkr
   subst hA8
   obtain ⟨x, hx⟩ : ∃ x, x = ls.getD k [] := ⟨_, rfl⟩
   rw [← hx] at c8
   have HX := hI hx
   have HXT : Hid (∀ a : List UInt8, ((tx a).toList == (tx x).toList) = (a == x)) := hI (fun a => tx_beq a x)
   generalize tx x = sx at *
   clear hx
   have HLT := hI hkr
   go_wp2
   go_loopw [9, 20] (fun bv i wr => ∃ (j : Nat) (bz : Int), j ≤ n ∧ i = .int .i64 j ∧ bv = .int .i64 bz ∧ Hid (bz = bsF ns x (usTo ns y j)) ∧ Ext w wr) (fun _ i _ => n - (intOf i).toNat)
   case atStart => exact ⟨0, -1, by omega, rfl, rfl, hI rfl, hxr⟩
   case round =>
    obtain ⟨j, bz, hj, rfl, rfl, HB, hxq⟩ := hrel
    obtain ⟨w6, rfl⟩ : ∃ x, x = wr := ⟨wr, rfl⟩
    by_cases hjl : j < n
    ·have hjr : j < ns.length := by rw [← HN.out]; exact hjl
     obtain ⟨b, off, hA, hb, d0, d1, d2, d3, d4⟩ := (HS.out.ext hxq).nm hjr
     subst hA
     obtain ⟨q, hq⟩ : ∃ q, usB ns y j = q := ⟨_, rfl⟩
     have HH : Hid (∀ W, Calls Tryz.prog 56 #[.agg #[.int .i64 (ns.getD j nmD).2.2.2.1, .int .i64 (ns.getD j nmD).2.2.2.2], .int .i64 y] W fun e w' => e = .returned (.bool q) ∧ Ext W w') := hI (fun W => by
      have := i_has (ns.getD j nmD).2.2.2.1 (ns.getD j nmD).2.2.2.2 y W
      rwa [show inB y (ns.getD j nmD).2.2.2.1 (ns.getD j nmD).2.2.2.2 = q from hq] at this)
     have hxt := HXT.out (ns.getD j nmD).2.1
     have HC : bz = -1 ∨ ∃ i : Nat, bz = i ∧ i < j := by rw [HB.out]; exact usTo_bs ns x y j
     by_cases hlx : (ns.getD j nmD).2.1 = x
     ·rw [show ((ns.getD j nmD).2.1 == x) = true by rw [beq_iff_eq]; exact hlx] at hxt
      cases q with
      | false =>
       have NX := hI (bs_not (x := x) hq)
       clear hlx hq HC
       generalize (ns.getD j nmD).2.2.1 = st at *
       generalize (ns.getD j nmD).2.2.2.1 = yf at *
       generalize (ns.getD j nmD).2.2.2.2 = yt at *
       generalize tx (ns.getD j nmD).2.1 = sl at *
       generalize tx (ns.getD j nmD).1 = s0 at *
       go_wp2
       (refine wp_region_ext (by kernel_rfl) (by kernel_rfl) ?_; (repeat (go_big_quiet_step ((go_at_call 56; exact Calls_ext (HH.out _))))); refine wpQuiet_nil ?_; intro wq hxwq; obtain ⟨hcwq, hfwq, hswq⟩ := hxwq.all; (try simp at hswq))
       go_wp2
       go_roundw
       case rel => exact ⟨j + 1, _, by omega, by go_num, rfl, hI (by first | (rw [NX.out]; exact HB.out) | rw [NX.out]), xT (xA hxq) hxwq⟩
       case measure => simp [intOf]; omega
      | true =>
       rcases HC with rfl | ⟨i, rfl, hi⟩
       ·have NX := hI (bs_yes hq hlx HB.out (.inl (by omega)))
        clear hlx hq
        generalize (ns.getD j nmD).2.2.1 = st at *
        generalize (ns.getD j nmD).2.2.2.1 = yf at *
        generalize (ns.getD j nmD).2.2.2.2 = yt at *
        generalize tx (ns.getD j nmD).2.1 = sl at *
        generalize tx (ns.getD j nmD).1 = s0 at *
        go_wp2
        (refine wp_region_ext (by kernel_rfl) (by kernel_rfl) ?_; (repeat (go_big_quiet_step ((go_at_call 56; exact Calls_ext (HH.out _))))); refine wpQuiet_nil ?_; intro wq hxwq; obtain ⟨hcwq, hfwq, hswq⟩ := hxwq.all; (try simp at hswq))
        go_wp2
        go_roundw
        case rel => exact ⟨j + 1, _, by omega, by go_num, rfl, hI (by first | (rw [NX.out]; exact HB.out) | rw [NX.out]), xT (xA hxq) hxwq⟩
        case measure => simp [intOf]; omega
       ·have hir : i < ns.length := by omega
        obtain ⟨e0, e1, e2, e3, e4⟩ := (HS.out.ext hxq).nm' hir
        have hin : i < n := by omega
        have hi0 : decide ((i : Int) < 0) = false := decide_eq_false (by omega)
        by_cases hst : (ns.getD j nmD).2.2.1 < (ns.getD i nmD).2.2.1
        ·have NX := hI (bs_yes hq hlx HB.out (.inr hst))
         have hsd : decide ((ns.getD j nmD).2.2.1 < (ns.getD i nmD).2.2.1) = true := decide_eq_true hst
         clear hlx hq hst e0 e1 e3 e4
         generalize (ns.getD i nmD).2.2.1 = si at *
         generalize (ns.getD j nmD).2.2.1 = st at *
         generalize (ns.getD j nmD).2.2.2.1 = yf at *
         generalize (ns.getD j nmD).2.2.2.2 = yt at *
         generalize tx (ns.getD j nmD).2.1 = sl at *
         generalize tx (ns.getD j nmD).1 = s0 at *
         go_wp2
         (refine wp_region_ext (by kernel_rfl) (by kernel_rfl) ?_; (repeat (go_big_quiet_step ((go_at_call 56; exact Calls_ext (HH.out _))))); refine wpQuiet_nil ?_; intro wq hxwq; obtain ⟨hcwq, hfwq, hswq⟩ := hxwq.all; (try simp at hswq))
         go_wp2
         go_roundw
         case rel => exact ⟨j + 1, _, by omega, by go_num, rfl, hI (by first | (rw [NX.out]; exact HB.out) | rw [NX.out]), xT (xA hxq) hxwq⟩
         case measure => simp [intOf]; omega
        ·have NX := hI (bs_no hq HB.out (x := x) (by
          rintro (q | q)
          ·omega
          ·exact hst q))
         have hsd : decide ((ns.getD j nmD).2.2.1 < (ns.getD i nmD).2.2.1) = false := decide_eq_false hst
         clear hlx hq hst e0 e1 e3 e4
         generalize (ns.getD i nmD).2.2.1 = si at *
         generalize (ns.getD j nmD).2.2.1 = st at *
         generalize (ns.getD j nmD).2.2.2.1 = yf at *
         generalize (ns.getD j nmD).2.2.2.2 = yt at *
         generalize tx (ns.getD j nmD).2.1 = sl at *
         generalize tx (ns.getD j nmD).1 = s0 at *
         go_wp2
         (refine wp_region_ext (by kernel_rfl) (by kernel_rfl) ?_; (repeat (go_big_quiet_step ((go_at_call 56; exact Calls_ext (HH.out _))))); refine wpQuiet_nil ?_; intro wq hxwq; obtain ⟨hcwq, hfwq, hswq⟩ := hxwq.all; (try simp at hswq))
         go_wp2
         go_roundw
         case rel => exact ⟨j + 1, _, by omega, by go_num, rfl, hI (by first | (rw [NX.out]; exact HB.out) | rw [NX.out]), xT (xA hxq) hxwq⟩
         case measure => simp [intOf]; omega
     ·rw [show ((ns.getD j nmD).2.1 == x) = false by rw [beq_eq_false_iff_ne]; exact hlx] at hxt
      have NX := hI (bs_lang (y := y) hlx)
      clear hlx hq HC
      generalize (ns.getD j nmD).2.2.1 = st at *
      generalize (ns.getD j nmD).2.2.2.1 = yf at *
      generalize (ns.getD j nmD).2.2.2.2 = yt at *
      generalize tx (ns.getD j nmD).2.1 = sl at *
      generalize tx (ns.getD j nmD).1 = s0 at *
      go_wp2
      (refine wp_region_ext (by kernel_rfl) (by kernel_rfl) ?_; (repeat (go_big_quiet_step ((go_at_call 56; exact Calls_ext (HH.out _))))); refine wpQuiet_nil ?_; intro wq hxwq; obtain ⟨hcwq, hfwq, hswq⟩ := hxwq.all; (try simp at hswq))
      go_wp2
      go_roundw
      case rel => exact ⟨j + 1, _, by omega, by go_num, rfl, hI (by first | (rw [NX.out]; exact HB.out) | rw [NX.out]), xT (xA hxq) hxwq⟩
      case measure => simp [intOf]; omega
    ·obtain rfl : j = n := by omega
     have HBB : Hid (bz = bsF ns x (usL ns y)) := hI (by unfold usL; rw [← HN.out]; exact HB.out)
     by_cases hbz : 0 ≤ bz
     ·have HRR : Hid (bz = r) := hI (by rw [← HG.out, bsG_hit HLT.out (by rw [← HX.out, ← HBB.out]; exact hbz), ← HX.out]; exact HBB.out)
      go_wp2
      go_ret
      exact ⟨ret_int HRR.out, hxq⟩
     ·have HGG : Hid (bsG ns (usL ns y) (ls.drop (k + 1)) = r) := hI (by rw [← bsG_skip HLT.out (by rw [← HX.out, ← HBB.out]; exact hbz)]; exact HG.out)
      go_wp2
      go_roundw
      case rel => exact ⟨k + 1, by omega, by go_num, HGG, hxq⟩
      case measure => simp [intOf]; omega
  ·obtain rfl : k = m := by omega
   have HRR : Hid (-1 = r) := hI (by rw [← HG.out, HM.out]; exact bsG_end.symm)
   go_wp2
   go_ret
   exact ⟨ret_int HRR.out, hxr⟩
set_option maxRecDepth 20000 in
set_option maxHeartbeats 12800000 in
theorem s_l09Best (A A' : Option Addr) (n c m c' : Nat) (ns : List Nm) (ls : List (List UInt8)) (y : Int) (w : World) (h : SlAt w 5 encN A ns) (h' : SlAt w 1 encS A' ls) (hn : n = ns.length) (hm : m = ls.length) (hl : n ≤ 1000) (hl' : m ≤ 1048576) :
  Calls Tryz.prog 98 #[.slice A n c, .slice A' m c', .int .i64 y] w fun e w' => e = .returned (.int .i64 (bsG ns (usL ns y) ls)) ∧ Ext w w' := by
 have HU := hI (fun W (hW : Ext w W) => s_l09Used A n c ns y W (h.ext hW) hn hl)
 have HN := hI hn
 have HM := hI hm
 have HS := hI h
 have HS' := hI h'
 obtain ⟨r, hr⟩ : ∃ r, r = bsG ns (usL ns y) ls := ⟨_, rfl⟩
 have HR := hI hr
 rw [← hr]
 clear hr hn hm h h'
 go_enter Tryz.func98, Tryz.ntmps98
 go_wp2_with fail
 refine (HU.out _ xR).mono ?_
 rintro e w1 ⟨v, rfl, hO, hx1⟩
 obtain ⟨A7, c7, rfl, hS7, _⟩ := hO.sl len_encI
 have HS7 := hI hS7
 have hul : (usL ns y).length ≤ 1048576 := Nat.le_trans (usTo_len _ _ _) (by rw [← HN.out]; omega)
 obtain ⟨p, hp⟩ : ∃ p, p = (usL ns y).length := ⟨_, rfl⟩
 rw [← hp] at hul ⊢
 have HPL := hI hp
 have HX1 := hI hx1
 clear hS7 hO hp HU hx1
 go_wp2
 go_loopw [8] (fun i wr => ∃ k : Nat, k ≤ m ∧ i = .int .i64 k ∧ Hid (bsG ns (usL ns y) (ls.drop k) = r) ∧ Ext w1 wr) (fun i _ => m - (intOf i).toNat)
 case atStart => exact ⟨0, by omega, rfl, hI (by rw [List.drop_zero, HR.out]), xR⟩
 case round =>
  obtain ⟨k, hk, rfl, HG, hxr⟩ := hrel
  obtain ⟨w5, rfl⟩ : ∃ x, x = wr := ⟨wr, rfl⟩
  by_cases hlt : k < m
  ·have hkr : k < ls.length := by rw [← HM.out]; exact hlt
   have HLT := hI hkr
   go_wp2
   go_loopw [9, 10] (fun bv i wr => ∃ (j : Nat) (bz : Int), j ≤ p ∧ i = .int .i64 j ∧ bv = .int .i64 bz ∧ Hid (bz = bsF ns (ls.getD k []) ((usL ns y).take j)) ∧ Ext w1 wr) (fun _ i _ => p - (intOf i).toNat)
   case atStart => exact ⟨0, -1, by omega, rfl, rfl, hI rfl, hxr⟩
   case round =>
    obtain ⟨j, bz, hj, rfl, rfl, HB, hxq⟩ := hrel
    obtain ⟨w6, rfl⟩ : ∃ x, x = wr := ⟨wr, rfl⟩
    by_cases hjl : j < p
    ·have hju : j < (usL ns y).length := by rw [← HPL.out]; exact hjl
     obtain ⟨b8, off8, hA8, hb8, c8⟩ := ((HS'.out.ext HX1.out).ext hxq).st hkr
     subst hA8
     obtain ⟨b7, off7, hA7, hb7, c7u⟩ := (HS7.out.ext hxq).it hju
     subst hA7
     obtain ⟨i0, hi0, hi1, hi2⟩ := usTo_at ns y ns.length hju
     have hgu : (usL ns y).getD j 0 = (i0 : Int) := hi0
     rw [hgu] at c7u
     have htk := bsF_take (ns := ns) (x := ls.getD k []) hju
     rw [← HB.out, hgu] at htk
     have hin0 : i0 < n := by rw [HN.out]; exact hi1
     obtain ⟨b, off, hA, hb, d0, d1, d2, d3, d4⟩ := ((HS.out.ext HX1.out).ext hxq).nm hi1
     subst hA
     have hxt := tx_beq (ns.getD i0 nmD).2.1 (ls.getD k [])
     have HC : bz = -1 ∨ ∃ i : Nat, bz = i ∧ i < ns.length := by rw [HB.out]; exact bsF_part
     by_cases hlx : (ns.getD i0 nmD).2.1 = ls.getD k []
     ·rw [show ((ns.getD i0 nmD).2.1 == ls.getD k []) = true by rw [beq_iff_eq]; exact hlx] at hxt
      rcases HC with rfl | ⟨i, rfl, hi⟩
      ·have NX : Hid (_ = (i0 : Int)) := hI (htk.trans (bsSt_yes hlx (.inl (by omega))))
       clear hlx htk hi0 hi2 hgu d0 d3 d4
       generalize (ns.getD i0 nmD).2.2.1 = st at *
       generalize tx (ns.getD i0 nmD).2.1 = sl at *
       generalize tx (ls.getD k []) = sx at *
       go_wp2
       (refine wp_region_ext (by kernel_rfl) (by kernel_rfl) ?_; (repeat (go_big_quiet_step (fail))); refine wpQuiet_nil ?_; intro wq hxwq; obtain ⟨hcwq, hfwq, hswq⟩ := hxwq.all; (try simp at hswq))
       go_wp2
       go_roundw
       case rel => exact ⟨j + 1, _, by omega, by go_num, rfl, hI (by first | (rw [NX.out]; exact HB.out) | rw [NX.out]), xT hxq hxwq⟩
       case measure => simp [intOf]; omega
      ·have hin : i < n := by rw [HN.out]; exact hi
       obtain ⟨e0, e1, e2, e3, e4⟩ := ((HS.out.ext HX1.out).ext hxq).nm' hi
       have hin9 : decide ((i : Int) < 0) = false := decide_eq_false (by omega)
       by_cases hst : (ns.getD i0 nmD).2.2.1 < (ns.getD i nmD).2.2.1
       ·have NX : Hid (_ = (i0 : Int)) := hI (htk.trans (bsSt_yes hlx (.inr hst)))
        have hsd : decide ((ns.getD i0 nmD).2.2.1 < (ns.getD i nmD).2.2.1) = true := decide_eq_true hst
        clear hlx htk hi0 hi2 hgu d0 d3 d4 hst e0 e1 e3 e4
        generalize (ns.getD i nmD).2.2.1 = si at *
        generalize (ns.getD i0 nmD).2.2.1 = st at *
        generalize tx (ns.getD i0 nmD).2.1 = sl at *
        generalize tx (ls.getD k []) = sx at *
        go_wp2
        (refine wp_region_ext (by kernel_rfl) (by kernel_rfl) ?_; (repeat (go_big_quiet_step (fail))); refine wpQuiet_nil ?_; intro wq hxwq; obtain ⟨hcwq, hfwq, hswq⟩ := hxwq.all; (try simp at hswq))
        go_wp2
        go_roundw
        case rel => exact ⟨j + 1, _, by omega, by go_num, rfl, hI (by first | (rw [NX.out]; exact HB.out) | rw [NX.out]), xT hxq hxwq⟩
        case measure => simp [intOf]; omega
       ·have NX : Hid (_ = (i : Int)) := hI (htk.trans (bsSt_no (.inr (by
         rintro (q | q)
         ·omega
         ·exact hst q))))
        have hsd : decide ((ns.getD i0 nmD).2.2.1 < (ns.getD i nmD).2.2.1) = false := decide_eq_false hst
        clear hlx htk hi0 hi2 hgu d0 d3 d4 hst e0 e1 e3 e4
        generalize (ns.getD i nmD).2.2.1 = si at *
        generalize (ns.getD i0 nmD).2.2.1 = st at *
        generalize tx (ns.getD i0 nmD).2.1 = sl at *
        generalize tx (ls.getD k []) = sx at *
        go_wp2
        (refine wp_region_ext (by kernel_rfl) (by kernel_rfl) ?_; (repeat (go_big_quiet_step (fail))); refine wpQuiet_nil ?_; intro wq hxwq; obtain ⟨hcwq, hfwq, hswq⟩ := hxwq.all; (try simp at hswq))
        go_wp2
        go_roundw
        case rel => exact ⟨j + 1, _, by omega, by go_num, rfl, hI (by first | (rw [NX.out]; exact HB.out) | rw [NX.out]), xT hxq hxwq⟩
        case measure => simp [intOf]; omega
     ·rw [show ((ns.getD i0 nmD).2.1 == ls.getD k []) = false by rw [beq_eq_false_iff_ne]; exact hlx] at hxt
      have NX : Hid (_ = bz) := hI (htk.trans (bsSt_no (.inl hlx)))
      clear hlx htk hi0 hi2 hgu HC d0 d3 d4
      generalize (ns.getD i0 nmD).2.2.1 = st at *
      generalize tx (ns.getD i0 nmD).2.1 = sl at *
      generalize tx (ls.getD k []) = sx at *
      go_wp2
      (refine wp_region_ext (by kernel_rfl) (by kernel_rfl) ?_; (repeat (go_big_quiet_step (fail))); refine wpQuiet_nil ?_; intro wq hxwq; obtain ⟨hcwq, hfwq, hswq⟩ := hxwq.all; (try simp at hswq))
      go_wp2
      go_roundw
      case rel => exact ⟨j + 1, _, by omega, by go_num, rfl, hI (by first | (rw [NX.out]; exact HB.out) | rw [NX.out]), xT hxq hxwq⟩
      case measure => simp [intOf]; omega
    ·obtain rfl : j = p := by omega
     have HBB : Hid (bz = bsF ns (ls.getD k []) (usL ns y)) := hI (by have := HB.out; rwa [HPL.out, List.take_length] at this)
     by_cases hbz : 0 ≤ bz
     ·have HRR : Hid (bz = r) := hI (by rw [← HG.out, bsG_hit HLT.out (by rw [← HBB.out]; exact hbz)]; exact HBB.out)
      go_wp2
      go_ret
      exact ⟨ret_int HRR.out, HX1.out.trans hxq⟩
     ·have HGG : Hid (bsG ns (usL ns y) (ls.drop (k + 1)) = r) := hI (by rw [← bsG_skip HLT.out (by rw [← HBB.out]; exact hbz)]; exact HG.out)
      go_wp2
      go_roundw
      case rel => exact ⟨k + 1, by omega, by go_num, HGG, hxq⟩
      case measure => simp [intOf]; omega
  ·obtain rfl : k = m := by omega
   have HRR : Hid (-1 = r) := hI (by rw [← HG.out, HM.out]; exact bsG_end.symm)
   go_wp2
   go_ret
   exact ⟨ret_int HRR.out, HX1.out.trans hxr⟩
end Go.Proofs.YtlnliajnipniaaaGreatDoor
