/- Names, places and registers, as the program sees them. -/
import Derived.Test.YtlnliajnipniaaaGreatDoorZ0
import Derived.Test.YtlnliajnipniaaaGreatDoorGV
namespace Go.Proofs.YtlnliajnipniaaaGreatDoor
open Go.RowKit
attribute [local go_sem] ExtOf.cell ExtOf.frozen
set_option maxHeartbeats 3200000 in
theorem i_IsName (n : Nm) (w : World) (hg : GoodN n) (hm : Mx w) :
  Calls Tryz.prog 173 #[.agg #[.string (tx n.1), .string (tx n.2.1), .int .i64 n.2.2.1, .int .i64 n.2.2.2.1, .int .i64 n.2.2.2.2]] w fun e w' => e = .returned (.bool (nmB n)) ∧ Ext w w' := by
 have HP : Hid (∀ W, Ext w W → Calls Tryz.prog 187 #[.string (tx n.1)] W fun e w' => e = .returned (.bool (phB n.1)) ∧ Ext W w') := hI (fun W hW => by
  have := i_IsPhrase (tx n.1) W (by rw [tx_size]; exact hg.1) (hm.ext hW)
  rwa [tx_list] at this)
 have HL : Hid (∀ W, Calls Tryz.prog 89 #[.string (tx n.2.1)] W fun e w' => e = .returned (.bool (smL n.2.1 2 3)) ∧ Ext W w') := hI (fun W => by
  have := i_isLanguage (tx n.2.1) W (by rw [tx_size]; exact hg.2)
  rwa [tx_list] at this)
 have HR : Hid (nmB n = (phB n.1 && smL n.2.1 2 3 && inB n.2.2.1 0 2 && spB n.2.2.2.1 n.2.2.2.2)) := hI rfl
 rw [HR.out]
 generalize phB n.1 = q1 at *
 generalize smL n.2.1 2 3 = q2 at *
 generalize tx n.1 = st at *
 generalize tx n.2.1 = sl at *
 generalize n.2.2.1 = s at *
 generalize n.2.2.2.1 = a at *
 generalize n.2.2.2.2 = b at *
 clear HR hg hm
 cases q1 with
 | false =>
  go_enter Tryz.func173, Tryz.ntmps173
  (go_wp2_with fail; refine (HP.out _ (xA xR)).mono ?_; rintro e w1 ⟨rfl, hx1⟩; obtain ⟨hc1, hf1, hs1⟩ := hx1.all; (try simp at hs1))
  go_wp2
  go_ret
  exact ⟨rfl, xT (xA xR) hx1⟩
 | true =>
  cases q2 with
  | false =>
   go_enter Tryz.func173, Tryz.ntmps173
   (go_wp2_with fail; refine (HP.out _ (xA xR)).mono ?_; rintro e w1 ⟨rfl, hx1⟩; obtain ⟨hc1, hf1, hs1⟩ := hx1.all; (try simp at hs1); have := (show w.heap.size < w1.heap.size from by omega))
   (go_wp2_with fail; refine (HL.out _).mono ?_; rintro e w2 ⟨rfl, hx2⟩; obtain ⟨hc2, hf2, hs2⟩ := hx2.all; (try simp at hs2))
   go_wp2
   go_ret
   exact ⟨rfl, xT (xT (xA xR) hx1) hx2⟩
  | true =>
   cases h3 : inB s 0 2 with
   | false =>
    have HI := hI (fun W => as_boolT (within_any s 0 2 W) h3)
    clear h3
    go_enter Tryz.func173, Tryz.ntmps173
    (go_wp2_with fail; refine (HP.out _ (xA xR)).mono ?_; rintro e w1 ⟨rfl, hx1⟩; obtain ⟨hc1, hf1, hs1⟩ := hx1.all; (try simp at hs1); have := (show w.heap.size < w1.heap.size from by omega))
    (go_wp2_with fail; refine (HL.out _).mono ?_; rintro e w2 ⟨rfl, hx2⟩; obtain ⟨hc2, hf2, hs2⟩ := hx2.all; (try simp at hs2); have := (show w.heap.size < w2.heap.size from by omega))
    (go_wp2_with fail; refine (HI.out _).mono ?_; rintro e w' ⟨rfl, rfl⟩)
    go_wp2
    go_ret
    exact ⟨rfl, xT (xT (xA xR) hx1) hx2⟩
   | true =>
    have HI := hI (fun W => as_boolT (within_any s 0 2 W) h3)
    have HS := hI (fun W => i_IsSpan a b W)
    generalize spB a b = q4 at *
    clear h3
    go_enter Tryz.func173, Tryz.ntmps173
    (go_wp2_with fail; refine (HP.out _ (xA xR)).mono ?_; rintro e w1 ⟨rfl, hx1⟩; obtain ⟨hc1, hf1, hs1⟩ := hx1.all; (try simp at hs1); have := (show w.heap.size < w1.heap.size from by omega))
    (go_wp2_with fail; refine (HL.out _).mono ?_; rintro e w2 ⟨rfl, hx2⟩; obtain ⟨hc2, hf2, hs2⟩ := hx2.all; (try simp at hs2); have := (show w.heap.size < w2.heap.size from by omega))
    (go_wp2_with fail; refine (HI.out _).mono ?_; rintro e w' ⟨rfl, rfl⟩)
    (go_wp2_with fail; refine (HS.out _).mono ?_; rintro e w3 ⟨rfl, hx3⟩; obtain ⟨hc3, hf3, hs3⟩ := hx3.all; (try simp at hs3))
    go_wp2
    go_ret
    exact ⟨rfl, xT (xT (xT (xA xR) hx1) hx2) hx3⟩
set_option maxHeartbeats 1600000 in
theorem i_isOfficial (t g l : ByteArray) (s a b : Int) (w : World) : Calls Tryz.prog 175 #[.agg #[.string t, .string g, .int .i64 s, .int .i64 a, .int .i64 b], .string l] w fun e w' => e = .returned (.bool (decide (s = 0) && (g.toList == l.toList))) ∧ Ext w w' := by
 by_cases hs : s = 0
 ·subst hs
  cases he : (g.toList == l.toList) with
  | true =>
   go_enter Tryz.func175, Tryz.ntmps175
   go_wp2
   go_ret
   exact ⟨rfl, xA xR⟩
  | false =>
   go_enter Tryz.func175, Tryz.ntmps175
   go_wp2
   go_ret
   exact ⟨rfl, xA xR⟩
 ·rw [decide_eq_false hs]
  go_enter Tryz.func175, Tryz.ntmps175
  go_wp2
  go_ret
  exact ⟨rfl, xA xR⟩
set_option maxHeartbeats 3200000 in
theorem i_IndexFuncN (p : Nm → Bool) (g : Nat) (lb : Array Value) (eg : ∀ args w, (callFunc g args).run Tryz.prog w = .ok (.enter g args) w) (A : Option Addr) (n c : Nat) (xs : List (Nm)) (w : World) (h : SlAt w 5 encN A xs) (hn : n = xs.length) (hl : n ≤ 1048576)
  (hp : ∀ x ∈ xs, ∀ W, Ext w W → Calls Tryz.prog g (#[.agg #[.string (tx x.1), .string (tx x.2.1), .int .i64 x.2.2.1, .int .i64 x.2.2.2.1, .int .i64 x.2.2.2.2]] ++ lb) W fun e w' => e = .returned (.bool (p x)) ∧ Ext W w') :
  Calls Tryz.prog 183 #[.slice A n c, .func (.func g) #[] lb] w fun e w' => e = .returned (.int .i64 (fstG p xs)) ∧ Ext w w' := by
 have HP := hI hp
 have HN := hI hn
 clear hp hn
 go_enter Tryz.func183, Tryz.ntmps183
 go_wp2
 go_loopw [8] (fun i wr => ∃ k : Nat, k ≤ n ∧ i = .int .i64 k ∧ Hid (∀ j, j < k → p (xs.getD j nmD) = false) ∧ Ext w wr) (fun i _ => n - (intOf i).toNat)
 case atStart => exact ⟨0, by omega, rfl, fun j hj => absurd hj (by omega), xR⟩
 case round =>
  obtain ⟨k, hk, rfl, HJ, hxr⟩ := hrel
  by_cases hlt : k < n
  ·have hkr : k < xs.length := by rw [← HN.out]; exact hlt
   obtain ⟨b, off, rfl, hb, d0, d1, d2, d3, d4⟩ := (h.ext hxr).nm hkr
   have hcall := HP.out _ (mem_getD (d := nmD) hkr)
   cases hq : p (xs.getD k nmD) with
   | true =>
    have HQ := hI hq
    rw [hq] at hcall
    have HC := hI hcall
    clear hcall hq
    obtain ⟨r, hr⟩ : ∃ r, r = xs.getD k nmD := ⟨_, rfl⟩
    rw [← hr] at d0 d1 d2 d3 d4 HC HQ
    have HR := hI hr
    clear hr
    go_wp2_with fail
    refine (HC.out _ hxr).mono ?_
    rintro e w' ⟨rfl, hx'⟩
    go_wp2
    go_ret
    exact ⟨ret_int (fstG_hit hkr (by rw [← HR.out]; exact HQ.out) HJ.out), xT hxr hx'⟩
   | false =>
    have HJ2 := hI (upTo_succ HJ.out hq)
    rw [hq] at hcall
    have HC := hI hcall
    clear hcall hq
    obtain ⟨r, hr⟩ : ∃ r, r = xs.getD k nmD := ⟨_, rfl⟩
    rw [← hr] at d0 d1 d2 d3 d4 HC
    have HR := hI hr
    clear hr
    go_wp2_with fail
    refine (HC.out _ hxr).mono ?_
    rintro e w' ⟨rfl, hx'⟩
    go_wp2
    go_roundw
    case rel => exact ⟨k + 1, by omega, by go_num, HJ2, xT hxr hx'⟩
    case measure => simp [intOf]; omega
  ·obtain rfl : k = n := by omega
   go_wp2
   go_ret
   exact ⟨ret_int (fstG_miss (by rw [← HN.out]; exact HJ.out)), hxr⟩
set_option maxHeartbeats 3200000 in
theorem i_ContainsFuncN (p : Nm → Bool) (g : Nat) (lb : Array Value) (eg : ∀ args w, (callFunc g args).run Tryz.prog w = .ok (.enter g args) w) (A : Option Addr) (n c : Nat) (xs : List (Nm)) (w : World) (h : SlAt w 5 encN A xs) (hn : n = xs.length) (hl : n ≤ 1048576)
  (hp : ∀ x ∈ xs, ∀ W, Ext w W → Calls Tryz.prog g (#[.agg #[.string (tx x.1), .string (tx x.2.1), .int .i64 x.2.2.1, .int .i64 x.2.2.2.1, .int .i64 x.2.2.2.2]] ++ lb) W fun e w' => e = .returned (.bool (p x)) ∧ Ext W w') :
  Calls Tryz.prog 162 #[.slice A n c, .func (.func g) #[] lb] w fun e w' => e = .returned (.bool (xs.any p)) ∧ Ext w w' := by
 rw [← fstG_any]
 have hcall := i_IndexFuncN p g lb eg A n c xs w h hn hl hp
 have HC := hI hcall
 clear hcall hp hn
 go_enter Tryz.func162, Tryz.ntmps162
 go_wp2_with fail
 refine HC.out.mono ?_
 rintro e w' ⟨rfl, hx⟩
 go_wp2
 go_ret
 exact ⟨rfl, hx⟩
def ofB (n m : Nm) : Bool := decide (m.2.2.1 = 0) && (m.2.1 == n.2.1) && meetB m.2.2.2.1 m.2.2.2.2 n.2.2.2.1 n.2.2.2.2
theorem meetB_comm (a b c d : Int) : meetB a b c d = meetB c d a b := by unfold meetB; rw [Bool.and_comm]
theorem of_cl (n m : Nm) : (decide (n.2.2.1 = 0) && ofB n m) = clB n m := by
 unfold clB ofB
 rw [meetB_comm n.2.2.2.1, show (n.2.1 == m.2.1) = (m.2.1 == n.2.1) by rw [Bool.eq_iff_iff]; simp only [beq_iff_eq]; exact eq_comm]
 cases decide (n.2.2.1 = 0) <;> simp
theorem okN_any {L : List Nm} {k : Nat} (hk : k < L.length) : okN L k = (nmB (L.getD k nmD) && !(decide ((L.getD k nmD).2.2.1 = 0) && (L.take k).any (ofB (L.getD k nmD)))) := by
 have hq : (decide ((L.getD k nmD).2.2.1 = 0) && (L.take k).any (ofB (L.getD k nmD))) = !((List.range k).all fun q => !clB (L.getD k nmD) (L.getD q nmD)) := by
  rw [Bool.eq_iff_iff, Bool.and_eq_true, List.any_eq_true, Bool.not_eq_true', ← Bool.not_eq_true, List.all_eq_true]
  constructor
  ·rintro ⟨h0, m, hm, hof⟩ hall
   obtain ⟨q, hq, rfl⟩ := List.mem_iff_getElem.1 hm
   rw [List.length_take] at hq
   have := hall q (List.mem_range.2 (by omega))
   have hql : q < L.length := by omega
   rw [← of_cl, h0, show L.getD q nmD = L[q] by simp [List.getD, hql]] at this
   rw [List.getElem_take] at hof
   rw [hof] at this
   cases this
  ·intro hn
   apply Classical.byContradiction
   intro hc
   apply hn
   intro q hq
   have hqk := List.mem_range.1 hq
   have hql : q < L.length := by omega
   cases hcl : clB (L.getD k nmD) (L.getD q nmD) with
   | false => rfl
   | true =>
    exfalso
    apply hc
    rw [← of_cl, Bool.and_eq_true] at hcl
    exact ⟨hcl.1, L[q], List.mem_iff_getElem.2 ⟨q, by simp; omega, by simp⟩, by rw [show L[q] = L.getD q nmD by simp [List.getD, hql]]; exact hcl.2⟩
 unfold okN
 rw [hq, Bool.not_not]
set_option maxHeartbeats 3200000 in
theorem i_AreNames1 (n m : Nm) (b5 : Nat) (w : World) (h1 : w.cell? ⟨b5, 1, none⟩ = some (.string (tx n.2.1))) (h3 : w.cell? ⟨b5, 3, none⟩ = some (.int .i64 n.2.2.2.1)) (h4 : w.cell? ⟨b5, 4, none⟩ = some (.int .i64 n.2.2.2.2)) :
  Calls Tryz.prog 174 #[.agg #[.string (tx m.1), .string (tx m.2.1), .int .i64 m.2.2.1, .int .i64 m.2.2.2.1, .int .i64 m.2.2.2.2], .pointer (some ⟨b5, 0, none⟩)] w fun e w' => e = .returned (.bool (ofB n m)) ∧ Ext w w' := by
 have e5 : b5 < w.heap.size := World.block_lt_of_cell? _ _ h1
 have n5 : ¬ b5 = w.heap.size := by omega
 have HO := hI (fun W => i_isOfficial (tx m.1) (tx m.2.1) (tx n.2.1) m.2.2.1 m.2.2.2.1 m.2.2.2.2 W)
 have HM := hI (fun W => i_meets m.2.2.2.1 m.2.2.2.2 n.2.2.2.1 n.2.2.2.2 W)
 have HR : Hid (ofB n m = ((decide (m.2.2.1 = 0) && ((tx m.2.1).toList == (tx n.2.1).toList)) && meetB m.2.2.2.1 m.2.2.2.2 n.2.2.2.1 n.2.2.2.2)) := hI (by unfold ofB; rw [tx_toL, tx_toL])
 rw [HR.out]
 generalize tx m.1 = t at *
 generalize tx m.2.1 = sl at *
 generalize tx n.2.1 = sn at *
 generalize (decide (m.2.2.1 = 0) && (sl.toList == sn.toList)) = q1 at *
 generalize meetB m.2.2.2.1 m.2.2.2.2 n.2.2.2.1 n.2.2.2.2 = q2 at *
 clear HR
 cases q1 with
 | false =>
  go_enter Tryz.func174, Tryz.ntmps174
  (go_wp2_with fail; refine (HO.out _).mono ?_; rintro e w1 ⟨rfl, hx1⟩; obtain ⟨hc1, hf1, hs1⟩ := hx1.all; (try simp at hs1))
  go_wp2
  go_ret
  exact ⟨rfl, xT (xA xR) hx1⟩
 | true =>
  go_enter Tryz.func174, Tryz.ntmps174
  (go_wp2_with fail; refine (HO.out _).mono ?_; rintro e w1 ⟨rfl, hx1⟩; obtain ⟨hc1, hf1, hs1⟩ := hx1.all; (try simp at hs1); have := (show w.heap.size < w1.heap.size from by omega); have := (show b5 < w1.heap.size from by omega))
  (go_wp2_with fail; refine (HM.out _).mono ?_; rintro e w2 ⟨rfl, hx2⟩; obtain ⟨hc2, hf2, hs2⟩ := hx2.all; (try simp at hs2))
  go_wp2
  go_ret
  exact ⟨rfl, xT (xT (xA xR) hx1) hx2⟩
theorem en_AreNames1 (args : Array Value) (w : World) : (callFunc 174 args).run Tryz.prog w = .ok (.enter 174 args) w := enters_isSome Tryz.func174 (by kernel_rfl) (by kernel_rfl) args w
set_option maxRecDepth 20000 in
set_option maxHeartbeats 12800000 in
theorem i_AreNames (A : Option Addr) (n c : Nat) (ns : List Nm) (w : World) (h : SlAt w 5 encN A ns) (hn : n = ns.length) (hl : ns.length ≤ 1048576) (hcap : n ≤ c) (hg : Names ns) (hm : Mx w) :
  Calls Tryz.prog 149 #[.slice A n c] w fun e w' => e = .returned (.bool (nsB ns)) ∧ Ext w w' := by
 have HN := hI hn
 have hn2 : n ≤ 1048576 := by omega
 have HS := hI h
 have HMX := hI hm
 clear hn h hm
 go_enter Tryz.func149, Tryz.ntmps149
 go_wp2
 go_loopw [8] (fun i wr => ∃ k : Nat, k ≤ n ∧ i = .int .i64 k ∧ Hid (∀ j, j < k → okN ns j = true) ∧ Ext w wr) (fun i _ => n - (intOf i).toNat)
 case atStart => exact ⟨0, by omega, rfl, fun j hj => absurd hj (by omega), xR⟩
 case round =>
  obtain ⟨k, hk, rfl, HJ, hxr⟩ := hrel
  obtain ⟨w5, rfl⟩ : ∃ x, x = wr := ⟨wr, rfl⟩
  by_cases hlt : k < n
  ·have hkl : k < ns.length := by have := HN.out; omega
   obtain ⟨b, off, rfl, hb, d0, d1, d2, d3, d4⟩ := (HS.out.ext hxr).nm hkl
   have hgk := hg k
   have hok := okN_any hkl
   obtain ⟨v, hve⟩ : ∃ v, v = ns.getD k nmD := ⟨_, rfl⟩
   rw [← hve] at d0 d1 d2 d3 d4 hgk hok
   have HV := hI hve
   have HC := hI (fun W hW => i_IsName v W hgk (HMX.out.ext hW))
   have HK2 : Hid (∀ W g, Blk W g 117 #[.string (tx v.1), .string (tx v.2.1), .int .i64 v.2.2.1, .int .i64 v.2.2.2.1, .int .i64 v.2.2.2.2] → Ext w W → Calls Tryz.prog 162 #[.slice (some ⟨b, off, none⟩) k c, .func (.func 174) #[] #[.pointer (some ⟨g, 0, none⟩)]] W fun e w' => e = .returned (.bool ((ns.take k).any (ofB v))) ∧ Ext W w') := hI (fun W g hB hx =>
    i_ContainsFuncN (ofB v) _ _ en_AreNames1 _ k c (ns.take k) W ((HS.out.ext hx).take k) (by rw [List.length_take]; omega) (by omega) (fun m _ W' hW' => i_AreNames1 v m g W' ((hB.ext hW').cell 1) ((hB.ext hW').cell 3) ((hB.ext hW').cell 4)))
   have f1 : (0 : Int) ≤ (k : Int) := by omega
   have f2 : (k : Int) ≤ (c : Int) := by omega
   have f3 : (k : Int) ≤ (n : Int) := by omega
   clear hve hgk
   cases hq : nmB v with
   | false =>
    have HNO : Hid (nsB ns = false) := hI (nsB_no hkl (by rw [hok, hq]; rfl))
    rw [hq] at HC
    generalize tx v.1 = st at *
    generalize tx v.2.1 = sl at *
    clear hq hkl hok
    (go_wp2_with fail; refine (HC.out _ (xA hxr)).mono ?_; rintro e w1 ⟨rfl, hx1⟩; obtain ⟨hc1, hf1, hs1⟩ := hx1.all; (try simp at hs1); have := (show w5.heap.size < w1.heap.size from by omega))
    go_wp2
    go_ret
    exact ⟨ret_bool' HNO.out.symm, xT (xA hxr) hx1⟩
   | true =>
    rw [hq] at HC hok
    obtain ⟨z, hz⟩ : ∃ z, z = (ns.take k).any (ofB v) := ⟨_, rfl⟩
    rw [← hz] at HK2 hok
    by_cases hs0 : v.2.2.1 = 0
    ·rw [hs0] at hok d2 HC HK2
     cases z with
     | true =>
      have HNO : Hid (nsB ns = false) := hI (nsB_no hkl (by rw [hok]; rfl))
      generalize tx v.1 = st at *
      generalize tx v.2.1 = sl at *
      clear hq hkl hok hz hs0
      (go_wp2_with fail; refine (HC.out _ (xA hxr)).mono ?_; rintro e w1 ⟨rfl, hx1⟩; obtain ⟨hc1, hf1, hs1⟩ := hx1.all; (try simp at hs1); have := (show w5.heap.size < w1.heap.size from by omega))
      go_wp2_with fail
      refine (HK2.out _ _ (bE hx1 (bN (by omega))) (xT (xA hxr) hx1)).mono ?_
      rintro e w2 ⟨rfl, hx2⟩
      obtain ⟨hc2, hf2⟩ := hx2.rules
      have hs2 := hx2.size
      (try simp at hs2)
      have := (show w5.heap.size < w2.heap.size from by omega)
      go_wp2
      go_ret
      exact ⟨ret_bool' HNO.out.symm, xT (xT (xA hxr) hx1) hx2⟩
     | false =>
      have HJ2 := hI (upTo_succ HJ.out (show okN ns k = true by rw [hok]; rfl))
      generalize tx v.1 = st at *
      generalize tx v.2.1 = sl at *
      clear hq hkl hok hz hs0
      (go_wp2_with fail; refine (HC.out _ (xA hxr)).mono ?_; rintro e w1 ⟨rfl, hx1⟩; obtain ⟨hc1, hf1, hs1⟩ := hx1.all; (try simp at hs1); have := (show w5.heap.size < w1.heap.size from by omega))
      go_wp2_with fail
      refine (HK2.out _ _ (bE hx1 (bN (by omega))) (xT (xA hxr) hx1)).mono ?_
      rintro e w2 ⟨rfl, hx2⟩
      obtain ⟨hc2, hf2⟩ := hx2.rules
      have hs2 := hx2.size
      (try simp at hs2)
      have := (show w5.heap.size < w2.heap.size from by omega)
      go_wp2
      go_roundw
      case rel => exact ⟨k + 1, by omega, by go_num, HJ2, xT (xT (xA hxr) hx1) hx2⟩
      case measure => simp [intOf]; omega
    ·have HJ2 := hI (upTo_succ HJ.out (show okN ns k = true by rw [hok, decide_eq_false hs0]; rfl))
     generalize tx v.1 = st at *
     generalize tx v.2.1 = sl at *
     clear hq hkl hok hz
     (go_wp2_with fail; refine (HC.out _ (xA hxr)).mono ?_; rintro e w1 ⟨rfl, hx1⟩; obtain ⟨hc1, hf1, hs1⟩ := hx1.all; (try simp at hs1); have := (show w5.heap.size < w1.heap.size from by omega))
     go_wp2_with fail
     refine (HK2.out _ _ (bE hx1 (bN (by omega))) (xT (xA hxr) hx1)).mono ?_
     rintro e w2 ⟨rfl, hx2⟩
     obtain ⟨hc2, hf2⟩ := hx2.rules
     have hs2 := hx2.size
     (try simp at hs2)
     have := (show w5.heap.size < w2.heap.size from by omega)
     go_wp2
     go_roundw
     case rel => exact ⟨k + 1, by omega, by go_num, HJ2, xT (xT (xA hxr) hx1) hx2⟩
     case measure => simp [intOf]; omega
  ·obtain rfl : k = n := by omega
   have hres : nsB ns = decide ((k : Int) ≤ 12) := by
    have h1 := HN.out
    cases e : decide ((k : Int) ≤ 12) with
    | true => exact nsB_iff.2 ⟨fun j hj => HJ.out j (by omega), by simp at e; omega⟩
    | false =>
     cases e2 : nsB ns with
     | false => rfl
     | true => have := (nsB_iff.1 e2).2; simp at e; omega
   have HR := hI hres
   clear hres
   go_wp2
   go_ret
   exact ⟨ret_bool' HR.out.symm, hxr⟩
theorem inY_lie (a b : Int) (n : Nm) : inY a b n = lieB n.2.2.2.1 n.2.2.2.2 a b := by
 unfold inY lieB
 rw [Bool.eq_iff_iff]
 simp
set_option maxHeartbeats 1600000 in
theorem i_IsPlace1 (n : Nm) (a b : Int) (b5 : Nat) (w : World) (h2 : w.cell? ⟨b5, 2, none⟩ = some (.int .i64 a)) (h3 : w.cell? ⟨b5, 3, none⟩ = some (.int .i64 b)) :
  Calls Tryz.prog 163 #[.agg #[.string (tx n.1), .string (tx n.2.1), .int .i64 n.2.2.1, .int .i64 n.2.2.2.1, .int .i64 n.2.2.2.2], .pointer (some ⟨b5, 0, none⟩)] w fun e w' => e = .returned (.bool (!inY a b n)) ∧ Ext w w' := by
 have e5 : b5 < w.heap.size := World.block_lt_of_cell? _ _ h2
 have n5 : ¬ b5 = w.heap.size := by omega
 have HL := hI (fun W => i_lies n.2.2.2.1 n.2.2.2.2 a b W)
 rw [inY_lie]
 generalize lieB n.2.2.2.1 n.2.2.2.2 a b = q at *
 generalize tx n.1 = t at *
 generalize tx n.2.1 = sl at *
 go_enter Tryz.func163, Tryz.ntmps163
 (go_wp2_with fail; refine (HL.out _).mono ?_; rintro e w1 ⟨rfl, hx1⟩; obtain ⟨hc1, hf1, hs1⟩ := hx1.all; (try simp at hs1))
 go_wp2
 go_ret
 exact ⟨rfl, xT (xA xR) hx1⟩
theorem en_IsPlace1 (args : Array Value) (w : World) : (callFunc 163 args).run Tryz.prog w = .ok (.enter 163 args) w := enters_isSome Tryz.func163 (by kernel_rfl) (by kernel_rfl) args w
theorem any_not (ns : List Nm) (p : Nm → Bool) : (ns.any fun n => !p n) = !ns.all p := by
 rw [Bool.eq_iff_iff]; simp
set_option maxHeartbeats 6400000 in
theorem i_IsPlace (p : Pl) (w : World) (h : PlAt w p) (hm : Mx w) :
  Calls Tryz.prog 124 #[.agg #[.string (tx p.1), .int .i64 p.2.1, .int .i64 p.2.2.1, .int .i64 p.2.2.2.1, .slice p.2.2.2.2.1 p.2.2.2.2.2.2.length p.2.2.2.2.2.1]] w fun e w' => e = .returned (.bool (plB (pdOf p))) ∧ Ext w w' := by
 have HRES : Hid (plB (pdOf p) = (smL p.1 1 16 && (inB p.2.1 0 19 && (spB p.2.2.1 p.2.2.2.1 && (nsB p.2.2.2.2.2.2 && p.2.2.2.2.2.2.all (inY p.2.2.1 p.2.2.2.1)))))) := hI rfl
 have HC1 := hI (fun W => by have := i_IsWord (tx p.1) W (by rw [tx_size]; have := h.2.2.1; omega); rw [smB_tx] at this; exact this)
 have HC3 := hI (fun W => i_IsSpan p.2.2.1 p.2.2.2.1 W)
 have HC4 := hI (fun W (hW : Ext w W) => i_AreNames p.2.2.2.2.1 _ p.2.2.2.2.2.1 p.2.2.2.2.2.2 W (h.1.ext hW) rfl h.2.2.2.1 h.2.1 h.2.2.2.2 (hm.ext hW))
 have HC5 : Hid (∀ W g, Blk W g 57 #[.string (tx p.1), .int .i64 p.2.1, .int .i64 p.2.2.1, .int .i64 p.2.2.2.1, .slice p.2.2.2.2.1 p.2.2.2.2.2.2.length p.2.2.2.2.2.1] → Ext w W → Calls Tryz.prog 162 #[.slice p.2.2.2.2.1 p.2.2.2.2.2.2.length p.2.2.2.2.2.1, .func (.func 163) #[] #[.pointer (some ⟨g, 0, none⟩)]] W fun e w' => e = .returned (.bool (!p.2.2.2.2.2.2.all (inY p.2.2.1 p.2.2.2.1))) ∧ Ext W w') := hI (fun W g hB hx => by
  rw [← any_not]
  exact i_ContainsFuncN (fun n => !inY p.2.2.1 p.2.2.2.1 n) _ _ en_IsPlace1 _ _ _ p.2.2.2.2.2.2 W (h.1.ext hx) rfl h.2.2.2.1 (fun m _ W' hW' => i_IsPlace1 m _ _ g W' ((hB.ext hW').cell 2) ((hB.ext hW').cell 3)))
 rw [HRES.out]
 clear HRES h hm
 generalize p.2.2.2.2.2.2.all (inY p.2.2.1 p.2.2.2.1) = q5 at *
 generalize nsB p.2.2.2.2.2.2 = q4 at *
 generalize smL p.1 1 16 = q1 at *
 generalize tx p.1 = sc at *
 generalize p.2.2.2.2.1 = A at *
 generalize p.2.2.2.2.2.1 = c at *
 generalize p.2.2.2.2.2.2.length = n at *
 generalize p.2.1 = cl at *
 generalize p.2.2.1 = a at *
 generalize p.2.2.2.1 = b at *
 cases q1 with
 | false =>
  go_enter Tryz.func124, Tryz.ntmps124
  (go_wp2_with fail; refine (HC1.out _).mono ?_; rintro e w1 ⟨rfl, hx1⟩; obtain ⟨hc1, hf1, hs1⟩ := hx1.all; (try simp at hs1); have := (show w.heap.size < w1.heap.size from by omega))
  go_wp2
  go_ret
  exact ⟨rfl, xT (xA xR) hx1⟩
 | true =>
  cases h2 : inB cl 0 19 with
  | false =>
   have HC2 := hI (fun W => as_boolT (within_any cl 0 19 W) h2)
   clear h2
   go_enter Tryz.func124, Tryz.ntmps124
   (go_wp2_with fail; refine (HC1.out _).mono ?_; rintro e w1 ⟨rfl, hx1⟩; obtain ⟨hc1, hf1, hs1⟩ := hx1.all; (try simp at hs1); have := (show w.heap.size < w1.heap.size from by omega))
   (go_wp2_with fail; refine (HC2.out _).mono ?_; rintro e w' ⟨rfl, rfl⟩)
   go_wp2
   go_ret
   exact ⟨rfl, xT (xA xR) hx1⟩
  | true =>
   have HC2 := hI (fun W => as_boolT (within_any cl 0 19 W) h2)
   generalize spB a b = q3 at *
   clear h2
   cases q3 with
   | false =>
    go_enter Tryz.func124, Tryz.ntmps124
    (go_wp2_with fail; refine (HC1.out _).mono ?_; rintro e w1 ⟨rfl, hx1⟩; obtain ⟨hc1, hf1, hs1⟩ := hx1.all; (try simp at hs1); have := (show w.heap.size < w1.heap.size from by omega))
    (go_wp2_with fail; refine (HC2.out _).mono ?_; rintro e w' ⟨rfl, rfl⟩)
    (go_wp2_with fail; refine (HC3.out _).mono ?_; rintro e w3 ⟨rfl, hx3⟩; obtain ⟨hc3, hf3, hs3⟩ := hx3.all; (try simp at hs3); have := (show w.heap.size < w3.heap.size from by omega))
    go_wp2
    go_ret
    exact ⟨rfl, xT (xT (xA xR) hx1) hx3⟩
   | true =>
    cases q4 with
    | false =>
     go_enter Tryz.func124, Tryz.ntmps124
     (go_wp2_with fail; refine (HC1.out _).mono ?_; rintro e w1 ⟨rfl, hx1⟩; obtain ⟨hc1, hf1, hs1⟩ := hx1.all; (try simp at hs1); have := (show w.heap.size < w1.heap.size from by omega))
     (go_wp2_with fail; refine (HC2.out _).mono ?_; rintro e w' ⟨rfl, rfl⟩)
     (go_wp2_with fail; refine (HC3.out _).mono ?_; rintro e w3 ⟨rfl, hx3⟩; obtain ⟨hc3, hf3, hs3⟩ := hx3.all; (try simp at hs3); have := (show w.heap.size < w3.heap.size from by omega))
     (go_wp2_with fail; refine (HC4.out _ (xT (xT (xA xR) hx1) hx3)).mono ?_; rintro e w4 ⟨rfl, hx4⟩; obtain ⟨hc4, hf4, hs4⟩ := hx4.all; (try simp at hs4); have := (show w.heap.size < w4.heap.size from by omega))
     go_wp2
     go_ret
     exact ⟨rfl, xT (xT (xT (xA xR) hx1) hx3) hx4⟩
    | true =>
     go_enter Tryz.func124, Tryz.ntmps124
     (go_wp2_with fail; refine (HC1.out _).mono ?_; rintro e w1 ⟨rfl, hx1⟩; obtain ⟨hc1, hf1, hs1⟩ := hx1.all; (try simp at hs1); have := (show w.heap.size < w1.heap.size from by omega))
     (go_wp2_with fail; refine (HC2.out _).mono ?_; rintro e w' ⟨rfl, rfl⟩)
     (go_wp2_with fail; refine (HC3.out _).mono ?_; rintro e w3 ⟨rfl, hx3⟩; obtain ⟨hc3, hf3, hs3⟩ := hx3.all; (try simp at hs3); have := (show w.heap.size < w3.heap.size from by omega))
     (go_wp2_with fail; refine (HC4.out _ (xT (xT (xA xR) hx1) hx3)).mono ?_; rintro e w4 ⟨rfl, hx4⟩; obtain ⟨hc4, hf4, hs4⟩ := hx4.all; (try simp at hs4); have := (show w.heap.size < w4.heap.size from by omega))
     go_wp2_with fail
     refine (HC5.out _ _ (bE hx4 (bE hx3 (bE hx1 (bN (by omega))))) (xT (xT (xT (xA xR) hx1) hx3) hx4)).mono ?_
     rintro e w5 ⟨rfl, hx5⟩
     go_wp2
     go_ret
     exact ⟨ret_bool' (by cases q5 <;> rfl), xT (xT (xT (xT (xA xR) hx1) hx3) hx4) hx5⟩
set_option maxRecDepth 20000 in
set_option maxHeartbeats 12800000 in
theorem i_IsRegister (A : Option Addr) (n c : Nat) (ps : List Pl) (w : World) (h : SlAt w 5 encQ A ps) (hp : Places w ps) (hn : n = ps.length) (hl : ps.length ≤ 1048576) (hm : Mx w) :
  Calls Tryz.prog 72 #[.slice A n c] w fun e w' => e = .returned (.bool (rgB (psD ps))) ∧ Ext w w' := by
 have HN := hI hn
 have HMX := hI hm
 have hn2 : n ≤ 1048576 := by omega
 clear hn hm
 go_enter Tryz.func72, Tryz.ntmps72
 go_wp2
 go_loopw [7] (fun i wr => ∃ k : Nat, k ≤ n ∧ i = .int .i64 k ∧ Hid (∀ j, j < k → okR (psD ps) j = true) ∧ Ext w wr) (fun i _ => n - (intOf i).toNat)
 case atStart => exact ⟨0, by omega, rfl, fun j hj => absurd hj (by omega), xR⟩
 case round =>
  obtain ⟨k, hk, rfl, HJ, hxr⟩ := hrel
  obtain ⟨w5, rfl⟩ : ∃ x, x = wr := ⟨wr, rfl⟩
  by_cases hlt : k < n
  ·have hkl : k < ps.length := by have := HN.out; omega
   have hkd : k < (psD ps).length := by rw [psD_len]; exact hkl
   obtain ⟨b, off, rfl, hb, d0, d1, d2, d3, d4⟩ := (h.ext hxr).pl hkl
   have hprev : ∀ m, k = m + 1 → w5.cell? ⟨b, off + m * 5, none⟩ = some (.string (tx (ps.getD m plD).1)) ∧ (psD ps).getD m pdD = pdOf (ps.getD m plD) := fun m hm => ⟨((h.ext hxr).pl' (show m < ps.length by omega)).1, psD_at (by omega)⟩
   have HPV := hI hprev
   have hvk := (hp _ (pl_mem hkl))
   have hat := psD_at hkl
   obtain ⟨v, hve⟩ : ∃ v, v = ps.getD k plD := ⟨_, rfl⟩
   rw [← hve] at d0 d1 d2 d3 d4 hvk hat
   have HAT := hI hat
   have HC := hI (fun W (hW : Ext w W) => i_IsPlace v W (hvk.ext hW) (HMX.out.ext hW))
   have HKD := hI hkd
   have HTC := hI (tx_toL v.1)
   have HCODE : Hid ((pdOf v).1 = v.1) := hI rfl
   clear hve hvk hat hprev hkd hkl
   have HS := hI h
   clear h hp
   generalize hq0 : plB (pdOf v) = q at HC
   have HQ : Hid (plB ((psD ps).getD k pdD) = q) := hI (by rw [HAT.out]; exact hq0)
   cases q with
   | false =>
    have HNO : Hid (rgB (psD ps) = false) := hI (rgB_no HKD.out (by unfold okR; rw [HQ.out]; rfl))
    generalize tx v.1 = sc at *
    clear hq0 HPV
    go_wp2
    (refine wp_region_ext (by kernel_rfl) (by kernel_rfl) ?_; (repeat (go_big_quiet_step ((go_at_call 124; exact Calls_ext (HC.out _ (Ext.trans (xA hxr) (ExtOf.ext _))))))); refine wpQuiet_nil ?_; intro wq hxwq; obtain ⟨hcwq, hfwq, hswq⟩ := hxwq.all; (try simp at hswq))
    all_goals go_wp2
    all_goals go_ret
    all_goals exact ⟨ret_bool HNO.out.symm, xT (xA hxr) hxwq⟩
   | true =>
    by_cases hk0 : k = 0
    ·have hg0 : decide (0 < k) = false := decide_eq_false (by omega)
     have HJ2 := hI (upTo1 HJ.out (show okR (psD ps) k = true by unfold okR; rw [HQ.out, hk0]; rfl))
     generalize tx v.1 = sc at *
     clear hq0 HPV hk0
     go_wp2
     (refine wp_region_ext (by kernel_rfl) (by kernel_rfl) ?_; (repeat (go_big_quiet_step ((go_at_call 124; exact Calls_ext (HC.out _ (Ext.trans (xA hxr) (ExtOf.ext _))))))); refine wpQuiet_nil ?_; intro wq hxwq; obtain ⟨hcwq, hfwq, hswq⟩ := hxwq.all; (try simp at hswq))
     all_goals go_wp2
     all_goals go_roundw
     case rel => exact ⟨k + 1, by omega, by go_num, HJ2, xT (xA hxr) hxwq⟩
     case measure => simp [intOf]; omega
    ·obtain ⟨m, hm⟩ : ∃ m, k = m + 1 := ⟨k - 1, by omega⟩
     obtain ⟨p0, hpa⟩ := HPV.out m hm
     have hg0 : decide (0 < k) = true := decide_eq_true (by omega)
     have hw : IntKind.i64.wrap ((k : Int) - 1) = (m : Int) := by rw [IntWalk.i64_in _ (by omega)]; omega
     have HKM : Hid (k - 1 = m ∧ ¬ k = 0) := hI ⟨by omega, hk0⟩
     have htm := tx_toL (ps.getD m plD).1
     have HVAL : Hid (okR (psD ps) k = Op.bytesLess (tx (ps.getD m plD).1).toList (tx v.1).toList) := hI (by unfold okR; rw [HQ.out, HKM.out.1, hpa, HAT.out, htm, HTC.out]; simp [HKM.out.2, pdOf])
     have hmn : m < n := by omega
     have HMM := hI hm
     generalize tx v.1 = sc at *
     generalize tx (ps.getD m plD).1 = s0 at *
     clear hq0 HPV hk0 hpa htm hm
     cases hb2 : Op.bytesLess s0.toList sc.toList with
     | true =>
      have HJ2 := hI (upTo1 HJ.out (show okR (psD ps) k = true by rw [HVAL.out, hb2]))
      go_wp2
      (refine wp_region_ext (by kernel_rfl) (by kernel_rfl) ?_; (repeat (go_big_quiet_step ((go_at_call 124; exact Calls_ext (HC.out _ (Ext.trans (xA hxr) (ExtOf.ext _))))))); refine wpQuiet_nil ?_; intro wq hxwq; obtain ⟨hcwq, hfwq, hswq⟩ := hxwq.all; (try simp at hswq))
      all_goals go_wp2
      all_goals go_roundw
      case rel => exact ⟨k + 1, by omega, by go_num, HJ2, xT (xA hxr) hxwq⟩
      case measure => simp [intOf]; omega
     | false =>
      have HNO : Hid (rgB (psD ps) = false) := hI (rgB_no HKD.out (by rw [HVAL.out, hb2]))
      go_wp2
      (refine wp_region_ext (by kernel_rfl) (by kernel_rfl) ?_; (repeat (go_big_quiet_step ((go_at_call 124; exact Calls_ext (HC.out _ (Ext.trans (xA hxr) (ExtOf.ext _))))))); refine wpQuiet_nil ?_; intro wq hxwq; obtain ⟨hcwq, hfwq, hswq⟩ := hxwq.all; (try simp at hswq))
      all_goals go_wp2
      all_goals go_ret
      all_goals exact ⟨ret_bool HNO.out.symm, xT (xA hxr) hxwq⟩
  ·obtain rfl : k = n := by omega
   have hres : rgB (psD ps) = decide ((k : Int) ≤ 10) := by
    have h1 := HN.out
    have h2 := psD_len ps
    cases e : decide ((k : Int) ≤ 10) with
    | true => exact rgB_iff.2 ⟨fun j hj => HJ.out j (by omega), by simp at e; omega⟩
    | false =>
     cases e2 : rgB (psD ps) with
     | false => rfl
     | true => have := (rgB_iff.1 e2).2; simp at e; omega
   have HR := hI hres
   clear hres
   go_wp2
   go_ret
   exact ⟨ret_bool HR.out.symm, hxr⟩
end Go.Proofs.YtlnliajnipniaaaGreatDoor
