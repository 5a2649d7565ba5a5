/- Turns, as the program tells them. Turns, as the specification tells them. -/
import Derived.Test.YtlnliajnipniaaaGreatDoorZ2
namespace Go.Proofs.YtlnliajnipniaaaGreatDoor
open Go.RowKit
attribute [local go_sem] ExtOf.cell ExtOf.frozen
theorem wyC_0 {D : List Pd} {L : List Lk} {ok : Bool} : wyC D L ok [0] = wyC D L ok [] := by unfold wyC; simp [inB]
theorem sl_nilI {w : World} : SlAt w 1 encI none [] := fun h => absurd h (by simp)
theorem trR_ne {D : List Pd} {L : List Lk} {x : List UInt8} (h : ¬ plC D L x true 0 = 0) : trC D L x = plC D L x true 0 ∧ trR D L x = [] := by
 have e : trC D L x = plC D L x true 0 := by unfold trC; rw [if_neg h]
 exact ⟨e, by unfold trR; rw [if_neg (by rw [e]; exact h)]⟩
section
variable {w : World} {A A' : Option Addr} {n c m c' : Nat} {ps : List Pl} {L : List Lk}
set_option maxRecDepth 20000 in
set_option maxHeartbeats 25600000 in
theorem i_TurnsOfW (x : List UInt8) (h : WIn w A A' n c m c' ps L) (hx : x.length ≤ 1048576) (hm : Mx w) :
  Calls Tryz.prog 6 #[.agg #[.slice A n c, .slice A' m c'], .string (tx x)] w fun e w' => ∃ v, e = .returned (.tuple #[v, .int .i64 (trC (psD ps) L x)]) ∧ OwI w' w.heap.size v (trR (psD ps) L x) ∧ Ext w w' := by
 have HW := hI (fun W => by have := i_IsWord (tx x) W (by rw [tx_size]; omega); rw [smB_tx] at this; exact this)
 have HC : Hid (∀ W, Ext w W → Calls Tryz.prog 21 #[.agg #[.slice A n c, .slice A' m c'], .bool (smL x 1 16), .slice none 0 0] W fun e w' => e = .returned (.int .i64 (wyC (psD ps) L (smL x 1 16) [])) ∧ Ext W w') := hI (fun W hW => i_worldCode (smL x 1 16) [] none 0 0 (h.ext hW) (hm.ext hW) sl_nilI rfl (by omega))
 have hb1 : (smL x 1 16 && true) = smL x 1 16 := Bool.and_true _
 by_cases hz : wyC (psD ps) L (smL x 1 16) [] = 0
 ·have hz0 : wyC (psD ps) L (smL x 1 16 && true) [0] = 0 := by rw [hb1, wyC_0]; exact hz
  have hw := (wyC_zero hz).1
  have HP := hI (fun W (hW : Ext w W) => i_hasPlace (w := W) (c := c) (A' := A') (m := m) (c' := c') x (h.sq.ext hW) h.hn (by rw [h.hn]; exact h.hl) (asc_of (wdB_iff.1 hw).1))
  rw [hz] at HC
  cases hf : (fndP (psD ps) x).isSome with
  | false =>
   have hp : plC (psD ps) L x true 0 = 4 := plC_lacks hz0 hf
   obtain ⟨e1, e2⟩ := trR_ne (D := psD ps) (L := L) (x := x) (by omega)
   rw [e1, e2, hp]
   rw [hf] at HP
   clear hz hz0 hw hf hp e1 e2 hb1 h hx hm
   generalize tx x = sx at *
   generalize smL x 1 16 = q at *
   go_enter Tryz.func6, Tryz.ntmps6
   go_wp2
   (refine wp_region_ext (by kernel_rfl) (by kernel_rfl) ?_; (repeat (go_big_quiet_step ((first | (go_at_call 22; exact Calls_ext (HW.out _)) | (go_at_call 21; exact Calls_ext (HC.out _ (Ext.trans (xA xR) (ExtOf.ext _)))))))); refine wpQuiet_nil ?_; intro wq hxwq; obtain ⟨hcwq, hfwq, hswq⟩ := hxwq.all; (try simp at hswq))
   go_wp2_with fail
   refine (HP.out _ (xT (xA xR) hxwq)).mono ?_
   rintro e w9 ⟨rfl, hx9⟩
   go_wp2
   go_ret2
   exact ⟨_, rfl, Own.nil _ _, xT (xT (xA xR) hxwq) hx9⟩
  | true =>
  have hp : plC (psD ps) L x true 0 = 0 := plC_has hz0 hf
  have HT1 : Hid (40 < (trL ((fndP (psD ps) x).getD pdD) L).length → trC (psD ps) L x = 3 ∧ trR (psD ps) L x = []) := hI (fun h40 => by
   have e : trC (psD ps) L x = 3 := by unfold trC; rw [if_pos hp, if_pos h40]
   exact ⟨e, by unfold trR; rw [if_neg (by omega)]⟩)
  have HT2 : Hid (¬ 40 < (trL ((fndP (psD ps) x).getD pdD) L).length → trC (psD ps) L x = 0 ∧ trR (psD ps) L x = trL ((fndP (psD ps) x).getD pdD) L) := hI (fun h40 => by
   have e : trC (psD ps) L x = 0 := by unfold trC; rw [if_pos hp, if_neg h40]
   exact ⟨e, by unfold trR; rw [if_pos e]⟩)
  have HL := hI (fun W (hW : Ext w W) => i_placeP (w := W) x (h.ext hW) hw hf)
  have hlm : m ≤ 1048576 := by rw [h.hm]; exact h.hl'
  have HS : Hid (∀ W0 W v z, IsP W0 ((fndP (psD ps) x).getD pdD) v → Ext W0 W → Ext w W → -3001 ≤ z → z ≤ 3001 → Calls Tryz.prog 25 #[.agg #[.slice A n c, .slice A' m c'], v, .int .i64 z] W fun e w' => e = .returned (.bool (sdB ((fndP (psD ps) x).getD pdD) L z)) ∧ Ext W w') := hI (fun W0 W v z hP h0 hW h1 h2 => (hP.ext h0).steady (h.sk.ext hW) h.hm hlm (hm.ext hW) z h1 h2)
  rw [hf] at HP
  generalize (fndP (psD ps) x).getD pdD = d at *
  generalize trC (psD ps) L x = rC at *
  generalize trR (psD ps) L x = rR at *
  clear hz hz0 hw hf hp hb1 h hx hm hlm
  generalize tx x = sx at *
  generalize smL x 1 16 = q at *
  go_enter Tryz.func6, Tryz.ntmps6
  go_wp2
  (refine wp_region_ext (by kernel_rfl) (by kernel_rfl) ?_; (repeat (go_big_quiet_step ((first | (go_at_call 22; exact Calls_ext (HW.out _)) | (go_at_call 21; exact Calls_ext (HC.out _ (Ext.trans (xA xR) (ExtOf.ext _)))))))); refine wpQuiet_nil ?_; intro wq hxwq; obtain ⟨hcwq, hfwq, hswq⟩ := hxwq.all; (try simp at hswq))
  have B3q : Blk wq w.heap.size 27 #[.slice A n c, .slice A' m c'] := Blk.eq (bE hxwq (bN (by omega))) (by rfl)
  have HX0 : Hid (Ext w wq) := hI (by clear B3q; exact xT (xA xR) hxwq)
  have HB3q := hI B3q
  have z3q := B3q.lt
  clear B3q
  go_wp2_with fail
  refine (HP.out _ (xT (xA xR) hxwq)).mono ?_
  rintro e w9 ⟨rfl, hx9⟩
  have B39 : Blk w9 w.heap.size 27 #[.slice A n c, .slice A' m c'] := HB3q.out.ext hx9
  have u0 : w9.cell? ⟨w.heap.size, 0, none⟩ = some (.slice A n c) := B39.cell 0
  have u1 : w9.cell? ⟨w.heap.size, 1, none⟩ = some (.slice A' m c') := B39.cell 1
  have hX9 : Ext w w9 := HX0.out.trans (by clear B39; exact hx9)
  have HB39 := hI B39
  clear B39
  go_wp2_with fail
  refine (HL.out _ hX9).mono ?_
  rintro e w2 ⟨s0, s1, s2, s3, s4, s5, s6, HI0, rfl, hx2⟩
  have HI := hI (HI0.out.ext hx2)
  have hB3 : Blk w2 w.heap.size 27 #[.slice A n c, .slice A' m c'] := HB39.out.ext hx2
  have HX2 : Hid (Ext w w2) := hI (hX9.trans (by clear hB3; exact hx2))
  have z3 := hB3.lt
  clear HI0 u0 u1 hX9 hx2 hx9
  go_wp2
  go_loopw [8, 9] (fun v i wr => ∃ k : Nat, k ≤ 6001 ∧ i = .int .i64 ((k : Int) + -3000) ∧ Hid (OwI wr (w2.heap.size + 1) v (trTo d L k)) ∧ Blk wr w.heap.size 27 #[.slice A n c, .slice A' m c'] ∧ Blk wr w2.heap.size 57 #[.string s0, .int .i64 s1, .int .i64 s2, .int .i64 s3, .slice s4 s5 s6] ∧ Ext w2 wr) (fun _ i _ => 6001 - (intOf i + 3000).toNat)
  case atStart => exact ⟨0, by omega, rfl, hI (Own.nil _ _), bA hB3, Blk.eq (bN (by omega)) (by rfl), xA xR⟩
  case round =>
   clear hB3
   obtain ⟨k, hk, rfl, HV, hBW, hBP, hxr⟩ := hrel
   obtain ⟨w5, rfl⟩ : ∃ x, x = wr := ⟨wr, rfl⟩
   have t0 := hBW.cell 0
   have t1 := hBW.cell 1
   simp only [List.getElem?_toArray, List.getElem?_cons_zero, List.getElem?_cons_succ] at t0 t1
   have p0 : w5.cell? ⟨w2.heap.size, 0, none⟩ = some (.string s0) := hBP.cell 0
   have p1 : w5.cell? ⟨w2.heap.size, 1, none⟩ = some (.int .i64 s1) := hBP.cell 1
   have p2 : w5.cell? ⟨w2.heap.size, 2, none⟩ = some (.int .i64 s2) := hBP.cell 2
   have p3 : w5.cell? ⟨w2.heap.size, 3, none⟩ = some (.int .i64 s3) := hBP.cell 3
   have p4 : w5.cell? ⟨w2.heap.size, 4, none⟩ = some (.slice s4 s5 s6) := hBP.cell 4
   have zw := hBW.lt
   have zp := hBP.lt
   have HBW := hI hBW
   have HBP := hI hBP
   clear hBW hBP
   by_cases hlt : (k : Int) + -3000 ≤ 3000
   ·have hwr : IntKind.i64.wrap ((k : Int) + -3000 + 1) = ((k + 1 : Nat) : Int) + -3000 := by rw [IntWalk.i64_in _ (by omega)]; omega
    have hsucc := trTo_succ d L k
    have hln := trTo_len d L k
    have HCALL := hI (fun W (hW : Ext w5 W) => HS.out w2 W _ ((k : Int) + -3000) HI.out (hxr.trans hW) (HX2.out.trans (hxr.trans hW)) (by omega) (by omega))
    cases hq : sdB d L ((k : Int) + -3000) with
    | true =>
     rw [hq] at HCALL hsucc
     have HSU : Hid (trTo d L (k + 1) = trTo d L k) := hI (by rw [hsucc]; simp)
     clear hsucc hq hln
     go_wp2_with fail
     refine (HCALL.out _ xR).mono ?_
     rintro e w6 ⟨rfl, hx6⟩
     go_wp2
     go_roundw
     case rel => exact ⟨k + 1, by omega, by first | rw [hwr] | exact congrArg (Value.int .i64) (by omega), hI (by rw [HSU.out]; exact HV.out.ext hx6), HBW.out.ext hx6, HBP.out.ext hx6, xT hxr hx6⟩
     case measure => simp [intOf]; omega
    | false =>
     rw [hq] at HCALL hsucc
     have HSU : Hid (trTo d L (k + 1) = trTo d L k ++ [(k : Int) + -3000]) := hI (by rw [hsucc]; simp)
     have HLN : Hid ((trTo d L k).length ≤ 10000) := hI (by omega)
     clear hsucc hq hln
     have hsr := hxr.size
     go_wp2_with fail
     refine (HCALL.out _ xR).mono ?_
     rintro e w6 ⟨rfl, hx6⟩
     have hs6 := hx6.size
     (try simp at hs6)
     have HV1 : Hid (OwI w6 (w2.heap.size + 1) _ (trTo d L k)) := hI (HV.out.ext hx6)
     go_wp2_with (at_builtin; refine wpList_append_sl elI len_encI one_encI rfl _ _ rfl rfl (HV1.out.ext (xA xR)) (xs := [(k : Int) + -3000]) rfl (blk_i1 (bN (by omega))) (by have := HLN.out; simp; unfold maxLen; omega) (by have := HLN.out; simp; omega) (by first | omega | (simp; omega)) ?_)
     intro v' w7 hown hgrow _
     have HV2 := hI hown
     have hx7 : Ext w2 w7 := by
      refine Ext.grown ?_ hgrow (fun q hq => Nat.le_of_succ_le (HV.out.row q hq).1)
      exact xA (xT hxr hx6)
     have HB7 := hI (blk_keptE hgrow (HBW.out.ext (xA hx6)) (fun e => by have := (HV.out.row _ e.symm).1; omega))
     have HB8 := hI (blk_keptE hgrow (HBP.out.ext (xA hx6)) (fun e => by have := (HV.out.row _ e.symm).1; omega))
     clear hown hgrow
     go_wp2
     go_roundw
     case rel => exact ⟨k + 1, by omega, by first | rw [hwr] | exact congrArg (Value.int .i64) (by omega), hI (by rw [HSU.out]; exact HV2.out), HB7.out, HB8.out, hx7⟩
     case measure => simp [intOf]; omega
   ·obtain rfl : k = 6001 := by omega
    have HO : Hid (OwI w5 (w2.heap.size + 1) _ (trL d L)) := HV
    have hnl : ¬ (((6001 : Nat) : Int) + -3000 ≤ 3000) := by omega
    obtain ⟨A7, c7, rfl, hS7, _⟩ := HO.out.sl len_encI
    have hll : (trL d L).length ≤ 6001 := trTo_len _ _ _
    by_cases h40 : 40 < (trL d L).length
    ·have HT := hI (HT1.out h40)
     have h40i : (40 : Int) < ((trL d L).length : Int) := by omega
     have h40d : decide ((40 : Int) < ((trL d L).length : Int)) = true := decide_eq_true h40i
     generalize (trL d L).length = p at *
     clear HT1 HT2
     go_wp2
     go_ret2
     rw [HT.out.1, HT.out.2]
     exact ⟨_, rfl, Own.nil _ _, HX2.out.trans hxr⟩
    ·have HT := hI (HT2.out h40)
     have h40i : ¬ (40 : Int) < ((trL d L).length : Int) := by omega
     have h40d : decide ((40 : Int) < ((trL d L).length : Int)) = false := decide_eq_false h40i
     have hs02 : w.heap.size ≤ w2.heap.size := HX2.out.size
     have HOO : Hid (∀ W, Ext w5 W → OwI W w.heap.size (.slice A7 (trL d L).length c7) (trL d L)) := hI (fun W hW => (HO.out.ext hW).less (by omega))
     clear HO HV hS7 HT1 HT2 h40
     generalize (trL d L).length = p at *
     go_wp2
     go_ret2
     rw [HT.out.1, HT.out.2]
     exact ⟨_, rfl, HOO.out _ xR, HX2.out.trans hxr⟩
 ·have hz0 : ¬ wyC (psD ps) L (smL x 1 16 && true) [0] = 0 := by rw [hb1, wyC_0]; exact hz
  have hp : plC (psD ps) L x true 0 = wyC (psD ps) L (smL x 1 16) [] := by rw [plC_ne hz0, hb1, wyC_0]
  obtain ⟨e1, e2⟩ := trR_ne (D := psD ps) (L := L) (x := x) (by rw [hp]; exact hz)
  rw [e1, e2, hp]
  generalize wyC (psD ps) L (smL x 1 16) [] = cd at *
  have hcd : (cd != 0) = true := by simpa using hz
  clear hz0 hp e1 e2 hb1 h hx hm
  generalize tx x = sx at *
  generalize smL x 1 16 = q at *
  go_enter Tryz.func6, Tryz.ntmps6
  go_wp2
  (refine wp_region_ext (by kernel_rfl) (by kernel_rfl) ?_; (repeat (go_big_quiet_step ((first | (go_at_call 22; exact Calls_ext (HW.out _)) | (go_at_call 21; exact Calls_ext (HC.out _ (Ext.trans (xA xR) (ExtOf.ext _)))))))); refine wpQuiet_nil ?_; intro wq hxwq; obtain ⟨hcwq, hfwq, hswq⟩ := hxwq.all; (try simp at hswq))
  go_wp2
  go_ret2
  exact ⟨_, rfl, Own.nil _ _, xT (xA xR) hxwq⟩
end
section
variable {w : World} {A A' : Option Addr} {n c m c' : Nat} {ps : List Pl} {L : List Lk}
set_option maxRecDepth 20000 in
set_option maxHeartbeats 25600000 in
theorem s_TurnsOfW (x : List UInt8) (h : WIn w A A' n c m c' ps L) (hx : x.length ≤ 1048576) :
  Calls Tryz.prog 7 #[.agg #[.slice A n c, .slice A' m c'], .string (tx x)] w fun e w' => ∃ v, e = .returned (.tuple #[v, .int .i64 (trC (psD ps) L x)]) ∧ OwI w' w.heap.size v (trR (psD ps) L x) ∧ Ext w w' := by
 have HC := hI (fun W (hW : Ext w W) => s_l14Code x 0 (h.ext hW) hx)
 by_cases hp : plC (psD ps) L x true 0 = 0
 ·obtain ⟨hw, _, _, _, hs⟩ := plC_zero hp
  rw [hp] at HC
  have HT1 : Hid (40 < (trL ((fndP (psD ps) x).getD pdD) L).length → trC (psD ps) L x = 3 ∧ trR (psD ps) L x = []) := hI (fun h40 => by
   have e : trC (psD ps) L x = 3 := by unfold trC; rw [if_pos hp, if_pos h40]
   exact ⟨e, by unfold trR; rw [if_neg (by omega)]⟩)
  have HT2 : Hid (¬ 40 < (trL ((fndP (psD ps) x).getD pdD) L).length → trC (psD ps) L x = 0 ∧ trR (psD ps) L x = trL ((fndP (psD ps) x).getD pdD) L) := hI (fun h40 => by
   have e : trC (psD ps) L x = 0 := by unfold trC; rw [if_pos hp, if_neg h40]
   exact ⟨e, by unfold trR; rw [if_pos e]⟩)
  clear hp
  obtain ⟨k, hk1, hk2, hk3, hk4⟩ := fnd_some hs
  rw [psD_len] at hk2
  rw [psD_at hk2] at hk3
  have hln : n ≤ 1048576 := by rw [h.hn]; exact h.hl
  have HF := hI (fun W (hW : Ext w W) => s_l11Find A n c ps x W (h.sq.ext hW) h.hn hln)
  rw [hk1] at HF
  have hgd : (fndP (psD ps) x).getD pdD = pdOf (ps.getD k plD) := by rw [hk3]; rfl
  have HI0 : IsP w (pdOf (ps.getD k plD)) (.agg #[.string (tx (ps.getD k plD).1), .int .i64 (ps.getD k plD).2.1, .int .i64 (ps.getD k plD).2.2.1, .int .i64 (ps.getD k plD).2.2.2.1, .slice (ps.getD k plD).2.2.2.2.1 (ps.getD k plD).2.2.2.2.2.2.length (ps.getD k plD).2.2.2.2.2.1]) := isP_at h hw hk2
  obtain ⟨bb, off, hA, hb, d0, d1, d2, d3, d4⟩ := h.sq.pl hk2
  subst hA
  have hkn : k < n := by rw [h.hn]; exact hk2
  have hk0 : (0 : Int) ≤ (k : Int) := by omega
  have hlm : m ≤ 1048576 := by rw [h.hm]; exact h.hl'
  rw [hgd] at HT1 HT2
  have HSK := hI h.sk
  have HHM := hI h.hm
  clear hk1 hk3 hk4 hgd hk2
  generalize pdOf (ps.getD k plD) = d at *
  generalize tx (ps.getD k plD).1 = s0 at *
  generalize (ps.getD k plD).2.1 = s1 at *
  generalize (ps.getD k plD).2.2.1 = s2 at *
  generalize (ps.getD k plD).2.2.2.1 = s3 at *
  generalize (ps.getD k plD).2.2.2.2.1 = s4 at *
  generalize (ps.getD k plD).2.2.2.2.2.2.length = s5 at *
  generalize (ps.getD k plD).2.2.2.2.2.1 = s6 at *
  have HX := hI (fun z W => HI0.ex z W)
  have HKR : Hid (∀ W, Ext w W → W.cell? ⟨bb, off + k * 5, none⟩ = some (.string s0) ∧ W.cell? ⟨bb, off + k * 5 + 1, none⟩ = some (.int .i64 s1) ∧ W.cell? ⟨bb, off + k * 5 + 2, none⟩ = some (.int .i64 s2) ∧ W.cell? ⟨bb, off + k * 5 + 3, none⟩ = some (.int .i64 s3) ∧ W.cell? ⟨bb, off + k * 5 + 4, none⟩ = some (.slice s4 s5 s6)) := hI (fun W hW => ⟨(hW.cell _ _ hb).trans d0, (hW.cell _ _ hb).trans d1, (hW.cell _ _ hb).trans d2, (hW.cell _ _ hb).trans d3, (hW.cell _ _ hb).trans d4⟩)
  have HI := hI HI0
  obtain ⟨e2, e3, e9⟩ := HI0.yrs
  have HE2 := hI e2
  have HE3 := hI e3
  clear d0 d1 d2 d3 d4 HI0 e9 e2 e3
  have HTN := hI (fun W (hW : Ext w W) z h1 h2 => (HI.out.ext hW).turn (A := some ⟨bb, off, none⟩) (n := n) (c := c) (c' := c') (HSK.out.ext hW) HHM.out hlm z h1 h2)
  generalize trC (psD ps) L x = rC at *
  generalize trR (psD ps) L x = rR at *
  generalize tx x = sx at *
  clear h hw hs hx
  go_enter Tryz.func7, Tryz.ntmps7
  go_wp2_with fail
  refine (HC.out _ (xA xR)).mono ?_
  rintro e w1 ⟨rfl, hx1⟩
  obtain ⟨hc1, hf1⟩ := hx1.rules
  have hs1 := hx1.size
  (try simp at hs1)
  have := (show w.heap.size < w1.heap.size from by omega)
  have HBX : Hid (Blk w1 w.heap.size 27 #[.slice (some ⟨bb, off, none⟩) n c, .slice A' m c']) := hI (Blk.eq (bE hx1 (bN (by omega))) (by rfl))
  have HX1 : Hid (Ext w w1) := hI (xT (xA xR) hx1)
  clear hc1 hf1
  have HKC : Hid (∀ W, Ext w1 W → W.cell? ⟨w.heap.size, 0, none⟩ = some (.slice (some ⟨bb, off, none⟩) n c) ∧ W.cell? ⟨w.heap.size, 1, none⟩ = some (.slice A' m c') ∧ W.cell? ⟨bb, off + k * 5, none⟩ = some (.string s0) ∧ W.cell? ⟨bb, off + k * 5 + 1, none⟩ = some (.int .i64 s1) ∧ W.cell? ⟨bb, off + k * 5 + 2, none⟩ = some (.int .i64 s2) ∧ W.cell? ⟨bb, off + k * 5 + 3, none⟩ = some (.int .i64 s3) ∧ W.cell? ⟨bb, off + k * 5 + 4, none⟩ = some (.slice s4 s5 s6)) := hI (fun W hW => ⟨(HBX.out.ext hW).cell 0, (HBX.out.ext hW).cell 1, HKR.out W (HX1.out.trans hW)⟩)
  have hX1 := HX1.out
  go_upto_region 4 with (fail)
  go_cut [7] (fun p wx => ∃ b9 : Nat, p = .pointer (some ⟨b9, 0, none⟩) ∧ Blk wx b9 57 #[.string s0, .int .i64 s1, .int .i64 s2, .int .i64 s3, .slice s4 s5 s6] ∧ Ext w1 wx)
  case first =>
   obtain ⟨k1, k2, k3, k4, k5, k6, k7⟩ := HKC.out w1 (Ext.refl _)
   go_region_held3 (fun w' => w'.cell? ⟨w.heap.size, 0, none⟩ = some (.slice (some ⟨bb, off, none⟩) n c) ∧ w'.cell? ⟨w.heap.size, 1, none⟩ = some (.slice A' m c') ∧ w'.cell? ⟨bb, off + k * 5, none⟩ = some (.string s0) ∧ w'.cell? ⟨bb, off + k * 5 + 1, none⟩ = some (.int .i64 s1) ∧ w'.cell? ⟨bb, off + k * 5 + 2, none⟩ = some (.int .i64 s2) ∧ w'.cell? ⟨bb, off + k * 5 + 3, none⟩ = some (.int .i64 s3) ∧ w'.cell? ⟨bb, off + k * 5 + 4, none⟩ = some (.slice s4 s5 s6)) (first | exact HKC.out _ (by with_reducible first|exact xD xR|exact xD (xA xR)) | go_keep) ((go_at_call 27; refine (HF.out _ (by with_reducible first|exact xD hX1|exact xD (xA hX1))).mono ?_; rintro e w7 ⟨rfl, rfl⟩))
   all_goals (go_wp2_with fail; go_meet; exact ⟨_, rfl, Blk.eq (bD (bN (by omega))) (by rfl), xD (xA xR)⟩)
  case rest =>
  obtain ⟨b9, rfl, hB9, hxc⟩ := hcut
  obtain ⟨w2, rfl⟩ : ∃ x, x = wc := ⟨wc, rfl⟩
  have hB3 : Blk w2 w.heap.size 27 #[.slice (some ⟨bb, off, none⟩) n c, .slice A' m c'] := HBX.out.ext hxc
  have HX2 : Hid (Ext w w2) := hI (HX1.out.trans (by clear hB3; exact hxc))
  have z3 := hB3.lt
  have z9 := hB9.lt
  clear hxc hX1 hx1 hs1
  go_wp2
  go_loopw [8, 9] (fun v i wr => ∃ k : Nat, k ≤ 6001 ∧ i = .int .i64 ((k : Int) + -3000) ∧ Hid (OwI wr w2.heap.size v (trTo d L k)) ∧ Blk wr w.heap.size 27 #[.slice (some ⟨bb, off, none⟩) n c, .slice A' m c'] ∧ Blk wr b9 57 #[.string s0, .int .i64 s1, .int .i64 s2, .int .i64 s3, .slice s4 s5 s6] ∧ Ext w2 wr) (fun _ i _ => 6001 - (intOf i + 3000).toNat)
  case atStart => exact ⟨0, by omega, rfl, hI (Own.of_blk (g := w2.heap.size) (cs := #[]) (xs := []) (bN (by omega)) len_encI rfl (by omega) (by simp)), bA hB3, bA hB9, xA xR⟩
  case round =>
   clear hB3 hB9
   obtain ⟨k, hk, rfl, HV, hBW, hBP, hxr⟩ := hrel
   obtain ⟨w5, rfl⟩ : ∃ x, x = wr := ⟨wr, rfl⟩
   have t0 := hBW.cell 0
   have t1 := hBW.cell 1
   simp only [List.getElem?_toArray, List.getElem?_cons_zero, List.getElem?_cons_succ] at t0 t1
   have p0 : w5.cell? ⟨b9, 0, none⟩ = some (.string s0) := hBP.cell 0
   have p1 : w5.cell? ⟨b9, 1, none⟩ = some (.int .i64 s1) := hBP.cell 1
   have p2 : w5.cell? ⟨b9, 2, none⟩ = some (.int .i64 s2) := hBP.cell 2
   have p3 : w5.cell? ⟨b9, 3, none⟩ = some (.int .i64 s3) := hBP.cell 3
   have p4 : w5.cell? ⟨b9, 4, none⟩ = some (.slice s4 s5 s6) := hBP.cell 4
   have zw := hBW.lt
   have zp := hBP.lt
   have HBW := hI hBW
   have HBP := hI hBP
   clear hBW hBP
   by_cases hlt : (k : Int) + -3000 ≤ 3000
   ·have hwr : IntKind.i64.wrap ((k : Int) + -3000 + 1) = ((k + 1 : Nat) : Int) + -3000 := by rw [IntWalk.i64_in _ (by omega)]; omega
    have hsucc := trTo_succ d L k
    have hln := trTo_len d L k
    have HCALL := hI (fun W (hW : Ext w5 W) => HTN.out W (HX2.out.trans (hxr.trans hW)) ((k : Int) + -3000) (by omega) (by omega))
    cases hq : sdB d L ((k : Int) + -3000) with
    | true =>
     rw [hq] at HCALL hsucc
     have HSU : Hid (trTo d L (k + 1) = trTo d L k) := hI (by rw [hsucc]; simp)
     clear hsucc hq hln
     go_wp2_with fail
     refine (HCALL.out _ xR).mono ?_
     rintro e w6 ⟨rfl, hx6⟩
     go_wp2
     go_roundw
     case rel => exact ⟨k + 1, by omega, by first | rw [hwr] | exact congrArg (Value.int .i64) (by omega), hI (by rw [HSU.out]; exact HV.out.ext hx6), HBW.out.ext hx6, HBP.out.ext hx6, xT hxr hx6⟩
     case measure => simp [intOf]; omega
    | false =>
     rw [hq] at HCALL hsucc
     have HSU : Hid (trTo d L (k + 1) = trTo d L k ++ [(k : Int) + -3000]) := hI (by rw [hsucc]; simp)
     have HLN : Hid ((trTo d L k).length ≤ 10000) := hI (by omega)
     clear hsucc hq hln
     have hsr := hxr.size
     go_wp2_with fail
     refine (HCALL.out _ xR).mono ?_
     rintro e w6 ⟨rfl, hx6⟩
     have hs6 := hx6.size
     (try simp at hs6)
     have HV1 : Hid (OwI w6 w2.heap.size _ (trTo d L k)) := hI (HV.out.ext hx6)
     go_wp2_with (at_builtin; refine wpList_append_sl elI len_encI one_encI rfl _ _ rfl rfl (HV1.out.ext (xA xR)) (xs := [(k : Int) + -3000]) rfl (blk_i1 (bN (by omega))) (by have := HLN.out; simp; unfold maxLen; omega) (by have := HLN.out; simp; omega) (by first | omega | (simp; omega)) ?_)
     intro v' w7 hown hgrow _
     have HV2 := hI hown
     have hx7 : Ext w2 w7 := by
      refine Ext.grown ?_ hgrow (fun q hq => (HV.out.row q hq).1)
      exact xA (xT hxr hx6)
     have HB7 := hI (blk_keptE hgrow (HBW.out.ext (xA hx6)) (fun e => by have := (HV.out.row _ e.symm).1; omega))
     have HB8 := hI (blk_keptE hgrow (HBP.out.ext (xA hx6)) (fun e => by have := (HV.out.row _ e.symm).1; omega))
     clear hown hgrow
     go_wp2
     go_roundw
     case rel => exact ⟨k + 1, by omega, by first | rw [hwr] | exact congrArg (Value.int .i64) (by omega), hI (by rw [HSU.out]; exact HV2.out), HB7.out, HB8.out, hx7⟩
     case measure => simp [intOf]; omega
   ·obtain rfl : k = 6001 := by omega
    have HO : Hid (OwI w5 w2.heap.size _ (trL d L)) := HV
    have hnl : ¬ (((6001 : Nat) : Int) + -3000 ≤ 3000) := by omega
    obtain ⟨A7, c7, rfl, hS7, _⟩ := HO.out.sl len_encI
    have hll : (trL d L).length ≤ 6001 := trTo_len _ _ _
    by_cases h40 : 40 < (trL d L).length
    ·have HT := hI (HT1.out h40)
     have h40i : (40 : Int) < ((trL d L).length : Int) := by omega
     have h40d : decide ((40 : Int) < ((trL d L).length : Int)) = true := decide_eq_true h40i
     generalize (trL d L).length = p at *
     clear HT1 HT2
     go_wp2
     go_ret2
     rw [HT.out.1, HT.out.2]
     exact ⟨_, rfl, Own.nil _ _, HX2.out.trans hxr⟩
    ·have HT := hI (HT2.out h40)
     have h40i : ¬ (40 : Int) < ((trL d L).length : Int) := by omega
     have h40d : decide ((40 : Int) < ((trL d L).length : Int)) = false := decide_eq_false h40i
     have hs02 : w.heap.size ≤ w2.heap.size := HX2.out.size
     have HOO : Hid (∀ W, Ext w5 W → OwI W w.heap.size (.slice A7 (trL d L).length c7) (trL d L)) := hI (fun W hW => (HO.out.ext hW).less (by omega))
     clear HO HV hS7 HT1 HT2 h40
     generalize (trL d L).length = p at *
     go_wp2
     go_ret2
     rw [HT.out.1, HT.out.2]
     exact ⟨_, rfl, HOO.out _ xR, HX2.out.trans hxr⟩
 ·obtain ⟨e1, e2⟩ := trR_ne (D := psD ps) (L := L) (x := x) hp
  rw [e1, e2]
  generalize plC (psD ps) L x true 0 = cd at *
  have hcd : (cd != 0) = true := by simpa using hp
  clear e1 e2 h hx
  generalize tx x = sx at *
  go_enter Tryz.func7, Tryz.ntmps7
  go_wp2_with fail
  refine (HC.out _ (xA xR)).mono ?_
  rintro e w1 ⟨rfl, hx1⟩
  go_wp2
  go_ret2
  exact ⟨_, rfl, Own.nil _ _, xT (xA xR) hx1⟩
end
end Go.Proofs.YtlnliajnipniaaaGreatDoor
