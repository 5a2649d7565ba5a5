/- The names of a way up, as the program tells them. -/
import Derived.Test.YtapfokfbdmcokaaGreatDoorYX
import Derived.Deep.RegionHeld3
import Derived.Deep.DeepCutAuto
import Derived.RegionTactic
import Derived.BigRegion
import Derived.WalkLawsBesides
import Derived.WalkSpells
import Derived.Lib.MinMax
import Derived.Outline
namespace Go.Proofs.YtapfokfbdmcokaaGreatDoor
open Go.RowKit
attribute [local go_sem] ExtOf.cell ExtOf.frozen


section
variable {w : World} {A A' A9 : Option Addr} {n c m c' r c9 : Nat} {ps : List Pl} {L : List Lk} {ls : List (List UInt8)}
set_option maxRecDepth 20000 in
set_option maxHeartbeats 25600000 in
theorem i_StateLineW (x : List UInt8) (y : Int) (h : WIn w A A' n c m c' ps L) (h9 : SlAt w 1 encS A9 ls) (hr : r = ls.length) (hr9 : r ≤ 1048576) (hs : ∀ s ∈ ls, s.length ≤ 1048576) (hx : x.length ≤ 1048576) (hm : Mx w) :
    Calls Tryz.prog 38 #[.agg #[.slice A n c, .slice A' m c'], .string (tx x), .slice A9 r c9, .int .i64 y] w fun e w' => e = .returned (.tuple #[.string (tx (slR (psD ps) L x ls y)), .int .i64 (slC (psD ps) L x ls y)]) ∧ Ext w w' := by
  have HW := Lib.hid (fun W (hW : Ext w W) => i_areLanguages A9 r c9 ls W (h9.ext hW) hr hr9 hs)
  have HC : Hid (∀ W, Ext w W → Calls Tryz.prog 67 #[.agg #[.slice A n c, .slice A' m c'], .string (tx x), .bool (lgB ls), .int .i64 y] W fun e w' => e = .returned (.int .i64 (slC (psD ps) L x ls y)) ∧ Ext W w') := Lib.hid (fun W hW => i_placeCode (w := W) x y (lgB ls) (h.ext hW) hx (hm.ext hW))
  by_cases hz : slC (psD ps) L x ls y = 0
  · obtain ⟨hp, he⟩ := ssC_zero hz
    obtain ⟨hw, hj1, hj2, hj3, hf⟩ := plC_zero hp
    clear hj1 hj2 hj3
    have hlm : m ≤ 1048576 := by rw [h.hm]; exact h.hl'
    have HU := Lib.hid (fun W (hW : Ext w W) => i_wayUp A' m c' L x y W (h.sk.ext hW) h.hm hlm)
    have HPW := Lib.hid (fun z (hz : z ∈ (wayU L x y).1) W (hW : Ext w W) => i_placeP (w := W) z (h.ext hW) hw (wdB_way hw hf hz))
    have HNA := Lib.hid (fun W (hW : Ext w W) d v (hP : IsP W d v) => hP.name (c9 := c9) (h9.ext hW) hr hr9 y)
    have HJL := Lib.hid (slN_join (ls := ls) (y := y) h hw hf (slN (psD ps) L x ls y).length)
    have hun : 0 < (wayU L x y).1.length := by obtain ⟨_, _, h3, _⟩ := wayU_last L x y; exact h3
    have hul : (wayU L x y).1.length ≤ 21 := by
      obtain ⟨_, _, h3⟩ := wayU_ne L x y
      have h4 := lks20 (wdB_iff.1 hw).2.1
      omega
    have HUP := Lib.hid (And.intro hun hul)
    clear hun hul
    have HRR : Hid (slR (psD ps) L x ls y = jn (slN (psD ps) L x ls y) [44, 32]) := Lib.hid (by unfold slR; rw [if_pos hz])
    have HAT := Lib.hid (fun k (hk : k < (wayU L x y).1.length) => slN_at (D := psD ps) (ls := ls) hk)
    have HLN := Lib.hid (slN_len (psD ps) L x ls y)
    rw [HRR.out]
    rw [hz] at HC ⊢
    generalize slN (psD ps) L x ls y = N at *
    generalize (wayU L x y).1 = U at *
    have HFO : Hid (∀ z, slO (psD ps) ls y z = nmO ((fndP (psD ps) z).getD pdD) ls y) := Lib.hid (fun z => rfl)
    generalize slO (psD ps) ls y = fO at *
    generalize lgB ls = q at *
    clear hz hp he hw hf h h9 hr hs hm hlm hx HRR
    generalize tx x = sx at *
    go_enter Tryz.func38, Tryz.ntmps38
    go_wp2
    (refine wp_region_ext (by kernel_rfl) (by kernel_rfl) ?_; (repeat (go_big_quiet_step ((first | (go_at_call 78; exact Calls_ext (HW.out _ (Ext.trans (by (repeat (first | with_reducible exact Ext.refl _ | with_reducible assumption | ((with_reducible apply Src.ext); with_reducible assumption) | with_reducible refine Ext.alloc ?_ _ | with_reducible refine Ext.drew ?_ | with_reducible refine Ext.drewN ?_ _ | ((with_reducible refine Ext.setCell' ?_ ?_ _); solve | omega | simp | (simp; omega)) | (with_reducible refine Ext.trans ?_ (by with_reducible assumption))))) (ExtOf.ext _)))) | (go_at_call 67; exact Calls_ext (HC.out _ (Ext.trans (by (repeat (first | with_reducible exact Ext.refl _ | with_reducible assumption | ((with_reducible apply Src.ext); with_reducible assumption) | with_reducible refine Ext.alloc ?_ _ | with_reducible refine Ext.drew ?_ | with_reducible refine Ext.drewN ?_ _ | ((with_reducible refine Ext.setCell' ?_ ?_ _); solve | omega | simp | (simp; omega)) | (with_reducible refine Ext.trans ?_ (by with_reducible assumption))))) (ExtOf.ext _)))))))); refine wpQuiet_nil ?_; intro wq hxwq; obtain ⟨hcwq, hfwq⟩ := hxwq.rules; have hswq := hxwq.size; (try simp at hswq))
    have B3 : Blk wq w.heap.size 33 #[.slice A n c, .slice A' m c'] := Blk.eq (by (repeat (first | with_reducible assumption | ((with_reducible apply Blk.new); solve | simp | rfl) | with_reducible apply Blk.drew | with_reducible apply Blk.drewN | ((with_reducible apply Blk.far'); solve | omega | simp | (simp; omega)) | with_reducible apply Blk.set_ | with_reducible apply Blk.alloc | ((with_reducible apply Blk.ext'); with_reducible assumption) | ((with_reducible apply Blk.but'); (with_reducible assumption); solve | omega | (simp; omega))))) (by rfl)
    have hX : Ext w wq := by clear B3; (repeat (first | with_reducible exact Ext.refl _ | with_reducible assumption | ((with_reducible apply Src.ext); with_reducible assumption) | with_reducible refine Ext.alloc ?_ _ | with_reducible refine Ext.drew ?_ | with_reducible refine Ext.drewN ?_ _ | ((with_reducible refine Ext.setCell' ?_ ?_ _); solve | omega | simp | (simp; omega)) | (with_reducible refine Ext.trans ?_ (by with_reducible assumption))))
    have HX := Lib.hid hX
    have HB3 := Lib.hid B3
    have z3 := B3.lt
    have t0 : wq.cell? ⟨w.heap.size, 0, none⟩ = some (.slice A n c) := B3.cell 0
    have t1 : wq.cell? ⟨w.heap.size, 1, none⟩ = some (.slice A' m c') := B3.cell 1
    clear B3 hX hxwq hcwq hfwq
    go_wp2_with fail
    refine (HU.out _ (HX.out.trans (by (repeat (first | with_reducible exact Ext.refl _ | with_reducible assumption | ((with_reducible apply Src.ext); with_reducible assumption) | with_reducible refine Ext.alloc ?_ _ | with_reducible refine Ext.drew ?_ | with_reducible refine Ext.drewN ?_ _ | ((with_reducible refine Ext.setCell' ?_ ?_ _); solve | omega | simp | (simp; omega)) | (with_reducible refine Ext.trans ?_ (by with_reducible assumption))))))).mono ?_
    rintro e w1 ⟨v, rfl, hO, hx1⟩
    obtain ⟨hun, hul⟩ := HUP.out
    obtain ⟨g, cap, cur, rfl, hb, hB, hnc, hmc, hsz, htk⟩ := hO.open_ hun
    have HM := Lib.hid (MixS.start (N := N) rfl htk)
    rw [Nat.mul_one] at hsz
    have HSZ := Lib.hid hsz
    clear hsz htk
    have hX1 : Ext w w1 := HX.out.trans hx1
    have HX1 := Lib.hid hX1
    have hB3 : Blk w1 w.heap.size 33 #[.slice A n c, .slice A' m c'] := HB3.out.ext hx1
    have hsq := hx1.size
    have hsw := HX.out.size
    obtain ⟨un, hune⟩ : ∃ un, un = U.length := ⟨_, rfl⟩
    have HUN := Lib.hid hune
    rw [← hune] at hnc hul hun ⊢
    clear hO hx1 hX1 t0 t1 hune
    go_wp2
    go_loopw [30] (fun i wr => ∃ (k : Nat) (cs : Array Value), k ≤ un ∧ i = .int .i64 k ∧ Blk wr g 9 cs ∧ Hid (MixS N U k cur.size cs) ∧ Blk wr w.heap.size 33 #[.slice A n c, .slice A' m c'] ∧ Ext w wr ∧ w1.heap.size ≤ wr.heap.size) (fun i _ => un - (intOf i).toNat)
    case atStart => exact ⟨0, cur, by omega, rfl, by (repeat (first | with_reducible assumption | ((with_reducible apply Blk.new); solve | simp | rfl) | with_reducible apply Blk.drew | with_reducible apply Blk.drewN | ((with_reducible apply Blk.far'); solve | omega | simp | (simp; omega)) | with_reducible apply Blk.set_ | with_reducible apply Blk.alloc | ((with_reducible apply Blk.ext'); with_reducible assumption) | ((with_reducible apply Blk.but'); (with_reducible assumption); solve | omega | (simp; omega)))), HM, by (repeat (first | with_reducible assumption | ((with_reducible apply Blk.new); solve | simp | rfl) | with_reducible apply Blk.drew | with_reducible apply Blk.drewN | ((with_reducible apply Blk.far'); solve | omega | simp | (simp; omega)) | with_reducible apply Blk.set_ | with_reducible apply Blk.alloc | ((with_reducible apply Blk.ext'); with_reducible assumption) | ((with_reducible apply Blk.but'); (with_reducible assumption); solve | omega | (simp; omega)))), by exact HX1.out, Nat.le_refl _⟩
    case round =>
      clear hB hB3
      obtain ⟨k, cs, hk, rfl, hBr, HC2, hBW, hxr, hsr⟩ := hrel
      obtain ⟨w5, rfl⟩ : ∃ x, x = wr := ⟨wr, rfl⟩
      have hgr := hBr.lt
      have zw := hBW.lt
      have t0 : w5.cell? ⟨w.heap.size, 0, none⟩ = some (.slice A n c) := hBW.cell 0
      have t1 : w5.cell? ⟨w.heap.size, 1, none⟩ = some (.slice A' m c') := hBW.cell 1
      have HBR := Lib.hid hBr
      have HBW := Lib.hid hBW
      by_cases hlt : k < un
      · have hkU : k < U.length := by rw [← HUN.out]; exact hlt
        have hu0 := HC2.out.2.2 k (Nat.le_refl _) hkU
        rw [← hBr.cell] at hu0
        have HPC := Lib.hid (HPW.out (U.getD k []) (by simp [List.getD, hkU]))
        have HATk := Lib.hid (HAT.out k hkU)
        have HST := Lib.hid (fun (s : ByteArray) (e : s = tx (N.getD k [])) => HC2.out.step (by have := HSZ.out; omega) e)
        have hHF : Hid (∀ d, d = (fndP (psD ps) (U.getD k [])).getD pdD → ∀ s, s = tx (nmO d ls y) → MixS N U (k + 1) cur.size (cs.setIfInBounds k (.string s))) := Lib.hid (fun d hd s hss => HST.out s (by rw [HATk.out, hss, hd, ← HFO.out]))
        generalize (fndP (psD ps) (U.getD k [])).getD pdD = d at *
        generalize tx (U.getD k []) = su at *
        clear hBr hBW hkU
        go_wp2_with fail
        refine (HPC.out _ (hxr.trans (by (repeat (first | with_reducible exact Ext.refl _ | with_reducible assumption | ((with_reducible apply Src.ext); with_reducible assumption) | with_reducible refine Ext.alloc ?_ _ | with_reducible refine Ext.drew ?_ | with_reducible refine Ext.drewN ?_ _ | ((with_reducible refine Ext.setCell' ?_ ?_ _); solve | omega | simp | (simp; omega)) | (with_reducible refine Ext.trans ?_ (by with_reducible assumption))))))).mono ?_
        rintro e w6 ⟨s0, s1, s2, s3, s4, s5, s6, HI, rfl, hx6⟩
        have HI6 := Lib.hid (HI.out.ext hx6)
        clear HI
        go_wp2_with fail
        refine (HNA.out _ ((hxr.trans hx6).trans (by (repeat (first | with_reducible exact Ext.refl _ | with_reducible assumption | ((with_reducible apply Src.ext); with_reducible assumption) | with_reducible refine Ext.alloc ?_ _ | with_reducible refine Ext.drew ?_ | with_reducible refine Ext.drewN ?_ _ | ((with_reducible refine Ext.setCell' ?_ ?_ _); solve | omega | simp | (simp; omega)) | (with_reducible refine Ext.trans ?_ (by with_reducible assumption)))))) _ _ (HI6.out.ext (by (repeat (first | with_reducible exact Ext.refl _ | with_reducible assumption | ((with_reducible apply Src.ext); with_reducible assumption) | with_reducible refine Ext.alloc ?_ _ | with_reducible refine Ext.drew ?_ | with_reducible refine Ext.drewN ?_ _ | ((with_reducible refine Ext.setCell' ?_ ?_ _); solve | omega | simp | (simp; omega)) | (with_reducible refine Ext.trans ?_ (by with_reducible assumption))))))).mono ?_
        rintro e w7 ⟨rfl, hx7⟩
        have hBr : Blk w7 g 9 cs := HBR.out.ext (hx6.trans hx7)
        have hBW : Blk w7 w.heap.size 33 #[.slice A n c, .slice A' m c'] := HBW.out.ext (hx6.trans hx7)
        have hu7 : w7.cell? ⟨g, k, none⟩ = some (.string su) := ((hx6.trans hx7).cell g k hgr).trans hu0
        have f7 := hBr.frozen k
        have z7 := hBr.lt
        have hs6 := hx6.size
        have hs7 := hx7.size
        have HSM := Lib.hid (hHF.out _ rfl _ rfl)
        generalize tx (nmO d ls y) = sn at *
        go_wp2
        go_roundw
        case rel => exact ⟨k + 1, _, by omega, by go_num, Blk.eq (by (repeat (first | with_reducible assumption | ((with_reducible apply Blk.new); solve | simp | rfl) | with_reducible apply Blk.drew | with_reducible apply Blk.drewN | ((with_reducible apply Blk.far'); solve | omega | simp | (simp; omega)) | with_reducible apply Blk.set_ | with_reducible apply Blk.alloc | ((with_reducible apply Blk.ext'); with_reducible assumption) | ((with_reducible apply Blk.but'); (with_reducible assumption); solve | omega | (simp; omega))))) (by rfl), HSM, by (repeat (first | with_reducible assumption | ((with_reducible apply Blk.new); solve | simp | rfl) | with_reducible apply Blk.drew | with_reducible apply Blk.drewN | ((with_reducible apply Blk.far'); solve | omega | simp | (simp; omega)) | with_reducible apply Blk.set_ | with_reducible apply Blk.alloc | ((with_reducible apply Blk.ext'); with_reducible assumption) | ((with_reducible apply Blk.but'); (with_reducible assumption); solve | omega | (simp; omega)))), by (repeat (first | with_reducible exact Ext.refl _ | with_reducible assumption | ((with_reducible apply Src.ext); with_reducible assumption) | with_reducible refine Ext.alloc ?_ _ | with_reducible refine Ext.drew ?_ | with_reducible refine Ext.drewN ?_ _ | ((with_reducible refine Ext.setCell' ?_ ?_ _); solve | omega | simp | (simp; omega)) | (with_reducible refine Ext.trans ?_ (by with_reducible assumption)))), by simp; omega⟩
        case measure => simp [intOf]; omega
      · obtain rfl : k = un := by omega
        have hcells : ∀ j x, (N.map tx)[j]? = some x → w5.cell? ⟨g, 0 + j, none⟩ = some (.string x) := fun j x hj => by
          rw [List.getElem?_map] at hj
          obtain ⟨l, hl1, rfl⟩ := Option.map_eq_some_iff.1 hj
          have hjl : j < N.length := (List.getElem?_eq_some_iff.1 hl1).1
          have := HC2.out.2.1 j (by rw [HUN.out, ← HLN.out]; exact hjl)
          rw [show N.getD j [] = l by simp [List.getD, hl1]] at this
          rw [Nat.zero_add, hBr.cell]
          exact this
        have hmm : ((N.map tx)).map (·.data.toList) = N := by rw [List.map_map]; exact List.map_id'' (fun l => tx_list l) _
        have hln : (N.map tx).length = k := by rw [List.length_map, HLN.out, HUN.out]
        have HJN := Tryz.strings_Join g 0 cap (N.map tx) ⟨#[44, 32]⟩ w5 hcells hgr (by rw [hln]; omega) (by rw [hln]; exact hnc) (by
          rw [hmm]
          have := HJL.out
          rw [List.take_length] at this
          show (jn N [44, 32]).length ≤ _
          omega)
        rw [hmm, hln] at HJN
        have HJ := Lib.hid HJN
        clear HJN hmm hln hcells hBr hBW
        go_wp2_with fail
        refine HJ.out.mono ?_
        rintro e w2 ⟨rfl, hx2⟩
        have hx2' : Ext w5 w2 := hx2
        go_wp2
        go_ret2
        exact ⟨rfl, hxr.trans (by (repeat (first | with_reducible exact Ext.refl _ | with_reducible assumption | ((with_reducible apply Src.ext); with_reducible assumption) | with_reducible refine Ext.alloc ?_ _ | with_reducible refine Ext.drew ?_ | with_reducible refine Ext.drewN ?_ _ | ((with_reducible refine Ext.setCell' ?_ ?_ _); solve | omega | simp | (simp; omega)) | (with_reducible refine Ext.trans ?_ (by with_reducible assumption)))))⟩
  · have hR : slR (psD ps) L x ls y = [] := by unfold slR; rw [if_neg hz]
    rw [hR]
    generalize slC (psD ps) L x ls y = cd at *
    have hcd : (cd != 0) = true := by simpa using hz
    generalize lgB ls = q at *
    clear h h9 hr hs hm hx hR
    generalize tx x = sx at *
    go_enter Tryz.func38, Tryz.ntmps38
    go_wp2
    (refine wp_region_ext (by kernel_rfl) (by kernel_rfl) ?_; (repeat (go_big_quiet_step ((first | (go_at_call 78; exact Calls_ext (HW.out _ (Ext.trans (by (repeat (first | with_reducible exact Ext.refl _ | with_reducible assumption | ((with_reducible apply Src.ext); with_reducible assumption) | with_reducible refine Ext.alloc ?_ _ | with_reducible refine Ext.drew ?_ | with_reducible refine Ext.drewN ?_ _ | ((with_reducible refine Ext.setCell' ?_ ?_ _); solve | omega | simp | (simp; omega)) | (with_reducible refine Ext.trans ?_ (by with_reducible assumption))))) (ExtOf.ext _)))) | (go_at_call 67; exact Calls_ext (HC.out _ (Ext.trans (by (repeat (first | with_reducible exact Ext.refl _ | with_reducible assumption | ((with_reducible apply Src.ext); with_reducible assumption) | with_reducible refine Ext.alloc ?_ _ | with_reducible refine Ext.drew ?_ | with_reducible refine Ext.drewN ?_ _ | ((with_reducible refine Ext.setCell' ?_ ?_ _); solve | omega | simp | (simp; omega)) | (with_reducible refine Ext.trans ?_ (by with_reducible assumption))))) (ExtOf.ext _)))))))); refine wpQuiet_nil ?_; intro wq hxwq; obtain ⟨hcwq, hfwq⟩ := hxwq.rules; have hswq := hxwq.size; (try simp at hswq))
    go_wp2
    go_ret2
    exact ⟨rfl, by (repeat (first | with_reducible exact Ext.refl _ | with_reducible assumption | ((with_reducible apply Src.ext); with_reducible assumption) | with_reducible refine Ext.alloc ?_ _ | with_reducible refine Ext.drew ?_ | with_reducible refine Ext.drewN ?_ _ | ((with_reducible refine Ext.setCell' ?_ ?_ _); solve | omega | simp | (simp; omega)) | (with_reducible refine Ext.trans ?_ (by with_reducible assumption))))⟩
end

end Go.Proofs.YtapfokfbdmcokaaGreatDoor
