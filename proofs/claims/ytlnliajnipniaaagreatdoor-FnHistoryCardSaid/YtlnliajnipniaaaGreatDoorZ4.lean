/- The names of a way up: no program in sight, but for names of places. The names of a way up, as the program tells them. The names of a way up, as the specification tells them. -/
import Derived.Test.YtlnliajnipniaaaGreatDoorZ6
import Derived.Test.YtlnliajnipniaaaGreatDoorY9
namespace Go.Proofs.YtlnliajnipniaaaGreatDoor
open Go.RowKit
attribute [local go_sem] ExtOf.cell ExtOf.frozen
noncomputable def slC (D : List Pd) (L : List Lk) (x : List UInt8) (ls : List (List UInt8)) (y : Int) : Int := ssC D L x (lgB ls) y
def slO (D : List Pd) (ls : List (List UInt8)) (y : Int) (z : List UInt8) : List UInt8 := nmO ((fndP D z).getD pdD) ls y
def slN (D : List Pd) (L : List Lk) (x : List UInt8) (ls : List (List UInt8)) (y : Int) : List (List UInt8) := (wayU L x y).1.map (slO D ls y)
noncomputable def slR (D : List Pd) (L : List Lk) (x : List UInt8) (ls : List (List UInt8)) (y : Int) : List UInt8 := if slC D L x ls y = 0 then jn (slN D L x ls y) [44, 32] else []
theorem slN_len (D : List Pd) (L : List Lk) (x : List UInt8) (ls : List (List UInt8)) (y : Int) : (slN D L x ls y).length = (wayU L x y).1.length := List.length_map ..
theorem slN_at {D : List Pd} {L : List Lk} {x : List UInt8} {ls : List (List UInt8)} {y : Int} {k : Nat} (hk : k < (wayU L x y).1.length) : (slN D L x ls y).getD k [] = slO D ls y ((wayU L x y).1.getD k []) := by
 simp [slN, List.getD, hk]
theorem ssC_false {D : List Pd} {L : List Lk} {x : List UInt8} {y : Int} : ssC D L x false y = 1 := by
 have h : wyC D L (smL x 1 16 && false) [y] = 1 := wyC_no (Bool.and_false _)
 have e : plC D L x false y = 1 := by rw [plC_ne (by rw [h]; omega), h]
 rw [ssC_ne (by omega), e]
def MixS (N U : List (List UInt8)) (k sz : Nat) (cs : Array Value) : Prop := cs.size = sz ∧ (∀ q, q < k → cs[q]? = some (.string (tx (N.getD q [])))) ∧ ∀ q, k ≤ q → q < U.length → cs[q]? = some (.string (tx (U.getD q [])))
theorem MixS.start {N U : List (List UInt8)} {sz : Nat} {cs : Array Value} (hz : cs.size = sz) (h : cs.toList.take (U.length * 1) = U.flatMap encS) : MixS N U 0 sz cs := by
 refine ⟨hz, fun q hq => absurd hq (by omega), fun q _ hq => ?_⟩
 have hg : U[q]? = some (U.getD q []) := by simp [List.getD, hq]
 have h0 := flatMap_at (enc := encS) (sz := 1) len_encS U q _ 0 _ hg rfl
 rw [Nat.mul_one, Nat.add_zero, ← h, Nat.mul_one, List.getElem?_take_of_lt hq, Array.getElem?_toList] at h0
 exact h0
theorem MixS.step {N U : List (List UInt8)} {k sz : Nat} {cs : Array Value} (h : MixS N U k sz cs) (hs : k < sz) {s : ByteArray} (e : s = tx (N.getD k [])) : MixS N U (k + 1) sz (cs.setIfInBounds k (.string s)) := by
 have hz := h.1
 refine ⟨by simpa using h.1, fun q hq => ?_, fun q h1 h2 => ?_⟩
 ·by_cases e2 : q = k
  ·subst e2
   rw [Array.getElem?_setIfInBounds_self_of_lt (by omega), e]
  ·rw [Array.getElem?_setIfInBounds_ne (by omega)]
   exact h.2.1 q (by omega)
 ·rw [Array.getElem?_setIfInBounds_ne (by omega)]
  exact h.2.2 q (by omega) h2
section
variable {w : World} {A A' A9 : Option Addr} {n c m c' r c9 : Nat} {ps : List Pl} {L : List Lk} {ls : List (List UInt8)}
theorem IsP.name {d : Pd} {v : Value} (hP : IsP w d v) (h' : SlAt w 1 encS A9 ls) (hr : r = ls.length) (hr9 : r ≤ 1048576) (y : Int) :
  Calls Tryz.prog 47 #[v, .slice A9 r c9, .int .i64 y] w fun e w' => e = .returned (.string (tx (nmO d ls y))) ∧ Ext w w' := by
 obtain ⟨p, g1, rfl, g3, rfl⟩ := hP
 exact i_nameOf p A9 r c9 ls y w g1 h' hr hr9
theorem IsP.nameLen {d : Pd} {v : Value} (hP : IsP w d v) (y : Int) : (nmO d ls y).length ≤ 1048576 := by
 obtain ⟨p, g1, rfl, g3, rfl⟩ := hP
 rcases bsG_cases (ns := p.2.2.2.2.2.2) (y := y) ls with hc | ⟨i, hc, hi⟩
 ·rw [nmO_no (d := pdOf p) (show bsN (pdOf p) ls y = -1 from hc)]
  exact g1.2.2.1
 ·rw [nmO_at (d := pdOf p) (show bsN (pdOf p) ls y = i from hc)]
  exact (g1.2.2.2.2 i).1
theorem isP_fnd (h : WIn w A A' n c m c' ps L) (hw : wdB (psD ps) L = true) {z : List UInt8} (hf : (fndP (psD ps) z).isSome = true) : ∃ v, IsP w ((fndP (psD ps) z).getD pdD) v := by
 obtain ⟨k, hk1, hk2, hk3, hk4⟩ := fnd_some hf
 rw [psD_len] at hk2
 rw [psD_at hk2] at hk3
 refine ⟨plV (ps.getD k plD), ?_⟩
 rw [hk3]
 exact isP_at h hw hk2
theorem slN_small (h : WIn w A A' n c m c' ps L) (hw : wdB (psD ps) L = true) {x : List UInt8} (hx : (fndP (psD ps) x).isSome = true) {y : Int} : ∀ z ∈ slN (psD ps) L x ls y, z.length ≤ 1048576 := by
 intro z hz
 unfold slN at hz
 rw [List.mem_map] at hz
 obtain ⟨u, hu, rfl⟩ := hz
 obtain ⟨v, hv⟩ := isP_fnd h hw (wdB_way hw hx hu)
 exact hv.nameLen y
theorem slN_join (h : WIn w A A' n c m c' ps L) (hw : wdB (psD ps) L = true) {x : List UInt8} (hx : (fndP (psD ps) x).isSome = true) {y : Int} (k : Nat) : (jn ((slN (psD ps) L x ls y).take k) [44, 32]).length ≤ 22020138 := by
 have h1 := jn_len (sep := [44, 32]) (m := 1048576) (L := (slN (psD ps) L x ls y).take k) (fun z hz => slN_small h hw hx z (List.mem_of_mem_take hz))
 have h2 : ((slN (psD ps) L x ls y).take k).length ≤ 21 := by
  rw [List.length_take, slN_len]
  obtain ⟨_, _, h3⟩ := wayU_ne L x y
  have h4 := lks20 (wdB_iff.1 hw).2.1
  omega
 have h3 := Nat.mul_le_mul_left (([44, 32] : List UInt8).length + 1048576) h2
 have h4 : ([44, 32] : List UInt8).length = 2 := rfl
 rw [h4] at h1 h3
 omega
end
section
variable {w : World} {A A' A9 : Option Addr} {n c m c' r c9 : Nat} {ps : List Pl} {L : List Lk} {ls : List (List UInt8)}
set_option maxRecDepth 20000 in
set_option maxHeartbeats 25600000 in
theorem i_StateLineW (x : List UInt8) (y : Int) (h : WIn w A A' n c m c' ps L) (h9 : SlAt w 1 encS A9 ls) (hr : r = ls.length) (hr9 : r ≤ 1048576) (hs : ∀ s ∈ ls, s.length ≤ 1048576) (hx : x.length ≤ 1048576) (hm : Mx w) :
  Calls Tryz.prog 15 #[.agg #[.slice A n c, .slice A' m c'], .string (tx x), .slice A9 r c9, .int .i64 y] w fun e w' => e = .returned (.tuple #[.string (tx (slR (psD ps) L x ls y)), .int .i64 (slC (psD ps) L x ls y)]) ∧ Ext w w' := by
 have HW := hI (fun W (hW : Ext w W) => i_areLanguages A9 r c9 ls W (h9.ext hW) hr hr9 hs)
 have HC : Hid (∀ W, Ext w W → Calls Tryz.prog 30 #[.agg #[.slice A n c, .slice A' m c'], .string (tx x), .bool (lgB ls), .int .i64 y] W fun e w' => e = .returned (.int .i64 (slC (psD ps) L x ls y)) ∧ Ext W w') := hI (fun W hW => i_placeCode (w := W) x y (lgB ls) (h.ext hW) hx (hm.ext hW))
 by_cases hz : slC (psD ps) L x ls y = 0
 ·obtain ⟨hp, he⟩ := ssC_zero hz
  obtain ⟨hw, hj1, hj2, hj3, hf⟩ := plC_zero hp
  clear hj1 hj2 hj3
  have hlm : m ≤ 1048576 := by rw [h.hm]; exact h.hl'
  have HU := hI (fun W (hW : Ext w W) => i_wayUp A' m c' L x y W (h.sk.ext hW) h.hm hlm)
  have HPW := hI (fun z (hz : z ∈ (wayU L x y).1) W (hW : Ext w W) => i_placeP (w := W) z (h.ext hW) hw (wdB_way hw hf hz))
  have HNA := hI (fun W (hW : Ext w W) d v (hP : IsP W d v) => hP.name (c9 := c9) (h9.ext hW) hr hr9 y)
  have HJL := hI (slN_join (ls := ls) (y := y) h hw hf (slN (psD ps) L x ls y).length)
  have hun : 0 < (wayU L x y).1.length := by obtain ⟨_, _, h3, _⟩ := wayU_last L x y; exact h3
  have hul : (wayU L x y).1.length ≤ 21 := by
   obtain ⟨_, _, h3⟩ := wayU_ne L x y
   have h4 := lks20 (wdB_iff.1 hw).2.1
   omega
  have HUP := hI (And.intro hun hul)
  clear hun hul
  have HRR : Hid (slR (psD ps) L x ls y = jn (slN (psD ps) L x ls y) [44, 32]) := hI (by unfold slR; rw [if_pos hz])
  have HAT := hI (fun k (hk : k < (wayU L x y).1.length) => slN_at (D := psD ps) (ls := ls) hk)
  have HLN := hI (slN_len (psD ps) L x ls y)
  rw [HRR.out]
  rw [hz] at HC ⊢
  generalize slN (psD ps) L x ls y = N at *
  generalize (wayU L x y).1 = U at *
  have HFO : Hid (∀ z, slO (psD ps) ls y z = nmO ((fndP (psD ps) z).getD pdD) ls y) := hI (fun z => rfl)
  generalize slO (psD ps) ls y = fO at *
  generalize lgB ls = q at *
  clear hz hp he hw hf h h9 hr hs hm hlm hx HRR
  generalize tx x = sx at *
  go_enter Tryz.func15, Tryz.ntmps15
  go_wp2
  (refine wp_region_ext (by kernel_rfl) (by kernel_rfl) ?_; (repeat (go_big_quiet_step ((first | (go_at_call 45; exact Calls_ext (HW.out _ (Ext.trans (xA xR) (ExtOf.ext _)))) | (go_at_call 30; exact Calls_ext (HC.out _ (Ext.trans (xA xR) (ExtOf.ext _)))))))); refine wpQuiet_nil ?_; intro wq hxwq; obtain ⟨hcwq, hfwq, hswq⟩ := hxwq.all; (try simp at hswq))
  have B3 : Blk wq w.heap.size 27 #[.slice A n c, .slice A' m c'] := Blk.eq (bE hxwq (bN (by omega))) (by rfl)
  have hX : Ext w wq := by clear B3; exact xT (xA xR) hxwq
  have HX := hI hX
  have HB3 := hI B3
  have z3 := B3.lt
  have t0 : wq.cell? ⟨w.heap.size, 0, none⟩ = some (.slice A n c) := B3.cell 0
  have t1 : wq.cell? ⟨w.heap.size, 1, none⟩ = some (.slice A' m c') := B3.cell 1
  clear B3 hX hxwq hcwq hfwq
  go_wp2_with fail
  refine (HU.out _ (HX.out.trans xR)).mono ?_
  rintro e w1 ⟨v, rfl, hO, hx1⟩
  obtain ⟨hun, hul⟩ := HUP.out
  obtain ⟨g, cap, cur, rfl, hb, hB, hnc, hmc, hsz, htk⟩ := hO.open_ hun
  have HM := hI (MixS.start (N := N) rfl htk)
  rw [Nat.mul_one] at hsz
  have HSZ := hI hsz
  clear hsz htk
  have hX1 : Ext w w1 := HX.out.trans hx1
  have HX1 := hI hX1
  have hB3 : Blk w1 w.heap.size 27 #[.slice A n c, .slice A' m c'] := HB3.out.ext hx1
  have hsq := hx1.size
  have hsw := HX.out.size
  obtain ⟨un, hune⟩ : ∃ un, un = U.length := ⟨_, rfl⟩
  have HUN := hI hune
  rw [← hune] at hnc hul hun ⊢
  clear hO hx1 hX1 t0 t1 hune
  go_wp2
  go_loopw [30] (fun i wr => ∃ (k : Nat) (cs : Array Value), k ≤ un ∧ i = .int .i64 k ∧ Blk wr g 9 cs ∧ Hid (MixS N U k cur.size cs) ∧ Blk wr w.heap.size 27 #[.slice A n c, .slice A' m c'] ∧ Ext w wr ∧ w1.heap.size ≤ wr.heap.size) (fun i _ => un - (intOf i).toNat)
  case atStart => exact ⟨0, cur, by omega, rfl, hB, HM, hB3, by exact HX1.out, Nat.le_refl _⟩
  case round =>
   clear hB hB3
   obtain ⟨k, cs, hk, rfl, hBr, HC2, hBW, hxr, hsr⟩ := hrel
   obtain ⟨w5, rfl⟩ : ∃ x, x = wr := ⟨wr, rfl⟩
   have hgr := hBr.lt
   have zw := hBW.lt
   have t0 : w5.cell? ⟨w.heap.size, 0, none⟩ = some (.slice A n c) := hBW.cell 0
   have t1 : w5.cell? ⟨w.heap.size, 1, none⟩ = some (.slice A' m c') := hBW.cell 1
   have HBR := hI hBr
   have HBW := hI hBW
   by_cases hlt : k < un
   ·have hkU : k < U.length := by rw [← HUN.out]; exact hlt
    have hu0 := HC2.out.2.2 k (Nat.le_refl _) hkU
    rw [← hBr.cell] at hu0
    have HPC := hI (HPW.out (U.getD k []) (by simp [List.getD, hkU]))
    have HATk := hI (HAT.out k hkU)
    have HST := hI (fun (s : ByteArray) (e : s = tx (N.getD k [])) => HC2.out.step (by have := HSZ.out; omega) e)
    have hHF : Hid (∀ d, d = (fndP (psD ps) (U.getD k [])).getD pdD → ∀ s, s = tx (nmO d ls y) → MixS N U (k + 1) cur.size (cs.setIfInBounds k (.string s))) := hI (fun d hd s hss => HST.out s (by rw [HATk.out, hss, hd, ← HFO.out]))
    generalize (fndP (psD ps) (U.getD k [])).getD pdD = d at *
    generalize tx (U.getD k []) = su at *
    clear hBr hBW hkU
    go_wp2_with fail
    refine (HPC.out _ (hxr.trans xR)).mono ?_
    rintro e w6 ⟨s0, s1, s2, s3, s4, s5, s6, HI, rfl, hx6⟩
    have HI6 := hI (HI.out.ext hx6)
    clear HI
    go_wp2_with fail
    refine (HNA.out _ ((hxr.trans hx6).trans xR) _ _ (HI6.out.ext xR)).mono ?_
    rintro e w7 ⟨rfl, hx7⟩
    have hBr : Blk w7 g 9 cs := HBR.out.ext (hx6.trans hx7)
    have hBW : Blk w7 w.heap.size 27 #[.slice A n c, .slice A' m c'] := HBW.out.ext (hx6.trans hx7)
    have hu7 : w7.cell? ⟨g, k, none⟩ = some (.string su) := ((hx6.trans hx7).cell g k hgr).trans hu0
    have f7 := hBr.frozen k
    have z7 := hBr.lt
    have hs6 := hx6.size
    have hs7 := hx7.size
    have HSM := hI (hHF.out _ rfl _ rfl)
    generalize tx (nmO d ls y) = sn at *
    go_wp2
    go_roundw
    case rel => exact ⟨k + 1, _, by omega, by go_num, Blk.eq (bS hBr) (by rfl), HSM, bF (by omega) hBW, xC (by omega) (xT (xT hxr hx6) hx7), by simp; omega⟩
    case measure => simp [intOf]; omega
   ·obtain rfl : k = un := by omega
    have hcells : ∀ j x, (N.map tx)[j]? = some x → w5.cell? ⟨g, 0 + j, none⟩ = some (.string x) := fun j x hj => by
     rw [List.getElem?_map] at hj
     obtain ⟨l, hl1, rfl⟩ := Option.map_eq_some_iff.1 hj
     have hjl : j < N.length := (List.getElem?_eq_some_iff.1 hl1).1
     have := HC2.out.2.1 j (by rw [HUN.out, ← HLN.out]; exact hjl)
     rw [show N.getD j [] = l by simp [List.getD, hl1]] at this
     rw [Nat.zero_add, hBr.cell]
     exact this
    have hmm : ((N.map tx)).map (·.data.toList) = N := by rw [List.map_map]; exact List.map_id'' (fun l => tx_list l) _
    have hln : (N.map tx).length = k := by rw [List.length_map, HLN.out, HUN.out]
    have HJN := Tryz.strings_Join g 0 cap (N.map tx) ⟨#[44, 32]⟩ w5 hcells hgr (by rw [hln]; omega) (by rw [hln]; exact hnc) (by
     rw [hmm]
     have := HJL.out
     rw [List.take_length] at this
     show (jn N [44, 32]).length ≤ _
     omega)
    rw [hmm, hln] at HJN
    have HJ := hI HJN
    clear HJN hmm hln hcells hBr hBW
    go_wp2_with fail
    refine HJ.out.mono ?_
    rintro e w2 ⟨rfl, hx2⟩
    have hx2' : Ext w5 w2 := hx2
    go_wp2
    go_ret2
    exact ⟨rfl, hxr.trans hx2'⟩
 ·have hR : slR (psD ps) L x ls y = [] := by unfold slR; rw [if_neg hz]
  rw [hR]
  generalize slC (psD ps) L x ls y = cd at *
  have hcd : (cd != 0) = true := by simpa using hz
  generalize lgB ls = q at *
  clear h h9 hr hs hm hx hR
  generalize tx x = sx at *
  go_enter Tryz.func15, Tryz.ntmps15
  go_wp2
  (refine wp_region_ext (by kernel_rfl) (by kernel_rfl) ?_; (repeat (go_big_quiet_step ((first | (go_at_call 45; exact Calls_ext (HW.out _ (Ext.trans (xA xR) (ExtOf.ext _)))) | (go_at_call 30; exact Calls_ext (HC.out _ (Ext.trans (xA xR) (ExtOf.ext _)))))))); refine wpQuiet_nil ?_; intro wq hxwq; obtain ⟨hcwq, hfwq, hswq⟩ := hxwq.all; (try simp at hswq))
  go_wp2
  go_ret2
  exact ⟨rfl, xT (xA xR) hxwq⟩
end
section
variable {w : World} {A A' A9 : Option Addr} {n c m c' r c9 : Nat} {ps : List Pl} {L : List Lk} {ls : List (List UInt8)}
set_option maxRecDepth 20000 in
set_option maxHeartbeats 25600000 in
theorem s_StateLineW (x : List UInt8) (y : Int) (h : WIn w A A' n c m c' ps L) (h9 : SlAt w 1 encS A9 ls) (hr : r = ls.length) (hr9 : r ≤ 1048576) (hs9 : ∀ s ∈ ls, s.length ≤ 1048576) (hx : x.length ≤ 1048576) :
  Calls Tryz.prog 16 #[.agg #[.slice A n c, .slice A' m c'], .string (tx x), .slice A9 r c9, .int .i64 y] w fun e w' => e = .returned (.tuple #[.string (tx (slR (psD ps) L x ls y)), .int .i64 (slC (psD ps) L x ls y)]) ∧ Ext w w' := by
 have HG := hI (fun W (hW : Ext w W) => s_l14Languages A9 r c9 ls W (h9.ext hW) hr hr9 hs9)
 have HC := hI (fun W (hW : Ext w W) => s_l14Code x y (h.ext hW) hx)
 have hno : ¬ slC (psD ps) L x ls y = 0 → slR (psD ps) L x ls y = [] := fun q => by unfold slR; rw [if_neg q]
 have hyes : slC (psD ps) L x ls y = 0 → slR (psD ps) L x ls y = jn (slN (psD ps) L x ls y) [44, 32] := fun q => by unfold slR; rw [if_pos q]
 cases hlg : lgB ls with
 | false =>
  have e : slC (psD ps) L x ls y = 1 := by unfold slC; rw [hlg]; exact ssC_false
  rw [hno (by omega), e]
  rw [hlg] at HG
  clear h h9 hr hs9 hx hno hyes hlg e HC
  generalize tx x = sx at *
  go_enter Tryz.func16, Tryz.ntmps16
  go_wp2_with fail
  refine (HG.out _ (xA xR)).mono ?_
  rintro e w1 ⟨rfl, hx1⟩
  obtain ⟨hc1, hf1⟩ := hx1.rules
  have hs1 := hx1.size
  (try simp at hs1)
  have := (show w.heap.size < w1.heap.size from by omega)
  go_wp2
  (refine wp_region_ext (by kernel_rfl) (by kernel_rfl) ?_; (repeat (go_big_quiet_step (fail))); refine wpQuiet_nil ?_; intro wq hxwq; obtain ⟨hcwq, hfwq, hswq⟩ := hxwq.all; (try simp at hswq))
  go_wp2
  go_ret2
  exact ⟨rfl, xT (xT (xA xR) hx1) hxwq⟩
 | true =>
  rw [hlg] at HG
  have hsl : slC (psD ps) L x ls y = ssC (psD ps) L x true y := by unfold slC; rw [hlg]
  by_cases hp : plC (psD ps) L x true y = 0
  ·obtain ⟨hw, hxw, _, _, hs⟩ := plC_zero hp
   have hxne : x ≠ [] := fun e => by rw [e] at hxw; exact absurd hxw (by decide)
   rw [hp] at HC
   have hsy : exB ((fndP (psD ps) x).getD pdD) y = true → slC (psD ps) L x ls y = 0 := fun q => hsl.trans (ssC_yes hp q)
   have hsn : exB ((fndP (psD ps) x).getD pdD) y = false → slC (psD ps) L x ls y = 5 := fun q => hsl.trans (ssC_no hp q)
   have hLK := lksB_iff.1 (wdB_iff.1 hw).2.1
   have hlm0 : m ≤ 1048576 := by rw [h.hm]; exact h.hl'
   have HWY : Hid (∀ W, Ext w W → Calls Tryz.prog 50 #[.slice A' m c', .string (tx x), .int .i64 y] W fun e w' => ∃ v, e = .returned (.tuple #[v, .bool true]) ∧ OwS w' W.heap.size v (wayU L x y).1 ∧ Ext W w') := hI (fun W hW => (s_l12Way A' m c' L x y W (h.sk.ext hW) h.hm hlm0 (LkP.told hLK.1.1) hxne).mono (by
    rintro e w' ⟨hWR, hx⟩
    rcases hWR with ⟨q, _⟩ | ⟨_, v, q1, q2⟩
    ·rw [hLK.way x y] at q; cases q
    ·exact ⟨v, q1, q2, hx⟩))
   have HNM := hI (fun z (hz : z ∈ (wayU L x y).1) W (hW : Ext w W) => s_l14Name (c9 := c9) z y (h.ext hW) hw (wdB_way hw hs hz) (h9.ext hW) hr hr9)
   have HJL := hI (fun k => slN_join (ls := ls) (y := y) h hw hs k)
   have HSM := hI (slN_small (ls := ls) (y := y) h hw hs)
   have hul : (wayU L x y).1.length ≤ 21 := by
    obtain ⟨_, _, h3⟩ := wayU_ne L x y
    have h4 := lks20 (wdB_iff.1 hw).2.1
    omega
   have HAT := hI (fun k (hk : k < (wayU L x y).1.length) => slN_at (D := psD ps) (ls := ls) hk)
   have HLN := hI (slN_len (psD ps) L x ls y)
   clear hsl hp hLK hxw hxne hlm0
   obtain ⟨k, hk1, hk2, hk3, hk4⟩ := fnd_some hs
   rw [psD_len] at hk2
   rw [psD_at hk2] at hk3
   have hln : n ≤ 1048576 := by rw [h.hn]; exact h.hl
   have HF := hI (fun W (hW : Ext w W) => s_l11Find A n c ps x W (h.sq.ext hW) h.hn hln)
   rw [hk1] at HF
   have hgd : (fndP (psD ps) x).getD pdD = pdOf (ps.getD k plD) := by rw [hk3]; rfl
   have HI0 : IsP w (pdOf (ps.getD k plD)) (.agg #[.string (tx (ps.getD k plD).1), .int .i64 (ps.getD k plD).2.1, .int .i64 (ps.getD k plD).2.2.1, .int .i64 (ps.getD k plD).2.2.2.1, .slice (ps.getD k plD).2.2.2.2.1 (ps.getD k plD).2.2.2.2.2.2.length (ps.getD k plD).2.2.2.2.2.1]) := isP_at h hw hk2
   obtain ⟨bb, off, hA, hb, d0, d1, d2, d3, d4⟩ := h.sq.pl hk2
   subst hA
   have hkn : k < n := by rw [h.hn]; exact hk2
   have hk0 : (0 : Int) ≤ (k : Int) := by omega
   have hlm : m ≤ 1048576 := by rw [h.hm]; exact h.hl'
   rw [hgd] at hsy hsn
   have HSK := hI h.sk
   have HHM := hI h.hm
   clear hk1 hk3 hk4 hgd hk2
   generalize pdOf (ps.getD k plD) = d at *
   generalize tx (ps.getD k plD).1 = s0 at *
   generalize (ps.getD k plD).2.1 = s1 at *
   generalize (ps.getD k plD).2.2.1 = s2 at *
   generalize (ps.getD k plD).2.2.2.1 = s3 at *
   generalize (ps.getD k plD).2.2.2.2.1 = s4 at *
   generalize (ps.getD k plD).2.2.2.2.2.2.length = s5 at *
   generalize (ps.getD k plD).2.2.2.2.2.1 = s6 at *
   have HX := hI (fun z W => HI0.ex z W)
   have HKR : Hid (∀ W, Ext w W → W.cell? ⟨bb, off + k * 5, none⟩ = some (.string s0) ∧ W.cell? ⟨bb, off + k * 5 + 1, none⟩ = some (.int .i64 s1) ∧ W.cell? ⟨bb, off + k * 5 + 2, none⟩ = some (.int .i64 s2) ∧ W.cell? ⟨bb, off + k * 5 + 3, none⟩ = some (.int .i64 s3) ∧ W.cell? ⟨bb, off + k * 5 + 4, none⟩ = some (.slice s4 s5 s6)) := hI (fun W hW => ⟨(hW.cell _ _ hb).trans d0, (hW.cell _ _ hb).trans d1, (hW.cell _ _ hb).trans d2, (hW.cell _ _ hb).trans d3, (hW.cell _ _ hb).trans d4⟩)
   have HI := hI HI0
   obtain ⟨e2, e3, e9⟩ := HI0.yrs
   have HE2 := hI e2
   have HE3 := hI e3
   clear d0 d1 d2 d3 d4 HI0 e9 e2 e3
   generalize hcz : slC (psD ps) L x ls y = rC at *
   generalize slR (psD ps) L x ls y = rR at *
   generalize tx x = sx at *
   clear hcz
   cases he : exB d y with
   | false =>
    have hc5 := hsn he
    rw [hno (by omega), hc5]
    have HXY := hI (fun W => HX.out y W)
    rw [he] at HXY
    clear hsy hsn hno hyes he hc5 h h9 hr hs9 hx hw hs
    go_enter Tryz.func16, Tryz.ntmps16
    go_wp2_with fail
    refine (HG.out _ (xA xR)).mono ?_
    rintro e w1 ⟨rfl, hx1⟩
    obtain ⟨hc1, hf1⟩ := hx1.rules
    have hs1 := hx1.size
    (try simp at hs1)
    have := (show w.heap.size < w1.heap.size from by omega)
    go_wp2_with fail
    refine (HC.out _ (xT (xA xR) hx1)).mono ?_
    rintro e w2 ⟨rfl, hx2⟩
    obtain ⟨hc2, hf2⟩ := hx2.rules
    have hs2 := hx2.size
    (try simp at hs2)
    have := (show w.heap.size < w2.heap.size from by omega)
    obtain ⟨k1, k2, k3, k4, k5⟩ := HKR.out w2 (xT (xT (xA xR) hx1) hx2)
    have := (show bb < w2.heap.size from by omega)
    go_wp2
    (refine wp_region_ext (by kernel_rfl) (by kernel_rfl) ?_; (repeat (go_big_quiet_step ((first | (go_at_call 27; exact Calls_same (HF.out _ (Ext.trans (xT (xT (xA xR) hx1) hx2) (ExtOf.ext _)))) | (go_at_call 31; exact Calls_ext (HXY.out _)))))); refine wpQuiet_nil ?_; intro wq hxwq; obtain ⟨hcwq, hfwq, hswq⟩ := hxwq.all; (try simp at hswq))
    go_wp2
    go_ret2
    exact ⟨rfl, xT (xT (xT (xA xR) hx1) hx2) hxwq⟩
   | true =>
    have hc0 := hsy he
    rw [hyes hc0, hc0]
    have HXY := hI (fun W => HX.out y W)
    rw [he] at HXY
    have HFO : Hid (∀ z, slO (psD ps) ls y z = nmO ((fndP (psD ps) z).getD pdD) ls y) := hI (fun z => rfl)
    generalize slN (psD ps) L x ls y = N at *
    generalize (wayU L x y).1 = UU at *
    generalize slO (psD ps) ls y = fO at *
    clear hsy hsn hno hyes he hc0 h h9 hr hs9 hx hw hs
    go_enter Tryz.func16, Tryz.ntmps16
    go_wp2_with fail
    refine (HG.out _ (xA xR)).mono ?_
    rintro e w1 ⟨rfl, hx1⟩
    obtain ⟨hc1, hf1⟩ := hx1.rules
    have hs1 := hx1.size
    (try simp at hs1)
    have := (show w.heap.size < w1.heap.size from by omega)
    go_wp2_with fail
    refine (HC.out _ (xT (xA xR) hx1)).mono ?_
    rintro e w2 ⟨rfl, hx2⟩
    obtain ⟨hc2, hf2⟩ := hx2.rules
    have hs2 := hx2.size
    (try simp at hs2)
    have := (show w.heap.size < w2.heap.size from by omega)
    obtain ⟨k1, k2, k3, k4, k5⟩ := HKR.out w2 (xT (xT (xA xR) hx1) hx2)
    have := (show bb < w2.heap.size from by omega)
    go_wp2
    (refine wp_region_ext (by kernel_rfl) (by kernel_rfl) ?_; (repeat (go_big_quiet_step ((first | (go_at_call 27; exact Calls_same (HF.out _ (Ext.trans (xT (xT (xA xR) hx1) hx2) (ExtOf.ext _)))) | (go_at_call 31; exact Calls_ext (HXY.out _)))))); refine wpQuiet_nil ?_; intro wq hxwq; obtain ⟨hcwq, hfwq, hswq⟩ := hxwq.all; (try simp at hswq))
    have B3 : Blk wq w.heap.size 27 #[.slice (some ⟨bb, off, none⟩) n c, .slice A' m c'] := Blk.eq (bE hxwq (bE hx2 (bE hx1 (bN (by omega))))) (by rfl)
    have hX : Ext w wq := by clear B3; exact xT (xT (xT (xA xR) hx1) hx2) hxwq
    have HX9 := hI hX
    have HB3 := hI B3
    have z3 := B3.lt
    have t0 : wq.cell? ⟨w.heap.size, 0, none⟩ = some (.slice (some ⟨bb, off, none⟩) n c) := B3.cell 0
    have t1 : wq.cell? ⟨w.heap.size, 1, none⟩ = some (.slice A' m c') := B3.cell 1
    clear B3 hX hxwq hcwq hfwq k1 k2 k3 k4 k5 hc1 hf1 hc2 hf2
    go_wp2_with fail
    refine (HWY.out _ (HX9.out.trans xR)).mono ?_
    rintro e w3 ⟨v, rfl, hO, hx3⟩
    obtain ⟨A7, c7, rfl, hS7, _⟩ := hO.sl len_encS
    have HS7 := hI hS7
    have HB33 : Hid (Blk w3 w.heap.size 27 #[.slice (some ⟨bb, off, none⟩) n c, .slice A' m c']) := hI (HB3.out.ext hx3)
    have HX3 : Hid (Ext w w3) := hI (HX9.out.trans hx3)
    obtain ⟨un, hune⟩ : ∃ un, un = UU.length := ⟨_, rfl⟩
    have HUN := hI hune
    rw [← hune] at hul ⊢
    have E0 : Hid (tx (jn (N.take 0) [44, 32]) = ⟨#[]⟩) := hI (by simp [Lib.join_nil, tx])
    have z33 := HB33.out.lt
    clear hO hS7 hx3 hune t0 t1
    go_wp2
    go_loopw [13, 14] (fun sv i wr => ∃ k : Nat, k ≤ un ∧ i = .int .i64 k ∧ sv = .string (tx (jn (N.take k) [44, 32])) ∧ Ext w3 wr) (fun _ i _ => un - (intOf i).toNat)
    case atStart => exact ⟨0, by omega, rfl, by rw [E0.out], xR⟩
    case round =>
     obtain ⟨k, hk, rfl, rfl, hxr⟩ := hrel
     obtain ⟨w5, rfl⟩ : ∃ x, x = wr := ⟨wr, rfl⟩
     by_cases hlt : k < un
     ·have hkU : k < UU.length := by rw [← HUN.out]; exact hlt
      have hkN : k < N.length := by rw [HLN.out]; exact hkU
      obtain ⟨b7, off7, hA7, hb7, d0⟩ := (HS7.out.ext hxr).st hkU
      subst hA7
      have hB5 : Blk w5 w.heap.size 27 #[.slice (some ⟨bb, off, none⟩) n c, .slice A' m c'] := HB33.out.ext hxr
      have t0 : w5.cell? ⟨w.heap.size, 0, none⟩ = some (.slice (some ⟨bb, off, none⟩) n c) := hB5.cell 0
      have t1 : w5.cell? ⟨w.heap.size, 1, none⟩ = some (.slice A' m c') := hB5.cell 1
      have z5 := hB5.lt
      have HN5 := hI (HNM.out (UU.getD k []) (by simp [List.getD, hkU]))
      have hnk : nmO ((fndP (psD ps) (UU.getD k [])).getD pdD) ls y = N.getD k [] := by rw [HAT.out k hkU, HFO.out]
      rw [hnk] at HN5
      have hj := jn_take hkN [44, 32]
      have h1 := HJL.out k
      have h2 := HSM.out (N.getD k []) (by simp [List.getD, hkN])
      have HXX := hI (HX3.out.trans hxr)
      clear hnk hB5 hkU hkN
      generalize tx (UU.getD k []) = su at *
      by_cases hz0 : k = 0
      ·rw [if_pos hz0] at hj
       subst hz0
       rw [Nat.add_zero] at d0
       have HJ := hI hj
       generalize N.getD 0 [] = z at *
       have hf1 : ((tx (jn (N.take 0) [44, 32])).size + (tx z).size > 9223372036854775807) = False := eq_false (by rw [tx_size, tx_size]; omega)
       have E1 : Hid ((tx (jn (N.take 0) [44, 32])) ++ tx z = tx z) := hI (by rw [tx_add]; simp [Lib.join_nil])
       generalize tx (jn (N.take 0) [44, 32]) = t at *
       generalize hzz : tx z = sz at *
       clear hj h1 h2
       go_wp2
       (refine wp_region_ext (by kernel_rfl) (by kernel_rfl) ?_; (repeat (go_big_quiet_step ((go_at_call 51; exact Calls_ext (HN5.out _ (HXX.out.trans (Ext.trans xR (ExtOf.ext _)))))))); refine wpQuiet_nil ?_; intro wr2 hxwr2; obtain ⟨hcwr2, hfwr2, hswr2⟩ := hxwr2.all; (try simp at hswr2))
       go_wp2
       go_roundw
       case rel => exact ⟨1, by omega, by go_num, by rw [HJ.out, hzz, E1.out], xT hxr hxwr2⟩
       case measure => simp [intOf]; omega
      ·rw [if_neg hz0] at hj
       have HJ := hI hj
       have hkp : (0 : Int) < k := by omega
       generalize N.getD k [] = z at *
       generalize jn (N.take k) [44, 32] = t at *
       have hf1 : ((tx t).size + 2 > 9223372036854775807) = False := eq_false (by rw [tx_size]; omega)
       have hf2 : ((tx t).size + 2 + (tx z).size > 9223372036854775807) = False := eq_false (by rw [tx_size, tx_size]; omega)
       have E1 : Hid (tx t ++ (⟨#[44, 32]⟩ : ByteArray) ++ tx z = tx (t ++ [44, 32] ++ z)) := hI (by rw [show (⟨#[44, 32]⟩ : ByteArray) = tx [44, 32] from rfl, tx_add, tx_add])
       generalize tx z = sz at *
       clear hj h1 h2
       go_wp2
       (refine wp_region_ext (by kernel_rfl) (by kernel_rfl) ?_; (repeat (go_big_quiet_step ((go_at_call 51; exact Calls_ext (HN5.out _ (HXX.out.trans (Ext.trans xR (ExtOf.ext _)))))))); refine wpQuiet_nil ?_; intro wr2 hxwr2; obtain ⟨hcwr2, hfwr2, hswr2⟩ := hxwr2.all; (try simp at hswr2))
       go_wp2
       go_roundw
       case rel => exact ⟨k + 1, by omega, by go_num, by rw [HJ.out, ← E1.out], xT hxr hxwr2⟩
       case measure => simp [intOf]; omega
     ·obtain rfl : k = un := by omega
      have HE : Hid (N.take k = N) := hI (by rw [HUN.out, ← HLN.out]; exact List.take_length)
      go_wp2
      go_ret2
      rw [HE.out]
      exact ⟨rfl, HX3.out.trans hxr⟩
  ·have hz : ¬ slC (psD ps) L x ls y = 0 := fun q => hp (ssC_zero (hsl.symm.trans q)).1
   rw [hno hz, hsl, ssC_ne hp]
   generalize plC (psD ps) L x true y = cd at *
   have hcd : (cd != 0) = true := by simpa using hp
   have hce : (cd == 0) = false := by simpa using hp
   clear h h9 hr hs9 hx hno hyes hlg hsl hz
   generalize tx x = sx at *
   go_enter Tryz.func16, Tryz.ntmps16
   go_wp2_with fail
   refine (HG.out _ (xA xR)).mono ?_
   rintro e w1 ⟨rfl, hx1⟩
   obtain ⟨hc1, hf1⟩ := hx1.rules
   have hs1 := hx1.size
   (try simp at hs1)
   have := (show w.heap.size < w1.heap.size from by omega)
   go_wp2_with fail
   refine (HC.out _ (xT (xA xR) hx1)).mono ?_
   rintro e w2 ⟨rfl, hx2⟩
   obtain ⟨hc2, hf2⟩ := hx2.rules
   have hs2 := hx2.size
   (try simp at hs2)
   have := (show w.heap.size < w2.heap.size from by omega)
   go_wp2
   (refine wp_region_ext (by kernel_rfl) (by kernel_rfl) ?_; (repeat (go_big_quiet_step (fail))); refine wpQuiet_nil ?_; intro wq hxwq; obtain ⟨hcwq, hfwq, hswq⟩ := hxwq.all; (try simp at hswq))
   go_wp2
   go_ret2
   exact ⟨rfl, xT (xT (xT (xA xR) hx1) hx2) hxwq⟩
end
end Go.Proofs.YtlnliajnipniaaaGreatDoor
