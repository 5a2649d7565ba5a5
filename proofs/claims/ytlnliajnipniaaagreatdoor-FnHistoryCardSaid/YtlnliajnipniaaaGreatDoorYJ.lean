/- Codes over worlds, and years in which nothing changes, as the specification sees them. -/
import Derived.Test.YtlnliajnipniaaaGreatDoorZ1
namespace Go.Proofs.YtlnliajnipniaaaGreatDoor
open Go.RowKit
attribute [local go_sem] ExtOf.cell ExtOf.frozen
set_option maxHeartbeats 3200000 in
theorem s_l01Same (A A' : Option Addr) (n c m d : Nat) (xs ys : List Int) (w : World) (h : SlAt w 1 encI A xs) (h' : SlAt w 1 encI A' ys) (hn : n = xs.length) (hm : m = ys.length) (hl : n ≤ 1048576) (hl' : m ≤ 1048576) :
  Calls Tryz.prog 62 #[.slice A n c, .slice A' m d] w fun e w' => e = .returned (.bool (xs == ys)) ∧ Ext w w' := by
 have HN := hI hn
 have HM := hI hm
 clear hn hm
 by_cases hnm : n = m
 ·subst hnm
  have hn1 : (((n : Nat) : Int) != (n : Int)) = false := by simp
  go_enter Tryz.func62, Tryz.ntmps62
  go_wp2
  go_loopw [5] (fun i wr => ∃ k : Nat, k ≤ n ∧ i = .int .i64 k ∧ Hid (∀ j, j < k → xs.getD j 0 = ys.getD j 0) ∧ Ext w wr) (fun i _ => n - (intOf i).toNat)
  case atStart => exact ⟨0, Nat.zero_le _, rfl, hI (fun j hj => absurd hj (by omega)), xR⟩
  case round =>
   obtain ⟨k, hk, rfl, HJ, hx⟩ := hrel
   by_cases hlt : k < n
   ·have hkx : k < xs.length := by rw [← HN.out]; exact hlt
    have hky : k < ys.length := by rw [← HM.out]; exact hlt
    obtain ⟨b, off, rfl, hb, d0⟩ := (h.ext hx).it hkx
    obtain ⟨b', off', rfl, hb', d1⟩ := (h'.ext hx).it hky
    obtain ⟨x, hxx⟩ : ∃ x, x = xs.getD k 0 := ⟨_, rfl⟩
    obtain ⟨y, hyy⟩ : ∃ y, y = ys.getD k 0 := ⟨_, rfl⟩
    rw [← hxx] at d0
    rw [← hyy] at d1
    by_cases hxy : x = y
    ·have HJ2 := hI (upTo1 HJ.out (show xs.getD k 0 = ys.getD k 0 by rw [← hxx, ← hyy]; exact hxy))
     clear hxx hyy hkx hky
     subst hxy
     have hne : (x != x) = false := by simp
     go_wp2
     (refine wp_region_ext (by kernel_rfl) (by kernel_rfl) ?_; (repeat (go_big_quiet_step (fail))); refine wpQuiet_nil ?_; intro wq hxwq; obtain ⟨hcwq, hfwq, hswq⟩ := hxwq.all; (try simp at hswq))
     go_wp2
     go_roundw
     case rel => exact ⟨k + 1, by omega, by go_num, HJ2, xT hx hxwq⟩
     case measure => simp [intOf]; omega
    ·have HF := hI (take_beqI (xs := xs) (ys := ys) (k := k) (by rw [← hxx, ← hyy]; exact hxy))
     have hne : (x != y) = true := by simpa using hxy
     clear hxx hyy hkx hky
     go_wp2
     (refine wp_region_ext (by kernel_rfl) (by kernel_rfl) ?_; (repeat (go_big_quiet_step (fail))); refine wpQuiet_nil ?_; intro wq hxwq; obtain ⟨hcwq, hfwq, hswq⟩ := hxwq.all; (try simp at hswq))
     go_wp2
     go_ret
     exact ⟨ret_bool' HF.out.symm, xT hx hxwq⟩
   ·obtain rfl : k = n := by omega
    have HT := hI (all_beqI (by rw [← HN.out, ← HM.out]) (fun j hj => HJ.out j (by rw [HN.out]; exact hj)))
    go_wp2
    go_ret
    exact ⟨ret_bool' HT.out.symm, hx⟩
 ·have HF : Hid ((xs == ys) = false) := hI (by rw [beq_eq_false_iff_ne]; intro e; exact hnm (by rw [HN.out, HM.out, e]))
  have hnm1 : ((n : Int) != (m : Int)) = true := by simp; omega
  go_enter Tryz.func62, Tryz.ntmps62
  go_wp2
  go_ret
  exact ⟨ret_bool' HF.out.symm, xR⟩
set_option maxRecDepth 20000 in
set_option maxHeartbeats 6400000 in
theorem s_l09Used (A : Option Addr) (n c : Nat) (ns : List Nm) (y : Int) (w : World) (h : SlAt w 5 encN A ns) (hn : n = ns.length) (hl : n ≤ 1000) :
  Calls Tryz.prog 63 #[.slice A n c, .int .i64 y] w fun e w' => ∃ v, e = .returned v ∧ OwI w' w.heap.size v (usL ns y) ∧ Ext w w' := by
 have HN := hI hn
 have HS := hI h
 clear hn h
 go_enter Tryz.func63, Tryz.ntmps63
 go_wp2
 go_loopw [5, 6] (fun v i wr => ∃ k : Nat, k ≤ n ∧ i = .int .i64 k ∧ Hid (OwI wr w.heap.size v (usTo ns y k)) ∧ Ext w wr) (fun _ i _ => n - (intOf i).toNat)
 case atStart => exact ⟨0, by omega, rfl, hI (Own.of_blk (g := w.heap.size) (cs := #[]) (xs := []) (bN (by omega)) len_encI rfl (Nat.le_refl _) (by simp)), xA xR⟩
 case round =>
  obtain ⟨k, hk, rfl, HV, hxr⟩ := hrel
  obtain ⟨w5, rfl⟩ : ∃ x, x = wr := ⟨wr, rfl⟩
  by_cases hlt : k < n
  ·have hkr : k < ns.length := by rw [← HN.out]; exact hlt
   obtain ⟨b, off, rfl, hb, d0, d1, d2, d3, d4⟩ := (HS.out.ext hxr).nm hkr
   have hsucc := usTo_succ ns y k
   have hln := usTo_len ns y k
   have HH := hI (fun W => l01In_any y (ns.getD k nmD).2.2.2.1 (ns.getD k nmD).2.2.2.2 W)
   have hlk : usB ns y k = inB y (ns.getD k nmD).2.2.2.1 (ns.getD k nmD).2.2.2.2 := rfl
   cases hq : usB ns y k with
   | false =>
    rw [hq] at hsucc
    rw [← hlk, hq] at HH
    have HSU : Hid (usTo ns y (k + 1) = usTo ns y k) := hI (by rw [hsucc]; simp)
    clear hsucc hlk hq hln
    generalize ns.getD k nmD = l at *
    generalize tx l.1 = s0 at *
    generalize tx l.2.1 = s1 at *
    go_wp2
    (refine wp_region_ext (by kernel_rfl) (by kernel_rfl) ?_; (repeat (go_big_quiet_step ((go_at_call 61; exact Calls_same (HH.out _))))); refine wpQuiet_nil ?_; intro wq hxwq; obtain ⟨hcwq, hfwq, hswq⟩ := hxwq.all; (try simp at hswq))
    go_wp2
    go_roundw
    case rel => exact ⟨k + 1, by omega, by go_num, hI (by rw [HSU.out]; exact HV.out.ext hxwq), xT hxr hxwq⟩
    case measure => simp [intOf]; omega
   | true =>
    rw [hq] at hsucc
    rw [← hlk, hq] at HH
    have HSU : Hid (usTo ns y (k + 1) = usTo ns y k ++ [(k : Int)]) := hI (by rw [hsucc]; simp)
    have HLN : Hid ((usTo ns y k).length ≤ 1000) := hI (by omega)
    clear hsucc hlk hq hln
    generalize ns.getD k nmD = l at *
    generalize tx l.1 = s0 at *
    generalize tx l.2.1 = s1 at *
    have hsr := hxr.size
    go_wp2
    (refine wp_region_ext (by kernel_rfl) (by kernel_rfl) ?_; (repeat (go_big_quiet_step ((go_at_call 61; exact Calls_same (HH.out _))))); refine wpQuiet_nil ?_; intro wq hxwq; obtain ⟨hcwq, hfwq, hswq⟩ := hxwq.all; (try simp at hswq))
    have HV1 : Hid (OwI wq w.heap.size _ (usTo ns y k)) := hI (HV.out.ext hxwq)
    go_wp2_with (at_builtin; refine wpList_append_sl elI len_encI one_encI rfl _ _ rfl rfl (HV1.out.ext (xA xR)) (xs := [(k : Int)]) rfl (blk_i1 (bN (by omega))) (by have := HLN.out; simp; unfold maxLen; omega) (by have := HLN.out; simp; omega) (by first | omega | (simp; omega)) ?_)
    intro v' w6 hown hgrow _
    have HV2 := hI hown
    have hx6 : Ext w w6 := by
     refine Ext.grown ?_ hgrow (fun q hq => (HV.out.row q hq).1)
     exact xA (xT hxr hxwq)
    clear hown hgrow
    go_wp2
    go_roundw
    case rel => exact ⟨k + 1, by omega, by go_num, hI (by rw [HSU.out]; exact HV2.out), hx6⟩
    case measure => simp [intOf]; omega
  ·obtain rfl : k = n := by omega
   have HO : Hid (OwI w5 w.heap.size _ (usL ns y)) := hI (by unfold usL; rw [← HN.out]; exact HV.out)
   go_wp2
   go_ret
   exact ⟨_, rfl, HO.out.ext xR, hxr⟩
set_option maxHeartbeats 3200000 in
theorem s_l11Exists (p : Pl) (y : Int) (w : World) : Calls Tryz.prog 31 #[plV p, .int .i64 y] w fun e w' => e = .returned (.bool (exB (pdOf p) y)) ∧ Ext w w' := by
 have hpv : plV p = .agg #[.string (tx p.1), .int .i64 p.2.1, .int .i64 p.2.2.1, .int .i64 p.2.2.2.1, .slice p.2.2.2.2.1 p.2.2.2.2.2.2.length p.2.2.2.2.2.1] := rfl
 have HH := hI (fun W => l01In_any y p.2.2.1 p.2.2.2.1 W)
 have hex : exB (pdOf p) y = inB y p.2.2.1 p.2.2.2.1 := rfl
 rw [hpv, hex]
 generalize inB y p.2.2.1 p.2.2.2.1 = q at *
 generalize tx p.1 = s0 at *
 clear hpv hex
 go_enter Tryz.func31, Tryz.ntmps31
 (go_wp2_with fail; refine (HH.out _).mono ?_; rintro e w' ⟨rfl, rfl⟩)
 go_wp2
 go_ret
 exact ⟨rfl, xA xR⟩
noncomputable def rgC (D : List Pd) (x : List UInt8) (y : Int) : Int := if rgB D = true ∧ smL x 1 16 = true then (if inB y (-3000) 3000 = true then (if fnxP D x < 0 then 4 else 0) else 2) else 1
theorem rgC_plC {D : List Pd} {L : List Lk} {x : List UInt8} {y : Int} (h : wdB D L = true) : rgC D x y = plC D L x true y := by
 have hr := (wdB_iff.1 h).1
 by_cases h1 : smL x 1 16 = true
 ·by_cases h2 : inB y (-3000) 3000 = true
  ·cases hf : (fndP D x).isSome with
   | true =>
    have hn : ¬ fnxP D x < 0 := fun e => by rw [fnx_lt.1 e] at hf; cases hf
    have e : wyC D L (smL x 1 16 && true) [y] = 0 := wyC_ok h (by simp [h1]) (by simp [h2])
    unfold rgC plC
    rw [if_pos (show rgB D = true ∧ smL x 1 16 = true from ⟨hr, h1⟩), if_pos h2, if_neg hn, e, if_pos (rfl : (0 : Int) = 0), if_pos hf]
   | false =>
    have hn : fnxP D x < 0 := fnx_lt.2 hf
    have e : wyC D L (smL x 1 16 && true) [y] = 0 := wyC_ok h (by simp [h1]) (by simp [h2])
    unfold rgC plC
    rw [if_pos (show rgB D = true ∧ smL x 1 16 = true from ⟨hr, h1⟩), if_pos h2, if_pos hn, e, if_pos (rfl : (0 : Int) = 0), if_neg (by rw [hf]; simp)]
  ·have h2' : inB y (-3000) 3000 = false := by simpa using h2
   simp [rgC, plC, wyC, h, hr, h1, h2']
 ·have h1' : smL x 1 16 = false := by simpa using h1
  simp [rgC, plC, wyC, h1']
set_option maxHeartbeats 3200000 in
theorem s_l11Code (A : Option Addr) (n c : Nat) (ps : List Pl) (x : List UInt8) (y : Int) (w : World) (h : SlAt w 5 encQ A ps) (hp : Places w ps) (hn : n = ps.length) (hl : ps.length ≤ 1048576) (hx : x.length ≤ 1048576) :
  Calls Tryz.prog 60 #[.slice A n c, .string (tx x), .int .i64 y] w fun e w' => e = .returned (.int .i64 (rgC (psD ps) x y)) ∧ Ext w w' := by
 have HA := hI (fun W (hW : Ext w W) => s_IsRegister A n c ps W (h.ext hW) (hp.ext hW) hn hl)
 have HW := hI (fun W => by have := s_IsWord (tx x) W (by rw [tx_size]; omega); rw [smB_tx] at this; exact this)
 have HY := hI (fun W => s_l02Year y W)
 have HF := hI (fun W (hW : Ext w W) => s_l11Find A n c ps x W (h.ext hW) hn (by omega))
 have HR : Hid (rgC (psD ps) x y = if rgB (psD ps) = true ∧ smL x 1 16 = true then (if inB y (-3000) 3000 = true then (if fnxP (psD ps) x < 0 then 4 else 0) else 2) else 1) := hI rfl
 rw [HR.out]
 generalize rgB (psD ps) = q1 at *
 generalize smL x 1 16 = q2 at *
 generalize inB y (-3000) 3000 = q3 at *
 generalize fnxP (psD ps) x = f at *
 generalize tx x = sx at *
 clear HR h hp hn hx
 cases q1 with
 | false =>
  rw [if_neg (by simp)]
  go_enter Tryz.func60, Tryz.ntmps60
  (go_wp2_with fail; refine (HA.out _ xR).mono ?_; rintro e w1 ⟨rfl, hx1⟩; obtain ⟨hc1, hf1, hs1⟩ := hx1.all; (try simp at hs1))
  go_wp2
  go_ret
  exact ⟨rfl, hx1⟩
 | true =>
  cases q2 with
  | false =>
   rw [if_neg (by simp)]
   go_enter Tryz.func60, Tryz.ntmps60
   (go_wp2_with fail; refine (HA.out _ xR).mono ?_; rintro e w1 ⟨rfl, hx1⟩; obtain ⟨hc1, hf1, hs1⟩ := hx1.all; (try simp at hs1))
   (go_wp2_with fail; refine (HW.out _).mono ?_; rintro e w2 ⟨rfl, hx2⟩; obtain ⟨hc2, hf2, hs2⟩ := hx2.all; (try simp at hs2))
   go_wp2
   go_ret
   exact ⟨rfl, xT hx1 hx2⟩
  | true =>
   cases q3 with
   | false =>
    rw [if_pos ⟨rfl, rfl⟩, if_neg (by simp)]
    go_enter Tryz.func60, Tryz.ntmps60
    (go_wp2_with fail; refine (HA.out _ xR).mono ?_; rintro e w1 ⟨rfl, hx1⟩; obtain ⟨hc1, hf1, hs1⟩ := hx1.all; (try simp at hs1))
    (go_wp2_with fail; refine (HW.out _).mono ?_; rintro e w2 ⟨rfl, hx2⟩; obtain ⟨hc2, hf2, hs2⟩ := hx2.all; (try simp at hs2))
    (go_wp2_with fail; refine (HY.out _).mono ?_; rintro e w' ⟨rfl, rfl⟩)
    go_wp2
    go_ret
    exact ⟨rfl, xT hx1 hx2⟩
   | true =>
    by_cases hf : f < 0
    ·rw [if_pos ⟨rfl, rfl⟩, if_pos rfl, if_pos hf]
     go_enter Tryz.func60, Tryz.ntmps60
     (go_wp2_with fail; refine (HA.out _ xR).mono ?_; rintro e w1 ⟨rfl, hx1⟩; obtain ⟨hc1, hf1, hs1⟩ := hx1.all; (try simp at hs1))
     (go_wp2_with fail; refine (HW.out _).mono ?_; rintro e w2 ⟨rfl, hx2⟩; obtain ⟨hc2, hf2, hs2⟩ := hx2.all; (try simp at hs2))
     (go_wp2_with fail; refine (HY.out _).mono ?_; rintro e w' ⟨rfl, rfl⟩)
     (go_wp2_with fail; refine (HF.out _ (xT hx1 hx2)).mono ?_; rintro e w' ⟨rfl, rfl⟩)
     go_wp2
     go_ret
     exact ⟨rfl, xT hx1 hx2⟩
    ·rw [if_pos ⟨rfl, rfl⟩, if_pos rfl, if_neg hf]
     go_enter Tryz.func60, Tryz.ntmps60
     (go_wp2_with fail; refine (HA.out _ xR).mono ?_; rintro e w1 ⟨rfl, hx1⟩; obtain ⟨hc1, hf1, hs1⟩ := hx1.all; (try simp at hs1))
     (go_wp2_with fail; refine (HW.out _).mono ?_; rintro e w2 ⟨rfl, hx2⟩; obtain ⟨hc2, hf2, hs2⟩ := hx2.all; (try simp at hs2))
     (go_wp2_with fail; refine (HY.out _).mono ?_; rintro e w' ⟨rfl, rfl⟩)
     (go_wp2_with fail; refine (HF.out _ (xT hx1 hx2)).mono ?_; rintro e w' ⟨rfl, rfl⟩)
     go_wp2
     go_ret
     exact ⟨rfl, xT hx1 hx2⟩
section
variable {w : World} {A A' : Option Addr} {n c m c' : Nat} {ps : List Pl} {L : List Lk}
theorem plC_wd {D : List Pd} {L : List Lk} {x : List UInt8} {y : Int} (h : wdB D L = false) : plC D L x true y = 1 := by
 unfold plC
 rw [wyC_wd h, if_neg (by omega)]
set_option maxHeartbeats 3200000 in
theorem s_l14Code (x : List UInt8) (y : Int) (h : WIn w A A' n c m c' ps L) (hx : x.length ≤ 1048576) :
  Calls Tryz.prog 26 #[.agg #[.slice A n c, .slice A' m c'], .string (tx x), .int .i64 y] w fun e w' => e = .returned (.int .i64 (plC (psD ps) L x true y)) ∧ Ext w w' := by
 have HA := hI (fun W (hW : WIn W A A' n c m c' ps L) => s_IsWorldW hW)
 have HS := hI h
 have HC := hI (fun W (hW : Ext w W) => s_l11Code A n c ps x y W (h.sq.ext hW) (h.pl.ext hW) h.hn h.hl hx)
 clear h hx
 cases h1 : wdB (psD ps) L with
 | false =>
  rw [plC_wd h1]
  rw [h1] at HA
  generalize tx x = sx at *
  clear h1 HC
  go_enter Tryz.func26, Tryz.ntmps26
  (go_wp2_with fail; refine (HA.out _ (HS.out.ext (xA xR))).mono ?_; rintro e w1 ⟨rfl, hx1⟩; obtain ⟨hc1, hf1, hs1⟩ := hx1.all; (try simp at hs1))
  go_wp2
  go_ret
  exact ⟨rfl, xT (xA xR) hx1⟩
 | true =>
  rw [h1] at HA
  rw [rgC_plC h1] at HC
  generalize plC (psD ps) L x true y = res at *
  generalize tx x = sx at *
  clear h1
  go_enter Tryz.func26, Tryz.ntmps26
  (go_wp2_with fail; refine (HA.out _ (HS.out.ext (xA xR))).mono ?_; rintro e w1 ⟨rfl, hx1⟩; obtain ⟨hc1, hf1, hs1⟩ := hx1.all; (try simp at hs1); have := (show w.heap.size < w1.heap.size from by omega))
  (go_wp2_with fail; refine (HC.out _ (xT (xA xR) hx1)).mono ?_; rintro e w2 ⟨rfl, hx2⟩; obtain ⟨hc2, hf2, hs2⟩ := hx2.all; (try simp at hs2))
  go_wp2
  go_ret
  exact ⟨rfl, xT (xT (xA xR) hx1) hx2⟩
end
end Go.Proofs.YtlnliajnipniaaaGreatDoor
