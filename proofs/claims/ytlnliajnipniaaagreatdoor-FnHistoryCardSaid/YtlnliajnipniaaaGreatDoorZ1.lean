/- Codes over worlds, places of a world, and the codes of places as asked, as the program sees them. Names that are used in a year, and years in which nothing changes, as the program sees them. -/
import Derived.Test.YtlnliajnipniaaaGreatDoorY0
import Derived.Test.YtlnliajnipniaaaGreatDoorM2
namespace Go.Proofs.YtlnliajnipniaaaGreatDoor
open Go.RowKit
attribute [local go_sem] ExtOf.cell ExtOf.frozen
def plV (p : Pl) : Value := .agg #[.string (tx p.1), .int .i64 p.2.1, .int .i64 p.2.2.1, .int .i64 p.2.2.2.1, .slice p.2.2.2.2.1 p.2.2.2.2.2.2.length p.2.2.2.2.2.1]
section
variable {w : World} {A A' : Option Addr} {n c m c' : Nat} {ps : List Pl} {L : List Lk}
set_option maxHeartbeats 3200000 in
theorem i_worldCode (ok : Bool) (ys : List Int) (A'' : Option Addr) (r c'' : Nat) (h : WIn w A A' n c m c' ps L) (hm : Mx w) (hy : SlAt w 1 encI A'' ys) (hr : r = ys.length) (hrl : r ≤ 1000) :
  Calls Tryz.prog 21 #[.agg #[.slice A n c, .slice A' m c'], .bool ok, .slice A'' r c''] w fun e w' => e = .returned (.int .i64 (wyC (psD ps) L ok ys)) ∧ Ext w w' := by
 have HA := hI (fun W (hW : WIn W A A' n c m c' ps L) (hM : Mx W) => i_IsWorldW hW hM)
 have HS := hI (And.intro h hm)
 have HY := hI (fun W (hW : Ext w W) => i_areWithin A'' r c'' ys (-3000) 3000 W (hy.ext hW) hr (by omega))
 clear h hm hy hr
 cases h1 : wdB (psD ps) L with
 | false =>
  rw [wyC_wd h1]
  rw [h1] at HA
  clear h1
  go_enter Tryz.func21, Tryz.ntmps21
  (go_wp2_with fail; refine (HA.out _ (HS.out.1.ext (xA xR)) (HS.out.2.ext (xA xR))).mono ?_; rintro e w1 ⟨rfl, hx1⟩; obtain ⟨hc1, hf1, hs1⟩ := hx1.all; (try simp at hs1))
  go_wp2
  go_ret
  exact ⟨rfl, xT (xA xR) hx1⟩
 | true =>
  rw [h1] at HA
  cases h2 : ok with
  | false =>
   rw [wyC_no rfl]
   clear h1 HY
   go_enter Tryz.func21, Tryz.ntmps21
   (go_wp2_with fail; refine (HA.out _ (HS.out.1.ext (xA xR)) (HS.out.2.ext (xA xR))).mono ?_; rintro e w1 ⟨rfl, hx1⟩; obtain ⟨hc1, hf1, hs1⟩ := hx1.all; (try simp at hs1))
   go_wp2
   go_ret
   exact ⟨rfl, xT (xA xR) hx1⟩
  | true =>
   cases h3 : (ys.all fun y => inB y (-3000) 3000) with
   | false =>
    rw [wyC_year h1 rfl h3]
    rw [h3] at HY
    clear h1 h2 h3
    go_enter Tryz.func21, Tryz.ntmps21
    (go_wp2_with fail; refine (HA.out _ (HS.out.1.ext (xA xR)) (HS.out.2.ext (xA xR))).mono ?_; rintro e w1 ⟨rfl, hx1⟩; obtain ⟨hc1, hf1, hs1⟩ := hx1.all; (try simp at hs1))
    (go_wp2_with fail; refine (HY.out _ (xT (xA xR) hx1)).mono ?_; rintro e w' ⟨rfl, rfl⟩)
    go_wp2
    go_ret
    exact ⟨rfl, xT (xA xR) hx1⟩
   | true =>
    rw [wyC_ok h1 rfl h3]
    rw [h3] at HY
    clear h1 h2 h3
    go_enter Tryz.func21, Tryz.ntmps21
    (go_wp2_with fail; refine (HA.out _ (HS.out.1.ext (xA xR)) (HS.out.2.ext (xA xR))).mono ?_; rintro e w1 ⟨rfl, hx1⟩; obtain ⟨hc1, hf1, hs1⟩ := hx1.all; (try simp at hs1))
    (go_wp2_with fail; refine (HY.out _ (xT (xA xR) hx1)).mono ?_; rintro e w' ⟨rfl, rfl⟩)
    go_wp2
    go_ret
    exact ⟨rfl, xT (xA xR) hx1⟩
set_option maxHeartbeats 3200000 in
theorem i_hasPlace (x : List UInt8) (h : SlAt w 5 encQ A ps) (hn : n = ps.length) (hl : n ≤ 1048576) (ha : AscP ps) :
  Calls Tryz.prog 23 #[.agg #[.slice A n c, .slice A' m c'], .string (tx x)] w fun e w' => e = .returned (.bool (fndP (psD ps) x).isSome) ∧ Ext w w' := by
 have HF := hI (fun W hW => i_findPlace A n c ps x W hW hn hl ha)
 have HS := hI h
 generalize (fndP (psD ps) x).isSome = q at *
 generalize tx x = sx at *
 clear hn h ha
 go_enter Tryz.func23, Tryz.ntmps23
 go_wp2_with fail
 refine (HF.out _ (HS.out.ext (xA xR))).mono ?_
 rintro e w1 ⟨k, _, hkn, rfl, hx1⟩
 go_wp2
 go_ret
 exact ⟨rfl, xT (xA xR) hx1⟩
set_option maxHeartbeats 3200000 in
theorem i_place (x : List UInt8) (h : SlAt w 5 encQ A ps) (hn : n = ps.length) (hl : n ≤ 1048576) (ha : AscP ps) (hs : (fndP (psD ps) x).isSome = true) :
  Calls Tryz.prog 24 #[.agg #[.slice A n c, .slice A' m c'], .string (tx x)] w fun e w' => ∃ k : Nat, k < ps.length ∧ fnxP (psD ps) x = k ∧ fndP (psD ps) x = some (pdOf (ps.getD k plD)) ∧ e = .returned (plV (ps.getD k plD)) ∧ Ext w w' := by
 have HF := hI (fun W hW => i_findPlace A n c ps x W hW hn hl ha)
 have HS := hI h
 have HN := hI hn
 have HX := hI hs
 generalize tx x = sx at *
 clear hn h ha hs
 go_enter Tryz.func24, Tryz.ntmps24
 go_wp2_with fail
 refine (HF.out _ (HS.out.ext (xA (xA xR)))).mono ?_
 rintro e w1 ⟨k, hk, hkn, rfl, hx1⟩
 obtain ⟨hk1, hk2, hk3⟩ := hk HX.out
 have HK := hI (And.intro hk2 hk3)
 have HX1 := hI (show Ext w w1 from xT (xA (xA xR)) hx1)
 obtain ⟨bb, off, hA, hb, d0, d1, d2, d3, d4⟩ := (HS.out.ext HX1.out).pl hk1
 subst hA
 have hkl : k < n := by rw [HN.out]; exact hk1
 have B0 : Blk w1 w.heap.size 27 #[.slice (some ⟨bb, off, none⟩) n c, .slice A' m c'] := Blk.eq (bE hx1 (bA (bN (by omega)))) (by rfl)
 have g0 : w1.cell? ⟨w.heap.size, 0, none⟩ = some (.slice (some ⟨bb, off, none⟩) n c) := B0.cell 0
 have B1 : Blk w1 (w.heap.size + 1) 57 #[.string .empty, .int .i64 0, .int .i64 0, .int .i64 0, .slice none 0 0] := Blk.eq (bE hx1 (bN (by first|omega|simp))) (by rfl)
 have p0 : w1.cell? ⟨w.heap.size + 1, 0, none⟩ = some (.string .empty) := B1.cell 0
 have p1 : w1.cell? ⟨w.heap.size + 1, 1, none⟩ = some (.int .i64 0) := B1.cell 1
 have p2 : w1.cell? ⟨w.heap.size + 1, 2, none⟩ = some (.int .i64 0) := B1.cell 2
 have p3 : w1.cell? ⟨w.heap.size + 1, 3, none⟩ = some (.int .i64 0) := B1.cell 3
 have p4 : w1.cell? ⟨w.heap.size + 1, 4, none⟩ = some (.slice none 0 0) := B1.cell 4
 have q0 := B1.frozen 0
 have q1 := B1.frozen 1
 have q2 := B1.frozen 2
 have q3 := B1.frozen 3
 have q4 := B1.frozen 4
 have hpv : plV (ps.getD k plD) = .agg #[.string (tx (ps.getD k plD).1), .int .i64 (ps.getD k plD).2.1, .int .i64 (ps.getD k plD).2.2.1, .int .i64 (ps.getD k plD).2.2.2.1, .slice (ps.getD k plD).2.2.2.2.1 (ps.getD k plD).2.2.2.2.2.2.length (ps.getD k plD).2.2.2.2.2.1] := rfl
 have HPV := hI hpv.symm
 have HK1 := hI hk1
 clear hk hk2 hk3 B0 hx1 hpv hk1
 generalize tx (ps.getD k plD).1 = s0 at *
 generalize (ps.getD k plD).2.1 = s1 at *
 generalize (ps.getD k plD).2.2.1 = s2 at *
 generalize (ps.getD k plD).2.2.2.1 = s3 at *
 generalize (ps.getD k plD).2.2.2.2.1 = s4 at *
 generalize (ps.getD k plD).2.2.2.2.2.2.length = s5 at *
 generalize (ps.getD k plD).2.2.2.2.2.1 = s6 at *
 go_wp2
 refine ret_b5 (b0 := w.heap.size + 1) (t := 57) (v := .agg #[.string s0, .int .i64 s1, .int .i64 s2, .int .i64 s3, .slice s4 s5 s6]) (Blk.eq (bS (bS (bS (bS (bS B1))))) (by rfl)) rfl (by intro W' r0 r1 r2 r3 r4; simp [results, Tryz.results24, go_sem, r0, r1, r2, r3, r4]) ⟨k, HK1.out, HK.out.1, HK.out.2, by rw [HPV.out], ?_⟩
 have hs1 := HX1.out.size
 have hX := HX1.out
 exact xC (by omega) (xC (by omega) (xC (by omega) (xC (by omega) (xC (by omega) hX))))
set_option maxHeartbeats 3200000 in
theorem i_parentOf (x : List UInt8) (y : Int) (h : SlAt w 4 encK A' L) (hn : m = L.length) (hl : m ≤ 1048576) :
  Calls Tryz.prog 59 #[.agg #[.slice A n c, .slice A' m c'], .string (tx x), .int .i64 y] w fun e w' => e = .returned (.string (tx (parT L x y))) ∧ Ext w w' := by
 have HP := hI (fun W hW => i_parentIn A' m c' L x y W hW hn hl)
 have HS := hI h
 generalize (par L x y).isSome = q at *
 generalize tx (parT L x y) = sp at *
 generalize tx x = sx at *
 clear h hn
 go_enter Tryz.func59, Tryz.ntmps59
 go_wp2_with fail
 refine (HP.out _ (HS.out.ext (xA xR))).mono ?_
 rintro e w1 ⟨rfl, hx1⟩
 go_wp2
 go_ret
 exact ⟨rfl, xT (xA xR) hx1⟩
end
theorem blk_s1c {w : World} {g : Nat} {t : TypeId} {l : List UInt8} (h : Blk w g t #[.string (tx l)]) : SlAt w 1 encS (some ⟨g, 0, none⟩) [l] := h.sl rfl len_encS
set_option maxRecDepth 20000 in
set_option maxHeartbeats 6400000 in
theorem i_codesOf (q : Pd → Bool) (g : Nat) (lb : Array Value) (eg : ∀ args w, (callFunc g args).run Tryz.prog w = .ok (.enter g args) w) (A : Option Addr) (n c : Nat) (ps : List Pl) (w : World) (h : SlAt w 5 encQ A ps) (hn : n = ps.length) (hl : n ≤ 1000)
  (hp : ∀ p ∈ ps, ∀ W, Ext w W → Calls Tryz.prog g (#[plV p] ++ lb) W fun e w' => e = .returned (.bool (q (pdOf p))) ∧ Ext W w') :
  Calls Tryz.prog 78 #[.slice A n c, .func (.func g) #[] lb] w fun e w' => ∃ v, e = .returned v ∧ OwS w' w.heap.size v (cdsP q (psD ps)) ∧ Ext w w' := by
 have HP := hI hp
 have HN := hI hn
 have HS := hI h
 have hfin : cdsTo q (psD ps) n = cdsP q (psD ps) := by rw [hn, ← psD_len, cdsTo_all]
 have HFIN := hI hfin
 clear hp hn h hfin
 go_enter Tryz.func78, Tryz.ntmps78
 go_wp2
 go_loopw [5, 10] (fun v i wr => ∃ k : Nat, k ≤ n ∧ i = .int .i64 k ∧ Hid (OwS wr w.heap.size v (cdsTo q (psD ps) k)) ∧ Ext w wr) (fun _ i _ => n - (intOf i).toNat)
 case atStart => exact ⟨0, by omega, rfl, hI (Own.nil _ _), xR⟩
 case round =>
  obtain ⟨k, hk, rfl, HV, hxr⟩ := hrel
  obtain ⟨w5, rfl⟩ : ∃ x, x = wr := ⟨wr, rfl⟩
  by_cases hlt : k < n
  ·have hkr : k < ps.length := by rw [← HN.out]; exact hlt
   obtain ⟨b, off, rfl, hb, d0, d1, d2, d3, d4⟩ := (HS.out.ext hxr).pl hkr
   have hcall := HP.out _ (mem_getD (d := plD) hkr)
   have hsucc := cdsTo_succ (p := q) (D := psD ps) (k := k) (by rw [psD_len]; exact hkr)
   rw [psD_at hkr] at hsucc
   have hln := cdsTo_len q (psD ps) k
   have hpv : plV (ps.getD k plD) = .agg #[.string (tx (ps.getD k plD).1), .int .i64 (ps.getD k plD).2.1, .int .i64 (ps.getD k plD).2.2.1, .int .i64 (ps.getD k plD).2.2.2.1, .slice (ps.getD k plD).2.2.2.2.1 (ps.getD k plD).2.2.2.2.2.2.length (ps.getD k plD).2.2.2.2.2.1] := rfl
   rw [hpv] at hcall
   clear hpv
   cases hq : q (pdOf (ps.getD k plD)) with
   | false =>
    rw [hq] at hsucc hcall
    have HC := hI hcall
    have HSU : Hid (cdsTo q (psD ps) (k + 1) = cdsTo q (psD ps) k) := hI (by rw [hsucc]; simp)
    clear hcall hsucc hq hln
    generalize ps.getD k plD = l at *
    generalize tx l.1 = s0 at *
    generalize l.2.1 = s1 at *
    generalize l.2.2.1 = s2 at *
    generalize l.2.2.2.1 = s3 at *
    generalize l.2.2.2.2.1 = s4 at *
    generalize l.2.2.2.2.2.2.length = s5 at *
    generalize l.2.2.2.2.2.1 = s6 at *
    go_wp2_with fail
    refine (HC.out _ (xA hxr)).mono ?_
    rintro e w2 ⟨rfl, hx2⟩
    go_wp2
    go_roundw
    case rel => exact ⟨k + 1, by omega, by go_num, hI (by rw [HSU.out]; exact HV.out.ext (xT (xA xR) hx2)), xT (xA hxr) hx2⟩
    case measure => simp [intOf]; omega
   | true =>
    rw [hq] at hsucc hcall
    have HC := hI hcall
    have HSU : Hid (cdsTo q (psD ps) (k + 1) = cdsTo q (psD ps) k ++ [(ps.getD k plD).1]) := hI (by rw [hsucc]; simp; rfl)
    have HBL := hI (fun (W : World) (g : Nat) (hB : Blk W g 9 #[.string (tx (ps.getD k plD).1)]) => blk_s1c hB)
    clear hcall hsucc hq
    generalize ps.getD k plD = l at *
    have HLN : Hid ((cdsTo q (psD ps) k).length ≤ 1000) := hI (by omega)
    generalize tx l.1 = s0 at *
    generalize l.2.1 = s1 at *
    generalize l.2.2.1 = s2 at *
    generalize l.2.2.2.1 = s3 at *
    generalize l.2.2.2.2.1 = s4 at *
    generalize l.2.2.2.2.2.2.length = s5 at *
    generalize l.2.2.2.2.2.1 = s6 at *
    clear hln
    go_wp2_with fail
    refine (HC.out _ (xA hxr)).mono ?_
    rintro e w2 ⟨rfl, hx2⟩
    obtain ⟨hc2, hf2⟩ := hx2.rules
    have hs2 := hx2.size
    (try simp at hs2)
    have := (show w5.heap.size < w2.heap.size from by omega)
    have hsr := hxr.size
    have HV1 : Hid (OwS w2 w.heap.size _ (cdsTo q (psD ps) k)) := hI (HV.out.ext (xT (xA xR) hx2))
    go_wp2_with (at_builtin; refine wpList_append_sl elS len_encS one_encS rfl _ _ rfl rfl (HV1.out.ext (xA xR)) (xs := [l.1]) rfl (HBL.out _ _ (bN (by omega))) (by have := HLN.out; simp; unfold maxLen; omega) (by have := HLN.out; simp; omega) (by first | omega | (simp; omega)) ?_)
    intro v' w6 hown hgrow _
    have HV2 := hI hown
    have hx6 : Ext w w6 := by
     refine Ext.grown ?_ hgrow (fun q hq => (HV.out.row q hq).1)
     exact xA (xT (xA hxr) hx2)
    clear hown hgrow
    go_wp2
    go_roundw
    case rel => exact ⟨k + 1, by omega, by go_num, hI (by rw [HSU.out]; exact HV2.out), hx6⟩
    case measure => simp [intOf]; omega
  ·obtain rfl : k = n := by omega
   have HO : Hid (OwS w5 w.heap.size _ (cdsP q (psD ps))) := hI (by rw [← HFIN.out]; exact HV.out)
   go_wp2
   go_ret
   exact ⟨_, rfl, HO.out.ext xR, hxr⟩
theorem wpAnyH_takeD {P : Program} {ops : Array Oper} {Q : Exit → Act → World → Prop} {md : Region.Mode} {S : World → Prop} {i : Nat} {oi : Oper} {d : Option Tmp} {v : Value} {fuel : Nat} {listed : Array Bool} {a : Act} {w : World} (hi : ops[i]? = some oi) (hd : oi.dst = d)
  (hs : Region.noSelect ops = true) (hf : Region.free md ops listed i = true) (hr : (Region.ready md ops listed).contains i = true)
  (hQ : ∀ c a w, Q (.panic c) (a.put d v) w → Q (.panic c) a w) (hy : YieldsIf P ops S oi v a) (hS : S w)
  (h : wpAnyH P md ops Q S fuel (listed.setIfInBounds i true) (a.put d v) w) : wpAnyH P md ops Q S (fuel + 1) listed a w := by
 subst hd
 exact wpAnyH_take hi hs hf hr hQ hy hS h
theorem take_beqI {xs ys : List Int} {k : Nat} (h : ¬ xs.getD k 0 = ys.getD k 0) : (xs == ys) = false := by
 rw [beq_eq_false_iff_ne]
 intro e
 subst e
 exact h rfl
theorem all_beqI {xs ys : List Int} (hl : xs.length = ys.length) (h : ∀ j, j < xs.length → xs.getD j 0 = ys.getD j 0) : (xs == ys) = true := by
 rw [beq_iff_eq]
 apply List.ext_getElem hl
 intro i h1 h2
 have := h i h1
 simpa [List.getD, h1, h2] using this
set_option maxHeartbeats 3200000 in
theorem i_EqualI (A A' : Option Addr) (n c m d : Nat) (xs ys : List Int) (w : World) (h : SlAt w 1 encI A xs) (h' : SlAt w 1 encI A' ys) (hn : n = xs.length) (hm : m = ys.length) (hl : n ≤ 1048576) (hl' : m ≤ 1048576) :
  Calls Tryz.prog 57 #[.slice A n c, .slice A' m d] w fun e w' => e = .returned (.bool (xs == ys)) ∧ Ext w w' := by
 have HN := hI hn
 have HM := hI hm
 clear hn hm
 by_cases hnm : n = m
 ·subst hnm
  have hn1 : (((n : Nat) : Int) != (n : Int)) = false := by simp
  go_enter Tryz.func57, Tryz.ntmps57
  go_wp2
  go_loopw [13] (fun i wr => ∃ k : Nat, k ≤ n ∧ i = .int .i64 k ∧ Hid (∀ j, j < k → xs.getD j 0 = ys.getD j 0) ∧ Ext w wr) (fun i _ => n - (intOf i).toNat)
  case atStart => exact ⟨0, Nat.zero_le _, rfl, hI (fun j hj => absurd hj (by omega)), xR⟩
  case round =>
   obtain ⟨k, hk, rfl, HJ, hx⟩ := hrel
   by_cases hlt : k < n
   ·have hkx : k < xs.length := by rw [← HN.out]; exact hlt
    have hky : k < ys.length := by rw [← HM.out]; exact hlt
    obtain ⟨b, off, rfl, hb, d0⟩ := (h.ext hx).it hkx
    obtain ⟨b', off', rfl, hb', d1⟩ := (h'.ext hx).it hky
    obtain ⟨x, hxx⟩ : ∃ x, x = xs.getD k 0 := ⟨_, rfl⟩
    obtain ⟨y, hyy⟩ : ∃ y, y = ys.getD k 0 := ⟨_, rfl⟩
    rw [← hxx] at d0
    rw [← hyy] at d1
    by_cases hxy : x = y
    ·have HJ2 := hI (upTo1 HJ.out (show xs.getD k 0 = ys.getD k 0 by rw [← hxx, ← hyy]; exact hxy))
     clear hxx hyy hkx hky
     subst hxy
     have hne : (x != x) = false := by simp
     go_wp2
     (refine wp_region_ext (by kernel_rfl) (by kernel_rfl) ?_; (repeat (go_big_quiet_step (fail))); refine wpQuiet_nil ?_; intro wq hxwq; obtain ⟨hcwq, hfwq, hswq⟩ := hxwq.all; (try simp at hswq))
     go_wp2
     go_roundw
     case rel => exact ⟨k + 1, by omega, by go_num, HJ2, xT hx hxwq⟩
     case measure => simp [intOf]; omega
    ·have HF := hI (take_beqI (xs := xs) (ys := ys) (k := k) (by rw [← hxx, ← hyy]; exact hxy))
     have hne : (x != y) = true := by simpa using hxy
     clear hxx hyy hkx hky
     go_wp2
     (refine wp_region_ext (by kernel_rfl) (by kernel_rfl) ?_; (repeat (go_big_quiet_step (fail))); refine wpQuiet_nil ?_; intro wq hxwq; obtain ⟨hcwq, hfwq, hswq⟩ := hxwq.all; (try simp at hswq))
     go_wp2
     go_ret
     exact ⟨ret_bool' HF.out.symm, xT hx hxwq⟩
   ·obtain rfl : k = n := by omega
    have HT := hI (all_beqI (by rw [← HN.out, ← HM.out]) (fun j hj => HJ.out j (by rw [HN.out]; exact hj)))
    go_wp2
    go_ret
    exact ⟨ret_bool' HT.out.symm, hx⟩
 ·have HF : Hid ((xs == ys) = false) := hI (by rw [beq_eq_false_iff_ne]; intro e; exact hnm (by rw [HN.out, HM.out, e]))
  have hnm1 : ((n : Int) != (m : Int)) = true := by simp; omega
  go_enter Tryz.func57, Tryz.ntmps57
  go_wp2
  go_ret
  exact ⟨ret_bool' HF.out.symm, xR⟩
set_option maxRecDepth 20000 in
set_option maxHeartbeats 6400000 in
theorem i_UsedIn (A : Option Addr) (n c : Nat) (ns : List Nm) (y : Int) (w : World) (h : SlAt w 5 encN A ns) (hn : n = ns.length) (hl : ns.length ≤ 1048576) (hcap : n ≤ c) (hg : Names ns) (hm : Mx w) (hs : nsB ns = true) (hy : inB y (-3000) 3000 = true) :
  Calls Tryz.prog 105 #[.slice A n c, .int .i64 y] w fun e w' => ∃ v, e = .returned (.tuple #[v, .int .i64 0]) ∧ OwI w' w.heap.size v (usL ns y) ∧ Ext w w' := by
 have HA := hI (as_boolY (i_AreNames A n c ns w h hn hl hcap hg hm) hs)
 have HY := hI (fun W => as_boolG (i_isYear y W) hy)
 have HN := hI hn
 have HS := hI h
 have hn12 : n ≤ 12 := by rw [hn]; exact (nsB_iff.1 hs).2
 clear hn h hm hs hy hg
 go_enter Tryz.func105, Tryz.ntmps105
 (go_wp2_with fail; refine (HA.out).mono ?_; rintro e w1 ⟨rfl, hx1⟩; obtain ⟨hc1, hf1, hs1⟩ := hx1.all; (try simp at hs1))
 (go_wp2_with fail; refine (HY.out _).mono ?_; rintro e w' ⟨rfl, rfl⟩)
 go_wp2
 go_loopw [6, 19] (fun v i wr => ∃ k : Nat, k ≤ n ∧ i = .int .i64 k ∧ Hid (OwI wr w.heap.size v (usTo ns y k)) ∧ Ext w wr) (fun _ i _ => n - (intOf i).toNat)
 case atStart => exact ⟨0, by omega, rfl, hI (Own.nil _ _), hx1⟩
 case round =>
  obtain ⟨k, hk, rfl, HV, hxr⟩ := hrel
  obtain ⟨w5, rfl⟩ : ∃ x, x = wr := ⟨wr, rfl⟩
  by_cases hlt : k < n
  ·have hkr : k < ns.length := by rw [← HN.out]; exact hlt
   obtain ⟨b, off, rfl, hb, d0, d1, d2, d3, d4⟩ := (HS.out.ext hxr).nm hkr
   have hsucc := usTo_succ ns y k
   have hln := usTo_len ns y k
   have HH := hI (fun W => i_has (ns.getD k nmD).2.2.2.1 (ns.getD k nmD).2.2.2.2 y W)
   have hlk : usB ns y k = inB y (ns.getD k nmD).2.2.2.1 (ns.getD k nmD).2.2.2.2 := rfl
   cases hq : usB ns y k with
   | false =>
    rw [hq] at hsucc
    rw [← hlk, hq] at HH
    have HSU : Hid (usTo ns y (k + 1) = usTo ns y k) := hI (by rw [hsucc]; simp)
    clear hsucc hlk hq hln
    generalize ns.getD k nmD = l at *
    generalize tx l.1 = s0 at *
    generalize tx l.2.1 = s1 at *
    go_wp2_with fail
    refine (HH.out _).mono ?_
    rintro e w1 ⟨rfl, hx1⟩
    go_wp2
    go_roundw
    case rel => exact ⟨k + 1, by omega, by go_num, hI (by rw [HSU.out]; exact HV.out.ext (xT (xA xR) hx1)), xT (xA hxr) hx1⟩
    case measure => simp [intOf]; omega
   | true =>
    rw [hq] at hsucc
    rw [← hlk, hq] at HH
    have HSU : Hid (usTo ns y (k + 1) = usTo ns y k ++ [(k : Int)]) := hI (by rw [hsucc]; simp)
    have HLN : Hid ((usTo ns y k).length ≤ 1000) := hI (by omega)
    clear hsucc hlk hq hln
    generalize ns.getD k nmD = l at *
    generalize tx l.1 = s0 at *
    generalize tx l.2.1 = s1 at *
    go_wp2_with fail
    refine (HH.out _).mono ?_
    rintro e w1 ⟨rfl, hx1⟩
    obtain ⟨hc1, hf1⟩ := hx1.rules
    have hs1 := hx1.size
    (try simp at hs1)
    have := (show w5.heap.size < w1.heap.size from by omega)
    have hsr := hxr.size
    have HV1 : Hid (OwI w1 w.heap.size _ (usTo ns y k)) := hI (HV.out.ext (xT (xA xR) hx1))
    go_wp2_with (at_builtin; refine wpList_append_sl elI len_encI one_encI rfl _ _ rfl rfl (HV1.out.ext (xA xR)) (xs := [(k : Int)]) rfl (blk_i1 (bN (by omega))) (by have := HLN.out; simp; unfold maxLen; omega) (by have := HLN.out; simp; omega) (by first | omega | (simp; omega)) ?_)
    intro v' w6 hown hgrow _
    have HV2 := hI hown
    have hx6 : Ext w w6 := by
     refine Ext.grown ?_ hgrow (fun q hq => (HV.out.row q hq).1)
     exact xA (xT (xA hxr) hx1)
    clear hown hgrow
    go_wp2
    go_roundw
    case rel => exact ⟨k + 1, by omega, by go_num, hI (by rw [HSU.out]; exact HV2.out), hx6⟩
    case measure => simp [intOf]; omega
  ·obtain rfl : k = n := by omega
   have HO : Hid (OwI w5 w.heap.size _ (usL ns y)) := hI (by unfold usL; rw [← HN.out]; exact HV.out)
   go_wp2
   go_ret2
   exact ⟨_, rfl, HO.out.ext xR, hxr⟩
set_option maxHeartbeats 3200000 in
theorem i_used (p : Pl) (y : Int) (w : World) (h : PlAt w p) (hm : Mx w) (hs : nsB p.2.2.2.2.2.2 = true) (hy : inB y (-3000) 3000 = true) :
  Calls Tryz.prog 58 #[plV p, .int .i64 y] w fun e w' => ∃ v, e = .returned v ∧ OwI w' w.heap.size v (usL p.2.2.2.2.2.2 y) ∧ Ext w w' := by
 have HU := hI (fun W (hW : Ext w W) => i_UsedIn p.2.2.2.2.1 p.2.2.2.2.2.2.length p.2.2.2.2.2.1 p.2.2.2.2.2.2 y W (h.1.ext hW) rfl h.2.2.2.1 h.2.1 h.2.2.2.2 (hm.ext hW) hs hy)
 have HPV : plV p = .agg #[.string (tx p.1), .int .i64 p.2.1, .int .i64 p.2.2.1, .int .i64 p.2.2.2.1, .slice p.2.2.2.2.1 p.2.2.2.2.2.2.length p.2.2.2.2.2.1] := rfl
 rw [HPV]
 clear HPV h hm hs hy
 generalize tx p.1 = s0 at *
 generalize p.2.1 = s1 at *
 generalize p.2.2.1 = s2 at *
 generalize p.2.2.2.1 = s3 at *
 generalize p.2.2.2.2.1 = s4 at *
 generalize p.2.2.2.2.2.1 = s6 at *
 generalize p.2.2.2.2.2.2.length = s5 at *
 go_enter Tryz.func58, Tryz.ntmps58
 go_wp2_with fail
 refine (HU.out _ (xA xR)).mono ?_
 rintro e w1 ⟨v, rfl, hO, hx1⟩
 have HO := hI hO
 clear hO
 go_wp2
 go_ret
 exact ⟨_, rfl, HO.out.less (by first | exact Nat.le_refl _ | (simp; done) | (simp; omega)), xT (xA xR) hx1⟩
set_option maxRecDepth 20000 in
set_option maxHeartbeats 12800000 in
theorem i_isSteady (A A' : Option Addr) (n c m c' : Nat) (L : List Lk) (p : Pl) (y : Int) (w : World) (h : SlAt w 4 encK A' L) (hn : m = L.length) (hl : m ≤ 1048576) (hp : PlAt w p) (hm : Mx w) (hs : nsB p.2.2.2.2.2.2 = true) (hv : spB p.2.2.1 p.2.2.2.1 = true) (hy1 : -3001 ≤ y) (hy2 : y ≤ 3001) :
  Calls Tryz.prog 25 #[.agg #[.slice A n c, .slice A' m c'], plV p, .int .i64 y] w fun e w' => e = .returned (.bool (sdB (pdOf p) L y)) ∧ Ext w w' := by
 obtain ⟨v1, v2, v3⟩ := spB_iff.1 hv
 have hwr : IntKind.i64.wrap (y - 1) = y - 1 := IntWalk.i64_in _ (by omega)
 obtain ⟨e1, he1⟩ : ∃ e1, exB (pdOf p) y = e1 := ⟨_, rfl⟩
 obtain ⟨e2, he2⟩ : ∃ e2, exB (pdOf p) (y - 1) = e2 := ⟨_, rfl⟩
 have HH : Hid (∀ z q, (z = y ∧ q = e1) ∨ (z = y - 1 ∧ q = e2) → ∀ W, Calls Tryz.prog 56 #[.agg #[.int .i64 p.2.2.1, .int .i64 p.2.2.2.1], .int .i64 z] W fun e w' => e = .returned (.bool q) ∧ Ext W w') := hI (fun z q hz W => by
  rcases hz with ⟨rfl, rfl⟩ | ⟨rfl, rfl⟩
  ·rw [← he1]; exact i_has _ _ _ W
  ·rw [← he2]; exact i_has _ _ _ W)
 have HU : e1 = true → e2 = true → Hid (∀ z, (z = y ∨ z = y - 1) → ∀ W, Ext w W → Calls Tryz.prog 58 #[plV p, .int .i64 z] W fun e w' => ∃ v, e = .returned v ∧ OwI w' W.heap.size v (usL p.2.2.2.2.2.2 z) ∧ Ext W w') := fun h1 h2 => hI (fun z hz W hW => by
  refine i_used p z W (hp.ext hW) (hm.ext hW) hs (inB_iff.2 ?_)
  rw [h1] at he1
  rw [h2] at he2
  have a1 := inB_iff.1 he1
  have a2 := inB_iff.1 he2
  have b1 : (pdOf p).2.2.1 = p.2.2.1 := rfl
  have b2 : (pdOf p).2.2.2.1 = p.2.2.2.1 := rfl
  rw [b1, b2] at a1 a2
  rcases hz with rfl | rfl <;> omega)
 have HP : Hid (∀ z, ∀ W, Ext w W → Calls Tryz.prog 59 #[.agg #[.slice A n c, .slice A' m c'], .string (tx p.1), .int .i64 z] W fun e w' => e = .returned (.string (tx (parT L p.1 z))) ∧ Ext W w') := hI (fun z W hW => i_parentOf p.1 z (h.ext hW) hn hl)
 have hst : e1 = true → e2 = true → sdB (pdOf p) L y = ((usL p.2.2.2.2.2.2 y == usL p.2.2.2.2.2.2 (y - 1)) && (parT L p.1 y == parT L p.1 (y - 1))) := fun h1 h2 => by
  rw [sdB_both (he1.trans h1) (he2.trans h2)]; rfl
 have hsn : (e1 && e2) = false → sdB (pdOf p) L y = (e1 == e2) := fun h1 => by
  rw [sdB_not (by rw [he1, he2]; exact h1), he1, he2]
 have hlu : ∀ z, (usL p.2.2.2.2.2.2 z).length ≤ 1048576 := fun z => Nat.le_trans (usTo_len _ _ _) (by have := (nsB_iff.1 hs).2; omega)
 have HE : Hid (∀ W v v' b b', OwI W b v (usL p.2.2.2.2.2.2 y) → OwI W b' v' (usL p.2.2.2.2.2.2 (y - 1)) → Calls Tryz.prog 57 #[v, v'] W fun e w' => e = .returned (.bool (usL p.2.2.2.2.2.2 y == usL p.2.2.2.2.2.2 (y - 1))) ∧ Ext W w') := hI (fun W v v' b b' hO hO' => by
  obtain ⟨A1, c1, rfl, hS1, _⟩ := hO.sl len_encI
  obtain ⟨A2, c2, rfl, hS2, _⟩ := hO'.sl len_encI
  exact i_EqualI _ _ _ _ _ _ _ _ _ hS1 hS2 rfl rfl (hlu _) (hlu _))
 have HT1 := hI (tx_toL (parT L p.1 y))
 have HT2 := hI (tx_toL (parT L p.1 (y - 1)))
 have HPV : Hid (plV p = .agg #[.string (tx p.1), .int .i64 p.2.1, .int .i64 p.2.2.1, .int .i64 p.2.2.2.1, .slice p.2.2.2.2.1 p.2.2.2.2.2.2.length p.2.2.2.2.2.1]) := hI rfl
 clear h hn hp hm hs hv he1 he2 hlu
 generalize sdB (pdOf p) L y = res at *
 by_cases hb : (e1 && e2) = true
 ·rw [Bool.and_eq_true] at hb
  obtain ⟨rfl, rfl⟩ := hb
  have HST := hI (hst rfl rfl)
  have HUU := HU rfl rfl
  clear hst hsn HU
  obtain ⟨py, hpy⟩ : ∃ py, parT L p.1 y = py := ⟨_, rfl⟩
  obtain ⟨pz, hpz⟩ : ∃ pz, parT L p.1 (y - 1) = pz := ⟨_, rfl⟩
  have HP2 : Hid (∀ z (s : ByteArray), (z = y ∧ s = tx py) ∨ (z = y - 1 ∧ s = tx pz) → ∀ W, Ext w W → Calls Tryz.prog 59 #[.agg #[.slice A n c, .slice A' m c'], .string (tx p.1), .int .i64 z] W fun e w' => e = .returned (.string s) ∧ Ext W w') := hI (fun z s hz W hW => by
   rcases hz with ⟨rfl, rfl⟩ | ⟨rfl, rfl⟩
   ·rw [← hpy]; exact HP.out _ W hW
   ·rw [← hpz]; exact HP.out _ W hW)
  rw [hpy] at HST HT1
  rw [hpz] at HST HT2
  have hpq : (py == pz) = ((tx py).toList == (tx pz).toList) := by rw [HT1.out, HT2.out]
  rw [hpq] at HST
  clear HP hpy hpz hpq HT1 HT2
  rw [HPV.out] at HUU ⊢
  have HUV : Hid (∀ z us, ((z = y ∧ us = usL p.2.2.2.2.2.2 y) ∨ (z = y - 1 ∧ us = usL p.2.2.2.2.2.2 (y - 1))) → ∀ W, Ext w W → Calls Tryz.prog 58 #[.agg #[.string (tx p.1), .int .i64 p.2.1, .int .i64 p.2.2.1, .int .i64 p.2.2.2.1, .slice p.2.2.2.2.1 p.2.2.2.2.2.2.length p.2.2.2.2.2.1], .int .i64 z] W fun e w' => ∃ v, e = .returned v ∧ OwI w' W.heap.size v us ∧ Ext W w') := hI (fun z us hz W hW => by
   rcases hz with ⟨rfl, rfl⟩ | ⟨rfl, rfl⟩
   ·exact HUU.out _ (.inl rfl) W hW
   ·exact HUU.out _ (.inr rfl) W hW)
  clear HUU HPV
  generalize usL p.2.2.2.2.2.2 y = uy at *
  generalize usL p.2.2.2.2.2.2 (y - 1) = uz at *
  generalize tx py = sy at *
  generalize tx pz = sz at *
  generalize tx p.1 = s0 at *
  generalize p.2.1 = s1 at *
  generalize p.2.2.1 = s2 at *
  generalize p.2.2.2.1 = s3 at *
  generalize p.2.2.2.2.1 = s4 at *
  generalize p.2.2.2.2.2.1 = s6 at *
  generalize p.2.2.2.2.2.2.length = s5 at *
  generalize (uy == uz) = q1 at *
  clear v1 v2 v3
  go_enter Tryz.func25, Tryz.ntmps25
  go_wp2
  (refine wp_region_ext (by kernel_rfl) (by kernel_rfl) ?_; (repeat (go_big_quiet_step ((go_at_call 56; exact Calls_ext (HH.out _ _ (by first | exact .inl ⟨rfl, rfl⟩ | exact .inr ⟨rfl, rfl⟩) _))))); refine wpQuiet_nil ?_; intro wq hxwq; obtain ⟨hcwq, hfwq, hswq⟩ := hxwq.all; (try simp at hswq))
  have B3 : Blk wq w.heap.size 27 #[.slice A n c, .slice A' m c'] := Blk.eq (bE hxwq (bA (bN (by omega)))) (by rfl)
  have B4 : Blk wq (w.heap.size + 1) 57 #[.string s0, .int .i64 s1, .int .i64 s2, .int .i64 s3, .slice s4 s5 s6] := Blk.eq (bE hxwq (bN (by first|omega|simp))) (by rfl)
  have hX : Ext w wq := by clear B3 B4; exact xT (xA (xA xR)) hxwq
  have HX := hI hX
  have HK : Hid (∀ W, Ext wq W → W.cell? ⟨w.heap.size, 0, none⟩ = some (.slice A n c) ∧ W.cell? ⟨w.heap.size, 1, none⟩ = some (.slice A' m c') ∧ W.cell? ⟨w.heap.size + 1, 0, none⟩ = some (.string s0) ∧ W.cell? ⟨w.heap.size + 1, 1, none⟩ = some (.int .i64 s1) ∧ W.cell? ⟨w.heap.size + 1, 2, none⟩ = some (.int .i64 s2) ∧ W.cell? ⟨w.heap.size + 1, 3, none⟩ = some (.int .i64 s3) ∧ W.cell? ⟨w.heap.size + 1, 4, none⟩ = some (.slice s4 s5 s6)) := hI (fun W hW => ⟨(B3.ext hW).cell 0, (B3.ext hW).cell 1, (B4.ext hW).cell 0, (B4.ext hW).cell 1, (B4.ext hW).cell 2, (B4.ext hW).cell 3, (B4.ext hW).cell 4⟩)
  have z3 := B3.lt
  have z4 := B4.lt
  obtain ⟨g1, g2, g3, g4, g5, g6, g7⟩ := HK.out wq (Ext.refl _)
  clear B3 B4 hX hxwq hcwq hfwq
  cases q1 with
  | false =>
   have HR : Hid (res = false) := hI (by rw [HST.out, Bool.false_and])
   clear HST
   go_wp2
   refine wp_region_held_drew (S := (fun w' => w'.cell? ⟨w.heap.size, 0, none⟩ = some (.slice A n c) ∧ w'.cell? ⟨w.heap.size, 1, none⟩ = some (.slice A' m c') ∧ w'.cell? ⟨w.heap.size + 1, 0, none⟩ = some (.string s0) ∧ w'.cell? ⟨w.heap.size + 1, 1, none⟩ = some (.int .i64 s1) ∧ w'.cell? ⟨w.heap.size + 1, 2, none⟩ = some (.int .i64 s2) ∧ w'.cell? ⟨w.heap.size + 1, 3, none⟩ = some (.int .i64 s3) ∧ w'.cell? ⟨w.heap.size + 1, 4, none⟩ = some (.slice s4 s5 s6))) (by kernel_rfl) (by first | go_keep | exact HK.out _ (by (with_reducible repeat (first | exact Ext.refl _ | assumption | (apply Src.ext; assumption) | refine Ext.alloc ?_ _ | refine Ext.drew ?_ | refine Ext.drewN ?_ _ | (refine Ext.setCell' ?_ ?_ _; solve | omega | simp | (simp; omega)) | refine Ext.trans ?_ (by assumption))))) (fun hHeld => ?_)
   (refine wpAnyH_takeD (i := 0) (d := some 27) (v := ?_) rfl rfl (by kernel_rfl) (by kernel_rfl) (by kernel_rfl) (fun _ _ _ h => h) (Or.inl ⟨by rfl, ?_⟩) (by assumption) ?_; rotate_left; focus (intro w hSw; (try dsimp only at hSw); go_simp; (try with_reducible rfl); done); (try simp only [Act.put, List.setIfInBounds_toArray, List.set_cons_zero, List.set_cons_succ]))
   (refine wpAnyH_takeD (i := 1) (d := some 28) (v := ?_) rfl rfl (by kernel_rfl) (by kernel_rfl) (by kernel_rfl) (fun _ _ _ h => h) (Or.inl ⟨by rfl, ?_⟩) (by assumption) ?_; rotate_left; focus (intro w hSw; (try dsimp only at hSw); go_simp; (try with_reducible rfl); done); (try simp only [Act.put, List.setIfInBounds_toArray, List.set_cons_zero, List.set_cons_succ]))
   (refine wpAnyH_takeD (i := 3) (d := some 30) (v := ?_) rfl rfl (by kernel_rfl) (by kernel_rfl) (by kernel_rfl) (fun _ _ _ h => h) (Or.inl ⟨by rfl, ?_⟩) (by assumption) ?_; rotate_left; focus (intro w hSw; (try dsimp only at hSw); go_simp; (try with_reducible rfl); done); (try simp only [Act.put, List.setIfInBounds_toArray, List.set_cons_zero, List.set_cons_succ]))
   (refine wpAnyH_takeD (i := 4) (d := some 31) (v := ?_) rfl rfl (by kernel_rfl) (by kernel_rfl) (by kernel_rfl) (fun _ _ _ h => h) (Or.inl ⟨by rfl, ?_⟩) (by assumption) ?_; rotate_left; focus (intro w hSw; (try dsimp only at hSw); go_simp; (try with_reducible rfl); done); (try simp only [Act.put, List.setIfInBounds_toArray, List.set_cons_zero, List.set_cons_succ]))
   (refine wpAnyH_takeD (i := 5) (d := some 32) (v := ?_) rfl rfl (by kernel_rfl) (by kernel_rfl) (by kernel_rfl) (fun _ _ _ h => h) (Or.inl ⟨by rfl, ?_⟩) (by assumption) ?_; rotate_left; focus (intro w hSw; (try dsimp only at hSw); go_simp; (try with_reducible rfl); done); (try simp only [Act.put, List.setIfInBounds_toArray, List.set_cons_zero, List.set_cons_succ]))
   (refine wpAnyH_ready (rs := [2]) (by kernel_rfl) (by simp) ?_)
   (refine AllReadyH.cons rfl (fun K hK => ?_) ?_)
   rotate_left
   (exact AllReadyH.nil)
   go_simp
   (go_at_call 58; refine (HUV.out _ _ (by first | exact .inl ⟨rfl, rfl⟩ | exact .inr ⟨rfl, rfl⟩) _ (HX.out.trans (xD xR))).mono ?_; rintro e w7 ⟨v7, rfl, hO7, hx7⟩; have hs7 := hx7.size; have HO7 := hI hO7; clear hO7)
   (try go_wp2_with fail)
   (refine hK.out _ _ (by first | (go_keep; done) | exact HK.out _ (xT (xD xR) hx7)) (fun hHeld => ?_); clear hK K; (try simp only [Act.put, List.setIfInBounds_toArray, List.set_cons_zero, List.set_cons_succ]))
   (refine wpAnyH_ready (rs := [6]) (by kernel_rfl) (by simp) ?_)
   (refine AllReadyH.cons rfl (fun K hK => ?_) ?_)
   rotate_left
   (exact AllReadyH.nil)
   go_simp
   (go_at_call 58; refine (HUV.out _ _ (by first | exact .inl ⟨rfl, rfl⟩ | exact .inr ⟨rfl, rfl⟩) _ (HX.out.trans (xT (xD xR) hx7))).mono ?_; rintro e w7 ⟨v7, rfl, hO7, hx7⟩; have hs7 := hx7.size; have HO7 := hI hO7; clear hO7)
   (try go_wp2_with fail)
   (refine hK.out _ _ (by first | (go_keep; done) | exact HK.out _ (xT (xT (xD xR) (by assumption)) hx7)) (fun hHeld => ?_); clear hK K; (try simp only [Act.put, List.setIfInBounds_toArray, List.set_cons_zero, List.set_cons_succ]))
   (refine wpAnyH_ready (rs := [7]) (by kernel_rfl) (by simp) ?_)
   (refine AllReadyH.cons rfl (fun K hK => ?_) ?_)
   rotate_left
   (exact AllReadyH.nil)
   go_simp
   (go_at_call 57; refine (HE.out _ _ _ _ _ (Own.ext (Hid.out (by assumption)) hx7) (Own.ext (Hid.out (by assumption)) xR)).mono ?_; rintro e w8 ⟨rfl, hx8⟩; have hs8 := hx8.size)
   (try go_wp2_with fail)
   (refine hK.out _ _ (by first | (go_keep; done) | exact HK.out _ (xT (xT (xT (xD xR) (by assumption)) hx7) hx8)) (fun hHeld => ?_); clear hK K; (try simp only [Act.put, List.setIfInBounds_toArray, List.set_cons_zero, List.set_cons_succ]))
   (refine wpAnyH_takeD (i := 8) (d := some 35) (v := ?_) rfl rfl (by kernel_rfl) (by kernel_rfl) (by kernel_rfl) (fun _ _ _ h => h) (Or.inl ⟨by rfl, ?_⟩) (by assumption) ?_; rotate_left; focus (intro w hSw; (try dsimp only at hSw); go_simp; (try with_reducible rfl); done); (try simp only [Act.put, List.setIfInBounds_toArray, List.set_cons_zero, List.set_cons_succ]))
   (refine wpAnyH_takeD (i := 9) (d := some 36) (v := undef) rfl rfl (by kernel_rfl) (by kernel_rfl) (by kernel_rfl) (fun _ _ _ h => h) (Or.inr ⟨by rfl, rfl⟩) (by assumption) ?_; (try simp only [Act.put, List.setIfInBounds_toArray, List.set_cons_zero, List.set_cons_succ]))
   (refine wpAnyH_takeD (i := 10) (d := some 37) (v := undef) rfl rfl (by kernel_rfl) (by kernel_rfl) (by kernel_rfl) (fun _ _ _ h => h) (Or.inr ⟨by rfl, rfl⟩) (by assumption) ?_; (try simp only [Act.put, List.setIfInBounds_toArray, List.set_cons_zero, List.set_cons_succ]))
   (refine wpAnyH_takeD (i := 11) (d := some 38) (v := undef) rfl rfl (by kernel_rfl) (by kernel_rfl) (by kernel_rfl) (fun _ _ _ h => h) (Or.inr ⟨by rfl, rfl⟩) (by assumption) ?_; (try simp only [Act.put, List.setIfInBounds_toArray, List.set_cons_zero, List.set_cons_succ]))
   (refine wpAnyH_takeD (i := 12) (d := some 39) (v := undef) rfl rfl (by kernel_rfl) (by kernel_rfl) (by kernel_rfl) (fun _ _ _ h => h) (Or.inr ⟨by rfl, rfl⟩) (by assumption) ?_; (try simp only [Act.put, List.setIfInBounds_toArray, List.set_cons_zero, List.set_cons_succ]))
   (refine wpAnyH_takeD (i := 13) (d := some 40) (v := undef) rfl rfl (by kernel_rfl) (by kernel_rfl) (by kernel_rfl) (fun _ _ _ h => h) (Or.inr ⟨by rfl, rfl⟩) (by assumption) ?_; (try simp only [Act.put, List.setIfInBounds_toArray, List.set_cons_zero, List.set_cons_succ]))
   (refine wpAnyH_takeD (i := 14) (d := some 41) (v := undef) rfl rfl (by kernel_rfl) (by kernel_rfl) (by kernel_rfl) (fun _ _ _ h => h) (Or.inr ⟨by rfl, rfl⟩) (by assumption) ?_; (try simp only [Act.put, List.setIfInBounds_toArray, List.set_cons_zero, List.set_cons_succ]))
   (refine wpAnyH_takeD (i := 15) (d := some 42) (v := undef) rfl rfl (by kernel_rfl) (by kernel_rfl) (by kernel_rfl) (fun _ _ _ h => h) (Or.inr ⟨by rfl, rfl⟩) (by assumption) ?_; (try simp only [Act.put, List.setIfInBounds_toArray, List.set_cons_zero, List.set_cons_succ]))
   (refine wpAnyH_takeD (i := 16) (d := some 43) (v := undef) rfl rfl (by kernel_rfl) (by kernel_rfl) (by kernel_rfl) (fun _ _ _ h => h) (Or.inr ⟨by rfl, rfl⟩) (by assumption) ?_; (try simp only [Act.put, List.setIfInBounds_toArray, List.set_cons_zero, List.set_cons_succ]))
   (refine wpAnyH_takeD (i := 17) (d := some 44) (v := undef) rfl rfl (by kernel_rfl) (by kernel_rfl) (by kernel_rfl) (fun _ _ _ h => h) (Or.inr ⟨by rfl, rfl⟩) (by assumption) ?_; (try simp only [Act.put, List.setIfInBounds_toArray, List.set_cons_zero, List.set_cons_succ]))
   (refine wpAnyH_takeD (i := 18) (d := some 45) (v := undef) rfl rfl (by kernel_rfl) (by kernel_rfl) (by kernel_rfl) (fun _ _ _ h => h) (Or.inr ⟨by rfl, rfl⟩) (by assumption) ?_; (try simp only [Act.put, List.setIfInBounds_toArray, List.set_cons_zero, List.set_cons_succ]))
   (refine wpAnyH_takeD (i := 19) (d := some 46) (v := undef) rfl rfl (by kernel_rfl) (by kernel_rfl) (by kernel_rfl) (fun _ _ _ h => h) (Or.inr ⟨by rfl, rfl⟩) (by assumption) ?_; (try simp only [Act.put, List.setIfInBounds_toArray, List.set_cons_zero, List.set_cons_succ]))
   (refine wpAnyH_takeD (i := 20) (d := some 47) (v := undef) rfl rfl (by kernel_rfl) (by kernel_rfl) (by kernel_rfl) (fun _ _ _ h => h) (Or.inr ⟨by rfl, rfl⟩) (by assumption) ?_; (try simp only [Act.put, List.setIfInBounds_toArray, List.set_cons_zero, List.set_cons_succ]))
   (refine wpAnyH_takeD (i := 21) (d := some 48) (v := ?_) rfl rfl (by kernel_rfl) (by kernel_rfl) (by kernel_rfl) (fun _ _ _ h => h) (Or.inl ⟨by rfl, ?_⟩) (by assumption) ?_; rotate_left; focus (intro w hSw; (try dsimp only at hSw); go_simp; (try with_reducible rfl); done); (try simp only [Act.put, List.setIfInBounds_toArray, List.set_cons_zero, List.set_cons_succ]))
   (refine wpAnyH_takeD (i := 22) (d := some 6) (v := ?_) rfl rfl (by kernel_rfl) (by kernel_rfl) (by kernel_rfl) (fun _ _ _ h => h) (Or.inl ⟨by rfl, ?_⟩) (by assumption) ?_; rotate_left; focus (intro w hSw; (try dsimp only at hSw); go_simp; (try with_reducible rfl); done); (try simp only [Act.put, List.setIfInBounds_toArray, List.set_cons_zero, List.set_cons_succ]))
   refine wpAnyH_done (by kernel_rfl) ?_ _
   go_wp2
   go_ret
   exact ⟨ret_bool' HR.out.symm, HX.out.trans (xT (xT (xT (xD xR) (by assumption)) hx7) hx8)⟩
  | true =>
   have HR : Hid (res = (sy.toList == sz.toList)) := hI (by rw [HST.out, Bool.true_and])
   clear HST
   go_wp2
   go_region_held3 (fun w' => w'.cell? ⟨w.heap.size, 0, none⟩ = some (.slice A n c) ∧ w'.cell? ⟨w.heap.size, 1, none⟩ = some (.slice A' m c') ∧ w'.cell? ⟨w.heap.size + 1, 0, none⟩ = some (.string s0) ∧ w'.cell? ⟨w.heap.size + 1, 1, none⟩ = some (.int .i64 s1) ∧ w'.cell? ⟨w.heap.size + 1, 2, none⟩ = some (.int .i64 s2) ∧ w'.cell? ⟨w.heap.size + 1, 3, none⟩ = some (.int .i64 s3) ∧ w'.cell? ⟨w.heap.size + 1, 4, none⟩ = some (.slice s4 s5 s6)) (first | go_keep | exact HK.out _ (by with_reducible first|exact xT (xD xR) hx7|exact xT (xT (xD xR) (by assumption)) hx7|exact xT (xT (xT (xD xR) (by assumption)) hx7) hx8|exact xT (xT (xT (xT (xD xR) (by assumption)) hx7) hx8) hx9|exact xT (xT (xT (xT (xT (xD xR) (by assumption)) hx7) hx8) (by assumption)) hx9)) (first | (go_at_call 58; refine (HUV.out _ _ (by first | exact .inl ⟨rfl, rfl⟩ | exact .inr ⟨rfl, rfl⟩) _ (HX.out.trans (by with_reducible first|exact xD xR|exact xT (xD xR) hx7))).mono ?_; rintro e w7 ⟨v7, rfl, hO7, hx7⟩; have hs7 := hx7.size; have HO7 := hI hO7; clear hO7) | (go_at_call 57; refine (HE.out _ _ _ _ _ (Own.ext (Hid.out (by assumption)) hx7) (Own.ext (Hid.out (by assumption)) xR)).mono ?_; rintro e w8 ⟨rfl, hx8⟩; have hs8 := hx8.size) | (go_at_call 59; refine (HP2.out _ _ (by first | exact .inl ⟨rfl, rfl⟩ | exact .inr ⟨rfl, rfl⟩) _ (HX.out.trans (by with_reducible first|exact xT (xT (xT (xD xR) (by assumption)) hx7) hx8|exact xT (xT (xT (xT (xD xR) (by assumption)) hx7) hx8) hx9))).mono ?_; rintro e w9 ⟨rfl, hx9⟩; have hs9 := hx9.size))
   all_goals
    go_wp2
    go_ret
    exact ⟨ret_bool' HR.out.symm, HX.out.trans (xT (xT (xT (xT (xT (xD xR) (by assumption)) hx7) hx8) (by assumption)) hx9)⟩
 ·have hbf : (e1 && e2) = false := by simpa using hb
  have HR := hI (hsn hbf)
  clear hst hsn HU HP HE HT1 HT2 hb
  rw [HPV.out]
  generalize tx p.1 = s0 at *
  generalize p.2.1 = s1 at *
  generalize p.2.2.1 = s2 at *
  generalize p.2.2.2.1 = s3 at *
  generalize p.2.2.2.2.1 = s4 at *
  generalize p.2.2.2.2.2.1 = s6 at *
  generalize p.2.2.2.2.2.2.length = s5 at *
  clear v1 v2 v3 HPV
  cases e1 <;> cases e2 <;> first | (cases hbf; done) | skip
  all_goals
   go_enter Tryz.func25, Tryz.ntmps25
   go_wp2
   (refine wp_region_ext (by kernel_rfl) (by kernel_rfl) ?_; (repeat (go_big_quiet_step ((go_at_call 56; exact Calls_ext (HH.out _ _ (by first | exact .inl ⟨rfl, rfl⟩ | exact .inr ⟨rfl, rfl⟩) _))))); refine wpQuiet_nil ?_; intro wq hxwq; obtain ⟨hcwq, hfwq, hswq⟩ := hxwq.all; (try simp at hswq))
   go_wp2
   go_ret
   exact ⟨ret_bool' HR.out.symm, xT (xA (xA xR)) hxwq⟩
end Go.Proofs.YtlnliajnipniaaaGreatDoor
