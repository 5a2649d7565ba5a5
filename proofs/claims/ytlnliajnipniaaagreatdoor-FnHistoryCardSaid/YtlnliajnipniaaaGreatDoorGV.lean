/- Places, as the specification sees them. Registers, as the specification sees them. -/
import Derived.Test.YtlnliajnipniaaaGreatDoorGW
namespace Go.Proofs.YtlnliajnipniaaaGreatDoor
open Go.RowKit
attribute [local go_sem] ExtOf.cell ExtOf.frozen
theorem as_boolT {P : Program} {f : FuncId} {args : Array Value} {w : World} {b b' : Bool} (h : Calls P f args w fun e w' => e = .returned (.bool b) ∧ w = w') (e : b = b') : Calls P f args w fun e w' => e = .returned (.bool b') ∧ w = w' := e ▸ h
abbrev Pl := List UInt8 × Int × Int × Int × Option Addr × Nat × List Nm
def plD : Pl := ([], 0, 0, 0, none, 0, [])
def encQ (p : Pl) : List Value := [.string (tx p.1), .int .i64 p.2.1, .int .i64 p.2.2.1, .int .i64 p.2.2.2.1, .slice p.2.2.2.2.1 p.2.2.2.2.2.2.length p.2.2.2.2.2.1]
theorem len_encQ : ∀ n, (encQ n).length = 5 := fun _ => rfl
theorem one_encQ : ∀ p, ∀ u ∈ encQ p, u.oneCell' = true := by
 intro p u hu
 simp [encQ] at hu
 rcases hu with rfl | rfl | rfl | rfl | rfl <;> rfl
abbrev Pd := List UInt8 × Int × Int × Int × List Nm
def pdD : Pd := ([], 0, 0, 0, [])
def pdOf (p : Pl) : Pd := (p.1, p.2.1, p.2.2.1, p.2.2.2.1, p.2.2.2.2.2.2)
def psD (ps : List Pl) : List Pd := ps.map pdOf
theorem psD_len (ps : List Pl) : (psD ps).length = ps.length := List.length_map ..
theorem psD_at {ps : List Pl} {k : Nat} (hk : k < ps.length) : (psD ps).getD k pdD = pdOf (ps.getD k plD) := by simp [psD, List.getD, hk]
def PlAt (w : World) (p : Pl) : Prop := SlAt w 5 encN p.2.2.2.2.1 p.2.2.2.2.2.2 ∧ p.2.2.2.2.2.2.length ≤ p.2.2.2.2.2.1 ∧ p.1.length ≤ 1048576 ∧ p.2.2.2.2.2.2.length ≤ 1048576 ∧ Names p.2.2.2.2.2.2
theorem PlAt.ext {w w' : World} {p : Pl} (h : PlAt w p) (hx : Ext w w') : PlAt w' p := ⟨h.1.ext hx, h.2⟩
def Places (w : World) (ps : List Pl) : Prop := ∀ p ∈ ps, PlAt w p
theorem Places.ext {w w' : World} {ps : List Pl} (h : Places w ps) (hx : Ext w w') : Places w' ps := fun p hp => (h p hp).ext hx
theorem pl_mem {ps : List Pl} {k : Nat} (hk : k < ps.length) : ps.getD k plD ∈ ps := by simp [List.getD, hk]
def inY (a b : Int) (n : Nm) : Bool := !decide (n.2.2.2.1 < a) && !decide (b < n.2.2.2.2)
def plB (d : Pd) : Bool := smL d.1 1 16 && (inB d.2.1 0 19 && (spB d.2.2.1 d.2.2.2.1 && (nsB d.2.2.2.2 && d.2.2.2.2.all (inY d.2.2.1 d.2.2.2.1))))
theorem all_getD {ns : List Nm} {p : Nm → Bool} : ns.all p = true ↔ ∀ j, j < ns.length → p (ns.getD j nmD) = true := by
 rw [List.all_eq_true]
 constructor
 ·intro h j hj
  exact h _ (by simp [List.getD, hj])
 ·intro h x hx
  obtain ⟨j, hj, rfl⟩ := List.mem_iff_getElem.1 hx
  simpa [List.getD, hj] using h j hj
theorem SlAt.pl {w : World} {A : Option Addr} {ps : List Pl} (h : SlAt w 5 encQ A ps) {k : Nat} (hk : k < ps.length) :
  ∃ b off, A = some ⟨b, off, none⟩ ∧ b < w.heap.size ∧ w.cell? ⟨b, off + k * 5, none⟩ = some (.string (tx (ps.getD k plD).1)) ∧
   w.cell? ⟨b, off + k * 5 + 1, none⟩ = some (.int .i64 (ps.getD k plD).2.1) ∧ w.cell? ⟨b, off + k * 5 + 2, none⟩ = some (.int .i64 (ps.getD k plD).2.2.1) ∧
   w.cell? ⟨b, off + k * 5 + 3, none⟩ = some (.int .i64 (ps.getD k plD).2.2.2.1) ∧ w.cell? ⟨b, off + k * 5 + 4, none⟩ = some (.slice (ps.getD k plD).2.2.2.2.1 (ps.getD k plD).2.2.2.2.2.2.length (ps.getD k plD).2.2.2.2.2.1) := by
 obtain ⟨b, off, e, hb, hc⟩ := h (by omega)
 have hg : ps[k]? = some (ps.getD k plD) := by simp [List.getD, hk]
 exact ⟨b, off, e, hb, by simpa using hc k _ hg 0 _ rfl, hc k _ hg 1 _ rfl, hc k _ hg 2 _ rfl, hc k _ hg 3 _ rfl, hc k _ hg 4 _ rfl⟩
theorem SlAt.pl' {w : World} {b off : Nat} {ps : List Pl} (h : SlAt w 5 encQ (some ⟨b, off, none⟩) ps) {k : Nat} (hk : k < ps.length) :
  w.cell? ⟨b, off + k * 5, none⟩ = some (.string (tx (ps.getD k plD).1)) ∧
   w.cell? ⟨b, off + k * 5 + 1, none⟩ = some (.int .i64 (ps.getD k plD).2.1) ∧ w.cell? ⟨b, off + k * 5 + 2, none⟩ = some (.int .i64 (ps.getD k plD).2.2.1) ∧
   w.cell? ⟨b, off + k * 5 + 3, none⟩ = some (.int .i64 (ps.getD k plD).2.2.2.1) ∧ w.cell? ⟨b, off + k * 5 + 4, none⟩ = some (.slice (ps.getD k plD).2.2.2.2.1 (ps.getD k plD).2.2.2.2.2.2.length (ps.getD k plD).2.2.2.2.2.1) := by
 obtain ⟨b', off', e, _, h0⟩ := h.pl hk
 injection e with e
 injection e with e1 e2
 subst e1 e2
 exact h0
set_option maxRecDepth 20000 in
set_option maxHeartbeats 12800000 in
theorem s_IsPlace (co : List UInt8) (cl a b : Int) (A : Option Addr) (n c : Nat) (ns : List Nm) (w : World) (hco : co.length ≤ 1048576) (h : SlAt w 5 encN A ns) (hn : n = ns.length) (hl : ns.length ≤ 1048576) (hg : Names ns) :
  Calls Tryz.prog 132 #[.agg #[.string (tx co), .int .i64 cl, .int .i64 a, .int .i64 b, .slice A n c]] w fun e w' => e = .returned (.bool (plB (co, cl, a, b, ns))) ∧ Ext w w' := by
 have HN := hI hn
 have hn2 : n ≤ 1048576 := by omega
 have HRES : Hid (plB (co, cl, a, b, ns) = (smL co 1 16 && (inB cl 0 19 && (spB a b && (nsB ns && ns.all (inY a b)))))) := hI rfl
 have HC1 := hI (fun W => by have := s_IsWord (tx co) W (by rw [tx_size]; omega); rw [smB_tx] at this; exact this)
 have HC3 := hI (fun W => s_IsSpan a b W)
 have HC4 := hI (fun W hW => s_AreNames A n c ns W hW hn hl hg)
 have HS := hI h
 generalize plB (co, cl, a, b, ns) = res at *
 generalize tx co = sco at *
 clear hn h hg hco
 cases h1 : smL co 1 16 with
 | false =>
  have HR : Hid (res = false) := hI (by rw [HRES.out]; simp [h1])
  rw [h1] at HC1
  clear h1
  go_enter Tryz.func132, Tryz.ntmps132
  (go_wp2_with fail; refine (HC1.out _).mono ?_; rintro e w1 ⟨rfl, hx1⟩; obtain ⟨hc1, hf1, hs1⟩ := hx1.all; (try simp at hs1); have := (show w.heap.size < w1.heap.size from by omega))
  go_wp2
  go_ret
  exact ⟨ret_bool HR.out.symm, xT (xA xR) hx1⟩
 | true =>
  rw [h1] at HC1
  cases h2 : inB cl 0 19 with
  | false =>
   have HR : Hid (res = false) := hI (by rw [HRES.out]; simp [h2])
   have HC2 := hI (fun W => as_boolT (l01In_any cl 0 19 W) h2)
   clear h1 h2
   go_enter Tryz.func132, Tryz.ntmps132
   (go_wp2_with fail; refine (HC1.out _).mono ?_; rintro e w1 ⟨rfl, hx1⟩; obtain ⟨hc1, hf1, hs1⟩ := hx1.all; (try simp at hs1); have := (show w.heap.size < w1.heap.size from by omega))
   (go_wp2_with fail; refine (HC2.out _).mono ?_; rintro e w' ⟨rfl, rfl⟩)
   go_wp2
   go_ret
   exact ⟨ret_bool HR.out.symm, xT (xA xR) hx1⟩
  | true =>
   have HC2 := hI (fun W => as_boolT (l01In_any cl 0 19 W) h2)
   cases h3 : spB a b with
   | false =>
    have HR : Hid (res = false) := hI (by rw [HRES.out]; simp [h3])
    rw [h3] at HC3
    clear h1 h2 h3
    go_enter Tryz.func132, Tryz.ntmps132
    (go_wp2_with fail; refine (HC1.out _).mono ?_; rintro e w1 ⟨rfl, hx1⟩; obtain ⟨hc1, hf1, hs1⟩ := hx1.all; (try simp at hs1); have := (show w.heap.size < w1.heap.size from by omega))
    (go_wp2_with fail; refine (HC2.out _).mono ?_; rintro e w' ⟨rfl, rfl⟩)
    (go_wp2_with fail; refine (HC3.out _).mono ?_; rintro e w3 ⟨rfl, hx3⟩; obtain ⟨hc3, hf3, hs3⟩ := hx3.all; (try simp at hs3); have := (show w.heap.size < w3.heap.size from by omega))
    go_wp2
    go_ret
    exact ⟨ret_bool HR.out.symm, xT (xT (xA xR) hx1) hx3⟩
   | true =>
    rw [h3] at HC3
    cases h4 : nsB ns with
    | false =>
     have HR : Hid (res = false) := hI (by rw [HRES.out]; simp [h4])
     rw [h4] at HC4
     clear h1 h2 h3 h4
     go_enter Tryz.func132, Tryz.ntmps132
     (go_wp2_with fail; refine (HC1.out _).mono ?_; rintro e w1 ⟨rfl, hx1⟩; obtain ⟨hc1, hf1, hs1⟩ := hx1.all; (try simp at hs1); have := (show w.heap.size < w1.heap.size from by omega))
     (go_wp2_with fail; refine (HC2.out _).mono ?_; rintro e w' ⟨rfl, rfl⟩)
     (go_wp2_with fail; refine (HC3.out _).mono ?_; rintro e w3 ⟨rfl, hx3⟩; obtain ⟨hc3, hf3, hs3⟩ := hx3.all; (try simp at hs3); have := (show w.heap.size < w3.heap.size from by omega))
     (go_wp2_with fail; refine (HC4.out _ (HS.out.ext (xT (xT (xA xR) hx1) hx3))).mono ?_; rintro e w4 ⟨rfl, hx4⟩; obtain ⟨hc4, hf4, hs4⟩ := hx4.all; (try simp at hs4); have := (show w.heap.size < w4.heap.size from by omega))
     go_wp2
     go_ret
     exact ⟨ret_bool HR.out.symm, xT (xT (xT (xA xR) hx1) hx3) hx4⟩
    | true =>
     rw [h4] at HC4
     have HR : Hid (res = ns.all (inY a b)) := hI (by rw [HRES.out]; simp [h1, h2, h3, h4])
     clear h1 h2 h3 h4
     go_enter Tryz.func132, Tryz.ntmps132
     (go_wp2_with fail; refine (HC1.out _).mono ?_; rintro e w1 ⟨rfl, hx1⟩; obtain ⟨hc1, hf1, hs1⟩ := hx1.all; (try simp at hs1); have := (show w.heap.size < w1.heap.size from by omega))
     (go_wp2_with fail; refine (HC2.out _).mono ?_; rintro e w' ⟨rfl, rfl⟩)
     (go_wp2_with fail; refine (HC3.out _).mono ?_; rintro e w3 ⟨rfl, hx3⟩; obtain ⟨hc3, hf3, hs3⟩ := hx3.all; (try simp at hs3); have := (show w.heap.size < w3.heap.size from by omega))
     (go_wp2_with fail; refine (HC4.out _ (HS.out.ext (xT (xT (xA xR) hx1) hx3))).mono ?_; rintro e w4 ⟨rfl, hx4⟩; obtain ⟨hc4, hf4, hs4⟩ := hx4.all; (try simp at hs4); have := (show w.heap.size < w4.heap.size from by omega))
     go_wp2
     go_loopw [3] (fun i wr => ∃ k : Nat, k ≤ n ∧ i = .int .i64 k ∧ Hid (∀ j, j < k → inY a b (ns.getD j nmD) = true) ∧ Blk wr w.heap.size 57 #[.string sco, .int .i64 cl, .int .i64 a, .int .i64 b, .slice A n c] ∧ Ext w wr) (fun i _ => n - (intOf i).toNat)
     case atStart => exact ⟨0, by omega, rfl, fun j hj => absurd hj (by omega), Blk.eq (bE hx4 (bE hx3 (bE hx1 (bN (by omega))))) (by rfl), xT (xT (xT (xA xR) hx1) hx3) hx4⟩
     case round =>
      obtain ⟨k, hk, rfl, HJ, hB, hxr⟩ := hrel
      have hBl := hB.lt
      have HB := hI hB
      have a2 : wr.cell? ⟨w.heap.size, 2, none⟩ = some (.int .i64 a) := hB.cell 2
      have a3 : wr.cell? ⟨w.heap.size, 3, none⟩ = some (.int .i64 b) := hB.cell 3
      have a4 : wr.cell? ⟨w.heap.size, 4, none⟩ = some (.slice A n c) := hB.cell 4
      clear hB
      by_cases hlt : k < n
      ·have hkl : k < ns.length := by have := HN.out; omega
       obtain ⟨bb, off, rfl, hb, d0, d1, d2, d3, d4⟩ := (HS.out.ext hxr).nm hkl
       clear d0 d1 d2
       obtain ⟨v, hve⟩ : ∃ v, v = ns.getD k nmD := ⟨_, rfl⟩
       rw [← hve] at d3 d4
       obtain ⟨vt, vl, vs, va, vb⟩ := v
       simp only at d3 d4
       have HIN : Hid (inY a b (ns.getD k nmD) = (!decide (va < a) && !decide (b < vb))) := hI (by rw [← hve]; rfl)
       have HKL := hI hkl
       clear hve hkl
       cases hA : decide (va < a) with
       | true =>
        have HNO : Hid (ns.all (inY a b) = false) := hI (by
         cases e : ns.all (inY a b) with
         | false => rfl
         | true => have := all_getD.1 e k HKL.out; rw [HIN.out, hA] at this; cases this)
        go_wp2
        (refine wp_region_ext (by kernel_rfl) (by kernel_rfl) ?_; (repeat (go_big_quiet_step (fail))); refine wpQuiet_nil ?_; intro wq hxwq; obtain ⟨hcwq, hfwq, hswq⟩ := hxwq.all; (try simp at hswq))
        go_wp2
        go_ret
        exact ⟨ret_bool (HR.out.trans HNO.out).symm, xT hxr hxwq⟩
       | false =>
        cases hD : decide (b < vb) with
        | true =>
         have HNO : Hid (ns.all (inY a b) = false) := hI (by
          cases e : ns.all (inY a b) with
          | false => rfl
          | true => have := all_getD.1 e k HKL.out; rw [HIN.out, hA, hD] at this; cases this)
         go_wp2
         (refine wp_region_ext (by kernel_rfl) (by kernel_rfl) ?_; (repeat (go_big_quiet_step (fail))); refine wpQuiet_nil ?_; intro wq hxwq; obtain ⟨hcwq, hfwq, hswq⟩ := hxwq.all; (try simp at hswq))
         go_wp2
         go_ret
         exact ⟨ret_bool (HR.out.trans HNO.out).symm, xT hxr hxwq⟩
        | false =>
         have HJ2 := hI (upTo1 HJ.out (show inY a b (ns.getD k nmD) = true by rw [HIN.out, hA, hD]; rfl))
         go_wp2
         (refine wp_region_ext (by kernel_rfl) (by kernel_rfl) ?_; (repeat (go_big_quiet_step (fail))); refine wpQuiet_nil ?_; intro wq hxwq; obtain ⟨hcwq, hfwq, hswq⟩ := hxwq.all; (try simp at hswq))
         go_wp2
         go_roundw
         case rel => exact ⟨k + 1, by omega, by go_num, HJ2, HB.out.ext hxwq, xT hxr hxwq⟩
         case measure => simp [intOf]; omega
      ·obtain rfl : k = n := by omega
       have HY : Hid (ns.all (inY a b) = true) := hI (all_getD.2 fun j hj => HJ.out j (by have := HN.out; omega))
       go_wp2
       go_ret
       exact ⟨ret_bool (HR.out.trans HY.out).symm, hxr⟩
def okR (D : List Pd) (j : Nat) : Bool := plB (D.getD j pdD) && (decide (j = 0) || Op.bytesLess (D.getD (j - 1) pdD).1 (D.getD j pdD).1)
def rgB (D : List Pd) : Bool := ((List.range D.length).all fun j => okR D j) && decide (D.length ≤ 10)
theorem rgB_iff {D : List Pd} : rgB D = true ↔ (∀ j, j < D.length → okR D j = true) ∧ D.length ≤ 10 := by simp [rgB]
theorem rgB_no {D : List Pd} {j : Nat} (hj : j < D.length) (h : okR D j = false) : rgB D = false := by
 cases e : rgB D with
 | false => rfl
 | true => rw [(rgB_iff.1 e).1 j hj] at h; cases h
set_option maxRecDepth 20000 in
set_option maxHeartbeats 12800000 in
theorem s_IsRegister (A : Option Addr) (n c : Nat) (ps : List Pl) (w : World) (h : SlAt w 5 encQ A ps) (hp : Places w ps) (hn : n = ps.length) (hl : ps.length ≤ 1048576) :
  Calls Tryz.prog 83 #[.slice A n c] w fun e w' => e = .returned (.bool (rgB (psD ps))) ∧ Ext w w' := by
 have HN := hI hn
 have hn2 : n ≤ 1048576 := by omega
 clear hn
 go_enter Tryz.func83, Tryz.ntmps83
 go_wp2
 go_loopw [3] (fun i wr => ∃ k : Nat, k ≤ n ∧ i = .int .i64 k ∧ Hid (∀ j, j < k → okR (psD ps) j = true) ∧ Ext w wr) (fun i _ => n - (intOf i).toNat)
 case atStart => exact ⟨0, by omega, rfl, fun j hj => absurd hj (by omega), xR⟩
 case round =>
  obtain ⟨k, hk, rfl, HJ, hxr⟩ := hrel
  obtain ⟨w5, rfl⟩ : ∃ x, x = wr := ⟨wr, rfl⟩
  by_cases hlt : k < n
  ·have hkl : k < ps.length := by have := HN.out; omega
   have hkd : k < (psD ps).length := by rw [psD_len]; exact hkl
   obtain ⟨b, off, rfl, hb, d0, d1, d2, d3, d4⟩ := (h.ext hxr).pl hkl
   have hprev : ∀ m, k = m + 1 → w5.cell? ⟨b, off + m * 5, none⟩ = some (.string (tx (ps.getD m plD).1)) ∧ (psD ps).getD m pdD = pdOf (ps.getD m plD) := fun m hm => ⟨((h.ext hxr).pl' (show m < ps.length by omega)).1, psD_at (by omega)⟩
   have HPV := hI hprev
   have hvk := (hp _ (pl_mem hkl))
   have hat := psD_at hkl
   obtain ⟨v, hve⟩ : ∃ v, v = ps.getD k plD := ⟨_, rfl⟩
   rw [← hve] at d0 d1 d2 d3 d4 hvk hat
   obtain ⟨vc, vl, va, vb, vA, vcap, vns⟩ := v
   simp only [pdOf] at d0 d1 d2 d3 d4 hat
   have HAT := hI hat
   have HVK := hI hvk
   have HC := hI (fun W (hW : Ext w W) => s_IsPlace vc vl va vb vA vns.length vcap vns W hvk.2.2.1 (hvk.1.ext hW) rfl hvk.2.2.2.1 hvk.2.2.2.2)
   have HKD := hI hkd
   have HTC := hI (tx_toL vc)
   clear hve hvk hat hprev hkd hkl
   have HS := hI h
   clear h hp
   generalize hq0 : plB (vc, vl, va, vb, vns) = q at HC
   have HQ : Hid (plB ((psD ps).getD k pdD) = q) := hI (by rw [HAT.out]; exact hq0)
   cases q with
   | false =>
    have HNO : Hid (rgB (psD ps) = false) := hI (rgB_no HKD.out (by unfold okR; rw [HQ.out]; rfl))
    generalize tx vc = sc at *
    generalize vns.length = vn at *
    clear hq0 HPV
    go_wp2
    (refine wp_region_ext (by kernel_rfl) (by kernel_rfl) ?_; (repeat (go_big_quiet_step ((go_at_call 132; exact Calls_ext (HC.out _ (hxr.trans (ExtOf.ext _))))))); refine wpQuiet_nil ?_; intro wq hxwq; obtain ⟨hcwq, hfwq, hswq⟩ := hxwq.all; (try simp at hswq))
    go_wp2
    go_ret
    exact ⟨ret_bool HNO.out.symm, xT hxr hxwq⟩
   | true =>
    by_cases hk0 : k = 0
    ·have hg0 : decide (0 < k) = false := decide_eq_false (by omega)
     have HJ2 := hI (upTo1 HJ.out (show okR (psD ps) k = true by unfold okR; rw [HQ.out, hk0]; rfl))
     generalize tx vc = sc at *
     generalize vns.length = vn at *
     clear hq0 HPV hk0
     go_wp2
     (refine wp_region_ext (by kernel_rfl) (by kernel_rfl) ?_; (repeat (go_big_quiet_step ((go_at_call 132; exact Calls_ext (HC.out _ (hxr.trans (ExtOf.ext _))))))); refine wpQuiet_nil ?_; intro wq hxwq; obtain ⟨hcwq, hfwq, hswq⟩ := hxwq.all; (try simp at hswq))
     go_wp2
     go_roundw
     case rel => exact ⟨k + 1, by omega, by go_num, HJ2, xT hxr hxwq⟩
     case measure => simp [intOf]; omega
    ·obtain ⟨m, hm⟩ : ∃ m, k = m + 1 := ⟨k - 1, by omega⟩
     obtain ⟨p0, hpa⟩ := HPV.out m hm
     have hg0 : decide (0 < k) = true := decide_eq_true (by omega)
     have hw : IntKind.i64.wrap ((k : Int) - 1) = (m : Int) := by rw [IntWalk.i64_in _ (by omega)]; omega
     have HKM : Hid (k - 1 = m ∧ ¬ k = 0) := hI ⟨by omega, hk0⟩
     have htm := tx_toL (ps.getD m plD).1
     have HVAL : Hid (okR (psD ps) k = Op.bytesLess (tx (ps.getD m plD).1).toList (tx vc).toList) := hI (by unfold okR; rw [HQ.out, HKM.out.1, hpa, HAT.out, htm, HTC.out]; simp [HKM.out.2, pdOf])
     have HLEN : Hid (m < n) := hI (by omega)
     have hmn : m < n := by omega
     have HMM := hI hm
     generalize tx vc = sc at *
     generalize tx (ps.getD m plD).1 = s0 at *
     generalize vns.length = vn at *
     clear hq0 HPV hk0 hpa htm hm
     cases hb2 : Op.bytesLess s0.toList sc.toList with
     | true =>
      have HJ2 := hI (upTo1 HJ.out (show okR (psD ps) k = true by rw [HVAL.out, hb2]))
      go_wp2
      (refine wp_region_ext (by kernel_rfl) (by kernel_rfl) ?_; (repeat (go_big_quiet_step ((go_at_call 132; exact Calls_ext (HC.out _ (hxr.trans (ExtOf.ext _))))))); refine wpQuiet_nil ?_; intro wq hxwq; obtain ⟨hcwq, hfwq, hswq⟩ := hxwq.all; (try simp at hswq))
      go_wp2
      go_roundw
      case rel => exact ⟨k + 1, by omega, by go_num, HJ2, xT hxr hxwq⟩
      case measure => simp [intOf]; omega
     | false =>
      have HNO : Hid (rgB (psD ps) = false) := hI (rgB_no HKD.out (by rw [HVAL.out, hb2]))
      go_wp2
      (refine wp_region_ext (by kernel_rfl) (by kernel_rfl) ?_; (repeat (go_big_quiet_step ((go_at_call 132; exact Calls_ext (HC.out _ (hxr.trans (ExtOf.ext _))))))); refine wpQuiet_nil ?_; intro wq hxwq; obtain ⟨hcwq, hfwq, hswq⟩ := hxwq.all; (try simp at hswq))
      go_wp2
      go_ret
      exact ⟨ret_bool HNO.out.symm, xT hxr hxwq⟩
  ·obtain rfl : k = n := by omega
   have hres : rgB (psD ps) = decide ((k : Int) ≤ 10) := by
    have h1 := HN.out
    have h2 := psD_len ps
    cases e : decide ((k : Int) ≤ 10) with
    | true => exact rgB_iff.2 ⟨fun j hj => HJ.out j (by omega), by simp at e; omega⟩
    | false =>
     cases e2 : rgB (psD ps) with
     | false => rfl
     | true => have := (rgB_iff.1 e2).2; simp at e; omega
   have HR := hI hres
   clear hres
   go_wp2
   go_ret
   exact ⟨ret_bool HR.out.symm, hxr⟩
end Go.Proofs.YtlnliajnipniaaaGreatDoor
