/- Spans, names and links: what they are, and the specification's words for them. Lists of names, as the specification sees them. Links, parents and places in lists of texts, as the specification sees them. -/
import Derived.Test.YtlnliajnipniaaaGreatDoorGT
import Derived.Test.YtlnliajnipniaaaGreatDoorGP
namespace Go.Proofs.YtlnliajnipniaaaGreatDoor
open Go.RowKit
attribute [local go_sem] ExtOf.cell ExtOf.frozen
theorem upTo1 {P : Nat → Prop} {k : Nat} (h : ∀ j, j < k → P j) (hk : P k) : ∀ j, j < k + 1 → P j := fun j hj => by
 rcases Nat.lt_or_ge j k with e | e
 ·exact h j e
 ·have : j = k := by omega
  exact this ▸ hk
theorem tx_toL (l : List UInt8) : (tx l).toList = l := by rw [ByteArray.toList_eq, tx_list]
def spB (a b : Int) : Bool := inB a (-3000) 3000 && inB b (-3000) 3000 && decide (a ≤ b)
theorem spB_iff {a b : Int} : spB a b = true ↔ -3000 ≤ a ∧ a ≤ b ∧ b ≤ 3000 := by simp [spB, inB]; omega
set_option maxHeartbeats 3200000 in
theorem s_l02Year (x : Int) (w : World) : Calls Tryz.prog 41 #[.int .i64 x] w fun e w' => e = .returned (.bool (inB x (-3000) 3000)) ∧ w = w' := by
 go_enter Tryz.func41, Tryz.ntmps41
 go_wp2_with (first | (go_at_call 61; refine (l01In_any _ _ _ _).mono ?_; rintro e w' ⟨rfl, rfl⟩))
 go_ret
 exact ⟨rfl, rfl⟩
set_option maxHeartbeats 3200000 in
theorem s_IsSpan (a b : Int) (w : World) : Calls Tryz.prog 165 #[.agg #[.int .i64 a, .int .i64 b]] w fun e w' => e = .returned (.bool (spB a b)) ∧ Ext w w' := by
 go_enter Tryz.func165, Tryz.ntmps165
 go_wp2_with (first | (go_at_call 41; refine (s_l02Year _ _).mono ?_; rintro e w' ⟨rfl, rfl⟩))
 all_goals go_ret
 all_goals refine ⟨ret_bool' ?_, xA xR⟩
 all_goals (try simp only [Bool.not_eq_true', Bool.not_eq_false'] at *)
 all_goals (simp [spB, *])
set_option maxHeartbeats 3200000 in
theorem s_l02Meet (a b c d : Int) (w : World) : Calls Tryz.prog 134 #[.agg #[.int .i64 a, .int .i64 b], .agg #[.int .i64 c, .int .i64 d]] w fun e w' => e = .returned (.bool (meetB a b c d)) ∧ Ext w w' := by
 go_enter Tryz.func134, Tryz.ntmps134
 go_wp2
 all_goals go_ret
 all_goals refine ⟨ret_bool' ?_, xA (xA xR)⟩
 all_goals (try simp only [Bool.not_eq_true', Bool.not_eq_false'] at *)
 all_goals (first | (simp [meetB, *]; done) | (simp [meetB]; omega))
abbrev Nm := List UInt8 × List UInt8 × Int × Int × Int
def nmD : Nm := ([], [], 0, 0, 0)
def encN (n : Nm) : List Value := [.string (tx n.1), .string (tx n.2.1), .int .i64 n.2.2.1, .int .i64 n.2.2.2.1, .int .i64 n.2.2.2.2]
theorem len_encN : ∀ n, (encN n).length = 5 := fun _ => rfl
theorem one_encN : ∀ p, ∀ u ∈ encN p, u.oneCell' = true := by
 intro p u hu
 simp [encN] at hu
 rcases hu with rfl | rfl | rfl | rfl | rfl <;> rfl
def GoodN (n : Nm) : Prop := n.1.length ≤ 1048576 ∧ n.2.1.length ≤ 1048576
def nmB (n : Nm) : Bool := phB n.1 && smL n.2.1 2 3 && inB n.2.2.1 0 2 && spB n.2.2.2.1 n.2.2.2.2
def clB (a b : Nm) : Bool := decide (a.2.2.1 = 0) && decide (b.2.2.1 = 0) && (a.2.1 == b.2.1) && meetB a.2.2.2.1 a.2.2.2.2 b.2.2.2.1 b.2.2.2.2
def okN (L : List Nm) (j : Nat) : Bool := nmB (L.getD j nmD) && (List.range j).all fun q => !clB (L.getD j nmD) (L.getD q nmD)
def nsB (L : List Nm) : Bool := ((List.range L.length).all fun j => okN L j) && decide (L.length ≤ 12)
theorem okN_iff {L : List Nm} {j : Nat} : okN L j = true ↔ nmB (L.getD j nmD) = true ∧ ∀ q, q < j → clB (L.getD j nmD) (L.getD q nmD) = false := by
 simp [okN]
theorem nsB_iff {L : List Nm} : nsB L = true ↔ (∀ j, j < L.length → okN L j = true) ∧ L.length ≤ 12 := by
 simp [nsB]
theorem nsB_no {L : List Nm} {j : Nat} (hj : j < L.length) (h : okN L j = false) : nsB L = false := by
 cases e : nsB L with
 | false => rfl
 | true => rw [(nsB_iff.1 e).1 j hj] at h; cases h
theorem okN_no {L : List Nm} {j : Nat} (h : nmB (L.getD j nmD) = false) : okN L j = false := by unfold okN; rw [h, Bool.false_and]
theorem okN_cl {L : List Nm} {j q : Nat} (hq : q < j) (h : clB (L.getD j nmD) (L.getD q nmD) = true) : okN L j = false := by
 cases e : okN L j with
 | false => rfl
 | true => rw [(okN_iff.1 e).2 q hq] at h; cases h
theorem SlAt.nm {w : World} {A : Option Addr} {ns : List Nm} (h : SlAt w 5 encN A ns) {k : Nat} (hk : k < ns.length) :
  ∃ b off, A = some ⟨b, off, none⟩ ∧ b < w.heap.size ∧ w.cell? ⟨b, off + k * 5, none⟩ = some (.string (tx (ns.getD k nmD).1)) ∧
   w.cell? ⟨b, off + k * 5 + 1, none⟩ = some (.string (tx (ns.getD k nmD).2.1)) ∧ w.cell? ⟨b, off + k * 5 + 2, none⟩ = some (.int .i64 (ns.getD k nmD).2.2.1) ∧
   w.cell? ⟨b, off + k * 5 + 3, none⟩ = some (.int .i64 (ns.getD k nmD).2.2.2.1) ∧ w.cell? ⟨b, off + k * 5 + 4, none⟩ = some (.int .i64 (ns.getD k nmD).2.2.2.2) := by
 obtain ⟨b, off, e, hb, hc⟩ := h (by omega)
 have hg : ns[k]? = some (ns.getD k nmD) := by simp [List.getD, hk]
 exact ⟨b, off, e, hb, by simpa using hc k _ hg 0 _ rfl, hc k _ hg 1 _ rfl, hc k _ hg 2 _ rfl, hc k _ hg 3 _ rfl, hc k _ hg 4 _ rfl⟩
theorem SlAt.nm' {w : World} {b off : Nat} {ns : List Nm} (h : SlAt w 5 encN (some ⟨b, off, none⟩) ns) {k : Nat} (hk : k < ns.length) :
  w.cell? ⟨b, off + k * 5, none⟩ = some (.string (tx (ns.getD k nmD).1)) ∧
   w.cell? ⟨b, off + k * 5 + 1, none⟩ = some (.string (tx (ns.getD k nmD).2.1)) ∧ w.cell? ⟨b, off + k * 5 + 2, none⟩ = some (.int .i64 (ns.getD k nmD).2.2.1) ∧
   w.cell? ⟨b, off + k * 5 + 3, none⟩ = some (.int .i64 (ns.getD k nmD).2.2.2.1) ∧ w.cell? ⟨b, off + k * 5 + 4, none⟩ = some (.int .i64 (ns.getD k nmD).2.2.2.2) := by
 obtain ⟨b', off', e, _, h0⟩ := h.nm hk
 injection e with e
 injection e with e1 e2
 subst e1 e2
 exact h0
set_option maxHeartbeats 3200000 in
theorem s_IsName (t l : ByteArray) (s a b : Int) (w : World) (h1 : t.size ≤ 1048576) (h2 : l.size ≤ 1048576) :
  Calls Tryz.prog 177 #[.agg #[.string t, .string l, .int .i64 s, .int .i64 a, .int .i64 b]] w fun e w' => e = .returned (.bool (phB t.data.toList && smL l.data.toList 2 3 && inB s 0 2 && spB a b)) ∧ Ext w w' := by
 go_enter Tryz.func177, Tryz.ntmps177
 go_wp2_with (first | (go_at_call 61; refine (l01In_any _ _ _ _).mono ?_; rintro e w' ⟨rfl, rfl⟩) | (go_at_call 178; refine (s_IsPhrase _ _ (by omega)).mono ?_; rintro e w1 ⟨rfl, hx1⟩; obtain ⟨hc1, hf1, hs1⟩ := hx1.all; (try simp at hs1); have := (show w.heap.size < w1.heap.size from by omega)) | (go_at_call 96; refine (s_l09Language _ _ (by omega)).mono ?_; rintro e w2 ⟨rfl, hx2⟩; obtain ⟨hc2, hf2, hs2⟩ := hx2.all; (try simp at hs2); have := (show w.heap.size < w2.heap.size from by omega)) | (go_at_call 165; refine (s_IsSpan _ _ _).mono ?_; rintro e w3 ⟨rfl, hx3⟩; obtain ⟨hc3, hf3, hs3⟩ := hx3.all; (try simp at hs3); have := (show w.heap.size < w3.heap.size from by omega)))
 all_goals go_ret
 all_goals refine ⟨ret_bool' ?_, by with_reducible first|exact xT (xA xR) hx1|exact xT (xT (xA xR) hx1) hx2|exact xT (xT (xT (xA xR) hx1) hx2) hx3⟩
 all_goals (try simp only [Bool.not_eq_true', Bool.not_eq_false'] at *)
 all_goals (try simp [*])
def Names (ns : List Nm) : Prop := ∀ j, GoodN (ns.getD j nmD)
set_option maxRecDepth 20000 in
set_option maxHeartbeats 12800000 in
theorem s_AreNames (A : Option Addr) (n c : Nat) (ns : List Nm) (w : World) (h : SlAt w 5 encN A ns) (hn : n = ns.length) (hl : ns.length ≤ 1048576) (hg : Names ns) :
  Calls Tryz.prog 152 #[.slice A n c] w fun e w' => e = .returned (.bool (nsB ns)) ∧ Ext w w' := by
 have HN := hI hn
 have hn2 : n ≤ 1048576 := by omega
 clear hn
 go_enter Tryz.func152, Tryz.ntmps152
 go_wp2
 go_loopw [3] (fun i wr => ∃ k : Nat, k ≤ n ∧ i = .int .i64 k ∧ Hid (∀ j, j < k → okN ns j = true) ∧ Ext w wr) (fun i _ => n - (intOf i).toNat)
 case atStart => exact ⟨0, by omega, rfl, fun j hj => absurd hj (by omega), xR⟩
 case round =>
  obtain ⟨k, hk, rfl, HJ, hxr⟩ := hrel
  obtain ⟨w5, rfl⟩ : ∃ x, x = wr := ⟨wr, rfl⟩
  by_cases hlt : k < n
  ·have hkl : k < ns.length := by have := HN.out; omega
   obtain ⟨b, off, rfl, hb, d0, d1, d2, d3, d4⟩ := (h.ext hxr).nm hkl
   have HS := hI h
   have hgk := hg k
   obtain ⟨v, hve⟩ : ∃ v, v = ns.getD k nmD := ⟨_, rfl⟩
   rw [← hve] at d0 d1 d2 d3 d4 hgk
   have HV := hI hve
   obtain ⟨vt, vl, vs, va, vb⟩ := v
   simp only at d0 d1 d2 d3 d4
   have HC := hI (fun W => (s_IsName (tx vt) (tx vl) vs va vb W (by rw [tx_size]; exact hgk.1) (by rw [tx_size]; exact hgk.2)))
   rw [tx_list, tx_list] at HC
   have HC : Hid (∀ W, Calls Tryz.prog 177 #[.agg #[.string (tx vt), .string (tx vl), .int .i64 vs, .int .i64 va, .int .i64 vb]] W fun e w' => e = .returned (.bool (nmB (ns.getD k nmD))) ∧ Ext W w') := hI (by rw [← HV.out]; exact HC.out)
   have htl := tx_toL vl
   have HVL := hI htl
   generalize tx vt = st at *
   generalize tx vl = sl at *
   clear hve hgk htl h
   cases hq : nmB (ns.getD k nmD) with
   | false =>
    have HNO : Hid (nsB ns = false) := hI (nsB_no hkl (okN_no hq))
    rw [hq] at HC
    clear hq hkl
    (go_wp2_with fail; refine (HC.out _).mono ?_; rintro e w1 ⟨rfl, hx1⟩; obtain ⟨hc1, hf1, hs1⟩ := hx1.all; (try simp at hs1); have := (show b < w1.heap.size from by omega))
    go_wp2
    go_ret
    exact ⟨ret_bool HNO.out.symm, xT (xA hxr) hx1⟩
   | true =>
    rw [hq] at HC
    have HQ := hI hq
    have HKL := hI hkl
    clear hq hkl
    (go_wp2_with fail; refine (HC.out _).mono ?_; rintro e w1 ⟨rfl, hx1⟩; obtain ⟨hc1, hf1, hs1⟩ := hx1.all; (try simp at hs1); have := (show b < w1.heap.size from by omega); have := (show w5.heap.size < w1.heap.size from by omega))
    go_wp2
    go_loopw [5] (fun i wi => ∃ j : Nat, j ≤ k ∧ i = .int .i64 j ∧ Hid (∀ q, q < j → clB (ns.getD k nmD) (ns.getD q nmD) = false) ∧ Blk wi w5.heap.size 117 #[.string st, .string sl, .int .i64 vs, .int .i64 va, .int .i64 vb] ∧ Ext w wi) (fun i _ => k - (intOf i).toNat)
    case atStart => exact ⟨0, by omega, rfl, fun q hq => absurd hq (by omega), Blk.eq (bE hx1 (bN (by omega))) (by rfl), xT (xA hxr) hx1⟩
    case round =>
     obtain ⟨j, hj, rfl, HO, hB, hxi⟩ := hrel
     by_cases hjk : j < k
     ·have hjl : j < ns.length := by have := HKL.out; omega
      obtain ⟨e0, e1, e2, e3, e4⟩ := (HS.out.ext hxi).nm' hjl
      have hBl := hB.lt
      have hBf := hB.frozen
      have a0 : wr.cell? ⟨w5.heap.size, 0, none⟩ = some (.string st) := hB.cell 0
      have a1 : wr.cell? ⟨w5.heap.size, 1, none⟩ = some (.string sl) := hB.cell 1
      have a2 : wr.cell? ⟨w5.heap.size, 2, none⟩ = some (.int .i64 vs) := hB.cell 2
      have a3 : wr.cell? ⟨w5.heap.size, 3, none⟩ = some (.int .i64 va) := hB.cell 3
      have a4 : wr.cell? ⟨w5.heap.size, 4, none⟩ = some (.int .i64 vb) := hB.cell 4
      obtain ⟨u, hue⟩ : ∃ u, u = ns.getD j nmD := ⟨_, rfl⟩
      rw [← hue] at e0 e1 e2 e3 e4
      have HU := hI hue
      obtain ⟨ut, ul, us, ua, ub⟩ := u
      simp only at e0 e1 e2 e3 e4
      have htu := tx_toL ul
      have HCL : Hid (clB (ns.getD k nmD) (ns.getD j nmD) = (decide (vs = 0) && decide (us = 0) && (sl.toList == (tx ul).toList) && meetB va vb ua ub)) := hI (by rw [← HV.out, ← HU.out, htu, HVL.out]; rfl)
      have HNO : Hid (clB (ns.getD k nmD) (ns.getD j nmD) = true → nsB ns = false) := hI (fun e => nsB_no HKL.out (okN_cl hjk e))
      generalize tx ut = su at *
      generalize tx ul = sv at *
      clear hue htu
      have HB := hI hB
      clear hB
      have := hxr.size
      have HM := hI (fun W => s_l02Meet va vb ua ub W)
      cases hA : decide (vs = 0) with
      | false =>
       have HO2 := hI (upTo1 HO.out (show clB (ns.getD k nmD) (ns.getD j nmD) = false by rw [HCL.out]; rw [hA]; simp))
       have hA' : ¬ vs = 0 := by simpa using hA
       clear hA
       go_wp2
       go_roundw
       case rel => exact ⟨j + 1, by omega, by go_num, HO2, HB.out.ext (xA xR), xA hxi⟩
       case measure => simp [intOf]; omega
      | true =>
       obtain rfl : vs = 0 := by simpa using hA
       clear hA
       cases hB : decide (us = 0) with
       | false =>
        have HO2 := hI (upTo1 HO.out (show clB (ns.getD k nmD) (ns.getD j nmD) = false by rw [HCL.out]; rw [hB]; simp))
        have hB' : ¬ us = 0 := by simpa using hB
        clear hB
        go_wp2
        go_roundw
        case rel => exact ⟨j + 1, by omega, by go_num, HO2, HB.out.ext (xA xR), xA hxi⟩
        case measure => simp [intOf]; omega
       | true =>
        obtain rfl : us = 0 := by simpa using hB
        clear hB
        cases hC : (sl.toList == sv.toList) with
        | false =>
         have HO2 := hI (upTo1 HO.out (show clB (ns.getD k nmD) (ns.getD j nmD) = false by rw [HCL.out]; rw [hC]; simp))
         have hC' : ¬ sl.toList = sv.toList := by simpa using hC
         clear hC
         go_wp2
         go_roundw
         case rel => exact ⟨j + 1, by omega, by go_num, HO2, HB.out.ext (xA xR), xA hxi⟩
         case measure => simp [intOf]; omega
        | true =>
         cases hD : meetB va vb ua ub with
         | false =>
          have HO2 := hI (upTo1 HO.out (show clB (ns.getD k nmD) (ns.getD j nmD) = false by rw [HCL.out]; rw [hD]; simp))
          rw [hD] at HM
          clear hD
          (go_wp2_with fail; refine (HM.out _).mono ?_; rintro e w2 ⟨rfl, hx2⟩; obtain ⟨hc2, hf2, hs2⟩ := hx2.all; (try simp at hs2); have := (show b < w2.heap.size from by omega); have := (show w5.heap.size < w2.heap.size from by omega))
          go_wp2
          go_roundw
          case rel => exact ⟨j + 1, by omega, by go_num, HO2, HB.out.ext (xT (xA xR) hx2), xT (xA hxi) hx2⟩
          case measure => simp [intOf]; omega
         | true =>
          have HNO2 := hI (HNO.out (by rw [HCL.out, hC, hD]; rfl))
          rw [hD] at HM
          clear hD
          (go_wp2_with fail; refine (HM.out _).mono ?_; rintro e w2 ⟨rfl, hx2⟩; obtain ⟨hc2, hf2, hs2⟩ := hx2.all; (try simp at hs2); have := (show b < w2.heap.size from by omega); have := (show w5.heap.size < w2.heap.size from by omega))
          go_wp2
          go_ret
          exact ⟨ret_bool HNO2.out.symm, xT (xA hxi) hx2⟩
     ·obtain rfl : j = k := by omega
      have HJ2 := hI (upTo1 HJ.out (okN_iff.2 ⟨HQ.out, HO.out⟩))
      go_wp2
      go_roundw
      case rel => exact ⟨j + 1, by omega, by go_num, HJ2, hxi⟩
      case measure => simp [intOf]; omega
  ·obtain rfl : k = n := by omega
   have hres : nsB ns = decide ((k : Int) ≤ 12) := by
    have h1 := HN.out
    cases e : decide ((k : Int) ≤ 12) with
    | true => exact nsB_iff.2 ⟨fun j hj => HJ.out j (by omega), by simp at e; omega⟩
    | false =>
     cases e2 : nsB ns with
     | false => rfl
     | true => have := (nsB_iff.1 e2).2; simp at e; omega
   have HR := hI hres
   clear hres
   go_wp2
   go_ret
   exact ⟨ret_bool HR.out.symm, hxr⟩
theorem as_boolS {P : Program} {f : FuncId} {args : Array Value} {w : World} {b b' : Bool} (h : Calls P f args w fun e w' => e = .returned (.bool b) ∧ w = w') (e : b = b') : Calls P f args w fun e w' => e = .returned (.bool b') ∧ w = w' := e ▸ h
def encK (l : Lk) : List Value := [.string (tx l.1), .string (tx l.2.1), .int .i64 l.2.2.1, .int .i64 l.2.2.2]
theorem len_encK : ∀ n, (encK n).length = 4 := fun _ => rfl
theorem one_encK : ∀ p, ∀ u ∈ encK p, u.oneCell' = true := by
 intro p u hu
 simp [encK] at hu
 rcases hu with rfl | rfl | rfl | rfl <;> rfl
def Links (L : List Lk) : Prop := ∀ j, (L.getD j lkD).1.length ≤ 1048576 ∧ (L.getD j lkD).2.1.length ≤ 1048576
def lkB (l : Lk) : Bool := smL l.1 1 16 && smL l.2.1 1 16 && !(l.1 == l.2.1) && spB l.2.2.1 l.2.2.2
theorem SlAt.lk {w : World} {A : Option Addr} {L : List Lk} (h : SlAt w 4 encK A L) {k : Nat} (hk : k < L.length) :
  ∃ b off, A = some ⟨b, off, none⟩ ∧ b < w.heap.size ∧ w.cell? ⟨b, off + k * 4, none⟩ = some (.string (tx (L.getD k lkD).1)) ∧
   w.cell? ⟨b, off + k * 4 + 1, none⟩ = some (.string (tx (L.getD k lkD).2.1)) ∧ w.cell? ⟨b, off + k * 4 + 2, none⟩ = some (.int .i64 (L.getD k lkD).2.2.1) ∧
   w.cell? ⟨b, off + k * 4 + 3, none⟩ = some (.int .i64 (L.getD k lkD).2.2.2) := by
 obtain ⟨b, off, e, hb, hc⟩ := h (by omega)
 have hg : L[k]? = some (L.getD k lkD) := by simp [List.getD, hk]
 exact ⟨b, off, e, hb, by simpa using hc k _ hg 0 _ rfl, hc k _ hg 1 _ rfl, hc k _ hg 2 _ rfl, hc k _ hg 3 _ rfl⟩
theorem SlAt.lk' {w : World} {b off : Nat} {L : List Lk} (h : SlAt w 4 encK (some ⟨b, off, none⟩) L) {k : Nat} (hk : k < L.length) :
  w.cell? ⟨b, off + k * 4, none⟩ = some (.string (tx (L.getD k lkD).1)) ∧
   w.cell? ⟨b, off + k * 4 + 1, none⟩ = some (.string (tx (L.getD k lkD).2.1)) ∧ w.cell? ⟨b, off + k * 4 + 2, none⟩ = some (.int .i64 (L.getD k lkD).2.2.1) ∧
   w.cell? ⟨b, off + k * 4 + 3, none⟩ = some (.int .i64 (L.getD k lkD).2.2.2) := by
 obtain ⟨b', off', e, _, h0⟩ := h.lk hk
 injection e with e
 injection e with e1 e2
 subst e1 e2
 exact h0
set_option maxHeartbeats 3200000 in
theorem s_l12Is (s t : ByteArray) (a b : Int) (w : World) (h1 : s.size ≤ 1048576) (h2 : t.size ≤ 1048576) :
  Calls Tryz.prog 133 #[.agg #[.string s, .string t, .int .i64 a, .int .i64 b]] w fun e w' => e = .returned (.bool (smB s 1 16 && smB t 1 16 && !(s.toList == t.toList) && spB a b)) ∧ Ext w w' := by
 go_enter Tryz.func133, Tryz.ntmps133
 go_wp2_with (first | (go_at_call 106; refine (s_IsWord _ _ (by omega)).mono ?_; rintro e w1 ⟨rfl, hx1⟩; obtain ⟨hc1, hf1, hs1⟩ := hx1.all; (try simp at hs1); have := (show w.heap.size < w1.heap.size from by omega)) | (go_at_call 165; refine (s_IsSpan _ _ _).mono ?_; rintro e w3 ⟨rfl, hx3⟩; obtain ⟨hc3, hf3, hs3⟩ := hx3.all; (try simp at hs3); have := (show w.heap.size < w3.heap.size from by omega)))
 all_goals go_ret
 all_goals refine ⟨ret_bool' ?_, by with_reducible first|exact xT (xA xR) hx1|exact xT (xT (xA xR) (by assumption)) hx1|exact xT (xT (xT (xA xR) (by assumption)) hx1) hx3⟩
 all_goals (try simp only [Bool.not_eq_true', Bool.not_eq_false'] at *)
 all_goals (try simp [*])
def fdI (ws : List (List UInt8)) (x : List UInt8) : Int := if x ∈ ws then (ws.idxOf x : Int) else -1
theorem fdI_iff {ws : List (List UInt8)} {x : List UInt8} : 0 ≤ fdI ws x ↔ x ∈ ws := by
 unfold fdI
 split
 ·rename_i h; simp [h]
 ·rename_i h; simp [h]
theorem fdI_at {ws : List (List UInt8)} {x : List UInt8} {k : Nat} (hk : k < ws.length) (h : ∀ j, j < k → ws.getD j [] ≠ x) (e : ws.getD k [] = x) : fdI ws x = k := by
 have hm : x ∈ ws := by rw [← e]; simp [List.getD, hk]
 have h1 : ws.idxOf x < ws.length := List.idxOf_lt_length_iff.2 hm
 have h2 : ws.getD (ws.idxOf x) [] = x := by simp [List.getD, h1]
 have h3 : ¬ ws.idxOf x < k := fun c => h _ c h2
 have h4 : ¬ k < ws.idxOf x := fun c => by
  have := List.not_of_lt_findIdx (p := fun y => y == x) (xs := ws) (i := k) (by exact c)
  simp [List.getD, hk] at e
  simp [e] at this
 unfold fdI
 rw [if_pos hm]
 omega
theorem fdI_no {ws : List (List UInt8)} {x : List UInt8} (h : ∀ j, j < ws.length → ws.getD j [] ≠ x) : fdI ws x = -1 := by
 unfold fdI
 rw [if_neg]
 intro hm
 obtain ⟨j, hj, e⟩ := List.mem_iff_getElem.1 hm
 exact h j hj (by simp [List.getD, hj, e])
set_option maxHeartbeats 3200000 in
theorem s_l03Find (A : Option Addr) (n c : Nat) (ws : List (List UInt8)) (x : List UInt8) (w : World) (h : SlAt w 1 encS A ws) (hn : n = ws.length) (hl : n ≤ 2097152) :
  Calls Tryz.prog 97 #[.slice A n c, .string (tx x)] w fun e w' => e = .returned (.int .i64 (fdI ws x)) ∧ w = w' := by
 have HN := hI hn
 have htx := tx_toL x
 have HX := hI htx
 clear hn htx
 go_enter Tryz.func97, Tryz.ntmps97
 go_wp2
 go_loopw [5] (fun i wr => ∃ k : Nat, k ≤ n ∧ i = .int .i64 k ∧ Hid (∀ j, j < k → ws.getD j [] ≠ x) ∧ w = wr) (fun i _ => n - (intOf i).toNat)
 case atStart => exact ⟨0, by omega, rfl, fun j hj => absurd hj (by omega), rfl⟩
 case round =>
  obtain ⟨k, hk, rfl, HJ, rfl⟩ := hrel
  by_cases hlt : k < n
  ·have hkl : k < ws.length := by have := HN.out; omega
   obtain ⟨b, off, rfl, hb, d0⟩ := h.st hkl
   have HKL := hI hkl
   have htv := tx_toL (ws.getD k [])
   by_cases he : ws.getD k [] = x
   ·have HR := hI (fdI_at hkl HJ.out he)
    have heq : ((tx (ws.getD k [])).toList == (tx x).toList) = true := by rw [htv, HX.out, he]; simp
    generalize tx (ws.getD k []) = sv at *
    generalize tx x = sx at *
    clear he hkl htv
    go_wp2
    go_ret
    exact ⟨by rw [HR.out]; rfl, rfl⟩
   ·have hne : ((tx (ws.getD k [])).toList == (tx x).toList) = false := by rw [htv, HX.out]; simpa using he
    have HJ2 := hI (upTo1 HJ.out he)
    generalize tx (ws.getD k []) = sv at *
    generalize tx x = sx at *
    clear he hkl htv
    go_wp2
    go_roundw
    case rel => exact ⟨k + 1, by omega, by go_num, HJ2, by trivial⟩
    case measure => simp [intOf]; omega
  ·obtain rfl : k = n := by omega
   have HR := hI (fdI_no (ws := ws) (x := x) fun j hj => HJ.out j (by have := HN.out; omega))
   go_wp2
   go_ret
   exact ⟨by rw [HR.out]; rfl, rfl⟩
def parT (L : List Lk) (c : List UInt8) (y : Int) : List UInt8 := (par L c y).getD []
theorem par_at {L : List Lk} {c : List UInt8} {y : Int} {k : Nat} (hk : k < L.length) (h : ∀ j, j < k → ((L.getD j lkD).1 == c && lkHas (L.getD j lkD) y) = false) (e : ((L.getD k lkD).1 == c && lkHas (L.getD k lkD) y) = true) : parT L c y = (L.getD k lkD).2.1 := by
 have : lkOf L c y = some (L.getD k lkD) := by
  unfold lkOf
  rw [List.find?_eq_some_iff_getElem]
  refine ⟨e, k, hk, by simp [List.getD, hk], fun j hj => ?_⟩
  have := h j hj
  simp [List.getD, show j < L.length by omega] at this
  simp only [Bool.not_eq_true', Bool.and_eq_false_iff, beq_eq_false_iff_ne]
  rcases Classical.em (L[j].fst = c) with q | q
  ·exact .inr (this q)
  ·exact .inl q
 unfold parT par
 rw [this]; rfl
theorem par_no {L : List Lk} {c : List UInt8} {y : Int} (h : ∀ j, j < L.length → ((L.getD j lkD).1 == c && lkHas (L.getD j lkD) y) = false) : parT L c y = [] := by
 have : lkOf L c y = none := by
  unfold lkOf
  rw [List.find?_eq_none]
  intro l hl
  obtain ⟨j, hj, rfl⟩ := List.mem_iff_getElem.1 hl
  have := h j hj
  simp [List.getD, hj] at this
  simpa using this
 unfold parT par
 rw [this]; rfl
set_option maxRecDepth 20000 in
set_option maxHeartbeats 12800000 in
theorem s_l12Parent (A : Option Addr) (n c : Nat) (L : List Lk) (x : List UInt8) (y : Int) (w : World) (h : SlAt w 4 encK A L) (hn : n = L.length) (hl : n ≤ 1048576) :
  Calls Tryz.prog 64 #[.slice A n c, .string (tx x), .int .i64 y] w fun e w' => e = .returned (.string (tx (parT L x y))) ∧ Ext w w' := by
 have HN := hI hn
 have HX := hI (tx_toL x)
 clear hn
 go_enter Tryz.func64, Tryz.ntmps64
 go_wp2
 go_loopw [7] (fun i wr => ∃ k : Nat, k ≤ n ∧ i = .int .i64 k ∧ Hid (∀ j, j < k → ((L.getD j lkD).1 == x && lkHas (L.getD j lkD) y) = false) ∧ Ext w wr) (fun i _ => n - (intOf i).toNat)
 case atStart => exact ⟨0, by omega, rfl, fun j hj => absurd hj (by omega), xR⟩
 case round =>
  obtain ⟨k, hk, rfl, HJ, hxr⟩ := hrel
  obtain ⟨w5, rfl⟩ : ∃ x, x = wr := ⟨wr, rfl⟩
  by_cases hlt : k < n
  ·have hkl : k < L.length := by have := HN.out; omega
   obtain ⟨b, off, rfl, hb, d0, d1, d2, d3⟩ := (h.ext hxr).lk hkl
   have HKL := hI hkl
   obtain ⟨v, hve⟩ : ∃ v, v = L.getD k lkD := ⟨_, rfl⟩
   rw [← hve] at d0 d1 d2 d3
   have HV := hI hve
   obtain ⟨va, vp, vf, vt⟩ := v
   simp only at d0 d1 d2 d3
   have htv := tx_toL va
   have HS := hI h
   clear hve hkl h
   cases he : (va == x) with
   | false =>
    have heq : ((tx va).toList == (tx x).toList) = false := by rw [htv, HX.out]; exact he
    have HJ2 := hI (upTo1 HJ.out (show ((L.getD k lkD).1 == x && lkHas (L.getD k lkD) y) = false by rw [← HV.out]; simp only [he]; rfl))
    generalize tx va = sv at *
    generalize tx x = sx at *
    generalize tx vp = sp at *
    clear he htv
    go_wp2
    (refine wp_region_ext (by kernel_rfl) (by kernel_rfl) ?_; (repeat (go_big_quiet_step (fail))); refine wpQuiet_nil ?_; intro wq hxwq; obtain ⟨hcwq, hfwq, hswq⟩ := hxwq.all; (try simp at hswq))
    go_wp2
    go_roundw
    case rel => exact ⟨k + 1, by omega, by go_num, HJ2, xT hxr hxwq⟩
    case measure => simp [intOf]; omega
   | true =>
    have heq : ((tx va).toList == (tx x).toList) = true := by rw [htv, HX.out]; exact he
    cases hi : inB y vf vt with
    | false =>
     have HI := hI (fun W => as_boolS (l01In_any y vf vt W) hi)
     have HJ2 := hI (upTo1 HJ.out (show ((L.getD k lkD).1 == x && lkHas (L.getD k lkD) y) = false by rw [← HV.out]; simp only [he, lkHas, hi]; rfl))
     generalize tx va = sv at *
     generalize tx x = sx at *
     generalize tx vp = sp at *
     clear he htv hi
     go_wp2
     (refine wp_region_ext (by kernel_rfl) (by kernel_rfl) ?_; (repeat (go_big_quiet_step ((go_at_call 61; exact Calls_same (HI.out _))))); refine wpQuiet_nil ?_; intro wq hxwq; obtain ⟨hcwq, hfwq, hswq⟩ := hxwq.all; (try simp at hswq))
     go_wp2
     go_roundw
     case rel => exact ⟨k + 1, by omega, by go_num, HJ2, xT hxr hxwq⟩
     case measure => simp [intOf]; omega
    | true =>
     have HI := hI (fun W => as_boolS (l01In_any y vf vt W) hi)
     have HR := hI (par_at HKL.out HJ.out (by rw [← HV.out]; simp only [he, lkHas, hi]; rfl))
     rw [← HV.out] at HR
     generalize tx va = sv at *
     generalize tx x = sx at *
     clear he htv hi
     go_wp2
     (refine wp_region_ext (by kernel_rfl) (by kernel_rfl) ?_; (repeat (go_big_quiet_step ((go_at_call 61; exact Calls_same (HI.out _))))); refine wpQuiet_nil ?_; intro wq hxwq; obtain ⟨hcwq, hfwq, hswq⟩ := hxwq.all; (try simp at hswq))
     go_wp2
     go_ret
     exact ⟨by rw [HR.out]; rfl, xT hxr hxwq⟩
  ·obtain rfl : k = n := by omega
   have HR := hI (par_no (L := L) (c := x) (y := y) fun j hj => HJ.out j (by have := HN.out; omega))
   go_wp2
   go_ret
   exact ⟨by rw [HR.out]; rfl, hxr⟩
end Go.Proofs.YtlnliajnipniaaaGreatDoor
