/- Places found in a register, and worlds. Worlds, as the specification sees them. -/
import Derived.Test.YtlnliajnipniaaaGreatDoorYA
import Derived.Test.YtlnliajnipniaaaGreatDoorI1
namespace Go.Proofs.YtlnliajnipniaaaGreatDoor
open Go.RowKit
attribute [local go_sem] ExtOf.cell ExtOf.frozen
theorem cmpB_lt : ∀ a b : List UInt8, Lib.compareBytes a b < 0 ↔ a < b
 | [], [] => by simp [Lib.compareBytes]
 | [], _ :: _ => by simp [Lib.compareBytes]
 | _ :: _, [] => by simp [Lib.compareBytes]
 | a :: u, b :: v => by
  unfold Lib.compareBytes
  rw [List.cons_lt_cons_iff]
  split
  ·rename_i h; simp [h]
  ·rename_i h
   split
   ·rename_i h2
    constructor
    ·intro h3; omega
    ·rintro (h3 | ⟨h3, _⟩)
     ·exact absurd h3 h
     ·subst h3; exact absurd h2 h
   ·rename_i h2
    have e : a = b := UInt8.le_antisymm (UInt8.not_lt.1 h2) (UInt8.not_lt.1 h)
    rw [cmpB_lt u v]
    simp [e]
theorem cmpB_eq : ∀ a b : List UInt8, Lib.compareBytes a b = 0 ↔ a = b
 | [], [] => by simp [Lib.compareBytes]
 | [], _ :: _ => by simp [Lib.compareBytes]
 | _ :: _, [] => by simp [Lib.compareBytes]
 | a :: u, b :: v => by
  unfold Lib.compareBytes
  split
  ·rename_i h
   constructor
   ·intro h3; omega
   ·intro h3; injection h3 with h3; subst h3; exact absurd h (UInt8.lt_irrefl a)
  ·rename_i h
   split
   ·rename_i h2
    constructor
    ·intro h3; omega
    ·intro h3; injection h3 with h3; subst h3; exact absurd h2 (UInt8.lt_irrefl a)
   ·rename_i h2
    have e : a = b := UInt8.le_antisymm (UInt8.not_lt.1 h2) (UInt8.not_lt.1 h)
    rw [cmpB_eq u v]
    simp [e]
def AscP (ps : List Pl) : Prop := ∀ i j, i < j → j < ps.length → (ps.getD i plD).1 < (ps.getD j plD).1
theorem asc_of {ps : List Pl} (h : rgB (psD ps) = true) : AscP ps := by
 have h1 := (rgB_iff.1 h).1
 have step : ∀ j, j + 1 < ps.length → (ps.getD j plD).1 < (ps.getD (j + 1) plD).1 := fun j hj => by
  have := h1 (j + 1) (by rw [psD_len]; exact hj)
  unfold okR at this
  rw [Bool.and_eq_true, Bool.or_eq_true] at this
  rcases this.2 with e | e
  ·simp at e
  ·rw [Nat.add_sub_cancel, psD_at hj, psD_at (by omega), bytesLess_eq, decide_eq_true_iff] at e
   exact e
 intro i j hij
 induction j with
 | zero => omega
 | succ j ih =>
  intro hj
  rcases Nat.lt_or_ge i j with c | c
  ·exact tx_lt_trans (ih c (by omega)) (step j hj)
  ·have : i = j := by omega
   subst this
   exact step i hj
structure FirstGe (ps : List Pl) (x : List UInt8) (k : Nat) : Prop where
 le : k ≤ ps.length
 lo : ∀ q, q < k → (ps.getD q plD).1 < x
 hi : ∀ q, k ≤ q → q < ps.length → ¬ (ps.getD q plD).1 < x
def fndP (D : List Pd) (x : List UInt8) : Option Pd := D.find? fun d => d.1 == x
def fnxP (D : List Pd) (x : List UInt8) : Int := match D.findIdx? fun d => d.1 == x with
 | some i => i
 | none => -1
theorem fnx_some {D : List Pd} {x : List UInt8} {k : Nat} (hk : k < D.length) (h : ∀ j, j < k → (D.getD j pdD).1 ≠ x) (e : (D.getD k pdD).1 = x) : fnxP D x = k ∧ fndP D x = some (D.getD k pdD) := by
 have : D.findIdx? (fun d => d.1 == x) = some k := by
  rw [List.findIdx?_eq_some_iff_getElem]
  refine ⟨hk, by simpa [List.getD, hk] using e, fun j hj => ?_⟩
  have := h j hj
  have hjl : j < D.length := by omega
  simpa [List.getD, hjl] using this
 refine ⟨by unfold fnxP; rw [this], ?_⟩
 unfold fndP
 rw [List.find?_eq_some_iff_getElem]
 refine ⟨by simpa using e, k, hk, by simp [List.getD, hk], fun j hj => ?_⟩
 have := h j hj
 have hjl : j < D.length := by omega
 simp [List.getD, hjl] at this
 simpa using this
theorem fnx_none {D : List Pd} {x : List UInt8} (h : ∀ j, j < D.length → (D.getD j pdD).1 ≠ x) : fnxP D x = -1 ∧ fndP D x = none := by
 have : D.findIdx? (fun d => d.1 == x) = none := by
  rw [List.findIdx?_eq_none_iff]
  intro d hd
  obtain ⟨j, hj, rfl⟩ := List.mem_iff_getElem.1 hd
  have := h j hj
  simpa [List.getD, hj] using this
 refine ⟨by unfold fnxP; rw [this], ?_⟩
 unfold fndP
 rw [List.find?_eq_none]
 intro d hd
 obtain ⟨j, hj, rfl⟩ := List.mem_iff_getElem.1 hd
 have := h j hj
 simpa [List.getD, hj] using this
theorem fnx_cases (D : List Pd) (x : List UInt8) : (fnxP D x = -1 ∧ fndP D x = none ∧ ∀ j, j < D.length → (D.getD j pdD).1 ≠ x) ∨ ∃ k : Nat, fnxP D x = k ∧ k < D.length ∧ fndP D x = some (D.getD k pdD) ∧ (D.getD k pdD).1 = x := by
 rcases h : D.findIdx? (fun d => d.1 == x) with _ | k
 ·rw [List.findIdx?_eq_none_iff] at h
  have hn : ∀ j, j < D.length → (D.getD j pdD).1 ≠ x := fun j hj => by
   have := h D[j] (List.getElem_mem hj)
   simpa [List.getD, hj] using this
  exact .inl ⟨(fnx_none hn).1, (fnx_none hn).2, hn⟩
 ·rw [List.findIdx?_eq_some_iff_getElem] at h
  obtain ⟨hk, hp, hb⟩ := h
  have e : (D.getD k pdD).1 = x := by simpa [List.getD, hk] using hp
  have hn : ∀ j, j < k → (D.getD j pdD).1 ≠ x := fun j hj => by
   have := hb j hj
   have hjl : j < D.length := by omega
   simpa [List.getD, hjl] using this
  exact .inr ⟨k, (fnx_some hk hn e).1, hk, (fnx_some hk hn e).2, e⟩
theorem firstGe_found {ps : List Pl} {x : List UInt8} {k : Nat} (ha : AscP ps) (h : FirstGe ps x k) : (decide (k < ps.length) && ((ps.getD k plD).1 == x)) = (fndP (psD ps) x).isSome ∧ ((fndP (psD ps) x).isSome = true → k < ps.length ∧ fnxP (psD ps) x = k ∧ fndP (psD ps) x = some (pdOf (ps.getD k plD))) := by
 rcases Nat.lt_or_ge k ps.length with hk | hk
 ·by_cases e : (ps.getD k plD).1 = x
  ·have hkd : k < (psD ps).length := by rw [psD_len]; exact hk
   have h1 := fnx_some (D := psD ps) (x := x) hkd (fun j hj e2 => by
    rw [psD_at (by omega)] at e2
    have := h.lo j hj
    rw [show (pdOf (ps.getD j plD)).1 = (ps.getD j plD).1 from rfl] at e2
    rw [e2] at this
    exact tx_lt_irrefl _ this) (by rw [psD_at hk]; exact e)
   rw [h1.2, psD_at hk]
   exact ⟨by rw [decide_eq_true hk, e]; simp, fun _ => ⟨hk, h1.1, rfl⟩⟩
  ·have h1 := fnx_none (D := psD ps) (x := x) (fun j hj e2 => by
    rw [psD_len] at hj
    rw [psD_at hj] at e2
    rw [show (pdOf (ps.getD j plD)).1 = (ps.getD j plD).1 from rfl] at e2
    rcases Nat.lt_trichotomy j k with c | c | c
    ·have := h.lo j c
     rw [e2] at this
     exact tx_lt_irrefl _ this
    ·subst c; exact e e2
    ·have hge := h.hi k (Nat.le_refl _) hk
     have h2 := ha k j c hj
     rw [e2] at h2
     exact hge h2)
   rw [h1.2]
   exact ⟨by rw [show ((ps.getD k plD).1 == x) = false by simpa using e]; simp, fun e3 => by cases e3⟩
 ·have h1 := fnx_none (D := psD ps) (x := x) (fun j hj e2 => by
   rw [psD_len] at hj
   rw [psD_at hj] at e2
   rw [show (pdOf (ps.getD j plD)).1 = (ps.getD j plD).1 from rfl] at e2
   have := h.lo j (by omega)
   rw [e2] at this
   exact tx_lt_irrefl _ this)
  rw [h1.2]
  exact ⟨by simp; omega, fun e3 => by cases e3⟩
set_option maxHeartbeats 1600000 in
theorem i_findPlace1 (p : Pl) (x : List UInt8) (w : World) :
  Calls Tryz.prog 103 #[.agg #[.string (tx p.1), .int .i64 p.2.1, .int .i64 p.2.2.1, .int .i64 p.2.2.2.1, .slice p.2.2.2.2.1 p.2.2.2.2.2.2.length p.2.2.2.2.2.1], .string (tx x)] w fun e w' => e = .returned (.int .i64 (Lib.compareBytes p.1 x)) ∧ Ext w w' := by
 have HC := hI (fun W => Tryz.strings_Compare (tx p.1) (tx x) W)
 rw [tx_list, tx_list] at HC
 generalize Lib.compareBytes p.1 x = q at *
 generalize tx p.1 = s at *
 generalize tx x = sx at *
 go_enter Tryz.func103, Tryz.ntmps103
 go_wp2_with fail
 refine (HC.out _).mono ?_
 rintro e w1 ⟨rfl, rfl⟩
 go_wp2
 go_ret
 exact ⟨rfl, xA xR⟩
theorem en_findPlace1 (args : Array Value) (w : World) : (callFunc 103 args).run Tryz.prog w = .ok (.enter 103 args) w := enters_isSome Tryz.func103 (by kernel_rfl) (by kernel_rfl) args w
set_option maxRecDepth 20000 in
set_option maxHeartbeats 6400000 in
theorem i_BinarySearchP (A : Option Addr) (n c : Nat) (ps : List Pl) (x : List UInt8) (w : World) (h : SlAt w 5 encQ A ps) (hn : n = ps.length) (hl : n ≤ 1048576) (ha : AscP ps) :
  Calls Tryz.prog 102 #[.slice A n c, .string (tx x), .func (.func 103) #[] #[]] w fun e w' => ∃ k : Nat, FirstGe ps x k ∧ e = .returned (.tuple #[.int .i64 k, .bool (decide (k < n) && ((ps.getD k plD).1 == x))]) ∧ Ext w w' := by
 have HN := hI hn
 have HA := hI ha
 have HS := hI h
 have eg := en_findPlace1
 have HC := hI (fun (p : Pl) W => i_findPlace1 p x W)
 clear hn ha h
 generalize hsx : tx x = sx at *
 clear hsx
 go_enter Tryz.func102, Tryz.ntmps102
 go_wp2
 go_loopw [9, 10] (fun s t wr => ∃ lo hi : Nat, s = .int .i64 lo ∧ t = .int .i64 hi ∧ lo ≤ hi ∧ hi ≤ n ∧ Hid ((∀ q, q < lo → (ps.getD q plD).1 < x) ∧ (∀ q, hi ≤ q → q < ps.length → ¬ (ps.getD q plD).1 < x)) ∧ Ext w wr) (fun s t _ => (intOf t).toNat - (intOf s).toNat)
 case atStart => exact ⟨0, n, rfl, rfl, by omega, by omega, hI ⟨fun q hq => absurd hq (by omega), fun q hq hq2 => by have := HN.out; omega⟩, xR⟩
 case round =>
  obtain ⟨lo, hi, rfl, rfl, hlh, hhn, HI, hxr⟩ := hrel
  obtain ⟨w5, rfl⟩ : ∃ x, x = wr := ⟨wr, rfl⟩
  by_cases hlt : lo < hi
  ·have hm : (lo + hi) / 2 < ps.length := by have := HN.out; omega
   obtain ⟨b, off, rfl, hb, d0, d1, d2, d3, d4⟩ := (HS.out.ext hxr).pl hm
   obtain ⟨v, hve⟩ : ∃ v, v = ps.getD ((lo + hi) / 2) plD := ⟨_, rfl⟩
   rw [← hve] at d0 d1 d2 d3 d4
   have HV := hI hve
   have hcall := HC.out v
   have hmn : (lo + hi) / 2 < n := by rw [HN.out]; exact hm
   clear hve hm
   by_cases hv : v.1 < x
   ·have hneg : Lib.compareBytes v.1 x < 0 := (cmpB_lt _ _).2 hv
    have HI2 : Hid ((∀ q, q < (lo + hi) / 2 + 1 → (ps.getD q plD).1 < x) ∧ (∀ q, hi ≤ q → q < ps.length → ¬ (ps.getD q plD).1 < x)) := hI ⟨fun q hq => by
     rcases Nat.lt_or_ge q ((lo + hi) / 2) with e | e
     ·exact tx_lt_trans (HA.out q _ e (by have := HN.out; omega)) (by rw [← HV.out]; exact hv)
     ·have : q = (lo + hi) / 2 := by omega
      rw [this, ← HV.out]; exact hv, HI.out.2⟩
    generalize Lib.compareBytes v.1 x = cv at *
    have HCC := hI hcall
    clear hcall hv
    generalize tx v.1 = sv at *
    go_wp2_with fail
    refine (HCC.out _).mono ?_
    rintro e w1 ⟨rfl, hx1⟩
    go_wp2
    go_roundw
    case rel => exact ⟨(lo + hi) / 2 + 1, hi, by first | (congr 1; omega) | go_num, rfl, by omega, hhn, HI2, xT hxr hx1⟩
    case measure => simp [intOf]; omega
   ·have hneg : ¬ Lib.compareBytes v.1 x < 0 := fun e => hv ((cmpB_lt _ _).1 e)
    have HI2 : Hid ((∀ q, q < lo → (ps.getD q plD).1 < x) ∧ (∀ q, (lo + hi) / 2 ≤ q → q < ps.length → ¬ (ps.getD q plD).1 < x)) := hI ⟨HI.out.1, fun q hq hql => by
     rcases Nat.lt_or_ge ((lo + hi) / 2) q with e | e
     ·intro h9
      exact hv (by rw [HV.out]; exact tx_lt_trans (HA.out _ q e hql) h9)
     ·have : q = (lo + hi) / 2 := by omega
      rw [this, ← HV.out]; exact hv⟩
    generalize Lib.compareBytes v.1 x = cv at *
    have HCC := hI hcall
    clear hcall hv
    generalize tx v.1 = sv at *
    go_wp2_with fail
    refine (HCC.out _).mono ?_
    rintro e w1 ⟨rfl, hx1⟩
    go_wp2
    go_roundw
    case rel => exact ⟨lo, (lo + hi) / 2, rfl, by first | (congr 1; omega) | go_num, by omega, by omega, HI2, xT hxr hx1⟩
    case measure => simp [intOf]; omega
  ·obtain rfl : hi = lo := by omega
   have HF : Hid (FirstGe ps x hi) := hI ⟨by rw [← HN.out]; exact hhn, HI.out.1, HI.out.2⟩
   by_cases hin : hi < n
   ·have hm : hi < ps.length := by have := HN.out; omega
    obtain ⟨b, off, rfl, hb, d0, d1, d2, d3, d4⟩ := (HS.out.ext hxr).pl hm
    obtain ⟨v, hve⟩ : ∃ v, v = ps.getD hi plD := ⟨_, rfl⟩
    rw [← hve] at d0 d1 d2 d3 d4
    have HV := hI hve
    have hcall := HC.out v
    have hq : (decide (hi < n) && ((ps.getD hi plD).1 == x)) = (Lib.compareBytes v.1 x == 0) := by
     rw [decide_eq_true hin, Bool.true_and, ← hve, Bool.eq_iff_iff, beq_iff_eq, beq_iff_eq]
     exact (cmpB_eq _ _).symm
    have HQ := hI hq
    generalize Lib.compareBytes v.1 x = cv at *
    have HCC := hI hcall
    clear hcall hq hve hm
    generalize tx v.1 = sv at *
    go_wp2_with fail
    refine (HCC.out _).mono ?_
    rintro e w1 ⟨rfl, hx1⟩
    go_wp2
    go_ret2
    exact ⟨hi, HF.out, by rw [HQ.out]; rfl, xT hxr hx1⟩
   ·have HQ : Hid ((decide (hi < n) && ((ps.getD hi plD).1 == x)) = false) := hI (by rw [decide_eq_false hin, Bool.false_and])
    go_wp2
    go_ret2
    exact ⟨hi, HF.out, by rw [HQ.out]; rfl, hxr⟩
set_option maxHeartbeats 1600000 in
theorem i_findPlace (A : Option Addr) (n c : Nat) (ps : List Pl) (x : List UInt8) (w : World) (h : SlAt w 5 encQ A ps) (hn : n = ps.length) (hl : n ≤ 1048576) (ha : AscP ps) :
  Calls Tryz.prog 55 #[.slice A n c, .string (tx x)] w fun e w' => ∃ k : Nat, ((fndP (psD ps) x).isSome = true → k < ps.length ∧ fnxP (psD ps) x = k ∧ fndP (psD ps) x = some (pdOf (ps.getD k plD))) ∧ k ≤ n ∧ e = .returned (.tuple #[.int .i64 k, .bool (fndP (psD ps) x).isSome]) ∧ Ext w w' := by
 have HB : Hid (Calls Tryz.prog 102 #[.slice A n c, .string (tx x), .func (.func 103) #[] #[]] w fun e w' => ∃ k : Nat, ((fndP (psD ps) x).isSome = true → k < ps.length ∧ fnxP (psD ps) x = k ∧ fndP (psD ps) x = some (pdOf (ps.getD k plD))) ∧ k ≤ n ∧ e = .returned (.tuple #[.int .i64 k, .bool (fndP (psD ps) x).isSome]) ∧ Ext w w') := hI ((i_BinarySearchP A n c ps x w h hn hl ha).mono (by
  rintro e w' ⟨k, hF, he, hx⟩
  have h1 := firstGe_found ha hF
  rw [hn, h1.1] at he
  exact ⟨k, h1.2, by rw [hn]; exact hF.le, he, hx⟩))
 generalize hq : (fndP (psD ps) x).isSome = q at *
 generalize tx x = sx at *
 clear hn h ha
 go_enter Tryz.func55, Tryz.ntmps55
 go_wp2_with fail
 refine HB.out.mono ?_
 rintro e w1 ⟨k, hk, hkn, rfl, hx1⟩
 have HK := hI hk
 clear hk
 go_wp2
 go_ret2
 exact ⟨k, HK.out, hkn, rfl, hx1⟩
def hasB (D : List Pd) (x : List UInt8) (a b : Int) : Bool := match fndP D x with
 | some d => lieB a b d.2.2.1 d.2.2.2.1
 | none => false
set_option maxHeartbeats 3200000 in
theorem i_hasAll (A A' : Option Addr) (n c m c' : Nat) (ps : List Pl) (x : List UInt8) (a b : Int) (w : World) (h : SlAt w 5 encQ A ps) (hn : n = ps.length) (hl : n ≤ 1048576) (ha : AscP ps) :
  Calls Tryz.prog 76 #[.agg #[.slice A n c, .slice A' m c'], .string (tx x), .agg #[.int .i64 a, .int .i64 b]] w fun e w' => e = .returned (.bool (hasB (psD ps) x a b)) ∧ Ext w w' := by
 have HF := hI (fun W hW => i_findPlace A n c ps x W hW hn hl ha)
 have HN := hI hn
 have HS := hI h
 rcases hq : fndP (psD ps) x with _ | d
 ·have HR : Hid (hasB (psD ps) x a b = false) := hI (by unfold hasB; rw [hq])
  rw [hq] at HF
  generalize tx x = sx at *
  clear hn h ha hq
  go_enter Tryz.func76, Tryz.ntmps76
  go_wp2_with fail
  refine (HF.out _ (HS.out.ext (xA (xA xR)))).mono ?_
  rintro e w1 ⟨k, _, hkn, rfl, hx1⟩
  go_wp2
  (refine wp_region_ext (by kernel_rfl) (by kernel_rfl) ?_; (repeat (go_big_quiet_step (fail))); refine wpQuiet_nil ?_; intro wq hxwq; obtain ⟨hcwq, hfwq, hswq⟩ := hxwq.all; (try simp at hswq))
  go_wp2
  go_ret
  exact ⟨ret_bool' HR.out.symm, xT (xT (xA (xA xR)) hx1) hxwq⟩
 ·have HR : Hid (hasB (psD ps) x a b = lieB a b d.2.2.1 d.2.2.2.1) := hI (by unfold hasB; rw [hq])
  have HQ := hI hq
  rw [hq] at HF
  have HL := hI (fun W => i_lies a b d.2.2.1 d.2.2.2.1 W)
  generalize hlq : lieB a b d.2.2.1 d.2.2.2.1 = q at *
  generalize tx x = sx at *
  clear hn h ha hq hlq
  go_enter Tryz.func76, Tryz.ntmps76
  go_wp2_with fail
  refine (HF.out _ (HS.out.ext (xA (xA xR)))).mono ?_
  rintro e w1 ⟨k, hk, hkn, rfl, hx1⟩
  obtain ⟨hk1, hk2, hk3⟩ := hk rfl
  injection hk3 with hk3
  have HX1 := hI (show Ext w w1 from xT (xA (xA xR)) hx1)
  obtain ⟨bb, off, hA, hb, d0, d1, d2, d3, d4⟩ := (HS.out.ext HX1.out).pl hk1
  subst hA
  rw [show (ps.getD k plD).2.2.1 = d.2.2.1 by rw [hk3]; rfl] at d2
  rw [show (ps.getD k plD).2.2.2.1 = d.2.2.2.1 by rw [hk3]; rfl] at d3
  have hkl : k < n := by rw [HN.out]; exact hk1
  have B0 : Blk w1 w.heap.size 27 #[.slice (some ⟨bb, off, none⟩) n c, .slice A' m c'] := Blk.eq (bE hx1 (bA (bN (by omega)))) (by rfl)
  have B1 : Blk w1 (w.heap.size + 1) 36 #[.int .i64 a, .int .i64 b] := Blk.eq (bE hx1 (bN (by first|omega|simp))) (by rfl)
  have g0 : w1.cell? ⟨w.heap.size, 0, none⟩ = some (.slice (some ⟨bb, off, none⟩) n c) := B0.cell 0
  have g1 : w1.cell? ⟨w.heap.size + 1, 0, none⟩ = some (.int .i64 a) := B1.cell 0
  have g2 : w1.cell? ⟨w.heap.size + 1, 1, none⟩ = some (.int .i64 b) := B1.cell 1
  have z0 := B0.lt
  have z1 := B1.lt
  clear d0 d1 d4 hk hk1 hk2 hk3 B0 B1 hx1
  go_wp2
  (refine wp_region_ext (by kernel_rfl) (by kernel_rfl) ?_; (repeat (go_big_quiet_step ((go_at_call 130; exact Calls_ext (HL.out _))))); refine wpQuiet_nil ?_; intro wq hxwq; obtain ⟨hcwq, hfwq, hswq⟩ := hxwq.all; (try simp at hswq))
  go_wp2
  go_ret
  exact ⟨ret_bool' HR.out.symm, HX1.out.trans hxwq⟩
def wlB (D : List Pd) (l : Lk) : Bool := hasB D l.1 l.2.2.1 l.2.2.2 && hasB D l.2.1 l.2.2.1 l.2.2.2
noncomputable def wdB (D : List Pd) (L : List Lk) : Bool := rgB D && (lksB L && L.all (wlB D))
set_option maxHeartbeats 3200000 in
theorem i_IsWorld1 (A A' : Option Addr) (n c m c' : Nat) (ps : List Pl) (l : Lk) (b5 : Nat) (w : World) (h : SlAt w 5 encQ A ps) (hn : n = ps.length) (hl : n ≤ 1048576) (ha : AscP ps) (h0 : w.cell? ⟨b5, 0, none⟩ = some (.slice A n c)) (h1 : w.cell? ⟨b5, 1, none⟩ = some (.slice A' m c')) :
  Calls Tryz.prog 75 #[.agg #[.string (tx l.1), .string (tx l.2.1), .int .i64 l.2.2.1, .int .i64 l.2.2.2], .pointer (some ⟨b5, 0, none⟩)] w fun e w' => e = .returned (.bool (!wlB (psD ps) l)) ∧ Ext w w' := by
 have e5 : b5 < w.heap.size := World.block_lt_of_cell? _ _ h0
 have n5 : ¬ b5 = w.heap.size := by omega
 have H1 := hI (fun W hW => i_hasAll A A' n c m c' ps l.1 l.2.2.1 l.2.2.2 W hW hn hl ha)
 have H2 := hI (fun W hW => i_hasAll A A' n c m c' ps l.2.1 l.2.2.1 l.2.2.2 W hW hn hl ha)
 have HR : Hid (wlB (psD ps) l = (hasB (psD ps) l.1 l.2.2.1 l.2.2.2 && hasB (psD ps) l.2.1 l.2.2.1 l.2.2.2)) := hI rfl
 have HS := hI h
 rw [HR.out]
 generalize hasB (psD ps) l.1 l.2.2.1 l.2.2.2 = q1 at *
 generalize hasB (psD ps) l.2.1 l.2.2.1 l.2.2.2 = q2 at *
 generalize tx l.1 = sc at *
 generalize tx l.2.1 = sp at *
 clear HR h hn ha
 cases q1 with
 | false =>
  go_enter Tryz.func75, Tryz.ntmps75
  go_wp2_with fail
  refine (H1.out _ (HS.out.ext (xA xR))).mono ?_
  rintro e w1 ⟨rfl, hx1⟩
  go_wp2
  go_ret
  exact ⟨rfl, xT (xA xR) hx1⟩
 | true =>
  go_enter Tryz.func75, Tryz.ntmps75
  go_wp2_with fail
  refine (H1.out _ (HS.out.ext (xA xR))).mono ?_
  rintro e w1 ⟨rfl, hx1⟩
  obtain ⟨hc1, hf1⟩ := hx1.rules
  have hs1 := hx1.size
  (try simp at hs1)
  have := (show w.heap.size < w1.heap.size from by omega)
  have := (show b5 < w1.heap.size from by omega)
  go_wp2_with fail
  refine (H2.out _ (HS.out.ext (xT (xA xR) hx1))).mono ?_
  rintro e w2 ⟨rfl, hx2⟩
  go_wp2
  go_ret
  exact ⟨ret_bool' (by cases q2 <;> rfl), xT (xT (xA xR) hx1) hx2⟩
theorem en_IsWorld1 (args : Array Value) (w : World) : (callFunc 75 args).run Tryz.prog w = .ok (.enter 75 args) w := enters_isSome Tryz.func75 (by kernel_rfl) (by kernel_rfl) args w
theorem any_notW (L : List Lk) (p : Lk → Bool) : (L.any fun l => !p l) = !L.all p := by
 rw [Bool.eq_iff_iff]; simp
set_option maxHeartbeats 3200000 in
theorem i_IsWorld (A A' : Option Addr) (n c m c' : Nat) (ps : List Pl) (L : List Lk) (w : World) (h : SlAt w 5 encQ A ps) (hp : Places w ps) (hn : n = ps.length) (hl : ps.length ≤ 1048576) (h' : SlAt w 4 encK A' L) (hm : m = L.length) (hl' : L.length ≤ 1048576) (hcap : m ≤ c') (hg : Links L) (hmx : Mx w) :
  Calls Tryz.prog 38 #[.agg #[.slice A n c, .slice A' m c']] w fun e w' => e = .returned (.bool (wdB (psD ps) L)) ∧ Ext w w' := by
 have H1 := hI (fun W (hW : Ext w W) => i_IsRegister A n c ps W (h.ext hW) (hp.ext hW) hn hl (hmx.ext hW))
 have H2 := hI (fun W (hW : Ext w W) => i_AreLinks A' m c' L W (h'.ext hW) hm hl' hcap hg)
 have H3 : Hid (rgB (psD ps) = true → ∀ W g, Ext w W → Blk W g 27 #[.slice A n c, .slice A' m c'] → Calls Tryz.prog 74 #[.slice A' m c', .func (.func 75) #[] #[.pointer (some ⟨g, 0, none⟩)]] W fun e w' => e = .returned (.bool (!L.all (wlB (psD ps)))) ∧ Ext W w') := hI (fun hr W g hW hB => by
  rw [← any_notW]
  exact i_ContainsFuncK (fun l => !wlB (psD ps) l) _ _ en_IsWorld1 A' m c' L W (h'.ext hW) hm (by omega) (fun l _ W' hW' => i_IsWorld1 A A' n c m c' ps l g W' ((h.ext hW).ext hW') hn (by omega) (asc_of hr) ((hB.ext hW').cell 0) ((hB.ext hW').cell 1)))
 have HR : Hid (wdB (psD ps) L = (rgB (psD ps) && (lksB L && L.all (wlB (psD ps))))) := hI rfl
 rw [HR.out]
 generalize rgB (psD ps) = q1 at *
 generalize lksB L = q2 at *
 generalize L.all (wlB (psD ps)) = q3 at *
 clear HR h hp hn hl h' hm hl' hcap hg hmx
 cases q1 with
 | false =>
  go_enter Tryz.func38, Tryz.ntmps38
  (go_wp2_with fail; refine (H1.out _ (xA xR)).mono ?_; rintro e w1 ⟨rfl, hx1⟩; obtain ⟨hc1, hf1, hs1⟩ := hx1.all; (try simp at hs1))
  go_wp2
  go_ret
  exact ⟨rfl, xT (xA xR) hx1⟩
 | true =>
  have H4 := hI (H3.out rfl)
  clear H3
  cases q2 with
  | false =>
   go_enter Tryz.func38, Tryz.ntmps38
   (go_wp2_with fail; refine (H1.out _ (xA xR)).mono ?_; rintro e w1 ⟨rfl, hx1⟩; obtain ⟨hc1, hf1, hs1⟩ := hx1.all; (try simp at hs1); have := (show w.heap.size < w1.heap.size from by omega))
   (go_wp2_with fail; refine (H2.out _ (xT (xA xR) hx1)).mono ?_; rintro e w2 ⟨rfl, hx2⟩; obtain ⟨hc2, hf2, hs2⟩ := hx2.all; (try simp at hs2))
   go_wp2
   go_ret
   exact ⟨rfl, xT (xT (xA xR) hx1) hx2⟩
  | true =>
   go_enter Tryz.func38, Tryz.ntmps38
   (go_wp2_with fail; refine (H1.out _ (xA xR)).mono ?_; rintro e w1 ⟨rfl, hx1⟩; obtain ⟨hc1, hf1, hs1⟩ := hx1.all; (try simp at hs1); have := (show w.heap.size < w1.heap.size from by omega))
   (go_wp2_with fail; refine (H2.out _ (xT (xA xR) hx1)).mono ?_; rintro e w2 ⟨rfl, hx2⟩; obtain ⟨hc2, hf2, hs2⟩ := hx2.all; (try simp at hs2); have := (show w.heap.size < w2.heap.size from by omega))
   go_wp2_with fail
   refine (H4.out _ _ (xT (xT (xA xR) hx1) hx2) (bE hx2 (bE hx1 (bN (by omega))))).mono ?_
   rintro e w5 ⟨rfl, hx5⟩
   go_wp2
   go_ret
   exact ⟨ret_bool' (by cases q3 <;> rfl), xT (xT (xT (xA xR) hx1) hx2) hx5⟩
set_option maxHeartbeats 3200000 in
theorem s_l11Find (A : Option Addr) (n c : Nat) (ps : List Pl) (x : List UInt8) (w : World) (h : SlAt w 5 encQ A ps) (hn : n = ps.length) (hl : n ≤ 1048576) :
  Calls Tryz.prog 27 #[.slice A n c, .string (tx x)] w fun e w' => e = .returned (.int .i64 (fnxP (psD ps) x)) ∧ w = w' := by
 have HN := hI hn
 have HX := hI (tx_toL x)
 clear hn
 go_enter Tryz.func27, Tryz.ntmps27
 go_wp2
 go_loopw [5] (fun i wr => ∃ k : Nat, k ≤ n ∧ i = .int .i64 k ∧ Hid (∀ j, j < k → ((psD ps).getD j pdD).1 ≠ x) ∧ w = wr) (fun i _ => n - (intOf i).toNat)
 case atStart => exact ⟨0, by omega, rfl, fun j hj => absurd hj (by omega), rfl⟩
 case round =>
  obtain ⟨k, hk, rfl, HJ, rfl⟩ := hrel
  by_cases hlt : k < n
  ·have hkl : k < ps.length := by have := HN.out; omega
   obtain ⟨b, off, rfl, hb, d0, d1, d2, d3, d4⟩ := h.pl hkl
   have hkd : k < (psD ps).length := by rw [psD_len]; exact hkl
   have hat := psD_at hkl
   have htv := tx_toL (ps.getD k plD).1
   by_cases he : (ps.getD k plD).1 = x
   ·have HR := hI (fnx_some hkd HJ.out (by rw [hat]; exact he)).1
    have heq : ((tx (ps.getD k plD).1).toList == (tx x).toList) = true := by rw [htv, HX.out, he]; simp
    generalize tx (ps.getD k plD).1 = sv at *
    generalize tx x = sx at *
    clear he hkl htv hat hkd d1 d2 d3 d4
    go_wp2
    go_ret
    exact ⟨by rw [HR.out]; rfl, rfl⟩
   ·have hne : ((tx (ps.getD k plD).1).toList == (tx x).toList) = false := by rw [htv, HX.out]; simpa using he
    have HJ2 := hI (upTo1 HJ.out (show ((psD ps).getD k pdD).1 ≠ x by rw [hat]; exact he))
    generalize tx (ps.getD k plD).1 = sv at *
    generalize tx x = sx at *
    clear he hkl htv hat hkd d1 d2 d3 d4
    go_wp2
    go_roundw
    case rel => exact ⟨k + 1, by omega, by go_num, HJ2, by trivial⟩
    case measure => simp [intOf]; omega
  ·obtain rfl : k = n := by omega
   have HR := hI (fnx_none (D := psD ps) (x := x) fun j hj => HJ.out j (by rw [psD_len] at hj; have := HN.out; omega)).1
   go_wp2
   go_ret
   exact ⟨by rw [HR.out]; rfl, rfl⟩
theorem has_none {D : List Pd} {x : List UInt8} {a b : Int} (h : fnxP D x < 0) : hasB D x a b = false := by
 rcases fnx_cases D x with ⟨_, h2, _⟩ | ⟨k, h1, _⟩
 ·unfold hasB; rw [h2]
 ·rw [h1] at h; omega
theorem has_some {D : List Pd} {x : List UInt8} (h : ¬ fnxP D x < 0) : ∃ k : Nat, fnxP D x = k ∧ k < D.length ∧ ∀ a b, hasB D x a b = lieB a b (D.getD k pdD).2.2.1 (D.getD k pdD).2.2.2.1 := by
 rcases fnx_cases D x with ⟨h1, _⟩ | ⟨k, h1, h2, h3, _⟩
 ·rw [h1] at h; omega
 ·exact ⟨k, h1, h2, fun a b => by unfold hasB; rw [h3]⟩
theorem all_getDW {L : List Lk} {p : Lk → Bool} : L.all p = true ↔ ∀ j, j < L.length → p (L.getD j lkD) = true := by
 rw [List.all_eq_true]
 constructor
 ·intro h j hj
  exact h _ (by simp [List.getD, hj])
 ·intro h x hx
  obtain ⟨j, hj, rfl⟩ := List.mem_iff_getElem.1 hx
  simpa [List.getD, hj] using h j hj
theorem all_noW {L : List Lk} {p : Lk → Bool} {j : Nat} (hj : j < L.length) (h : p (L.getD j lkD) = false) : L.all p = false := by
 cases e : L.all p with
 | false => rfl
 | true => rw [all_getDW.1 e j hj] at h; cases h
set_option maxRecDepth 20000 in
set_option maxHeartbeats 12800000 in
theorem s_IsWorld (A A' : Option Addr) (n c m c' : Nat) (ps : List Pl) (L : List Lk) (w : World) (h : SlAt w 5 encQ A ps) (hp : Places w ps) (hn : n = ps.length) (hl : ps.length ≤ 1048576) (h' : SlAt w 4 encK A' L) (hm : m = L.length) (hl' : L.length ≤ 1048576) (hg : Links L) :
  Calls Tryz.prog 40 #[.agg #[.slice A n c, .slice A' m c']] w fun e w' => e = .returned (.bool (wdB (psD ps) L)) ∧ Ext w w' := by
 have H1 := hI (fun W (hW : Ext w W) => s_IsRegister A n c ps W (h.ext hW) (hp.ext hW) hn hl)
 have H2 := hI (fun W (hW : Ext w W) => s_AreLinks A' m c' L W (h'.ext hW) hm hl' hg)
 have HF := hI (fun (x : List UInt8) W (hW : Ext w W) => s_l11Find A n c ps x W (h.ext hW) hn (by omega))
 have HR : Hid (wdB (psD ps) L = (rgB (psD ps) && (lksB L && L.all (wlB (psD ps))))) := hI rfl
 have HSQ := hI h
 have HSK := hI h'
 have HN := hI hn
 have HM := hI hm
 have hn2 : n ≤ 1048576 := by omega
 have hm2 : m ≤ 1048576 := by omega
 rw [HR.out]
 generalize rgB (psD ps) = q1 at *
 generalize lksB L = q2 at *
 clear HR h hp hn hl h' hm hl' hg
 cases q1 with
 | false =>
  clear H2 HF
  go_enter Tryz.func40, Tryz.ntmps40
  (go_wp2_with fail; refine (H1.out _ (xA xR)).mono ?_; rintro e w1 ⟨rfl, hx1⟩; obtain ⟨hc1, hf1, hs1⟩ := hx1.all; (try simp at hs1))
  go_wp2
  go_ret
  exact ⟨rfl, xT (xA xR) hx1⟩
 | true =>
  cases q2 with
  | false =>
   go_enter Tryz.func40, Tryz.ntmps40
   (go_wp2_with fail; refine (H1.out _ (xA xR)).mono ?_; rintro e w1 ⟨rfl, hx1⟩; obtain ⟨hc1, hf1, hs1⟩ := hx1.all; (try simp at hs1); have := (show w.heap.size < w1.heap.size from by omega))
   (go_wp2_with fail; refine (H2.out _ (xT (xA xR) hx1)).mono ?_; rintro e w2 ⟨rfl, hx2⟩; obtain ⟨hc2, hf2, hs2⟩ := hx2.all; (try simp at hs2))
   go_wp2
   go_ret
   exact ⟨rfl, xT (xT (xA xR) hx1) hx2⟩
  | true =>
   go_enter Tryz.func40, Tryz.ntmps40
   (go_wp2_with fail; refine (H1.out _ (xA xR)).mono ?_; rintro e w1 ⟨rfl, hx1⟩; obtain ⟨hc1, hf1, hs1⟩ := hx1.all; (try simp at hs1); have := (show w.heap.size < w1.heap.size from by omega))
   (go_wp2_with fail; refine (H2.out _ (xT (xA xR) hx1)).mono ?_; rintro e w2 ⟨rfl, hx2⟩; obtain ⟨hc2, hf2, hs2⟩ := hx2.all; (try simp at hs2); have := (show w.heap.size < w2.heap.size from by omega))
   go_wp2
   go_loopw [3] (fun i wr => ∃ k : Nat, k ≤ m ∧ i = .int .i64 k ∧ Hid (∀ j, j < k → wlB (psD ps) (L.getD j lkD) = true) ∧ Blk wr w.heap.size 27 #[.slice A n c, .slice A' m c'] ∧ Ext w wr) (fun i _ => m - (intOf i).toNat)
   case atStart => exact ⟨0, by omega, rfl, fun j hj => absurd hj (by omega), Blk.eq (bE hx2 (bE hx1 (bN (by omega)))) (by rfl), xT (xT (xA xR) hx1) hx2⟩
   case round =>
    obtain ⟨k, hk, rfl, HJ, hB, hxr⟩ := hrel
    obtain ⟨w5, rfl⟩ : ∃ x, x = wr := ⟨wr, rfl⟩
    have hBl := hB.lt
    have g0 : w5.cell? ⟨w.heap.size, 0, none⟩ = some (.slice A n c) := hB.cell 0
    have g1 : w5.cell? ⟨w.heap.size, 1, none⟩ = some (.slice A' m c') := hB.cell 1
    have HB := hI hB
    clear hB
    by_cases hlt : k < m
    ·have hkl : k < L.length := by have := HM.out; omega
     obtain ⟨b, off, rfl, hb, d0, d1, d2, d3⟩ := (HSK.out.ext hxr).lk hkl
     obtain ⟨v, hve⟩ : ∃ v, v = L.getD k lkD := ⟨_, rfl⟩
     rw [← hve] at d0 d1 d2 d3
     have HV := hI hve
     have hwl : wlB (psD ps) v = (hasB (psD ps) v.1 v.2.2.1 v.2.2.2 && hasB (psD ps) v.2.1 v.2.2.1 v.2.2.2) := rfl
     have HKL := hI hkl
     obtain ⟨sc, hsc⟩ : ∃ sc, tx v.1 = sc := ⟨_, rfl⟩
     obtain ⟨sp, hsp⟩ : ∃ sp, tx v.2.1 = sp := ⟨_, rfl⟩
     obtain ⟨u1, hu1⟩ : ∃ u, fnxP (psD ps) v.1 = u := ⟨_, rfl⟩
     obtain ⟨u2, hu2⟩ : ∃ u, fnxP (psD ps) v.2.1 = u := ⟨_, rfl⟩
     have HFF : Hid (∀ (s : ByteArray) (u : Int), (s = sc ∧ u = u1 ∨ s = sp ∧ u = u2) → ∀ W, Ext w W → Calls Tryz.prog 27 #[.slice A n c, .string s] W fun e w' => e = .returned (.int .i64 u) ∧ W = w') := hI (fun s u hsu W hW => by
      rcases hsu with ⟨rfl, rfl⟩ | ⟨rfl, rfl⟩
      ·rw [← hsc, ← hu1]; exact HF.out _ W hW
      ·rw [← hsp, ← hu2]; exact HF.out _ W hW)
     rw [hsc] at d0
     rw [hsp] at d1
     clear hve hkl hsc hsp
     have hsw := hxr.size
     by_cases c1 : u1 < 0
     ·have HNO : Hid (L.all (wlB (psD ps)) = false) := hI (all_noW HKL.out (by rw [← HV.out, hwl, has_none (by rw [hu1]; exact c1)]; rfl))
      clear hwl hu1 hu2
      go_wp2
      (refine wp_region_ext (by kernel_rfl) (by kernel_rfl) ?_; (repeat (go_big_quiet_step ((go_at_call 27; exact Calls_same (HFF.out _ _ (by first | exact .inl ⟨rfl, rfl⟩ | exact .inr ⟨rfl, rfl⟩) _ (hxr.trans (Ext.trans (xA xR) (ExtOf.ext _)))))))); refine wpQuiet_nil ?_; intro wq hxwq; obtain ⟨hcwq, hfwq, hswq⟩ := hxwq.all; (try simp at hswq))
      go_wp2
      have z1 := (show w5.heap.size < wq.heap.size from by omega)
      have z2 := (show w.heap.size < wq.heap.size from by omega)
      have hc1 : decide (u1 < 0) = true := decide_eq_true (by omega)
      (refine wp_region_ext (by kernel_rfl) (by kernel_rfl) ?_; (repeat (go_big_quiet_step (fail))); refine wpQuiet_nil ?_; intro wz hxwz; obtain ⟨hcwz, hfwz, hswz⟩ := hxwz.all; (try simp at hswz))
      go_wp2
      go_ret
      exact ⟨ret_bool' HNO.out.symm, xT (xT (xA hxr) hxwq) hxwz⟩
     ·by_cases c2 : u2 < 0
      ·have HNO : Hid (L.all (wlB (psD ps)) = false) := hI (all_noW HKL.out (by rw [← HV.out, hwl, has_none (x := v.2.1) (by rw [hu2]; exact c2), Bool.and_false]))
       clear hwl hu1 hu2
       go_wp2
       (refine wp_region_ext (by kernel_rfl) (by kernel_rfl) ?_; (repeat (go_big_quiet_step ((go_at_call 27; exact Calls_same (HFF.out _ _ (by first | exact .inl ⟨rfl, rfl⟩ | exact .inr ⟨rfl, rfl⟩) _ (hxr.trans (Ext.trans (xA xR) (ExtOf.ext _)))))))); refine wpQuiet_nil ?_; intro wq hxwq; obtain ⟨hcwq, hfwq, hswq⟩ := hxwq.all; (try simp at hswq))
       go_wp2
       have z1 := (show w5.heap.size < wq.heap.size from by omega)
       have z2 := (show w.heap.size < wq.heap.size from by omega)
       have hc1 : decide (u1 < 0) = false := decide_eq_false (by omega)
       have hc2 : decide (u2 < 0) = true := decide_eq_true (by omega)
       (refine wp_region_ext (by kernel_rfl) (by kernel_rfl) ?_; (repeat (go_big_quiet_step (fail))); refine wpQuiet_nil ?_; intro wz hxwz; obtain ⟨hcwz, hfwz, hswz⟩ := hxwz.all; (try simp at hswz))
       go_wp2
       go_ret
       exact ⟨ret_bool' HNO.out.symm, xT (xT (xA hxr) hxwq) hxwz⟩
      ·obtain ⟨k1, e1, hk1, hh1⟩ := has_some (D := psD ps) (x := v.1) (by rw [hu1]; exact c1)
       obtain ⟨k2, e2, hk2, hh2⟩ := has_some (D := psD ps) (x := v.2.1) (by rw [hu2]; exact c2)
       rw [hu1] at e1
       rw [hu2] at e2
       subst e1 e2
       rw [hh1, hh2] at hwl
       rw [psD_len] at hk1 hk2
       rw [psD_at hk1, psD_at hk2] at hwl
       obtain ⟨b9, off9, rfl, hb9, p0, p1, p2, p3, p4⟩ := (HSQ.out.ext hxr).pl hk1
       obtain ⟨q0, q1, q2, q3, q4⟩ := (HSQ.out.ext hxr).pl' hk2
       have hkn1 : k1 < n := by have := HN.out; omega
       have hkn2 : k2 < n := by have := HN.out; omega
       rw [show (pdOf (ps.getD k1 plD)).2.2.1 = (ps.getD k1 plD).2.2.1 from rfl, show (pdOf (ps.getD k1 plD)).2.2.2.1 = (ps.getD k1 plD).2.2.2.1 from rfl, show (pdOf (ps.getD k2 plD)).2.2.1 = (ps.getD k2 plD).2.2.1 from rfl, show (pdOf (ps.getD k2 plD)).2.2.2.1 = (ps.getD k2 plD).2.2.2.1 from rfl] at hwl
       generalize (ps.getD k1 plD).2.2.1 = fa at *
       generalize (ps.getD k1 plD).2.2.2.1 = ta at *
       generalize (ps.getD k2 plD).2.2.1 = fb at *
       generalize (ps.getD k2 plD).2.2.2.1 = tb at *
       generalize v.2.2.1 = va at *
       generalize v.2.2.2 = vb at *
       have hwl2 : wlB (psD ps) v = (decide (max fa fb ≤ va) && decide (vb ≤ min ta tb)) := by
        rw [hwl]
        unfold lieB
        rw [Bool.eq_iff_iff]
        simp only [Bool.and_eq_true, decide_eq_true_iff]
        omega
       clear hwl hu1 hu2 p0 p1 p4 q0 q1 q4 hk1 hk2 hh1 hh2 c1 c2
       by_cases c3 : va < max fa fb
       ·have HNO : Hid (L.all (wlB (psD ps)) = false) := hI (all_noW HKL.out (by rw [← HV.out, hwl2, decide_eq_false (by omega)]; rfl))
        clear hwl2
        go_wp2
        (refine wp_region_ext (by kernel_rfl) (by kernel_rfl) ?_; (repeat (go_big_quiet_step ((go_at_call 27; exact Calls_same (HFF.out _ _ (by first | exact .inl ⟨rfl, rfl⟩ | exact .inr ⟨rfl, rfl⟩) _ (hxr.trans (Ext.trans (xA xR) (ExtOf.ext _)))))))); refine wpQuiet_nil ?_; intro wq hxwq; obtain ⟨hcwq, hfwq, hswq⟩ := hxwq.all; (try simp at hswq))
        go_wp2
        have z1 := (show w5.heap.size < wq.heap.size from by omega)
        have z2 := (show w.heap.size < wq.heap.size from by omega)
        have z3 := (show b9 < wq.heap.size from by omega)
        have hc1 : decide ((k1 : Int) < 0) = false := decide_eq_false (by omega)
        have hc2 : decide ((k2 : Int) < 0) = false := decide_eq_false (by omega)
        have hc3 : decide (va < max fa fb) = true := decide_eq_true (by omega)
        (refine wp_region_ext (by kernel_rfl) (by kernel_rfl) ?_; (repeat (go_big_quiet_step (fail))); refine wpQuiet_nil ?_; intro wz hxwz; obtain ⟨hcwz, hfwz, hswz⟩ := hxwz.all; (try simp at hswz))
        go_wp2
        go_ret
        exact ⟨ret_bool' HNO.out.symm, xT (xT (xA hxr) hxwq) hxwz⟩
       ·by_cases c4 : min ta tb < vb
        ·have HNO : Hid (L.all (wlB (psD ps)) = false) := hI (all_noW HKL.out (by rw [← HV.out, hwl2, decide_eq_false (show ¬ vb ≤ min ta tb by omega), Bool.and_false]))
         clear hwl2
         go_wp2
         (refine wp_region_ext (by kernel_rfl) (by kernel_rfl) ?_; (repeat (go_big_quiet_step ((go_at_call 27; exact Calls_same (HFF.out _ _ (by first | exact .inl ⟨rfl, rfl⟩ | exact .inr ⟨rfl, rfl⟩) _ (hxr.trans (Ext.trans (xA xR) (ExtOf.ext _)))))))); refine wpQuiet_nil ?_; intro wq hxwq; obtain ⟨hcwq, hfwq, hswq⟩ := hxwq.all; (try simp at hswq))
         go_wp2
         have z1 := (show w5.heap.size < wq.heap.size from by omega)
         have z2 := (show w.heap.size < wq.heap.size from by omega)
         have z3 := (show b9 < wq.heap.size from by omega)
         have hc1 : decide ((k1 : Int) < 0) = false := decide_eq_false (by omega)
         have hc2 : decide ((k2 : Int) < 0) = false := decide_eq_false (by omega)
         have hc3 : decide (va < max fa fb) = false := decide_eq_false (by omega)
         have hc4 : decide (min ta tb < vb) = true := decide_eq_true (by omega)
         (refine wp_region_ext (by kernel_rfl) (by kernel_rfl) ?_; (repeat (go_big_quiet_step (fail))); refine wpQuiet_nil ?_; intro wz hxwz; obtain ⟨hcwz, hfwz, hswz⟩ := hxwz.all; (try simp at hswz))
         go_wp2
         go_ret
         exact ⟨ret_bool' HNO.out.symm, xT (xT (xA hxr) hxwq) hxwz⟩
        ·have HJ2 := hI (upTo1 HJ.out (show wlB (psD ps) (L.getD k lkD) = true by rw [← HV.out, hwl2, decide_eq_true (show max fa fb ≤ va by omega), decide_eq_true (show vb ≤ min ta tb by omega)]; rfl))
         clear hwl2
         go_wp2
         (refine wp_region_ext (by kernel_rfl) (by kernel_rfl) ?_; (repeat (go_big_quiet_step ((go_at_call 27; exact Calls_same (HFF.out _ _ (by first | exact .inl ⟨rfl, rfl⟩ | exact .inr ⟨rfl, rfl⟩) _ (hxr.trans (Ext.trans (xA xR) (ExtOf.ext _)))))))); refine wpQuiet_nil ?_; intro wq hxwq; obtain ⟨hcwq, hfwq, hswq⟩ := hxwq.all; (try simp at hswq))
         go_wp2
         have z1 := (show w5.heap.size < wq.heap.size from by omega)
         have z2 := (show w.heap.size < wq.heap.size from by omega)
         have z3 := (show b9 < wq.heap.size from by omega)
         have hc1 : decide ((k1 : Int) < 0) = false := decide_eq_false (by omega)
         have hc2 : decide ((k2 : Int) < 0) = false := decide_eq_false (by omega)
         have hc3 : decide (va < max fa fb) = false := decide_eq_false (by omega)
         have hc4 : decide (min ta tb < vb) = false := decide_eq_false (by omega)
         (refine wp_region_ext (by kernel_rfl) (by kernel_rfl) ?_; (repeat (go_big_quiet_step (fail))); refine wpQuiet_nil ?_; intro wz hxwz; obtain ⟨hcwz, hfwz, hswz⟩ := hxwz.all; (try simp at hswz))
         go_wp2
         go_roundw
         case rel => exact ⟨k + 1, by omega, by go_num, HJ2, HB.out.ext (xT (xT (xA xR) hxwq) hxwz), xT (xT (xA hxr) hxwq) hxwz⟩
         case measure => simp [intOf]; omega
    ·obtain rfl : k = m := by omega
     have HY : Hid (L.all (wlB (psD ps)) = true) := hI (all_getDW.2 fun j hj => HJ.out j (by have := HM.out; omega))
     go_wp2
     go_ret
     exact ⟨ret_bool' HY.out.symm, hxr⟩
end Go.Proofs.YtlnliajnipniaaaGreatDoor
