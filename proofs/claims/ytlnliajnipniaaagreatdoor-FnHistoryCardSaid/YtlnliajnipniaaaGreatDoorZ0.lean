/- Contracts of the laws over lists of texts, walked over the translation. Spans, links and parents, as the program sees them. -/
import Derived.Test.YtlnliajnipniaaaGreatDoorGW
namespace Go.Proofs.YtlnliajnipniaaaGreatDoor
open Go.RowKit
attribute [local go_sem] ExtOf.cell ExtOf.frozen
theorem enters_isSome {P : Program} {f : FuncId} {fn : Func} (hf : P.funcs[f]? = some fn) (hname : (fn.name == "runtime.NumGoroutine") = false) (hb : fn.body.isSome = true) (args : Array Value) (w : World) : (callFunc f args).run P w = .ok (.enter f args) w := by
 have h1 : fn.name ≠ "runtime.NumGoroutine" := by simpa using hname
 obtain ⟨c, hc⟩ := Option.isSome_iff_exists.1 hb
 simp [callFunc, hf, h1, hc, mark]
theorem upTo_succ {P : Nat → Prop} {k : Nat} (h : ∀ j, j < k → P j) (hk : P k) : ∀ j, j < k + 1 → P j := fun j hj => by
 rcases Nat.lt_or_ge j k with e | e
 ·exact h j e
 ·have : j = k := by omega
  exact this ▸ hk
theorem i_isYear (x : Int) (w : World) : Calls Tryz.prog 150 #[.int .i64 x] w fun e w' => e = .returned (.bool (inB x (-3000) 3000)) ∧ w = w' := by
 go_enter Tryz.func150, Tryz.ntmps150
 (go_wp2_with fail; refine (within_any _ _ _ _).mono ?_; rintro e w' ⟨rfl, rfl⟩)
 go_wp2
 go_ret
 exact ⟨rfl, rfl⟩
set_option maxHeartbeats 1600000 in
theorem i_IsSpan (a b : Int) (w : World) : Calls Tryz.prog 161 #[.agg #[.int .i64 a, .int .i64 b]] w fun e w' => e = .returned (.bool (spB a b)) ∧ Ext w w' := by
 go_enter Tryz.func161, Tryz.ntmps161
 go_wp2_with (first | (go_at_call 150; refine (i_isYear _ _).mono ?_; rintro e w' ⟨rfl, rfl⟩))
 all_goals go_ret
 all_goals refine ⟨ret_bool' ?_, xA xR⟩
 all_goals (try simp only [Bool.not_eq_true', Bool.not_eq_false'] at *)
 all_goals (simp [spB, *])
set_option maxHeartbeats 1600000 in
theorem i_has (a b y : Int) (w : World) : Calls Tryz.prog 56 #[.agg #[.int .i64 a, .int .i64 b], .int .i64 y] w fun e w' => e = .returned (.bool (inB y a b)) ∧ Ext w w' := by
 go_enter Tryz.func56, Tryz.ntmps56
 (go_wp2_with fail; refine (within_any _ _ _ _).mono ?_; rintro e w' ⟨rfl, rfl⟩)
 go_wp2
 go_ret
 exact ⟨rfl, xA xR⟩
set_option maxHeartbeats 1600000 in
theorem i_meets (a b c d : Int) (w : World) : Calls Tryz.prog 127 #[.agg #[.int .i64 a, .int .i64 b], .agg #[.int .i64 c, .int .i64 d]] w fun e w' => e = .returned (.bool (meetB a b c d)) ∧ Ext w w' := by
 go_enter Tryz.func127, Tryz.ntmps127
 go_wp2
 all_goals go_ret
 all_goals refine ⟨ret_bool' ?_, xA (xA xR)⟩
 all_goals (try simp only [Bool.not_eq_true', Bool.not_eq_false'] at *)
 all_goals (first | (simp [meetB, *]; done) | (simp [meetB]; omega))
def lieB (a b c d : Int) : Bool := decide (c ≤ a) && decide (b ≤ d)
set_option maxHeartbeats 1600000 in
theorem i_lies (a b c d : Int) (w : World) : Calls Tryz.prog 130 #[.agg #[.int .i64 a, .int .i64 b], .agg #[.int .i64 c, .int .i64 d]] w fun e w' => e = .returned (.bool (lieB a b c d)) ∧ Ext w w' := by
 go_enter Tryz.func130, Tryz.ntmps130
 go_wp2
 all_goals go_ret
 all_goals refine ⟨ret_bool' ?_, xA (xA xR)⟩
 all_goals (try simp only [Bool.not_eq_true', Bool.not_eq_false'] at *)
 all_goals (first | (simp [lieB, *]; done) | (simp [lieB]; omega))
theorem blk_s2 {w : World} {g : Nat} {t : TypeId} {l m : List UInt8} (h : Blk w g t #[.string (tx l), .string (tx m)]) : SlAt w 1 encS (some ⟨g, 0, none⟩) [l, m] := h.sl rfl len_encS
theorem as_boolY {P : Program} {f : FuncId} {args : Array Value} {w : World} {b b' : Bool} (h : Calls P f args w fun e w' => e = .returned (.bool b) ∧ Ext w w') (e : b = b') : Calls P f args w fun e w' => e = .returned (.bool b') ∧ Ext w w' := e ▸ h
set_option maxHeartbeats 3200000 in
theorem i_isLink (l : Lk) (w : World) (h1 : l.1.length ≤ 1048576) (h2 : l.2.1.length ≤ 1048576) :
  Calls Tryz.prog 125 #[.agg #[.string (tx l.1), .string (tx l.2.1), .int .i64 l.2.2.1, .int .i64 l.2.2.2]] w fun e w' => e = .returned (.bool (lkB l)) ∧ Ext w w' := by
 have HA : Hid (∀ W g, Blk W g 9 #[.string (tx l.1), .string (tx l.2.1)] → Calls Tryz.prog 164 #[.slice (some ⟨g, 0, none⟩) 2 2] W fun e w' => e = .returned (.bool (smL l.1 1 16 && smL l.2.1 1 16)) ∧ Ext W w') := hI (fun W g hB => as_boolY (i_areWords _ 2 2 [l.1, l.2.1] W (blk_s2 hB) rfl (by omega) (fun k => by
  rcases k with _ | _ | k
  ·exact h1
  ·exact h2
  ·simp [List.getD])) (by simp))
 have HE : Hid ((!((tx l.1).toList == (tx l.2.1).toList)) = !(l.1 == l.2.1)) := hI (by rw [tx_toL, tx_toL])
 have HR : Hid (lkB l = ((smL l.1 1 16 && smL l.2.1 1 16) && !(l.1 == l.2.1) && spB l.2.2.1 l.2.2.2)) := hI rfl
 generalize lkB l = res at *
 generalize (smL l.1 1 16 && smL l.2.1 1 16) = q1 at *
 generalize (l.1 == l.2.1) = q2 at *
 generalize tx l.1 = sc at *
 generalize tx l.2.1 = sp at *
 generalize l.2.2.1 = a at *
 generalize l.2.2.2 = b at *
 clear h1 h2
 cases q1 with
 | false =>
  have HF : Hid (res = false) := hI (by rw [HR.out]; rfl)
  go_enter Tryz.func125, Tryz.ntmps125
  go_wp2_with fail
  refine (HA.out _ _ (bN (by first|omega|simp))).mono ?_
  rintro e w1 ⟨rfl, hx1⟩
  go_wp2
  go_ret
  exact ⟨ret_bool' HF.out.symm, xT (xA (xA xR)) hx1⟩
 | true =>
  cases q2 with
  | true =>
   have HF : Hid (res = false) := hI (by rw [HR.out]; rfl)
   have he : (!(sc.toList == sp.toList)) = false := HE.out
   go_enter Tryz.func125, Tryz.ntmps125
   go_wp2_with fail
   refine (HA.out _ _ (bN (by first|omega|simp))).mono ?_
   rintro e w1 ⟨rfl, hx1⟩
   obtain ⟨hc1, hf1⟩ := hx1.rules
   have hs1 := hx1.size
   (try simp at hs1)
   have := (show w.heap.size < w1.heap.size from by omega)
   have := (show w.heap.size + 1 < w1.heap.size from by omega)
   go_wp2
   go_ret
   exact ⟨ret_bool' HF.out.symm, xT (xA (xA xR)) hx1⟩
  | false =>
   have HF : Hid (res = spB a b) := hI (by rw [HR.out]; simp)
   have he : (!(sc.toList == sp.toList)) = true := HE.out
   go_enter Tryz.func125, Tryz.ntmps125
   go_wp2_with fail
   refine (HA.out _ _ (bN (by first|omega|simp))).mono ?_
   rintro e w1 ⟨rfl, hx1⟩
   obtain ⟨hc1, hf1⟩ := hx1.rules
   have hs1 := hx1.size
   (try simp at hs1)
   have := (show w.heap.size < w1.heap.size from by omega)
   have := (show w.heap.size + 1 < w1.heap.size from by omega)
   (go_wp2_with fail; refine (i_IsSpan _ _ _).mono ?_; rintro e w2 ⟨rfl, hx2⟩; obtain ⟨hc2, hf2, hs2⟩ := hx2.all; (try simp at hs2))
   go_wp2
   go_ret
   exact ⟨ret_bool' HF.out.symm, xT (xT (xA (xA xR)) hx1) hx2⟩
def fstG {α : Type} (p : α → Bool) (xs : List α) : Int := match xs.findIdx? p with
 | some i => i
 | none => -1
theorem fstG_hit {α : Type} {d : α} {p : α → Bool} {xs : List α} {k : Nat} (hk : k < xs.length) (h : p (xs.getD k d) = true) (hb : ∀ j, j < k → p (xs.getD j d) = false) : (k : Int) = fstG p xs := by
 have : xs.findIdx? p = some k := by
  rw [List.findIdx?_eq_some_iff_getElem]
  refine ⟨hk, by simpa [List.getD, hk] using h, fun j hj => ?_⟩
  have := hb j hj
  have hjl : j < xs.length := by omega
  simpa [List.getD, hjl] using this
 unfold fstG
 rw [this]
theorem fstG_miss {α : Type} {d : α} {p : α → Bool} {xs : List α} (hb : ∀ j, j < xs.length → p (xs.getD j d) = false) : -1 = fstG p xs := by
 have : xs.findIdx? p = none := by
  rw [List.findIdx?_eq_none_iff]
  intro x hx
  obtain ⟨j, hj, rfl⟩ := List.mem_iff_getElem.1 hx
  have := hb j hj
  simpa [List.getD, hj] using this
 unfold fstG
 rw [this]
theorem fstG_any {α : Type} (p : α → Bool) (xs : List α) : decide (0 ≤ fstG p xs) = xs.any p := by
 unfold fstG
 rcases h : xs.findIdx? p with _ | k
 ·rw [List.findIdx?_eq_none_iff] at h
  have : xs.any p = false := by
   rw [List.any_eq_false]
   intro x hx
   have := h x hx
   simp [this]
  rw [this]; rfl
 ·rw [List.findIdx?_eq_some_iff_getElem] at h
  obtain ⟨hk, hp, _⟩ := h
  have : xs.any p = true := by
   rw [List.any_eq_true]
   exact ⟨xs[k], List.getElem_mem hk, hp⟩
  rw [this]
  simp
theorem mem_getD {α : Type} {d : α} {xs : List α} {k : Nat} (hk : k < xs.length) : xs.getD k d ∈ xs := by simp [List.getD, hk]
theorem fstG_find {α : Type} {d : α} (p : α → Bool) (xs : List α) : (fstG p xs = -1 ∧ xs.find? p = none) ∨ ∃ k : Nat, fstG p xs = k ∧ k < xs.length ∧ xs.find? p = some (xs.getD k d) := by
 unfold fstG
 rcases h : xs.findIdx? p with _ | k
 ·refine .inl ⟨rfl, ?_⟩
  rw [List.findIdx?_eq_none_iff] at h
  rw [List.find?_eq_none]
  intro x hx
  simp [h x hx]
 ·refine .inr ⟨k, rfl, ?_⟩
  rw [List.findIdx?_eq_some_iff_getElem] at h
  obtain ⟨hk, hp, hb⟩ := h
  refine ⟨hk, ?_⟩
  rw [List.find?_eq_some_iff_getElem]
  exact ⟨by simpa [List.getD, hk] using hp, k, hk, by simp [List.getD, hk], fun j hj => by simpa using hb j hj⟩
set_option maxHeartbeats 3200000 in
theorem i_IndexFuncK (p : Lk → Bool) (g : Nat) (lb : Array Value) (eg : ∀ args w, (callFunc g args).run Tryz.prog w = .ok (.enter g args) w) (A : Option Addr) (n c : Nat) (xs : List (Lk)) (w : World) (h : SlAt w 4 encK A xs) (hn : n = xs.length) (hl : n ≤ 1048576)
  (hp : ∀ x ∈ xs, ∀ W, Ext w W → Calls Tryz.prog g (#[.agg #[.string (tx x.1), .string (tx x.2.1), .int .i64 x.2.2.1, .int .i64 x.2.2.2]] ++ lb) W fun e w' => e = .returned (.bool (p x)) ∧ Ext W w') :
  Calls Tryz.prog 129 #[.slice A n c, .func (.func g) #[] lb] w fun e w' => e = .returned (.int .i64 (fstG p xs)) ∧ Ext w w' := by
 have HP := hI hp
 have HN := hI hn
 clear hp hn
 go_enter Tryz.func129, Tryz.ntmps129
 go_wp2
 go_loopw [8] (fun i wr => ∃ k : Nat, k ≤ n ∧ i = .int .i64 k ∧ Hid (∀ j, j < k → p (xs.getD j lkD) = false) ∧ Ext w wr) (fun i _ => n - (intOf i).toNat)
 case atStart => exact ⟨0, by omega, rfl, fun j hj => absurd hj (by omega), xR⟩
 case round =>
  obtain ⟨k, hk, rfl, HJ, hxr⟩ := hrel
  by_cases hlt : k < n
  ·have hkr : k < xs.length := by rw [← HN.out]; exact hlt
   obtain ⟨b, off, rfl, hb, d0, d1, d2, d3⟩ := (h.ext hxr).lk hkr
   have hcall := HP.out _ (mem_getD (d := lkD) hkr)
   cases hq : p (xs.getD k lkD) with
   | true =>
    have HQ := hI hq
    rw [hq] at hcall
    have HC := hI hcall
    clear hcall hq
    obtain ⟨r, hr⟩ : ∃ r, r = xs.getD k lkD := ⟨_, rfl⟩
    rw [← hr] at d0 d1 d2 d3 HC HQ
    have HR := hI hr
    clear hr
    go_wp2_with fail
    refine (HC.out _ hxr).mono ?_
    rintro e w' ⟨rfl, hx'⟩
    go_wp2
    go_ret
    exact ⟨ret_int (fstG_hit hkr (by rw [← HR.out]; exact HQ.out) HJ.out), xT hxr hx'⟩
   | false =>
    have HJ2 := hI (upTo_succ HJ.out hq)
    rw [hq] at hcall
    have HC := hI hcall
    clear hcall hq
    obtain ⟨r, hr⟩ : ∃ r, r = xs.getD k lkD := ⟨_, rfl⟩
    rw [← hr] at d0 d1 d2 d3 HC
    have HR := hI hr
    clear hr
    go_wp2_with fail
    refine (HC.out _ hxr).mono ?_
    rintro e w' ⟨rfl, hx'⟩
    go_wp2
    go_roundw
    case rel => exact ⟨k + 1, by omega, by go_num, HJ2, xT hxr hx'⟩
    case measure => simp [intOf]; omega
  ·obtain rfl : k = n := by omega
   go_wp2
   go_ret
   exact ⟨ret_int (fstG_miss (by rw [← HN.out]; exact HJ.out)), hxr⟩
set_option maxHeartbeats 3200000 in
theorem i_ContainsFuncK (p : Lk → Bool) (g : Nat) (lb : Array Value) (eg : ∀ args w, (callFunc g args).run Tryz.prog w = .ok (.enter g args) w) (A : Option Addr) (n c : Nat) (xs : List (Lk)) (w : World) (h : SlAt w 4 encK A xs) (hn : n = xs.length) (hl : n ≤ 1048576)
  (hp : ∀ x ∈ xs, ∀ W, Ext w W → Calls Tryz.prog g (#[.agg #[.string (tx x.1), .string (tx x.2.1), .int .i64 x.2.2.1, .int .i64 x.2.2.2]] ++ lb) W fun e w' => e = .returned (.bool (p x)) ∧ Ext W w') :
  Calls Tryz.prog 74 #[.slice A n c, .func (.func g) #[] lb] w fun e w' => e = .returned (.bool (xs.any p)) ∧ Ext w w' := by
 rw [← fstG_any]
 have hcall := i_IndexFuncK p g lb eg A n c xs w h hn hl hp
 have HC := hI hcall
 clear hcall hp hn
 go_enter Tryz.func74, Tryz.ntmps74
 go_wp2_with fail
 refine HC.out.mono ?_
 rintro e w' ⟨rfl, hx⟩
 go_wp2
 go_ret
 exact ⟨rfl, hx⟩
set_option maxHeartbeats 3200000 in
theorem i_IndexFuncS (p : List UInt8 → Bool) (g : Nat) (lb : Array Value) (eg : ∀ args w, (callFunc g args).run Tryz.prog w = .ok (.enter g args) w) (A : Option Addr) (n c : Nat) (xs : List (List UInt8)) (w : World) (h : SlAt w 1 encS A xs) (hn : n = xs.length) (hl : n ≤ 1048576)
  (hp : ∀ x ∈ xs, ∀ W, Ext w W → Calls Tryz.prog g (#[.string (tx x)] ++ lb) W fun e w' => e = .returned (.bool (p x)) ∧ Ext W w') :
  Calls Tryz.prog 131 #[.slice A n c, .func (.func g) #[] lb] w fun e w' => e = .returned (.int .i64 (fstG p xs)) ∧ Ext w w' := by
 have HP := hI hp
 have HN := hI hn
 clear hp hn
 go_enter Tryz.func131, Tryz.ntmps131
 go_wp2
 go_loopw [8] (fun i wr => ∃ k : Nat, k ≤ n ∧ i = .int .i64 k ∧ Hid (∀ j, j < k → p (xs.getD j ([] : List UInt8)) = false) ∧ Ext w wr) (fun i _ => n - (intOf i).toNat)
 case atStart => exact ⟨0, by omega, rfl, fun j hj => absurd hj (by omega), xR⟩
 case round =>
  obtain ⟨k, hk, rfl, HJ, hxr⟩ := hrel
  by_cases hlt : k < n
  ·have hkr : k < xs.length := by rw [← HN.out]; exact hlt
   obtain ⟨b, off, rfl, hb, d0⟩ := (h.ext hxr).st hkr
   have hcall := HP.out _ (mem_getD (d := ([] : List UInt8)) hkr)
   cases hq : p (xs.getD k ([] : List UInt8)) with
   | true =>
    have HQ := hI hq
    rw [hq] at hcall
    have HC := hI hcall
    clear hcall hq
    obtain ⟨r, hr⟩ : ∃ r, r = xs.getD k ([] : List UInt8) := ⟨_, rfl⟩
    rw [← hr] at d0 HC HQ
    have HR := hI hr
    clear hr
    go_wp2_with fail
    refine (HC.out _ hxr).mono ?_
    rintro e w' ⟨rfl, hx'⟩
    go_wp2
    go_ret
    exact ⟨ret_int (fstG_hit hkr (by rw [← HR.out]; exact HQ.out) HJ.out), xT hxr hx'⟩
   | false =>
    have HJ2 := hI (upTo_succ HJ.out hq)
    rw [hq] at hcall
    have HC := hI hcall
    clear hcall hq
    obtain ⟨r, hr⟩ : ∃ r, r = xs.getD k ([] : List UInt8) := ⟨_, rfl⟩
    rw [← hr] at d0 HC
    have HR := hI hr
    clear hr
    go_wp2_with fail
    refine (HC.out _ hxr).mono ?_
    rintro e w' ⟨rfl, hx'⟩
    go_wp2
    go_roundw
    case rel => exact ⟨k + 1, by omega, by go_num, HJ2, xT hxr hx'⟩
    case measure => simp [intOf]; omega
  ·obtain rfl : k = n := by omega
   go_wp2
   go_ret
   exact ⟨ret_int (fstG_miss (by rw [← HN.out]; exact HJ.out)), hxr⟩
set_option maxHeartbeats 3200000 in
theorem i_ContainsFuncS (p : List UInt8 → Bool) (g : Nat) (lb : Array Value) (eg : ∀ args w, (callFunc g args).run Tryz.prog w = .ok (.enter g args) w) (A : Option Addr) (n c : Nat) (xs : List (List UInt8)) (w : World) (h : SlAt w 1 encS A xs) (hn : n = xs.length) (hl : n ≤ 1048576)
  (hp : ∀ x ∈ xs, ∀ W, Ext w W → Calls Tryz.prog g (#[.string (tx x)] ++ lb) W fun e w' => e = .returned (.bool (p x)) ∧ Ext W w') :
  Calls Tryz.prog 80 #[.slice A n c, .func (.func g) #[] lb] w fun e w' => e = .returned (.bool (xs.any p)) ∧ Ext w w' := by
 rw [← fstG_any]
 have hcall := i_IndexFuncS p g lb eg A n c xs w h hn hl hp
 have HC := hI hcall
 clear hcall hp hn
 go_enter Tryz.func80, Tryz.ntmps80
 go_wp2_with fail
 refine HC.out.mono ?_
 rintro e w' ⟨rfl, hx⟩
 go_wp2
 go_ret
 exact ⟨rfl, hx⟩
def parP (c : List UInt8) (y : Int) (l : Lk) : Bool := l.1 == c && lkHas l y
set_option maxHeartbeats 3200000 in
theorem i_parentIn1 (l : Lk) (c : List UInt8) (y : Int) (b5 b6 : Nat) (w : World) (h5 : w.cell? ⟨b5, 0, none⟩ = some (.string (tx c))) (h6 : w.cell? ⟨b6, 0, none⟩ = some (.int .i64 y)) :
  Calls Tryz.prog 136 #[.agg #[.string (tx l.1), .string (tx l.2.1), .int .i64 l.2.2.1, .int .i64 l.2.2.2], .pointer (some ⟨b5, 0, none⟩), .pointer (some ⟨b6, 0, none⟩)] w fun e w' => e = .returned (.bool (parP c y l)) ∧ Ext w w' := by
 have e5 : b5 < w.heap.size := World.block_lt_of_cell? _ _ h5
 have e6 : b6 < w.heap.size := World.block_lt_of_cell? _ _ h6
 have n5 : ¬ b5 = w.heap.size := by omega
 have n6 : ¬ b6 = w.heap.size := by omega
 have HH := hI (fun W => i_has l.2.2.1 l.2.2.2 y W)
 cases he : (l.1 == c) with
 | false =>
  have HR : Hid (parP c y l = false) := hI (by unfold parP; rw [he]; rfl)
  have heq : ((tx l.1).toList == (tx c).toList) = false := by rw [tx_toL, tx_toL]; exact he
  generalize parP c y l = res at *
  generalize tx l.1 = sc at *
  generalize tx c = sx at *
  generalize tx l.2.1 = sp at *
  clear he
  go_enter Tryz.func136, Tryz.ntmps136
  go_wp2
  go_ret
  exact ⟨ret_bool' HR.out.symm, xA xR⟩
 | true =>
  have HR : Hid (parP c y l = inB y l.2.2.1 l.2.2.2) := hI (by unfold parP; rw [he]; rfl)
  have heq : ((tx l.1).toList == (tx c).toList) = true := by rw [tx_toL, tx_toL]; exact he
  generalize parP c y l = res at *
  generalize tx l.1 = sc at *
  generalize tx c = sx at *
  generalize tx l.2.1 = sp at *
  clear he
  go_enter Tryz.func136, Tryz.ntmps136
  (go_wp2_with fail; refine (HH.out _).mono ?_; rintro e w1 ⟨rfl, hx1⟩; obtain ⟨hc1, hf1, hs1⟩ := hx1.all; (try simp at hs1))
  go_wp2
  go_ret
  exact ⟨ret_bool' HR.out.symm, xT (xA xR) hx1⟩
theorem en_parentIn1 (args : Array Value) (w : World) : (callFunc 136 args).run Tryz.prog w = .ok (.enter 136 args) w := enters_isSome Tryz.func136 (by kernel_rfl) (by kernel_rfl) args w
theorem par_find (L : List Lk) (c : List UInt8) (y : Int) : par L c y = (L.find? (parP c y)).map fun l => l.2.1 := rfl
set_option maxHeartbeats 3200000 in
theorem i_parentIn (A : Option Addr) (n c : Nat) (L : List Lk) (x : List UInt8) (y : Int) (w : World) (h : SlAt w 4 encK A L) (hn : n = L.length) (hl : n ≤ 1048576) :
  Calls Tryz.prog 90 #[.slice A n c, .string (tx x), .int .i64 y] w fun e w' => e = .returned (.tuple #[.string (tx (parT L x y)), .bool (par L x y).isSome]) ∧ Ext w w' := by
 have HN := hI hn
 have hF := fstG_find (d := lkD) (parP x y) L
 have HC : Hid (∀ W (lb : Array Value) b5 b6, lb = #[.pointer (some ⟨b5, 0, none⟩), .pointer (some ⟨b6, 0, none⟩)] → Blk W b5 9 #[.string (tx x)] → Blk W b6 2 #[.int .i64 y] → Ext w W → Calls Tryz.prog 129 #[.slice A n c, .func (.func 136) #[] lb] W fun e w' => e = .returned (.int .i64 (fstG (parP x y) L)) ∧ Ext W w') := hI (fun W lb b5 b6 hlb h5' h6' hx => by
  subst hlb
  have h5 : W.cell? ⟨b5, 0, none⟩ = some (.string (tx x)) := h5'.cell 0
  have h6 : W.cell? ⟨b6, 0, none⟩ = some (.int .i64 y) := h6'.cell 0
  exact i_IndexFuncK (parP x y) _ _ en_parentIn1 A n c L W (h.ext hx) hn hl (fun l _ W' hW' => i_parentIn1 l x y b5 b6 W' ((hW'.cell _ _ (World.block_lt_of_cell? _ _ h5)).trans h5) ((hW'.cell _ _ (World.block_lt_of_cell? _ _ h6)).trans h6)))
 have HP := hI (par_find L x y)
 have HT : Hid (parT L x y = (par L x y).getD []) := hI rfl
 have HS := hI h
 rcases hF with ⟨he, hf⟩ | ⟨k, he, hk, hf⟩
 ·rw [he] at HC
  have HR : Hid (parT L x y = [] ∧ par L x y = none) := hI (by rw [HT.out, HP.out, hf]; exact ⟨rfl, rfl⟩)
  rw [HR.out.1, HR.out.2]
  generalize tx x = sx at *
  clear he hf h hn
  go_enter Tryz.func90, Tryz.ntmps90
  go_wp2_with fail
  refine (HC.out _ _ _ _ rfl (bA (bN (by omega))) (bN (by first|omega|simp)) (xA (xA xR))).mono ?_
  rintro e w1 ⟨rfl, hx1⟩
  go_wp2
  go_ret2
  exact ⟨rfl, xT (xA (xA xR)) hx1⟩
 ·rw [he] at HC
  have HR : Hid (parT L x y = (L.getD k lkD).2.1 ∧ (par L x y).isSome = true) := hI (by rw [HT.out, HP.out, hf]; exact ⟨rfl, rfl⟩)
  rw [HR.out.1, HR.out.2]
  obtain ⟨b, off, hA, hb, d0, d1, d2, d3⟩ := h.lk hk
  subst hA
  have hkn : k < n := by omega
  generalize L.getD k lkD = v at *
  generalize tx x = sx at *
  generalize tx v.2.1 = sp at *
  have HKC : Hid (∀ W, Ext w W → W.cell? ⟨b, off + k * 4 + 1, none⟩ = some (.string sp)) := hI (fun W hW => (hW.cell _ _ hb).trans d1)
  clear he hf h hn d0 d1 d2 d3 hb
  go_enter Tryz.func90, Tryz.ntmps90
  go_wp2_with fail
  refine (HC.out _ _ _ _ rfl (bA (bN (by omega))) (bN (by first|omega|simp)) (xA (xA xR))).mono ?_
  rintro e w1 ⟨rfl, hx1⟩
  have hx1' : Ext w w1 := xT (xA (xA xR)) hx1
  have d1 := HKC.out w1 hx1'
  clear hx1
  go_wp2
  go_ret2
  exact ⟨rfl, hx1'⟩
end Go.Proofs.YtlnliajnipniaaaGreatDoor
