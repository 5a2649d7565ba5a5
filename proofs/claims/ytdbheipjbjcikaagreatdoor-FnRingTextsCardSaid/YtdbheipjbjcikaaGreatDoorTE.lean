/- Contracts of ChangeText, walked over the translation. -/
import Derived.Test.YtdbheipjbjcikaaGreatDoorTD
import Derived.Test.YtdbheipjbjcikaaGreatDoorTB
import Derived.Deep.RegionHeld3
import Derived.Deep.DeepCutAuto
import Derived.RegionTactic
import Derived.BigRegion
import Derived.WalkLawsBesides
import Derived.WalkSpells
import Derived.Lib.MinMax
import Derived.Outline
namespace Go.Proofs.YtdbheipjbjcikaaGreatDoor
open Go.RowKit
attribute [local go_sem] ExtOf.cell ExtOf.frozen

/-- a text, or a full stop where it is empty -/
def dtB (s : ByteArray) : ByteArray := if s.toList.isEmpty then ⟨#[46]⟩ else s
theorem dtB_len {s : ByteArray} {m : Nat} (h : s.size ≤ m) (hm : 1 ≤ m) : (dtB s).size ≤ m := by
  unfold dtB
  split
  · exact hm
  · exact h
theorem s_l13Stop (s : ByteArray) (w : World) : Calls Tryz.prog 121 #[.string s] w fun e w' => e = .returned (.string (dtB s)) ∧ Ext w w' := by
  unfold dtB
  cases h : s.toList.isEmpty with
  | true =>
    rw [if_pos rfl]
    go_enter Tryz.func121, Tryz.ntmps121
    go_wp2
    go_ret
    exact ⟨rfl, by (repeat (first | with_reducible exact Ext.refl _ | with_reducible assumption | ((with_reducible apply Src.ext); with_reducible assumption) | with_reducible refine Ext.alloc ?_ _ | with_reducible refine Ext.drew ?_ | with_reducible refine Ext.drewN ?_ _ | ((with_reducible refine Ext.setCell' ?_ ?_ _); solve | omega | simp | (simp; omega)) | (with_reducible refine Ext.trans ?_ (by with_reducible assumption))))⟩
  | false =>
    rw [if_neg (by simp)]
    go_enter Tryz.func121, Tryz.ntmps121
    go_wp2
    go_ret
    exact ⟨rfl, by (repeat (first | with_reducible exact Ext.refl _ | with_reducible assumption | ((with_reducible apply Src.ext); with_reducible assumption) | with_reducible refine Ext.alloc ?_ _ | with_reducible refine Ext.drew ?_ | with_reducible refine Ext.drewN ?_ _ | ((with_reducible refine Ext.setCell' ?_ ?_ _); solve | omega | simp | (simp; omega)) | (with_reducible refine Ext.trans ?_ (by with_reducible assumption))))⟩
theorem i_orDot (s : ByteArray) (w : World) : Calls Tryz.prog 126 #[.string s] w fun e w' => e = .returned (.string (dtB s)) ∧ Ext w w' := by
  unfold dtB
  cases h : s.toList.isEmpty with
  | true =>
    rw [if_pos rfl]
    go_enter Tryz.func126, Tryz.ntmps126
    go_wp2
    go_ret
    exact ⟨rfl, by (repeat (first | with_reducible exact Ext.refl _ | with_reducible assumption | ((with_reducible apply Src.ext); with_reducible assumption) | with_reducible refine Ext.alloc ?_ _ | with_reducible refine Ext.drew ?_ | with_reducible refine Ext.drewN ?_ _ | ((with_reducible refine Ext.setCell' ?_ ?_ _); solve | omega | simp | (simp; omega)) | (with_reducible refine Ext.trans ?_ (by with_reducible assumption))))⟩
  | false =>
    rw [if_neg (by simp)]
    go_enter Tryz.func126, Tryz.ntmps126
    go_wp2
    go_ret
    exact ⟨rfl, by (repeat (first | with_reducible exact Ext.refl _ | with_reducible assumption | ((with_reducible apply Src.ext); with_reducible assumption) | with_reducible refine Ext.alloc ?_ _ | with_reducible refine Ext.drew ?_ | with_reducible refine Ext.drewN ?_ _ | ((with_reducible refine Ext.setCell' ?_ ?_ _); solve | omega | simp | (simp; omega)) | (with_reducible refine Ext.trans ?_ (by with_reducible assumption))))⟩
theorem s_l01DecI (n : Int) (w : World) (h0 : 0 ≤ n) (h1 : n ≤ 1000) : Calls Tryz.prog 115 #[.int .i64 n] w fun e w' => e = .returned (.string (tx (Lib.itoa n))) ∧ Ext w w' := by
  obtain ⟨m, rfl⟩ : ∃ m : Nat, n = m := ⟨n.toNat, by omega⟩
  rw [itoa_nat (by omega)]
  exact s_l01Dec m w (by omega)
/-- the parts of a change's text -/
def chL (y k : Int) (co ot la te : ByteArray) : List (List UInt8) := [Lib.itoa y, Lib.itoa k, co.data.toList, (dtB ot).data.toList, (dtB la).data.toList, (dtB te).data.toList]
/-- the text of a change -/
def chT (y k : Int) (co ot la te : ByteArray) : List UInt8 := jn (chL y k co ot la te) [47]
theorem tx_data (s : ByteArray) : tx s.data.toList = s := rfl
theorem six_tx (a b c d e f : List UInt8) : tx a ++ (⟨#[47]⟩ : ByteArray) ++ tx b ++ (⟨#[47]⟩ : ByteArray) ++ tx c ++ (⟨#[47]⟩ : ByteArray) ++ tx d ++ (⟨#[47]⟩ : ByteArray) ++ tx e ++ (⟨#[47]⟩ : ByteArray) ++ tx f = tx (jn [a, b, c, d, e, f] [47]) := by
  rw [show (⟨#[47]⟩ : ByteArray) = tx [47] from rfl]
  simp only [tx_add]
  congr 1
  simp [Lib.join]
theorem chT_tx (y k : Int) (co ot la te : ByteArray) : tx (Lib.itoa y) ++ (⟨#[47]⟩ : ByteArray) ++ tx (Lib.itoa k) ++ (⟨#[47]⟩ : ByteArray) ++ co ++ (⟨#[47]⟩ : ByteArray) ++ dtB ot ++ (⟨#[47]⟩ : ByteArray) ++ dtB la ++ (⟨#[47]⟩ : ByteArray) ++ dtB te = tx (chT y k co ot la te) :=
  six_tx (Lib.itoa y) (Lib.itoa k) co.data.toList (dtB ot).data.toList (dtB la).data.toList (dtB te).data.toList
theorem chT_len {y k : Int} {co ot la te : ByteArray} (hy : Num y) (hk : Num k) (h1 : co.size ≤ 1048576) (h2 : ot.size ≤ 1048576) (h3 : la.size ≤ 1048576) (h4 : te.size ≤ 1048576) : (chT y k co ot la te).length ≤ 6291462 := by
  have := jn_len (L := chL y k co ot la te) (sep := [47]) (m := 1048576) (by
    intro x hx
    have a1 := itoa_len hy
    have a2 := itoa_len hk
    have a4 := dtB_len (m := 1048576) h2 (by omega)
    have a5 := dtB_len (m := 1048576) h3 (by omega)
    have a6 := dtB_len (m := 1048576) h4 (by omega)
    rw [← size_list] at a4 a5 a6 h1
    simp only [chL, List.mem_cons, List.not_mem_nil, or_false] at hx
    rcases hx with rfl | rfl | rfl | rfl | rfl | rfl <;> omega)
  simp only [chL, List.length_cons, List.length_nil] at this
  exact this
theorem inB_num {y : Int} {a b : Int} (h : inB y a b = true) (ha : -1000000000000000 ≤ a) (hb : b ≤ 1000000000000000) : Num y := by
  simp [inB] at h
  unfold Num
  omega
set_option maxRecDepth 20000 in
set_option maxHeartbeats 3200000 in
theorem s_l13Text (y k : Int) (co ot la te : ByteArray) (w : World) (hy : Num y) (hk0 : 0 ≤ k) (hk1 : k ≤ 3) (h1 : co.size ≤ 1048576) (h2 : ot.size ≤ 1048576) (h3 : la.size ≤ 1048576) (h4 : te.size ≤ 1048576) :
    Calls Tryz.prog 58 #[.agg #[.int .i64 y, .int .i64 k, .string co, .string ot, .string la, .string te]] w fun e w' => e = .returned (.string (tx (chT y k co ot la te))) ∧ Ext w w' := by
  have a1 := itoa_len hy
  have a2 := itoa_len (show Num k by unfold Num; omega)
  have a4 := dtB_len (m := 1048576) h2 (by omega)
  have a5 := dtB_len (m := 1048576) h3 (by omega)
  have a6 := dtB_len (m := 1048576) h4 (by omega)
  rw [← tx_size] at a1 a2
  have HN : Hid (Num y) := Lib.hid hy
  have HD : Hid (∀ W, Calls Tryz.prog 115 #[.int .i64 k] W fun e w' => e = .returned (.string (tx (Lib.itoa k))) ∧ Ext W w') := Lib.hid fun W => s_l01DecI k W hk0 (by omega)
  rw [← chT_tx]
  have HS4 := Lib.hid (s_l13Stop ot)
  have HS5 := Lib.hid (s_l13Stop la)
  have HS6 := Lib.hid (s_l13Stop te)
  have HS1 : Hid (∀ W, Calls Tryz.prog 120 #[.int .i64 y] W fun e w' => e = .returned (.string (tx (Lib.itoa y))) ∧ Ext W w') := Lib.hid fun W => s_l01Number y W hy
  generalize tx (Lib.itoa y) = p1 at *
  generalize tx (Lib.itoa k) = p2 at *
  generalize dtB ot = p4 at *
  generalize dtB la = p5 at *
  generalize dtB te = p6 at *
  have f1 : (p1.size + 1 > 9223372036854775807) = False := eq_false (by omega)
  have f2 : (p1.size + 1 + p2.size > 9223372036854775807) = False := eq_false (by omega)
  have f3 : (p1.size + 1 + p2.size + 1 > 9223372036854775807) = False := eq_false (by omega)
  have f4 : (p1.size + 1 + p2.size + 1 + co.size > 9223372036854775807) = False := eq_false (by omega)
  have f5 : (p1.size + 1 + p2.size + 1 + co.size + 1 > 9223372036854775807) = False := eq_false (by omega)
  have f6 : (p1.size + 1 + p2.size + 1 + co.size + 1 + p4.size > 9223372036854775807) = False := eq_false (by omega)
  have f7 : (p1.size + 1 + p2.size + 1 + co.size + 1 + p4.size + 1 > 9223372036854775807) = False := eq_false (by omega)
  have f8 : (p1.size + 1 + p2.size + 1 + co.size + 1 + p4.size + 1 + p5.size > 9223372036854775807) = False := eq_false (by omega)
  have f9 : (p1.size + 1 + p2.size + 1 + co.size + 1 + p4.size + 1 + p5.size + 1 > 9223372036854775807) = False := eq_false (by omega)
  have f10 : (p1.size + 1 + p2.size + 1 + co.size + 1 + p4.size + 1 + p5.size + 1 + p6.size > 9223372036854775807) = False := eq_false (by omega)
  clear hy hk0 hk1 h1 h2 h3 h4 a1 a2 a4 a5 a6
  go_enter Tryz.func58, Tryz.ntmps58
  go_wp2
  (refine wp_region_ext (by kernel_rfl) (by kernel_rfl) ?_; (repeat (go_big_quiet_step (first | (go_at_call 120; exact Calls_ext (HS1.out _)) | (go_at_call 115; exact Calls_ext (HD.out _)) | (go_at_call 121; exact Calls_ext ((by first | exact HS4.out _ | exact HS5.out _ | exact HS6.out _)))))); refine wpQuiet_nil ?_; intro wq hxwq; obtain ⟨hcwq, hfwq⟩ := hxwq.rules; have hswq := hxwq.size; (try simp at hswq))
  go_wp2
  go_ret
  exact ⟨rfl, by (repeat (first | with_reducible exact Ext.refl _ | with_reducible assumption | ((with_reducible apply Src.ext); with_reducible assumption) | with_reducible refine Ext.alloc ?_ _ | with_reducible refine Ext.drew ?_ | with_reducible refine Ext.drewN ?_ _ | ((with_reducible refine Ext.setCell' ?_ ?_ _); solve | omega | simp | (simp; omega)) | (with_reducible refine Ext.trans ?_ (by with_reducible assumption))))⟩
set_option maxRecDepth 20000 in
set_option maxHeartbeats 3200000 in
theorem i_changeText (y k : Int) (co ot la te : ByteArray) (w : World) (hy : Num y) (hk0 : 0 ≤ k) (hk1 : k ≤ 3) (h1 : co.size ≤ 1048576) (h2 : ot.size ≤ 1048576) (h3 : la.size ≤ 1048576) (h4 : te.size ≤ 1048576) (hT : Tab w) :
    Calls Tryz.prog 62 #[.agg #[.int .i64 y, .int .i64 k, .string co, .string ot, .string la, .string te]] w fun e w' => e = .returned (.string (tx (chT y k co ot la te))) ∧ Ext w w' := by
  have hk : Num k := by unfold Num; omega
  have HL := Lib.hid (chT_len hy hk h1 h2 h3 h4)
  have HT := Lib.hid (hT.ext ((Ext.refl w).alloc (.cells #[.int .i64 y, .int .i64 k, .string co, .string ot, .string la, .string te] 23)))
  have HN : Hid (Num y ∧ Num k) := Lib.hid ⟨hy, hk⟩
  have HE : Hid (chT y k co ot la te = Lib.join (([tx (Lib.itoa y), tx (Lib.itoa k), co, dtB ot, dtB la, dtB te] : List ByteArray).map (·.data.toList)) [47]) := Lib.hid rfl
  generalize chT y k co ot la te = r at *
  have HI : Hid (∀ n W, Num n → Tab W → Calls Tryz.prog 124 #[.int .i64 n] W fun e w' => e = .returned (.string (tx (Lib.itoa n))) ∧ Ext W w') := Lib.hid fun n W h h' => i_decimalN n W h h'
  have HO := Lib.hid i_orDot
  clear hy hk hk0 hk1 h1 h2 h3 h4 hT
  go_enter Tryz.func62, Tryz.ntmps62
  go_wp2
  (refine wp_region_ext_tail 17 (by kernel_rfl) (by kernel_rfl) ?_; simp only [List.take_succ_cons, List.take_zero, List.drop_succ_cons, List.drop_zero]; (repeat (go_big_quiet_step (first | (go_at_call 124; exact Calls_ext (HI.out _ _ (by first | exact HN.out.1 | exact HN.out.2) (HT.out.ext (ExtOf.ext _)))) | (go_at_call 126; exact Calls_ext (HO.out _ _))))); refine wpQuiet_nil ?_; intro wq hxwq; obtain ⟨hcwq, hfwq⟩ := hxwq.rules; have hswq := hxwq.size; (try simp at hswq))
  generalize tx (Lib.itoa y) = p1 at *
  generalize tx (Lib.itoa k) = p2 at *
  generalize dtB ot = p4 at *
  generalize dtB la = p5 at *
  generalize dtB te = p6 at *
  go_wp2_with fail
  refine (Tryz.strings_Join wq.heap.size 0 6 [p1, p2, co, p4, p5, p6] ⟨#[47]⟩ _ (fun j x hj => ?_) (by simp) (by simp) (by simp) ?_).mono ?_
  · match j, hj with
    | 0, hj => cases hj; simp [go_sem]
    | 1, hj => cases hj; simp [go_sem]
    | 2, hj => cases hj; simp [go_sem]
    | 3, hj => cases hj; simp [go_sem]
    | 4, hj => cases hj; simp [go_sem]
    | 5, hj => cases hj; simp [go_sem]
    | j + 6, hj => simp at hj
  · have h1 := HL.out
    rw [HE.out] at h1
    exact Nat.le_trans h1 (by omega)
  rintro e w2 ⟨rfl, hx2⟩
  have hx2' : Ext _ w2 := hx2
  have hE : (⟨(Lib.join (([p1, p2, co, p4, p5, p6] : List ByteArray).map (·.data.toList)) (⟨#[47]⟩ : ByteArray).data.toList).toArray⟩ : ByteArray) = tx r := by rw [HE.out]; rfl
  rw [hE]
  go_wp2
  go_ret
  exact ⟨rfl, by (repeat (first | with_reducible exact Ext.refl _ | with_reducible assumption | ((with_reducible apply Src.ext); with_reducible assumption) | with_reducible refine Ext.alloc ?_ _ | with_reducible refine Ext.drew ?_ | with_reducible refine Ext.drewN ?_ _ | ((with_reducible refine Ext.setCell' ?_ ?_ _); solve | omega | simp | (simp; omega)) | (with_reducible refine Ext.trans ?_ (by with_reducible assumption))))⟩
/-- what ChangeText returns -/
def chR (y k : Int) (co ot la te : ByteArray) : List UInt8 := if chB y k co ot la te = true then chT y k co ot la te else []
def chC (y k : Int) (co ot la te : ByteArray) : Int := if chB y k co ot la te = true then 0 else 1
theorem chB_facts {y k : Int} {co ot la te : ByteArray} (h : chB y k co ot la te = true) : Num y ∧ 0 ≤ k ∧ k ≤ 3 := by
  unfold chB at h
  simp only [Bool.and_eq_true] at h
  refine ⟨inB_num h.1 (by omega) (by omega), ?_⟩
  have := h.2.1
  simp [inB] at this
  omega

set_option maxHeartbeats 1600000 in
theorem s_ChangeText (y k : Int) (co ot la te : ByteArray) (w : World) (h1 : co.size ≤ 1048576) (h2 : ot.size ≤ 1048576) (h3 : la.size ≤ 1048576) (h4 : te.size ≤ 1048576) :
    Calls Tryz.prog 26 #[.agg #[.int .i64 y, .int .i64 k, .string co, .string ot, .string la, .string te]] w fun e w' => e = .returned (.tuple #[.string (tx (chR y k co ot la te)), .int .i64 (chC y k co ot la te)]) ∧ Ext w w' := by
  unfold chR chC
  cases h : chB y k co ot la te with
  | true =>
    obtain ⟨hy, hk0, hk1⟩ := chB_facts h
    have H1 : Hid (∀ W, Calls Tryz.prog 57 #[.agg #[.int .i64 y, .int .i64 k, .string co, .string ot, .string la, .string te]] W fun e w' => e = .returned (.bool true) ∧ Ext W w') := Lib.hid fun W => by have := s_IsChange y k co ot la te W h1 h2 h3 h4; rwa [h] at this
    have H2 := Lib.hid fun W => s_l13Text y k co ot la te W hy hk0 hk1 h1 h2 h3 h4
    rw [if_pos rfl, if_pos rfl]
    clear hy hk0 hk1 h h1 h2 h3 h4
    go_enter Tryz.func26, Tryz.ntmps26
    (go_wp2_with fail; refine (H1.out _).mono ?_; rintro e w1 ⟨rfl, hx1⟩; obtain ⟨hc1, hf1⟩ := hx1.rules; have hs1 := hx1.size; (try simp at hs1); have := (show w.heap.size < w1.heap.size from by omega))
    (go_wp2_with fail; refine (H2.out _).mono ?_; rintro e w2 ⟨rfl, hx2⟩; obtain ⟨hc2, hf2⟩ := hx2.rules; have hs2 := hx2.size; (try simp at hs2))
    go_wp2
    go_ret2
    exact ⟨rfl, by (repeat (first | with_reducible exact Ext.refl _ | with_reducible assumption | ((with_reducible apply Src.ext); with_reducible assumption) | with_reducible refine Ext.alloc ?_ _ | with_reducible refine Ext.drew ?_ | with_reducible refine Ext.drewN ?_ _ | ((with_reducible refine Ext.setCell' ?_ ?_ _); solve | omega | simp | (simp; omega)) | (with_reducible refine Ext.trans ?_ (by with_reducible assumption))))⟩
  | false =>
    have H1 : Hid (∀ W, Calls Tryz.prog 57 #[.agg #[.int .i64 y, .int .i64 k, .string co, .string ot, .string la, .string te]] W fun e w' => e = .returned (.bool false) ∧ Ext W w') := Lib.hid fun W => by have := s_IsChange y k co ot la te W h1 h2 h3 h4; rwa [h] at this
    rw [if_neg (by simp), if_neg (by simp)]
    clear h h1 h2 h3 h4
    go_enter Tryz.func26, Tryz.ntmps26
    (go_wp2_with fail; refine (H1.out _).mono ?_; rintro e w1 ⟨rfl, hx1⟩; obtain ⟨hc1, hf1⟩ := hx1.rules; have hs1 := hx1.size; (try simp at hs1); have := (show w.heap.size < w1.heap.size from by omega))
    go_wp2
    go_ret2
    exact ⟨rfl, by (repeat (first | with_reducible exact Ext.refl _ | with_reducible assumption | ((with_reducible apply Src.ext); with_reducible assumption) | with_reducible refine Ext.alloc ?_ _ | with_reducible refine Ext.drew ?_ | with_reducible refine Ext.drewN ?_ _ | ((with_reducible refine Ext.setCell' ?_ ?_ _); solve | omega | simp | (simp; omega)) | (with_reducible refine Ext.trans ?_ (by with_reducible assumption))))⟩

set_option maxHeartbeats 1600000 in
theorem i_ChangeText (y k : Int) (co ot la te : ByteArray) (w : World) (h1 : co.size ≤ 1048576) (h2 : ot.size ≤ 1048576) (h3 : la.size ≤ 1048576) (h4 : te.size ≤ 1048576) (hm : Mx w) (hT : Tab w) :
    Calls Tryz.prog 25 #[.agg #[.int .i64 y, .int .i64 k, .string co, .string ot, .string la, .string te]] w fun e w' => e = .returned (.tuple #[.string (tx (chR y k co ot la te)), .int .i64 (chC y k co ot la te)]) ∧ Ext w w' := by
  unfold chR chC
  have HM := Lib.hid hm
  have HT := Lib.hid hT
  clear hm hT
  cases h : chB y k co ot la te with
  | true =>
    obtain ⟨hy, hk0, hk1⟩ := chB_facts h
    have H1 : Hid (∀ W (_ : Mx W), Calls Tryz.prog 28 #[.agg #[.int .i64 y, .int .i64 k, .string co, .string ot, .string la, .string te]] W fun e w' => e = .returned (.bool true) ∧ Ext W w') := Lib.hid fun W hM => by have := i_IsChange y k co ot la te W h1 h2 h3 h4 hM; rwa [h] at this
    have H2 := Lib.hid fun W (hT : Tab W) => i_changeText y k co ot la te W hy hk0 hk1 h1 h2 h3 h4 hT
    rw [if_pos rfl, if_pos rfl]
    clear hy hk0 hk1 h h1 h2 h3 h4
    go_enter Tryz.func25, Tryz.ntmps25
    (go_wp2_with fail; refine (H1.out _ (HM.out.ext (by (repeat (first | with_reducible exact Ext.refl _ | with_reducible assumption | ((with_reducible apply Src.ext); with_reducible assumption) | with_reducible refine Ext.alloc ?_ _ | with_reducible refine Ext.drew ?_ | with_reducible refine Ext.drewN ?_ _ | ((with_reducible refine Ext.setCell' ?_ ?_ _); solve | omega | simp | (simp; omega)) | (with_reducible refine Ext.trans ?_ (by with_reducible assumption))))))).mono ?_; rintro e w1 ⟨rfl, hx1⟩; obtain ⟨hc1, hf1⟩ := hx1.rules; have hs1 := hx1.size; (try simp at hs1); have := (show w.heap.size < w1.heap.size from by omega))
    (go_wp2_with fail; refine (H2.out _ (HT.out.ext (by (repeat (first | with_reducible exact Ext.refl _ | with_reducible assumption | ((with_reducible apply Src.ext); with_reducible assumption) | with_reducible refine Ext.alloc ?_ _ | with_reducible refine Ext.drew ?_ | with_reducible refine Ext.drewN ?_ _ | ((with_reducible refine Ext.setCell' ?_ ?_ _); solve | omega | simp | (simp; omega)) | (with_reducible refine Ext.trans ?_ (by with_reducible assumption))))))).mono ?_; rintro e w2 ⟨rfl, hx2⟩; obtain ⟨hc2, hf2⟩ := hx2.rules; have hs2 := hx2.size; (try simp at hs2))
    go_wp2
    go_ret2
    exact ⟨rfl, by (repeat (first | with_reducible exact Ext.refl _ | with_reducible assumption | ((with_reducible apply Src.ext); with_reducible assumption) | with_reducible refine Ext.alloc ?_ _ | with_reducible refine Ext.drew ?_ | with_reducible refine Ext.drewN ?_ _ | ((with_reducible refine Ext.setCell' ?_ ?_ _); solve | omega | simp | (simp; omega)) | (with_reducible refine Ext.trans ?_ (by with_reducible assumption))))⟩
  | false =>
    have H1 : Hid (∀ W (_ : Mx W), Calls Tryz.prog 28 #[.agg #[.int .i64 y, .int .i64 k, .string co, .string ot, .string la, .string te]] W fun e w' => e = .returned (.bool false) ∧ Ext W w') := Lib.hid fun W hM => by have := i_IsChange y k co ot la te W h1 h2 h3 h4 hM; rwa [h] at this
    rw [if_neg (by simp), if_neg (by simp)]
    clear h h1 h2 h3 h4
    go_enter Tryz.func25, Tryz.ntmps25
    (go_wp2_with fail; refine (H1.out _ (HM.out.ext (by (repeat (first | with_reducible exact Ext.refl _ | with_reducible assumption | ((with_reducible apply Src.ext); with_reducible assumption) | with_reducible refine Ext.alloc ?_ _ | with_reducible refine Ext.drew ?_ | with_reducible refine Ext.drewN ?_ _ | ((with_reducible refine Ext.setCell' ?_ ?_ _); solve | omega | simp | (simp; omega)) | (with_reducible refine Ext.trans ?_ (by with_reducible assumption))))))).mono ?_; rintro e w1 ⟨rfl, hx1⟩; obtain ⟨hc1, hf1⟩ := hx1.rules; have hs1 := hx1.size; (try simp at hs1); have := (show w.heap.size < w1.heap.size from by omega))
    go_wp2
    go_ret2
    exact ⟨rfl, by (repeat (first | with_reducible exact Ext.refl _ | with_reducible assumption | ((with_reducible apply Src.ext); with_reducible assumption) | with_reducible refine Ext.alloc ?_ _ | with_reducible refine Ext.drew ?_ | with_reducible refine Ext.drewN ?_ _ | ((with_reducible refine Ext.setCell' ?_ ?_ _); solve | omega | simp | (simp; omega)) | (with_reducible refine Ext.trans ?_ (by with_reducible assumption))))⟩


end Go.Proofs.YtdbheipjbjcikaaGreatDoor
