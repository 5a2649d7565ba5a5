/- Contracts of numbers and points as texts, walked over the translation. -/
import Derived.Test.YtacpimajiojekaaDoorSh
import Derived.Test.YtacpimajiojekaaDoorC
import Derived.Deep.RegionHeld3
import Derived.Deep.DeepCutAuto
import Derived.RegionTactic
import Derived.BigRegion
import Derived.WalkLawsBesides
import Derived.WalkSpells
import Derived.Lib.MinMax
import Derived.Lib.SmallJoins
import Derived.Lib.ItoaLen
import Derived.Outline
namespace Go.Proofs.YtacpimajiojekaaDoor
open Go.RowKit
attribute [local go_sem] ExtOf.cell ExtOf.frozen

/-- a text as bytes -/
def tx (l : List UInt8) : ByteArray := ⟨l.toArray⟩
theorem tx_add (a b : List UInt8) : tx a ++ tx b = tx (a ++ b) := by
  unfold tx
  ext1
  simp
theorem tx_size (l : List UInt8) : (tx l).size = l.length := by simp [tx, ByteArray.size]
/-- two texts may be joined -/
def Fit (a b : ByteArray) : Prop := (a.size + b.size > 9223372036854775807) = False
theorem fit_of {a b : List UInt8} (h : a.length + b.length ≤ 9223372036854775807) : Fit (tx a) (tx b) := by
  unfold Fit
  rw [tx_size, tx_size]
  exact eq_false (by omega)
theorem dec_len {n : Nat} (h : n ≤ 9223372036854775808) : (Lib.decDigits n).length ≤ 20 := by rw [Lib.decDigits_length]; exact Lib.nDigits_le20 n (by omega)
/-- the table of powers of ten is laid -/
abbrev Tab (w : World) : Prop := Lib.TabIs Tryd.prog w "internal/strconv.uint64pow10" .u64 Lib.pow10Tab
theorem Tab.ext {w w' : World} (h : Tab w) (hx : Ext w w') : Tab w' := Joins.tab_stays (B := w.heap.size) (show Tryd.prog.globalNamed "internal/strconv.uint64pow10" = some 1 by kernel_rfl) h hx (Nat.le_refl _)
theorem ext_grow (w : World) (k : Nat) (os : Array Obj) : Ext w (Sort.grow (w.drewN k) os) :=
  ⟨rfl, rfl, rfl, by simp [Sort.grow, World.drewN], fun b hb => by
    show (w.heap ++ os)[b]? = w.heap[b]?
    rw [Array.getElem?_append_left hb]⟩
theorem i_decimal (n : Int) (w : World) (h0 : -9223372036854775808 ≤ n) (h1 : n ≤ 9223372036854775807) (hT : Tab w) :
    Calls Tryd.prog 63 #[.int .i64 n] w fun e w' => e = .returned (.string (tx (Lib.itoa n))) ∧ Ext w w' := by
  go_enter Tryd.func63, Tryd.ntmps63
  go_wp2_with fail
  refine (Tryd.strconv_FormatInt_10 n h0 h1 _ hT).mono ?_
  rintro e w' ⟨rfl, k, os, rfl⟩
  go_wp2
  go_ret
  exact ⟨rfl, ext_grow w k os⟩
/-- a literal of one byte, made a text -/
theorem conv_one {W : World} {g : Nat} {z : Int} {x : UInt8} (hz : z = (x.toNat : Int)) (hc : W.cell? ⟨g, 0, none⟩ = some (.int .u8 z)) :
    (convert 40 9 (.slice (some ⟨g, 0, none⟩) 1 1)).run Tryd.prog W = .ok (.string (tx [x])) W := by
  subst hz
  refine run_convert_bytes_back (P := Tryd.prog) W _ _ _ ⟨g, 0, none⟩ 1 [x] Tryd.underlying40 Tryd.underlying5 Tryd.underlying9 fun j hj => ?_
  have : j = 0 := by simp at hj; omega
  subst this
  exact hc
theorem dig_nat {k : Nat} (h : k < 10) : 48 + (k : Int) = ((UInt8.ofNat (48 + k)).toNat : Int) := by
  rw [UInt8.toNat_ofNat']
  omega
set_option maxRecDepth 20000 in
set_option maxHeartbeats 1600000 in
theorem s_l01Dec (n : Nat) : ∀ (w : World), n ≤ 9223372036854775807 →
    Calls Tryd.prog 85 #[.int .i64 n] w fun e w' => e = .returned (.string (tx (Lib.decDigits n))) ∧ Ext w w' := by
  induction n using Nat.strongRecOn with
  | _ n ih =>
    intro w hn
    by_cases hs : n < 10
    · rw [Lib.decDigits_one hs]
      have hz := dig_nat hs
      generalize UInt8.ofNat (48 + n) = x at hz ⊢
      have hconv : ∀ (W : World) (g : Nat), W.cell? ⟨g, 0, none⟩ = some (.int .u8 (48 + (n : Int))) → (convert 40 9 (.slice (some ⟨g, 0, none⟩) 1 1)).run Tryd.prog W = .ok (.string (tx [x])) W := fun W g hc => conv_one hz hc
      clear hz
      go_enter Tryd.func85, Tryd.ntmps85
      go_wp2
      go_ret
      exact ⟨rfl, by (repeat (first | with_reducible exact Ext.refl _ | with_reducible assumption | ((with_reducible apply Src.ext); with_reducible assumption) | with_reducible refine Ext.alloc ?_ _ | with_reducible refine Ext.drew ?_ | with_reducible refine Ext.drewN ?_ _ | ((with_reducible refine Ext.setCell' ?_ ?_ _); solve | omega | simp | (simp; omega)) | (with_reducible refine Ext.trans ?_ (by with_reducible assumption))))⟩
    · have IH := Lib.hid (ih (n / 10) (by omega))
      have hd : Lib.decDigits n = Lib.decDigits (n / 10) ++ [UInt8.ofNat (48 + n % 10)] := by rw [Lib.decDigits, dif_neg hs]
      have hq : (n : Int).tdiv 10 = ((n / 10 : Nat) : Int) := by rw [Int.tdiv_eq_ediv_of_nonneg (by omega)]; omega
      have hr : (n : Int).tmod 10 = ((n % 10 : Nat) : Int) := by rw [Int.tmod_eq_emod_of_nonneg (by omega)]; omega
      have hz := dig_nat (Nat.mod_lt n (show 0 < 10 by omega))
      have hm := Nat.mod_lt n (show 0 < 10 by omega)
      have hl := dec_len (n := n / 10) (by omega)
      rw [hd]
      generalize UInt8.ofNat (48 + n % 10) = x at hz ⊢
      generalize hn1 : n / 10 = a at *
      generalize hn2 : n % 10 = b at *
      have ha : a ≤ 922337203685477580 := by omega
      have hconv : ∀ (W : World) (g : Nat), W.cell? ⟨g, 0, none⟩ = some (.int .u8 (48 + (b : Int))) → (convert 40 9 (.slice (some ⟨g, 0, none⟩) 1 1)).run Tryd.prog W = .ok (.string (tx [x])) W := fun W g hc => conv_one hz hc
      have hw1 : IntKind.i64.wrap (a : Int) = (a : Int) := IntWalk.i64_in _ (by omega)
      have hw2 : IntKind.i64.wrap (48 + (b : Int)) = 48 + (b : Int) := IntWalk.i64_in _ (by omega)
      have hw3 : IntKind.u8.wrap (48 + (b : Int)) = 48 + (b : Int) := IntWalk.u8_in _ (by omega)
      clear ih hd hz hn1 hn2
      generalize Lib.decDigits a = d at *
      have hf : Fit (tx d) (tx [x]) := fit_of (by simp; omega)
      unfold Fit at hf
      rw [← tx_add]
      clear hl
      go_enter Tryd.func85, Tryd.ntmps85
      go_wp2
      go_region_with (first | (go_at_call 85; refine (IH.out _ (by omega)).mono ?_; rintro e w7 ⟨rfl, hx7⟩; obtain ⟨hc7, hf7⟩ := hx7.rules; have hs7 := hx7.size; (try simp at hs7); have hl7 : ∀ n, n < _ → n < w7.heap.size := fun n h => Nat.lt_of_lt_of_le h hx7.size))
      all_goals (go_wp2; go_ret; exact ⟨rfl, by (repeat (first | with_reducible exact Ext.refl _ | with_reducible assumption | ((with_reducible apply Src.ext); with_reducible assumption) | with_reducible refine Ext.alloc ?_ _ | with_reducible refine Ext.drew ?_ | with_reducible refine Ext.drewN ?_ _ | ((with_reducible refine Ext.setCell' ?_ ?_ _); solve | omega | simp | (simp; omega)) | (with_reducible refine Ext.trans ?_ (by with_reducible assumption))))⟩)
theorem itoa_neg {n : Int} (h : n < 0) : Lib.itoa n = 45 :: Lib.decDigits n.natAbs := by unfold Lib.itoa; rw [if_pos h]
theorem itoa_nat {n : Int} (h : ¬ n < 0) : Lib.itoa n = Lib.decDigits n.natAbs := by
  unfold Lib.itoa
  rw [if_neg h]
  congr 1
  omega
theorem tx_cons (c : UInt8) (l : List UInt8) : (⟨#[c]⟩ : ByteArray) ++ tx l = tx (c :: l) := tx_add [c] l
/-- numbers that the texts of this set hold -/
def Num (n : Int) : Prop := -1000000000000000 ≤ n ∧ n ≤ 1000000000000000
set_option maxHeartbeats 1600000 in
theorem s_l01Number (n : Int) (w : World) (hn : Num n) :
    Calls Tryd.prog 62 #[.int .i64 n] w fun e w' => e = .returned (.string (tx (Lib.itoa n))) ∧ Ext w w' := by
  unfold Num at hn
  by_cases h : n < 0
  · have hl := dec_len (n := n.natAbs) (by omega)
    have HD := Lib.hid (s_l01Dec n.natAbs)
    have hm : -n = ((n.natAbs : Nat) : Int) := by omega
    have hw : IntKind.i64.wrap (-n) = ((n.natAbs : Nat) : Int) := by rw [IntWalk.i64_in _ (by omega)]; exact hm
    rw [itoa_neg h, ← tx_cons]
    have ha : n.natAbs ≤ 9223372036854775807 := by omega
    generalize n.natAbs = a at *
    generalize Lib.decDigits a = d at *
    have hf : (1 + (tx d).size > 9223372036854775807) = False := eq_false (by rw [tx_size]; omega)
    clear hl
    go_enter Tryd.func62, Tryd.ntmps62
    go_wp2_with fail
    refine (HD.out _ ha).mono ?_
    rintro e w' ⟨rfl, hx⟩
    go_wp2
    go_ret
    exact ⟨rfl, hx⟩
  · have HD := Lib.hid (s_l01Dec n.natAbs)
    have hm : n = ((n.natAbs : Nat) : Int) := by omega
    rw [itoa_nat h]
    have ha : n.natAbs ≤ 9223372036854775807 := by omega
    generalize n.natAbs = a at *
    subst hm
    go_enter Tryd.func62, Tryd.ntmps62
    go_wp2_with fail
    refine (HD.out _ ha).mono ?_
    rintro e w' ⟨rfl, hx⟩
    go_wp2
    go_ret
    exact ⟨rfl, hx⟩
theorem i_decimalN (n : Int) (w : World) (hn : Num n) (hT : Tab w) : Calls Tryd.prog 63 #[.int .i64 n] w fun e w' => e = .returned (.string (tx (Lib.itoa n))) ∧ Ext w w' := i_decimal n w (by unfold Num at hn; omega) (by unfold Num at hn; omega) hT
theorem itoa_len {n : Int} (h : Num n) : (Lib.itoa n).length ≤ 21 := by unfold Num at h; exact Lib.itoa_length_le n (by omega) (by omega)
/-- the text of a point -/
def ptT (x z : Int) : List UInt8 := Lib.itoa x ++ 58 :: Lib.itoa z
theorem ptT_tx (x z : Int) : tx (Lib.itoa x) ++ (⟨#[58]⟩ : ByteArray) ++ tx (Lib.itoa z) = tx (ptT x z) := by
  rw [show (⟨#[58]⟩ : ByteArray) = tx [58] from rfl, tx_add, tx_add]
  unfold ptT
  rw [List.append_assoc]; rfl
theorem ptT_len {x z : Int} (hx : Num x) (hz : Num z) : (ptT x z).length ≤ 43 := by
  have h1 := itoa_len hx
  have h2 := itoa_len hz
  unfold ptT
  rw [List.length_append, List.length_cons]
  omega
set_option maxRecDepth 20000 in
set_option maxHeartbeats 1600000 in
theorem s_l15Text (x z : Int) (w : World) (hx : Num x) (hz : Num z) :
    Calls Tryd.prog 36 #[.agg #[.int .i64 x, .int .i64 z]] w fun e w' => e = .returned (.string (tx (ptT x z))) ∧ Ext w w' := by
  have h1 := itoa_len hx
  have h2 := itoa_len hz
  have HN : Hid (Num x ∧ Num z) := Lib.hid ⟨hx, hz⟩
  rw [← ptT_tx]
  have hf1 : ((tx (Lib.itoa x)).size + 1 > 9223372036854775807) = False := eq_false (by rw [tx_size]; omega)
  have hf2 : ((tx (Lib.itoa x)).size + 1 + (tx (Lib.itoa z)).size > 9223372036854775807) = False := eq_false (by rw [tx_size, tx_size]; omega)
  clear hx hz
  clear h1 h2
  go_enter Tryd.func36, Tryd.ntmps36
  go_wp2
  (refine wp_region_ext (by kernel_rfl) (by kernel_rfl) ?_; (repeat (go_big_quiet_step ((go_at_call 62; exact Calls_ext (s_l01Number _ _ (by first | exact HN.out.1 | exact HN.out.2)))))); refine wpQuiet_nil ?_; intro wq hxwq; obtain ⟨hcwq, hfwq⟩ := hxwq.rules; have hswq := hxwq.size; (try simp at hswq))
  go_wp2
  go_ret
  exact ⟨rfl, by (repeat (first | with_reducible exact Ext.refl _ | with_reducible assumption | ((with_reducible apply Src.ext); with_reducible assumption) | with_reducible refine Ext.alloc ?_ _ | with_reducible refine Ext.drew ?_ | with_reducible refine Ext.drewN ?_ _ | ((with_reducible refine Ext.setCell' ?_ ?_ _); solve | omega | simp | (simp; omega)) | (with_reducible refine Ext.trans ?_ (by with_reducible assumption))))⟩
set_option maxRecDepth 20000 in
set_option maxHeartbeats 1600000 in
theorem i_pointText (x z : Int) (w : World) (hx : Num x) (hz : Num z) (hT : Tab w) :
    Calls Tryd.prog 37 #[.agg #[.int .i64 x, .int .i64 z]] w fun e w' => e = .returned (.string (tx (ptT x z))) ∧ Ext w w' := by
  have h1 := itoa_len hx
  have h2 := itoa_len hz
  have HT := Lib.hid (hT.ext ((Ext.refl w).alloc (.cells #[.int .i64 x, .int .i64 z] 26)))
  have HN : Hid (Num x ∧ Num z) := Lib.hid ⟨hx, hz⟩
  rw [← ptT_tx]
  have hf1 : ((tx (Lib.itoa x)).size + 1 > 9223372036854775807) = False := eq_false (by rw [tx_size]; omega)
  have hf2 : ((tx (Lib.itoa x)).size + 1 + (tx (Lib.itoa z)).size > 9223372036854775807) = False := eq_false (by rw [tx_size, tx_size]; omega)
  clear h1 h2 hT hx hz
  go_enter Tryd.func37, Tryd.ntmps37
  go_wp2
  (refine wp_region_ext (by kernel_rfl) (by kernel_rfl) ?_; (repeat (go_big_quiet_step ((go_at_call 63; exact Calls_ext (i_decimalN _ _ (by first | exact HN.out.1 | exact HN.out.2) (HT.out.ext (ExtOf.ext _))))))); refine wpQuiet_nil ?_; intro wq hxwq; obtain ⟨hcwq, hfwq⟩ := hxwq.rules; have hswq := hxwq.size; (try simp at hswq))
  go_wp2
  go_ret
  exact ⟨rfl, by (repeat (first | with_reducible exact Ext.refl _ | with_reducible assumption | ((with_reducible apply Src.ext); with_reducible assumption) | with_reducible refine Ext.alloc ?_ _ | with_reducible refine Ext.drew ?_ | with_reducible refine Ext.drewN ?_ _ | ((with_reducible refine Ext.setCell' ?_ ?_ _); solve | omega | simp | (simp; omega)) | (with_reducible refine Ext.trans ?_ (by with_reducible assumption))))⟩
theorem okP_num {x z : Int} (h : okP x z = true) : Num x ∧ Num z := by
  simp [okP, inB] at h
  unfold Num
  omega
/-- what PointText returns -/
def ptR (x z : Int) : List UInt8 := if okP x z = true then ptT x z else []
def ptC (x z : Int) : Int := if okP x z = true then 0 else 1
set_option maxHeartbeats 1600000 in
theorem s_PointText (x z : Int) (w : World) :
    Calls Tryd.prog 10 #[.agg #[.int .i64 x, .int .i64 z]] w fun e w' => e = .returned (.tuple #[.string (tx (ptR x z)), .int .i64 (ptC x z)]) ∧ Ext w w' := by
  unfold ptR ptC
  cases h : okP x z with
  | true =>
    obtain ⟨hx, hz⟩ := okP_num h
    have H1 : Hid (∀ W, Calls Tryd.prog 35 #[.agg #[.int .i64 x, .int .i64 z]] W fun e w' => e = .returned (.bool true) ∧ Ext W w') := Lib.hid fun W => by have := s_IsPoint x z W; rwa [h] at this
    have H2 := Lib.hid fun W => s_l15Text x z W hx hz
    rw [if_pos rfl, if_pos rfl]
    clear hx hz h
    go_enter Tryd.func10, Tryd.ntmps10
    (go_wp2_with fail; refine (H1.out _).mono ?_; rintro e w1 ⟨rfl, hx1⟩; obtain ⟨hc1, hf1⟩ := hx1.rules; have hs1 := hx1.size; (try simp at hs1); have := (show w.heap.size < w1.heap.size from by omega))
    (go_wp2_with fail; refine (H2.out _).mono ?_; rintro e w2 ⟨rfl, hx2⟩; obtain ⟨hc2, hf2⟩ := hx2.rules; have hs2 := hx2.size; (try simp at hs2))
    go_wp2
    go_ret2
    exact ⟨rfl, by (repeat (first | with_reducible exact Ext.refl _ | with_reducible assumption | ((with_reducible apply Src.ext); with_reducible assumption) | with_reducible refine Ext.alloc ?_ _ | with_reducible refine Ext.drew ?_ | with_reducible refine Ext.drewN ?_ _ | ((with_reducible refine Ext.setCell' ?_ ?_ _); solve | omega | simp | (simp; omega)) | (with_reducible refine Ext.trans ?_ (by with_reducible assumption))))⟩
  | false =>
    have H1 : Hid (∀ W, Calls Tryd.prog 35 #[.agg #[.int .i64 x, .int .i64 z]] W fun e w' => e = .returned (.bool false) ∧ Ext W w') := Lib.hid fun W => by have := s_IsPoint x z W; rwa [h] at this
    rw [if_neg (by simp), if_neg (by simp)]
    clear h
    go_enter Tryd.func10, Tryd.ntmps10
    (go_wp2_with fail; refine (H1.out _).mono ?_; rintro e w1 ⟨rfl, hx1⟩; obtain ⟨hc1, hf1⟩ := hx1.rules; have hs1 := hx1.size; (try simp at hs1); have := (show w.heap.size < w1.heap.size from by omega))
    go_wp2
    go_ret2
    exact ⟨rfl, by (repeat (first | with_reducible exact Ext.refl _ | with_reducible assumption | ((with_reducible apply Src.ext); with_reducible assumption) | with_reducible refine Ext.alloc ?_ _ | with_reducible refine Ext.drew ?_ | with_reducible refine Ext.drewN ?_ _ | ((with_reducible refine Ext.setCell' ?_ ?_ _); solve | omega | simp | (simp; omega)) | (with_reducible refine Ext.trans ?_ (by with_reducible assumption))))⟩
set_option maxHeartbeats 1600000 in
theorem i_PointText (x z : Int) (w : World) (hT : Tab w) :
    Calls Tryd.prog 12 #[.agg #[.int .i64 x, .int .i64 z]] w fun e w' => e = .returned (.tuple #[.string (tx (ptR x z)), .int .i64 (ptC x z)]) ∧ Ext w w' := by
  unfold ptR ptC
  cases h : okP x z with
  | true =>
    obtain ⟨hx, hz⟩ := okP_num h
    have H1 : Hid (∀ W, Calls Tryd.prog 24 #[.agg #[.int .i64 x, .int .i64 z]] W fun e w' => e = .returned (.bool true) ∧ Ext W w') := Lib.hid fun W => by have := i_IsPoint x z W; rwa [h] at this
    have H2 := Lib.hid fun W => i_pointText x z W hx hz
    have HT := Lib.hid hT
    rw [if_pos rfl, if_pos rfl]
    clear hx hz h hT
    go_enter Tryd.func12, Tryd.ntmps12
    (go_wp2_with fail; refine (H1.out _).mono ?_; rintro e w1 ⟨rfl, hx1⟩; obtain ⟨hc1, hf1⟩ := hx1.rules; have hs1 := hx1.size; (try simp at hs1); have := (show w.heap.size < w1.heap.size from by omega))
    (go_wp2_with fail; refine (H2.out _ (HT.out.ext (by (repeat (first | with_reducible exact Ext.refl _ | with_reducible assumption | ((with_reducible apply Src.ext); with_reducible assumption) | with_reducible refine Ext.alloc ?_ _ | with_reducible refine Ext.drew ?_ | with_reducible refine Ext.drewN ?_ _ | ((with_reducible refine Ext.setCell' ?_ ?_ _); solve | omega | simp | (simp; omega)) | (with_reducible refine Ext.trans ?_ (by with_reducible assumption))))))).mono ?_; rintro e w2 ⟨rfl, hx2⟩; obtain ⟨hc2, hf2⟩ := hx2.rules; have hs2 := hx2.size; (try simp at hs2))
    go_wp2
    go_ret2
    exact ⟨rfl, by (repeat (first | with_reducible exact Ext.refl _ | with_reducible assumption | ((with_reducible apply Src.ext); with_reducible assumption) | with_reducible refine Ext.alloc ?_ _ | with_reducible refine Ext.drew ?_ | with_reducible refine Ext.drewN ?_ _ | ((with_reducible refine Ext.setCell' ?_ ?_ _); solve | omega | simp | (simp; omega)) | (with_reducible refine Ext.trans ?_ (by with_reducible assumption))))⟩
  | false =>
    have H1 : Hid (∀ W, Calls Tryd.prog 24 #[.agg #[.int .i64 x, .int .i64 z]] W fun e w' => e = .returned (.bool false) ∧ Ext W w') := Lib.hid fun W => by have := i_IsPoint x z W; rwa [h] at this
    rw [if_neg (by simp), if_neg (by simp)]
    clear h hT
    go_enter Tryd.func12, Tryd.ntmps12
    (go_wp2_with fail; refine (H1.out _).mono ?_; rintro e w1 ⟨rfl, hx1⟩; obtain ⟨hc1, hf1⟩ := hx1.rules; have hs1 := hx1.size; (try simp at hs1); have := (show w.heap.size < w1.heap.size from by omega))
    go_wp2
    go_ret2
    exact ⟨rfl, by (repeat (first | with_reducible exact Ext.refl _ | with_reducible assumption | ((with_reducible apply Src.ext); with_reducible assumption) | with_reducible refine Ext.alloc ?_ _ | with_reducible refine Ext.drew ?_ | with_reducible refine Ext.drewN ?_ _ | ((with_reducible refine Ext.setCell' ?_ ?_ _); solve | omega | simp | (simp; omega)) | (with_reducible refine Ext.trans ?_ (by with_reducible assumption))))⟩
set_option maxHeartbeats 1600000 in
theorem fnExactPointText_walk (x z : Int) (w : World) (hT : Tab w) :
    Calls Tryd.prog 3 #[.agg #[.int .i64 x, .int .i64 z]] w fun e w' => e = .returned (.bool true) ∧ Ext w w' := by
  have HS := Lib.hid fun W => s_PointText x z W
  have HI := Lib.hid fun W => i_PointText x z W
  have HT := Lib.hid hT
  generalize ptR x z = t at *
  generalize ptC x z = c at *
  have hc : (c != c) = false := by simp
  clear hT
  go_enter Tryd.func3, Tryd.ntmps3
  (go_wp2_with fail; refine (l_toPoint _ _ _).mono ?_; rintro e w1 ⟨rfl, hx1⟩; obtain ⟨hc1, hf1⟩ := hx1.rules; have hs1 := hx1.size; (try simp at hs1); have := (show w.heap.size < w1.heap.size from by omega))
  (go_wp2_with fail; refine (HS.out _).mono ?_; rintro e w2 ⟨rfl, hx2⟩; obtain ⟨hc2, hf2⟩ := hx2.rules; have hs2 := hx2.size; (try simp at hs2); have := (show w.heap.size < w2.heap.size from by omega))
  (go_wp2_with fail; refine (l_toPoint _ _ _).mono ?_; rintro e w3 ⟨rfl, hx3⟩; obtain ⟨hc3, hf3⟩ := hx3.rules; have hs3 := hx3.size; (try simp at hs3); have := (show w.heap.size < w3.heap.size from by omega))
  (go_wp2_with fail; refine (HI.out _ (HT.out.ext (by (repeat (first | with_reducible exact Ext.refl _ | with_reducible assumption | ((with_reducible apply Src.ext); with_reducible assumption) | with_reducible refine Ext.alloc ?_ _ | with_reducible refine Ext.drew ?_ | with_reducible refine Ext.drewN ?_ _ | ((with_reducible refine Ext.setCell' ?_ ?_ _); solve | omega | simp | (simp; omega)) | (with_reducible refine Ext.trans ?_ (by with_reducible assumption))))))).mono ?_; rintro e w4 ⟨rfl, hx4⟩; obtain ⟨hc4, hf4⟩ := hx4.rules; have hs4 := hx4.size; (try simp at hs4))
  go_wp2
  go_ret
  exact ⟨rfl, by (repeat (first | with_reducible exact Ext.refl _ | with_reducible assumption | ((with_reducible apply Src.ext); with_reducible assumption) | with_reducible refine Ext.alloc ?_ _ | with_reducible refine Ext.drew ?_ | with_reducible refine Ext.drewN ?_ _ | ((with_reducible refine Ext.setCell' ?_ ?_ _); solve | omega | simp | (simp; omega)) | (with_reducible refine Ext.trans ?_ (by with_reducible assumption))))⟩
end Go.Proofs.YtacpimajiojekaaDoor
