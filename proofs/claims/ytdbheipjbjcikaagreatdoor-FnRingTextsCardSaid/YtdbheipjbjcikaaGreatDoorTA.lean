/- Contracts of numbers and points as texts, walked over the translation. -/
import Derived.Test.YtdbheipjbjcikaaGreatDoorSh
import Derived.Test.YtdbheipjbjcikaaGreatDoorC
import Derived.Deep.RegionHeld3
import Derived.Deep.DeepCutAuto
import Derived.RegionTactic
import Derived.BigRegion
import Derived.WalkLawsBesides
import Derived.WalkSpells
import Derived.Lib.MinMax
import Derived.Lib.SmallJoins
import Derived.Lib.ItoaLen
import Derived.Outline
namespace Go.Proofs.YtdbheipjbjcikaaGreatDoor
open Go.RowKit
attribute [local go_sem] ExtOf.cell ExtOf.frozen

/-- a text as bytes -/
def tx (l : List UInt8) : ByteArray := ⟨l.toArray⟩
theorem tx_add (a b : List UInt8) : tx a ++ tx b = tx (a ++ b) := by
  unfold tx
  ext1
  simp
theorem tx_size (l : List UInt8) : (tx l).size = l.length := by simp [tx, ByteArray.size]
/-- two texts may be joined -/
def Fit (a b : ByteArray) : Prop := (a.size + b.size > 9223372036854775807) = False
theorem fit_of {a b : List UInt8} (h : a.length + b.length ≤ 9223372036854775807) : Fit (tx a) (tx b) := by
  unfold Fit
  rw [tx_size, tx_size]
  exact eq_false (by omega)
theorem dec_len {n : Nat} (h : n ≤ 9223372036854775808) : (Lib.decDigits n).length ≤ 20 := by rw [Lib.decDigits_length]; exact Lib.nDigits_le20 n (by omega)
/-- the table of powers of ten is laid -/
abbrev Tab (w : World) : Prop := Lib.TabIs Tryz.prog w "internal/strconv.uint64pow10" .u64 Lib.pow10Tab
theorem Tab.ext {w w' : World} (h : Tab w) (hx : Ext w w') : Tab w' := Joins.tab_stays (B := w.heap.size) (show Tryz.prog.globalNamed "internal/strconv.uint64pow10" = some 5 by kernel_rfl) h hx (Nat.le_refl _)
theorem ext_grow (w : World) (k : Nat) (os : Array Obj) : Ext w (Sort.grow (w.drewN k) os) :=
  ⟨rfl, rfl, rfl, by simp [Sort.grow, World.drewN], fun b hb => by
    show (w.heap ++ os)[b]? = w.heap[b]?
    rw [Array.getElem?_append_left hb]⟩
theorem i_decimal (n : Int) (w : World) (h0 : -9223372036854775808 ≤ n) (h1 : n ≤ 9223372036854775807) (hT : Tab w) :
    Calls Tryz.prog 124 #[.int .i64 n] w fun e w' => e = .returned (.string (tx (Lib.itoa n))) ∧ Ext w w' := by
  go_enter Tryz.func124, Tryz.ntmps124
  go_wp2_with fail
  refine (Tryz.strconv_FormatInt_10 n h0 h1 _ hT).mono ?_
  rintro e w' ⟨rfl, k, os, rfl⟩
  go_wp2
  go_ret
  exact ⟨rfl, ext_grow w k os⟩
/-- a literal of one byte, made a text -/
theorem conv_one {W : World} {g : Nat} {z : Int} {x : UInt8} (hz : z = (x.toNat : Int)) (hc : W.cell? ⟨g, 0, none⟩ = some (.int .u8 z)) :
    (convert 28 9 (.slice (some ⟨g, 0, none⟩) 1 1)).run Tryz.prog W = .ok (.string (tx [x])) W := by
  subst hz
  refine run_convert_bytes_back (P := Tryz.prog) W _ _ _ ⟨g, 0, none⟩ 1 [x] Tryz.underlying28 Tryz.underlying5 Tryz.underlying9 fun j hj => ?_
  have : j = 0 := by simp at hj; omega
  subst this
  exact hc
theorem dig_nat {k : Nat} (h : k < 10) : 48 + (k : Int) = ((UInt8.ofNat (48 + k)).toNat : Int) := by
  rw [UInt8.toNat_ofNat']
  omega
set_option maxRecDepth 20000 in
set_option maxHeartbeats 1600000 in
theorem s_l01Dec (n : Nat) : ∀ (w : World), n ≤ 9223372036854775807 →
    Calls Tryz.prog 115 #[.int .i64 n] w fun e w' => e = .returned (.string (tx (Lib.decDigits n))) ∧ Ext w w' := by
  induction n using Nat.strongRecOn with
  | _ n ih =>
    intro w hn
    by_cases hs : n < 10
    · rw [Lib.decDigits_one hs]
      have hz := dig_nat hs
      generalize UInt8.ofNat (48 + n) = x at hz ⊢
      have hconv : ∀ (W : World) (g : Nat), W.cell? ⟨g, 0, none⟩ = some (.int .u8 (48 + (n : Int))) → (convert 28 9 (.slice (some ⟨g, 0, none⟩) 1 1)).run Tryz.prog W = .ok (.string (tx [x])) W := fun W g hc => conv_one hz hc
      clear hz
      go_enter Tryz.func115, Tryz.ntmps115
      go_wp2
      go_ret
      exact ⟨rfl, by (repeat (first | with_reducible exact Ext.refl _ | with_reducible assumption | ((with_reducible apply Src.ext); with_reducible assumption) | with_reducible refine Ext.alloc ?_ _ | with_reducible refine Ext.drew ?_ | with_reducible refine Ext.drewN ?_ _ | ((with_reducible refine Ext.setCell' ?_ ?_ _); solve | omega | simp | (simp; omega)) | (with_reducible refine Ext.trans ?_ (by with_reducible assumption))))⟩
    · have IH := Lib.hid (ih (n / 10) (by omega))
      have hd : Lib.decDigits n = Lib.decDigits (n / 10) ++ [UInt8.ofNat (48 + n % 10)] := by rw [Lib.decDigits, dif_neg hs]
      have hq : (n : Int).tdiv 10 = ((n / 10 : Nat) : Int) := by rw [Int.tdiv_eq_ediv_of_nonneg (by omega)]; omega
      have hr : (n : Int).tmod 10 = ((n % 10 : Nat) : Int) := by rw [Int.tmod_eq_emod_of_nonneg (by omega)]; omega
      have hz := dig_nat (Nat.mod_lt n (show 0 < 10 by omega))
      have hm := Nat.mod_lt n (show 0 < 10 by omega)
      have hl := dec_len (n := n / 10) (by omega)
      rw [hd]
      generalize UInt8.ofNat (48 + n % 10) = x at hz ⊢
      generalize hn1 : n / 10 = a at *
      generalize hn2 : n % 10 = b at *
      have ha : a ≤ 922337203685477580 := by omega
      have hconv : ∀ (W : World) (g : Nat), W.cell? ⟨g, 0, none⟩ = some (.int .u8 (48 + (b : Int))) → (convert 28 9 (.slice (some ⟨g, 0, none⟩) 1 1)).run Tryz.prog W = .ok (.string (tx [x])) W := fun W g hc => conv_one hz hc
      have hw1 : IntKind.i64.wrap (a : Int) = (a : Int) := IntWalk.i64_in _ (by omega)
      have hw2 : IntKind.i64.wrap (48 + (b : Int)) = 48 + (b : Int) := IntWalk.i64_in _ (by omega)
      have hw3 : IntKind.u8.wrap (48 + (b : Int)) = 48 + (b : Int) := IntWalk.u8_in _ (by omega)
      clear ih hd hz hn1 hn2
      generalize Lib.decDigits a = d at *
      have hf : Fit (tx d) (tx [x]) := fit_of (by simp; omega)
      unfold Fit at hf
      rw [← tx_add]
      clear hl
      go_enter Tryz.func115, Tryz.ntmps115
      go_wp2
      go_region_with (first | (go_at_call 115; refine (IH.out _ (by omega)).mono ?_; rintro e w7 ⟨rfl, hx7⟩; obtain ⟨hc7, hf7⟩ := hx7.rules; have hs7 := hx7.size; (try simp at hs7); have hl7 : ∀ n, n < _ → n < w7.heap.size := fun n h => Nat.lt_of_lt_of_le h hx7.size))
      all_goals (go_wp2; go_ret; exact ⟨rfl, by (repeat (first | with_reducible exact Ext.refl _ | with_reducible assumption | ((with_reducible apply Src.ext); with_reducible assumption) | with_reducible refine Ext.alloc ?_ _ | with_reducible refine Ext.drew ?_ | with_reducible refine Ext.drewN ?_ _ | ((with_reducible refine Ext.setCell' ?_ ?_ _); solve | omega | simp | (simp; omega)) | (with_reducible refine Ext.trans ?_ (by with_reducible assumption))))⟩)
theorem itoa_neg {n : Int} (h : n < 0) : Lib.itoa n = 45 :: Lib.decDigits n.natAbs := by unfold Lib.itoa; rw [if_pos h]
theorem itoa_nat {n : Int} (h : ¬ n < 0) : Lib.itoa n = Lib.decDigits n.natAbs := by
  unfold Lib.itoa
  rw [if_neg h]
  congr 1
  omega
theorem tx_cons (c : UInt8) (l : List UInt8) : (⟨#[c]⟩ : ByteArray) ++ tx l = tx (c :: l) := tx_add [c] l
/-- numbers that the texts of this set hold -/
def Num (n : Int) : Prop := -1000000000000000 ≤ n ∧ n ≤ 1000000000000000
set_option maxHeartbeats 1600000 in
theorem s_l01Number (n : Int) (w : World) (hn : Num n) :
    Calls Tryz.prog 120 #[.int .i64 n] w fun e w' => e = .returned (.string (tx (Lib.itoa n))) ∧ Ext w w' := by
  unfold Num at hn
  by_cases h : n < 0
  · have hl := dec_len (n := n.natAbs) (by omega)
    have HD := Lib.hid (s_l01Dec n.natAbs)
    have hm : -n = ((n.natAbs : Nat) : Int) := by omega
    have hw : IntKind.i64.wrap (-n) = ((n.natAbs : Nat) : Int) := by rw [IntWalk.i64_in _ (by omega)]; exact hm
    rw [itoa_neg h, ← tx_cons]
    have ha : n.natAbs ≤ 9223372036854775807 := by omega
    generalize n.natAbs = a at *
    generalize Lib.decDigits a = d at *
    have hf : (1 + (tx d).size > 9223372036854775807) = False := eq_false (by rw [tx_size]; omega)
    clear hl
    go_enter Tryz.func120, Tryz.ntmps120
    go_wp2_with fail
    refine (HD.out _ ha).mono ?_
    rintro e w' ⟨rfl, hx⟩
    go_wp2
    go_ret
    exact ⟨rfl, hx⟩
  · have HD := Lib.hid (s_l01Dec n.natAbs)
    have hm : n = ((n.natAbs : Nat) : Int) := by omega
    rw [itoa_nat h]
    have ha : n.natAbs ≤ 9223372036854775807 := by omega
    generalize n.natAbs = a at *
    subst hm
    go_enter Tryz.func120, Tryz.ntmps120
    go_wp2_with fail
    refine (HD.out _ ha).mono ?_
    rintro e w' ⟨rfl, hx⟩
    go_wp2
    go_ret
    exact ⟨rfl, hx⟩
theorem i_decimalN (n : Int) (w : World) (hn : Num n) (hT : Tab w) : Calls Tryz.prog 124 #[.int .i64 n] w fun e w' => e = .returned (.string (tx (Lib.itoa n))) ∧ Ext w w' := i_decimal n w (by unfold Num at hn; omega) (by unfold Num at hn; omega) hT
theorem itoa_len {n : Int} (h : Num n) : (Lib.itoa n).length ≤ 21 := by unfold Num at h; exact Lib.itoa_length_le n (by omega) (by omega)
/-- the text of a point -/
def ptT (x z : Int) : List UInt8 := Lib.itoa x ++ 58 :: Lib.itoa z
theorem ptT_tx (x z : Int) : tx (Lib.itoa x) ++ (⟨#[58]⟩ : ByteArray) ++ tx (Lib.itoa z) = tx (ptT x z) := by
  rw [show (⟨#[58]⟩ : ByteArray) = tx [58] from rfl, tx_add, tx_add]
  unfold ptT
  rw [List.append_assoc]; rfl
theorem ptT_len {x z : Int} (hx : Num x) (hz : Num z) : (ptT x z).length ≤ 43 := by
  have h1 := itoa_len hx
  have h2 := itoa_len hz
  unfold ptT
  rw [List.length_append, List.length_cons]
  omega
set_option maxRecDepth 20000 in
set_option maxHeartbeats 1600000 in
theorem s_l15Text (x z : Int) (w : World) (hx : Num x) (hz : Num z) :
    Calls Tryz.prog 133 #[.agg #[.int .i64 x, .int .i64 z]] w fun e w' => e = .returned (.string (tx (ptT x z))) ∧ Ext w w' := by
  have h1 := itoa_len hx
  have h2 := itoa_len hz
  have HN : Hid (Num x ∧ Num z) := Lib.hid ⟨hx, hz⟩
  rw [← ptT_tx]
  have hf1 : ((tx (Lib.itoa x)).size + 1 > 9223372036854775807) = False := eq_false (by rw [tx_size]; omega)
  have hf2 : ((tx (Lib.itoa x)).size + 1 + (tx (Lib.itoa z)).size > 9223372036854775807) = False := eq_false (by rw [tx_size, tx_size]; omega)
  clear hx hz
  clear h1 h2
  go_enter Tryz.func133, Tryz.ntmps133
  go_wp2
  (refine wp_region_ext (by kernel_rfl) (by kernel_rfl) ?_; (repeat (go_big_quiet_step ((go_at_call 120; exact Calls_ext (s_l01Number _ _ (by first | exact HN.out.1 | exact HN.out.2)))))); refine wpQuiet_nil ?_; intro wq hxwq; obtain ⟨hcwq, hfwq⟩ := hxwq.rules; have hswq := hxwq.size; (try simp at hswq))
  go_wp2
  go_ret
  exact ⟨rfl, by (repeat (first | with_reducible exact Ext.refl _ | with_reducible assumption | ((with_reducible apply Src.ext); with_reducible assumption) | with_reducible refine Ext.alloc ?_ _ | with_reducible refine Ext.drew ?_ | with_reducible refine Ext.drewN ?_ _ | ((with_reducible refine Ext.setCell' ?_ ?_ _); solve | omega | simp | (simp; omega)) | (with_reducible refine Ext.trans ?_ (by with_reducible assumption))))⟩
set_option maxRecDepth 20000 in
set_option maxHeartbeats 1600000 in
theorem i_pointText (x z : Int) (w : World) (hx : Num x) (hz : Num z) (hT : Tab w) :
    Calls Tryz.prog 128 #[.agg #[.int .i64 x, .int .i64 z]] w fun e w' => e = .returned (.string (tx (ptT x z))) ∧ Ext w w' := by
  have h1 := itoa_len hx
  have h2 := itoa_len hz
  have HT := Lib.hid (hT.ext ((Ext.refl w).alloc (.cells #[.int .i64 x, .int .i64 z] 70)))
  have HN : Hid (Num x ∧ Num z) := Lib.hid ⟨hx, hz⟩
  rw [← ptT_tx]
  have hf1 : ((tx (Lib.itoa x)).size + 1 > 9223372036854775807) = False := eq_false (by rw [tx_size]; omega)
  have hf2 : ((tx (Lib.itoa x)).size + 1 + (tx (Lib.itoa z)).size > 9223372036854775807) = False := eq_false (by rw [tx_size, tx_size]; omega)
  clear h1 h2 hT hx hz
  go_enter Tryz.func128, Tryz.ntmps128
  go_wp2
  (refine wp_region_ext (by kernel_rfl) (by kernel_rfl) ?_; (repeat (go_big_quiet_step ((go_at_call 124; exact Calls_ext (i_decimalN _ _ (by first | exact HN.out.1 | exact HN.out.2) (HT.out.ext (ExtOf.ext _))))))); refine wpQuiet_nil ?_; intro wq hxwq; obtain ⟨hcwq, hfwq⟩ := hxwq.rules; have hswq := hxwq.size; (try simp at hswq))
  go_wp2
  go_ret
  exact ⟨rfl, by (repeat (first | with_reducible exact Ext.refl _ | with_reducible assumption | ((with_reducible apply Src.ext); with_reducible assumption) | with_reducible refine Ext.alloc ?_ _ | with_reducible refine Ext.drew ?_ | with_reducible refine Ext.drewN ?_ _ | ((with_reducible refine Ext.setCell' ?_ ?_ _); solve | omega | simp | (simp; omega)) | (with_reducible refine Ext.trans ?_ (by with_reducible assumption))))⟩
theorem okP_num {x z : Int} (h : okP x z = true) : Num x ∧ Num z := by
  simp [okP, inB] at h
  unfold Num
  omega
/-- what PointText returns -/
def ptR (x z : Int) : List UInt8 := if okP x z = true then ptT x z else []
def ptC (x z : Int) : Int := if okP x z = true then 0 else 1

end Go.Proofs.YtdbheipjbjcikaaGreatDoor
