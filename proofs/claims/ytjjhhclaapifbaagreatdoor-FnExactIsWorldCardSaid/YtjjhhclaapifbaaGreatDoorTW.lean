/- Contracts of words and languages, walked over the translation. -/
import Derived.Test.YtjjhhclaapifbaaGreatDoorSh
import Derived.Test.YtjjhhclaapifbaaGreatDoorG0
import Derived.PlainAid
import Derived.Lib.SlTrimSet
import Derived.Deep.RegionHeld3
import Derived.Deep.DeepCutAuto
import Derived.RegionTactic
import Derived.BigRegion
import Derived.WalkLawsBesides
import Derived.WalkSpells
import Derived.Lib.MinMax
import Derived.Outline
namespace Go.Proofs.YtjjhhclaapifbaaGreatDoor
open Go.RowKit Go.PlainAid
attribute [local go_sem] ExtOf.cell ExtOf.frozen

theorem ret_bool' {a b : Bool} (h : a = b) : Ending.returned (.bool a) = .returned (.bool b) := by rw [h]
/-- a small letter -/
def lowB (b : UInt8) : Bool := decide (97 ≤ b.toNat) && decide (b.toNat ≤ 122)
/-- so many small letters -/
def smB (s : ByteArray) (lo hi : Int) : Bool := inB s.size lo hi && s.data.toList.all lowB
theorem size_list (s : ByteArray) : s.data.toList.length = s.size := by rw [Array.length_toList]; rfl
theorem getD_at {l : List UInt8} {k : Nat} (hk : k < l.length) : l.getD k 0 = l[k] := by rw [List.getD_eq_getElem?_getD, List.getElem?_eq_getElem hk]; rfl
theorem bt_list (s : ByteArray) {k : Nat} (hk : k < s.size) : bt s k = ((s.data.toList.getD k 0).toNat : Int) := by
  rw [← get_bt s k hk]
  have : k < s.data.toList.length := by rw [size_list]; exact hk
  rw [getD_at this, Array.getElem_toList]
  rfl
theorem all_low {s : ByteArray} : s.data.toList.all lowB = true ↔ ∀ k, k < s.size → 97 ≤ bt s k ∧ bt s k ≤ 122 := by
  rw [List.all_eq_true]
  constructor
  · intro h k hk
    have hl : k < s.data.toList.length := by rw [size_list]; exact hk
    have := h (s.data.toList.getD k 0) (by rw [getD_at hl]; exact List.getElem_mem hl)
    rw [bt_list s hk]
    simp only [lowB, Bool.and_eq_true, decide_eq_true_eq] at this
    omega
  · intro h b hb
    obtain ⟨k, hk, rfl⟩ := List.mem_iff_getElem.1 hb
    have hk' : k < s.size := by rw [← size_list]; exact hk
    have := h k hk'
    rw [bt_list s hk', getD_at hk] at this
    simp only [lowB, Bool.and_eq_true, decide_eq_true_eq]
    omega
theorem all_low_no {s : ByteArray} {k : Nat} (hk : k < s.size) (h : ¬ (97 ≤ bt s k ∧ bt s k ≤ 122)) : s.data.toList.all lowB = false := by
  rw [← Bool.not_eq_true, all_low]
  exact fun hh => h (hh k hk)
theorem letters (b : UInt8) : ([97, 98, 99, 100, 101, 102, 103, 104, 105, 106, 107, 108, 109, 110, 111, 112, 113, 114, 115, 116, 117, 118, 119, 120, 121, 122] : List UInt8).contains b = lowB b := by
  have h : ∀ n : Fin 256, ([97, 98, 99, 100, 101, 102, 103, 104, 105, 106, 107, 108, 109, 110, 111, 112, 113, 114, 115, 116, 117, 118, 119, 120, 121, 122] : List UInt8).contains (UInt8.ofNat n.val) = lowB (UInt8.ofNat n.val) := by decide +kernel
  have := h ⟨b.toNat, b.toNat_lt⟩
  simpa using this
theorem trim_nil {l cs : List UInt8} : Lib.trimS l cs = [] ↔ l.all (cs.contains ·) = true := by
  have hd : ∀ (p : UInt8 → Bool) (m : List UInt8), m.dropWhile p = [] ↔ m.all p = true := fun p m => by
    induction m with
    | nil => simp
    | cons x m ih =>
      rw [List.dropWhile_cons, List.all_cons]
      cases hx : p x <;> simp [ih]
  unfold Lib.trimS Lib.trimLeftS Lib.trimRightS
  rw [hd]
  constructor
  · intro h
    rw [List.all_reverse] at h
    have hs : ∀ (p : UInt8 → Bool) (m : List UInt8), (m.dropWhile p).all p = true → m.all p = true := fun p m => by
      induction m with
      | nil => simp
      | cons x m ih =>
        rw [List.dropWhile_cons, List.all_cons]
        cases hx : p x
        · simp [hx]
        · simpa using ih
    have := hs _ _ h
    rwa [List.all_reverse] at this
  · intro h
    rw [List.all_reverse]
    have : l.reverse.all (cs.contains ·) = true := by rw [List.all_reverse]; exact h
    rw [List.all_eq_true] at this ⊢
    exact fun x hx => this x (List.dropWhile_sublist _ |>.subset hx)
theorem trim_low {s : ByteArray} : Lib.trimS s.data.toList [97, 98, 99, 100, 101, 102, 103, 104, 105, 106, 107, 108, 109, 110, 111, 112, 113, 114, 115, 116, 117, 118, 119, 120, 121, 122] = [] ↔ s.data.toList.all lowB = true := by
  rw [trim_nil]
  have : (fun b => ([97, 98, 99, 100, 101, 102, 103, 104, 105, 106, 107, 108, 109, 110, 111, 112, 113, 114, 115, 116, 117, 118, 119, 120, 121, 122] : List UInt8).contains b) = lowB := funext letters
  rw [this]
set_option maxRecDepth 20000 in
set_option maxHeartbeats 1600000 in
theorem i_isSmall (s : ByteArray) (lo hi : Int) (w : World) (hs : s.size ≤ 140737488351232) :
    Calls Tryz.prog 146 #[.string s, .int .i64 lo, .int .i64 hi] w fun e w' => e = .returned (.bool (smB s lo hi)) ∧ Ext w w' := by
  unfold smB
  cases hb : inB s.size lo hi with
  | false =>
    have HB : Hid (∀ W, Calls Tryz.prog 125 #[.int .i64 s.size, .int .i64 lo, .int .i64 hi] W fun e w' => e = .returned (.bool false) ∧ W = w') := Lib.hid fun W => by have := within_any s.size lo hi W; rwa [hb] at this
    clear hb
    go_enter Tryz.func146, Tryz.ntmps146
    (go_wp2_with fail; refine (HB.out _).mono ?_; rintro e w' ⟨rfl, rfl⟩)
    go_wp2
    go_ret
    exact ⟨rfl, Ext.refl _⟩
  | true =>
    have HB : Hid (∀ W, Calls Tryz.prog 125 #[.int .i64 s.size, .int .i64 lo, .int .i64 hi] W fun e w' => e = .returned (.bool true) ∧ W = w') := Lib.hid fun W => by have := within_any s.size lo hi W; rwa [hb] at this
    have hT := fun W => Tryz.strings_Trim_laid s ⟨#[97, 98, 99, 100, 101, 102, 103, 104, 105, 106, 107, 108, 109, 110, 111, 112, 113, 114, 115, 116, 117, 118, 119, 120, 121, 122]⟩ W (by omega) (by decide) (ascii_of_all (by decide))
    have hl := trim_low (s := s)
    cases ha : s.data.toList.all lowB with
    | true =>
      rw [ha] at hl
      have hn := hl.2 rfl
      rw [show (⟨#[97, 98, 99, 100, 101, 102, 103, 104, 105, 106, 107, 108, 109, 110, 111, 112, 113, 114, 115, 116, 117, 118, 119, 120, 121, 122]⟩ : ByteArray).data.toList = [97, 98, 99, 100, 101, 102, 103, 104, 105, 106, 107, 108, 109, 110, 111, 112, 113, 114, 115, 116, 117, 118, 119, 120, 121, 122] from rfl, hn] at hT
      have HT := Lib.hid hT
      clear hb hT hl hn ha
      go_enter Tryz.func146, Tryz.ntmps146
      (go_wp2_with fail; refine (HB.out _).mono ?_; rintro e w' ⟨rfl, rfl⟩)
      go_wp2_with fail
      refine (HT.out _).mono ?_
      rintro e w' ⟨rfl, hx⟩
      have hx' : Ext w w' := hx
      go_wp2
      go_ret
      exact ⟨rfl, hx'⟩
    | false =>
      have hn : ¬ Lib.trimS s.data.toList [97, 98, 99, 100, 101, 102, 103, 104, 105, 106, 107, 108, 109, 110, 111, 112, 113, 114, 115, 116, 117, 118, 119, 120, 121, 122] = [] := fun h => by
        have := hl.1 h
        rw [ha] at this
        cases this
      rw [show (⟨#[97, 98, 99, 100, 101, 102, 103, 104, 105, 106, 107, 108, 109, 110, 111, 112, 113, 114, 115, 116, 117, 118, 119, 120, 121, 122]⟩ : ByteArray).data.toList = [97, 98, 99, 100, 101, 102, 103, 104, 105, 106, 107, 108, 109, 110, 111, 112, 113, 114, 115, 116, 117, 118, 119, 120, 121, 122] from rfl] at hT
      generalize Lib.trimS s.data.toList _ = t at hT hn
      have hne : (⟨t.toArray⟩ : ByteArray).toList.isEmpty = false := by
        rw [ByteArray.toList_eq]
        cases t with
        | nil => exact absurd rfl hn
        | cons _ _ => rfl
      generalize (⟨t.toArray⟩ : ByteArray) = u at hT hne
      have HT := Lib.hid hT
      clear hb hT hl hn ha
      go_enter Tryz.func146, Tryz.ntmps146
      (go_wp2_with fail; refine (HB.out _).mono ?_; rintro e w' ⟨rfl, rfl⟩)
      go_wp2_with fail
      refine (HT.out _).mono ?_
      rintro e w' ⟨rfl, hx⟩
      have hx' : Ext w w' := hx
      go_wp2
      go_ret
      exact ⟨rfl, hx'⟩
theorem i_IsWord (s : ByteArray) (w : World) (hs : s.size ≤ 140737488351232) :
    Calls Tryz.prog 90 #[.string s] w fun e w' => e = .returned (.bool (smB s 1 16)) ∧ Ext w w' := by
  go_enter Tryz.func90, Tryz.ntmps90
  (go_wp2_with fail; refine (i_isSmall s 1 16 _ hs).mono ?_; rintro e w1 ⟨rfl, hx1⟩; obtain ⟨hc1, hf1⟩ := hx1.rules; have hs1 := hx1.size; (try simp at hs1))
  go_wp2
  go_ret
  exact ⟨rfl, hx1⟩
set_option maxHeartbeats 1600000 in
theorem s_IsWord (s : ByteArray) (w : World) (hs : s.size ≤ 140737488351232) :
    Calls Tryz.prog 97 #[.string s] w fun e w' => e = .returned (.bool (smB s 1 16)) ∧ Ext w w' := by
  go_enter Tryz.func97, Tryz.ntmps97
  go_wp2
  go_loop [3] (fun i => ∃ k : Nat, k ≤ s.size ∧ i = .int .i64 k ∧ Hid (∀ j, j < k → 97 ≤ bt s j ∧ bt s j ≤ 122)) (fun i => s.size - (intOf i).toNat)
  case atStart => exact ⟨0, by omega, rfl, fun j hj => absurd hj (by omega)⟩
  case round =>
    obtain ⟨k, hk, rfl, HJ⟩ := hrel
    by_cases hlt : k < s.size
    · have hb := get_bt s
      have hNo := all_low_no hlt
      have hz0 := bt_nonneg s k
      obtain ⟨z, hz⟩ : ∃ z, z = bt s k := ⟨_, rfl⟩
      have HZ := Lib.hid hz
      rw [← hz] at hNo hz0
      by_cases h1 : z < 97
      · have HF := Lib.hid (hNo (by omega))
        have hd1 : decide (z < 97) = true := decide_eq_true h1
        have hbk := hb k hlt
        rw [← hz] at hbk
        clear hNo hz hb
        go_wp2
        go_ret
        refine ⟨ret_bool' ?_, Ext.refl _⟩
        unfold smB
        rw [HF.out, Bool.and_false]
      · have hd1 : decide (z < 97) = false := decide_eq_false h1
        by_cases h2 : 122 < z
        · have HF := Lib.hid (hNo (by omega))
          have hd2 : decide (122 < z) = true := decide_eq_true h2
          have hbk := hb k hlt
          rw [← hz] at hbk
          clear hNo hz hb
          go_wp2
          go_ret
          refine ⟨ret_bool' ?_, Ext.refl _⟩
          unfold smB
          rw [HF.out, Bool.and_false]
        · have hd2 : decide (122 < z) = false := decide_eq_false h2
          have hbk := hb k hlt
          rw [← hz] at hbk
          clear hNo hz hb
          go_wp2
          go_round
          case rel =>
            refine ⟨k + 1, by omega, by go_num, fun j hj => ?_⟩
            rcases Nat.lt_or_ge j k with c | c
            · exact HJ.out j c
            · obtain rfl : j = k := by omega
              rw [← HZ.out]; omega
          case measure => simp [intOf]; omega
    · obtain rfl : k = s.size := by omega
      have HA := Lib.hid (all_low.2 HJ.out)
      (go_wp2_with fail; refine (l01In_any _ _ _ _).mono ?_; rintro e w' ⟨rfl, rfl⟩)
      go_wp2
      go_ret
      refine ⟨ret_bool' ?_, Ext.refl _⟩
      unfold smB
      rw [HA.out, Bool.and_true]
end Go.Proofs.YtjjhhclaapifbaaGreatDoor
