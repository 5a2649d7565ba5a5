/- Plain laws of numbers as texts: a numeral, read back; a text cut at a byte. Contracts of numbers read, walked over the translation. -/
import Derived.Test.YtabdffponmmhoaaGreatDoorGT
import Derived.Lib.ParseIntBCases
import Derived.Lib.IndexMore
import Derived.Deep.RegionHeld3
import Derived.Deep.DeepCutAuto
import Derived.RegionTactic
import Derived.BigRegion
import Derived.WalkLawsBesides
import Derived.WalkSpells
import Derived.Lib.MinMax
import Derived.Outline
namespace Go.Proofs.YtabdffponmmhoaaGreatDoor
open Go.Lib (decDigits itoa parseUintM parseUintB parseIntB NumEnd cut index)

theorem dig_byte {k : Nat} (h : k < 10) : (UInt8.ofNat (48 + k)).toNat = 48 + k := by rw [UInt8.toNat_ofNat']; omega
theorem dec_rec {n : Nat} (h : ¬ n < 10) : decDigits n = decDigits (n / 10) ++ [UInt8.ofNat (48 + n % 10)] := by rw [decDigits, dif_neg h]
/-- a decimal digit -/
def dgB (b : UInt8) : Bool := decide (48 ≤ b.toNat) && decide (b.toNat ≤ 57)
theorem dgB_dig {k : Nat} (h : k < 10) : dgB (UInt8.ofNat (48 + k)) = true := by simp [dgB]; omega
theorem dec_dig (n : Nat) : ∀ b ∈ decDigits n, dgB b = true := by
  induction n using Nat.strongRecOn with
  | _ n ih =>
    intro b hb
    by_cases h : n < 10
    · rw [Lib.decDigits_one h, List.mem_singleton] at hb
      subst hb
      exact dgB_dig h
    · rw [dec_rec h, List.mem_append, List.mem_singleton] at hb
      rcases hb with hb | rfl
      · exact ih _ (by omega) b hb
      · exact dgB_dig (Nat.mod_lt _ (by omega))
theorem dec_len_pow : ∀ (k n : Nat), 1 ≤ k → n < 10 ^ k → (decDigits n).length ≤ k
  | 0, n, h, _ => by omega
  | 1, n, _, h => by rw [Lib.decDigits_one (by simpa using h)]; simp
  | k + 2, n, _, h => by
    by_cases hs : n < 10
    · rw [Lib.decDigits_one hs]; simp
    · rw [dec_rec hs, List.length_append, List.length_singleton]
      have := dec_len_pow (k + 1) (n / 10) (by omega) (by rw [Nat.pow_succ] at h; omega)
      omega
theorem dec_ne (n : Nat) : decDigits n ≠ [] := by
  by_cases h : n < 10
  · rw [Lib.decDigits_one h]; simp
  · rw [dec_rec h]; simp
/-- the number that digits spell -/
def valD (l : List UInt8) : Nat := l.foldl (fun a b => 10 * a + (b.toNat - 48)) 0
theorem valD_snoc (l : List UInt8) (b : UInt8) : valD (l ++ [b]) = 10 * valD l + (b.toNat - 48) := by unfold valD; rw [List.foldl_append]; rfl
theorem valD_dec (n : Nat) : valD (decDigits n) = n := by
  induction n using Nat.strongRecOn with
  | _ n ih =>
    by_cases h : n < 10
    · rw [Lib.decDigits_one h]
      simp [valD]
      omega
    · rw [dec_rec h, valD_snoc, ih _ (by omega), dig_byte (Nat.mod_lt _ (by omega))]
      omega
theorem dec_inj {a b : Nat} (h : decDigits a = decDigits b) : a = b := by rw [← valD_dec a, h, valD_dec]
theorem valD_acc : ∀ (l : List UInt8) (a : Nat), l.all dgB = true → l.foldl (fun a b => 10 * a + (b.toNat - 48)) a < (a + 1) * 10 ^ l.length
  | [], a, _ => by simp
  | b :: l, a, h => by
    rw [List.all_cons, Bool.and_eq_true] at h
    have hb := h.1
    simp [dgB] at hb
    have := valD_acc l (10 * a + (b.toNat - 48)) h.2
    rw [List.foldl_cons, List.length_cons, Nat.pow_succ]
    have h2 : (10 * a + (b.toNat - 48) + 1) * 10 ^ l.length ≤ (a + 1) * 10 * 10 ^ l.length := Nat.mul_le_mul_right _ (by omega)
    rw [Nat.mul_assoc (a + 1), Nat.mul_comm 10 (10 ^ l.length)] at h2
    exact Nat.lt_of_lt_of_le this h2
theorem valD_lt (l : List UInt8) (h : l.all dgB = true) : valD l < 10 ^ l.length := by
  have := valD_acc l 0 h
  unfold valD
  omega
theorem dec_head (n : Nat) : (decDigits n).head? ≠ some 45 := by
  intro h
  have := dec_dig n 45 (List.mem_of_mem_head? h)
  simp [dgB] at this
theorem itoa_inj {a b : Int} (h : itoa a = itoa b) : a = b := by
  by_cases ha : a < 0
  · by_cases hb : b < 0
    · rw [itoa_neg ha, itoa_neg hb] at h
      have := dec_inj (List.cons.inj h).2
      omega
    · rw [itoa_neg ha, itoa_nat hb] at h
      exact absurd (by rw [← h]; rfl) (dec_head b.natAbs)
  · by_cases hb : b < 0
    · rw [itoa_nat ha, itoa_neg hb] at h
      exact absurd (by rw [h]; rfl) (dec_head a.natAbs)
    · rw [itoa_nat ha, itoa_nat hb] at h
      have := dec_inj h
      omega
theorem itoa_mem {n : Int} {b : UInt8} (h : b ∈ itoa n) : b = 45 ∨ dgB b = true := by
  by_cases hn : n < 0
  · rw [itoa_neg hn, List.mem_cons] at h
    exact h.imp_right (dec_dig _ _)
  · rw [itoa_nat hn] at h
    exact .inr (dec_dig _ _ h)
theorem itoa_free {n : Int} {c : UInt8} (h : c ≠ 45) (h2 : dgB c = false) : c ∉ itoa n := fun hm => by
  rcases itoa_mem hm with e | e
  · exact h e
  · rw [h2] at e; cases e
theorem pu_snoc (M : Nat) : ∀ (l : List UInt8) (acc : Nat) (c : UInt8) (u : Nat), parseUintM M acc l = .ok u → parseUintM M acc (l ++ [c]) = parseUintM M u [c]
  | [], acc, c, u, h => by
    simp only [parseUintM] at h
    injection h with h
    subst h
    rfl
  | b :: l, acc, c, u, h => by
    rw [List.cons_append, parseUintM]
    rw [parseUintM] at h
    split at h
    · rename_i h1
      rw [if_pos h1]
      split at h
      · cases h
      · rename_i h2
        rw [if_neg h2]
        split at h
        · cases h
        · rename_i h3
          rw [if_neg h3]
          exact pu_snoc M l _ c u h
    · cases h
theorem pu_dec (n : Nat) : n ≤ 1000000000000000 → parseUintM (2 ^ 64 - 1) 0 (decDigits n) = .ok n := by
  induction n using Nat.strongRecOn with
  | _ n ih =>
    intro hn
    by_cases h : n < 10
    · rw [Lib.decDigits_one h, parseUintM, dig_byte h, if_pos (by omega), if_neg (by omega), if_neg (by omega), parseUintM]
      congr 1
      omega
    · have hd := dig_byte (k := n % 10) (Nat.mod_lt _ (by omega))
      rw [dec_rec h, pu_snoc _ _ _ _ _ (ih (n / 10) (by omega) (by omega)), parseUintM, hd, if_pos (by omega), if_neg (by omega), if_neg (by omega), parseUintM]
      congr 1
      omega
theorem parse_itoa {n : Int} (h : Num n) : parseIntB 64 (itoa n) = .ok n := by
  unfold Num at h
  by_cases hn : n < 0
  · rw [itoa_neg hn, Lib.parseIntB_minus, parseUintB, if_neg (dec_ne _), pu_dec _ (by omega), Lib.signedC, if_neg (by omega)]
    congr 1
    omega
  · rw [itoa_nat hn]
    have hp := pu_dec n.natAbs (by omega)
    have hne := dec_ne n.natAbs
    have hdig := dec_dig n.natAbs
    generalize decDigits n.natAbs = l at *
    rcases l with _ | ⟨c, r⟩
    · exact absurd rfl hne
    · have hc := hdig c (List.mem_cons_self ..)
      simp [dgB] at hc
      rw [Lib.parseIntB_plain _ _ _ (by omega) (by omega), parseUintB, if_neg hne, hp, Lib.signlessC, if_neg (by omega)]
      congr 1
      omega
theorem sp_free {c : UInt8} : ∀ {l : List UInt8}, c ∉ l → sp c l = [l]
  | [], _ => rfl
  | b :: l, h => by
    simp only [List.mem_cons, not_or] at h
    rw [sp, if_neg (fun e => h.1 e.symm), sp_free h.2]
theorem sp_cut {c : UInt8} : ∀ {a : List UInt8} (b : List UInt8), c ∉ a → sp c (a ++ c :: b) = a :: sp c b
  | [], b, _ => by rw [List.nil_append, sp, if_pos rfl]
  | x :: a, b, h => by
    simp only [List.mem_cons, not_or] at h
    rw [List.cons_append, sp, if_neg (fun e => h.1 e.symm), sp_cut b h.2]
theorem cut_hit {c : UInt8} {a : List UInt8} (b : List UInt8) (h : c ∉ a) : cut (a ++ c :: b) [c] = (a, b, true) := by
  have hi : ∀ a : List UInt8, c ∉ a → index (a ++ c :: b) [c] = a.length := by
    intro a
    induction a with
    | nil => intro _; rw [List.nil_append, index]; simp [List.isPrefixOf]
    | cons x a ih =>
      intro h
      simp only [List.mem_cons, not_or] at h
      rw [List.cons_append, index, ih h.2]
      have : ([c] : List UInt8).isPrefixOf (x :: (a ++ c :: b)) = false := by simp [List.isPrefixOf, h.1]
      rw [this]
      have hne : ((a.length : Int) == -1) = false := by simp
      rw [hne]
      simp
  unfold cut
  rw [hi a h, if_pos (by omega)]
  simp
theorem cut_no {c : UInt8} {l : List UInt8} (h : (cut l [c]).2.2 = false) : (cut l [c]).2.1 = [] := by
  unfold cut at *
  split at h
  · cases h
  · rename_i h1; rw [if_neg h1]
theorem cut_yes {c : UInt8} {l : List UInt8} (h : (cut l [c]).2.2 = true) : l = (cut l [c]).1 ++ c :: (cut l [c]).2.1 := by
  unfold cut at *
  split at h
  · rename_i h1
    rw [if_pos h1]
    rcases Lib.index_spec l [c] with ⟨e, _⟩ | ⟨i, e, hi, ho, _⟩
    · omega
    · rw [e]
      simp only [Int.toNat_natCast, List.length_singleton]
      have hd : ([c] : List UInt8).isPrefixOf (l.drop i) = true := ho
      rcases hl : l.drop i with _ | ⟨x, r⟩
      · rw [hl] at hd; simp [List.isPrefixOf] at hd
      · rw [hl] at hd
        have hx : c = x := by simpa [List.isPrefixOf] using hd
        have h2 : l.drop (i + 1) = r := by rw [← List.drop_drop, hl]; rfl
        rw [h2, hx, ← hl, List.take_append_drop]
  · cases h
theorem cut_size {c : UInt8} (l : List UInt8) : (cut l [c]).1.length ≤ l.length ∧ (cut l [c]).2.1.length ≤ l.length := by
  unfold cut
  split
  · simp; omega
  · simp
theorem colon_free (n : Int) : (58 : UInt8) ∉ itoa n := itoa_free (by decide) (by decide)
theorem sp_ptT (x z : Int) : sp 58 (ptT x z) = [itoa x, itoa z] := by unfold ptT; rw [sp_cut _ (colon_free x), sp_free (colon_free z)]
theorem cut_ptT (x z : Int) : cut (ptT x z) [58] = (itoa x, itoa z, true) := by unfold ptT; exact cut_hit _ (colon_free x)
theorem ptT_inj {x z x' z' : Int} (h : ptT x z = ptT x' z') : x = x' ∧ z = z' := by
  have := congrArg (fun l => sp 58 l) h
  simp only [sp_ptT] at this
  simp only [List.cons.injEq, and_true] at this
  exact ⟨itoa_inj this.1, itoa_inj this.2⟩
theorem ptT_free {x z : Int} {c : UInt8} (h : c ≠ 45) (h1 : c ≠ 58) (h2 : dgB c = false) : c ∉ ptT x z := by
  unfold ptT
  rw [List.mem_append, List.mem_cons]
  rintro (e | e | e)
  · exact itoa_free h h2 e
  · exact h1 e
  · exact itoa_free h h2 e
end Go.Proofs.YtabdffponmmhoaaGreatDoor
namespace Go.Proofs.YtabdffponmmhoaaGreatDoor
open Go.RowKit
attribute [local go_sem] ExtOf.cell ExtOf.frozen

open Go.PlainAid
theorem tx_inj {a b : List UInt8} (h : tx a = tx b) : a = b := by
  have := congrArg (fun s : ByteArray => s.data.toList) h
  simpa [tx] using this
theorem eq_tx {s : ByteArray} {l : List UInt8} (h : s.data.toList = l) : s = tx l := by subst h; rfl
theorem same_text {a b : ByteArray} : (a.toList == b.toList) = true ↔ a = b := by
  rw [beq_iff_eq, ByteArray.toList_eq, ByteArray.toList_eq]
  exact ⟨fun h => by rw [eq_tx h]; rfl, fun h => by rw [h]⟩
/-- a numeral without a sign, read -/
structure RdN (s : ByteArray) (v : Nat) (b : Bool) : Prop where
  le : v ≤ 9999999999999
  yes : b = true → s.data.toList = Lib.decDigits v
  no : b = false → ∀ n : Nat, n ≤ 9999999999999 → s.data.toList ≠ Lib.decDigits n
def RdNE (s : ByteArray) (e : Ending) : Prop := ∃ (v : Nat) (b : Bool), e = .returned (.tuple #[.int .i64 v, .bool b]) ∧ RdN s v b
theorem ret_tup {v : Value} {a b : Bool} (h : a = b) : Ending.returned (.tuple #[v, .bool a]) = .returned (.tuple #[v, .bool b]) := by rw [h]
set_option maxRecDepth 20000 in
set_option maxHeartbeats 3200000 in
theorem s_l01Value (s : ByteArray) (w : World) (hs : s.size ≤ 1048576) :
    Calls Tryz.prog 55 #[.string s] w fun e w' => RdNE s e ∧ Ext w w' := by
  have hsl := size_list s
  by_cases h0 : s.size < 1
  · have hd : decide ((s.size : Int) < 1) = true := decide_eq_true (by omega)
    go_enter Tryz.func55, Tryz.ntmps55
    go_wp2
    go_ret2
    exact ⟨⟨0, false, rfl, by omega, fun h => (by cases h), fun _ n _ e => dec_ne n (by rw [← e]; exact List.eq_nil_of_length_eq_zero (by omega))⟩, by (repeat (first | with_reducible exact Ext.refl _ | with_reducible assumption | ((with_reducible apply Src.ext); with_reducible assumption) | with_reducible refine Ext.alloc ?_ _ | with_reducible refine Ext.drew ?_ | with_reducible refine Ext.drewN ?_ _ | ((with_reducible refine Ext.setCell' ?_ ?_ _); solve | omega | simp | (simp; omega)) | (with_reducible refine Ext.trans ?_ (by with_reducible assumption))))⟩
  · by_cases h13 : 13 < s.size
    · have hd : decide ((s.size : Int) < 1) = false := decide_eq_false (by omega)
      have hd2 : decide ((s.size : Int) > 13) = true := decide_eq_true (by omega)
      go_enter Tryz.func55, Tryz.ntmps55
      go_wp2
      go_ret2
      exact ⟨⟨0, false, rfl, by omega, fun h => (by cases h), fun _ n hn e => by have := dec_len_pow 13 n (by omega) (by omega); rw [← e] at this; omega⟩, by (repeat (first | with_reducible exact Ext.refl _ | with_reducible assumption | ((with_reducible apply Src.ext); with_reducible assumption) | with_reducible refine Ext.alloc ?_ _ | with_reducible refine Ext.drew ?_ | with_reducible refine Ext.drewN ?_ _ | ((with_reducible refine Ext.setCell' ?_ ?_ _); solve | omega | simp | (simp; omega)) | (with_reducible refine Ext.trans ?_ (by with_reducible assumption))))⟩
    · have hd : decide ((s.size : Int) < 1) = false := decide_eq_false (by omega)
      have hd2 : decide ((s.size : Int) > 13) = false := decide_eq_false (by omega)
      obtain ⟨l, hl⟩ : ∃ l, l = s.data.toList := ⟨_, rfl⟩
      rw [← hl] at hsl
      have HL := Lib.hid hl
      have HSL := Lib.hid hsl
      have hn13 : s.size ≤ 13 := by omega
      clear hl hsl hs
      go_enter Tryz.func55, Tryz.ntmps55
      go_wp2
      clear h0 h13
      go_loop [4, 5] (fun v i => ∃ k : Nat, k ≤ s.size ∧ i = .int .i64 k ∧ v = .int .i64 (valD (l.take k)) ∧ Hid ((l.take k).all dgB = true)) (fun _ i => s.size - (intOf i).toNat)
      case atStart => exact ⟨0, by omega, rfl, rfl, Lib.hid (by simp)⟩
      case round =>
        obtain ⟨k, hk, rfl, rfl, HA⟩ := hrel
        by_cases hlt : k < s.size
        · have hks := hlt
          have hkl : k < l.length := by rw [HSL.out]; exact hlt
          have hbk := get_bt s k hks
          have hbl := bt_list s hks
          rw [← HL.out] at hbl
          have htk : l.take (k + 1) = l.take k ++ [l.getD k 0] := by rw [List.take_succ_eq_append_getElem hkl, getD_at hkl]
          have hmem : l.getD k 0 ∈ s.data.toList := by rw [← HL.out, getD_at hkl]; exact List.getElem_mem hkl
          have hv := valD_lt _ HA.out
          rw [List.length_take, Nat.min_eq_left (by omega)] at hv
          have hp : 10 ^ k ≤ 10 ^ 12 := Nat.pow_le_pow_right (by omega) (by omega)
          have hv2 := valD_snoc (l.take k) (l.getD k 0)
          rw [← htk] at hv2
          have hall : (l.take (k + 1)).all dgB = ((l.take k).all dgB && dgB (l.getD k 0)) := by rw [htk, List.all_append]; simp
          generalize l.getD k 0 = x at *
          obtain ⟨z, hz⟩ : ∃ z, z = bt s k := ⟨_, rfl⟩
          rw [← hz] at hbk hbl
          have HX : Hid (z = (x.toNat : Int)) := Lib.hid hbl
          have HM := Lib.hid hmem
          have HV := Lib.hid hv2
          have HAL := Lib.hid hall
          have hz0 : 0 ≤ z := by omega
          have ha : valD (l.take k) ≤ 1000000000000 := by omega
          generalize valD (l.take k) = a at *
          clear hz hbl hmem hv2 hall htk hv hp hkl
          have hno : ∀ P : Prop, dgB x = false → (∀ m : Nat, m ≤ 9999999999999 → s.data.toList ≠ Lib.decDigits m) := fun _ hx m _ e => by
            have := dec_dig m x (by rw [← e]; exact HM.out)
            rw [hx] at this; cases this
          by_cases h1 : z < 48
          · have HF := Lib.hid (hno True (by have := HX.out; simp [dgB]; omega))
            have hd1 : decide (z < 48) = true := decide_eq_true h1
            clear hno
            go_wp2
            go_ret2
            exact ⟨⟨0, false, rfl, by omega, fun h => (by cases h), fun _ => HF.out⟩, by (repeat (first | with_reducible exact Ext.refl _ | with_reducible assumption | ((with_reducible apply Src.ext); with_reducible assumption) | with_reducible refine Ext.alloc ?_ _ | with_reducible refine Ext.drew ?_ | with_reducible refine Ext.drewN ?_ _ | ((with_reducible refine Ext.setCell' ?_ ?_ _); solve | omega | simp | (simp; omega)) | (with_reducible refine Ext.trans ?_ (by with_reducible assumption))))⟩
          · have hd1 : decide (z < 48) = false := decide_eq_false h1
            by_cases h2 : 57 < z
            · have HF := Lib.hid (hno True (by have := HX.out; simp [dgB]; omega))
              have hd2 : decide (57 < z) = true := decide_eq_true h2
              clear hno
              go_wp2
              go_ret2
              exact ⟨⟨0, false, rfl, by omega, fun h => (by cases h), fun _ => HF.out⟩, by (repeat (first | with_reducible exact Ext.refl _ | with_reducible assumption | ((with_reducible apply Src.ext); with_reducible assumption) | with_reducible refine Ext.alloc ?_ _ | with_reducible refine Ext.drew ?_ | with_reducible refine Ext.drewN ?_ _ | ((with_reducible refine Ext.setCell' ?_ ?_ _); solve | omega | simp | (simp; omega)) | (with_reducible refine Ext.trans ?_ (by with_reducible assumption))))⟩
            · have hd2 : decide (57 < z) = false := decide_eq_false h2
              have hw1 : IntKind.i64.wrap (10 * (a : Int)) = 10 * (a : Int) := IntWalk.i64_in _ (by omega)
              have hw2 : IntKind.u8.wrap (z - 48) = z - 48 := IntWalk.u8_in _ (by omega)
              have hw3 : IntKind.i64.wrap (z - 48) = z - 48 := IntWalk.i64_in _ (by omega)
              have hw4 : IntKind.i64.wrap (10 * (a : Int) + (z - 48)) = 10 * (a : Int) + (z - 48) := IntWalk.i64_in _ (by omega)
              clear hno
              go_wp2
              go_round
              case rel =>
                refine ⟨k + 1, by omega, by go_num, ?_, Lib.hid (by rw [HAL.out, HA.out]; have := HX.out; simp [dgB]; omega)⟩
                rw [HV.out]
                have := HX.out
                congr 1
                omega
              case measure => simp [intOf]; omega
        · obtain rfl : k = s.size := by omega
          have hT : l.take s.size = l := List.take_of_length_le (by rw [HSL.out]; exact Nat.le_refl _)
          rw [hT] at HA ⊢
          have hv := valD_lt _ HA.out
          have hp : 10 ^ l.length ≤ 10 ^ 13 := Nat.pow_le_pow_right (by omega) (by rw [HSL.out]; exact hn13)
          have HVL : Hid (valD l ≤ 9999999999999) := Lib.hid (by omega)
          have HVD : Hid (∀ m, l = Lib.decDigits m → valD l = m) := Lib.hid fun m e => by rw [e, valD_dec]
          clear hv hp hT
          generalize valD l = a at *
          go_wp2_with fail
          refine (s_l01Dec a _ (by have := HVL.out; omega)).mono ?_
          rintro e w2 ⟨rfl, hx2⟩
          go_wp2
          go_ret2
          refine ⟨⟨a, (tx (Lib.decDigits a)).toList == s.toList, rfl, HVL.out, fun h => ?_, fun h m _ e => ?_⟩, hx2⟩
          · rw [← same_text.1 h, tx_list]
          · have h2 := HVD.out m (HL.out.trans e)
            rw [same_text.2 (by rw [h2, ← eq_tx e])] at h
            cases h
/-- a numeral, read -/
structure RdI (s : ByteArray) (v : Int) (b : Bool) : Prop where
  lo : -9999999999999 ≤ v
  hi : v ≤ 9999999999999
  yes : b = true → s.data.toList = Lib.itoa v
  no : b = false → ∀ n : Int, -9999999999999 ≤ n → n ≤ 9999999999999 → s.data.toList ≠ Lib.itoa n
def RdIE (s : ByteArray) (e : Ending) : Prop := ∃ (v : Int) (b : Bool), e = .returned (.tuple #[.int .i64 v, .bool b]) ∧ RdI s v b
set_option maxRecDepth 20000 in
set_option maxHeartbeats 3200000 in
theorem s_l01Signed (s : ByteArray) (w : World) (hs : s.size ≤ 1048576) :
    Calls Tryz.prog 54 #[.string s] w fun e w' => RdIE s e ∧ Ext w w' := by
  have hsl := size_list s
  have hplain : ∀ v b, s.data.toList.head? ≠ some 45 → RdN s v b → RdI s v b := fun v b hh h =>
    ⟨by omega, by have := h.le; omega, fun e => by rw [itoa_nat (by omega)]; exact h.yes e, fun e n h1 h2 en => by
      by_cases hn : n < 0
      · rw [en, itoa_neg hn] at hh; exact hh rfl
      · rw [itoa_nat hn] at en
        exact h.no e n.natAbs (by omega) en⟩
  by_cases h0 : 0 < s.size
  · have hd : decide ((s.size : Int) > 0) = true := decide_eq_true (by omega)
    have hb := get_bt s 0 h0
    have hbb := bt_byte s h0 45
    by_cases hc : s.data.toList.getD 0 0 = 45
    · rw [decide_eq_true hc] at hbb
      obtain ⟨r, hr⟩ : ∃ r, s.data.toList = 45 :: r := by
        rcases hl : s.data.toList with _ | ⟨c, r⟩
        · rw [hl] at hsl; simp at hsl; omega
        · rw [hl] at hc; simp at hc; exact ⟨r, by rw [hc]⟩
      have hex : s.extract 1 s.size = tx r := by
        rw [tx_extract, hr, List.take_of_length_le (by rw [← hr, hsl]; exact Nat.le_refl _)]; rfl
      have HV := Lib.hid fun W => s_l01Value (tx r) W (by rw [tx_size]; rw [hr] at hsl; simp at hsl; omega)
      have HR := Lib.hid hr
      have HB : Hid (bt s 0 == 45) := Lib.hid hbb
      obtain ⟨z, hz⟩ : ∃ z, z = bt s 0 := ⟨_, rfl⟩
      have hz45 : z = 45 := by rw [hz]; exact beq_iff_eq.1 hbb
      rw [← hz] at hb
      subst hz45
      clear hz hplain hc hr hbb HB
      go_enter Tryz.func54, Tryz.ntmps54
      go_wp2_with fail
      refine (HV.out _).mono ?_
      rintro e w1 ⟨⟨v, b, rfl, hr⟩, hx1⟩
      have hw : IntKind.i64.wrap (-(v : Int)) = -(v : Int) := IntWalk.i64_in _ (by have := hr.le; omega)
      have HRD := Lib.hid hr
      clear hr
      cases b with
      | true =>
        by_cases hp : 0 < v
        · have hdp : decide ((v : Int) > 0) = true := decide_eq_true (by omega)
          go_wp2
          go_ret2
          refine ⟨⟨_, _, rfl, by have := HRD.out.le; omega, by omega, fun _ => ?_, fun h => (by cases h)⟩, hx1⟩
          rw [HR.out, itoa_neg (by omega), ← tx_list r, HRD.out.yes rfl]
          congr 2
          omega
        · have hdp : decide ((v : Int) > 0) = false := decide_eq_false (by omega)
          go_wp2
          go_ret2
          refine ⟨⟨_, _, rfl, by have := HRD.out.le; omega, by omega, fun h => (by cases h), fun _ n _ _ en => ?_⟩, hx1⟩
          rw [HR.out] at en
          have hy := HRD.out.yes rfl
          rw [tx_list] at hy
          by_cases hn : n < 0
          · rw [itoa_neg hn] at en
            have := dec_inj (hy.symm.trans (List.cons.inj en).2)
            omega
          · rw [itoa_nat hn] at en
            exact dec_head n.natAbs (by rw [← en]; rfl)
      | false =>
        go_wp2
        go_ret2
        refine ⟨⟨_, _, rfl, by have := HRD.out.le; omega, by omega, fun h => (by cases h), fun _ n h1 h2 en => ?_⟩, hx1⟩
        rw [HR.out] at en
        by_cases hn : n < 0
        · rw [itoa_neg hn] at en
          exact HRD.out.no rfl n.natAbs (by omega) (by rw [tx_list]; exact (List.cons.inj en).2)
        · rw [itoa_nat hn] at en
          exact dec_head n.natAbs (by rw [← en]; rfl)
    · rw [decide_eq_false hc] at hbb
      have HP := Lib.hid fun v b => hplain v b (by
        rcases hl : s.data.toList with _ | ⟨c, r⟩
        · simp
        · rw [hl] at hc; simpa using hc)
      have HV := Lib.hid fun W => s_l01Value s W hs
      obtain ⟨z, hz⟩ : ∃ z, z = bt s 0 := ⟨_, rfl⟩
      rw [← hz] at hb hbb
      have hbb' : (z == 45) = false := hbb
      clear hz hplain hc hbb
      go_enter Tryz.func54, Tryz.ntmps54
      go_wp2_with fail
      refine (HV.out _).mono ?_
      rintro e w1 ⟨⟨v, b, rfl, hr⟩, hx1⟩
      have HRD := Lib.hid (HP.out v b hr)
      clear hr
      go_wp2
      go_ret2
      exact ⟨⟨_, _, rfl, HRD.out⟩, hx1⟩
  · have hd : decide ((s.size : Int) > 0) = false := decide_eq_false (by omega)
    have HP := Lib.hid fun v b => hplain v b (by
      rcases hl : s.data.toList with _ | ⟨c, r⟩
      · simp
      · rw [hl] at hsl; simp at hsl; omega)
    have HV := Lib.hid fun W => s_l01Value s W hs
    clear hplain
    go_enter Tryz.func54, Tryz.ntmps54
    go_wp2_with fail
    refine (HV.out _).mono ?_
    rintro e w1 ⟨⟨v, b, rfl, hr⟩, hx1⟩
    have HRD := Lib.hid (HP.out v b hr)
    clear hr
    go_wp2
    go_ret2
    exact ⟨⟨_, _, rfl, HRD.out⟩, hx1⟩

end Go.Proofs.YtabdffponmmhoaaGreatDoor
