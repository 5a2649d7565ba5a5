/- Contracts of words and languages, walked over the translation. Contracts of numbers and points as texts, walked over the translation. Contracts of rings as texts and their law, walked over the translation. Contracts of texts that are split, and of phrases, walked over the translation. -/
import Derived.Test.YtlnliajnipniaaaGreatDoorSh
import Derived.Test.YtlnliajnipniaaaGreatDoorG0
import Derived.PlainAid
import Derived.Lib.SlTrimSet
import Derived.Lib.SmallJoins
import Derived.Lib.ItoaLen
import Derived.Lib.Join
import Derived.Lib.SplitLaws
import Derived.Shelf.Vars
namespace Go.Proofs.YtlnliajnipniaaaGreatDoor
open Go.RowKit Go.PlainAid
attribute [local go_sem] ExtOf.cell ExtOf.frozen
theorem ret_bool' {a b : Bool} (h : a = b) : Ending.returned (.bool a) = .returned (.bool b) := by rw [h]
def lowB (b : UInt8) : Bool := decide (97 ≤ b.toNat) && decide (b.toNat ≤ 122)
def smB (s : ByteArray) (lo hi : Int) : Bool := inB s.size lo hi && s.data.toList.all lowB
theorem size_list (s : ByteArray) : s.data.toList.length = s.size := by rw [Array.length_toList]; rfl
theorem getD_at {l : List UInt8} {k : Nat} (hk : k < l.length) : l.getD k 0 = l[k] := by rw [List.getD_eq_getElem?_getD, List.getElem?_eq_getElem hk]; rfl
theorem bt_list (s : ByteArray) {k : Nat} (hk : k < s.size) : bt s k = ((s.data.toList.getD k 0).toNat : Int) := by
 rw [← get_bt s k hk]
 have : k < s.data.toList.length := by rw [size_list]; exact hk
 rw [getD_at this, Array.getElem_toList]
 rfl
theorem all_low {s : ByteArray} : s.data.toList.all lowB = true ↔ ∀ k, k < s.size → 97 ≤ bt s k ∧ bt s k ≤ 122 := by
 rw [List.all_eq_true]
 constructor
 ·intro h k hk
  have hl : k < s.data.toList.length := by rw [size_list]; exact hk
  have := h (s.data.toList.getD k 0) (by rw [getD_at hl]; exact List.getElem_mem hl)
  rw [bt_list s hk]
  simp only [lowB, Bool.and_eq_true, decide_eq_true_eq] at this
  omega
 ·intro h b hb
  obtain ⟨k, hk, rfl⟩ := List.mem_iff_getElem.1 hb
  have hk' : k < s.size := by rw [← size_list]; exact hk
  have := h k hk'
  rw [bt_list s hk', getD_at hk] at this
  simp only [lowB, Bool.and_eq_true, decide_eq_true_eq]
  omega
theorem all_low_no {s : ByteArray} {k : Nat} (hk : k < s.size) (h : ¬ (97 ≤ bt s k ∧ bt s k ≤ 122)) : s.data.toList.all lowB = false := by
 rw [← Bool.not_eq_true, all_low]
 exact fun hh => h (hh k hk)
theorem letters (b : UInt8) : ([97, 98, 99, 100, 101, 102, 103, 104, 105, 106, 107, 108, 109, 110, 111, 112, 113, 114, 115, 116, 117, 118, 119, 120, 121, 122] : List UInt8).contains b = lowB b := by
 have h : ∀ n : Fin 256, ([97, 98, 99, 100, 101, 102, 103, 104, 105, 106, 107, 108, 109, 110, 111, 112, 113, 114, 115, 116, 117, 118, 119, 120, 121, 122] : List UInt8).contains (UInt8.ofNat n.val) = lowB (UInt8.ofNat n.val) := by decide +kernel
 have := h ⟨b.toNat, b.toNat_lt⟩
 simpa using this
theorem trim_nil {l cs : List UInt8} : Lib.trimS l cs = [] ↔ l.all (cs.contains ·) = true := by
 have hd : ∀ (p : UInt8 → Bool) (m : List UInt8), m.dropWhile p = [] ↔ m.all p = true := fun p m => by
  induction m with
  | nil => simp
  | cons x m ih =>
   rw [List.dropWhile_cons, List.all_cons]
   cases hx : p x <;> simp [ih]
 unfold Lib.trimS Lib.trimLeftS Lib.trimRightS
 rw [hd]
 constructor
 ·intro h
  rw [List.all_reverse] at h
  have hs : ∀ (p : UInt8 → Bool) (m : List UInt8), (m.dropWhile p).all p = true → m.all p = true := fun p m => by
   induction m with
   | nil => simp
   | cons x m ih =>
    rw [List.dropWhile_cons, List.all_cons]
    cases hx : p x
    ·simp [hx]
    ·simpa using ih
  have := hs _ _ h
  rwa [List.all_reverse] at this
 ·intro h
  rw [List.all_reverse]
  have : l.reverse.all (cs.contains ·) = true := by rw [List.all_reverse]; exact h
  rw [List.all_eq_true] at this ⊢
  exact fun x hx => this x (List.dropWhile_sublist _ |>.subset hx)
theorem trim_low {s : ByteArray} : Lib.trimS s.data.toList [97, 98, 99, 100, 101, 102, 103, 104, 105, 106, 107, 108, 109, 110, 111, 112, 113, 114, 115, 116, 117, 118, 119, 120, 121, 122] = [] ↔ s.data.toList.all lowB = true := by
 rw [trim_nil]
 have : (fun b => ([97, 98, 99, 100, 101, 102, 103, 104, 105, 106, 107, 108, 109, 110, 111, 112, 113, 114, 115, 116, 117, 118, 119, 120, 121, 122] : List UInt8).contains b) = lowB := funext letters
 rw [this]
set_option maxRecDepth 20000 in
set_option maxHeartbeats 1600000 in
theorem i_isSmall (s : ByteArray) (lo hi : Int) (w : World) (hs : s.size ≤ 140737488351232) :
  Calls Tryz.prog 54 #[.string s, .int .i64 lo, .int .i64 hi] w fun e w' => e = .returned (.bool (smB s lo hi)) ∧ Ext w w' := by
 unfold smB
 cases hb : inB s.size lo hi with
 | false =>
  have HB : Hid (∀ W, Calls Tryz.prog 100 #[.int .i64 s.size, .int .i64 lo, .int .i64 hi] W fun e w' => e = .returned (.bool false) ∧ W = w') := hI fun W => by have := within_any s.size lo hi W; rwa [hb] at this
  clear hb
  go_enter Tryz.func54, Tryz.ntmps54
  (go_wp2_with fail; refine (HB.out _).mono ?_; rintro e w' ⟨rfl, rfl⟩)
  go_wp2
  go_ret
  exact ⟨rfl, Ext.refl _⟩
 | true =>
  have HB : Hid (∀ W, Calls Tryz.prog 100 #[.int .i64 s.size, .int .i64 lo, .int .i64 hi] W fun e w' => e = .returned (.bool true) ∧ W = w') := hI fun W => by have := within_any s.size lo hi W; rwa [hb] at this
  have hT := fun W => Tryz.strings_Trim_laid s ⟨#[97, 98, 99, 100, 101, 102, 103, 104, 105, 106, 107, 108, 109, 110, 111, 112, 113, 114, 115, 116, 117, 118, 119, 120, 121, 122]⟩ W (by omega) (by decide) (ascii_of_all (by decide))
  have hl := trim_low (s := s)
  cases ha : s.data.toList.all lowB with
  | true =>
   rw [ha] at hl
   have hn := hl.2 rfl
   rw [show (⟨#[97, 98, 99, 100, 101, 102, 103, 104, 105, 106, 107, 108, 109, 110, 111, 112, 113, 114, 115, 116, 117, 118, 119, 120, 121, 122]⟩ : ByteArray).data.toList = [97, 98, 99, 100, 101, 102, 103, 104, 105, 106, 107, 108, 109, 110, 111, 112, 113, 114, 115, 116, 117, 118, 119, 120, 121, 122] from rfl, hn] at hT
   have HT := hI hT
   clear hb hT hl hn ha
   go_enter Tryz.func54, Tryz.ntmps54
   (go_wp2_with fail; refine (HB.out _).mono ?_; rintro e w' ⟨rfl, rfl⟩)
   go_wp2_with fail
   refine (HT.out _).mono ?_
   rintro e w' ⟨rfl, hx⟩
   have hx' : Ext w w' := hx
   go_wp2
   go_ret
   exact ⟨rfl, hx'⟩
  | false =>
   have hn : ¬ Lib.trimS s.data.toList [97, 98, 99, 100, 101, 102, 103, 104, 105, 106, 107, 108, 109, 110, 111, 112, 113, 114, 115, 116, 117, 118, 119, 120, 121, 122] = [] := fun h => by
    have := hl.1 h
    rw [ha] at this
    cases this
   rw [show (⟨#[97, 98, 99, 100, 101, 102, 103, 104, 105, 106, 107, 108, 109, 110, 111, 112, 113, 114, 115, 116, 117, 118, 119, 120, 121, 122]⟩ : ByteArray).data.toList = [97, 98, 99, 100, 101, 102, 103, 104, 105, 106, 107, 108, 109, 110, 111, 112, 113, 114, 115, 116, 117, 118, 119, 120, 121, 122] from rfl] at hT
   generalize Lib.trimS s.data.toList _ = t at hT hn
   have hne : (⟨t.toArray⟩ : ByteArray).toList.isEmpty = false := by
    rw [ByteArray.toList_eq]
    cases t with
    | nil => exact absurd rfl hn
    | cons _ _ => rfl
   generalize (⟨t.toArray⟩ : ByteArray) = u at hT hne
   have HT := hI hT
   clear hb hT hl hn ha
   go_enter Tryz.func54, Tryz.ntmps54
   (go_wp2_with fail; refine (HB.out _).mono ?_; rintro e w' ⟨rfl, rfl⟩)
   go_wp2_with fail
   refine (HT.out _).mono ?_
   rintro e w' ⟨rfl, hx⟩
   have hx' : Ext w w' := hx
   go_wp2
   go_ret
   exact ⟨rfl, hx'⟩
theorem i_IsWord (s : ByteArray) (w : World) (hs : s.size ≤ 140737488351232) :
  Calls Tryz.prog 22 #[.string s] w fun e w' => e = .returned (.bool (smB s 1 16)) ∧ Ext w w' := by
 go_enter Tryz.func22, Tryz.ntmps22
 (go_wp2_with fail; refine (i_isSmall s 1 16 _ hs).mono ?_; rintro e w1 ⟨rfl, hx1⟩; obtain ⟨hc1, hf1, hs1⟩ := hx1.all; (try simp at hs1))
 go_wp2
 go_ret
 exact ⟨rfl, hx1⟩
set_option maxHeartbeats 1600000 in
theorem s_IsWord (s : ByteArray) (w : World) (hs : s.size ≤ 140737488351232) :
  Calls Tryz.prog 106 #[.string s] w fun e w' => e = .returned (.bool (smB s 1 16)) ∧ Ext w w' := by
 go_enter Tryz.func106, Tryz.ntmps106
 go_wp2
 go_loop [3] (fun i => ∃ k : Nat, k ≤ s.size ∧ i = .int .i64 k ∧ Hid (∀ j, j < k → 97 ≤ bt s j ∧ bt s j ≤ 122)) (fun i => s.size - (intOf i).toNat)
 case atStart => exact ⟨0, by omega, rfl, fun j hj => absurd hj (by omega)⟩
 case round =>
  obtain ⟨k, hk, rfl, HJ⟩ := hrel
  by_cases hlt : k < s.size
  ·have hb := get_bt s
   have hNo := all_low_no hlt
   have hz0 := bt_nonneg s k
   obtain ⟨z, hz⟩ : ∃ z, z = bt s k := ⟨_, rfl⟩
   have HZ := hI hz
   rw [← hz] at hNo hz0
   by_cases h1 : z < 97
   ·have HF := hI (hNo (by omega))
    have hd1 : decide (z < 97) = true := decide_eq_true h1
    have hbk := hb k hlt
    rw [← hz] at hbk
    clear hNo hz hb
    go_wp2
    go_ret
    refine ⟨ret_bool' ?_, Ext.refl _⟩
    unfold smB
    rw [HF.out, Bool.and_false]
   ·have hd1 : decide (z < 97) = false := decide_eq_false h1
    by_cases h2 : 122 < z
    ·have HF := hI (hNo (by omega))
     have hd2 : decide (122 < z) = true := decide_eq_true h2
     have hbk := hb k hlt
     rw [← hz] at hbk
     clear hNo hz hb
     go_wp2
     go_ret
     refine ⟨ret_bool' ?_, Ext.refl _⟩
     unfold smB
     rw [HF.out, Bool.and_false]
    ·have hd2 : decide (122 < z) = false := decide_eq_false h2
     have hbk := hb k hlt
     rw [← hz] at hbk
     clear hNo hz hb
     go_wp2
     go_round
     case rel =>
      refine ⟨k + 1, by omega, by go_num, fun j hj => ?_⟩
      rcases Nat.lt_or_ge j k with c | c
      ·exact HJ.out j c
      ·obtain rfl : j = k := by omega
       rw [← HZ.out]; omega
     case measure => simp [intOf]; omega
  ·obtain rfl : k = s.size := by omega
   have HA := hI (all_low.2 HJ.out)
   (go_wp2_with fail; refine (l01In_any _ _ _ _).mono ?_; rintro e w' ⟨rfl, rfl⟩)
   go_wp2
   go_ret
   refine ⟨ret_bool' ?_, Ext.refl _⟩
   unfold smB
   rw [HA.out, Bool.and_true]
end Go.Proofs.YtlnliajnipniaaaGreatDoor
namespace Go.Proofs.YtlnliajnipniaaaGreatDoor
open Go.RowKit
attribute [local go_sem] ExtOf.cell ExtOf.frozen
def tx (l : List UInt8) : ByteArray := ⟨l.toArray⟩
theorem tx_add (a b : List UInt8) : tx a ++ tx b = tx (a ++ b) := by
 unfold tx
 ext1
 simp
theorem tx_size (l : List UInt8) : (tx l).size = l.length := by simp [tx, ByteArray.size]
def Num (n : Int) : Prop := -1000000000000000 ≤ n ∧ n ≤ 1000000000000000
theorem itoa_len {n : Int} (h : Num n) : (Lib.itoa n).length ≤ 21 := by unfold Num at h; exact Lib.itoa_length_le n (by omega) (by omega)
def encS (l : List UInt8) : List Value := [.string (tx l)]
theorem len_encS : ∀ x, (encS x).length = 1 := fun _ => rfl
theorem one_encS : ∀ p, ∀ u ∈ encS p, u.oneCell' = true := by
 intro p u hu
 simp [encS] at hu
 subst hu; rfl
theorem elS : ElT Tryz.prog 43 9 1 16 := ElT.mk' (z := .string .empty) Tryz.underlying43 (by kernel_rfl) rfl (by omega)
abbrev OwS (w : World) (base : Nat) (v : Value) (xs : List (List UInt8)) : Prop := Own encS 1 9 w base v xs
theorem blk_s1 {w : World} {g : Nat} {t : TypeId} {l : List UInt8} (h : Blk w g t #[.string (tx l)]) : SlAt w 1 encS (some ⟨g, 0, none⟩) [l] := h.sl rfl len_encS
theorem SlAt.st {w : World} {A : Option Addr} {xs : List (List UInt8)} (h : SlAt w 1 encS A xs) {k : Nat} (hk : k < xs.length) :
  ∃ b off, A = some ⟨b, off, none⟩ ∧ b < w.heap.size ∧ w.cell? ⟨b, off + k, none⟩ = some (.string (tx (xs.getD k []))) := by
 obtain ⟨b, off, e, hb, hc⟩ := h (by omega)
 have hg : xs[k]? = some (xs.getD k []) := by simp [List.getD, hk]
 exact ⟨b, off, e, hb, by simpa using hc k _ hg 0 _ rfl⟩
theorem SlAt.st' {w : World} {b off : Nat} {xs : List (List UInt8)} (h : SlAt w 1 encS (some ⟨b, off, none⟩) xs) {k : Nat} (hk : k < xs.length) :
  w.cell? ⟨b, off + k, none⟩ = some (.string (tx (xs.getD k []))) := by
 obtain ⟨b', off', e, _, hc⟩ := h.st hk
 injection e with e
 injection e with e1 e2
 subst e1 e2
 exact hc
theorem tx_list (l : List UInt8) : (tx l).data.toList = l := by simp [tx]
abbrev jn (L : List (List UInt8)) (sep : List UInt8) : List UInt8 := Lib.join L sep
theorem jn_snoc (L : List (List UInt8)) (x sep : List UInt8) (h : L ≠ []) : jn (L ++ [x]) sep = jn L sep ++ sep ++ x := by
 rcases L with _ | ⟨y, L⟩
 ·exact absurd rfl h
 ·show Lib.join (y :: (L ++ [x])) sep = Lib.join (y :: L) sep ++ sep ++ x
  rw [Lib.join_cons, Lib.join_cons]
  unfold Lib.joinTail
  simp
theorem jn_take {L : List (List UInt8)} {k : Nat} (hk : k < L.length) (sep : List UInt8) : jn (L.take (k + 1)) sep = if k = 0 then L.getD 0 [] else jn (L.take k) sep ++ sep ++ L.getD k [] := by
 rw [List.take_succ_eq_append_getElem hk]
 have e : L.getD k [] = L[k] := by simp [List.getD, hk]
 split
 ·rename_i h0
  subst h0
  rw [e]
  simp [Lib.join_one]
 ·have hne : L.take k ≠ [] := fun e' => by
   have h' : (L.take k).length = 0 := by rw [e']; rfl
   rw [List.length_take] at h'
   omega
  rw [jn_snoc _ _ _ hne, e]
theorem jn_len {L : List (List UInt8)} {sep : List UInt8} {m : Nat} (h : ∀ x ∈ L, x.length ≤ m) : (jn L sep).length ≤ (sep.length + m) * L.length := by
 rcases L with _ | ⟨y, L⟩
 ·simp [Lib.join_nil]
 ·rw [Lib.join_length]
  have hs : ∀ M : List (List UInt8), (∀ x ∈ M, x.length ≤ m) → Lib.lens M ≤ m * M.length := fun M => by
   induction M with
   | nil => intro _; simp [Lib.lens]
   | cons x M ih =>
    intro hM
    have := ih fun x hx => hM x (by simp [hx])
    have := hM x (by simp)
    simp [Lib.lens, Nat.mul_succ] at *
    omega
  have := hs (y :: L) h
  simp only [List.length_cons] at *
  rw [Nat.add_mul, Nat.mul_succ]
  omega
set_option maxHeartbeats 1600000 in
theorem s_l01Words (A : Option Addr) (n c : Nat) (L : List (List UInt8)) (w : World) (h : SlAt w 1 encS A L) (hn : n = L.length) (hl : n ≤ 1048576) (hm : ∀ k, (jn (L.take k) [32]).length + 1 ≤ 1000000000000) (hm2 : ∀ k, (L.getD k []).length ≤ 1000000000000) :
  Calls Tryz.prog 114 #[.slice A n c] w fun e w' => e = .returned (.string (tx (jn L [32]))) ∧ Ext w w' := by
 have HN := hI hn
 have HM := hI hm
 have HM2 := hI hm2
 have e0 : tx (jn (L.take 0) [32]) = ⟨#[]⟩ := by simp [Lib.join_nil, tx]
 have E0 := hI e0
 clear hn hm hm2 e0
 go_enter Tryz.func114, Tryz.ntmps114
 go_wp2
 go_loop [3, 4] (fun s i => ∃ k : Nat, k ≤ n ∧ i = .int .i64 k ∧ s = .string (tx (jn (L.take k) [32]))) (fun _ i => n - (intOf i).toNat)
 case atStart => exact ⟨0, by omega, rfl, by rw [E0.out]⟩
 case round =>
  obtain ⟨k, hk, rfl, rfl⟩ := hrel
  by_cases hlt : k < n
  ·have hkn : k < L.length := by rw [← HN.out]; exact hlt
   obtain ⟨b, off, rfl, hb, d0⟩ := h.st hkn
   have hj := jn_take hkn [32]
   have h1 := HM.out k
   have h2 := HM2.out k
   by_cases hz : k = 0
   ·rw [if_pos hz] at hj
    subst hz
    rw [Nat.add_zero] at d0
    have HJ := hI hj
    generalize L.getD 0 [] = x at *
    have hf1 : ((tx (jn (L.take 0) [32])).size + (tx x).size > 9223372036854775807) = False := eq_false (by rw [tx_size, tx_size]; omega)
    have e1 : (tx (jn (L.take 0) [32])) ++ tx x = tx x := by rw [tx_add]; simp [Lib.join_nil]
    generalize tx (jn (L.take 0) [32]) = t at *
    clear hj h1 h2
    go_wp2
    go_round
    case rel => exact ⟨1, by omega, by go_num, by rw [HJ.out]⟩
    case measure => simp [intOf]; omega
   ·rw [if_neg hz] at hj
    have HJ := hI hj
    have hkp : (0 : Int) < k := by omega
    generalize hx : L.getD k [] = x at *
    generalize ht : jn (L.take k) [32] = t at *
    have hf1 : ((tx t).size + 1 > 9223372036854775807) = False := eq_false (by rw [tx_size]; omega)
    have hf2 : ((tx t).size + 1 + (tx x).size > 9223372036854775807) = False := eq_false (by rw [tx_size, tx_size]; omega)
    have E1 : Hid (tx t ++ (⟨#[32]⟩ : ByteArray) ++ tx x = tx (t ++ [32] ++ x)) := hI (by rw [show (⟨#[32]⟩ : ByteArray) = tx [32] from rfl, tx_add, tx_add])
    clear hj h1 h2 ht hx
    go_wp2
    go_round
    case rel => exact ⟨k + 1, by omega, by go_num, by rw [HJ.out, ← E1.out]⟩
    case measure => simp [intOf]; omega
  ·obtain rfl : k = n := by omega
   go_wp2
   go_ret
   have e : L.take k = L := by rw [HN.out]; exact List.take_length
   exact ⟨congrArg (fun M => Ending.returned (.string (tx (jn M [32])))) e, Ext.refl _⟩
end Go.Proofs.YtlnliajnipniaaaGreatDoor
namespace Go.Proofs.YtlnliajnipniaaaGreatDoor
open Go.RowKit Go.PlainAid
attribute [local go_sem] ExtOf.cell ExtOf.frozen
def sp (c : UInt8) : List UInt8 → List (List UInt8)
 | [] => [[]]
 | b :: l => if b = c then [] :: sp c l else match sp c l with
  | [] => [[b]]
  | x :: r => (b :: x) :: r
theorem sp_ne (c : UInt8) : ∀ l, sp c l ≠ []
 | [] => by simp [sp]
 | b :: l => by
  unfold sp
  split
  ·simp
  ·split <;> simp
theorem splitK_sp (c : UInt8) : ∀ l : List UInt8, Lib.splitK [c] 0 (Lib.count l [c]) l = sp c l
 | [] => by rw [Lib.count_miss (by simp [Lib.index])]; rfl
 | b :: l => by
  have ih := splitK_sp c l
  by_cases h : b = c
  ·subst h
   have hix : Lib.index (b :: l) [b] = ((0 : Nat) : Int) := by rw [Lib.index]; simp [List.isPrefixOf]
   rw [Lib.count_cons_eq, Nat.add_comm, Lib.splitK, hix, sp, if_pos rfl, ← ih]
   simp
  ·rw [Lib.count_cons_ne b c l h, sp, if_neg h]
   have hp : ([c] : List UInt8).isPrefixOf (b :: l) = false := by simp [List.isPrefixOf, Ne.symm h]
   have hix : Lib.index (b :: l) [c] = if Lib.index l [c] == -1 then -1 else Lib.index l [c] + 1 := by rw [Lib.index, hp]; simp
   by_cases hm : Lib.index l [c] = -1
   ·rw [Lib.count_miss hm] at ih ⊢
    rw [← ih]; rfl
   ·have hge := Lib.index_ge l [c]
    obtain ⟨j, hj⟩ : ∃ j : Nat, Lib.index l [c] = j := ⟨(Lib.index l [c]).toNat, by omega⟩
    have hne : ¬ (((j : Nat) : Int) == -1) = true := fun e => by have := beq_iff_eq.1 e; omega
    rw [hj, if_neg hne] at hix
    rw [Lib.count_hit (by simp) hj, Nat.add_comm] at ih ⊢
    rw [Lib.splitK, hj, if_neg hne] at ih
    have hne2 : ¬ ((((j : Nat) : Int) + 1) == -1) = true := fun e => by have := beq_iff_eq.1 e; omega
    rw [Lib.splitK, hix, if_neg hne2, ← ih]
    simp only [Nat.add_zero]
    rw [show ((j : Int) + 1).toNat = j + 1 by omega, show ((j : Nat) : Int).toNat = j by omega]
    simp [Nat.add_comm, Nat.add_left_comm]
theorem sp_snoc (c b : UInt8) : ∀ (m : List UInt8) (O : List (List UInt8)) (x : List UInt8), sp c m = O ++ [x] → sp c (m ++ [b]) = if b = c then O ++ [x, []] else O ++ [x ++ [b]]
 | [], O, x, h => by
  have h' : O = [] ∧ x = [] := by
   rcases O with _ | ⟨y, O⟩
   ·simp [sp] at h; exact ⟨rfl, h⟩
   ·simp [sp] at h
  obtain ⟨rfl, rfl⟩ := h'
  simp [sp]
 | d :: m, O, x, h => by
  have hn := sp_ne c m
  by_cases hd : d = c
  ·rw [List.cons_append, sp, if_pos hd]
   rw [sp, if_pos hd] at h
   rcases O with _ | ⟨y, O⟩
   ·simp at h
    exact absurd h.2 hn
   ·simp at h
    obtain ⟨rfl, h⟩ := h
    rw [sp_snoc c b m O x h]
    split <;> rfl
  ·rw [List.cons_append, sp, if_neg hd]
   rw [sp, if_neg hd] at h
   rcases hs : sp c m with _ | ⟨y, r⟩
   ·exact absurd hs hn
   ·rw [hs] at h
    rcases O with _ | ⟨z, O⟩
    ·simp at h
     obtain ⟨rfl, rfl⟩ := h
     rw [sp_snoc c b m [] y hs]
     by_cases hbc : b = c
     ·rw [if_pos hbc, if_pos hbc]; rfl
     ·rw [if_neg hbc, if_neg hbc]; rfl
    ·simp at h
     obtain ⟨rfl, rfl⟩ := h
     rw [sp_snoc c b m (y :: O) x (by rw [hs]; rfl)]
     by_cases hbc : b = c
     ·rw [if_pos hbc, if_pos hbc]; rfl
     ·rw [if_neg hbc, if_neg hbc]; rfl
def spS (c : UInt8) (l : List UInt8) : Nat → List (List UInt8) × Nat
 | 0 => ([], 0)
 | k + 1 => if l.getD k 0 = c then ((spS c l k).1 ++ [(l.take k).drop (spS c l k).2], k + 1) else spS c l k
theorem spS_le (c : UInt8) (l : List UInt8) : ∀ k, (spS c l k).2 ≤ k
 | 0 => Nat.le_refl _
 | k + 1 => by
  unfold spS
  split
  ·exact Nat.le_refl _
  ·exact Nat.le_succ_of_le (spS_le c l k)
theorem spS_len (c : UInt8) (l : List UInt8) : ∀ k, (spS c l k).1.length ≤ k
 | 0 => Nat.le_refl _
 | k + 1 => by
  have := spS_len c l k
  unfold spS
  split
  ·simp; omega
  ·omega
theorem spS_spec (c : UInt8) (l : List UInt8) : ∀ k, k ≤ l.length → sp c (l.take k) = (spS c l k).1 ++ [(l.take k).drop (spS c l k).2]
 | 0, _ => by simp [sp, spS]
 | k + 1, hk => by
  have ih := spS_spec c l k (by omega)
  have hle := spS_le c l k
  have ht : l.take (k + 1) = l.take k ++ [l.getD k 0] := by rw [List.take_succ_eq_append_getElem (by omega), getD_at (by omega)]
  rw [ht, sp_snoc c _ _ _ _ ih, spS]
  split
  ·have hl : (l.take k ++ [l.getD k 0]).length = k + 1 := by rw [List.length_append, List.length_take, List.length_singleton]; omega
   rw [← hl, List.drop_length]
   simp
  ·rw [List.drop_append_of_le_length (by rw [List.length_take]; omega)]
theorem tx_self (s : ByteArray) : tx s.data.toList = s := rfl
theorem tx_extract (s : ByteArray) (f k : Nat) : s.extract f k = tx ((s.data.toList.take k).drop f) := by
 apply ByteArray.ext
 apply Array.toList_inj.1
 rw [Lib.extract_data]
 show _ = (s.data.toList.take k).drop f
 rw [List.drop_take]
theorem bt_byte (s : ByteArray) {k : Nat} (hk : k < s.size) (c : UInt8) : (bt s k == (c.toNat : Int)) = decide (s.data.toList.getD k 0 = c) := by
 rw [bt_list s hk, Bool.eq_iff_iff, beq_iff_eq, decide_eq_true_eq, Int.natCast_inj]
 exact UInt8.toNat_inj
set_option maxRecDepth 20000 in
set_option maxHeartbeats 6400000 in
theorem s_l01Split (s : ByteArray) (c : UInt8) (w : World) (hs : s.size ≤ 1048576) :
  Calls Tryz.prog 194 #[.string s, .int .u8 c.toNat] w fun e w' => ∃ v, e = .returned v ∧ OwS w' w.heap.size v (sp c s.data.toList) ∧ Ext w w' := by
 have hsl := size_list s
 obtain ⟨l, hl⟩ : ∃ l, l = s.data.toList := ⟨_, rfl⟩
 obtain ⟨n, hn⟩ : ∃ n, n = s.size := ⟨_, rfl⟩
 rw [← hl, ← hn] at hsl
 rw [← hl]
 have HL := hI hl
 have HSL := hI hsl
 have HN := hI hn
 have HFin : Hid (sp c l = (spS c l n).1 ++ [(l.take n).drop (spS c l n).2]) := hI (by
  have := spS_spec c l n (by rw [HSL.out]; exact Nat.le_refl _)
  have ht : l.take n = l := List.take_of_length_le (by rw [HSL.out]; exact Nat.le_refl _)
  rw [ht] at this ⊢
  exact this)
 have hns : n ≤ 1048576 := by rw [hn]; exact hs
 have hlen : s.size = n := hn.symm
 have HV0 := hI (World.ownsRow_made (base := w.heap.size) (e := 9) (size := 1) w #[] 0 (Nat.le_refl _) (Nat.zero_le _) rfl : OwS _ w.heap.size _ (spS c l 0).1)
 clear hsl hl hn hs
 go_enter Tryz.func194, Tryz.ntmps194
 go_wp2
 go_loopw [5, 6, 7] (fun v f i wr => ∃ k : Nat, k ≤ n + 1 ∧ i = .int .i64 k ∧ (k ≤ n → f = .int .i64 (spS c l k).2 ∧ Hid (OwS wr w.heap.size v (spS c l k).1)) ∧ (k = n + 1 → Hid (OwS wr w.heap.size v (sp c l)) ∧ ∃ z : Int, f = .int .i64 z) ∧ Ext w wr) (fun _ _ i _ => n + 1 - (intOf i).toNat)
 case atStart => exact ⟨0, by omega, rfl, fun _ => ⟨rfl, HV0⟩, fun h => by omega, xA xR⟩
 case round =>
  obtain ⟨k, hk, rfl, h1, h2, hxr⟩ := hrel
  have hsr := hxr.size
  by_cases hle : k ≤ n
  ·obtain ⟨rfl, HV⟩ := h1 hle
   have hfl := spS_le c l k
   have hol := spS_len c l k
   have HOL := hI hol
   have hex := tx_extract s (spS c l k).2 k
   rw [← HL.out] at hex
   have HNX : Hid (spS c l (k + 1) = if l.getD k 0 = c then ((spS c l k).1 ++ [(l.take k).drop (spS c l k).2], k + 1) else spS c l k) := hI rfl
   have HFK : Hid (k = n → sp c l = (spS c l k).1 ++ [(l.take k).drop (spS c l k).2]) := hI fun e => by rw [e]; exact HFin.out
   obtain ⟨f, hf⟩ : ∃ f, f = (spS c l k).2 := ⟨_, rfl⟩
   obtain ⟨O, hO⟩ : ∃ O, O = (spS c l k).1 := ⟨_, rfl⟩
   obtain ⟨p, hp⟩ : ∃ p, p = (l.take k).drop (spS c l k).2 := ⟨_, rfl⟩
   rw [← hp] at HFK HNX hex
   rw [← hO] at HFK HNX HV HOL
   rw [← hf] at hfl hex ⊢
   have HF := hI hf
   have HO := hI hO
   clear h1 h2 hol hf hO hp
   by_cases hkn : k = n
   ·have HFK2 := hI (HFK.out hkn)
    subst hkn
    clear HFK HNX
    go_wp2_with (at_builtin; refine wpList_append_sl elS len_encS one_encS rfl _ _ rfl rfl (HV.out.ext (xA xR)) (xs := [p]) rfl (blk_s1 (bN (by omega))) (by have := HOL.out; simp; unfold maxLen; omega) (by have := HOL.out; simp; omega) (by first | omega | (simp; omega)) ?_)
    intro v' w5 hown hgrow _
    rw [← HFK2.out] at hown
    have HV2 := hI hown
    have hx5 : Ext w w5 := by
     refine Ext.grown ?_ hgrow (fun q hq => (HV.out.row q hq).1)
     exact xA hxr
    clear hown hgrow
    go_wp2
    go_roundw
    case rel => exact ⟨k + 1, by omega, by go_num, fun h => by omega, fun _ => ⟨HV2, _, rfl⟩, hx5⟩
    case measure => simp [intOf]; try omega
   ·have hlt : k < n := by omega
    have hks : k < s.size := by omega
    have hkne : ((k : Int) == (n : Int)) = false := beq_false_of_ne (by omega)
    have hb := get_bt s
    have hbb := bt_byte s hks c
    have hbk := hb k hks
    rw [← HL.out] at hbb
    obtain ⟨z, hz⟩ : ∃ z, z = bt s k := ⟨_, rfl⟩
    rw [← hz] at hbb hbk
    by_cases hc : l.getD k 0 = c
    ·have HN2 := hI (HNX.out.trans (if_pos hc))
     rw [decide_eq_true hc] at hbb
     clear HFK HNX hz hb hc
     go_wp2_with (at_builtin; refine wpList_append_sl elS len_encS one_encS rfl _ _ rfl rfl (HV.out.ext (xA xR)) (xs := [p]) rfl (blk_s1 (bN (by omega))) (by have := HOL.out; simp; unfold maxLen; omega) (by have := HOL.out; simp; omega) (by first | omega | (simp; omega)) ?_)
     intro v' w5 hown hgrow _
     have HV2 := hI hown
     have hx5 : Ext w w5 := by
      refine Ext.grown ?_ hgrow (fun q hq => (HV.out.row q hq).1)
      exact xA hxr
     clear hown hgrow
     go_wp2
     go_roundw
     case rel => exact ⟨k + 1, by omega, by go_num, fun _ => ⟨by rw [HN2.out]; go_num, by rw [HN2.out]; exact HV2⟩, fun h => by omega, hx5⟩
     case measure => simp [intOf]; omega
    ·have HN2 := hI (HNX.out.trans (if_neg hc))
     rw [decide_eq_false hc] at hbb
     clear HFK HNX hz hb hc
     go_wp2
     go_roundw
     case rel => exact ⟨k + 1, by omega, by go_num, fun _ => ⟨by rw [HN2.out, HF.out], by rw [HN2.out, ← HO.out]; exact hI (HV.out.ext xR)⟩, fun h => by omega, hxr⟩
     case measure => simp [intOf]; omega
  ·have hkn : k = n + 1 := by omega
   obtain ⟨HV, z, rfl⟩ := h2 hkn
   clear h1 h2
   subst hkn
   go_wp2
   go_ret
   exact ⟨_, rfl, HV.out, hxr⟩
def smL (l : List UInt8) (lo hi : Int) : Bool := inB l.length lo hi && l.all lowB
theorem smB_tx (l : List UInt8) (lo hi : Int) : smB (tx l) lo hi = smL l lo hi := by unfold smB smL; rw [tx_size, tx_list]
theorem smB_list (s : ByteArray) (lo hi : Int) : smB s lo hi = smL s.data.toList lo hi := by unfold smB smL; rw [size_list]
def Mx (w : World) : Prop := ∃ m : Int, w.cell? ⟨0, 0, none⟩ = some (.int .i64 m)
theorem Mx.ext {w w' : World} (h : Mx w) (hx : Ext w w') : Mx w' := by
 obtain ⟨m, hm⟩ := h
 exact ⟨m, (hx.cell _ _ (World.block_lt_of_cell? _ _ hm)).trans hm⟩
theorem flat_S : ∀ L : List ByteArray, (L.map (·.data.toList)).flatMap encS = L.map Value.string
 | [] => rfl
 | x :: L => by rw [List.map_cons, List.flatMap_cons, flat_S L]; rfl
theorem sp_len_le (c : UInt8) (l : List UInt8) : (sp c l).length ≤ l.length + 1 := by
 have h := spS_spec c l l.length (Nat.le_refl _)
 have := spS_len c l l.length
 rw [List.take_length] at h
 rw [h, List.length_append, List.length_singleton]
 omega
theorem sp_mem (c : UInt8) (l : List UInt8) {x : List UInt8} (h : x ∈ sp c l) : x.length ≤ l.length := by
 induction l generalizing x with
 | nil => simp [sp] at h; subst h; simp
 | cons b l ih =>
  unfold sp at h
  split at h
  ·rcases List.mem_cons.1 h with e | e
   ·subst e; simp
   ·have := ih e; simp; omega
  ·split at h
   ·rename_i e
    exact absurd e (sp_ne c l)
   ·rename_i y r e
    rcases List.mem_cons.1 h with e' | e'
    ·subst e'
     have := ih (x := y) (by rw [e]; simp)
     simp; omega
    ·have := ih (x := x) (by rw [e]; simp [e'])
     simp; omega
set_option maxHeartbeats 1600000 in
theorem i_Split (s : ByteArray) (c : UInt8) (w : World) (hs : s.size ≤ 1048576) (hm : Mx w) :
  Calls Tryz.prog 196 #[.string s, .string ⟨#[c]⟩] w fun e w' => ∃ g c', e = .returned (.slice (some ⟨g, 0, none⟩) (sp c s.data.toList).length c') ∧ SlAt w' 1 encS (some ⟨g, 0, none⟩) (sp c s.data.toList) ∧ w.heap.size ≤ g ∧ (sp c s.data.toList).length ≤ c' ∧ Ext w w' := by
 obtain ⟨m, hm⟩ := hm
 have h1 : (⟨#[c]⟩ : ByteArray).size = 1 := rfl
 have hd : (⟨#[c]⟩ : ByteArray).data.toList = [c] := rfl
 have he : (Lib.splitB ⟨#[c]⟩ 0 (Lib.countB s ⟨#[c]⟩) s).map (·.data.toList) = sp c s.data.toList := by rw [Lib.splitB_data, hd, Lib.countB, hd]; exact splitK_sp c _
 have hl : Lib.countB s ⟨#[c]⟩ + 1 = (sp c s.data.toList).length := by rw [← he, List.length_map, Lib.splitB_all _ (by rw [h1]; exact Nat.le_refl _) 0 _ s rfl]
 refine (Tryz.strings_Split s ⟨#[c]⟩ m w (by omega) hm (by rw [h1]; exact Nat.le_refl _)).mono ?_
 rintro e w' ⟨rfl, rfl⟩
 rw [hl]
 refine ⟨w.heap.size, _, rfl, ?_, Nat.le_refl _, Nat.le_refl _, (Ext.refl w).alloc _⟩
 refine SlAt.block (heap_at rfl) ?_ len_encS
 rw [← he, flat_S]
theorem i_wordsOf (s : ByteArray) (w : World) (hs : s.size ≤ 1048576) (hm : Mx w) :
  Calls Tryz.prog 193 #[.string s] w fun e w' => ∃ g c', e = .returned (.slice (some ⟨g, 0, none⟩) (sp 32 s.data.toList).length c') ∧ SlAt w' 1 encS (some ⟨g, 0, none⟩) (sp 32 s.data.toList) ∧ w.heap.size ≤ g ∧ (sp 32 s.data.toList).length ≤ c' ∧ Ext w w' := by
 have HS := hI (i_Split s 32 w hs hm)
 generalize sp 32 s.data.toList = L at *
 clear hm
 go_enter Tryz.func193, Tryz.ntmps193
 go_wp2_with fail
 refine HS.out.mono ?_
 rintro e w1 ⟨g, c', rfl, hS1, hg1, hc1, hx1⟩
 go_wp2
 go_ret
 exact ⟨g, c', rfl, hS1, hg1, hc1, hx1⟩
set_option maxHeartbeats 1600000 in
theorem i_areWords (A : Option Addr) (n c : Nat) (L : List (List UInt8)) (w : World) (h : SlAt w 1 encS A L) (hn : n = L.length) (hl : n ≤ 1048577) (hL : ∀ k, (L.getD k []).length ≤ 1048576) :
  Calls Tryz.prog 164 #[.slice A n c] w fun e w' => e = .returned (.bool (L.all fun x => smL x 1 16)) ∧ Ext w w' := by
 have HN := hI hn
 have HL := hI hL
 clear hn hL
 go_enter Tryz.func164, Tryz.ntmps164
 go_wp2
 go_loopw [7] (fun i wr => ∃ k : Nat, k ≤ n ∧ i = .int .i64 k ∧ Hid (∀ j, j < k → smL (L.getD j []) 1 16 = true) ∧ Ext w wr) (fun i _ => n - (intOf i).toNat)
 case atStart => exact ⟨0, by omega, rfl, fun j hj => absurd hj (by omega), xR⟩
 case round =>
  obtain ⟨k, hk, rfl, HJ, hxr⟩ := hrel
  by_cases hlt : k < n
  ·have hkn : k < L.length := by rw [← HN.out]; exact hlt
   obtain ⟨b, off, rfl, hb, d0⟩ := (h.ext hxr).st hkn
   have hk1 := HL.out k
   obtain ⟨x, hx⟩ : ∃ x, x = L.getD k [] := ⟨_, rfl⟩
   rw [← hx] at d0 hk1
   have HX := hI hx
   have hcall := fun W => i_IsWord (tx x) W (by rw [tx_size]; omega)
   rw [smB_tx] at hcall
   clear hx
   cases hq : smL x 1 16 with
   | true =>
    rw [hq] at hcall
    have HC := hI hcall
    have HJ2 : Hid (∀ j, j < k + 1 → smL (L.getD j []) 1 16 = true) := hI (fun j hj => by
     rcases Nat.lt_or_ge j k with e | e
     ·exact HJ.out j e
     ·obtain rfl : j = k := by omega
      rw [← HX.out]; exact hq)
    clear hq hcall hk1
    (go_wp2_with fail; refine (HC.out _).mono ?_; rintro e w1 ⟨rfl, hx1⟩; obtain ⟨hc1, hf1, hs1⟩ := hx1.all; (try simp at hs1))
    go_wp2
    go_roundw
    case rel => exact ⟨k + 1, by omega, by go_num, HJ2, xT hxr hx1⟩
    case measure => simp [intOf]; omega
   | false =>
    rw [hq] at hcall
    have HC := hI hcall
    have HF : Hid ((L.all fun x => smL x 1 16) = false) := hI (by
     rw [List.all_eq_false]
     exact ⟨L.getD k [], by simp [List.getD, hkn], by rw [← HX.out, hq]; simp⟩)
    clear hq hcall hk1
    (go_wp2_with fail; refine (HC.out _).mono ?_; rintro e w1 ⟨rfl, hx1⟩; obtain ⟨hc1, hf1, hs1⟩ := hx1.all; (try simp at hs1))
    go_wp2
    go_ret
    exact ⟨ret_bool' HF.out.symm, xT hxr hx1⟩
  ·obtain rfl : k = n := by omega
   go_wp2
   go_ret
   refine ⟨ret_bool' (Eq.symm ?_), hxr⟩
   rw [List.all_eq_true]
   intro x hx
   obtain ⟨j, hj, rfl⟩ := List.mem_iff_getElem.1 hx
   have := HJ.out j (by rw [HN.out]; exact hj)
   simpa [List.getD, hj] using this
def phB (l : List UInt8) : Bool := decide ((sp 32 l).length ≤ 8) && (sp 32 l).all fun x => smL x 1 16
theorem sp_getD (c : UInt8) (l : List UInt8) (k : Nat) : ((sp c l).getD k []).length ≤ l.length := by
 rcases Nat.lt_or_ge k (sp c l).length with e | e
 ·exact sp_mem c l (by simp [List.getD, e])
 ·rw [List.getD_eq_getElem?_getD, List.getElem?_eq_none e]; simp
set_option maxHeartbeats 1600000 in
theorem i_IsPhrase (s : ByteArray) (w : World) (hs : s.size ≤ 1048576) (hm : Mx w) :
  Calls Tryz.prog 187 #[.string s] w fun e w' => e = .returned (.bool (phB s.data.toList)) ∧ Ext w w' := by
 have hsz := size_list s
 have HS := hI fun W h => i_wordsOf s W hs h
 have HMx := hI hm
 have hg := fun k => sp_getD 32 s.data.toList k
 have hq := sp_len_le 32 s.data.toList
 unfold phB
 obtain ⟨L, hL⟩ : ∃ L, L = sp 32 s.data.toList := ⟨_, rfl⟩
 rw [← hL] at HS hg hq ⊢
 obtain ⟨n, hn⟩ : ∃ n, n = L.length := ⟨_, rfl⟩
 rw [← hn] at HS hq ⊢
 have hn1 : n ≤ 1048577 := by omega
 have HG : Hid (∀ k, (L.getD k []).length ≤ 1048576) := hI fun k => by have := hg k; omega
 have HN := hI hn
 have HA := hI fun A c W h => i_areWords A n c L W h HN.out hn1 HG.out
 generalize (L.all fun x => smL x 1 16) = q at *
 clear hm hL hn hg hq hsz
 by_cases h8 : n ≤ 8
 ·have hd : decide ((n : Int) ≤ 8) = true := decide_eq_true (by omega)
  have hd2 : decide (n ≤ 8) = true := decide_eq_true h8
  rw [hd2]
  cases q with
  | true =>
   go_enter Tryz.func187, Tryz.ntmps187
   go_wp2_with fail
   refine (HS.out _ HMx.out).mono ?_
   rintro e w1 ⟨g, c', rfl, hS1, hg1, hc1, hx1⟩
   go_wp2_with fail
   refine (HA.out _ _ _ hS1).mono ?_
   rintro e w2 ⟨rfl, hx2⟩
   go_wp2
   go_ret
   exact ⟨rfl, hx1.trans hx2⟩
  | false =>
   go_enter Tryz.func187, Tryz.ntmps187
   go_wp2_with fail
   refine (HS.out _ HMx.out).mono ?_
   rintro e w1 ⟨g, c', rfl, hS1, hg1, hc1, hx1⟩
   go_wp2_with fail
   refine (HA.out _ _ _ hS1).mono ?_
   rintro e w2 ⟨rfl, hx2⟩
   go_wp2
   go_ret
   exact ⟨rfl, hx1.trans hx2⟩
 ·have hd : decide ((n : Int) ≤ 8) = false := decide_eq_false (by omega)
  have hd2 : decide (n ≤ 8) = false := decide_eq_false h8
  rw [hd2]
  go_enter Tryz.func187, Tryz.ntmps187
  go_wp2_with fail
  refine (HS.out _ HMx.out).mono ?_
  rintro e w1 ⟨g, c', rfl, hS1, hg1, hc1, hx1⟩
  go_wp2
  go_ret
  exact ⟨rfl, hx1⟩
theorem ret_tb {v : Value} {a b : Bool} (h : a = b) : Ending.returned (.tuple #[v, .bool a]) = .returned (.tuple #[v, .bool b]) := by rw [h]
set_option maxHeartbeats 3200000 in
theorem s_l01Phrase (s : ByteArray) (w : World) (hs : s.size ≤ 1048576) :
  Calls Tryz.prog 188 #[.string s] w fun e w' => ∃ v, e = .returned (.tuple #[v, .bool (phB s.data.toList)]) ∧ Ext w w' := by
 have hsz := size_list s
 have HS := hI (s_l01Split s 32 w hs)
 have hg := fun k => sp_getD 32 s.data.toList k
 have hq := sp_len_le 32 s.data.toList
 unfold phB
 obtain ⟨L, hL⟩ : ∃ L, L = sp 32 s.data.toList := ⟨_, rfl⟩
 rw [← hL] at HS hg hq ⊢
 obtain ⟨n, hn⟩ : ∃ n, n = L.length := ⟨_, rfl⟩
 rw [← hn] at hq ⊢
 have hn1 : n ≤ 1048577 := by omega
 have HG : Hid (∀ k, (L.getD k []).length ≤ 1048576) := hI fun k => by have := hg k; omega
 have HN := hI hn
 clear hL hn hg hq hsz
 go_enter Tryz.func188, Tryz.ntmps188
 go_wp2_with fail
 refine HS.out.mono ?_
 rintro e w1 ⟨v, rfl, hO, hx1⟩
 obtain ⟨A, c', rfl, hS1, _, _, _⟩ := hO.sl len_encS
 rw [← HN.out]
 clear hO
 go_wp2
 go_loopw [5] (fun i wr => ∃ k : Nat, k ≤ n ∧ i = .int .i64 k ∧ Hid (∀ j, j < k → smL (L.getD j []) 1 16 = true) ∧ Ext w1 wr) (fun i _ => n - (intOf i).toNat)
 case atStart => exact ⟨0, by omega, rfl, fun j hj => absurd hj (by omega), xR⟩
 case round =>
  obtain ⟨k, hk, rfl, HJ, hxr⟩ := hrel
  by_cases hlt : k < n
  ·have hkn : k < L.length := by rw [← HN.out]; exact hlt
   obtain ⟨b, off, rfl, hb, d0⟩ := (hS1.ext hxr).st hkn
   have hk1 := HG.out k
   obtain ⟨x, hx⟩ : ∃ x, x = L.getD k [] := ⟨_, rfl⟩
   rw [← hx] at d0 hk1
   have HX := hI hx
   have hcall := fun W => s_IsWord (tx x) W (by rw [tx_size]; omega)
   rw [smB_tx] at hcall
   clear hx
   cases hq : smL x 1 16 with
   | true =>
    rw [hq] at hcall
    have HC := hI hcall
    have HJ2 : Hid (∀ j, j < k + 1 → smL (L.getD j []) 1 16 = true) := hI (fun j hj => by
     rcases Nat.lt_or_ge j k with e | e
     ·exact HJ.out j e
     ·obtain rfl : j = k := by omega
      rw [← HX.out]; exact hq)
    clear hq hcall hk1
    (go_wp2_with fail; refine (HC.out _).mono ?_; rintro e w2 ⟨rfl, hx2⟩; obtain ⟨hc2, hf2, hs2⟩ := hx2.all; (try simp at hs2))
    go_wp2
    go_roundw
    case rel => exact ⟨k + 1, by omega, by go_num, HJ2, xT hxr hx2⟩
    case measure => simp [intOf]; omega
   | false =>
    rw [hq] at hcall
    have HC := hI hcall
    have HF : Hid ((L.all fun x => smL x 1 16) = false) := hI (by
     rw [List.all_eq_false]
     exact ⟨L.getD k [], by simp [List.getD, hkn], by rw [← HX.out, hq]; simp⟩)
    clear hq hcall hk1
    (go_wp2_with fail; refine (HC.out _).mono ?_; rintro e w2 ⟨rfl, hx2⟩; obtain ⟨hc2, hf2, hs2⟩ := hx2.all; (try simp at hs2))
    go_wp2
    go_ret2
    exact ⟨_, ret_tb (by rw [HF.out, Bool.and_false]), xT (xT hx1 hxr) hx2⟩
  ·obtain rfl : k = n := by omega
   have HT : Hid ((L.all fun x => smL x 1 16) = true) := hI (by
    rw [List.all_eq_true]
    intro x hx
    obtain ⟨j, hj, rfl⟩ := List.mem_iff_getElem.1 hx
    have := HJ.out j (by rw [HN.out]; exact hj)
    simpa [List.getD, hj] using this)
   have hd : decide (k ≤ 8) = decide ((k : Int) ≤ 8) := by rw [Bool.eq_iff_iff, decide_eq_true_eq, decide_eq_true_eq]; omega
   have HD := hI hd
   clear hd
   go_wp2
   go_ret2
   exact ⟨_, ret_tb (by rw [HT.out, Bool.and_true, HD.out]), hx1.trans hxr⟩
theorem s_IsPhrase (s : ByteArray) (w : World) (hs : s.size ≤ 1048576) :
  Calls Tryz.prog 178 #[.string s] w fun e w' => e = .returned (.bool (phB s.data.toList)) ∧ Ext w w' := by
 go_enter Tryz.func178, Tryz.ntmps178
 go_wp2_with fail
 refine (s_l01Phrase s _ hs).mono ?_
 rintro e w1 ⟨v, rfl, hx1⟩
 go_wp2
 go_ret
 exact ⟨rfl, hx1⟩
theorem i_isLanguage (s : ByteArray) (w : World) (hs : s.size ≤ 1048576) :
  Calls Tryz.prog 89 #[.string s] w fun e w' => e = .returned (.bool (smL s.data.toList 2 3)) ∧ Ext w w' := by
 have h := i_isSmall s 2 3 w (by omega)
 rw [smB_list] at h
 have HH := hI h
 clear h
 go_enter Tryz.func89, Tryz.ntmps89
 (go_wp2_with fail; refine (HH.out).mono ?_; rintro e w1 ⟨rfl, hx1⟩; obtain ⟨hc1, hf1, hs1⟩ := hx1.all; (try simp at hs1))
 go_wp2
 go_ret
 exact ⟨rfl, hx1⟩
set_option maxHeartbeats 1600000 in
theorem s_l03Lower (s : ByteArray) (lo hi : Int) (w : World) (hs : s.size ≤ 140737488351232) :
  Calls Tryz.prog 140 #[.string s, .int .i64 lo, .int .i64 hi] w fun e w' => e = .returned (.bool (smB s lo hi)) ∧ Ext w w' := by
 go_enter Tryz.func140, Tryz.ntmps140
 go_wp2
 go_loop [7] (fun i => ∃ k : Nat, k ≤ s.size ∧ i = .int .i64 k ∧ Hid (∀ j, j < k → 97 ≤ bt s j ∧ bt s j ≤ 122)) (fun i => s.size - (intOf i).toNat)
 case atStart => exact ⟨0, by omega, rfl, fun j hj => absurd hj (by omega)⟩
 case round =>
  obtain ⟨k, hk, rfl, HJ⟩ := hrel
  by_cases hlt : k < s.size
  ·have hb := get_bt s
   have hNo := all_low_no hlt
   have hz0 := bt_nonneg s k
   obtain ⟨z, hz⟩ : ∃ z, z = bt s k := ⟨_, rfl⟩
   have HZ := hI hz
   rw [← hz] at hNo hz0
   by_cases h1 : z < 97
   ·have HF := hI (hNo (by omega))
    have hd1 : decide (z < 97) = true := decide_eq_true h1
    have hbk := hb k hlt
    rw [← hz] at hbk
    clear hNo hz hb
    go_wp2
    go_ret
    refine ⟨ret_bool' ?_, Ext.refl _⟩
    unfold smB
    rw [HF.out, Bool.and_false]
   ·have hd1 : decide (z < 97) = false := decide_eq_false h1
    by_cases h2 : 122 < z
    ·have HF := hI (hNo (by omega))
     have hd2 : decide (122 < z) = true := decide_eq_true h2
     have hbk := hb k hlt
     rw [← hz] at hbk
     clear hNo hz hb
     go_wp2
     go_ret
     refine ⟨ret_bool' ?_, Ext.refl _⟩
     unfold smB
     rw [HF.out, Bool.and_false]
    ·have hd2 : decide (122 < z) = false := decide_eq_false h2
     have hbk := hb k hlt
     rw [← hz] at hbk
     clear hNo hz hb
     go_wp2
     go_round
     case rel =>
      refine ⟨k + 1, by omega, by go_num, fun j hj => ?_⟩
      rcases Nat.lt_or_ge j k with c | c
      ·exact HJ.out j c
      ·obtain rfl : j = k := by omega
       rw [← HZ.out]; omega
     case measure => simp [intOf]; omega
  ·obtain rfl : k = s.size := by omega
   have HA := hI (all_low.2 HJ.out)
   (go_wp2_with fail; refine (l01In_any _ _ _ _).mono ?_; rintro e w' ⟨rfl, rfl⟩)
   go_wp2
   go_ret
   refine ⟨ret_bool' ?_, Ext.refl _⟩
   unfold smB
   rw [HA.out, Bool.and_true]
theorem s_l09Language (s : ByteArray) (w : World) (hs : s.size ≤ 1048576) :
  Calls Tryz.prog 96 #[.string s] w fun e w' => e = .returned (.bool (smL s.data.toList 2 3)) ∧ Ext w w' := by
 have h := s_l03Lower s 2 3 w (by omega)
 rw [smB_list] at h
 have HH := hI h
 clear h
 go_enter Tryz.func96, Tryz.ntmps96
 (go_wp2_with fail; refine (HH.out).mono ?_; rintro e w1 ⟨rfl, hx1⟩; obtain ⟨hc1, hf1, hs1⟩ := hx1.all; (try simp at hs1))
 go_wp2
 go_ret
 exact ⟨rfl, hx1⟩
end Go.Proofs.YtlnliajnipniaaaGreatDoor
