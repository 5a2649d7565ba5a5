/- Plain laws of numbers as texts: a numeral, read back; a text cut at a byte. -/
import Derived.Test.YtdbheipjbjcikaaGreatDoorTS
import Derived.Lib.ParseIntBCases
import Derived.Lib.IndexMore
namespace Go.Proofs.YtdbheipjbjcikaaGreatDoor
open Go.Lib (decDigits itoa parseUintM parseUintB parseIntB NumEnd cut index)

theorem dig_byte {k : Nat} (h : k < 10) : (UInt8.ofNat (48 + k)).toNat = 48 + k := by rw [UInt8.toNat_ofNat']; omega
theorem dec_rec {n : Nat} (h : ¬ n < 10) : decDigits n = decDigits (n / 10) ++ [UInt8.ofNat (48 + n % 10)] := by rw [decDigits, dif_neg h]
/-- a decimal digit -/
def dgB (b : UInt8) : Bool := decide (48 ≤ b.toNat) && decide (b.toNat ≤ 57)
theorem dgB_dig {k : Nat} (h : k < 10) : dgB (UInt8.ofNat (48 + k)) = true := by simp [dgB]; omega
theorem dec_dig (n : Nat) : ∀ b ∈ decDigits n, dgB b = true := by
  induction n using Nat.strongRecOn with
  | _ n ih =>
    intro b hb
    by_cases h : n < 10
    · rw [Lib.decDigits_one h, List.mem_singleton] at hb
      subst hb
      exact dgB_dig h
    · rw [dec_rec h, List.mem_append, List.mem_singleton] at hb
      rcases hb with hb | rfl
      · exact ih _ (by omega) b hb
      · exact dgB_dig (Nat.mod_lt _ (by omega))
theorem dec_len_pow : ∀ (k n : Nat), 1 ≤ k → n < 10 ^ k → (decDigits n).length ≤ k
  | 0, n, h, _ => by omega
  | 1, n, _, h => by rw [Lib.decDigits_one (by simpa using h)]; simp
  | k + 2, n, _, h => by
    by_cases hs : n < 10
    · rw [Lib.decDigits_one hs]; simp
    · rw [dec_rec hs, List.length_append, List.length_singleton]
      have := dec_len_pow (k + 1) (n / 10) (by omega) (by rw [Nat.pow_succ] at h; omega)
      omega
theorem dec_ne (n : Nat) : decDigits n ≠ [] := by
  by_cases h : n < 10
  · rw [Lib.decDigits_one h]; simp
  · rw [dec_rec h]; simp
/-- the number that digits spell -/
def valD (l : List UInt8) : Nat := l.foldl (fun a b => 10 * a + (b.toNat - 48)) 0
theorem valD_snoc (l : List UInt8) (b : UInt8) : valD (l ++ [b]) = 10 * valD l + (b.toNat - 48) := by unfold valD; rw [List.foldl_append]; rfl
theorem valD_dec (n : Nat) : valD (decDigits n) = n := by
  induction n using Nat.strongRecOn with
  | _ n ih =>
    by_cases h : n < 10
    · rw [Lib.decDigits_one h]
      simp [valD]
      omega
    · rw [dec_rec h, valD_snoc, ih _ (by omega), dig_byte (Nat.mod_lt _ (by omega))]
      omega
theorem dec_inj {a b : Nat} (h : decDigits a = decDigits b) : a = b := by rw [← valD_dec a, h, valD_dec]
theorem valD_acc : ∀ (l : List UInt8) (a : Nat), l.all dgB = true → l.foldl (fun a b => 10 * a + (b.toNat - 48)) a < (a + 1) * 10 ^ l.length
  | [], a, _ => by simp
  | b :: l, a, h => by
    rw [List.all_cons, Bool.and_eq_true] at h
    have hb := h.1
    simp [dgB] at hb
    have := valD_acc l (10 * a + (b.toNat - 48)) h.2
    rw [List.foldl_cons, List.length_cons, Nat.pow_succ]
    have h2 : (10 * a + (b.toNat - 48) + 1) * 10 ^ l.length ≤ (a + 1) * 10 * 10 ^ l.length := Nat.mul_le_mul_right _ (by omega)
    rw [Nat.mul_assoc (a + 1), Nat.mul_comm 10 (10 ^ l.length)] at h2
    exact Nat.lt_of_lt_of_le this h2
theorem valD_lt (l : List UInt8) (h : l.all dgB = true) : valD l < 10 ^ l.length := by
  have := valD_acc l 0 h
  unfold valD
  omega
theorem dec_head (n : Nat) : (decDigits n).head? ≠ some 45 := by
  intro h
  have := dec_dig n 45 (List.mem_of_mem_head? h)
  simp [dgB] at this
theorem itoa_inj {a b : Int} (h : itoa a = itoa b) : a = b := by
  by_cases ha : a < 0
  · by_cases hb : b < 0
    · rw [itoa_neg ha, itoa_neg hb] at h
      have := dec_inj (List.cons.inj h).2
      omega
    · rw [itoa_neg ha, itoa_nat hb] at h
      exact absurd (by rw [← h]; rfl) (dec_head b.natAbs)
  · by_cases hb : b < 0
    · rw [itoa_nat ha, itoa_neg hb] at h
      exact absurd (by rw [h]; rfl) (dec_head a.natAbs)
    · rw [itoa_nat ha, itoa_nat hb] at h
      have := dec_inj h
      omega
theorem itoa_mem {n : Int} {b : UInt8} (h : b ∈ itoa n) : b = 45 ∨ dgB b = true := by
  by_cases hn : n < 0
  · rw [itoa_neg hn, List.mem_cons] at h
    exact h.imp_right (dec_dig _ _)
  · rw [itoa_nat hn] at h
    exact .inr (dec_dig _ _ h)
theorem itoa_free {n : Int} {c : UInt8} (h : c ≠ 45) (h2 : dgB c = false) : c ∉ itoa n := fun hm => by
  rcases itoa_mem hm with e | e
  · exact h e
  · rw [h2] at e; cases e
theorem pu_snoc (M : Nat) : ∀ (l : List UInt8) (acc : Nat) (c : UInt8) (u : Nat), parseUintM M acc l = .ok u → parseUintM M acc (l ++ [c]) = parseUintM M u [c]
  | [], acc, c, u, h => by
    simp only [parseUintM] at h
    injection h with h
    subst h
    rfl
  | b :: l, acc, c, u, h => by
    rw [List.cons_append, parseUintM]
    rw [parseUintM] at h
    split at h
    · rename_i h1
      rw [if_pos h1]
      split at h
      · cases h
      · rename_i h2
        rw [if_neg h2]
        split at h
        · cases h
        · rename_i h3
          rw [if_neg h3]
          exact pu_snoc M l _ c u h
    · cases h
theorem pu_dec (n : Nat) : n ≤ 1000000000000000 → parseUintM (2 ^ 64 - 1) 0 (decDigits n) = .ok n := by
  induction n using Nat.strongRecOn with
  | _ n ih =>
    intro hn
    by_cases h : n < 10
    · rw [Lib.decDigits_one h, parseUintM, dig_byte h, if_pos (by omega), if_neg (by omega), if_neg (by omega), parseUintM]
      congr 1
      omega
    · have hd := dig_byte (k := n % 10) (Nat.mod_lt _ (by omega))
      rw [dec_rec h, pu_snoc _ _ _ _ _ (ih (n / 10) (by omega) (by omega)), parseUintM, hd, if_pos (by omega), if_neg (by omega), if_neg (by omega), parseUintM]
      congr 1
      omega
theorem parse_itoa {n : Int} (h : Num n) : parseIntB 64 (itoa n) = .ok n := by
  unfold Num at h
  by_cases hn : n < 0
  · rw [itoa_neg hn, Lib.parseIntB_minus, parseUintB, if_neg (dec_ne _), pu_dec _ (by omega), Lib.signedC, if_neg (by omega)]
    congr 1
    omega
  · rw [itoa_nat hn]
    have hp := pu_dec n.natAbs (by omega)
    have hne := dec_ne n.natAbs
    have hdig := dec_dig n.natAbs
    generalize decDigits n.natAbs = l at *
    rcases l with _ | ⟨c, r⟩
    · exact absurd rfl hne
    · have hc := hdig c (List.mem_cons_self ..)
      simp [dgB] at hc
      rw [Lib.parseIntB_plain _ _ _ (by omega) (by omega), parseUintB, if_neg hne, hp, Lib.signlessC, if_neg (by omega)]
      congr 1
      omega
theorem sp_free {c : UInt8} : ∀ {l : List UInt8}, c ∉ l → sp c l = [l]
  | [], _ => rfl
  | b :: l, h => by
    simp only [List.mem_cons, not_or] at h
    rw [sp, if_neg (fun e => h.1 e.symm), sp_free h.2]
theorem sp_cut {c : UInt8} : ∀ {a : List UInt8} (b : List UInt8), c ∉ a → sp c (a ++ c :: b) = a :: sp c b
  | [], b, _ => by rw [List.nil_append, sp, if_pos rfl]
  | x :: a, b, h => by
    simp only [List.mem_cons, not_or] at h
    rw [List.cons_append, sp, if_neg (fun e => h.1 e.symm), sp_cut b h.2]
theorem cut_hit {c : UInt8} {a : List UInt8} (b : List UInt8) (h : c ∉ a) : cut (a ++ c :: b) [c] = (a, b, true) := by
  have hi : ∀ a : List UInt8, c ∉ a → index (a ++ c :: b) [c] = a.length := by
    intro a
    induction a with
    | nil => intro _; rw [List.nil_append, index]; simp [List.isPrefixOf]
    | cons x a ih =>
      intro h
      simp only [List.mem_cons, not_or] at h
      rw [List.cons_append, index, ih h.2]
      have : ([c] : List UInt8).isPrefixOf (x :: (a ++ c :: b)) = false := by simp [List.isPrefixOf, h.1]
      rw [this]
      have hne : ((a.length : Int) == -1) = false := by simp
      rw [hne]
      simp
  unfold cut
  rw [hi a h, if_pos (by omega)]
  simp
theorem cut_no {c : UInt8} {l : List UInt8} (h : (cut l [c]).2.2 = false) : (cut l [c]).2.1 = [] := by
  unfold cut at *
  split at h
  · cases h
  · rename_i h1; rw [if_neg h1]
theorem cut_yes {c : UInt8} {l : List UInt8} (h : (cut l [c]).2.2 = true) : l = (cut l [c]).1 ++ c :: (cut l [c]).2.1 := by
  unfold cut at *
  split at h
  · rename_i h1
    rw [if_pos h1]
    rcases Lib.index_spec l [c] with ⟨e, _⟩ | ⟨i, e, hi, ho, _⟩
    · omega
    · rw [e]
      simp only [Int.toNat_natCast, List.length_singleton]
      have hd : ([c] : List UInt8).isPrefixOf (l.drop i) = true := ho
      rcases hl : l.drop i with _ | ⟨x, r⟩
      · rw [hl] at hd; simp [List.isPrefixOf] at hd
      · rw [hl] at hd
        have hx : c = x := by simpa [List.isPrefixOf] using hd
        have h2 : l.drop (i + 1) = r := by rw [← List.drop_drop, hl]; rfl
        rw [h2, hx, ← hl, List.take_append_drop]
  · cases h
theorem cut_size {c : UInt8} (l : List UInt8) : (cut l [c]).1.length ≤ l.length ∧ (cut l [c]).2.1.length ≤ l.length := by
  unfold cut
  split
  · simp; omega
  · simp
theorem colon_free (n : Int) : (58 : UInt8) ∉ itoa n := itoa_free (by decide) (by decide)
theorem sp_ptT (x z : Int) : sp 58 (ptT x z) = [itoa x, itoa z] := by unfold ptT; rw [sp_cut _ (colon_free x), sp_free (colon_free z)]
theorem cut_ptT (x z : Int) : cut (ptT x z) [58] = (itoa x, itoa z, true) := by unfold ptT; exact cut_hit _ (colon_free x)
theorem ptT_inj {x z x' z' : Int} (h : ptT x z = ptT x' z') : x = x' ∧ z = z' := by
  have := congrArg (fun l => sp 58 l) h
  simp only [sp_ptT] at this
  simp only [List.cons.injEq, and_true] at this
  exact ⟨itoa_inj this.1, itoa_inj this.2⟩
theorem ptT_free {x z : Int} {c : UInt8} (h : c ≠ 45) (h1 : c ≠ 58) (h2 : dgB c = false) : c ∉ ptT x z := by
  unfold ptT
  rw [List.mem_append, List.mem_cons]
  rintro (e | e | e)
  · exact itoa_free h h2 e
  · exact h1 e
  · exact itoa_free h h2 e
end Go.Proofs.YtdbheipjbjcikaaGreatDoor
