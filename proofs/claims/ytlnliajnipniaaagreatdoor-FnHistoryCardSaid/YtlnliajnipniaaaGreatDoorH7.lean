/- The plain laws of parents and ways up. The laws' helpers over texts and links. The roots of links in a year, as the specification tells them. Plain laws of steady spans: where a span ends a turn lies, unless the years end. No program in sight. The laws' helpers over lists of numbers. -/
import Derived.Test.YtlnliajnipniaaaGreatDoorW2
import Derived.Test.YtlnliajnipniaaaGreatDoorY0
namespace Go.Proofs.YtlnliajnipniaaaGreatDoor
open Go.RowKit
section
variable {α : Type} [DecidableEq α] {p : α → Option α}
end
end Go.Proofs.YtlnliajnipniaaaGreatDoor
namespace Go.Proofs.YtlnliajnipniaaaGreatDoor
open Go.RowKit
attribute [local go_sem] ExtOf.cell ExtOf.frozen
theorem l_bigQ (A : Option Addr) (c : Nat) (n : Nat) (w : World) : Calls Tryz.prog 4 #[.slice A n c] w fun e w' => e = .returned (.bool (decide (4096 < n))) ∧ w = w' := by
 go_enter Tryz.func4, Tryz.ntmps4
 go_wp2
 go_ret
 exact ⟨ret_bool' (by rw [decide_eq_decide]; omega), rfl⟩
end Go.Proofs.YtlnliajnipniaaaGreatDoor
namespace Go.Proofs.YtlnliajnipniaaaGreatDoor
open Go.RowKit
theorem sd_low {d : Pd} {L : List Lk} {y a : Int} (h1 : sbP d L y a = true) (h2 : sbP d L y (a - 1) = false) : sdB d L a = false := by
 unfold sbP at h1 h2
 rw [Bool.and_eq_true] at h1
 cases he : exB d (a - 1) with
 | true =>
  rw [he, Bool.true_and] at h2
  rw [sdB_both h1.1 he]
  cases hs : stB d L a (a - 1) with
  | false => rfl
  | true =>
   have := stB_trans (c := y) hs
   rw [h1.2, h2] at this
   cases this
 | false =>
  rw [sdB_not (by rw [he, Bool.and_false]), h1.1, he]
  rfl
theorem sd_high {d : Pd} {L : List Lk} {y b : Int} (h1 : sbP d L y b = true) (h2 : sbP d L y (b + 1) = false) : sdB d L (b + 1) = false := by
 unfold sbP at h1 h2
 rw [Bool.and_eq_true] at h1
 have e : b + 1 - 1 = b := by omega
 cases he : exB d (b + 1) with
 | true =>
  rw [he, Bool.true_and] at h2
  rw [sdB_both he (by rw [e]; exact h1.1), e]
  cases hs : stB d L (b + 1) b with
  | false => rfl
  | true =>
   have := stB_trans (c := y) hs
   rw [h1.2, h2] at this
   cases this
 | false =>
  rw [sdB_not (by rw [he, Bool.false_and]), e, h1.1, he]
  rfl
theorem tr_mem {d : Pd} {L : List Lk} {z : Int} (h : sdB d L z = false) (h1 : -3000 ≤ z) (h2 : z ≤ 3000) : z ∈ trL d L := by
 unfold trL trTo
 refine List.mem_map.2 ⟨(z + 3000).toNat, List.mem_filter.2 ⟨List.mem_range.2 (by omega), ?_⟩, by omega⟩
 rw [show (((z + 3000).toNat : Nat) : Int) + -3000 = z by omega, h]
 rfl
theorem lo_ex {P : Int → Bool} {y : Int} (hy : P y = true) (f : Int) (hf : ∀ z, z < f → P z = false) : ∃ a, LoE P y a := by
 have hk : ∀ n : Nat, ∀ a : Int, a ≤ y → (∀ z, a ≤ z → z ≤ y → P z = true) → a - f < n → ∃ a, LoE P y a := by
  intro n
  induction n with
  | zero =>
   intro a h1 h2 h3
   have := hf a (by omega)
   rw [h2 a (by omega) h1] at this
   cases this
  | succ n ih =>
   intro a h1 h2 h3
   cases hp : P (a - 1) with
   | false => exact ⟨a, h1, h2, hp⟩
   | true =>
    refine ih (a - 1) (by omega) (fun z hz1 hz2 => ?_) (by omega)
    by_cases e : z = a - 1
    ·rw [e]; exact hp
    ·exact h2 z (by omega) hz2
 exact hk (y - f + 1).toNat y (by omega) (fun z h1 h2 => by rw [show z = y by omega]; exact hy) (by omega)
theorem hi_ex {P : Int → Bool} {y : Int} (hy : P y = true) (t : Int) (ht : ∀ z, t < z → P z = false) : ∃ a, HiE P y a := by
 have hk : ∀ n : Nat, ∀ a : Int, y ≤ a → (∀ z, y ≤ z → z ≤ a → P z = true) → t - a < n → ∃ a, HiE P y a := by
  intro n
  induction n with
  | zero =>
   intro a h1 h2 h3
   have := ht a (by omega)
   rw [h2 a h1 (by omega)] at this
   cases this
  | succ n ih =>
   intro a h1 h2 h3
   cases hp : P (a + 1) with
   | false => exact ⟨a, h1, h2, hp⟩
   | true =>
    refine ih (a + 1) (by omega) (fun z hz1 hz2 => ?_) (by omega)
    by_cases e : z = a + 1
    ·rw [e]; exact hp
    ·exact h2 z hz1 (by omega)
 exact hk (t - y + 1).toNat y (by omega) (fun z h1 h2 => by rw [show z = y by omega]; exact hy) (by omega)
theorem steady_law {D : List Pd} {L : List Lk} {x : List UInt8} {y : Int} (h : ssC D L x true y = 0) :
  (trC D L x = 0 ∨ trC D L x = 3) ∧ ssA D L x y ≤ y ∧ y ≤ ssZ D L x y ∧ (-3000 ≤ ssA D L x y ∧ ssZ D L x y ≤ 3000) ∧
  (trC D L x = 0 → (ssA D L x y ∈ trR D L x ∨ ssA D L x y ≤ -3000) ∧ (ssZ D L x y + 1 ∈ trR D L x ∨ 3000 ≤ ssZ D L x y)) := by
 obtain ⟨hp, he⟩ := ssC_zero h
 obtain ⟨hw, hx, _, _, hf⟩ := plC_zero hp
 have hA : ssA D L x y = loS (sbP ((fndP D x).getD pdD) L y) y := by unfold ssA; rw [if_pos h]
 have hZ : ssZ D L x y = hiS (sbP ((fndP D x).getD pdD) L y) y := by unfold ssZ; rw [if_pos h]
 obtain ⟨k, _, hk, hfk, _⟩ := fnd_some hf
 have hd : (fndP D x).getD pdD = D.getD k pdD := by rw [hfk]; rfl
 rw [hd] at he hA hZ
 have hpl : plB (D.getD k pdD) = true := by
  have := (rgB_iff.1 (wdB_iff.1 hw).1).1 k hk
  unfold okR at this
  rw [Bool.and_eq_true] at this
  exact this.1
 have hsp : spB (D.getD k pdD).2.2.1 (D.getD k pdD).2.2.2.1 = true := by
  unfold plB at hpl
  simp only [Bool.and_eq_true] at hpl
  exact hpl.2.2.1
 have hsp2 := spB_iff.1 hsp
 generalize D.getD k pdD = d at *
 have hy : sbP d L y y = true := by unfold sbP; rw [he, stB_refl]; rfl
 have hex : ∀ z, exB d z = true → d.2.2.1 ≤ z ∧ z ≤ d.2.2.2.1 := fun z hz => by
  unfold exB at hz
  simp [inB] at hz
  omega
 have hout : ∀ z, z < d.2.2.1 ∨ d.2.2.2.1 < z → sbP d L y z = false := fun z hz => by
  unfold sbP
  cases e : exB d z with
  | false => rfl
  | true => have := hex z e; omega
 obtain ⟨a, ha⟩ := lo_ex hy d.2.2.1 (fun z hz => hout z (.inl hz))
 obtain ⟨b, hb⟩ := hi_ex hy d.2.2.2.1 (fun z hz => hout z (.inr hz))
 rw [loS_eq ha] at hA
 rw [hiS_eq hb] at hZ
 have hpa := ha.2.1 a (by omega) ha.1
 have hpb := hb.2.1 b hb.1 (by omega)
 have hea := hex a (by unfold sbP at hpa; exact (Bool.and_eq_true_iff.1 hpa).1)
 have heb := hex b (by unfold sbP at hpb; exact (Bool.and_eq_true_iff.1 hpb).1)
 have h0 : plC D L x true 0 = 0 := by
  unfold plC
  rw [if_pos (wyC_ok hw (by rw [hx]; rfl) (by decide)), if_pos hf]
 refine ⟨?_, by rw [hA]; exact ha.1, by rw [hZ]; exact hb.1, ⟨by rw [hA]; omega, by rw [hZ]; omega⟩, fun ht => ?_⟩
 ·unfold trC
  rw [if_pos h0]
  split
  ·exact .inr rfl
  ·exact .inl rfl
 ·have htr : trR D L x = trL d L := by unfold trR; rw [if_pos ht, hd]
  rw [htr, hA, hZ]
  refine ⟨?_, ?_⟩
  ·by_cases c : a ≤ -3000
   ·exact .inr c
   ·exact .inl (tr_mem (sd_low hpa ha.2.2) (by omega) (by omega))
  ·by_cases c : 3000 ≤ b
   ·exact .inr c
   ·exact .inl (tr_mem (sd_high hpb hb.2.2) (by omega) (by omega))
end Go.Proofs.YtlnliajnipniaaaGreatDoor
namespace Go.Proofs.YtlnliajnipniaaaGreatDoor
open Go.RowKit
attribute [local go_sem] ExtOf.cell ExtOf.frozen
theorem SlAt.nm1 {w : World} {A : Option Addr} {xs : List Int} (h : SlAt w 1 encI A xs) {k : Nat} (hk : k < xs.length) :
  ∃ b off, A = some ⟨b, off, none⟩ ∧ b < w.heap.size ∧ w.cell? ⟨b, off + k, none⟩ = some (.int .i64 (xs.getD k 0)) := by
 obtain ⟨b, off, rfl, hb, hc⟩ := h (by omega)
 refine ⟨b, off, rfl, hb, ?_⟩
 have := h.num hk
 rw [this]
 simp [List.getD, hk]
set_option maxHeartbeats 3200000 in
theorem l_likeInts (A A' : Option Addr) (n c n' c' : Nat) (xs : List Int) (w : World) (h : SlAt w 1 encI A xs) (h' : SlAt w 1 encI A' xs) (hn : n = xs.length) (hn' : n' = xs.length) (hl : n ≤ 1048576) :
  Calls Tryz.prog 17 #[.slice A n c, .slice A' n' c'] w fun e w' => e = .returned (.bool true) ∧ Ext w w' := by
 obtain rfl : n' = n := by rw [hn', hn]
 have hn1 : (((n' : Nat) : Int) != (n' : Int)) = false := by simp
 have HN := hI hn
 clear hn hn'
 go_enter Tryz.func17, Tryz.ntmps17
 go_wp2
 go_loopw [5] (fun i wr => ∃ k : Nat, k ≤ n' ∧ i = .int .i64 k ∧ Ext w wr) (fun i _ => n' - (intOf i).toNat)
 case atStart => exact ⟨0, Nat.zero_le _, rfl, xR⟩
 case round =>
  obtain ⟨k, hk, rfl, hx⟩ := hrel
  by_cases hlt : k < n'
  ·obtain ⟨b, off, rfl, hb, d0⟩ := (h.ext hx).nm1 (k := k) (by rw [← HN.out]; exact hlt)
   obtain ⟨b', off', rfl, hb', e0⟩ := (h'.ext hx).nm1 (k := k) (by rw [← HN.out]; exact hlt)
   generalize xs.getD k 0 = p at *
   have hxx : (p != p) = false := by simp
   go_wp2
   (refine wp_region_ext (by kernel_rfl) (by kernel_rfl) ?_; (repeat (go_big_quiet_step (fail))); refine wpQuiet_nil ?_; intro wq hxwq; obtain ⟨hcwq, hfwq, hswq⟩ := hxwq.all; (try simp at hswq))
   go_wp2
   go_roundw
   case rel => exact ⟨k + 1, by omega, by go_num, xT hx hxwq⟩
   case measure => simp [intOf]; omega
  ·go_wp2
   go_ret
   exact ⟨rfl, hx⟩
set_option maxHeartbeats 3200000 in
theorem l_hasInt (A : Option Addr) (n c : Nat) (xs : List Int) (x : Int) (w : World) (h : SlAt w 1 encI A xs) (hn : n = xs.length) (hl : n ≤ 1048576) :
  Calls Tryz.prog 18 #[.slice A n c, .int .i64 x] w fun e w' => e = .returned (.bool (decide (x ∈ xs))) ∧ Ext w w' := by
 have HN := hI hn
 clear hn
 go_enter Tryz.func18, Tryz.ntmps18
 go_wp2
 go_loopw [5] (fun i wr => ∃ k : Nat, k ≤ n ∧ i = .int .i64 k ∧ Hid (x ∉ xs.take k) ∧ Ext w wr) (fun i _ => n - (intOf i).toNat)
 case atStart => exact ⟨0, Nat.zero_le _, rfl, hI (by simp), xR⟩
 case round =>
  obtain ⟨k, hk, rfl, HJ, hx⟩ := hrel
  by_cases hlt : k < n
  ·have hkl : k < xs.length := by rw [← HN.out]; exact hlt
   obtain ⟨b, off, rfl, hb, d0⟩ := (h.ext hx).nm1 (k := k) hkl
   have htk : xs.take (k + 1) = xs.take k ++ [xs.getD k 0] := by rw [List.take_succ_eq_append_getElem hkl]; simp [List.getD, hkl]
   have hmem : xs.getD k 0 ∈ xs := by simp [List.getD, hkl]
   have HT := hI htk
   have HM := hI hmem
   clear htk hmem hkl
   generalize hz : xs.getD k 0 = z at *
   clear hz
   by_cases e : z = x
   ·have HE : Hid (decide (x ∈ xs) = true) := hI (by rw [← e]; exact decide_eq_true HM.out)
    have hq' : (z == x) = true := by simpa using e
    clear e
    go_wp2
    go_ret
    exact ⟨ret_bool' HE.out.symm, hx⟩
   ·have HJ2 : Hid (x ∉ xs.take (k + 1)) := hI (by rw [HT.out, List.mem_append, List.mem_singleton]; rintro (h1 | h1); exact HJ.out h1; exact e h1.symm)
    have hq' : (z == x) = false := beq_eq_false_iff_ne.2 e
    clear e
    go_wp2
    go_roundw
    case rel => exact ⟨k + 1, by omega, by go_num, HJ2, hx⟩
    case measure => simp [intOf]; omega
  ·obtain rfl : k = n := by omega
   have HE : Hid (decide (x ∈ xs) = false) := hI (decide_eq_false (by have := HJ.out; rwa [HN.out, List.take_length] at this))
   go_wp2
   go_ret
   exact ⟨ret_bool' HE.out.symm, hx⟩
end Go.Proofs.YtlnliajnipniaaaGreatDoor
