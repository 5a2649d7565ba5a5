/- Phrases that are drawn. Draws of texts, walked over the translation. Phrases that are drawn, rarely other texts. A region that draws its order: what each operation leaves behind is said once, and stays whatever comes up beside it. No program in sight. -/
import Derived.Test.YtlnliajnipniaaaGreatDoorT1
import Derived.Test.YtlnliajnipniaaaGreatDoorW5
import Derived.OrdersHeld
namespace Go.Proofs.YtlnliajnipniaaaGreatDoor
open Go.RowKit
theorem jn_len12 : ∀ {L : List (List UInt8)}, (∀ x ∈ L, x.length ≤ 12) → (jn L [32]).length ≤ 13 * L.length
 | [], _ => by simp [Lib.join_nil]
 | [x], h => by
  rw [show jn [x] [32] = x from Lib.join_one x [32]]
  have := h x (List.mem_cons_self ..)
  simp; omega
 | x :: y :: r, h => by
  have ih := jn_len12 (L := y :: r) fun z hz => h z (List.mem_cons_of_mem _ hz)
  have := h x (List.mem_cons_self ..)
  rw [jn_two]
  simp only [List.length_append, List.length_cons] at *
  omega
theorem smL_free {x : List UInt8} {hi : Int} (h : smL x 1 hi = true) : (32 : UInt8) ∉ x := by
 intro hm
 simp only [smL, Bool.and_eq_true] at h
 have := List.all_eq_true.1 h.2 32 hm
 revert this; decide
def PhAt (L : List (List UInt8)) (k : Nat) : Prop := (∀ x ∈ L, smL x 1 16 = true ∧ x.length ≤ 12) ∧ L.length + k ≤ 3 ∧ 1 ≤ L.length + k
theorem PhAt.step {L : List (List UInt8)} {k : Nat} {x : List UInt8} (h : PhAt L (k + 1)) (hx : smL x 1 16 = true ∧ x.length ≤ 12) : PhAt (L ++ [x]) k := by
 obtain ⟨h1, h2, h3⟩ := h
 refine ⟨fun z hz => ?_, by simp; omega, by simp; omega⟩
 rcases List.mem_append.1 hz with e | e
 ·exact h1 z e
 ·rw [List.mem_singleton] at e
  rw [e]; exact hx
theorem PhAt.done {L : List (List UInt8)} (h : PhAt L 0) : phB (jn L [32]) = true ∧ (jn L [32]).length ≤ 39 := by
 obtain ⟨h1, h2, h3⟩ := h
 have hl := jn_len12 (L := L) fun x hx => (h1 x hx).2
 refine ⟨?_, by omega⟩
 unfold phB
 rw [sp_jn (by intro e; rw [e] at h3; simp at h3) fun x hx => smL_free (h1 x hx).1, Bool.and_eq_true]
 exact ⟨by simp; omega, List.all_eq_true.2 fun x hx => (h1 x hx).1⟩
set_option maxRecDepth 20000 in
set_option maxHeartbeats 6400000 in
theorem s_l01GoodPhrase {a : World} {A : Option Addr} {c : Nat} {bs : List Int} {g : Nat} (w : World) (h : Src a A c bs g w) :
  Calls Tryz.prog 68 #[.pointer (some ⟨g, 0, none⟩)] w fun e w' => ∃ t : List UInt8, e = .returned (.string (tx t)) ∧ (phB t = true ∧ t.length ≤ 39) ∧ Src a A c bs g w' ∧ But g w w' := by
 have hlt := h.lt
 have how := h.own
 have hasz := h.ext.size
 have nb : ¬ w.heap.size = g := by omega
 have HV0 : Hid (OwS (w.alloc (.cells #[] 9)) w.heap.size (.slice (some ⟨w.heap.size, 0, none⟩) 0 0) []) := hI (World.ownsRow_made (base := w.heap.size) (e := 9) (size := 1) w #[] 0 (Nat.le_refl _) (Nat.zero_le _) rfl)
 go_enter Tryz.func68, Tryz.ntmps68
 (go_wp2_with fail; refine (s_l01Next (a := a) (A := A) (c := c) (bs := bs) _ _ (sA h) (by omega)).mono ?_; rintro e w1 ⟨x1, rfl, hb1, hS1, hu1⟩; obtain ⟨hc1, hf1, hs1⟩ := hu1.all; (try simp at hs1); have := (show w.heap.size < w1.heap.size from by omega))
 obtain ⟨m, rfl⟩ := Int.eq_ofNat_of_zero_le hb1.1
 have hm3 : m ≤ 2 := by omega
 have HV1 := hI (HV0.out.but hu1 hlt)
 have HS1 := hI hS1
 have HU1 : Hid (But g w w1) := hI (uT (uA uR) hu1)
 go_wp2
 go_loopw [3, 4] (fun v i wr => ∃ (L : List (List UInt8)) (k : Nat), i = .int .i64 k ∧ k ≤ 3 ∧ Hid (PhAt L k) ∧ Hid (OwS wr w.heap.size v L) ∧ Hid (Src a A c bs g wr) ∧ Hid (But g w wr) ∧ w.heap.size < wr.heap.size) (fun _ i _ => (intOf i).toNat)
 case atStart => exact ⟨[], m + 1, by go_num, by omega, hI ⟨fun x hx => (by cases hx), (by simp; omega), (by simp)⟩, HV1, HS1, HU1, by omega⟩
 case round =>
  obtain ⟨L, k, rfl, hk3, HL, HV, HSr, HU, hwl⟩ := hrel
  by_cases hk0 : 0 < k
  ·obtain ⟨q, rfl⟩ : ∃ q, k = q + 1 := ⟨k - 1, by omega⟩
   have hLl := HL.out.2.1
   (go_wp2_with fail; refine (s_l01Good (a := a) (A := A) (c := c) (bs := bs) _ HSr.out).mono ?_; rintro e w2 ⟨x2, rfl, hb2, hS2, hu2⟩; obtain ⟨hc2, hf2, hs2⟩ := hu2.all; (try simp at hs2); have := (show w.heap.size < w2.heap.size from by omega))
   have HV2 := hI (HV.out.but hu2 hlt)
   have HL2 := hI (HL.out.step hb2)
   have HU2 := hI (HU.out.trans hu2)
   have HS2 := hI hS2
   clear hb2
   go_wp2_with (at_builtin; refine wpList_append_sl elS len_encS one_encS rfl _ _ rfl rfl (HV2.out.ext (xA xR)) (xs := [x2]) rfl (blk_s1 (bN (by omega))) (by simp; unfold maxLen; omega) (by simp; omega) (by first | omega | (simp; omega)) ?_)
   intro v' w5 hown hgrow _
   have HV5 := hI hown
   have HS5 : Hid (Src a A c bs g w5) := hI (Src.grownR (HS2.out.alloc _) hgrow (fun q hq => Nat.lt_of_lt_of_le hlt (HV2.out.row q hq).1))
   have HU5 : Hid (But g w w5) := hI (But.grownR (HU2.out.alloc _) hgrow (fun q hq => (HV2.out.row q hq).1))
   have hs5 := HU5.out.size
   have hs6 : w2.heap.size ≤ w5.heap.size := by
    have := hgrow.size
    simp at this
    omega
   clear hown hgrow
   go_wp2
   go_roundw
   case rel => exact ⟨L ++ [x2], q, by go_num, by omega, HL2, HV5, HS5, HU5, by omega⟩
   case measure => simp [intOf]
  ·obtain rfl : k = 0 := by omega
   obtain ⟨hph, hjl⟩ := HL.out.done
   have hlen := HL.out.2.1
   have hwords := HL.out.1
   obtain ⟨A', c', rfl, hSl, _, _, _⟩ := HV.out.sl len_encS
   have HC := hI (s_l01Words A' L.length c' L wr hSl rfl (by omega) (fun k => by
    have := jn_len12 (L := L.take k) fun x hx => (hwords x (List.mem_of_mem_take hx)).2
    rw [List.length_take] at this
    omega) (fun k => by
    rcases Nat.lt_or_ge k L.length with e | e
    ·have := (hwords (L.getD k []) (by simp [List.getD, e])).2
     omega
    ·rw [List.getD_eq_getElem?_getD, List.getElem?_eq_none e]; simp))
   have HPH := hI (And.intro hph hjl)
   clear hph hjl hwords hSl
   go_wp2_with fail
   refine HC.out.mono ?_
   rintro e w7 ⟨rfl, hx7⟩
   go_wp2
   go_ret
   exact ⟨_, rfl, HPH.out, HSr.out.on hx7, HU.out.trans (But.of hx7)⟩
end Go.Proofs.YtlnliajnipniaaaGreatDoor
namespace Go.Proofs.YtlnliajnipniaaaGreatDoor
open Go.RowKit
attribute [local go_sem] ExtOf.cell ExtOf.frozen
open Go.PlainAid
theorem tab8 {k : Nat} (h : k < 8) : ∃ t : ByteArray, t.size = 1 ∧ (#[.string ⟨#[48]⟩, .string ⟨#[35]⟩, .string ⟨#[46]⟩, .string ⟨#[47]⟩, .string ⟨#[32]⟩, .string ⟨#[97]⟩, .string ⟨#[45]⟩, .string ⟨#[10]⟩] : Array Value)[k]? = some (.string t) := by
 match k, h with
 | 0, _ => exact ⟨_, rfl, rfl⟩
 | 1, _ => exact ⟨_, rfl, rfl⟩
 | 2, _ => exact ⟨_, rfl, rfl⟩
 | 3, _ => exact ⟨_, rfl, rfl⟩
 | 4, _ => exact ⟨_, rfl, rfl⟩
 | 5, _ => exact ⟨_, rfl, rfl⟩
 | 6, _ => exact ⟨_, rfl, rfl⟩
 | 7, _ => exact ⟨_, rfl, rfl⟩
theorem ext_size {s : ByteArray} (i j : Nat) : (s.extract i j).size ≤ j - i ∧ (s.extract i j).size ≤ s.size := by
 rw [ByteArray.size_extract]
 omega
set_option maxRecDepth 20000 in
set_option maxHeartbeats 6400000 in
theorem s_l01Damage {a : World} {A : Option Addr} {c : Nat} {bs : List Int} {g : Nat} (s : ByteArray) (w : World) (h : Src a A c bs g w) (hs : s.size ≤ 1000) :
  Calls Tryz.prog 115 #[.pointer (some ⟨g, 0, none⟩), .string s] w fun e w' => ∃ t : ByteArray, e = .returned (.string t) ∧ t.size ≤ s.size + 1 ∧ Src a A c bs g w' ∧ But g w w' := by
 have hlt := h.lt
 have how := h.own
 have hasz := h.ext.size
 have hw0 : IntKind.i64.wrap ((s.size : Int) + 1) = (s.size : Int) + 1 := IntWalk.i64_in _ (by omega)
 go_enter Tryz.func115, Tryz.ntmps115
 (go_wp2_with fail; refine (s_l01Next (a := a) (A := A) (c := c) (bs := bs) _ _ h (by omega)).mono ?_; rintro e w1 ⟨x1, rfl, hb1, hS1, hu1⟩; obtain ⟨hc1, hf1, hs1⟩ := hu1.all; (try simp at hs1); have := (show g < w1.heap.size from by omega))
 obtain ⟨k, rfl⟩ := Int.eq_ofNat_of_zero_le hb1.1
 have hk : k ≤ s.size := by omega
 (go_wp2_with fail; refine (s_l01Next (a := a) (A := A) (c := c) (bs := bs) _ _ hS1 (by omega)).mono ?_; rintro e w2 ⟨x2, rfl, hb2, hS2, hu2⟩; obtain ⟨hc2, hf2, hs2⟩ := hu2.all; (try simp at hs2); have := (show g < w2.heap.size from by omega))
 by_cases h0 : x2 = 0
 ·subst h0
  go_wp2
  go_ret
  refine ⟨_, rfl, ?_, hS2, uT hu1 hu2⟩
  have := ext_size (s := s) 0 k
  omega
 ·have hb0 : (x2 == 0) = false := beq_eq_false_iff_ne.2 h0
  by_cases h1 : x2 = 1
  ·subst h1
   have nw : ¬ w2.heap.size = g := by omega
   have nw' : ¬ g = w2.heap.size := by omega
   go_wp2
   go_region_with (first | (go_at_call 36; refine (s_l01Next (a := a) (A := A) (c := c) (bs := bs) _ _ (by with_reducible first|exact sD hS2|exact sD (sA hS2)) (by omega)).mono ?_; rintro e w7 ⟨x7, rfl, hb7, hS7, hu7⟩; obtain ⟨k7, rfl⟩ := Int.eq_ofNat_of_zero_le hb7.1; obtain ⟨t7, hz7, ht7⟩ := tab8 (k := k7) (by omega); obtain ⟨hc7, hf7, hs7⟩ := hu7.all; (try simp at hs7)))
   all_goals go_wp2
   all_goals go_ret
   all_goals refine ⟨_, rfl, ?_, by with_reducible first|exact hS7|exact sA hS7, by with_reducible first|exact uA (uT (uD (uT hu1 hu2)) hu7)|exact uT (uD (uA (uT hu1 hu2))) hu7⟩
   all_goals (rw [ByteArray.size_append, ByteArray.size_append, ByteArray.size_extract, ByteArray.size_extract]; omega)
  ·have hb1 : (x2 == 1) = false := beq_eq_false_iff_ne.2 h1
   by_cases h2 : x2 = 2
   ·subst h2
    by_cases hkl : k < s.size
    ·have hw1 : IntKind.i64.wrap ((k : Int) + 1) = (k : Int) + 1 := IntWalk.i64_in _ (by omega)
     go_wp2
     (first | go_region_with fail | fail)
     all_goals go_wp2
     all_goals go_ret
     all_goals refine ⟨_, rfl, ?_, sD hS2, uD (uT hu1 hu2)⟩
     all_goals (rw [ByteArray.size_append, ByteArray.size_extract, ByteArray.size_extract]; omega)
    ·go_wp2
     go_ret
     exact ⟨_, rfl, by omega, hS2, uT hu1 hu2⟩
   ·have hb2 : (x2 == 2) = false := beq_eq_false_iff_ne.2 h2
    go_wp2
    go_ret
    exact ⟨_, rfl, by omega, hS2, uT hu1 hu2⟩
end Go.Proofs.YtlnliajnipniaaaGreatDoor
namespace Go.Proofs.YtlnliajnipniaaaGreatDoor
open Go.RowKit
set_option maxRecDepth 20000 in
set_option maxHeartbeats 6400000 in
theorem s_l01DrawPhrase {a : World} {A : Option Addr} {c : Nat} {bs : List Int} {g : Nat} (w : World) (h : Src a A c bs g w) :
  Calls Tryz.prog 69 #[.pointer (some ⟨g, 0, none⟩)] w fun e w' => ∃ t : List UInt8, e = .returned (.string (tx t)) ∧ t.length ≤ 40 ∧ Src a A c bs g w' ∧ But g w w' := by
 have hlt := h.lt
 have how := h.own
 have hasz := h.ext.size
 go_enter Tryz.func69, Tryz.ntmps69
 (go_wp2_with fail; refine (s_l01GoodPhrase (a := a) (A := A) (c := c) (bs := bs) _ h).mono ?_; rintro e w1 ⟨x1, rfl, hb1, hS1, hu1⟩; obtain ⟨hc1, hf1, hs1⟩ := hu1.all; (try simp at hs1); have := (show g < w1.heap.size from by omega))
 (go_wp2_with fail; refine (s_l01Next (a := a) (A := A) (c := c) (bs := bs) _ _ hS1 (by omega)).mono ?_; rintro e w2 ⟨x2, rfl, hb2, hS2, hu2⟩; obtain ⟨hc2, hf2, hs2⟩ := hu2.all; (try simp at hs2); have := (show g < w2.heap.size from by omega))
 have hsz : (tx x1).size ≤ 39 := by rw [tx_size]; exact hb1.2
 have hl1 : x1.length ≤ 40 := by omega
 clear hb1
 by_cases q0 : x2 = 0
 ·subst q0
  (go_wp2_with fail; refine (s_l01Damage (a := a) (A := A) (c := c) (bs := bs) _ _ hS2 (by omega)).mono ?_; rintro e w3 ⟨x3, rfl, hb3, hS3, hu3⟩; obtain ⟨hc3, hf3, hs3⟩ := hu3.all; (try simp at hs3); have := (show g < w3.heap.size from by omega))
  go_wp2
  go_ret
  exact ⟨x3.data.toList, by rw [tx_self]; rfl, by rw [size_list]; omega, hS3, uT (uT hu1 hu2) hu3⟩
 ·have e0 : (x2 == 0) = false := beq_eq_false_iff_ne.2 q0
  by_cases q1 : x2 = 1
  ·subst q1
   (go_wp2_with fail; refine (s_l01Next (a := a) (A := A) (c := c) (bs := bs) _ _ (sA hS2) (by omega)).mono ?_; rintro e w3 ⟨x3, rfl, hb3, hS3, hu3⟩; obtain ⟨hc3, hf3, hs3⟩ := hu3.all; (try simp at hs3); have := (show g < w3.heap.size from by omega); have := (show w2.heap.size < w3.heap.size from by omega))
   obtain ⟨j, rfl⟩ := Int.eq_ofNat_of_zero_le hb3.1
   have hj : j < 5 := by omega
   have hP : Blk w3 w2.heap.size 9 #[.string (tx []), .string (tx [97, 32, 32, 98]), .string (tx [32, 97]), .string (tx [97, 32, 98, 32, 99, 32, 100, 32, 101, 32, 102, 32, 103, 32, 104]), .string (tx [97, 32, 98, 32, 99, 32, 100, 32, 101, 32, 102, 32, 103, 32, 104, 32, 105])] := Blk.eq (bU hu3 (by omega) (bN (by omega))) (by rfl)
   have hcell : ∃ t : List UInt8, t.length ≤ 40 ∧ w3.cell? ⟨w2.heap.size, j, none⟩ = some (.string (tx t)) := by
    rcases (show j = 0 ∨ j = 1 ∨ j = 2 ∨ j = 3 ∨ j = 4 by omega) with rfl | rfl | rfl | rfl | rfl
    ·exact ⟨_, by decide, hP.cell 0⟩
    ·exact ⟨_, by decide, hP.cell 1⟩
    ·exact ⟨_, by decide, hP.cell 2⟩
    ·exact ⟨_, by decide, hP.cell 3⟩
    ·exact ⟨_, by decide, hP.cell 4⟩
   obtain ⟨t, ht, hcell⟩ := hcell
   clear hP
   have HF := hI hS3
   go_wp2
   go_ret
   exact ⟨t, rfl, ht, HF.out, uT (uA (uT hu1 hu2)) hu3⟩
  ·have e1 : (x2 == 1) = false := beq_eq_false_iff_ne.2 q1
   go_wp2
   go_ret
   exact ⟨x1, rfl, hl1, hS2, uT hu1 hu2⟩
end Go.Proofs.YtlnliajnipniaaaGreatDoor
namespace Go.Proofs.YtlnliajnipniaaaGreatDoor
open Go
def ovl (o : Oper) (a : Act) : Value := match o.dst with
 | some d => a.tmps.getD d undef
 | none => undef
structure RgFr (ops : Array Oper) (m : Nat) (a0 a : Act) : Prop where
 tsz : a.tmps.size = a0.tmps.size
 dfr : a.defers = a0.defers
 keep : ∀ t, (∀ i o, i < m → ops[i]? = some o → o.dst ≠ some t) → a.tmps.getD t undef = a0.tmps.getD t undef
structure RgAt (ops : Array Oper) (m : Nat) (R : Nat → Value → World → Prop) (C : World → Prop) (a0 : Act) (listed : Array Bool) (a : Act) (w : World) : Prop where
 lsz : listed.size = ops.size
 fr : RgFr ops m a0 a
 got : ∀ i o, i < m → ops[i]? = some o → listed.getD i false = true → R i (ovl o a) w
 rest : ∀ i, m ≤ i → i < ops.size → listed.getD i true = false
 shut : ∀ i o, i < m → ops[i]? = some o → listed.getD i false = true → ∀ e ∈ o.after, Region.binds .any e = true → listed.getD e.on false = true
 cls : C w
def unl (listed : Array Bool) : Nat := listed.toList.countP fun b => !b
theorem unl_set {listed : Array Bool} {i : Nat} (h : listed.getD i true = false) : unl (listed.setIfInBounds i true) + 1 = unl listed := by
 have hi : i < listed.size := by
  rcases Nat.lt_or_ge i listed.size with c | c
  ·exact c
  ·simp [Array.getElem?_eq_none c] at h
 obtain ⟨l⟩ := listed
 unfold unl
 simp only [List.setIfInBounds_toArray] at *
 simp at hi h
 revert i
 induction l with
 | nil => intro i hi _; simp at hi
 | cons b l ih =>
  intro i hi h
  cases i with
  | zero =>
   simp at h
   simp [h]
  | succ i =>
   simp at h hi
   have := ih hi h
   cases b <;> simp at * <;> omega
theorem getD_cases {listed : Array Bool} {i : Nat} (hi : i < listed.size) : listed.getD i true = listed.getD i false := by simp [hi]
section
variable {P : Program} {ops : Array Oper} {Q : Exit → Act → World → Prop} {m : Nat} {R : Nat → Value → World → Prop} {C : World → Prop} {K : World → World → Prop} {a0 : Act}
def tailL (n m : Nat) : Array Bool := (List.replicate m true ++ List.replicate (n - m) false).toArray
theorem tail_is {listed : Array Bool} {n : Nat} (hs : listed.size = n) (hm : m ≤ n) (h1 : ∀ i, i < m → listed.getD i false = true) (h2 : ∀ i, m ≤ i → i < n → listed.getD i true = false) : listed = tailL n m := by
 unfold tailL
 apply Array.ext
 ·simp; omega
 ·intro i hi hi2
  have hin : i < n := by omega
  simp only [List.getElem_toArray]
  rcases Nat.lt_or_ge i m with c | c
  ·have := h1 i c
   simp [hi] at this
   rw [List.getElem_append_left (by simpa using c)]
   simp [this]
  ·have := h2 i c hin
   simp [hi] at this
   rw [List.getElem_append_right (by simpa using c)]
   simp [this]
theorem unl_tail {n : Nat} : unl (tailL n m) = n - m := by
 unfold unl tailL
 simp [List.countP_append, List.countP_replicate]
def rch (ops : Array Oper) : Nat → Nat → Nat → Bool
 | 0, _, _ => false
 | f + 1, i, j => match ops[i]? with
  | none => false
  | some o => o.after.any fun e => Region.binds .any e && (e.on == j || rch ops f e.on j)
theorem rch_listed {listed : Array Bool} (hs : ∀ i o, i < m → ops[i]? = some o → listed.getD i false = true → ∀ e ∈ o.after, Region.binds .any e = true → listed.getD e.on false = true) (hr : ∀ i, m ≤ i → i < ops.size → listed.getD i true = false) : ∀ (f i j : Nat) (o : Oper), ops[i]? = some o → (∀ e ∈ o.after, Region.binds .any e = true → listed.getD e.on false = true) → rch ops f i j = true → listed.getD j false = true
 | 0, _, _, _, _, _, h => by cases h
 | f + 1, i, j, o, ho, hd, h => by
  unfold rch at h
  simp only [ho] at h
  rw [Array.any_eq_true'] at h
  obtain ⟨e, he, hb⟩ := h
  simp only [Bool.and_eq_true, Bool.or_eq_true, beq_iff_eq] at hb
  have hl := hd e he hb.1
  rcases hb.2 with c | c
  ·rw [← c]; exact hl
  ·have hlt : e.on < ops.size := by
    refine Classical.byContradiction fun hn => ?_
    cases f with
    | zero => cases c
    | succ f =>
     unfold rch at c
     rw [Array.getElem?_eq_none (by omega)] at c
     cases c
   have hm : e.on < m := by
    rcases Nat.lt_or_ge e.on m with d | d
    ·exact d
    ·have h1 := hr e.on d hlt
     have h2 : e.on < listed.size := by
      refine Classical.byContradiction fun hn => ?_
      simp [Array.getElem?_eq_none (Nat.not_lt.1 hn)] at h1
     rw [getD_cases h2, hl] at h1
     cases h1
   exact rch_listed hs hr f e.on j ops[e.on] (Array.getElem?_eq_getElem hlt) (fun e' he' hb' => hs e.on _ hm (Array.getElem?_eq_getElem hlt) hl e' he' hb') c
theorem exists_least {p : Nat → Prop} : ∀ {n : Nat}, (∃ i, i < n ∧ ¬ p i) → ∃ i, i < n ∧ ¬ p i ∧ ∀ j, j < i → p j
 | 0, ⟨i, hi, _⟩ => absurd hi (Nat.not_lt_zero _)
 | n + 1, h => by
  by_cases c : ∃ i, i < n ∧ ¬ p i
  ·obtain ⟨i, hi, hp, hl⟩ := exists_least c
   exact ⟨i, Nat.lt_succ_of_lt hi, hp, hl⟩
  ·obtain ⟨i, hi, hp⟩ := h
   have hj : ∀ j, j < n → p j := fun j hj => Classical.byContradiction fun hn => c ⟨j, hj, hn⟩
   have : i = n := by
    rcases Nat.lt_or_ge i n with d | d
    ·exact absurd (hj i d) hp
    ·omega
   subst this
   exact ⟨i, hi, hp, hj⟩
theorem wpAny_rg (hm : m ≤ ops.size) (hK : ∀ i v w w', K w w' → R i v w → R i v w')
  (hun : ∀ i o, i < m → ops[i]? = some o → o.guard = none)
  (hdst : ∀ i o d, i < m → ops[i]? = some o → o.dst = some d → d < a0.tmps.size ∧ ∀ j o', j < m → j ≠ i → ops[j]? = some o' → o'.dst ≠ some d)
  (htop : ∀ i o, i < m → ops[i]? = some o → ∀ e ∈ o.after, Region.binds .any e = true → e.on < i)
  (hlast : ∀ i, m ≤ i → i < ops.size → ∀ j, j < m → rch ops ops.size i j = true)
  (hstep : ∀ i o, i < m → ops[i]? = some o → ∀ a w, RgFr ops m a0 a → (∀ e ∈ o.after, Region.binds .any e = true → ∀ oe, ops[e.on]? = some oe → R e.on (ovl oe a) w) → C w →
   o.wp P a w (fun a' w' => ∃ v, a' = a.put o.dst v ∧ R i (match o.dst with | some _ => v | none => undef) w' ∧ K w w' ∧ C w') Q)
  (hend : ∀ a w, RgFr ops m a0 a → (∀ i o, i < m → ops[i]? = some o → R i (ovl o a) w) → C w → wpAny P .any ops Q (ops.size - m) (tailL ops.size m) a w) :
  ∀ (fuel : Nat) (listed : Array Bool) (a : Act) (w : World), RgAt ops m R C a0 listed a w → unl listed = fuel → wpAny P .any ops Q fuel listed a w := by
 intro fuel
 induction fuel with
 | zero =>
  intro listed a w h hf
  have hall : ∀ i, i < m → listed.getD i false = true := fun i hi => by
   have hs : i < listed.size := by rw [h.lsz]; omega
   cases hc : listed.getD i true with
   | true => rw [← getD_cases hs]; exact hc
   | false =>
    have := unl_set hc
    omega
  have he := tail_is h.lsz hm hall h.rest
  have hu : ops.size - m = 0 := by rw [← unl_tail (n := ops.size) (m := m), ← he, hf]
  have := hend a w h.fr (fun i o hi ho => h.got i o hi ho (hall i hi)) h.cls
  rw [hu] at this
  rw [he]; exact this
 | succ fuel ih =>
  intro listed a w h hf
  by_cases hall : ∀ i, i < m → listed.getD i false = true
  ·have he := tail_is h.lsz hm hall h.rest
   have hu : ops.size - m = fuel + 1 := by rw [← unl_tail (n := ops.size) (m := m), ← he, hf]
   have := hend a w h.fr (fun i o hi ho => h.got i o hi ho (hall i hi)) h.cls
   rw [hu] at this
   rw [he]; exact this
  ·have hex : ∃ i, i < m ∧ ¬ listed.getD i false = true := by
    refine Classical.byContradiction fun hn => hall fun i hi => Classical.byContradiction fun hc => hn ⟨i, hi, hc⟩
   refine ⟨fun hr => ?_, fun i hi => ?_⟩
   ·exfalso
    obtain ⟨i, him, hnp, hl⟩ := exists_least hex
    have hio : i < ops.size := by omega
    have : i ∈ Region.ready .any ops listed := mem_ready.2 ⟨by
     have := getD_cases (listed := listed) (i := i) (by rw [h.lsz]; exact hio)
     rw [this]
     simpa using hnp, ops[i], Array.getElem?_eq_getElem hio, fun e he hb => hl _ (htop i _ him (Array.getElem?_eq_getElem hio) e he hb)⟩
    rw [hr] at this
    cases this
   ·obtain ⟨hu, o, ho, hdep⟩ := mem_ready.1 hi
    have him : i < m := by
     rcases Nat.lt_or_ge i m with c | c
     ·exact c
     ·exfalso
      obtain ⟨j, hj, hnj⟩ := hex
      exact hnj (rch_listed h.shut h.rest ops.size i j o ho hdep (hlast i c (Array.getElem?_eq_some_iff.1 ho).1 j hj))
    have hg := hun i o him ho
    have hs := hstep i o him ho a w h.fr (fun e he hb oe hoe => h.got e.on oe (by have := htop i o him ho e he hb; omega) hoe (hdep e he hb)) h.cls
    unfold wpOp
    simp only [ho]
    rw [if_pos (by unfold Region.wanted; rw [hg])]
    refine .inl (Oper.wp_mono (fun a' w' hh => ?_) hs)
    obtain ⟨v, rfl, hR, hKw, hC⟩ := hh
    refine ih _ _ _ ⟨by simp [h.lsz], ⟨?_, ?_, ?_⟩, ?_, ?_, ?_, hC⟩ (by have := unl_set hu; omega)
    ·unfold Act.put; split
     ·simp [h.fr.tsz]
     ·exact h.fr.tsz
    ·unfold Act.put; split
     ·exact h.fr.dfr
     ·exact h.fr.dfr
    ·intro t ht
     have hne := ht i o him ho
     unfold Act.put
     split
     ·rename_i d hd
      have hdt : d ≠ t := fun e => hne (by rw [← e]; exact hd)
      rw [← h.fr.keep t ht]
      simp [Array.getElem?_setIfInBounds_ne hdt]
     ·exact h.fr.keep t ht
    ·intro j oj hj hoj hlj
     by_cases hji : j = i
     ·subst hji
      rw [ho] at hoj
      injection hoj with hoj
      subst hoj
      unfold ovl Act.put
      cases hd : o.dst with
      | none => rw [hd] at hR; exact hR
      | some d =>
       rw [hd] at hR
       have hlt := (hdst j o d hj ho hd).1
       simp only at hR ⊢
       rw [show (a.tmps.setIfInBounds d v).getD d undef = v by simp [show d < a.tmps.size by rw [h.fr.tsz]; exact hlt]]
       exact hR
     ·rw [getD_set_ne false (Ne.symm hji)] at hlj
      have hRj := hK _ _ _ _ hKw (h.got j oj hj hoj hlj)
      have hov : ovl oj (a.put o.dst v) = ovl oj a := by
       unfold ovl Act.put
       cases hd : oj.dst with
       | none => rfl
       | some d =>
        simp only
        split
        ·rename_i d' hd'
         have hdd : d' ≠ d := fun e => (hdst i o d' him ho hd').2 j oj hj hji hoj (by rw [hd, e])
         simp [Array.getElem?_setIfInBounds_ne hdd]
        ·rfl
      rw [hov]; exact hRj
    ·intro j hmj hj
     rw [getD_set_ne true (by omega)]
     exact h.rest j hmj hj
    ·intro j oj hj hoj hlj e he hb
     by_cases hji : j = i
     ·subst hji
      rw [ho] at hoj
      injection hoj with hoj
      subst hoj
      exact getD_set_true (hdep e he hb)
     ·rw [getD_set_ne false (Ne.symm hji)] at hlj
      exact getD_set_true (h.shut j oj hj hoj hlj e he hb)
theorem wp_region_rg {id : Nat} {w : World} (hx : P.follows .mixedOrders = true) (hm : m ≤ ops.size) (hK : ∀ i v w w', K w w' → R i v w → R i v w')
  (hun : ∀ i o, i < m → ops[i]? = some o → o.guard = none)
  (hdst : ∀ i o d, i < m → ops[i]? = some o → o.dst = some d → d < a0.tmps.size ∧ ∀ j o', j < m → j ≠ i → ops[j]? = some o' → o'.dst ≠ some d)
  (htop : ∀ i o, i < m → ops[i]? = some o → ∀ e ∈ o.after, Region.binds .any e = true → e.on < i)
  (hlast : ∀ i, m ≤ i → i < ops.size → ∀ j, j < m → rch ops ops.size i j = true)
  (hC : C { w with drawn := w.drawn + 1 })
  (hstep : ∀ i o, i < m → ops[i]? = some o → ∀ a w, RgFr ops m a0 a → (∀ e ∈ o.after, Region.binds .any e = true → ∀ oe, ops[e.on]? = some oe → R e.on (ovl oe a) w) → C w →
   o.wp P a w (fun a' w' => ∃ v, a' = a.put o.dst v ∧ R i (match o.dst with | some _ => v | none => undef) w' ∧ K w w' ∧ C w') Q)
  (hend : ∀ a w, RgFr ops m a0 a → (∀ i o, i < m → ops[i]? = some o → R i (ovl o a) w) → C w → wpAny P .any ops Q (ops.size - m) (tailL ops.size m) a w) : (Code.region id ops true).wp P Q a0 w := by
 refine wp_region_any hx (wpAny_rg hm hK hun hdst htop hlast hstep hend _ _ _ _ ⟨by simp, ⟨rfl, rfl, fun _ _ => rfl⟩, fun i o _ _ h => ?_, fun i _ hi => by simp [hi], fun i o _ _ h => ?_, hC⟩ ?_)
 ·exfalso
  rcases Nat.lt_or_ge i ops.size with c | c
  ·simp [c] at h
  ·simp [Nat.not_lt.2 c] at h
 ·exfalso
  rcases Nat.lt_or_ge i ops.size with c | c
  ·simp [c] at h
  ·simp [Nat.not_lt.2 c] at h
 ·unfold unl; simp [List.countP_replicate]
theorem wpAny_one {md : Region.Mode} {i fuel : Nat} {listed : Array Bool} {a : Act} {w : World} (hr : Region.ready md ops listed = [i]) (h : wpOp P ops Q i (wpAny P md ops Q fuel (listed.setIfInBounds i true)) a w) : wpAny P md ops Q (fuel + 1) listed a w :=
 ⟨fun h0 => (by rw [hr] at h0; cases h0), (by rw [hr]; intro j hj; rw [List.mem_singleton.1 hj]; exact h)⟩
theorem wpOp_of {i : Nat} {o : Oper} {a : Act} {w : World} {L : Act → World → Prop} (ho : ops[i]? = some o) (hg : o.guard = none) (h : o.wp P a w L Q) : wpOp P ops Q i L a w := by
 unfold wpOp
 simp only [ho]
 rw [if_pos (by unfold Region.wanted; rw [hg])]
 exact .inl h
theorem wpAny_end {listed : Array Bool} {a : Act} {w : World} (hr : Region.ready .any ops listed = []) (h : Q .normal a w) : wpAny P .any ops Q 0 listed a w := ⟨hr, h⟩
def rgOk (ops : Array Oper) (m n : Nat) : Bool := (List.range ops.size).all fun i => match ops[i]? with
 | none => true
 | some o => if i < m then o.guard.isNone && (o.after.all fun e => !Region.binds .any e || decide (e.on < i)) && (match o.dst with
   | none => true
   | some d => decide (d < n) && (List.range m).all fun j => j == i || (match ops[j]? with | some o' => o'.dst != some d | none => true))
  else (List.range m).all fun j => rch ops ops.size i j
def AllFrom (Pr : Nat → Oper → Prop) : Nat → List Oper → Prop
 | _, [] => True
 | k, o :: os => Pr k o ∧ AllFrom Pr (k + 1) os
theorem AllFrom.cons {Pr : Nat → Oper → Prop} {k : Nat} {o : Oper} {os : List Oper} (h : Pr k o) (h' : AllFrom Pr (k + 1) os) : AllFrom Pr k (o :: os) := ⟨h, h'⟩
theorem AllFrom.nil {Pr : Nat → Oper → Prop} {k : Nat} : AllFrom Pr k [] := trivial
theorem AllFrom.at_ {Pr : Nat → Oper → Prop} : ∀ {os : List Oper} {k : Nat}, AllFrom Pr k os → ∀ i o, os[i]? = some o → Pr (k + i) o
 | [], _, _, i, o, h => by simp at h
 | x :: os, k, hA, 0, o, h => by simp at h; subst h; exact hA.1
 | x :: os, k, hA, i + 1, o, h => by
  have := AllFrom.at_ hA.2 i o (by simpa using h)
  rwa [show k + 1 + i = k + (i + 1) by omega] at this
theorem wp_region_rgb {id : Nat} {w : World} (n : Nat) (hx : P.follows .mixedOrders = true) (hok : rgOk ops m n = true) (hm : m ≤ ops.size) (hn : n ≤ a0.tmps.size) (hK : ∀ i v w w', K w w' → R i v w → R i v w')
  (hC : C w.drew)
  (hstep : AllFrom (fun i o => ∀ a w, RgFr ops m a0 a → (∀ e ∈ o.after, Region.binds .any e = true → ∀ oe, ops[e.on]? = some oe → R e.on (ovl oe a) w) → C w →
   o.wp P a w (fun a' w' => ∃ v, a' = a.put o.dst v ∧ R i (match o.dst with | some _ => v | none => undef) w' ∧ K w w' ∧ C w') Q) 0 (ops.toList.take m))
  (hend : ∀ a w, RgFr ops m a0 a → (∀ i o, i < m → ops[i]? = some o → R i (ovl o a) w) → C w → wpAny P .any ops Q (ops.size - m) (tailL ops.size m) a w) : (Code.region id ops true).wp P Q a0 w := by
 have key : ∀ i o, ops[i]? = some o → (if i < m then o.guard.isNone && (o.after.all fun e => !Region.binds .any e || decide (e.on < i)) && (match o.dst with
   | none => true
   | some d => decide (d < n) && (List.range m).all fun j => j == i || (match ops[j]? with | some o' => o'.dst != some d | none => true))
  else (List.range m).all fun j => rch ops ops.size i j) = true := fun i o ho => by
  have hi : i < ops.size := (Array.getElem?_eq_some_iff.1 ho).1
  unfold rgOk at hok
  have := List.all_eq_true.1 hok i (List.mem_range.2 hi)
  rw [ho] at this
  exact this
 refine wp_region_rg hx hm hK (fun i o hi ho => ?_) (fun i o d hi ho hd => ?_) (fun i o hi ho e he hb => ?_) (fun i hi hio j hj => ?_) hC (fun i o hi ho => ?_) hend
 ·have := key i o ho
  rw [if_pos hi] at this
  simp only [Bool.and_eq_true] at this
  simpa using this.1.1
 ·have := key i o ho
  rw [if_pos hi] at this
  simp only [Bool.and_eq_true] at this
  have h3 := this.2
  rw [hd] at h3
  simp only [Bool.and_eq_true, decide_eq_true_eq, List.all_eq_true, Bool.or_eq_true, beq_iff_eq] at h3
  refine ⟨Nat.lt_of_lt_of_le h3.1 hn, fun j o' hj hji ho' => ?_⟩
  have := h3.2 j (List.mem_range.2 hj)
  rw [ho'] at this
  rcases this with e | e
  ·exact absurd e hji
  ·simpa using e
 ·have := key i o ho
  rw [if_pos hi] at this
  simp only [Bool.and_eq_true] at this
  have h2 := this.1.2
  rw [Array.all_eq_true_iff_forall_mem] at h2
  have := h2 e he
  rw [hb] at this
  simpa using this
 ·have := key i ops[i] (Array.getElem?_eq_getElem hio)
  rw [if_neg (by omega)] at this
  exact List.all_eq_true.1 this j (List.mem_range.2 hj)
 ·have := hstep.at_ i o (by
   rw [List.getElem?_take_of_lt hi, Array.getElem?_toList]
   exact ho)
  rw [Nat.zero_add] at this
  exact this
def mixL : List Bool → List Value → Array Value → Nat → List Value
 | true :: ws, _ :: vs, b, k => b.getD k undef :: mixL ws vs b (k + 1)
 | false :: ws, v :: vs, b, k => v :: mixL ws vs b (k + 1)
 | _, _, _, _ => []
theorem mixL_at : ∀ (ws : List Bool) (vs : List Value) (b : Array Value) (k i : Nat), ws.length = vs.length → (mixL ws vs b k).length = vs.length ∧ (i < vs.length → (mixL ws vs b k)[i]? = some (if ws.getD i false = true then b.getD (k + i) undef else vs.getD i undef))
 | [], [], _, _, i, _ => ⟨rfl, fun h => absurd h (Nat.not_lt_zero _)⟩
 | true :: ws, v :: vs, b, k, i, h => by
  have ih := mixL_at ws vs b (k + 1) (i - 1) (by simpa using h)
  refine ⟨by simp [mixL, ih.1], fun hi => ?_⟩
  cases i with
  | zero => simp [mixL]
  | succ i =>
   have := ih.2 (by simp at hi ⊢; omega)
   simp only [mixL, List.getElem?_cons_succ, Nat.add_sub_cancel] at this ⊢
   rw [this, show k + 1 + i = k + (i + 1) by omega]
   simp
 | false :: ws, v :: vs, b, k, i, h => by
  have ih := mixL_at ws vs b (k + 1) (i - 1) (by simpa using h)
  refine ⟨by simp [mixL, ih.1], fun hi => ?_⟩
  cases i with
  | zero => simp [mixL]
  | succ i =>
   have := ih.2 (by simp at hi ⊢; omega)
   simp only [mixL, List.getElem?_cons_succ, Nat.add_sub_cancel] at this ⊢
   rw [this, show k + 1 + i = k + (i + 1) by omega]
   simp
 | [], _ :: _, _, _, _, h => by simp at h
 | _ :: _, [], _, _, _, h => by simp at h
theorem RgFr.shape {ops : Array Oper} {m : Nat} {a0 a : Act} (h : RgFr ops m a0 a) (ws : List Bool) (hl : ws.length = a0.tmps.toList.length) (hw : ((List.range ws.length).all fun k => ws.getD k false || (ops.toList.take m).all (fun o => o.dst != some k)) = true) : a = ⟨(mixL ws a0.tmps.toList a.tmps 0).toArray, a0.defers⟩ := by
 obtain ⟨tm, df⟩ := a
 have h2 := h.dfr
 have h1 := h.tsz
 have h3 := h.keep
 simp only at h1 h2 h3
 rw [h2]
 congr 1
 apply Array.ext
 ·have := (mixL_at ws a0.tmps.toList tm 0 0 hl).1
  simp at this ⊢
  omega
 ·intro i hi hi2
  have hi3 : i < a0.tmps.toList.length := by simp; omega
  have := (mixL_at ws a0.tmps.toList tm 0 i hl).2 hi3
  have he : (mixL ws a0.tmps.toList tm 0).toArray[i]? = some tm[i] := by
   rw [List.getElem?_toArray, this]
   congr 1
   by_cases c : ws.getD i false = true
   ·rw [if_pos c, Nat.zero_add]; simp [hi]
   ·rw [if_neg c]
    have hk := List.all_eq_true.1 hw i (List.mem_range.2 (by rw [hl]; exact hi3))
    rw [Bool.or_eq_true] at hk
    have hk := hk.resolve_left c
    have := h3 i (fun j o hj ho => by
     have := List.all_eq_true.1 hk o (by
      rw [List.mem_iff_getElem?]
      exact ⟨j, by rw [List.getElem?_take_of_lt hj, Array.getElem?_toList]; exact ho⟩)
     simpa using this)
    have hi0 : i < a0.tmps.size := by omega
    simp [hi, hi0] at this
    simp [hi0]
    exact this.symm
  rw [Array.getElem?_eq_getElem hi2] at he
  injection he with he
  exact he.symm
theorem RgFr.at_ {ops : Array Oper} {m : Nat} {a0 a : Act} (h : RgFr ops m a0 a) {t : Tmp} {v : Value} (hv : a0.tmps.getD t undef = v) (ht : (ops.toList.take m).all (fun o => o.dst != some t) = true) : a.tmps.getD t undef = v := by
 rw [h.keep t (fun i o hi ho => ?_), hv]
 have := List.all_eq_true.1 ht o (by
  rw [List.mem_iff_getElem?]
  exact ⟨i, by rw [List.getElem?_take_of_lt hi, Array.getElem?_toList]; exact ho⟩)
 simpa using this
end
end Go.Proofs.YtlnliajnipniaaaGreatDoor
