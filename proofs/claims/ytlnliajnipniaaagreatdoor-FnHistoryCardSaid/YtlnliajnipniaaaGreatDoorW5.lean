/- Lists of links that are drawn. Draws of links, a place and a year. -/
import Derived.Test.YtlnliajnipniaaaGreatDoorW4
import Derived.Test.YtlnliajnipniaaaGreatDoorW2
namespace Go.Proofs.YtlnliajnipniaaaGreatDoor
open Go.RowKit
attribute [local go_sem] ExtOf.cell ExtOf.frozen
theorem Own.but {α : Type} {enc : α → List Value} {sz g base : Nat} {t : TypeId} {w w' : World} {v : Value} {xs : List α} (h : Own enc sz t w base v xs) (hm : But g w w') (hb : g < base) : Own enc sz t w' base v xs := by
 refine ⟨h.1, ?_⟩
 rcases h.2 with hn | ⟨q, cap, cur, rfl, hbb, hgg, rest⟩
 ·exact .inl hn
 ·refine .inr ⟨q, cap, cur, rfl, hbb, ?_, rest⟩
  rw [hm.block q (Array.getElem?_eq_some_iff.1 hgg).1 (by omega)]
  exact hgg
theorem Src.grownR {a w w' : World} {A : Option Addr} {c : Nat} {bs : List Int} {g : Nat} {row : Option Nat} (h : Src a A c bs g w) (hg : w.grownBy w' row) (hr : ∀ q, row = some q → g < q) : Src a A c bs g w' := by
 obtain ⟨k, s, h1, h2, h3, hB⟩ := h.blk
 exact ⟨h.ext.grown hg (fun q hq => by have := hr q hq; have := h.own; omega), h.own, h.code, h.byt, h.len, k, s, h1, h2, h3, (hg.block g h.lt (fun e => by have := hr g e.symm; omega)).trans hB⟩
theorem But.grownR {a w w' : World} {g : Nat} {row : Option Nat} (h : But g a w) (hg : w.grownBy w' row) (hr : ∀ q, row = some q → a.heap.size ≤ q) : But g a w' :=
 ⟨hg.os.trans h.os, hg.tape.trans h.tape, hg.output.trans h.output, Nat.le_trans h.size hg.size, fun k hk hc => (hg.block k (Nat.lt_of_lt_of_le hk h.size) (fun e => by have := hr k e.symm; omega)).trans (h.block k hk hc)⟩
def LnkOk (l : Lk) : Prop := l.1.length ≤ 17 ∧ l.2.1.length ≤ 17 ∧ (-3001 ≤ l.2.2.1 ∧ l.2.2.1 ≤ 3001) ∧ (-3001 ≤ l.2.2.2 ∧ l.2.2.2 ≤ 3001)
def LnksOk (L : List Lk) : Prop := ∀ l ∈ L, LnkOk l
theorem LnksOk.snoc {L : List Lk} {l : Lk} (h : LnksOk L) (hl : LnkOk l) : LnksOk (L ++ [l]) := fun x hx => by
 rcases List.mem_append.1 hx with h1 | h1
 ·exact h x h1
 ·rw [List.mem_singleton.1 h1]; exact hl
theorem LnksOk.at {L : List Lk} (h : LnksOk L) (j : Nat) : LnkOk (L.getD j lkD) := by
 rcases Nat.lt_or_ge j L.length with c | c
 ·have : L.getD j lkD ∈ L := by simp [List.getD, c]
  exact h _ this
 ·rw [List.getD, List.getElem?_eq_none c]; exact ⟨by simp [lkD], by simp [lkD], by simp [lkD], by simp [lkD]⟩
theorem LnksOk.links {L : List Lk} (h : LnksOk L) : Links L := fun j => by
 have := h.at j
 exact ⟨by have := this.1; omega, by have := this.2.1; omega⟩
def lenV : Value → Nat
 | .slice _ n _ => n
 | _ => 0
set_option maxRecDepth 20000 in
set_option maxHeartbeats 25600000 in
theorem s_l12List {a : World} {A : Option Addr} {c : Nat} {bs : List Int} {g : Nat} (w : World) (h : Src a A c bs g w) :
  Calls Tryz.prog 67 #[.pointer (some ⟨g, 0, none⟩)] w fun e w' => ∃ (A' : Option Addr) (c' : Nat) (L : List Lk), e = .returned (.slice A' L.length c') ∧ SlAt w' 4 encK A' L ∧ L.length ≤ c' ∧ (L.length ≤ 21 ∧ LnksOk L ∧ ∀ q, A' = some q → w.heap.size ≤ q.block) ∧ Src a A c bs g w' ∧ But g w w' := by
 have hlt := h.lt
 have how := h.own
 have hasz := h.ext.size
 go_enter Tryz.func67, Tryz.ntmps67
 (go_wp2_with fail; refine (s_l01Next (a := a) (A := A) (c := c) (bs := bs) _ _ (sA h) (by omega)).mono ?_; rintro e w1 ⟨x1, rfl, hb1, hS1, hu1⟩; obtain ⟨hc1, hf1, hs1⟩ := hu1.all; (try simp at hs1); have := (show g < w1.heap.size from by omega))
 obtain ⟨n, rfl⟩ := Int.eq_ofNat_of_zero_le hb1.1
 have hn9 : n ≤ 9 := by omega
 have hv0 : OwK (w.alloc (.cells #[] 108)) w.heap.size (.slice (some ⟨w.heap.size, 0, none⟩) 0 0) ([] : List Lk) := World.ownsRow_made (base := w.heap.size) (e := 108) (size := 4) w #[] 0 (Nat.le_refl _) (Nat.zero_le _) rfl
 have HV0 := hI (hv0.but (by first | exact hu1) hlt)
 have HU1 : Hid (But g w w1) := hI (uT (uA uR) hu1)
 have HS1 := hI hS1
 have HE : Hid (LnksOk []) := hI (fun l hl => by simp at hl)
 clear hv0 hu1 hS1 hb1 hc1 hf1 h
 go_wp2
 go_loopw [3, 4] (fun v i wr => ∃ (k : Nat) (L : List Lk), i = .int .i64 k ∧ k ≤ 9 ∧ L.length + k ≤ 9 ∧ Hid (LnksOk L) ∧ Hid (OwK wr w.heap.size v L) ∧ Hid (Src a A c bs g wr) ∧ Hid (But g w wr)) (fun _ i _ => (intOf i).toNat)
 case atStart => exact ⟨n, [], by go_num, hn9, by simp; omega, HE, HV0, HS1, HU1⟩
 case round =>
  obtain ⟨k, L, rfl, hk9, hlk, HE1, HV, HSr, HUr⟩ := hrel
  have hglt := HSr.out.lt
  have hsr := HUr.out.size
  by_cases hk0 : 0 < k
  ·obtain ⟨k, rfl⟩ : ∃ q, k = q + 1 := ⟨k - 1, by omega⟩
   (go_wp2_with fail; refine (s_l12Good (a := a) (A := A) (c := c) (bs := bs) _ HSr.out).mono ?_; rintro e w2 ⟨x2, rfl, hb2, hS2, hu2⟩; obtain ⟨hc2, hf2, hs2⟩ := hu2.all; (try simp at hs2); have := (show g < w2.heap.size from by omega))
   have HV2 := hI (HV.out.but hu2 hlt)
   have HS2 := hI hS2
   have HU2 := hI (HUr.out.trans hu2)
   have HL2 : Hid (LnkOk x2) := hI ⟨by omega, by omega, by omega, by omega⟩
   clear hb2 hu2 hS2 hc2 hf2
   obtain ⟨A3, c3, rfl, hS3, _, _, _⟩ := HV2.out.sl len_encK
   have HS3 := hI hS3
   have HC := hI (s_AddLink A3 L.length c3 L x2 w2 hS3 rfl (by omega) HE1.out.links (by have := HL2.out.1; omega) (by have := HL2.out.2.1; omega))
   clear hS3
   obtain ⟨n3, hn3⟩ : ∃ n, n = L.length := ⟨_, rfl⟩
   rw [← hn3] at HC HV2 ⊢
   replace hn3 := hI hn3
   have HV3 := HV2
   clear HV2
   have hw5 : IntKind.i64.wrap (((k + 1 : Nat) : Int) - 1) = (k : Int) := by rw [IntWalk.i64_in _ (by omega)]; omega
   have hw6 : IntKind.i64.wrap (k : Int) = (k : Int) := IntWalk.i64_in _ (by omega)
   have hg2 := HS2.out.lt
   have hs2 := HU2.out.size
   go_wp2_with fail
   refine HC.out.mono ?_
   rintro e w3 ⟨hr, hx3⟩
   have HS3 := hI (HS2.out.on hx3)
   have HU3 := hI (HU2.out.trans (But.of hx3))
   clear HC
   rcases hr with ⟨m, hm, rfl⟩ | ⟨_, v3, rfl, hO3⟩
   ·have e0 : (m == 0) = false := beq_eq_false_iff_ne.2 hm
    have HV4 := hI (HV3.out.ext hx3)
    clear hx3
    go_wp2
    go_roundw
    case rel => exact ⟨k, L, by go_num, by omega, by omega, HE1, HV4, HS3, HU3⟩
    case measure => simp [intOf]
   ·have HV4 : Hid (OwK w3 w.heap.size v3 (L ++ [x2])) := hI (hO3.less hs2)
    have HE4 := hI (HE1.out.snoc HL2.out)
    clear hO3 hx3
    go_wp2
    go_roundw
    case rel => exact ⟨k, L ++ [x2], by go_num, by omega, by simp; omega, HE4, HV4, HS3, HU3⟩
    case measure => simp [intOf]
  ·obtain rfl : k = 0 := by omega
   (go_wp2_with fail; refine (s_l01Next (a := a) (A := A) (c := c) (bs := bs) _ _ HSr.out (by omega)).mono ?_; rintro e w2 ⟨x2, rfl, hb2, hS2, hu2⟩; obtain ⟨hc2, hf2, hs2⟩ := hu2.all; (try simp at hs2); have := (show g < w2.heap.size from by omega))
   have HV2 := hI (HV.out.but hu2 hlt)
   have HS2 := hI hS2
   have HU2 := hI (HUr.out.trans hu2)
   clear hu2 hS2 hc2 hf2 hb2 HSr HUr HV
   by_cases q0 : x2 = 0
   ·subst q0
    go_wp2_with fail
    refine (s_l12Draw (a := a) (A := A) (c := c) (bs := bs) _ HS2.out).mono ?_
    rintro e w3 ⟨l, rfl, hb3, hS3, hu3⟩
    have hs3 := hu3.size
    have HV3 := hI (HV2.out.but hu3 hlt)
    have HU3 := hI (HU2.out.trans hu3)
    have HS3 := hI hS3
    have HL3 : Hid (LnkOk l) := hI hb3
    clear hu3 hS3 hb3
    go_wp2_with (at_builtin; refine wpList_append_sl elK len_encK one_encK rfl _ _ rfl rfl (HV3.out.ext (xA xR)) (xs := [l]) rfl (blk_k1 (l := l) (bN (by omega)) rfl) (by simp; unfold maxLen; omega) (by simp; omega) (by first | omega | (simp; omega)) ?_)
    intro v' w4 hown hgrow _
    have HS4 : Hid (Src a A c bs g w4) := hI ((HS3.out.alloc _).grownR hgrow (fun q hq => by have := (HV3.out.row q hq).1; omega))
    have HU4 : Hid (But g w w4) := hI ((HU3.out.alloc _).grownR hgrow (fun q hq => (HV3.out.row q hq).1))
    have hown' : OwK w4 w.heap.size v' (L ++ [l]) := hown
    obtain ⟨A4, c4, rfl, hS4, hc4, _, hA4⟩ := hown'.sl len_encK
    have HS5 := hI hS4
    have HA5 := hI hA4
    clear hown hown' hgrow hS4 hA4
    go_wp2
    go_ret
    exact ⟨A4, c4, L ++ [l], rfl, HS5.out, hc4, ⟨by simp; omega, HE1.out.snoc HL3.out, fun q hq => (HA5.out q hq).1⟩, HS4.out, HU4.out⟩
   ·have e0 : (x2 == 0) = false := beq_eq_false_iff_ne.2 q0
    by_cases q1 : x2 = 1
    ·subst q1
     have hl12 : L.length ≤ 21 := by omega
     clear hlk hk9
     go_wp2
     go_loopw [3, 7] (fun v i wr => ∃ (k : Nat) (L : List Lk), i = .int .i64 k ∧ k ≤ L.length ∧ L.length ≤ 21 ∧ Hid (LnksOk L) ∧ Hid (OwK wr w.heap.size v L) ∧ Hid (Src a A c bs g wr) ∧ Hid (But g w wr)) (fun v _ _ => 21 - lenV v)
     case atStart => exact ⟨0, L, by go_num, by omega, hl12, HE1, HV2, HS2, HU2⟩
     case round =>
      clear HV2 HS2 HU2 HE1 hl12
      obtain ⟨k, L, rfl, hkl, hl21, HE1, HV, HSr, HUr⟩ := hrel
      have hglt := HSr.out.lt
      have hsr := HUr.out.size
      obtain ⟨A4, c4, hv4, hS4, hc4, _, hA4⟩ := HV.out.sl len_encK
      subst hv4
      have HS4 := hI hS4
      have HA4 := hI hA4
      clear hS4 hA4
      (go_wp2_with fail; refine (s_l01Next (a := a) (A := A) (c := c) (bs := bs) _ _ HSr.out (by omega)).mono ?_; rintro e w5 ⟨x5, rfl, hb5, hS5, hu5⟩; obtain ⟨hc5, hf5, hs5⟩ := hu5.all; (try simp at hs5); have := (show g < w5.heap.size from by omega))
      have HV5 := hI (HV.out.but hu5 hlt)
      have HS5 := hI hS5
      have HU5 := hI (HUr.out.trans hu5)
      have hx5 : 0 ≤ x5 ∧ x5 ≤ 1 := by omega
      clear hu5 hS5 hc5 hf5 hb5 HSr HUr HV
      clear HS4 HA4
      have hw7 : IntKind.i64.wrap (20 + x5) = 20 + x5 := IntWalk.i64_in _ (by omega)
      have hw8 : IntKind.i64.wrap (2000 + (k : Int)) = 2000 + k := IntWalk.i64_in _ (by omega)
      have hw9 : IntKind.i64.wrap ((k : Int) + 1) = ((k + 1 : Nat) : Int) := by rw [IntWalk.i64_in _ (by omega)]; omega
      obtain ⟨n4, hn4⟩ : ∃ n, n = L.length := ⟨_, rfl⟩
      rw [← hn4] at HV5 hkl hl21 ⊢
      replace hn4 := hI hn4
      by_cases hc : (n4 : Int) < 20 + x5
      ·have hA1 : k + 1 ≤ n4 + 1 := by omega
       have hA2 : n4 + 1 ≤ 21 := by omega
       go_wp2_with (at_builtin; refine wpList_append_sl elK len_encK one_encK rfl _ _ rfl rfl (base := w.heap.size) (ys := L) ?_ (xs := [([122, 101, 100], [97, 115, 104], 2000 + (k : Int), 2000 + (k : Int))]) rfl ?_ ?_ ?_ ?_ ?_)
       ·exact HV5.out.ext (xA xR)
       ·exact blk_k1 (Blk.new rfl) rfl
       ·rw [← hn4.out]; simp only [List.length_singleton]; unfold maxLen; omega
       ·rw [← hn4.out]; simp only [List.length_singleton]; omega
       ·simp; omega
       intro v' w6 hown hgrow _
       have HS6 : Hid (Src a A c bs g w6) := hI ((HS5.out.alloc _).grownR hgrow (fun q hq => by have := (HV5.out.row q hq).1; omega))
       have HU6 : Hid (But g w w6) := hI ((HU5.out.alloc _).grownR hgrow (fun q hq => (HV5.out.row q hq).1))
       have hown' : OwK w6 w.heap.size v' (L ++ [([122, 101, 100], [97, 115, 104], 2000 + (k : Int), 2000 + (k : Int))]) := hown
       have HV6 := hI hown'
       obtain ⟨A6, c6, hv6, _, _, _, _⟩ := hown'.sl len_encK
       have HE6 := hI (HE1.out.snoc (l := ([122, 101, 100], [97, 115, 104], 2000 + (k : Int), 2000 + (k : Int))) ⟨by simp, by simp, by simp only; omega, by simp only; omega⟩)
       have hlv : lenV v' = n4 + 1 := by rw [hv6, hn4.out]; simp [lenV]
       clear hown hown' hgrow hv6
       go_wp2
       go_roundw
       case rel => exact ⟨k + 1, _, by go_num, by rw [List.length_append, ← hn4.out]; exact hA1, by rw [List.length_append, ← hn4.out]; exact hA2, HE6, HV6, HS6, HU6⟩
       case measure => rw [hlv]; simp only [lenV]; have := hn4.out; omega
      ·obtain ⟨A7, c7, hv7, hS7, hc7, _, hA7⟩ := HV5.out.sl len_encK
       injection hv7 with h1 h2 h3
       subst h1 h3
       clear h2
       have hn7 : n4 ≤ 21 := by omega
       have HS7 := hI hS7
       have HA7 := hI hA7
       clear hS7 hA7
       go_wp2
       go_ret
       exact ⟨A4, c4, L, by first | rfl | (rw [hn4.out]; rfl), HS7.out, hc7, ⟨by have := hn4.out; omega, HE1.out, fun q hq => (HA7.out q hq).1⟩, HS5.out, HU5.out⟩
    ·have e1 : (x2 == 1) = false := beq_eq_false_iff_ne.2 q1
     obtain ⟨A4, c4, rfl, hS4, hc4, _, hA4⟩ := HV2.out.sl len_encK
     have HS4 := hI hS4
     go_wp2
     go_ret
     exact ⟨A4, c4, L, rfl, HS4.out, hc4, ⟨by omega, HE1.out, fun q hq => (hA4 q hq).1⟩, HS2.out, HU2.out⟩
theorem SlAt.butG {α : Type} {enc : α → List Value} {sz g : Nat} {w w' : World} {A : Option Addr} {xs : List α} (h : SlAt w sz enc A xs) (hm : But g w w') (ha : ∀ q, A = some q → ¬ q.block = g) : SlAt w' sz enc A xs := fun hn => by
 obtain ⟨b, off, e, hb, hc⟩ := h hn
 refine ⟨b, off, e, Nat.lt_of_lt_of_le hb hm.size, fun i x hi j u hj => ?_⟩
 exact (World.cell?_of_block (a := ⟨b, off + i * sz + j, none⟩) (hm.block b hb (ha _ e))).trans (hc i x hi j u hj)
set_option maxRecDepth 20000 in
set_option maxHeartbeats 6400000 in
theorem s_l11YearOf {a : World} {A : Option Addr} {c : Nat} {bs : List Int} {g : Nat} (w : World) (h : Src a A c bs g w) :
  Calls Tryz.prog 29 #[.pointer (some ⟨g, 0, none⟩)] w fun e w' => ∃ y : Int, e = .returned (.int .i64 y) ∧ (-4000 ≤ y ∧ y ≤ 4000) ∧ Src a A c bs g w' ∧ But g w w' := by
 have hlt := h.lt
 have how := h.own
 have hasz := h.ext.size
 go_enter Tryz.func29, Tryz.ntmps29
 (go_wp2_with fail; refine (s_l01Next (a := a) (A := A) (c := c) (bs := bs) _ _ h (by omega)).mono ?_; rintro e w1 ⟨x1, rfl, hb1, hS1, hu1⟩; obtain ⟨hc1, hf1, hs1⟩ := hu1.all; (try simp at hs1); have := (show g < w1.heap.size from by omega))
 have hw1 : IntKind.i64.wrap (1000 + x1) = 1000 + x1 := IntWalk.i64_in _ (by omega)
 have hz1 : 0 ≤ x1 ∧ x1 ≤ 1200 := by omega
 clear hb1
 (go_wp2_with fail; refine (s_l01Next (a := a) (A := A) (c := c) (bs := bs) _ _ hS1 (by omega)).mono ?_; rintro e w2 ⟨x2, rfl, hb2, hS2, hu2⟩; obtain ⟨hc2, hf2, hs2⟩ := hu2.all; (try simp at hs2); have := (show g < w2.heap.size from by omega))
 have hw2 : IntKind.i64.wrap (1300 + x2) = 1300 + x2 := IntWalk.i64_in _ (by omega)
 have hz2 : 0 ≤ x2 ∧ x2 ≤ 500 := by omega
 clear hb2
 (go_wp2_with fail; refine (s_l01Next (a := a) (A := A) (c := c) (bs := bs) _ _ hS2 (by omega)).mono ?_; rintro e w3 ⟨x3, rfl, hb3, hS3, hu3⟩; obtain ⟨hc3, hf3, hs3⟩ := hu3.all; (try simp at hs3); have := (show g < w3.heap.size from by omega))
 have hw3 : IntKind.i64.wrap (1300 + x3) = 1300 + x3 := IntWalk.i64_in _ (by omega)
 have hz3 : 0 ≤ x3 ∧ x3 ≤ 500 := by omega
 clear hb3
 (go_wp2_with fail; refine (s_l01Next (a := a) (A := A) (c := c) (bs := bs) _ _ hS3 (by omega)).mono ?_; rintro e w4 ⟨x4, rfl, hb4, hS4, hu4⟩; obtain ⟨hc4, hf4, hs4⟩ := hu4.all; (try simp at hs4); have := (show g < w4.heap.size from by omega))
 have hw4 : IntKind.i64.wrap (1000 + x4) = 1000 + x4 := IntWalk.i64_in _ (by omega)
 have hz4 : 0 ≤ x4 ∧ x4 ≤ 1200 := by omega
 clear hb4
 (go_wp2_with fail; refine (s_l01Pick (a := a) (A := A) (c := c) (bs := bs) _ 0 _ [1000 + x1, 1300 + x2, 1300 + x3, 3000, 3001, 1000 + x4] _ (sA hS4) (Blk.sl (bN (by omega)) (by rfl) (fun _ => rfl)) (by simp) (by simp) (by simp) (by omega)).mono ?_; rintro e w5 ⟨x5, rfl, hb5, hS5, hu5⟩; obtain ⟨hc5, hf5, hs5⟩ := hu5.all; (try simp at hs5); have := (show g < w5.heap.size from by omega))
 have hy : -4000 ≤ x5 ∧ x5 ≤ 4000 := by
  simp at hb5
  omega
 clear hb5
 go_wp2
 go_ret
 exact ⟨x5, rfl, hy, hS5, uT (uA (uT (uT (uT hu1 hu2) hu3) hu4)) hu5⟩
end Go.Proofs.YtlnliajnipniaaaGreatDoor
