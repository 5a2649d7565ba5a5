/- Words that are drawn. Spans that are drawn. Words and codes of places that are drawn. Links that are drawn. Links that are drawn, rarely others. -/
import Derived.Test.YtlnliajnipniaaaGreatDoorGU
namespace Go.Proofs.YtlnliajnipniaaaGreatDoor
open Go.RowKit
theorem SlAt.butN {α : Type} {enc : α → List Value} {sz g b off : Nat} {w w' : World} {xs : List α} (h : SlAt w sz enc (some ⟨b, off, none⟩) xs) (hm : But g w w') (ha : ¬ b = g) : SlAt w' sz enc (some ⟨b, off, none⟩) xs := fun hn => by
 obtain ⟨b', off', e, hb, hc⟩ := h hn
 injection e with e
 injection e with e1 e2
 subst e1 e2
 refine ⟨b, off, rfl, Nat.lt_of_lt_of_le hb hm.size, fun i x hi j u hj => ?_⟩
 exact (World.cell?_of_block (a := ⟨b, off + i * sz + j, none⟩) (hm.block b hb ha)).trans (hc i x hi j u hj)
def partsT : List (List UInt8) := [[97, 115, 104], [102, 111, 114, 100], [116, 111, 110], [98, 121], [107, 105, 114, 107], [104, 97, 114], [119, 105, 99, 107], [101, 108, 121], [111, 115], [108, 111], [98, 114, 105, 103], [109, 97], [114, 105], [110, 97], [115, 116], [97, 101]]
theorem parts_ok : ∀ j, j < 16 → (partsT.getD j []).all lowB = true ∧ 1 ≤ (partsT.getD j []).length ∧ (partsT.getD j []).length ≤ 4 := by decide
def WdTx (t : List UInt8) (k : Nat) : Prop := t.all lowB = true ∧ t.length + 4 * k ≤ 12 ∧ (1 ≤ t.length ∨ 1 ≤ k)
theorem WdTx.step {t p : List UInt8} {k : Nat} (h : WdTx t (k + 1)) (hp : p.all lowB = true ∧ 1 ≤ p.length ∧ p.length ≤ 4) : WdTx (t ++ p) k := by
 obtain ⟨h1, h2, _⟩ := h
 refine ⟨by rw [List.all_append, h1, hp.1]; rfl, by rw [List.length_append]; omega, by rw [List.length_append]; omega⟩
set_option maxRecDepth 20000 in
set_option maxHeartbeats 6400000 in
theorem s_l01Good {a : World} {A : Option Addr} {c : Nat} {bs : List Int} {g : Nat} (w : World) (h : Src a A c bs g w) :
  Calls Tryz.prog 113 #[.pointer (some ⟨g, 0, none⟩)] w fun e w' => ∃ t : List UInt8, e = .returned (.string (tx t)) ∧ (smL t 1 16 = true ∧ t.length ≤ 12) ∧ Src a A c bs g w' ∧ But g w w' := by
 have hlt := h.lt
 have how := h.own
 have hasz := h.ext.size
 have nb : ¬ w.heap.size = g := by omega
 go_enter Tryz.func113, Tryz.ntmps113
 (go_wp2_with fail; refine (s_l01Next (a := a) (A := A) (c := c) (bs := bs) _ _ (sA h) (by omega)).mono ?_; rintro e w1 ⟨x1, rfl, hb1, hS1, hu1⟩; obtain ⟨hc1, hf1, hs1⟩ := hu1.all; (try simp at hs1); have := (show w.heap.size < w1.heap.size from by omega))
 obtain ⟨m, rfl⟩ := Int.eq_ofNat_of_zero_le hb1.1
 have hm3 : m ≤ 2 := by omega
 have hP : Blk w1 w.heap.size 9 #[.string (tx [97, 115, 104]), .string (tx [102, 111, 114, 100]), .string (tx [116, 111, 110]), .string (tx [98, 121]), .string (tx [107, 105, 114, 107]), .string (tx [104, 97, 114]), .string (tx [119, 105, 99, 107]), .string (tx [101, 108, 121]), .string (tx [111, 115]), .string (tx [108, 111]), .string (tx [98, 114, 105, 103]), .string (tx [109, 97]), .string (tx [114, 105]), .string (tx [110, 97]), .string (tx [115, 116]), .string (tx [97, 101])] := Blk.eq (bU hu1 nb (bN (by omega))) (by rfl)
 have HP1 : Hid (SlAt w1 1 encS (some ⟨w.heap.size, 0, none⟩) partsT) := hI (hP.sl rfl len_encS)
 have HS1 := hI hS1
 have HU1 : Hid (But g w w1) := hI (uT (uA uR) hu1)
 clear hP
 go_wp2
 go_loopw [4, 5] (fun s i wr => ∃ (t : List UInt8) (k : Nat), s = .string (tx t) ∧ i = .int .i64 k ∧ k ≤ 3 ∧ Hid (WdTx t k) ∧ Hid (Src a A c bs g wr) ∧ Hid (But g w wr) ∧ Hid (SlAt wr 1 encS (some ⟨w.heap.size, 0, none⟩) partsT) ∧ w.heap.size < wr.heap.size) (fun _ i _ => (intOf i).toNat)
 case atStart => exact ⟨[], m + 1, rfl, by go_num, by omega, hI ⟨rfl, by simp; omega, by omega⟩, HS1, HU1, HP1, by omega⟩
 case round =>
  obtain ⟨t, k, rfl, rfl, hk3, HT, HSr, HU, HP, hwl⟩ := hrel
  by_cases hk0 : 0 < k
  ·obtain ⟨q, rfl⟩ : ∃ q, k = q + 1 := ⟨k - 1, by omega⟩
   (go_wp2_with fail; refine (s_l01Next (a := a) (A := A) (c := c) (bs := bs) _ _ HSr.out (by omega)).mono ?_; rintro e w2 ⟨x2, rfl, hb2, hS2, hu2⟩; obtain ⟨hc2, hf2, hs2⟩ := hu2.all; (try simp at hs2); have := (show w.heap.size < w2.heap.size from by omega))
   obtain ⟨j, rfl⟩ := Int.eq_ofNat_of_zero_le hb2.1
   have hj : j < 16 := by omega
   have HP2 := hI (HP.out.butN hu2 nb)
   have hcell := HP.out.st' (k := j) hj
   have hpo := parts_ok j hj
   have HT2 := hI (HT.out.step hpo)
   have hlt1 := HT.out.2.1
   have hps := hpo.2.2
   have HU2 := hI (HU.out.trans hu2)
   have HS2 := hI hS2
   obtain ⟨p, hp⟩ : ∃ p, p = partsT.getD j [] := ⟨_, rfl⟩
   rw [← hp] at hcell HT2 hps
   simp only [Nat.zero_add] at hcell
   have hfit : ((tx t).size + (tx p).size > 9223372036854775807) = False := eq_false (by rw [tx_size, tx_size]; omega)
   have HADD := hI (tx_add t p)
   clear hp hpo hps hlt1
   generalize tx t = st at *
   generalize tx p = sp at *
   go_wp2
   go_roundw
   case rel => exact ⟨t ++ p, q, by rw [HADD.out], by go_num, by omega, HT2, HS2, HU2, HP2, by omega⟩
   case measure => simp [intOf]
  ·obtain rfl : k = 0 := by omega
   go_wp2
   go_ret
   refine ⟨t, rfl, ⟨?_, by have := HT.out.2.1; omega⟩, HSr.out, HU.out⟩
   obtain ⟨h1, h2, h3⟩ := HT.out
   unfold smL
   rw [h1]
   simp [inB]
   omega
set_option maxRecDepth 20000 in
set_option maxHeartbeats 6400000 in
theorem s_l02Good {a : World} {A : Option Addr} {c : Nat} {bs : List Int} {g : Nat} (w : World) (h : Src a A c bs g w) :
  Calls Tryz.prog 176 #[.pointer (some ⟨g, 0, none⟩)] w fun e w' => ∃ p : Int × Int, e = .returned (.agg #[.int .i64 p.1, .int .i64 p.2]) ∧ (1000 ≤ p.1 ∧ p.1 ≤ p.2 ∧ p.2 ≤ 3000) ∧ Src a A c bs g w' ∧ But g w w' := by
 have hlt := h.lt
 have how := h.own
 have hasz := h.ext.size
 have nb : ¬ w.heap.size = g := by omega
 have nb' : ¬ g = w.heap.size := by omega
 go_enter Tryz.func176, Tryz.ntmps176
 (go_wp2_with fail; refine (s_l01Next (a := a) (A := A) (c := c) (bs := bs) _ _ (sA h) (by omega)).mono ?_; rintro e w1 ⟨x1, rfl, hb1, hS1, hu1⟩; obtain ⟨hc1, hf1, hs1⟩ := hu1.all; (try simp at hs1); have := (show w.heap.size < w1.heap.size from by omega))
 obtain ⟨f, hf⟩ : ∃ f, f = 1000 + x1 := ⟨_, rfl⟩
 have hfw : IntKind.i64.wrap (1000 + x1) = f := by rw [hf]; exact IntWalk.i64_in _ (by omega)
 have hf0 : 1000 ≤ f ∧ f ≤ 1999 := by omega
 clear hf
 (go_wp2_with fail; refine (s_l01Next (a := a) (A := A) (c := c) (bs := bs) _ _ hS1 (by omega)).mono ?_; rintro e w2 ⟨x2, rfl, hb2, hS2, hu2⟩; obtain ⟨hc2, hf2, hs2⟩ := hu2.all; (try simp at hs2); have := (show w.heap.size < w2.heap.size from by omega))
 (go_wp2_with fail; refine (s_l01Next (a := a) (A := A) (c := c) (bs := bs) _ _ hS2 (by omega)).mono ?_; rintro e w3 ⟨x3, rfl, hb3, hS3, hu3⟩; obtain ⟨hc3, hf3, hs3⟩ := hu3.all; (try simp at hs3); have := (show w.heap.size < w3.heap.size from by omega))
 (go_wp2_with fail; refine (s_l01Pick (a := a) (A := A) (c := c) (bs := bs) _ 0 _ [0, x2, x3, 2000] _ (sA hS3) (Blk.sl (bN (by omega)) (by rfl) (fun _ => rfl)) (by simp) (by simp) (by simp) (by omega)).mono ?_; rintro e w4 ⟨x4, rfl, hb4, hS4, hu4⟩; obtain ⟨hc4, hf4, hs4⟩ := hu4.all; (try simp at hs4); have := (show w.heap.size < w4.heap.size from by omega))
 have hx4 : 0 ≤ x4 ∧ x4 ≤ 2000 := by
  simp at hb4
  omega
 obtain ⟨y, hy⟩ : ∃ y, y = f + x4 := ⟨_, rfl⟩
 have hyw : IntKind.i64.wrap (f + x4) = y := by rw [hy]; exact IntWalk.i64_in _ (by omega)
 have hy0 : f ≤ y := by omega
 clear hy hb4
 go_wp2
 refine ret_pts1 (b0 := w.heap.size) (t := 36) (v := .agg #[.int .i64 f, .int .i64 (min 3000 y)]) (Blk.eq (bS (bS (bU hu4 nb (bA (bU hu3 nb (bU hu2 nb (bU hu1 nb (bN (by omega))))))))) (by rfl)) rfl (by intro W' r0 r1; simp [results, Tryz.results176, go_sem, r0, r1]) ⟨(f, min 3000 y), rfl, by simp only; omega, sF nb' hasz (sF nb' hasz hS4), uW (by omega) (uW (by omega) (uT (uA (uT (uT (uT (uA uR) hu1) hu2) hu3)) hu4))⟩
set_option maxRecDepth 20000 in
set_option maxHeartbeats 12800000 in
theorem s_l02Draw {a : World} {A : Option Addr} {c : Nat} {bs : List Int} {g : Nat} (w : World) (h : Src a A c bs g w) :
  Calls Tryz.prog 154 #[.pointer (some ⟨g, 0, none⟩)] w fun e w' => ∃ p : Int × Int, e = .returned (.agg #[.int .i64 p.1, .int .i64 p.2]) ∧ ((-3001 ≤ p.1 ∧ p.1 ≤ 3001) ∧ -3001 ≤ p.2 ∧ p.2 ≤ 3001) ∧ Src a A c bs g w' ∧ But g w w' := by
 have hlt := h.lt
 have how := h.own
 have hasz := h.ext.size
 have nb : ¬ w.heap.size = g := by omega
 have nb' : ¬ g = w.heap.size := by omega
 go_enter Tryz.func154, Tryz.ntmps154
 (go_wp2_with fail; refine (s_l02Good (a := a) (A := A) (c := c) (bs := bs) _ (sA h)).mono ?_; rintro e w1 ⟨x1, rfl, hb1, hS1, hu1⟩; obtain ⟨hc1, hf1, hs1⟩ := hu1.all; (try simp at hs1); have := (show w.heap.size < w1.heap.size from by omega))
 obtain ⟨p1, p2⟩ := x1
 simp only at hb1
 have nd : ¬ w1.heap.size = g := by omega
 have nd2 : ¬ w1.heap.size = w.heap.size := by omega
 have nd' : ¬ w.heap.size = w1.heap.size := by omega
 (go_wp2_with fail; refine (s_l01Next (a := a) (A := A) (c := c) (bs := bs) _ _ (sA hS1) (by omega)).mono ?_; rintro e w2 ⟨x2, rfl, hb2, hS2, hu2⟩; obtain ⟨hc2, hf2, hs2⟩ := hu2.all; (try simp at hs2); have := (show w.heap.size < w2.heap.size from by omega); have := (show w1.heap.size < w2.heap.size from by omega); have := (show g < w2.heap.size from by omega))
 have B2 : Blk w2 w1.heap.size 36 #[.int .i64 p1, .int .i64 p2] := Blk.eq (bU hu2 nd (bN (by omega))) (by rfl)
 have y0 := B2.frozen 0
 have y1 := B2.frozen 1
 have cy0 : w2.cell? ⟨w1.heap.size, 0, none⟩ = some (.int .i64 p1) := B2.cell 0
 have cy1 : w2.cell? ⟨w1.heap.size, 1, none⟩ = some (.int .i64 p2) := B2.cell 1
 by_cases q0 : x2 = 0
 ·subst q0
  go_wp2
  refine ret_pts1 (b0 := w.heap.size) (t := 36) (v := .agg #[.int .i64 p1, .int .i64 (p1 - 1)]) (Blk.eq (bS (bS (bF nd' (bU hu2 nb (bA (bU hu1 nb (bN (by omega)))))))) (by rfl)) rfl (by intro W' r0 r1; simp [results, Tryz.results154, go_sem, r0, r1]) ⟨(p1, (p1 - 1)), rfl, by simp only; omega, sF nb' hasz (sF nb' hasz (sF (by first|omega|simp) (by first|omega|simp) hS2)), uW (by omega) (uW (by omega) (uW (by first|omega|simp) (uT (uA (uT (uA uR) hu1)) hu2)))⟩
 ·have e0 : (x2 == 0) = false := beq_eq_false_iff_ne.2 q0
  by_cases q1 : x2 = 1
  ·subst q1
   (go_wp2_with fail; refine (s_l01Pick (a := a) (A := A) (c := c) (bs := bs) _ 0 _ [-3000, -3001, 3001] _ (sA hS2) (Blk.sl (bN (by omega)) (by rfl) (fun _ => rfl)) (by simp) (by simp) (by simp) (by omega)).mono ?_; rintro e w3 ⟨x3, rfl, hb3, hS3, hu3⟩; obtain ⟨hc3, hf3, hs3⟩ := hu3.all; (try simp at hs3); have := (show w.heap.size < w3.heap.size from by omega); have := (show w1.heap.size < w3.heap.size from by omega); have := (show g < w3.heap.size from by omega))
   have hx3 : -3001 ≤ x3 ∧ x3 ≤ 3001 := by simp at hb3; omega
   clear hb3
   have B3 : Blk w3 w1.heap.size 36 #[.int .i64 p1, .int .i64 p2] := Blk.eq (bU hu3 nd (bA B2)) (by rfl)
   have v0 := B3.frozen 0
   have v1 := B3.frozen 1
   have cv0 : w3.cell? ⟨w1.heap.size, 0, none⟩ = some (.int .i64 p1) := B3.cell 0
   have cv1 : w3.cell? ⟨w1.heap.size, 1, none⟩ = some (.int .i64 p2) := B3.cell 1
   have B4 : Blk w3 w.heap.size 36 #[.int .i64 0, .int .i64 0] := Blk.eq (bU hu3 nb (bA (bU hu2 nb (bA (bU hu1 nb (bN (by omega))))))) (by rfl)
   have v2 := B4.frozen 0
   have v3 := B4.frozen 1
   have cv2 : w3.cell? ⟨w.heap.size, 0, none⟩ = some (.int .i64 0) := B4.cell 0
   have cv3 : w3.cell? ⟨w.heap.size, 1, none⟩ = some (.int .i64 0) := B4.cell 1
   go_wp2
   refine ret_pts1 (b0 := w.heap.size) (t := 36) (v := .agg #[.int .i64 x3, .int .i64 p2]) (Blk.eq (bS (bS (bF nd' B4))) (by rfl)) rfl (by intro W' r0 r1; simp [results, Tryz.results154, go_sem, r0, r1]) ⟨(x3, p2), rfl, by simp only; omega, sF nb' hasz (sF nb' hasz (sF (by first|omega|simp) (by first|omega|simp) hS3)), uW (by omega) (uW (by omega) (uW (by first|omega|simp) (uT (uA (uT (uA (uT (uA uR) hu1)) hu2)) hu3)))⟩
  ·have e1 : (x2 == 1) = false := beq_eq_false_iff_ne.2 q1
   by_cases q2 : x2 = 2
   ·subst q2
    (go_wp2_with fail; refine (s_l01Pick (a := a) (A := A) (c := c) (bs := bs) _ 0 _ [3000, 3001] _ (sA hS2) (Blk.sl (bN (by omega)) (by rfl) (fun _ => rfl)) (by simp) (by simp) (by simp) (by omega)).mono ?_; rintro e w3 ⟨x3, rfl, hb3, hS3, hu3⟩; obtain ⟨hc3, hf3, hs3⟩ := hu3.all; (try simp at hs3); have := (show w.heap.size < w3.heap.size from by omega); have := (show w1.heap.size < w3.heap.size from by omega); have := (show g < w3.heap.size from by omega))
    have hx3 : -3001 ≤ x3 ∧ x3 ≤ 3001 := by simp at hb3; omega
    clear hb3
    have B3 : Blk w3 w1.heap.size 36 #[.int .i64 p1, .int .i64 p2] := Blk.eq (bU hu3 nd (bA B2)) (by rfl)
    have v0 := B3.frozen 0
    have v1 := B3.frozen 1
    have cv0 : w3.cell? ⟨w1.heap.size, 0, none⟩ = some (.int .i64 p1) := B3.cell 0
    have cv1 : w3.cell? ⟨w1.heap.size, 1, none⟩ = some (.int .i64 p2) := B3.cell 1
    have B4 : Blk w3 w.heap.size 36 #[.int .i64 0, .int .i64 0] := Blk.eq (bU hu3 nb (bA (bU hu2 nb (bA (bU hu1 nb (bN (by omega))))))) (by rfl)
    have v2 := B4.frozen 0
    have v3 := B4.frozen 1
    have cv2 : w3.cell? ⟨w.heap.size, 0, none⟩ = some (.int .i64 0) := B4.cell 0
    have cv3 : w3.cell? ⟨w.heap.size, 1, none⟩ = some (.int .i64 0) := B4.cell 1
    go_wp2
    refine ret_pts1 (b0 := w.heap.size) (t := 36) (v := .agg #[.int .i64 p1, .int .i64 x3]) (Blk.eq (bS (bS (bF nd' B4))) (by rfl)) rfl (by intro W' r0 r1; simp [results, Tryz.results154, go_sem, r0, r1]) ⟨(p1, x3), rfl, by simp only; omega, sF nb' hasz (sF nb' hasz (sF (by first|omega|simp) (by first|omega|simp) hS3)), uW (by omega) (uW (by omega) (uW (by first|omega|simp) (uT (uA (uT (uA (uT (uA uR) hu1)) hu2)) hu3)))⟩
   ·have e2 : (x2 == 2) = false := beq_eq_false_iff_ne.2 q2
    go_wp2
    refine ret_pts1 (b0 := w.heap.size) (t := 36) (v := .agg #[.int .i64 p1, .int .i64 p2]) (Blk.eq (bS (bS (bU hu2 nb (bA (bU hu1 nb (bN (by omega))))))) (by rfl)) rfl (by intro W' r0 r1; simp [results, Tryz.results154, go_sem, r0, r1]) ⟨(p1, p2), rfl, by simp only; omega, sF nb' hasz (sF nb' hasz hS2), uW (by omega) (uW (by omega) (uT (uA (uT (uA uR) hu1)) hu2))⟩
set_option maxRecDepth 20000 in
set_option maxHeartbeats 6400000 in
theorem s_l01DrawWord {a : World} {A : Option Addr} {c : Nat} {bs : List Int} {g : Nat} (w : World) (h : Src a A c bs g w) :
  Calls Tryz.prog 153 #[.pointer (some ⟨g, 0, none⟩)] w fun e w' => ∃ t : List UInt8, e = .returned (.string (tx t)) ∧ t.length ≤ 17 ∧ Src a A c bs g w' ∧ But g w w' := by
 have hlt := h.lt
 have how := h.own
 have hasz := h.ext.size
 go_enter Tryz.func153, Tryz.ntmps153
 (go_wp2_with fail; refine (s_l01Next (a := a) (A := A) (c := c) (bs := bs) _ _ h (by omega)).mono ?_; rintro e w1 ⟨x1, rfl, hb1, hS1, hu1⟩; obtain ⟨hc1, hf1, hs1⟩ := hu1.all; (try simp at hs1); have := (show g < w1.heap.size from by omega))
 by_cases q0 : x1 = 0
 ·subst q0
  (go_wp2_with fail; refine (s_l01Next (a := a) (A := A) (c := c) (bs := bs) _ _ (sA hS1) (by omega)).mono ?_; rintro e w3 ⟨x3, rfl, hb3, hS3, hu3⟩; obtain ⟨hc3, hf3, hs3⟩ := hu3.all; (try simp at hs3); have := (show g < w3.heap.size from by omega); have := (show w1.heap.size < w3.heap.size from by omega))
  obtain ⟨j, rfl⟩ := Int.eq_ofNat_of_zero_le hb3.1
  have hj : j < 6 := by omega
  have hP : Blk w3 w1.heap.size 9 #[.string (tx []), .string (tx [70, 111, 114, 100]), .string (tx [97, 49]), .string (tx [97, 98, 99, 100, 101, 102, 103, 104, 105, 106, 107, 108, 109, 110, 111, 112]), .string (tx [97, 98, 99, 100, 101, 102, 103, 104, 105, 106, 107, 108, 109, 110, 111, 112, 113]), .string (tx [97, 32, 98])] := Blk.eq (bU hu3 (by omega) (bN (by omega))) (by rfl)
  have hcell : ∃ t : List UInt8, t.length ≤ 17 ∧ w3.cell? ⟨w1.heap.size, j, none⟩ = some (.string (tx t)) := by
   rcases (show j = 0 ∨ j = 1 ∨ j = 2 ∨ j = 3 ∨ j = 4 ∨ j = 5 by omega) with rfl | rfl | rfl | rfl | rfl | rfl
   ·exact ⟨_, by decide, hP.cell 0⟩
   ·exact ⟨_, by decide, hP.cell 1⟩
   ·exact ⟨_, by decide, hP.cell 2⟩
   ·exact ⟨_, by decide, hP.cell 3⟩
   ·exact ⟨_, by decide, hP.cell 4⟩
   ·exact ⟨_, by decide, hP.cell 5⟩
  obtain ⟨t, ht, hcell⟩ := hcell
  clear hP
  have HF := hI hS3
  go_wp2
  go_ret
  exact ⟨t, rfl, ht, HF.out, uT (uA hu1) hu3⟩
 ·have e0 : (x1 == 0) = false := beq_eq_false_iff_ne.2 q0
  (go_wp2_with fail; refine (s_l01Good (a := a) (A := A) (c := c) (bs := bs) _ hS1).mono ?_; rintro e w2 ⟨x2, rfl, hb2, hS2, hu2⟩; obtain ⟨hc2, hf2, hs2⟩ := hu2.all; (try simp at hs2); have := (show g < w2.heap.size from by omega))
  go_wp2
  go_ret
  exact ⟨x2, rfl, by omega, hS2, uT hu1 hu2⟩
set_option maxRecDepth 20000 in
set_option maxHeartbeats 6400000 in
theorem s_l12DrawCode {a : World} {A : Option Addr} {c : Nat} {bs : List Int} {g : Nat} (w : World) (h : Src a A c bs g w) :
  Calls Tryz.prog 99 #[.pointer (some ⟨g, 0, none⟩)] w fun e w' => ∃ t : List UInt8, e = .returned (.string (tx t)) ∧ t.length ≤ 4 ∧ Src a A c bs g w' ∧ But g w w' := by
 have hlt := h.lt
 have how := h.own
 have hasz := h.ext.size
 go_enter Tryz.func99, Tryz.ntmps99
 (go_wp2_with fail; refine (s_l01Next (a := a) (A := A) (c := c) (bs := bs) _ _ (sA h) (by omega)).mono ?_; rintro e w3 ⟨x3, rfl, hb3, hS3, hu3⟩; obtain ⟨hc3, hf3, hs3⟩ := hu3.all; (try simp at hs3); have := (show g < w3.heap.size from by omega); have := (show w.heap.size < w3.heap.size from by omega))
 obtain ⟨j, rfl⟩ := Int.eq_ofNat_of_zero_le hb3.1
 have hj : j < 11 := by omega
 have hP : Blk w3 w.heap.size 9 #[.string (tx [97, 115, 104]), .string (tx [98, 114, 105, 103]), .string (tx [99, 111, 114, 107]), .string (tx [100, 101, 118, 97]), .string (tx [101, 108, 121]), .string (tx [102, 105, 102, 101]), .string (tx [103, 97, 116, 101]), .string (tx [104, 117, 108, 108]), .string (tx [122, 101, 100]), .string (tx []), .string (tx [69, 108, 121])] := Blk.eq (bU hu3 (by omega) (bN (by omega))) (by rfl)
 have hcell : ∃ t : List UInt8, t.length ≤ 4 ∧ w3.cell? ⟨w.heap.size, j, none⟩ = some (.string (tx t)) := by
  rcases (show j = 0 ∨ j = 1 ∨ j = 2 ∨ j = 3 ∨ j = 4 ∨ j = 5 ∨ j = 6 ∨ j = 7 ∨ j = 8 ∨ j = 9 ∨ j = 10 by omega) with rfl | rfl | rfl | rfl | rfl | rfl | rfl | rfl | rfl | rfl | rfl
  ·exact ⟨_, by decide, hP.cell 0⟩
  ·exact ⟨_, by decide, hP.cell 1⟩
  ·exact ⟨_, by decide, hP.cell 2⟩
  ·exact ⟨_, by decide, hP.cell 3⟩
  ·exact ⟨_, by decide, hP.cell 4⟩
  ·exact ⟨_, by decide, hP.cell 5⟩
  ·exact ⟨_, by decide, hP.cell 6⟩
  ·exact ⟨_, by decide, hP.cell 7⟩
  ·exact ⟨_, by decide, hP.cell 8⟩
  ·exact ⟨_, by decide, hP.cell 9⟩
  ·exact ⟨_, by decide, hP.cell 10⟩
 obtain ⟨t, ht, hcell⟩ := hcell
 clear hP
 have HF := hI hS3
 go_wp2
 go_ret
 exact ⟨t, rfl, ht, HF.out, uT (uA uR) hu3⟩
end Go.Proofs.YtlnliajnipniaaaGreatDoor
namespace Go.Proofs.YtlnliajnipniaaaGreatDoor
open Go.RowKit
attribute [local go_sem] ExtOf.cell ExtOf.frozen
def codesT : List (List UInt8) := [[97, 115, 104], [98, 114, 105, 103], [99, 111, 114, 107], [100, 101, 118, 97], [101, 108, 121], [102, 105, 102, 101], [103, 97, 116, 101], [104, 117, 108, 108]]
theorem codes_ok : ∀ j, j < 8 → (codesT.getD j []).all lowB = true ∧ 1 ≤ (codesT.getD j []).length ∧ (codesT.getD j []).length ≤ 4 := by decide
def codesV : Array Value := #[.string (tx [97, 115, 104]), .string (tx [98, 114, 105, 103]), .string (tx [99, 111, 114, 107]), .string (tx [100, 101, 118, 97]), .string (tx [101, 108, 121]), .string (tx [102, 105, 102, 101]), .string (tx [103, 97, 116, 101]), .string (tx [104, 117, 108, 108])]
theorem codes_cell : ∀ j, j < 8 → codesV[j]? = some (.string (tx (codesT.getD j []))) := by
 intro j hj
 rcases (show j = 0 ∨ j = 1 ∨ j = 2 ∨ j = 3 ∨ j = 4 ∨ j = 5 ∨ j = 6 ∨ j = 7 by omega) with rfl | rfl | rfl | rfl | rfl | rfl | rfl | rfl <;> rfl
theorem blk_is {w : World} {g : Nat} {t : TypeId} {cs cs' : Array Value} (h : Blk w g t cs) (e : cs = cs') : Blk w g t cs' := e ▸ h
theorem ret_lk {P : Program} {fn : Func} {R : Ending → World → Prop} {a : Act} {W : World} {b0 : Nat} {t : TypeId} {x0 x1 x2 x3 v : Value} (h0 : Blk W b0 t #[x0, x1, x2, x3]) (hd : a.defers = [])
  (hres : ∀ W' : World, W'.cell? ⟨b0, 0, none⟩ = some x0 → W'.cell? ⟨b0, 1, none⟩ = some x1 → W'.cell? ⟨b0, 2, none⟩ = some x2 → W'.cell? ⟨b0, 3, none⟩ = some x3 → (results fn a.tmps).run P W' = .ok v W') (hR : R (.returned v) W) : bodyPost P fn R .ret a W :=
 bodyPost_ret (hres W (h0.cell 0) (h0.cell 1) (h0.cell 2) (h0.cell 3)) hd hR
set_option maxRecDepth 20000 in
set_option maxHeartbeats 12800000 in
theorem s_l12Good {a : World} {A : Option Addr} {c : Nat} {bs : List Int} {g : Nat} (w : World) (h : Src a A c bs g w) :
  Calls Tryz.prog 111 #[.pointer (some ⟨g, 0, none⟩)] w fun e w' => ∃ l : Lk, e = .returned (.agg #[.string (tx l.1), .string (tx l.2.1), .int .i64 l.2.2.1, .int .i64 l.2.2.2]) ∧ (l.1.length ≤ 4 ∧ l.2.1.length ≤ 4 ∧ 1000 ≤ l.2.2.1 ∧ l.2.2.1 ≤ l.2.2.2 ∧ l.2.2.2 ≤ 2200) ∧ Src a A c bs g w' ∧ But g w w' := by
 have hlt := h.lt
 have how := h.own
 have hasz := h.ext.size
 have nb : ¬ w.heap.size = g := by omega
 have nb' : ¬ g = w.heap.size := by omega
 have nd : ¬ w.heap.size + 1 = g := by omega
 have nd' : ¬ g = w.heap.size + 1 := by omega
 have ne : ¬ w.heap.size + 1 + 1 = g := by omega
 have ne' : ¬ g = w.heap.size + 1 + 1 := by omega
 obtain ⟨CC, hCC⟩ : ∃ x, x = codesV := ⟨_, rfl⟩
 have HCC : Hid (∀ j, j < 8 → ∃ t : List UInt8, t.length ≤ 4 ∧ CC[j]? = some (.string (tx t))) := hI (by rw [hCC]; exact fun j hj => ⟨_, (codes_ok j hj).2.2, codes_cell j hj⟩)
 replace hCC := hI hCC
 go_enter Tryz.func111, Tryz.ntmps111
 go_upto_region 2 with (fail)
 go_cut [4] (fun p wx => ∃ b4 : Nat, ∃ s t : List UInt8, ∃ f : Int, p = .pointer (some ⟨b4, 0, none⟩) ∧ s.length ≤ 4 ∧ t.length ≤ 4 ∧ (1000 ≤ f ∧ f ≤ 1799) ∧ Blk wx b4 108 #[.string (tx s), .string (tx t), .int .i64 f, .int .i64 0] ∧ Blk wx w.heap.size 108 #[.string ⟨#[]⟩, .string ⟨#[]⟩, .int .i64 0, .int .i64 0] ∧ w.heap.size < b4 ∧ Src a A c bs g wx ∧ But g w wx)
 case first =>
  go_region_held3 (fun w' => ∀ j, w'.cell? ⟨w.heap.size + 1, j, none⟩ = CC[j]?) (first | (intro j; refine Blk.cell (t := 9) (cs := CC) ?_ j; exact by with_reducible first|exact HB3|exact HB1|exact HB2|exact bA HB3|exact bA HB2|exact bA HB1|exact bF (by omega) (bF (by omega) (bF (by omega) (bF (by omega) HB3)))|exact bF (by first|omega|simp) (bF (by first|omega|simp) (bF (by first|omega|simp) (bF (by first|omega|simp) HB3))); done) | exact fun j => (blk_is (t := 9) (blk_is (cs' := codesV) (by with_reducible first|exact bD (bN (by first|omega|simp))|exact bD (bA (bN (by first|omega|simp)))) (by rfl)) hCC.out.symm).cell j) (first | (have _t := hu2; clear _t; (go_at_call 36; refine (s_l01Next (a := a) (A := A) (c := c) (bs := bs) _ _ (by with_reducible first|exact hS2|exact sA hS2) (by omega)).mono ?_; rintro e w3 ⟨x3, rfl, hb3, hS3, hu3⟩; obtain ⟨hc3, hf3, hs3⟩ := hu3.all; (try simp at hs3); have hl3 : ∀ n, n < _ → n < w3.heap.size := fun n h => Nat.lt_of_lt_of_le h hu3.size; have := (show w.heap.size < w3.heap.size from by omega); have := (show w.heap.size + 1 < w3.heap.size from by omega); have := (show g < w3.heap.size from by omega)); obtain ⟨j3, rfl⟩ := Int.eq_ofNat_of_zero_le hb3.1; have hj800_3 : j3 < 800 := (by omega);  have hz3 : (0 : Int) ≤ (j3 : Int) := (by omega); clear hb3; have hw3 : IntKind.i64.wrap (1000 + (j3 : Int)) = 1000 + j3 := IntWalk.i64_in _ (by omega); have hn3 : ¬ w3.heap.size = g := (by omega); have hm3 : ¬ g = w3.heap.size := (by omega); have hmw3 : ¬ w3.heap.size = w.heap.size := (by omega); (try have := (show w.heap.size + 1 + 1 < w3.heap.size from by omega)); (try have := (show w1.heap.size < w3.heap.size from by omega)); (try have := (show w2.heap.size < w3.heap.size from by omega)); have HB3 : Blk w3 (w.heap.size + 1) 9 CC := (by first | (exact by with_reducible first|exact bU hu3 nd HB2|exact bU hu3 nd (bA HB2); done) | exact blk_is (blk_is (cs' := codesV) (by (with_reducible repeat (first | assumption | (apply Blk.new; solve | simp | with_unfolding_all rfl) | apply Blk.drew | apply Blk.drewN | (apply Blk.far'; solve | omega | simp | (simp; omega)) | apply Blk.set_ | apply Blk.alloc | (apply Blk.ext'; assumption) | (apply Blk.but'; assumption; solve | omega | (simp; omega))))) (by rfl)) hCC.out.symm)) | (have _t := hu1; clear _t; (go_at_call 36; refine (s_l01Next (a := a) (A := A) (c := c) (bs := bs) _ _ (by with_reducible first|exact hS1|exact sA hS1) (by omega)).mono ?_; rintro e w2 ⟨x2, rfl, hb2, hS2, hu2⟩; obtain ⟨hc2, hf2, hs2⟩ := hu2.all; (try simp at hs2); have hl2 : ∀ n, n < _ → n < w2.heap.size := fun n h => Nat.lt_of_lt_of_le h hu2.size; have := (show w.heap.size < w2.heap.size from by omega); have := (show w.heap.size + 1 < w2.heap.size from by omega); have := (show g < w2.heap.size from by omega)); obtain ⟨j2, rfl⟩ := Int.eq_ofNat_of_zero_le hb2.1; have hj800_2 : j2 < 800 := (by omega); (try have hj2 : j2 < 8 := (by omega)); (try have hk2 : (j2 : Int) < 8 := (by omega)); have hz2 : (0 : Int) ≤ (j2 : Int) := (by omega); clear hb2; (try obtain ⟨t2, ht2, hC2⟩ := HCC.out j2 hj2); have hw2 : IntKind.i64.wrap (1000 + (j2 : Int)) = 1000 + j2 := IntWalk.i64_in _ (by omega); have hn2 : ¬ w2.heap.size = g := (by omega); have hm2 : ¬ g = w2.heap.size := (by omega); have hmw2 : ¬ w2.heap.size = w.heap.size := (by omega); (try have := (show w.heap.size + 1 + 1 < w2.heap.size from by omega)); (try have := (show w1.heap.size < w2.heap.size from by omega)); have HB2 : Blk w2 (w.heap.size + 1) 9 CC := (by first | (exact by with_reducible first|exact bU hu2 nd HB1|exact bU hu2 nd (bA HB1); done) | exact blk_is (blk_is (cs' := codesV) (by (with_reducible repeat (first | assumption | (apply Blk.new; solve | simp | with_unfolding_all rfl) | apply Blk.drew | apply Blk.drewN | (apply Blk.far'; solve | omega | simp | (simp; omega)) | apply Blk.set_ | apply Blk.alloc | (apply Blk.ext'; assumption) | (apply Blk.but'; assumption; solve | omega | (simp; omega))))) (by rfl)) hCC.out.symm)) | ((go_at_call 36; refine (s_l01Next (a := a) (A := A) (c := c) (bs := bs) _ _ (by with_reducible first|exact sD (sA (sA h))|exact sD (sA (sA (sA h)))) (by omega)).mono ?_; rintro e w1 ⟨x1, rfl, hb1, hS1, hu1⟩; obtain ⟨hc1, hf1, hs1⟩ := hu1.all; (try simp at hs1); have hl1 : ∀ n, n < _ → n < w1.heap.size := fun n h => Nat.lt_of_lt_of_le h hu1.size; have := (show w.heap.size < w1.heap.size from by omega); have := (show w.heap.size + 1 < w1.heap.size from by omega); have := (show g < w1.heap.size from by omega)); obtain ⟨j1, rfl⟩ := Int.eq_ofNat_of_zero_le hb1.1; have hj800_1 : j1 < 800 := (by omega); (try have hj1 : j1 < 8 := (by omega)); (try have hk1 : (j1 : Int) < 8 := (by omega)); have hz1 : (0 : Int) ≤ (j1 : Int) := (by omega); clear hb1; (try obtain ⟨t1, ht1, hC1⟩ := HCC.out j1 hj1); have hw1 : IntKind.i64.wrap (1000 + (j1 : Int)) = 1000 + j1 := IntWalk.i64_in _ (by omega); have hn1 : ¬ w1.heap.size = g := (by omega); have hm1 : ¬ g = w1.heap.size := (by omega); have hmw1 : ¬ w1.heap.size = w.heap.size := (by omega); (try have := (show w.heap.size + 1 + 1 < w1.heap.size from by omega)); have HB1 : Blk w1 (w.heap.size + 1) 9 CC := (by first | ((with_reducible repeat (first | assumption | (apply Blk.new; solve | simp | with_unfolding_all rfl) | apply Blk.drew | apply Blk.drewN | (apply Blk.far'; solve | omega | simp | (simp; omega)) | apply Blk.set_ | apply Blk.alloc | (apply Blk.ext'; assumption) | (apply Blk.but'; assumption; solve | omega | (simp; omega)))); done) | exact blk_is (blk_is (cs' := codesV) (by with_reducible first|exact bU hu1 nd (bD (bN (by first|omega|simp)))|exact bU hu1 nd (bD (bA (bN (by first|omega|simp))))) (by rfl)) hCC.out.symm)))
  all_goals (go_wp2_with fail; go_meet)
  all_goals refine ⟨_, _, _, _, rfl, ?_, ?_, ?_, Blk.eq (by with_reducible first|exact bN (by omega)|exact bS (bS (bS (bS (bU hu3 hn2 (bN (by omega))))))|exact bS (bS (bS (bS (bU hu3 hn1 (bU hu2 hn1 (bN (by omega)))))))|exact bS (bS (bS (bS (bU hu3 ne (bU hu2 ne (bU hu1 ne (bD (bN (by first|omega|simp)))))))))) (by rfl), Blk.eq (by with_reducible first|exact bA (bU hu3 nb (bU hu2 nb (bU hu1 nb (bD (bA (bN (by omega)))))))|exact bF (by first|omega|simp) (bF (by first|omega|simp) (bF (by first|omega|simp) (bF (by first|omega|simp) (bU hu3 nb (bU hu2 nb (bU hu1 nb (bD (bA (bA (bN (by omega)))))))))))|exact bF (by first|omega|simp) (bF (by first|omega|simp) (bF (by first|omega|simp) (bF (by first|omega|simp) (bU hu3 nb (bA (bU hu2 nb (bU hu1 nb (bD (bA (bN (by omega)))))))))))|exact bF (by first|omega|simp) (bF (by first|omega|simp) (bF (by first|omega|simp) (bF (by first|omega|simp) (bU hu3 nb (bU hu2 nb (bA (bU hu1 nb (bD (bA (bN (by omega)))))))))))) (by rfl), by omega, by with_reducible first|exact sA hS3|exact sF hm2 (by first|omega|simp) (sF hm2 (by first|omega|simp) (sF hm2 (by first|omega|simp) (sF hm2 (by first|omega|simp) hS3)))|exact sF ne' (by first|omega|simp) (sF ne' (by first|omega|simp) (sF ne' (by first|omega|simp) (sF ne' (by first|omega|simp) hS3)))|exact sF hm1 (by first|omega|simp) (sF hm1 (by first|omega|simp) (sF hm1 (by first|omega|simp) (sF hm1 (by first|omega|simp) hS3))), by with_reducible first|exact uA (uT (uT (uT (uD (uA (uA uR))) hu1) hu2) hu3)|exact uW (by first|omega|simp) (uW (by first|omega|simp) (uW (by first|omega|simp) (uW (by first|omega|simp) (uT (uT (uT (uD (uA (uA (uA uR)))) hu1) hu2) hu3))))|exact uW (by first|omega|simp) (uW (by first|omega|simp) (uW (by first|omega|simp) (uW (by first|omega|simp) (uT (uT (uA (uT (uD (uA (uA uR))) hu1)) hu2) hu3))))|exact uW (by first|omega|simp) (uW (by first|omega|simp) (uW (by first|omega|simp) (uW (by first|omega|simp) (uT (uA (uT (uT (uD (uA (uA uR))) hu1) hu2)) hu3))))⟩
  all_goals first | assumption | omega
 case rest =>
  obtain ⟨b4, s, t, f, rfl, hs, ht, hf, hB4, hB0, hb4, hS4, hu4⟩ := hcut
  obtain ⟨hc4, hf4⟩ := hu4.rules
  have hs4 := hu4.size
  have hl4 := hB4.lt
  have hl0 := hB0.lt
  have e0 : wc.cell? ⟨b4, 0, none⟩ = some (.string (tx s)) := hB4.cell 0
  have e1 : wc.cell? ⟨b4, 1, none⟩ = some (.string (tx t)) := hB4.cell 1
  have e2 : wc.cell? ⟨b4, 2, none⟩ = some (.int .i64 f) := hB4.cell 2
  have e3 : wc.cell? ⟨b4, 3, none⟩ = some (.int .i64 0) := hB4.cell 3
  have nb4 : ¬ b4 = g := by omega
  have nb4' : ¬ g = b4 := by omega
  have nw4 : ¬ b4 = w.heap.size := by omega
  have nw4' : ¬ w.heap.size = b4 := by omega
  have y0 := hB4.frozen 0
  have y1 := hB4.frozen 1
  have y2 := hB4.frozen 2
  have y3 := hB4.frozen 3
  clear HCC hCC
  go_upto_region 3 with (fail)
  go_cut [] (fun wx => ∃ d : Int, (f ≤ d ∧ d ≤ 2200) ∧ Hid (Blk wx b4 108 #[.string (tx s), .string (tx t), .int .i64 f, .int .i64 d]) ∧ Hid (Blk wx w.heap.size 108 #[.string ⟨#[]⟩, .string ⟨#[]⟩, .int .i64 0, .int .i64 0]) ∧ Hid (Src a A c bs g wx) ∧ Hid (But g w wx))
  case first =>
   go_region_with (first | ((go_at_call 36; refine (s_l01Next (a := a) (A := A) (c := c) (bs := bs) _ _ (sD hS4) (by omega)).mono ?_; rintro e w5 ⟨x5, rfl, hb5, hS5, hu5⟩; obtain ⟨hc5, hf5, hs5⟩ := hu5.all; (try simp at hs5); have hl5 : ∀ n, n < _ → n < w5.heap.size := fun n h => Nat.lt_of_lt_of_le h hu5.size; have := (show w.heap.size < w5.heap.size from by omega); have := (show b4 < w5.heap.size from by omega); have := (show g < w5.heap.size from by omega)); have hx5 : 0 ≤ x5 ∧ x5 < 400 := (by omega); clear hb5; have hw5 : IntKind.i64.wrap (f + x5) = f + x5 := IntWalk.i64_in _ (by omega); have q1 : w5.cell? ⟨b4, 2, none⟩ = some (.int .i64 f) := (hc5 b4 2 (by simpa using hl4) nb4).trans e2; have q2 : w5.cell? ⟨b4, 3, none⟩ = some (.int .i64 0) := (hc5 b4 3 (by simpa using hl4) nb4).trans e3; have q3 : w5.frozen? ⟨b4, 3, none⟩ = false := (hf5 b4 3 (by simpa using hl4) nb4).trans y3; have q4 : w5.frozen? ⟨b4, 2, none⟩ = false := (hf5 b4 2 (by simpa using hl4) nb4).trans y2; clear hc5 hf5))
   all_goals (go_wp2_with fail; go_meet; refine ⟨_, ?_, hI (Blk.eq (bS (bU hu5 nb4 (bD hB4))) (by rfl)), hI (bF nw4' (bU hu5 nb (bD hB0))), hI (sF nb4' (by omega) hS5), hI (uW (by omega) (uT (uD hu4) hu5))⟩; omega)
  case rest =>
  obtain ⟨wd, rfl⟩ : ∃ x, x = wc := ⟨wc, rfl⟩
  obtain ⟨d, hd, HB5, HB6, HS5, HU5⟩ := hcut
  have B5 := HB5.out
  have B6 := HB6.out
  have d0 : wd.cell? ⟨b4, 0, none⟩ = some (.string (tx s)) := B5.cell 0
  have d1 : wd.cell? ⟨b4, 1, none⟩ = some (.string (tx t)) := B5.cell 1
  have d2 : wd.cell? ⟨b4, 2, none⟩ = some (.int .i64 f) := B5.cell 2
  have d3 : wd.cell? ⟨b4, 3, none⟩ = some (.int .i64 d) := B5.cell 3
  have v0 := B6.frozen 0
  have v1 := B6.frozen 1
  have v2 := B6.frozen 2
  have v3 := B6.frozen 3
  have hl6 := B6.lt
  have f0 : wd.cell? ⟨w.heap.size, 0, none⟩ = some (.string ⟨#[]⟩) := B6.cell 0
  have f1 : wd.cell? ⟨w.heap.size, 1, none⟩ = some (.string ⟨#[]⟩) := B6.cell 1
  have f2 : wd.cell? ⟨w.heap.size, 2, none⟩ = some (.int .i64 0) := B6.cell 2
  have f3 : wd.cell? ⟨w.heap.size, 3, none⟩ = some (.int .i64 0) := B6.cell 3
  have hS := HS5.out
  have hU := HU5.out
  clear hB4 hB0 e0 e1 e2 e3 y0 y1 y2 y3 hc4 hf4 hS4 hu4
  go_wp2
  refine ret_lk (b0 := w.heap.size) (t := 108) (v := .agg #[.string (tx s), .string (tx t), .int .i64 f, .int .i64 d]) (Blk.eq (bS (bS (bS (bS B6)))) (by rfl)) rfl (by intro W' r0 r1 r2 r3; simp [results, Tryz.results111, go_sem, r0, r1, r2, r3]) ⟨(s, t, f, d), rfl, ⟨hs, ht, by simp only; omega, by simp only; omega, by simp only; omega⟩, sF nb' hasz (sF nb' hasz (sF nb' hasz (sF nb' hasz hS))), uW (by omega) (uW (by omega) (uW (by omega) (uW (by omega) hU)))⟩
set_option maxRecDepth 20000 in
set_option maxHeartbeats 12800000 in
theorem s_l12Draw {a : World} {A : Option Addr} {c : Nat} {bs : List Int} {g : Nat} (w : World) (h : Src a A c bs g w) :
  Calls Tryz.prog 112 #[.pointer (some ⟨g, 0, none⟩)] w fun e w' => ∃ l : Lk, e = .returned (.agg #[.string (tx l.1), .string (tx l.2.1), .int .i64 l.2.2.1, .int .i64 l.2.2.2]) ∧ (l.1.length ≤ 17 ∧ l.2.1.length ≤ 17 ∧ (-3001 ≤ l.2.2.1 ∧ l.2.2.1 ≤ 3001) ∧ (-3001 ≤ l.2.2.2 ∧ l.2.2.2 ≤ 3001)) ∧ Src a A c bs g w' ∧ But g w w' := by
 have hlt := h.lt
 have how := h.own
 have hasz := h.ext.size
 have nb : ¬ w.heap.size = g := by omega
 have nb' : ¬ g = w.heap.size := by omega
 go_enter Tryz.func112, Tryz.ntmps112
 (go_wp2_with fail; refine (s_l12Good (a := a) (A := A) (c := c) (bs := bs) _ (sA h)).mono ?_; rintro e w1 ⟨x1, rfl, hb1, hS1, hu1⟩; obtain ⟨hc1, hf1, hs1⟩ := hu1.all; (try simp at hs1); have := (show w.heap.size < w1.heap.size from by omega))
 obtain ⟨s, t, f, d⟩ := x1
 simp only at hb1
 have nd : ¬ w1.heap.size = g := by omega
 have nd2 : ¬ w1.heap.size = w.heap.size := by omega
 have nd' : ¬ w.heap.size = w1.heap.size := by omega
 have nd3 : ¬ g = w1.heap.size := by omega
 (go_wp2_with fail; refine (s_l01Next (a := a) (A := A) (c := c) (bs := bs) _ _ (sA hS1) (by omega)).mono ?_; rintro e w2 ⟨x2, rfl, hb2, hS2, hu2⟩; obtain ⟨hc2, hf2, hs2⟩ := hu2.all; (try simp at hs2); have := (show w.heap.size < w2.heap.size from by omega); have := (show w1.heap.size < w2.heap.size from by omega); have := (show g < w2.heap.size from by omega))
 have B2 : Blk w2 w1.heap.size 108 #[.string (tx s), .string (tx t), .int .i64 f, .int .i64 d] := Blk.eq (bU hu2 nd (bN (by omega))) (by rfl)
 have B0 : Blk w2 w.heap.size 108 #[.string ⟨#[]⟩, .string ⟨#[]⟩, .int .i64 0, .int .i64 0] := Blk.eq (bU hu2 nb (bA (bU hu1 nb (bN (by omega))))) (by rfl)
 have ls : s.length ≤ 17 := by omega
 have lt : t.length ≤ 17 := by omega
 have lf : -3001 ≤ f ∧ f ≤ 3001 := by omega
 have ld : -3001 ≤ d ∧ d ≤ 3001 := by omega
 clear hb1
 have y0 := B2.frozen 0
 have y1 := B2.frozen 1
 have y2 := B2.frozen 2
 have y3 := B2.frozen 3
 have cy0 : w2.cell? ⟨w1.heap.size, 0, none⟩ = some (.string (tx s)) := B2.cell 0
 have cy1 : w2.cell? ⟨w1.heap.size, 1, none⟩ = some (.string (tx t)) := B2.cell 1
 have cy2 : w2.cell? ⟨w1.heap.size, 2, none⟩ = some (.int .i64 f) := B2.cell 2
 have cy3 : w2.cell? ⟨w1.heap.size, 3, none⟩ = some (.int .i64 d) := B2.cell 3
 have f0 : w2.cell? ⟨w.heap.size, 0, none⟩ = some (.string ⟨#[]⟩) := B0.cell 0
 have f1 : w2.cell? ⟨w.heap.size, 1, none⟩ = some (.string ⟨#[]⟩) := B0.cell 1
 have f2 : w2.cell? ⟨w.heap.size, 2, none⟩ = some (.int .i64 0) := B0.cell 2
 have f3 : w2.cell? ⟨w.heap.size, 3, none⟩ = some (.int .i64 0) := B0.cell 3
 have v0 := B0.frozen 0
 have v1 := B0.frozen 1
 have v2 := B0.frozen 2
 have v3 := B0.frozen 3
 have HB2 := hI B2
 have HB0 := hI B0
 by_cases q0 : x2 = 0
 ·subst q0
  (go_wp2_with fail; refine (s_l01DrawWord (a := a) (A := A) (c := c) (bs := bs) _ hS2).mono ?_; rintro e w3 ⟨x3, rfl, hb3, hS3, hu3⟩; obtain ⟨hc3, hf3, hs3⟩ := hu3.all; (try simp at hs3); have := (show w.heap.size < w3.heap.size from by omega); have := (show w1.heap.size < w3.heap.size from by omega); have := (show g < w3.heap.size from by omega))
  have B3 : Blk w3 w1.heap.size 108 #[.string (tx s), .string (tx t), .int .i64 f, .int .i64 d] := HB2.out.but' hu3 nd
  have B4 : Blk w3 w.heap.size 108 #[.string ⟨#[]⟩, .string ⟨#[]⟩, .int .i64 0, .int .i64 0] := HB0.out.but' hu3 nb
  clear HB2 HB0 B2 B0
  go_wp2
  refine ret_lk (b0 := w.heap.size) (t := 108) (v := .agg #[.string (tx s), .string (tx x3), .int .i64 f, .int .i64 d]) (Blk.eq (bS (bS (bS (bS (bF nd' B4))))) (by rfl)) rfl (by intro W' r0 r1 r2 r3; simp [results, Tryz.results112, go_sem, r0, r1, r2, r3]) ⟨(s, x3, f, d), rfl, ⟨ls, hb3, lf, ld⟩, sF nb' hasz (sF nb' hasz (sF nb' hasz (sF nb' hasz (sF nd3 (by first|omega|simp) hS3)))), uW (by omega) (uW (by omega) (uW (by omega) (uW (by omega) (uW (by first|omega|simp) (uT (uT (uA (uT (uA uR) hu1)) hu2) hu3)))))⟩
 ·have e0 : (x2 == 0) = false := beq_eq_false_iff_ne.2 q0
  by_cases q1 : x2 = 1
  ·subst q1
   (go_wp2_with fail; refine (s_l02Draw (a := a) (A := A) (c := c) (bs := bs) _ hS2).mono ?_; rintro e w3 ⟨x3, rfl, hb3, hS3, hu3⟩; obtain ⟨hc3, hf3, hs3⟩ := hu3.all; (try simp at hs3); have := (show w.heap.size < w3.heap.size from by omega); have := (show w1.heap.size < w3.heap.size from by omega); have := (show g < w3.heap.size from by omega))
   obtain ⟨u, v⟩ := x3
   have B3 : Blk w3 w1.heap.size 108 #[.string (tx s), .string (tx t), .int .i64 f, .int .i64 d] := HB2.out.but' hu3 nd
   have B4 : Blk w3 w.heap.size 108 #[.string ⟨#[]⟩, .string ⟨#[]⟩, .int .i64 0, .int .i64 0] := HB0.out.but' hu3 nb
   clear HB2 HB0 B2 B0
   go_wp2
   refine ret_lk (b0 := w.heap.size) (t := 108) (v := .agg #[.string (tx s), .string (tx t), .int .i64 u, .int .i64 v]) (Blk.eq (bS (bS (bS (bS (bF nd' (bF nd' B4)))))) (by rfl)) rfl (by intro W' r0 r1 r2 r3; simp [results, Tryz.results112, go_sem, r0, r1, r2, r3]) ⟨(s, t, u, v), rfl, ⟨ls, lt, hb3.1, hb3.2⟩, sF nb' hasz (sF nb' hasz (sF nb' hasz (sF nb' hasz (sF nd3 (by first|omega|simp) (sF nd3 (by first|omega|simp) hS3))))), uW (by omega) (uW (by omega) (uW (by omega) (uW (by omega) (uW (by first|omega|simp) (uW (by first|omega|simp) (uT (uT (uA (uT (uA uR) hu1)) hu2) hu3))))))⟩
  ·have e1 : (x2 == 1) = false := beq_eq_false_iff_ne.2 q1
   go_wp2
   refine ret_lk (b0 := w.heap.size) (t := 108) (v := .agg #[.string (tx s), .string (tx t), .int .i64 f, .int .i64 d]) (Blk.eq (bS (bS (bS (bS B0)))) (by rfl)) rfl (by intro W' r0 r1 r2 r3; simp [results, Tryz.results112, go_sem, r0, r1, r2, r3]) ⟨(s, t, f, d), rfl, ⟨ls, lt, lf, ld⟩, sF nb' hasz (sF nb' hasz (sF nb' hasz (sF nb' hasz hS2))), uW (by omega) (uW (by omega) (uW (by omega) (uW (by omega) (uT (uA (uT (uA uR) hu1)) hu2))))⟩
end Go.Proofs.YtlnliajnipniaaaGreatDoor
