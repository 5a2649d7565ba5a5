/- Draws of rings and of their texts, walked over the translation. -/
import Derived.Test.YtdbheipjbjcikaaGreatDoorTU
import Derived.Deep.RegionHeld3
import Derived.Deep.DeepCutAuto
import Derived.RegionTactic
import Derived.BigRegion
import Derived.WalkLawsBesides
import Derived.WalkSpells
import Derived.Lib.MinMax
import Derived.Outline
namespace Go.Proofs.YtdbheipjbjcikaaGreatDoor
open Go.RowKit
attribute [local go_sem] ExtOf.cell ExtOf.frozen

theorem SlAt.set2 {w w' : World} {b off : Nat} {ps : List (Int × Int)} {k : Nat} {p : Int × Int} (h : SlAt w 2 encP (some ⟨b, off, none⟩) ps) (hs : w.heap.size ≤ w'.heap.size)
    (h0 : w'.cell? ⟨b, off + k * 2, none⟩ = some (.int .i64 p.1)) (h1 : w'.cell? ⟨b, off + k * 2 + 1, none⟩ = some (.int .i64 p.2)) (hr : ∀ o, ¬ o = off + k * 2 → ¬ o = off + k * 2 + 1 → w'.cell? ⟨b, o, none⟩ = w.cell? ⟨b, o, none⟩) :
    SlAt w' 2 encP (some ⟨b, off, none⟩) (ps.set k p) := fun hn => by
  obtain ⟨b', off', e, hb, hc⟩ := h (by simpa using hn)
  injection e with e
  injection e with e1 e2
  subst e1 e2
  refine ⟨b, off, rfl, Nat.lt_of_lt_of_le hb hs, fun i x hi j v hj => ?_⟩
  have hj2 : j < 2 := by
    have := (List.getElem?_eq_some_iff.1 hj).1
    simpa [encP] using this
  by_cases hik : i = k
  · subst hik
    have hlt : i < ps.length := by
      have := (List.getElem?_eq_some_iff.1 hi).1
      simpa using this
    rw [List.getElem?_set_self hlt] at hi
    injection hi with hi
    subst hi
    rcases (show j = 0 ∨ j = 1 by omega) with rfl | rfl
    · simp [encP] at hj; subst hj; simpa using h0
    · simp [encP] at hj; subst hj; exact h1
  · rw [List.getElem?_set_ne (by omega)] at hi
    rw [hr _ (by omega) (by omega)]
    exact hc i x hi j v hj
theorem Src.grownR {a w w' : World} {A : Option Addr} {c : Nat} {bs : List Int} {g : Nat} {row : Option Nat} (h : Src a A c bs g w) (hg : w.grownBy w' row) (hr : ∀ q, row = some q → g < q) : Src a A c bs g w' := by
  obtain ⟨k, s, h1, h2, h3, hB⟩ := h.blk
  exact ⟨h.ext.grown hg (fun q hq => by have := hr q hq; have := h.own; omega), h.own, h.code, h.byt, h.len, k, s, h1, h2, h3, (hg.block g h.lt (fun e => by have := hr g e.symm; omega)).trans hB⟩
theorem But.grownR {a w w' : World} {g : Nat} {row : Option Nat} (h : But g a w) (hg : w.grownBy w' row) (hr : ∀ q, row = some q → a.heap.size ≤ q) : But g a w' :=
  ⟨hg.os.trans h.os, hg.tape.trans h.tape, hg.output.trans h.output, Nat.le_trans h.size hg.size, fun k hk hc => (hg.block k (Nat.lt_of_lt_of_le hk h.size) (fun e => by have := hr k e.symm; omega)).trans (h.block k hk hc)⟩
set_option maxRecDepth 20000 in
set_option maxHeartbeats 12800000 in
theorem s_l16Draw {a : World} {A : Option Addr} {c : Nat} {bs : List Int} {g : Nat} (w : World) (h : Src a A c bs g w) :
    Calls Tryz.prog 63 #[.pointer (some ⟨g, 0, none⟩)] w fun e w' => ∃ A' c' ps, e = .returned (.slice A' ps.length c') ∧ SlAt w' 2 encP A' ps ∧ ps.length ≤ c' ∧ ps.length ≤ 10 ∧ Src a A c bs g w' ∧ But g w w' := by
  have hlt := h.lt
  have how := h.own
  have hasz := h.ext.size
  go_enter Tryz.func63, Tryz.ntmps63
  (go_wp2_with fail; refine (s_l01Next (a := a) (A := A) (c := c) (bs := bs) _ _ (by (repeat (first | with_reducible assumption | with_reducible refine Src.alloc ?_ _ | with_reducible refine Src.drew ?_ | with_reducible refine Src.drewN ?_ _ | ((with_reducible refine Src.far ?_ ?_ ?_ _); (solve | omega | (simp; omega) | simp); (solve | omega | (simp; omega) | simp)) | ((with_reducible apply Src.on'); with_reducible assumption)))) (by omega)).mono ?_; rintro e w1 ⟨x1, rfl, hb1, hS1, hu1⟩; obtain ⟨hc1, hf1⟩ := hu1.rules; have hs1 := hu1.size; (try simp at hs1); have := (show g < w1.heap.size from by omega))
  by_cases h1 : x1 = 0
  · subst h1
    (go_wp2_with fail; refine (s_l01Next (a := a) (A := A) (c := c) (bs := bs) _ _ (by (repeat (first | with_reducible assumption | with_reducible refine Src.alloc ?_ _ | with_reducible refine Src.drew ?_ | with_reducible refine Src.drewN ?_ _ | ((with_reducible refine Src.far ?_ ?_ ?_ _); (solve | omega | (simp; omega) | simp); (solve | omega | (simp; omega) | simp)) | ((with_reducible apply Src.on'); with_reducible assumption)))) (by omega)).mono ?_; rintro e w2 ⟨x2, rfl, hb2, hS2, hu2⟩; obtain ⟨hc2, hf2⟩ := hu2.rules; have hs2 := hu2.size; (try simp at hs2); have := (show g < w2.heap.size from by omega))
    obtain ⟨n, rfl⟩ := Int.eq_ofNat_of_zero_le hb2.1
    have hn2 : n ≤ 2 := by omega
    have hw : IntKind.i64.wrap (3 + (n : Int)) = ((3 + n : Nat) : Int) := by rw [IntWalk.i64_in _ (by omega)]; omega
    have hgw1 : g < w1.heap.size := by omega
    have hv0 : OwP (w1.alloc (.cells #[] 70)) w1.heap.size (.slice (some ⟨w1.heap.size, 0, none⟩) 0 0) ([] : List (Int × Int)) := World.ownsRow_made (base := w1.heap.size) (e := 70) (size := 2) w1 #[] 0 (Nat.le_refl _) (Nat.zero_le _) rfl
    have HV0 := Lib.hid (hv0.but hu2 hgw1)
    clear hv0
    have HU1 := Lib.hid hu1
    have HU2 : Hid (But g w1 w2) := Lib.hid ((But.of ((Ext.refl w1).alloc _)).trans hu2)
    have HS2 := Lib.hid hS2
    clear hb1 hb2 hu1 hu2 hS1 hS2 h hc1 hf1 hc2 hf2
    go_wp2
    go_loopw [3, 4] (fun v i wr => ∃ (k : Nat) (ps : List (Int × Int)), k ≤ 3 + n ∧ i = .int .i64 k ∧ ps.length ≤ 3 + n - k ∧ Hid (OwP wr w1.heap.size v ps) ∧ Hid (Src a A c bs g wr) ∧ Hid (But g w1 wr)) (fun _ i _ => (intOf i).toNat)
    case atStart => exact ⟨3 + n, [], Nat.le_refl _, rfl, by simp, HV0, HS2, HU2⟩
    case round =>
      obtain ⟨k, ps, hk, rfl, hpk, HV, HSr, HUr⟩ := hrel
      have hglt := HSr.out.lt
      have hsr := HUr.out.size
      by_cases hk0 : 0 < k
      · go_wp2_with fail
        refine (s_l15Draw (a := a) (A := A) (c := c) (bs := bs) _ HSr.out).mono ?_
        rintro e w3 ⟨p, rfl, hb3, hS3, hu3⟩
        have hs3 := hu3.size
        have HV3 := Lib.hid (HV.out.but hu3 hgw1)
        obtain ⟨px, pz⟩ := p
        simp only at hb3
        have HU3 := Lib.hid (HUr.out.trans hu3)
        have HS3 := Lib.hid hS3
        have hw5 : IntKind.i64.wrap ((k : Int) - 1) = ((k - 1 : Nat) : Int) := by rw [IntWalk.i64_in _ (by omega)]; omega
        clear hu3 hS3
        go_wp2_with (at_builtin; refine wpList_append_sl elP len_encP one_encP rfl _ _ rfl rfl (HV3.out.ext (by (repeat (first | with_reducible exact Ext.refl _ | with_reducible assumption | ((with_reducible apply Src.ext); with_reducible assumption) | with_reducible refine Ext.alloc ?_ _ | with_reducible refine Ext.drew ?_ | with_reducible refine Ext.drewN ?_ _ | ((with_reducible refine Ext.setCell' ?_ ?_ _); solve | omega | simp | (simp; omega)) | (with_reducible refine Ext.trans ?_ (by with_reducible assumption)))))) (xs := [(px, pz)]) rfl (blk_p1 (by (repeat (first | with_reducible assumption | ((with_reducible apply Blk.new); solve | simp | rfl) | with_reducible apply Blk.drew | with_reducible apply Blk.drewN | ((with_reducible apply Blk.far'); solve | omega | simp | (simp; omega)) | with_reducible apply Blk.set_ | with_reducible apply Blk.alloc | ((with_reducible apply Blk.ext'); with_reducible assumption) | ((with_reducible apply Blk.but'); (with_reducible assumption); solve | omega | (simp; omega)))))) (by simp; unfold maxLen; omega) (by simp; omega) (by first | omega | (simp; omega)) ?_)
        intro v' w4 hown hgrow _
        have HV4 := Lib.hid hown
        have HS4 : Hid (Src a A c bs g w4) := Lib.hid ((HS3.out.alloc _).grownR hgrow (fun q hq => by have := (HV3.out.row q hq).1; omega))
        have HU4 : Hid (But g w1 w4) := Lib.hid ((HU3.out.alloc _).grownR hgrow (fun q hq => (HV3.out.row q hq).1))
        clear hown hgrow
        go_wp2
        go_roundw
        case rel => exact ⟨k - 1, ps ++ [(px, pz)], by omega, by go_num, by rw [List.length_append, List.length_singleton]; omega, HV4, HS4, HU4⟩
        case measure => simp [intOf]; omega
      · obtain rfl : k = 0 := by omega
        obtain ⟨A4, c4, rfl, hS4, hc4, _, _⟩ := HV.out.sl len_encP
        go_wp2
        go_ret
        exact ⟨A4, c4, ps, rfl, hS4, hc4, by omega, HSr.out, HU1.out.trans HUr.out⟩
  · have hb0 : (x1 == 0) = false := beq_eq_false_iff_ne.2 h1
    have HU1 := Lib.hid hu1
    have hgw1 : g < w1.heap.size := by omega
    go_wp2_with fail
    refine (s_l16Good (a := a) (A := A) (c := c) (bs := bs) _ hS1).mono ?_
    rintro e w2 ⟨v2, ps, rfl, hO2, hlen, hok, hS2, hu2⟩
    obtain ⟨hl3, hl10⟩ := hlen
    obtain ⟨g1, cap, cur, rfl, hbb, hB2, hcap, hmx, hcs, htk⟩ := hO2.open_ (by omega)
    obtain ⟨_, _, e2, hSl2, _⟩ := hO2.sl len_encP
    injection e2 with e2 e3 e4
    subst e2
    have hne : ¬ g1 = g := by omega
    have hs2 := hu2.size
    have HU2 := Lib.hid hu2
    have hg1w := hB2.lt
    clear hu1 hu2 hS1 hO2 htk e3 e4 hc1 hf1 h
    (go_wp2_with fail; refine (s_l01Next (a := a) (A := A) (c := c) (bs := bs) _ _ (by (repeat (first | with_reducible assumption | with_reducible refine Src.alloc ?_ _ | with_reducible refine Src.drew ?_ | with_reducible refine Src.drewN ?_ _ | ((with_reducible refine Src.far ?_ ?_ ?_ _); (solve | omega | (simp; omega) | simp); (solve | omega | (simp; omega) | simp)) | ((with_reducible apply Src.on'); with_reducible assumption)))) (by omega)).mono ?_; rintro e w3 ⟨x3, rfl, hb3, hS3, hu3⟩; obtain ⟨hc3, hf3⟩ := hu3.rules; have hs3 := hu3.size; (try simp at hs3); have := (show g < w3.heap.size from by omega); have := (show g1 < w3.heap.size from by omega))
    obtain ⟨k, rfl⟩ := Int.eq_ofNat_of_zero_le hb3.1
    have hk : k < ps.length := by omega
    (go_wp2_with fail; refine (s_l01Next (a := a) (A := A) (c := c) (bs := bs) _ _ (by (repeat (first | with_reducible assumption | with_reducible refine Src.alloc ?_ _ | with_reducible refine Src.drew ?_ | with_reducible refine Src.drewN ?_ _ | ((with_reducible refine Src.far ?_ ?_ ?_ _); (solve | omega | (simp; omega) | simp); (solve | omega | (simp; omega) | simp)) | ((with_reducible apply Src.on'); with_reducible assumption)))) (by omega)).mono ?_; rintro e w4 ⟨x4, rfl, hb4, hS4, hu4⟩; obtain ⟨hc4, hf4⟩ := hu4.rules; have hs4 := hu4.size; (try simp at hs4); have := (show g < w4.heap.size from by omega); have := (show g1 < w4.heap.size from by omega))
    have hB4 : Blk w4 g1 70 cur := Blk.but' hu4 hne (Blk.but' hu3 hne hB2)
    have hSl4 : SlAt w4 2 encP (some ⟨g1, 0, none⟩) ps := (hSl2.but1 hu3 hne).but1 hu4 hne
    have HU4 : Hid (But g w w4) := Lib.hid (((HU1.out.trans HU2.out).trans hu3).trans hu4)
    have hu4w := HU4.out.size
    clear hu3 hu4 hS2 hS3 hSl2 hB2 hc3 hf3 hc4 hf4
    by_cases h40 : x4 = 0
    · subst h40
      go_wp2_with fail
      refine (s_l15Draw (a := a) (A := A) (c := c) (bs := bs) _ hS4).mono ?_
      rintro e w5 ⟨p, rfl, hb5, hS5, hu5⟩
      obtain ⟨px, pz⟩ := p
      simp only at hb5
      have hB5 : Blk w5 g1 70 cur := Blk.but' hu5 hne hB4
      have HSL5 := Lib.hid (hSl4.but1 hu5 hne)
      have HU5 := Lib.hid (HU4.out.trans hu5)
      obtain ⟨u0, hu0⟩ : ∃ u, cur[k * 2]? = some u := ⟨_, Array.getElem?_eq_getElem (by omega)⟩
      obtain ⟨u1, hu1⟩ : ∃ u, cur[k * 2 + 1]? = some u := ⟨_, Array.getElem?_eq_getElem (by omega)⟩
      have c0 := (hB5.cell (k * 2)).trans hu0
      have c1 := (hB5.cell (k * 2 + 1)).trans hu1
      have f0 := hB5.frozen (k * 2)
      have f1 := hB5.frozen (k * 2 + 1)
      have hBl := hB5.lt
      have HB6 := Lib.hid ((hB5.set_ (k * 2) (.int .i64 px)).set_ (k * 2 + 1) (.int .i64 pz))
      have HB5 := Lib.hid hB5
      have HS5 := Lib.hid hS5
      have hu5w := HU5.out.size
      clear hu0 hu1 hu5 hS5 hS4 hSl4 hB4 hB5
      go_wp2
      go_ret
      refine ⟨some ⟨g1, 0, none⟩, cap, ps.set k (px, pz), by rw [List.length_set]; rfl, SlAt.set2 HSL5.out (by simp [World.setCell]) ?_ ?_ ?_, by rw [List.length_set]; exact hcap, by rw [List.length_set]; exact hl10, ?_, ?_⟩
      · rw [Nat.zero_add, HB6.out.cell, Array.getElem?_setIfInBounds_ne (by omega), Array.getElem?_setIfInBounds_self_of_lt (by omega)]
      · rw [Nat.zero_add, HB6.out.cell, Array.getElem?_setIfInBounds_self_of_lt (by simp; omega)]
      · intro o h1 h2
        rw [HB6.out.cell, HB5.out.cell, Array.getElem?_setIfInBounds_ne (by omega), Array.getElem?_setIfInBounds_ne (by omega)]
      · exact Src.far (by show ¬ g = g1; omega) (by show a.heap.size ≤ g1; omega) (Src.far (by show ¬ g = g1; omega) (by show a.heap.size ≤ g1; omega) HS5.out _) _
      · exact (HU5.out.new (by show w.heap.size ≤ g1; omega) _).new (by show w.heap.size ≤ g1; omega) _
    · have hb40 : (x4 == 0) = false := beq_eq_false_iff_ne.2 h40
      by_cases h41 : x4 = 1
      · subst h41
        have hcap2 : 2 ≤ cap := by omega
        go_wp2
        go_ret
        exact ⟨some ⟨g1, 0, none⟩, cap, ps.take 2, by rw [List.length_take, Nat.min_eq_left (by omega)]; rfl, hSl4.take 2, by rw [List.length_take]; omega, by rw [List.length_take]; omega, hS4, HU4.out⟩
      · have hb41 : (x4 == 1) = false := beq_eq_false_iff_ne.2 h41
        go_wp2
        go_ret
        exact ⟨_, _, ps, rfl, hSl4, hcap, hl10, hS4, HU4.out⟩
set_option maxHeartbeats 6400000 in
theorem s_DrawRingText (A : Option Addr) (c : Nat) (bs : List Int) (w : World) (h : SlAt w 1 encB A bs) (hb : ∀ b ∈ bs, 0 ≤ b ∧ b ≤ 255) (hl : bs.length ≤ 4096) :
    Calls Tryz.prog 16 #[.slice A bs.length c] w fun e w' => ∃ A' c' ps, e = .returned (.slice A' ps.length c') ∧ SlAt w' 2 encP A' ps ∧ ps.length ≤ c' ∧ ps.length ≤ 10 ∧ Ext w w' := by
  have HB := Lib.hid hb
  clear hb
  go_enter Tryz.func16, Tryz.ntmps16
  go_wp2_with fail
  refine (s_l01From _ _ bs _ (h.ext (by (repeat (first | with_reducible exact Ext.refl _ | with_reducible assumption | ((with_reducible apply Src.ext); with_reducible assumption) | with_reducible refine Ext.alloc ?_ _ | with_reducible refine Ext.drew ?_ | with_reducible refine Ext.drewN ?_ _ | ((with_reducible refine Ext.setCell' ?_ ?_ _); solve | omega | simp | (simp; omega)) | (with_reducible refine Ext.trans ?_ (by with_reducible assumption)))))) HB.out hl).mono ?_
  rintro e w0 ⟨g, rfl, hS0⟩
  go_wp2_with fail
  refine (s_l16Draw (a := w) (A := A) (c := c) (bs := bs) _ hS0).mono ?_
  rintro e w1 ⟨A', c', ps, rfl, hS1, hc1, hl1, hSr, _⟩
  have HX := Lib.hid hSr.ext
  go_wp2
  go_ret
  exact ⟨A', c', ps, rfl, hS1, hc1, hl1, HX.out⟩
theorem rgT_len {ps : List (Int × Int)} (ho : oks ps = true) (hl : ps.length ≤ 10) : (rgT ps).length ≤ 440 := by
  have := jn_len (L := ptL ps ps.length) (sep := [32]) (m := 43) (ptL_small ho)
  rw [ptL_len _ _ (Nat.le_refl _)] at this
  unfold rgT
  simp only [List.length_singleton] at this
  omega
set_option maxHeartbeats 6400000 in
theorem s_DrawReadRing (A : Option Addr) (c : Nat) (bs : List Int) (w : World) (h : SlAt w 1 encB A bs) (hb : ∀ b ∈ bs, 0 ≤ b ∧ b ≤ 255) (hl : bs.length ≤ 4096) :
    Calls Tryz.prog 19 #[.slice A bs.length c] w fun e w' => ∃ t : ByteArray, e = .returned (.string t) ∧ t.size ≤ 1001 ∧ Ext w w' := by
  have HB := Lib.hid hb
  clear hb
  go_enter Tryz.func19, Tryz.ntmps19
  go_wp2_with fail
  refine (s_l01From _ _ bs _ (h.ext (by (repeat (first | with_reducible exact Ext.refl _ | with_reducible assumption | ((with_reducible apply Src.ext); with_reducible assumption) | with_reducible refine Ext.alloc ?_ _ | with_reducible refine Ext.drew ?_ | with_reducible refine Ext.drewN ?_ _ | ((with_reducible refine Ext.setCell' ?_ ?_ _); solve | omega | simp | (simp; omega)) | (with_reducible refine Ext.trans ?_ (by with_reducible assumption)))))) HB.out hl).mono ?_
  rintro e w0 ⟨g, rfl, hS0⟩
  obtain ⟨hg, hgl⟩ := src_facts hS0
  go_wp2_with fail
  refine (s_l16Good (a := w) (A := A) (c := c) (bs := bs) _ hS0).mono ?_
  rintro e w1 ⟨v1, ps, rfl, hO1, hlen, hok, hS1, hu1⟩
  obtain ⟨A1, c1, rfl, hSl1, _, _, _⟩ := hO1.sl len_encP
  have HOK := Lib.hid hok
  have HZ := Lib.hid (rgT_len hok hlen.2)
  have hgl1 := hS1.lt
  clear hok hO1 hu1
  (go_wp2_with fail; refine (s_l16Text _ _ ps _ hSl1 (by omega) HOK.out).mono ?_; rintro e w2 ⟨rfl, hx2⟩; obtain ⟨hc2, hf2⟩ := hx2.rules; have hs2 := hx2.size; (try simp at hs2); have := (show g < w2.heap.size from by omega))
  have hz : (tx (rgT ps)).size ≤ 440 := by rw [tx_size]; exact HZ.out
  have HZT := Lib.hid hz
  clear hz
  generalize tx (rgT ps) = t at *
  (go_wp2_with fail; refine (s_l01Next (a := w) (A := A) (c := c) (bs := bs) _ _ (by (repeat (first | with_reducible assumption | with_reducible refine Src.alloc ?_ _ | with_reducible refine Src.drew ?_ | with_reducible refine Src.drewN ?_ _ | ((with_reducible refine Src.far ?_ ?_ ?_ _); (solve | omega | (simp; omega) | simp); (solve | omega | (simp; omega) | simp)) | ((with_reducible apply Src.on'); with_reducible assumption)))) (by omega)).mono ?_; rintro e w3 ⟨x3, rfl, hb3, hS3, hu3⟩; obtain ⟨hc3, hf3⟩ := hu3.rules; have hs3 := hu3.size; (try simp at hs3); have := (show g < w3.heap.size from by omega))
  have HX3 := Lib.hid hS3.ext
  by_cases h0 : x3 = 0
  · subst h0
    (go_wp2_with fail; refine (s_l01Damage (a := w) (A := A) (c := c) (bs := bs) t _ (by (repeat (first | with_reducible assumption | with_reducible refine Src.alloc ?_ _ | with_reducible refine Src.drew ?_ | with_reducible refine Src.drewN ?_ _ | ((with_reducible refine Src.far ?_ ?_ ?_ _); (solve | omega | (simp; omega) | simp); (solve | omega | (simp; omega) | simp)) | ((with_reducible apply Src.on'); with_reducible assumption)))) (by have := HZT.out; omega)).mono ?_; rintro e w4 ⟨x4, rfl, hb4, hS4, hu4⟩; obtain ⟨hc4, hf4⟩ := hu4.rules; have hs4 := hu4.size; (try simp at hs4); have := (show g < w4.heap.size from by omega))
    have HX4 := Lib.hid hS4.ext
    go_wp2
    go_ret
    exact ⟨_, rfl, by have := HZT.out; omega, HX4.out⟩
  · have hb0 : (x3 == 0) = false := beq_eq_false_iff_ne.2 h0
    go_wp2
    go_ret
    exact ⟨_, rfl, by have := HZT.out; omega, HX3.out⟩

end Go.Proofs.YtdbheipjbjcikaaGreatDoor
