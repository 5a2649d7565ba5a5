/- Names that are drawn, rarely another list. A place that is drawn, rarely one that is not as described. -/
import Derived.Test.YtlnliajnipniaaaGreatDoorD6
namespace Go.Proofs.YtlnliajnipniaaaGreatDoor
open Go.RowKit
attribute [local go_sem] ExtOf.cell ExtOf.frozen
theorem NmsOk.snoc {ns : List Nm} {n : Nm} (h : NmsOk ns) (hn : NmOk n) : NmsOk (ns ++ [n]) := fun m hm => by
 rcases List.mem_append.1 hm with e | e
 ·exact h m e
 ·rw [List.mem_singleton.1 e]; exact hn
set_option maxRecDepth 20000 in
set_option maxHeartbeats 12800000 in
theorem s_l09List {a : World} {A : Option Addr} {c : Nat} {bs : List Int} {g : Nat} (w : World) (h : Src a A c bs g w) :
  Calls Tryz.prog 155 #[.pointer (some ⟨g, 0, none⟩)] w fun e w' => ∃ (A' : Option Addr) (c' : Nat) (ns : List Nm), e = .returned (.slice A' ns.length c') ∧ SlAt w' 5 encN A' ns ∧ ns.length ≤ c' ∧ (ns.length ≤ 13 ∧ NmsOk ns ∧ ∀ q, A' = some q → w.heap.size ≤ q.block ∧ q.block < w'.heap.size) ∧ Src a A c bs g w' ∧ But g w w' := by
 have hlt := h.lt
 have how := h.own
 have hasz := h.ext.size
 go_enter Tryz.func155, Tryz.ntmps155
 (go_wp2_with fail; refine (s_l01Next (a := a) (A := A) (c := c) (bs := bs) _ _ (sA h) (by omega)).mono ?_; rintro e w1 ⟨x1, rfl, hb1, hS1, hu1⟩; obtain ⟨hc1, hf1, hs1⟩ := hu1.all; (try simp at hs1); have := (show g < w1.heap.size from by omega))
 obtain ⟨n, rfl⟩ := Int.eq_ofNat_of_zero_le hb1.1
 have hn5 : n ≤ 5 := by omega
 have hv0 : OwN (w.alloc (.cells #[] 117)) w.heap.size (.slice (some ⟨w.heap.size, 0, none⟩) 0 0) ([] : List Nm) := World.ownsRow_made (base := w.heap.size) (e := 117) (size := 5) w #[] 0 (Nat.le_refl _) (Nat.zero_le _) rfl
 have HV0 := hI (hv0.but (by first | exact hu1) hlt)
 have HU1 : Hid (But g w w1) := hI (uT (uA uR) hu1)
 have HS1 := hI hS1
 have HE : Hid (NmsOk []) := hI (fun l hl => by simp at hl)
 clear hv0 hu1 hS1 hb1 hc1 hf1 h
 go_wp2
 go_loopw [3, 4] (fun v i wr => ∃ (k : Nat) (ns : List Nm), i = .int .i64 k ∧ k ≤ 5 ∧ ns.length + k ≤ 5 ∧ Hid (NmsOk ns) ∧ Hid (OwN wr w.heap.size v ns) ∧ Hid (Src a A c bs g wr) ∧ Hid (But g w wr)) (fun _ i _ => (intOf i).toNat)
 case atStart => exact ⟨n, [], by go_num, hn5, by simp; omega, HE, HV0, HS1, HU1⟩
 case round =>
  obtain ⟨k, ns, rfl, hk5, hlk, HE1, HV, HSr, HUr⟩ := hrel
  obtain ⟨w5, rfl⟩ : ∃ x, x = wr := ⟨wr, rfl⟩
  have hglt := HSr.out.lt
  have hsr := HUr.out.size
  by_cases hk0 : 0 < k
  ·obtain ⟨k, rfl⟩ : ∃ q, k = q + 1 := ⟨k - 1, by omega⟩
   obtain ⟨A3, c3, hv3, hS3, hc3, hm3, hA3⟩ := HV.out.sl len_encN
   subst hv3
   have HS3 := hI hS3
   have HA3 := hI hA3
   have HLN : Hid (ns.length ≤ 5) := hI (by omega)
   have HO5 : Hid (∀ W q, Blk W q 117 #[] → w5.heap.size ≤ q → OwN W w5.heap.size (.slice (some ⟨q, 0, none⟩) 0 0) []) := hI (fun W q hB hge => Own.of_blk (xs := []) hB len_encN rfl hge (Nat.zero_le _))
   have hdec : IntKind.i64.wrap (((k + 1 : Nat) : Int) - 1) = (k : Int) := by rw [IntWalk.i64_in _ (by omega)]; omega
   clear hS3 hA3 hm3
   go_wp2_with (at_builtin; refine wpList_append_sl elN len_encN one_encN rfl _ _ rfl rfl (HO5.out _ _ (bN (by omega)) (by first | exact Nat.le_refl _ | (simp; done) | (simp; omega))) (xs := ns) rfl (HS3.out.ext (xA xR)) (by have := HLN.out; unfold maxLen; simp only [List.length_nil]; omega) (by have := HLN.out; simp only [List.length_nil]; omega) (by first | (simp; done) | (simp; omega)) ?_)
   intro v1 w6 hO1 hg1 _
   have hx6 : Ext w5 w6 := Ext.grown (xA xR) hg1 (fun q hq => by rw [own_is hq]; first | exact Nat.le_refl _ | (simp; done) | (simp; omega))
   have HO1 : Hid (OwN w6 w5.heap.size v1 ns) := hI hO1
   have HS6 := hI (HSr.out.on hx6)
   have HU6 := hI (HUr.out.trans (But.of hx6))
   have HV6 := hI (HV.out.ext hx6)
   have hs6 := hx6.size
   clear hO1 hg1 hx6 HO5 HS3
   go_wp2_with fail
   refine (s_l09Draw (a := a) (A := A) (c := c) (bs := bs) _ HS6.out).mono ?_
   rintro e w7 ⟨x, rfl, hx, hS7, hu7⟩
   have hs7 := hu7.size
   have HX := hI hx
   have HS7 := hI hS7
   have HU7 := hI (HU6.out.trans hu7)
   have HV7 := hI (HV6.out.but hu7 hlt)
   have HO7 := hI (HO1.out.but hu7 hglt)
   clear hx hS7 hu7 HS6 HU6 HV6 HO1
   go_wp2_with (at_builtin; refine wpList_append_sl elN len_encN one_encN rfl _ _ rfl rfl (HO7.out.ext (xA xR)) (xs := [x]) rfl (blk_n1 (n := x) (bN (by omega)) rfl) (by have := HLN.out; simp; unfold maxLen; omega) (by have := HLN.out; simp; omega) (by first | omega | (simp; omega)) ?_)
   intro v2 w8 hO2 hg2 _
   have HS8 : Hid (Src a A c bs g w8) := hI ((HS7.out.alloc _).grownR hg2 (fun q hq => by have := (HO7.out.row q hq).1; omega))
   have HU8 : Hid (But g w w8) := hI ((HU7.out.alloc _).grownR hg2 (fun q hq => by have := (HO7.out.row q hq).1; omega))
   have HV8 : Hid (OwN w8 w.heap.size (.slice A3 ns.length c3) ns) := hI ((HV7.out.alloc _).kept hg2 (by
    rcases hv : (Value.slice A3 ns.length c3).ownBlock with _ | q
    ·exact .inl rfl
    ·refine .inr fun e => ?_
     have h1 := (HV.out.row q hv).2
     have h2 := (HO7.out.row q e.symm).1
     omega))
   have hO2' : OwN w8 w5.heap.size v2 (ns ++ [x]) := hO2
   obtain ⟨A6, c6, hv6, hS6, hc6, _, _⟩ := hO2'.sl len_encN
   subst hv6
   rw [show (ns ++ [x]).length = ns.length + 1 by simp] at hO2' hc6 ⊢
   have HO2 := hI hO2'
   have HS6 := hI hS6
   have hs8 := HU8.out.size
   have HNN := hI (HE1.out.snoc HX.out)
   clear hO2 hO2' hg2 hS6 HO7 HS7 HU7 HV7 HV
   go_wp2_with fail
   refine (s_AreNames A6 (ns.length + 1) c6 (ns ++ [x]) _ HS6.out (by simp) (by simp; omega) HNN.out.names).mono ?_
   rintro e w9 ⟨rfl, hx9⟩
   have HV9 := hI (HV8.out.ext hx9)
   have HO9 := hI (HO2.out.ext hx9)
   have HS9 := hI (HS8.out.on hx9)
   have HU9 := hI (HU8.out.trans (But.of hx9))
   clear hx9 HV8 HO2 HS8 HU8 HS6
   cases hnb : nsB (ns ++ [x]) with
   | false =>
    clear hnb
    go_wp2
    go_roundw
    case rel => exact ⟨k, ns, by go_num, by omega, by omega, HE1, HV9, HS9, HU9⟩
    case measure => simp [intOf]
   | true =>
    clear hnb
    go_wp2
    go_roundw
    case rel => exact ⟨k, ns ++ [x], by go_num, by omega, by simp; omega, HNN, hI (HO9.out.less hsr), HS9, HU9⟩
    case measure => simp [intOf]
  ·obtain rfl : k = 0 := by omega
   (go_wp2_with fail; refine (s_l01Next (a := a) (A := A) (c := c) (bs := bs) _ _ HSr.out (by omega)).mono ?_; rintro e w2 ⟨x2, rfl, hb2, hS2, hu2⟩; obtain ⟨hc2, hf2, hs2⟩ := hu2.all; (try simp at hs2); have := (show g < w2.heap.size from by omega))
   have HV2 := hI (HV.out.but hu2 hlt)
   have HS2 := hI hS2
   have HU2 := hI (HUr.out.trans hu2)
   clear hu2 hS2 hc2 hf2 hb2 HSr HUr HV
   by_cases q0 : x2 = 0
   ·subst q0
    go_wp2_with fail
    refine (s_l09Draw (a := a) (A := A) (c := c) (bs := bs) _ HS2.out).mono ?_
    rintro e w3 ⟨l, rfl, hb3, hS3, hu3⟩
    have hs3 := hu3.size
    have HV3 := hI (HV2.out.but hu3 hlt)
    have HU3 := hI (HU2.out.trans hu3)
    have HS3 := hI hS3
    have HL3 : Hid (NmOk l) := hI hb3
    clear hu3 hS3 hb3
    go_wp2_with (at_builtin; refine wpList_append_sl elN len_encN one_encN rfl _ _ rfl rfl (HV3.out.ext (xA xR)) (xs := [l]) rfl (blk_n1 (n := l) (bN (by omega)) rfl) (by simp; unfold maxLen; omega) (by simp; omega) (by first | omega | (simp; omega)) ?_)
    intro v' w4 hown hgrow _
    have HS4 : Hid (Src a A c bs g w4) := hI ((HS3.out.alloc _).grownR hgrow (fun q hq => by have := (HV3.out.row q hq).1; omega))
    have HU4 : Hid (But g w w4) := hI ((HU3.out.alloc _).grownR hgrow (fun q hq => (HV3.out.row q hq).1))
    have hown' : OwN w4 w.heap.size v' (ns ++ [l]) := hown
    obtain ⟨A4, c4, rfl, hS4, hc4, _, hA4⟩ := hown'.sl len_encN
    have HS5 := hI hS4
    have HA5 := hI hA4
    clear hown hown' hgrow hS4 hA4
    go_wp2
    go_ret
    exact ⟨A4, c4, ns ++ [l], rfl, HS5.out, hc4, ⟨by simp; omega, HE1.out.snoc HL3.out, HA5.out⟩, HS4.out, HU4.out⟩
   ·have e0 : (x2 == 0) = false := beq_eq_false_iff_ne.2 q0
    by_cases q1 : x2 = 1
    ·subst q1
     have hl13 : ns.length ≤ 13 := by omega
     clear hlk hk5
     go_wp2
     go_loopw [3] (fun v wr => ∃ (ns : List Nm), ns.length ≤ 13 ∧ Hid (NmsOk ns) ∧ Hid (OwN wr w.heap.size v ns) ∧ Hid (Src a A c bs g wr) ∧ Hid (But g w wr)) (fun v _ => 13 - lenV v)
     case atStart => exact ⟨ns, hl13, HE1, HV2, HS2, HU2⟩
     case round =>
      clear HV2 HS2 HU2 HE1 hl13
      obtain ⟨ns, hl13, HE1, HV, HSr, HUr⟩ := hrel
      have hglt := HSr.out.lt
      have hsr := HUr.out.size
      obtain ⟨A4, c4, hv4, _, hc4, _, _⟩ := HV.out.sl len_encN
      subst hv4
      (go_wp2_with fail; refine (s_l01Next (a := a) (A := A) (c := c) (bs := bs) _ _ HSr.out (by omega)).mono ?_; rintro e w5 ⟨x5, rfl, hb5, hS5, hu5⟩; obtain ⟨hc5, hf5, hs5⟩ := hu5.all; (try simp at hs5); have := (show g < w5.heap.size from by omega))
      have HV5 := hI (HV.out.but hu5 hlt)
      have HS5 := hI hS5
      have HU5 := hI (HUr.out.trans hu5)
      have hx5 : 0 ≤ x5 ∧ x5 ≤ 1 := by omega
      clear hu5 hS5 hc5 hf5 hb5 HSr HUr HV
      have hw7 : IntKind.i64.wrap (12 + x5) = 12 + x5 := IntWalk.i64_in _ (by omega)
      obtain ⟨n4, hn4⟩ : ∃ n, n = ns.length := ⟨_, rfl⟩
      rw [← hn4] at HV5 hl13 ⊢
      replace hn4 := hI hn4
      by_cases hc : (n4 : Int) < 12 + x5
      ·have hA2 : n4 + 1 ≤ 13 := by omega
       go_wp2_with (at_builtin; refine wpList_append_sl elN len_encN one_encN rfl _ _ rfl rfl (base := w.heap.size) (ys := ns) ?_ (xs := [([111, 108, 100, 32, 97, 115, 104], [108, 97, 116], 2, 1, 9)]) rfl ?_ ?_ ?_ ?_ ?_)
       ·exact HV5.out.ext (xA xR)
       ·exact blk_n1 (Blk.new rfl) rfl
       ·rw [← hn4.out]; simp only [List.length_singleton]; unfold maxLen; omega
       ·rw [← hn4.out]; simp only [List.length_singleton]; omega
       ·simp; omega
       intro v' w6 hown hgrow _
       have HS6 : Hid (Src a A c bs g w6) := hI ((HS5.out.alloc _).grownR hgrow (fun q hq => by have := (HV5.out.row q hq).1; omega))
       have HU6 : Hid (But g w w6) := hI ((HU5.out.alloc _).grownR hgrow (fun q hq => (HV5.out.row q hq).1))
       have hown' : OwN w6 w.heap.size v' (ns ++ [([111, 108, 100, 32, 97, 115, 104], [108, 97, 116], 2, 1, 9)]) := hown
       have HV6 := hI hown'
       obtain ⟨A6, c6, hv6, _, _, _, _⟩ := hown'.sl len_encN
       have HE6 := hI (HE1.out.snoc (n := ([111, 108, 100, 32, 97, 115, 104], [108, 97, 116], 2, 1, 9)) ⟨by simp, by simp, by simp, by simp, by simp⟩)
       have hlv : lenV v' = n4 + 1 := by rw [hv6, hn4.out]; simp [lenV]
       clear hown hown' hgrow hv6
       go_wp2
       go_roundw
       case rel => exact ⟨_, by rw [List.length_append, ← hn4.out]; exact hA2, HE6, HV6, HS6, HU6⟩
       case measure => rw [hlv]; simp only [lenV]; have := hn4.out; omega
      ·obtain ⟨A7, c7, hv7, hS7, hc7, _, hA7⟩ := HV5.out.sl len_encN
       injection hv7 with h1 h2 h3
       subst h1 h3
       clear h2
       have hn7 : n4 ≤ 13 := by omega
       have HS7 := hI hS7
       have HA7 := hI hA7
       clear hS7 hA7
       go_wp2
       go_ret
       exact ⟨A4, c4, ns, by first | rfl | (rw [hn4.out]; rfl), HS7.out, hc7, ⟨by have := hn4.out; omega, HE1.out, HA7.out⟩, HS5.out, HU5.out⟩
    ·have e1 : (x2 == 1) = false := beq_eq_false_iff_ne.2 q1
     obtain ⟨A4, c4, rfl, hS4, hc4, _, hA4⟩ := HV2.out.sl len_encN
     have HS4 := hI hS4
     go_wp2
     go_ret
     exact ⟨A4, c4, ns, rfl, HS4.out, hc4, ⟨by omega, HE1.out, hA4⟩, HS2.out, HU2.out⟩
theorem PlAt.butG {w w' : World} {p : Pl} {g : Nat} (h : PlAt w p) (hu : But g w w') (hz : ∀ z : Addr, p.2.2.2.2.1 = some z → ¬ z.block = g) : PlAt w' p := ⟨h.1.butG hu hz, h.2⟩
set_option maxRecDepth 20000 in
set_option maxHeartbeats 12800000 in
theorem s_l11Draw {a : World} {A : Option Addr} {c : Nat} {bs : List Int} {g : Nat} (w : World) (h : Src a A c bs g w) :
  Calls Tryz.prog 110 #[.pointer (some ⟨g, 0, none⟩)] w fun e w' => ∃ p : Pl, e = .returned (.agg #[.string (tx p.1), .int .i64 p.2.1, .int .i64 p.2.2.1, .int .i64 p.2.2.2.1, .slice p.2.2.2.2.1 p.2.2.2.2.2.2.length p.2.2.2.2.2.1]) ∧ PlAt w' p ∧ p.1.length ≤ 17 ∧ (∀ z : Addr, p.2.2.2.2.1 = some z → w.heap.size ≤ z.block ∧ z.block < w'.heap.size) ∧ Src a A c bs g w' ∧ But g w w' := by
 have hlt := h.lt
 have how := h.own
 have hasz := h.ext.size
 have nb : ¬ w.heap.size = g := by omega
 go_enter Tryz.func110, Tryz.ntmps110
 go_upto_region 1 with (fail)
 go_cut [3] (fun p wx => ∃ (b : Nat) (s : List UInt8) (u f d : Int) (An : Option Addr) (cn : Nat) (ns : List Nm), p = .pointer (some ⟨b, 0, none⟩) ∧ s.length ≤ 17 ∧ w.heap.size < b ∧ b ≠ g ∧ Hid (PlAt wx (s, u, f, d, An, cn, ns)) ∧ Hid (∀ z : Addr, An = some z → w.heap.size < z.block ∧ ¬ z.block = g ∧ z.block < b) ∧ Hid (Blk wx b 57 #[.string (tx s), .int .i64 u, .int .i64 f, .int .i64 d, .slice An ns.length cn]) ∧ Hid (Blk wx w.heap.size 57 #[.string ⟨#[]⟩, .int .i64 0, .int .i64 0, .int .i64 0, .slice none 0 0]) ∧ Hid (Src a A c bs g wx) ∧ Hid (But g w wx))
 case first =>
  go_wp2_with fail
  refine (s_l11Good (a := a) (A := A) (c := c) (bs := bs) _ (sA h)).mono ?_
  rintro e w1 ⟨x, rfl, hok, hpl, hrow, hS1, hu1⟩
  have hs1 := hu1.size
  simp at hs1
  have HZ := hI (Blk.but' hu1 nb (Blk.new (cs := #[.string ⟨#[]⟩, .int .i64 0, .int .i64 0, .int .i64 0, .slice none 0 0]) (t := 57) (w := w) rfl))
  have HU1 : Hid (But g w w1) := hI (But.trans (But.alloc (But.refl g w) _) hu1)
  have HS1 := hI hS1
  have HPL := hI hpl
  have HRW := hI hrow
  obtain ⟨s, u, f, d, An, cn, ns⟩ := x
  have hsl : s.length ≤ 16 := hok.2.2
  have ng1 : ¬ g = w1.heap.size := by have := hS1.lt; omega
  clear hok hpl hrow hS1 hu1
  go_wp2_with fail
  go_meet
  have hz := HZ.out
  have hu1 := HU1.out
  have hS1 := HS1.out
  refine ⟨w1.heap.size, s, u, f, d, An, cn, ns, rfl, by omega, by omega, fun e => ng1 e.symm, hI (HPL.out.ext (xA xR)), hI (fun z hz => ?_), hI (Blk.eq (bN (by omega)) (by rfl)), hI (bA hz), hI (sA hS1), hI (uA hu1)⟩
  have := HRW.out z hz
  simp at this
  omega
 case rest =>
 obtain ⟨b, s, u, f, d, An, cn, ns, rfl, hsl, hb, nbg, HPL, HAn, HB, HE, HS, HU⟩ := hcut
 obtain ⟨w4, rfl⟩ : ∃ z, z = wc := ⟨wc, rfl⟩
 have hsc := HU.out.size
 have hlb := HB.out.lt
 have hle := HE.out.lt
 have hgw : g < w4.heap.size := by omega
 have n1 : ¬ g = b := fun e => nbg e.symm
 have n2 : ¬ g = w.heap.size := by omega
 have n3 : ¬ b = w.heap.size := by omega
 have n4 : ¬ w.heap.size = b := by omega
 clear h
 go_wp2_with fail
 refine (s_l01Next (a := a) (A := A) (c := c) (bs := bs) _ _ HS.out (by omega)).mono ?_
 rintro e w5 ⟨k, rfl, hk, hS5, hu5⟩
 have hs5 := hu5.size
 have HS5 := hI hS5
 have HU5 := hI (HU.out.trans hu5)
 have HPL5 := hI (HPL.out.butG hu5 (fun z hz => (HAn.out z hz).2.1))
 have HB5 := hI (HB.out.but' hu5 nbg)
 have HE5 := hI (HE.out.but' hu5 nb)
 clear hS5 hu5 HS HU HPL HB HE
 by_cases q0 : k = 0
 ·subst q0
  go_wp2_with fail
  refine (s_l01DrawWord (a := a) (A := A) (c := c) (bs := bs) _ HS5.out).mono ?_
  rintro e w6 ⟨t, rfl, ht, hS6, hu6⟩
  have HB6 := hI (HB5.out.but' hu6 nbg)
  have HE6 := hI (HE5.out.but' hu6 nb)
  have HPL6 := hI (HPL5.out.butG hu6 (fun z hz => (HAn.out z hz).2.1))
  have HU6 := hI (HU5.out.trans hu6)
  have hw6 := hu6.size
  clear hu6 HB5 HE5 HPL5 HU5 HS5
  have B6 := HB6.out
  have E6 := HE6.out
  have hU6 := HU6.out
  have hs6 := hU6.size
  have p6_0 := B6.frozen 0
  have p6_1 := B6.frozen 1
  have p6_2 := B6.frozen 2
  have p6_3 := B6.frozen 3
  have p6_4 := B6.frozen 4
  have q6_0 : w6.cell? ⟨b, 0, none⟩ = some (.string (tx s)) := B6.cell 0
  have q6_1 : w6.cell? ⟨b, 1, none⟩ = some (.int .i64 u) := B6.cell 1
  have q6_2 : w6.cell? ⟨b, 2, none⟩ = some (.int .i64 f) := B6.cell 2
  have q6_3 : w6.cell? ⟨b, 3, none⟩ = some (.int .i64 d) := B6.cell 3
  have q6_4 : w6.cell? ⟨b, 4, none⟩ = some (.slice An ns.length cn) := B6.cell 4
  have r6_0 := E6.frozen 0
  have r6_1 := E6.frozen 1
  have r6_2 := E6.frozen 2
  have r6_3 := E6.frozen 3
  have r6_4 := E6.frozen 4
  have v6_0 : w6.cell? ⟨w.heap.size, 0, none⟩ = some (.string ⟨#[]⟩) := E6.cell 0
  have v6_1 : w6.cell? ⟨w.heap.size, 1, none⟩ = some (.int .i64 0) := E6.cell 1
  have v6_2 : w6.cell? ⟨w.heap.size, 2, none⟩ = some (.int .i64 0) := E6.cell 2
  have v6_3 : w6.cell? ⟨w.heap.size, 3, none⟩ = some (.int .i64 0) := E6.cell 3
  have v6_4 : w6.cell? ⟨w.heap.size, 4, none⟩ = some (.slice none 0 0) := E6.cell 4
  have la6 := B6.lt
  have lb6 := E6.lt
  have PLR := HPL6
  have RWR : Hid (∀ z : Addr, An = some z → w.heap.size < z.block ∧ ¬ z.block = b ∧ z.block < w6.heap.size) := hI (fun z hz => by have := HAn.out z hz; omega)
  go_wp2
  refine ret_pl (b0 := w.heap.size) (t := 57) (v := .agg #[.string (tx t), .int .i64 u, .int .i64 f, .int .i64 d, .slice An ns.length cn]) (Blk.eq (bS (bS (bS (bS (bS (bF n4 E6)))))) (by rfl)) rfl (by intro W' r0 r1 r2 r3 r4; simp [results, Tryz.results110, go_sem, r0, r1, r2, r3, r4]) ⟨(t, u, f, d, An, cn, ns), rfl, ⟨?_, PLR.out.2.1, by simp only; omega, PLR.out.2.2.2.1, PLR.out.2.2.2.2⟩, by simp only; omega, fun z hz => by have := RWR.out z hz; simp; omega, sF n2 hasz (sF n2 hasz (sF n2 hasz (sF n2 hasz (sF n2 hasz (sF n1 (by omega) hS6))))), uW (by omega) (uW (by omega) (uW (by omega) (uW (by omega) (uW (by omega) (uW (by omega) hU6)))))⟩
  have qq := PLR.out.1
  repeat (first | with_reducible exact qq | (refine SlAt.setFar ?_ (fun z hz => by have := RWR.out z hz; first | (show ¬ z.block = w.heap.size; omega) | (show ¬ z.block = b; omega)) _))
 ·have e0 : (k == 0) = false := beq_eq_false_iff_ne.2 q0
  by_cases q1 : k = 1
  ·subst q1
   (go_wp2_with fail; refine (s_l01Pick (a := a) (A := A) (c := c) (bs := bs) _ 0 _ [-1, 19, 20] _ (HS5.out.alloc _) (Blk.sl (bN (by omega)) (by rfl) (fun _ => rfl)) (by simp) (by simp) (by simp) (by omega)).mono ?_; rintro e w6 ⟨x6, rfl, hb6, hS6, hu6⟩; obtain ⟨hc6, hf6, hs6⟩ := hu6.all; (try simp at hs6); have := (show w5.heap.size < w6.heap.size from by omega))
   have hu6a : But g w5 w6 := (But.alloc (But.refl g w5) _).trans hu6
   have HB6 := hI (HB5.out.but' hu6a nbg)
   have HE6 := hI (HE5.out.but' hu6a nb)
   have HPL6 := hI (HPL5.out.butG hu6a (fun z hz => (HAn.out z hz).2.1))
   have HU6 := hI (HU5.out.trans hu6a)
   have hw6 := hu6a.size
   clear hc6 hf6 hu6 hu6a HB5 HE5 HPL5 HU5 HS5
   have B6 := HB6.out
   have E6 := HE6.out
   have hU6 := HU6.out
   have hs6 := hU6.size
   have p6_0 := B6.frozen 0
   have p6_1 := B6.frozen 1
   have p6_2 := B6.frozen 2
   have p6_3 := B6.frozen 3
   have p6_4 := B6.frozen 4
   have q6_0 : w6.cell? ⟨b, 0, none⟩ = some (.string (tx s)) := B6.cell 0
   have q6_1 : w6.cell? ⟨b, 1, none⟩ = some (.int .i64 u) := B6.cell 1
   have q6_2 : w6.cell? ⟨b, 2, none⟩ = some (.int .i64 f) := B6.cell 2
   have q6_3 : w6.cell? ⟨b, 3, none⟩ = some (.int .i64 d) := B6.cell 3
   have q6_4 : w6.cell? ⟨b, 4, none⟩ = some (.slice An ns.length cn) := B6.cell 4
   have r6_0 := E6.frozen 0
   have r6_1 := E6.frozen 1
   have r6_2 := E6.frozen 2
   have r6_3 := E6.frozen 3
   have r6_4 := E6.frozen 4
   have v6_0 : w6.cell? ⟨w.heap.size, 0, none⟩ = some (.string ⟨#[]⟩) := E6.cell 0
   have v6_1 : w6.cell? ⟨w.heap.size, 1, none⟩ = some (.int .i64 0) := E6.cell 1
   have v6_2 : w6.cell? ⟨w.heap.size, 2, none⟩ = some (.int .i64 0) := E6.cell 2
   have v6_3 : w6.cell? ⟨w.heap.size, 3, none⟩ = some (.int .i64 0) := E6.cell 3
   have v6_4 : w6.cell? ⟨w.heap.size, 4, none⟩ = some (.slice none 0 0) := E6.cell 4
   have la6 := B6.lt
   have lb6 := E6.lt
   have PLR := HPL6
   have RWR : Hid (∀ z : Addr, An = some z → w.heap.size < z.block ∧ ¬ z.block = b ∧ z.block < w6.heap.size) := hI (fun z hz => by have := HAn.out z hz; omega)
   go_wp2
   refine ret_pl (b0 := w.heap.size) (t := 57) (v := .agg #[.string (tx s), .int .i64 x6, .int .i64 f, .int .i64 d, .slice An ns.length cn]) (Blk.eq (bS (bS (bS (bS (bS (bF n4 E6)))))) (by rfl)) rfl (by intro W' r0 r1 r2 r3 r4; simp [results, Tryz.results110, go_sem, r0, r1, r2, r3, r4]) ⟨(s, x6, f, d, An, cn, ns), rfl, ⟨?_, PLR.out.2.1, by simp only; omega, PLR.out.2.2.2.1, PLR.out.2.2.2.2⟩, by simp only; omega, fun z hz => by have := RWR.out z hz; simp; omega, sF n2 hasz (sF n2 hasz (sF n2 hasz (sF n2 hasz (sF n2 hasz (sF n1 (by omega) hS6))))), uW (by omega) (uW (by omega) (uW (by omega) (uW (by omega) (uW (by omega) (uW (by omega) hU6)))))⟩
   have qq := PLR.out.1
   repeat (first | with_reducible exact qq | (refine SlAt.setFar ?_ (fun z hz => by have := RWR.out z hz; first | (show ¬ z.block = w.heap.size; omega) | (show ¬ z.block = b; omega)) _))
  ·have e1 : (k == 1) = false := beq_eq_false_iff_ne.2 q1
   by_cases q2 : k = 2
   ·subst q2
    go_wp2_with fail
    refine (s_l02Draw (a := a) (A := A) (c := c) (bs := bs) _ HS5.out).mono ?_
    rintro e w6 ⟨⟨p1, p2⟩, rfl, hp, hS6, hu6⟩
    have HB6 := hI (HB5.out.but' hu6 nbg)
    have HE6 := hI (HE5.out.but' hu6 nb)
    have HPL6 := hI (HPL5.out.butG hu6 (fun z hz => (HAn.out z hz).2.1))
    have HU6 := hI (HU5.out.trans hu6)
    have hw6 := hu6.size
    clear hu6 HB5 HE5 HPL5 HU5 HS5
    have B6 := HB6.out
    have E6 := HE6.out
    have hU6 := HU6.out
    have hs6 := hU6.size
    have p6_0 := B6.frozen 0
    have p6_1 := B6.frozen 1
    have p6_2 := B6.frozen 2
    have p6_3 := B6.frozen 3
    have p6_4 := B6.frozen 4
    have q6_0 : w6.cell? ⟨b, 0, none⟩ = some (.string (tx s)) := B6.cell 0
    have q6_1 : w6.cell? ⟨b, 1, none⟩ = some (.int .i64 u) := B6.cell 1
    have q6_2 : w6.cell? ⟨b, 2, none⟩ = some (.int .i64 f) := B6.cell 2
    have q6_3 : w6.cell? ⟨b, 3, none⟩ = some (.int .i64 d) := B6.cell 3
    have q6_4 : w6.cell? ⟨b, 4, none⟩ = some (.slice An ns.length cn) := B6.cell 4
    have r6_0 := E6.frozen 0
    have r6_1 := E6.frozen 1
    have r6_2 := E6.frozen 2
    have r6_3 := E6.frozen 3
    have r6_4 := E6.frozen 4
    have v6_0 : w6.cell? ⟨w.heap.size, 0, none⟩ = some (.string ⟨#[]⟩) := E6.cell 0
    have v6_1 : w6.cell? ⟨w.heap.size, 1, none⟩ = some (.int .i64 0) := E6.cell 1
    have v6_2 : w6.cell? ⟨w.heap.size, 2, none⟩ = some (.int .i64 0) := E6.cell 2
    have v6_3 : w6.cell? ⟨w.heap.size, 3, none⟩ = some (.int .i64 0) := E6.cell 3
    have v6_4 : w6.cell? ⟨w.heap.size, 4, none⟩ = some (.slice none 0 0) := E6.cell 4
    have la6 := B6.lt
    have lb6 := E6.lt
    have PLR := HPL6
    have RWR : Hid (∀ z : Addr, An = some z → w.heap.size < z.block ∧ ¬ z.block = b ∧ z.block < w6.heap.size) := hI (fun z hz => by have := HAn.out z hz; omega)
    go_wp2
    refine ret_pl (b0 := w.heap.size) (t := 57) (v := .agg #[.string (tx s), .int .i64 u, .int .i64 p1, .int .i64 p2, .slice An ns.length cn]) (Blk.eq (bS (bS (bS (bS (bS (bF n4 (bF n4 E6))))))) (by rfl)) rfl (by intro W' r0 r1 r2 r3 r4; simp [results, Tryz.results110, go_sem, r0, r1, r2, r3, r4]) ⟨(s, u, p1, p2, An, cn, ns), rfl, ⟨?_, PLR.out.2.1, by simp only; omega, PLR.out.2.2.2.1, PLR.out.2.2.2.2⟩, by simp only; omega, fun z hz => by have := RWR.out z hz; simp; omega, sF n2 hasz (sF n2 hasz (sF n2 hasz (sF n2 hasz (sF n2 hasz (sF n1 (by omega) (sF n1 (by omega) hS6)))))), uW (by omega) (uW (by omega) (uW (by omega) (uW (by omega) (uW (by omega) (uW (by omega) (uW (by omega) hU6))))))⟩
    have qq := PLR.out.1
    repeat (first | with_reducible exact qq | (refine SlAt.setFar ?_ (fun z hz => by have := RWR.out z hz; first | (show ¬ z.block = w.heap.size; omega) | (show ¬ z.block = b; omega)) _))
   ·have e2 : (k == 2) = false := beq_eq_false_iff_ne.2 q2
    by_cases q3 : k = 3
    ·subst q3
     go_wp2_with fail
     refine (s_l09List (a := a) (A := A) (c := c) (bs := bs) _ HS5.out).mono ?_
     rintro e w6 ⟨A2, c2, n2, rfl, hN2, hc2, ⟨hl2, hk2, hA2⟩, hS6, hu6⟩
     have PLR : Hid (PlAt w6 (s, u, f, d, A2, c2, n2)) := hI ⟨hN2, hc2, by simp only; omega, by simp only; omega, hk2.names⟩
     have RWR : Hid (∀ z : Addr, A2 = some z → w.heap.size < z.block ∧ ¬ z.block = b ∧ z.block < w6.heap.size) := hI (fun z hz => by have := hA2 z hz; omega)
     clear hN2 hA2 hk2
     have HB6 := hI (HB5.out.but' hu6 nbg)
     have HE6 := hI (HE5.out.but' hu6 nb)
     have HPL6 := hI (HPL5.out.butG hu6 (fun z hz => (HAn.out z hz).2.1))
     have HU6 := hI (HU5.out.trans hu6)
     have hw6 := hu6.size
     clear hu6 HB5 HE5 HPL5 HU5 HS5
     have B6 := HB6.out
     have E6 := HE6.out
     have hU6 := HU6.out
     have hs6 := hU6.size
     have p6_0 := B6.frozen 0
     have p6_1 := B6.frozen 1
     have p6_2 := B6.frozen 2
     have p6_3 := B6.frozen 3
     have p6_4 := B6.frozen 4
     have q6_0 : w6.cell? ⟨b, 0, none⟩ = some (.string (tx s)) := B6.cell 0
     have q6_1 : w6.cell? ⟨b, 1, none⟩ = some (.int .i64 u) := B6.cell 1
     have q6_2 : w6.cell? ⟨b, 2, none⟩ = some (.int .i64 f) := B6.cell 2
     have q6_3 : w6.cell? ⟨b, 3, none⟩ = some (.int .i64 d) := B6.cell 3
     have q6_4 : w6.cell? ⟨b, 4, none⟩ = some (.slice An ns.length cn) := B6.cell 4
     have r6_0 := E6.frozen 0
     have r6_1 := E6.frozen 1
     have r6_2 := E6.frozen 2
     have r6_3 := E6.frozen 3
     have r6_4 := E6.frozen 4
     have v6_0 : w6.cell? ⟨w.heap.size, 0, none⟩ = some (.string ⟨#[]⟩) := E6.cell 0
     have v6_1 : w6.cell? ⟨w.heap.size, 1, none⟩ = some (.int .i64 0) := E6.cell 1
     have v6_2 : w6.cell? ⟨w.heap.size, 2, none⟩ = some (.int .i64 0) := E6.cell 2
     have v6_3 : w6.cell? ⟨w.heap.size, 3, none⟩ = some (.int .i64 0) := E6.cell 3
     have v6_4 : w6.cell? ⟨w.heap.size, 4, none⟩ = some (.slice none 0 0) := E6.cell 4
     have la6 := B6.lt
     have lb6 := E6.lt
     go_wp2
     refine ret_pl (b0 := w.heap.size) (t := 57) (v := .agg #[.string (tx s), .int .i64 u, .int .i64 f, .int .i64 d, .slice A2 n2.length c2]) (Blk.eq (bS (bS (bS (bS (bS (bF n4 E6)))))) (by rfl)) rfl (by intro W' r0 r1 r2 r3 r4; simp [results, Tryz.results110, go_sem, r0, r1, r2, r3, r4]) ⟨(s, u, f, d, A2, c2, n2), rfl, ⟨?_, PLR.out.2.1, by simp only; omega, PLR.out.2.2.2.1, PLR.out.2.2.2.2⟩, by simp only; omega, fun z hz => by have := RWR.out z hz; simp; omega, sF (by omega) hasz (sF (by omega) hasz (sF (by omega) hasz (sF (by omega) hasz (sF (by omega) hasz (sF n1 (by omega) hS6))))), uW (by omega) (uW (by omega) (uW (by omega) (uW (by omega) (uW (by omega) (uW (by omega) hU6)))))⟩
     have qq := PLR.out.1
     repeat (first | with_reducible exact qq | (refine SlAt.setFar ?_ (fun z hz => by have := RWR.out z hz; first | (show ¬ z.block = w.heap.size; omega) | (show ¬ z.block = b; omega)) _))
    ·have e3 : (k == 3) = false := beq_eq_false_iff_ne.2 q3
     obtain ⟨w6, h65⟩ : ∃ z, z = w5 := ⟨_, rfl⟩
     rw [← h65] at HB5 HE5 HPL5 HU5 HS5 ⊢
     have hS6 := HS5.out
     have B6 := HB5.out
     have E6 := HE5.out
     have HPL6 := HPL5
     have HU6 := HU5
     clear HB5 HE5 HPL5 HU5 HS5 h65
     have hU6 := HU6.out
     have hs6 := hU6.size
     have p6_0 := B6.frozen 0
     have p6_1 := B6.frozen 1
     have p6_2 := B6.frozen 2
     have p6_3 := B6.frozen 3
     have p6_4 := B6.frozen 4
     have q6_0 : w6.cell? ⟨b, 0, none⟩ = some (.string (tx s)) := B6.cell 0
     have q6_1 : w6.cell? ⟨b, 1, none⟩ = some (.int .i64 u) := B6.cell 1
     have q6_2 : w6.cell? ⟨b, 2, none⟩ = some (.int .i64 f) := B6.cell 2
     have q6_3 : w6.cell? ⟨b, 3, none⟩ = some (.int .i64 d) := B6.cell 3
     have q6_4 : w6.cell? ⟨b, 4, none⟩ = some (.slice An ns.length cn) := B6.cell 4
     have r6_0 := E6.frozen 0
     have r6_1 := E6.frozen 1
     have r6_2 := E6.frozen 2
     have r6_3 := E6.frozen 3
     have r6_4 := E6.frozen 4
     have v6_0 : w6.cell? ⟨w.heap.size, 0, none⟩ = some (.string ⟨#[]⟩) := E6.cell 0
     have v6_1 : w6.cell? ⟨w.heap.size, 1, none⟩ = some (.int .i64 0) := E6.cell 1
     have v6_2 : w6.cell? ⟨w.heap.size, 2, none⟩ = some (.int .i64 0) := E6.cell 2
     have v6_3 : w6.cell? ⟨w.heap.size, 3, none⟩ = some (.int .i64 0) := E6.cell 3
     have v6_4 : w6.cell? ⟨w.heap.size, 4, none⟩ = some (.slice none 0 0) := E6.cell 4
     have la6 := B6.lt
     have lb6 := E6.lt
     have PLR := HPL6
     have RWR : Hid (∀ z : Addr, An = some z → w.heap.size < z.block ∧ ¬ z.block = b ∧ z.block < w6.heap.size) := hI (fun z hz => by have := HAn.out z hz; omega)
     go_wp2
     refine ret_pl (b0 := w.heap.size) (t := 57) (v := .agg #[.string (tx s), .int .i64 u, .int .i64 f, .int .i64 d, .slice An ns.length cn]) (Blk.eq (bS (bS (bS (bS (bS E6))))) (by rfl)) rfl (by intro W' r0 r1 r2 r3 r4; simp [results, Tryz.results110, go_sem, r0, r1, r2, r3, r4]) ⟨(s, u, f, d, An, cn, ns), rfl, ⟨?_, PLR.out.2.1, by simp only; omega, PLR.out.2.2.2.1, PLR.out.2.2.2.2⟩, by simp only; omega, fun z hz => by have := RWR.out z hz; simp; omega, sF n2 hasz (sF n2 hasz (sF n2 hasz (sF n2 hasz (sF n2 hasz hS6)))), uW (by omega) (uW (by omega) (uW (by omega) (uW (by omega) (uW (by omega) hU6))))⟩
     have qq := PLR.out.1
     repeat (first | with_reducible exact qq | (refine SlAt.setFar ?_ (fun z hz => by have := RWR.out z hz; first | (show ¬ z.block = w.heap.size; omega) | (show ¬ z.block = b; omega)) _))
end Go.Proofs.YtlnliajnipniaaaGreatDoor
