/- Languages that are drawn; worlds with codes and years. Worlds that are drawn, with codes, languages and years. The draws of worlds with years, codes and languages. More draws of worlds. -/
import Derived.Test.YtlnliajnipniaaaGreatDoorL2
namespace Go.Proofs.YtlnliajnipniaaaGreatDoor
open Go.RowKit
attribute [local go_sem] ExtOf.cell ExtOf.frozen
def tonT : List (List UInt8) := [[101, 110], [100, 101], [108, 97, 116], [101, 110], [101, 110], [101]]
theorem ton_ok : ∀ j, j < 6 → (tonT.getD j []).length ≤ 3 := by decide
def tonV : Array Value := #[.string (tx [101, 110]), .string (tx [100, 101]), .string (tx [108, 97, 116]), .string (tx [101, 110]), .string (tx [101, 110]), .string (tx [101])]
theorem ton_cell : ∀ j, j < 6 → tonV[j]? = some (.string (tx (tonT.getD j []))) := by
 intro j hj
 rcases (show j = 0 ∨ j = 1 ∨ j = 2 ∨ j = 3 ∨ j = 4 ∨ j = 5 by omega) with rfl | rfl | rfl | rfl | rfl | rfl <;> rfl
set_option maxRecDepth 20000 in
set_option maxHeartbeats 12800000 in
theorem s_l14Tongues {a : World} {A : Option Addr} {c : Nat} {bs : List Int} {g : Nat} (w : World) (h : Src a A c bs g w) :
  Calls Tryz.prog 44 #[.pointer (some ⟨g, 0, none⟩)] w fun e w' => ∃ (A' : Option Addr) (c' : Nat) (ls : List (List UInt8)), e = .returned (.slice A' ls.length c') ∧ SlAt w' 1 encS A' ls ∧ (ls.length ≤ 2 ∧ (∀ s ∈ ls, s.length ≤ 3) ∧ ∀ q, A' = some q → w.heap.size ≤ q.block) ∧ Src a A c bs g w' ∧ But g w w' := by
 have hlt := h.lt
 have how := h.own
 have hasz := h.ext.size
 go_enter Tryz.func44, Tryz.ntmps44
 (go_wp2_with fail; refine (s_l01Next (a := a) (A := A) (c := c) (bs := bs) _ _ (sA h) (by omega)).mono ?_; rintro e w1 ⟨x1, rfl, hb1, hS1, hu1⟩; obtain ⟨hc1, hf1, hs1⟩ := hu1.all; (try simp at hs1); have := (show g < w1.heap.size from by omega))
 obtain ⟨n, rfl⟩ := Int.eq_ofNat_of_zero_le hb1.1
 have hn2 : n ≤ 2 := by omega
 have hv0 : OwS (w.alloc (.cells #[] 9)) w.heap.size (.slice (some ⟨w.heap.size, 0, none⟩) 0 0) ([] : List (List UInt8)) := World.ownsRow_made (base := w.heap.size) (e := 9) (size := 1) w #[] 0 (Nat.le_refl _) (Nat.zero_le _) rfl
 have HV0 := hI (hv0.but (by first | exact hu1) hlt)
 have HU1 : Hid (But g w w1) := hI (uT (uA uR) hu1)
 have HS1 := hI hS1
 have HE : Hid (∀ s ∈ ([] : List (List UInt8)), s.length ≤ 3) := hI (fun l hl => by simp at hl)
 clear hv0 hu1 hS1 hb1 hc1 hf1 h
 go_wp2
 go_loopw [3, 4] (fun v i wr => ∃ (k : Nat) (ls : List (List UInt8)), i = .int .i64 k ∧ k ≤ 2 ∧ ls.length + k ≤ 2 ∧ Hid (∀ s ∈ ls, s.length ≤ 3) ∧ Hid (OwS wr w.heap.size v ls) ∧ Hid (Src a A c bs g wr) ∧ Hid (But g w wr)) (fun _ i _ => (intOf i).toNat)
 case atStart => exact ⟨n, [], by go_num, hn2, by simp; omega, HE, HV0, HS1, HU1⟩
 case round =>
  obtain ⟨k, ls, rfl, hk2, hlk, HE1, HV, HSr, HUr⟩ := hrel
  obtain ⟨w5, rfl⟩ : ∃ x, x = wr := ⟨wr, rfl⟩
  have hglt := HSr.out.lt
  have hsr := HUr.out.size
  by_cases hk0 : 0 < k
  ·obtain ⟨k, rfl⟩ : ∃ q, k = q + 1 := ⟨k - 1, by omega⟩
   have hdec : IntKind.i64.wrap (((k + 1 : Nat) : Int) - 1) = (k : Int) := by rw [IntWalk.i64_in _ (by omega)]; omega
   (go_wp2_with fail; refine (s_l01Next (a := a) (A := A) (c := c) (bs := bs) _ _ (HSr.out.alloc _) (by omega)).mono ?_; rintro e w9 ⟨x9, rfl, hb9, hS9, hu9⟩; obtain ⟨hc9, hf9, hs9⟩ := hu9.all; (try simp at hs9); have := (show w5.heap.size < w9.heap.size from by omega))
   obtain ⟨j, rfl⟩ := Int.eq_ofNat_of_zero_le hb9.1
   have hj : j < 6 := by omega
   have hP : Blk w9 w5.heap.size 9 tonV := blk_is (bU hu9 (by omega) (bN (by omega))) (by rfl)
   have hcell : w9.cell? ⟨w5.heap.size, j, none⟩ = some (.string (tx (tonT.getD j []))) := (hP.cell j).trans (ton_cell j hj)
   have hlen := ton_ok j hj
   generalize tonT.getD j [] = t9 at *
   have HV9 : Hid (OwS w9 w.heap.size _ ls) := hI ((HV.out.alloc _).but hu9 hlt)
   have HU9 : Hid (But g w w9) := hI ((HUr.out.alloc _).trans hu9)
   have HS9 := hI hS9
   clear hP hu9 hc9 hf9 hb9 hS9 HV HUr HSr
   go_wp2_with (at_builtin; refine wpList_append_sl elS len_encS one_encS rfl _ _ rfl rfl (HV9.out.ext (xA xR)) (xs := [t9]) rfl (blk_s1 (bN (by omega))) (by simp; unfold maxLen; omega) (by simp; omega) (by first | omega | (simp; omega)) ?_)
   intro v' w6 hown hgrow _
   have HS6 : Hid (Src a A c bs g w6) := hI ((HS9.out.alloc _).grownR hgrow (fun q hq => by have := (HV9.out.row q hq).1; omega))
   have HU6 : Hid (But g w w6) := hI ((HU9.out.alloc _).grownR hgrow (fun q hq => (HV9.out.row q hq).1))
   have HV6 : Hid (OwS w6 w.heap.size v' (ls ++ [t9])) := hI hown
   have HE6 : Hid (∀ s ∈ ls ++ [t9], s.length ≤ 3) := hI (fun s hs => by
    rcases List.mem_append.1 hs with e | e
    ·exact HE1.out s e
    ·rw [List.mem_singleton.1 e]; exact hlen)
   clear hown hgrow HV9 HS9 HU9
   go_wp2
   go_roundw
   case rel => exact ⟨k, ls ++ [t9], by go_num, by omega, by simp; omega, HE6, HV6, HS6, HU6⟩
   case measure => simp [intOf]
  ·obtain rfl : k = 0 := by omega
   obtain ⟨A4, c4, rfl, hS4, _, _, hA4⟩ := HV.out.sl len_encS
   have HS4 := hI hS4
   clear hS4
   go_wp2
   go_ret
   exact ⟨A4, c4, ls, rfl, HS4.out, ⟨by omega, HE1.out, fun q hq => (hA4 q hq).1⟩, HSr.out, HUr.out⟩
def CW (a : World) (A : Option Addr) (c : Nat) (bs : List Int) (g : Nat) (w : World) (lo r b gq n cq : Nat) (A' : Option Addr) (m ck : Nat) (ps : List Pl) (L : List Lk) (W : World) : Prop :=
 Src a A c bs g W ∧ But g w W ∧ Blk W b 27 #[.slice (some ⟨gq, 0, none⟩) n cq, .slice A' m ck] ∧ (∃ u0 u1, Blk W r 27 #[u0, u1]) ∧ WDr W lo gq n cq A' m ck ps L
def KW (r lo : Nat) (cb : Array Value) (w w' : World) : Prop := (Blk w r 27 cb → Blk w' r 27 cb) ∧ ∀ (B : Option Addr) (xs : List (List UInt8)), (∀ q, B = some q → lo ≤ q.block) → SlAt w 1 encS B xs → SlAt w' 1 encS B xs
theorem KW.refl (r lo : Nat) (cb : Array Value) (w : World) : KW r lo cb w w := ⟨id, fun _ _ _ h => h⟩
theorem KW.but {r lo g : Nat} {cb : Array Value} {w w' : World} (hu : But g w w') (h1 : ¬ r = g) (h2 : g < lo) : KW r lo cb w w' :=
 ⟨fun h => h.but' hu h1, fun _ _ hq h => h.butG hu (fun z hz => by have := hq z hz; omega)⟩
theorem CW.call {a w W : World} {A : Option Addr} {c : Nat} {bs : List Int} {g lo r b gq n cq m ck : Nat} {A' : Option Addr} {ps : List Pl} {L : List Lk} {W2 : World} (h : CW a A c bs g w lo r b gq n cq A' m ck ps L W) (hS : Src a A c bs g W2) (hu : But g W W2) (h1 : ¬ b = g) (h2 : ¬ r = g) (h3 : g < lo) : CW a A c bs g w lo r b gq n cq A' m ck ps L W2 := by
 obtain ⟨_, q2, q3, ⟨u0, u1, q4⟩, q5⟩ := h
 exact ⟨hS, q2.trans hu, q3.but' hu h1, ⟨u0, u1, q4.but' hu h2⟩, q5.but hu h3⟩
theorem CW.put {a w W : World} {A : Option Addr} {c : Nat} {bs : List Int} {g lo r b gq n cq m ck : Nat} {A' : Option Addr} {ps : List Pl} {L : List Lk} (h : CW a A c bs g w lo r b gq n cq A' m ck ps L W) (h1 : ¬ g = r) (h2 : a.heap.size ≤ r) (h3 : w.heap.size ≤ r) (h4 : ¬ b = r) (hf : FarW r gq A' ps) (x0 x1 : Value) :
  CW a A c bs g w lo r b gq n cq A' m ck ps L ((W.setCell ⟨r, 0, none⟩ x0).setCell ⟨r, 1, none⟩ x1) ∧ Blk ((W.setCell ⟨r, 0, none⟩ x0).setCell ⟨r, 1, none⟩ x1) r 27 #[x0, x1] := by
 obtain ⟨q1, q2, q3, ⟨u0, u1, q4⟩, q5⟩ := h
 have e : Blk ((W.setCell ⟨r, 0, none⟩ x0).setCell ⟨r, 1, none⟩ x1) r 27 #[x0, x1] := Blk.eq (bS (bS q4)) (by rfl)
 exact ⟨⟨sF h1 h2 (sF h1 h2 q1), uW h3 (uW h3 q2), bF h4 (bF h4 q3), ⟨x0, x1, e⟩, (q5.set (q := ⟨r, 0, none⟩) hf x0).set (q := ⟨r, 1, none⟩) hf x1⟩, e⟩
theorem KW.put {r lo : Nat} {cb : Array Value} {W : World} {x0 x1 : Value} (h : Blk ((W.setCell ⟨r, 0, none⟩ x0).setCell ⟨r, 1, none⟩ x1) r 27 cb) (hl : r < lo) : KW r lo cb W ((W.setCell ⟨r, 0, none⟩ x0).setCell ⟨r, 1, none⟩ x1) :=
 ⟨fun _ => h, fun _ _ hq hs => (hs.setFar (fun z hz => by have := hq z hz; show ¬ z.block = r; omega) _).setFar (fun z hz => by have := hq z hz; show ¬ z.block = r; omega) _⟩
theorem CW.drew {a w W : World} {A : Option Addr} {c : Nat} {bs : List Int} {g lo r b gq n cq m ck : Nat} {A' : Option Addr} {ps : List Pl} {L : List Lk} (h : CW a A c bs g w lo r b gq n cq A' m ck ps L W) : CW a A c bs g w lo r b gq n cq A' m ck ps L W.drew := ⟨h.1.drew, h.2.1.drew, h.2.2.1.drew, h.2.2.2.1, h.2.2.2.2.ext (Ext.refl _).drew⟩
def RgL1 (r : Nat) (cb : Array Value) (p : Value) : Nat → Value → World → Prop
 | 0, v, _ => v = .agg cb
 | 1, v, _ => v = p
 | 2, v, _ => v = .agg cb
 | 3, v, _ => ∃ t : List UInt8, v = .string (tx t) ∧ t.length ≤ 17
 | 4, _, W => Blk W r 27 cb
 | 5, v, _ => ∃ t : List UInt8, v = .string (tx t) ∧ t.length ≤ 17
 | _, _, _ => True
theorem RgL1.stay {r lo : Nat} {cb : Array Value} {p : Value} (i : Nat) (v : Value) (w w' : World) (hk : KW r lo cb w w') (h : RgL1 r cb p i v w) : RgL1 r cb p i v w' := by
 rcases i with _ | _ | _ | _ | _ | _ | i
 ·exact h
 ·exact h
 ·exact h
 ·exact h
 ·exact hk.1 h
 ·exact h
 ·trivial
set_option maxRecDepth 20000 in
set_option maxHeartbeats 12800000 in
theorem s_l14Draw {a : World} {A : Option Addr} {c : Nat} {bs : List Int} {g : Nat} (w : World) (h : Src a A c bs g w) :
  Calls Tryz.prog 19 #[.pointer (some ⟨g, 0, none⟩)] w fun e w' => ∃ (gq n cq : Nat) (A' : Option Addr) (m ck : Nat) (ps : List Pl) (L : List Lk) (t : List UInt8), e = .returned (.tuple #[.agg #[.slice (some ⟨gq, 0, none⟩) n cq, .slice A' m ck], .string (tx t)]) ∧ WDr w' w.heap.size gq n cq A' m ck ps L ∧ t.length ≤ 17 ∧ Src a A c bs g w' ∧ But g w w' := by
 have hlt := h.lt
 have how := h.own
 have hasz := h.ext.size
 have nb : ¬ w.heap.size = g := by omega
 have ng2 : a.heap.size ≤ w.heap.size := hasz
 have HZ0 : Hid (Blk (w.alloc (.cells #[.slice none 0 0, .slice none 0 0] 27)) w.heap.size 27 #[.slice none 0 0, .slice none 0 0]) := hI (Blk.new rfl)
 have HU0 : Hid (But g w (w.alloc (.cells #[.slice none 0 0, .slice none 0 0] 27))) := hI (But.alloc (But.refl g w) _)
 have hsz0 : w.heap.size + 1 ≤ (w.alloc (.cells #[.slice none 0 0, .slice none 0 0] 27)).heap.size := by simp
 go_enter Tryz.func19, Tryz.ntmps19
 go_upto_region 1 with (fail)
 go_cut [4] (fun p wx => ∃ (b gq n cq : Nat) (A' : Option Addr) (m ck : Nat) (ps : List Pl) (L : List Lk), p = .pointer (some ⟨b, 0, none⟩) ∧ w.heap.size < b ∧ b ≠ g ∧ b < wx.heap.size ∧ Hid (CW a A c bs g w (w.heap.size + 1) w.heap.size b gq n cq A' m ck ps L wx) ∧ Hid (FarW w.heap.size gq A' ps))
 case first =>
  go_wp2_with fail
  refine (s_l13Draw (a := a) (A := A) (c := c) (bs := bs) _ (sA h)).mono ?_
  rintro e w1 ⟨gq, n, cq, A', m, ck, ps, L, rfl, hW, hS1, hu1⟩
  have hs1 := hu1.size
  have hz1 := HZ0.out.but' hu1 nb
  have HZ := hI hz1
  have HU1 : Hid (But g w w1) := hI (HU0.out.trans hu1)
  have HS1 := hI hS1
  have HW := hI (hW.less (lo' := w.heap.size + 1) hsz0)
  have ng1 : ¬ g = w1.heap.size := by have := hS1.lt; omega
  have hlz := hz1.lt
  clear hW hS1 hu1 hz1
  go_wp2_with fail
  go_meet
  have hz := HZ.out
  have hu1 := HU1.out
  have hS1 := HS1.out
  exact ⟨w1.heap.size, gq, n, cq, A', m, ck, ps, L, rfl, by omega, fun e => ng1 e.symm, by simp, hI ⟨sA hS1, uA hu1, Blk.eq (bN (by omega)) (by rfl), ⟨_, _, bA hz⟩, HW.out.ext (xA xR)⟩, hI ⟨by have := HW.out.rq; omega, fun z hz => by have := HW.out.rk z hz; omega, fun p hp _ z hz => by have := HW.out.rn p hp z hz; omega⟩⟩
 case rest =>
 obtain ⟨b, gq, n, cq, A', m, ck, ps, L, rfl, hb, nbg, hbl, HC0, HFR⟩ := hcut
 obtain ⟨w4, rfl⟩ : ∃ z, z = wc := ⟨wc, rfl⟩
 obtain ⟨lo, hloe⟩ : ∃ lo, lo = w.heap.size + 1 := ⟨_, rfl⟩
 rw [← hloe] at HC0
 obtain ⟨lo2, hlo2⟩ : ∃ lo2, lo2 = w4.heap.size := ⟨_, rfl⟩
 have nrg : ¬ w.heap.size = g := nb
 have ng1 : ¬ g = w.heap.size := fun e => nb e.symm
 have nbr : ¬ b = w.heap.size := by omega
 have hgl : g < lo := by omega
 have hgl2 : g < lo2 := by have := HC0.out.1.lt; omega
 have hlo : w.heap.size < lo2 := by omega
 have hlw : w.heap.size ≤ lo := by omega
 replace hloe := hI hloe
 replace hlo2 := hI hlo2
 go_upto_region 2 with (fail)
 go_cut [3] (fun v wx => ∃ t : List UInt8, v = .string (tx t) ∧ t.length ≤ 17 ∧ Hid (CW a A c bs g w lo w.heap.size b gq n cq A' m ck ps L wx) ∧ Hid (Blk wx w.heap.size 27 #[.slice (some ⟨gq, 0, none⟩) n cq, .slice A' m ck]))
 case first =>
  refine wp_region_rgb (m := 6) (C := CW a A c bs g w lo w.heap.size b gq n cq A' m ck ps L) (K := KW w.heap.size lo2 #[.slice (some ⟨gq, 0, none⟩) n cq, .slice A' m ck]) (R := RgL1 w.heap.size #[.slice (some ⟨gq, 0, none⟩) n cq, .slice A' m ck] (.pointer (some ⟨g, 0, none⟩))) Tryz.f19.ntmps (by kernel_rfl) (by kernel_rfl) (by simp) (by rw [Tryz.ntmps19]; simp) (fun i v w w' => RgL1.stay i v w w') ?hC ?hstep ?hend
  case hC => exact HC0.out.drew
  case hstep =>
   simp only [List.take_succ_cons, List.take_zero]
   refine AllFrom.cons ?_ <| AllFrom.cons ?_ <| AllFrom.cons ?_ <| AllFrom.cons ?_ <| AllFrom.cons ?_ <| AllFrom.cons ?_ AllFrom.nil
   all_goals (intro a1 W hfr hdep hC; have HC := hI hC; clear hC)
   ·have t4 : a1.tmps.getD 4 undef = .pointer (some ⟨b, 0, none⟩) := hfr.at_ rfl (by kernel_rfl)
    have hBW := HC.out.2.2.1
    have c0 : W.cell? ⟨b, 0, none⟩ = some (.slice (some ⟨gq, 0, none⟩) n cq) := hBW.cell 0
    have c1 : W.cell? ⟨b, 1, none⟩ = some (.slice A' m ck) := hBW.cell 1
    unfold Oper.wp
    go_simp
    exact ⟨_, rfl, rfl, KW.refl _ _ _ _, HC.out⟩
   ·have t0 : a1.tmps.getD 0 undef = .pointer (some ⟨g, 0, none⟩) := hfr.at_ rfl (by kernel_rfl)
    unfold Oper.wp
    go_simp
    exact ⟨_, rfl, rfl, KW.refl _ _ _ _, HC.out⟩
   ·have t4 : a1.tmps.getD 4 undef = .pointer (some ⟨b, 0, none⟩) := hfr.at_ rfl (by kernel_rfl)
    have hBW := HC.out.2.2.1
    have c0 : W.cell? ⟨b, 0, none⟩ = some (.slice (some ⟨gq, 0, none⟩) n cq) := hBW.cell 0
    have c1 : W.cell? ⟨b, 1, none⟩ = some (.slice A' m ck) := hBW.cell 1
    unfold Oper.wp
    go_simp
    exact ⟨_, rfl, rfl, KW.refl _ _ _ _, HC.out⟩
   ·have t8 : a1.tmps.getD 8 undef = .pointer (some ⟨g, 0, none⟩) := hdep ⟨1, .data⟩ (by simp) rfl _ rfl
    have t8q := tq t8
    have t9 : a1.tmps.getD 9 undef = .agg #[.slice (some ⟨gq, 0, none⟩) n cq, .slice A' m ck] := hdep ⟨2, .data⟩ (by simp) rfl _ rfl
    have t9q := tq t9
    have hW9 := HC.out.2.2.2.2
    unfold Oper.wp
    go_simp
    refine (s_l13Pick (a := a) (A := A) (c := c) (bs := bs) gq n cq A' m ck ps _ HC.out.1 hW9.sq hW9.hn (by have := hW9.h11; omega) hW9.hle (by have := hW9.rq; omega)).mono ?_
    rintro e W2 ⟨t, rfl, ht, hS2, hu2⟩
    exact ⟨_, rfl, ⟨t, rfl, ht⟩, KW.but hu2 nrg hgl2, HC.out.call hS2 hu2 nbg nrg hgl⟩
   ·have t2 : a1.tmps.getD 2 undef = .pointer (some ⟨w.heap.size, 0, none⟩) := hfr.at_ rfl (by kernel_rfl)
    have t7 : a1.tmps.getD 7 undef = .agg #[.slice (some ⟨gq, 0, none⟩) n cq, .slice A' m ck] := hdep ⟨0, .data⟩ (by simp) rfl _ rfl
    have t7q := tq t7
    obtain ⟨u0, u1, hR0⟩ := HC.out.2.2.2.1
    have f0 := hR0.frozen 0
    have f1 := hR0.frozen 1
    have d0 : W.cell? ⟨w.heap.size, 0, none⟩ = some u0 := hR0.cell 0
    have d1 : W.cell? ⟨w.heap.size, 1, none⟩ = some u1 := hR0.cell 1
    have hlr := hR0.lt
    obtain ⟨hC2, hB2⟩ := HC.out.put ng1 ng2 (Nat.le_refl _) nbr HFR.out (.slice (some ⟨gq, 0, none⟩) n cq) (.slice A' m ck)
    unfold Oper.wp
    go_simp
    first | exact ⟨hB2, KW.put hB2 hlo⟩ | exact ⟨hB2, KW.put hB2 hlo, hC2⟩
   ·obtain ⟨t, t10, ht⟩ : RgL1 w.heap.size _ _ 3 (a1.tmps.getD 10 undef) W := hdep ⟨3, .data⟩ (by simp) rfl _ rfl
    have t10q := tq t10
    unfold Oper.wp
    go_simp
    exact ⟨_, rfl, ⟨t, rfl, ht⟩, KW.refl _ _ _ _, HC.out⟩
  case hend =>
   intro a1 W hfr hR hC
   obtain ⟨t, t3, ht⟩ : RgL1 w.heap.size _ _ 5 (a1.tmps.getD 3 undef) W := hR 5 _ (by omega) rfl
   have hBr : RgL1 w.heap.size _ _ 4 _ W := hR 4 _ (by omega) rfl
   have t3q := tq t3
   have HC := hI hC
   clear hC
   refine wpAny_end (by kernel_rfl) ?_
   have hsh := hfr.shape [false, false, false, true, false, false, false, true, true, true, true] (by rfl) (by kernel_rfl)
   simp only [mixL] at hsh
   rw [hsh]
   go_wp2_with fail
   go_meet
   exact ⟨t, by first | exact t3 | (simp [t3q]; done), ht, HC, hI hBr⟩
 case rest =>
 obtain ⟨t, rfl, ht, HC, HBR⟩ := hcut
 go_wp2
 exact ret_pts1 (b0 := w.heap.size) (t := 27) (v := .tuple #[.agg #[.slice (some ⟨gq, 0, none⟩) n cq, .slice A' m ck], .string (tx t)]) HBR.out rfl (by intro W' r0 r1; simp [results, Tryz.results19, go_sem, r0, r1]) ⟨gq, n, cq, A', m, ck, ps, L, t, rfl, HC.out.2.2.2.2.less hlw, ht, HC.out.1, HC.out.2.1⟩
def RgL2 (r : Nat) (cb : Array Value) (p y1 : Value) : Nat → Value → World → Prop
 | 0, v, _ => v = .agg cb
 | 1, v, _ => v = y1
 | 2, v, _ => v = p
 | 3, v, _ => ∃ y : Int, v = .int .i64 y ∧ -4000 ≤ y ∧ y ≤ 4000
 | 4, _, W => Blk W r 27 cb
 | 5, v, _ => v = y1
 | 6, v, _ => ∃ y : Int, v = .int .i64 y ∧ -4000 ≤ y ∧ y ≤ 4000
 | _, _, _ => True
theorem RgL2.stay {r lo : Nat} {cb : Array Value} {p y1 : Value} (i : Nat) (v : Value) (w w' : World) (hk : KW r lo cb w w') (h : RgL2 r cb p y1 i v w) : RgL2 r cb p y1 i v w' := by
 rcases i with _ | _ | _ | _ | _ | _ | _ | i
 ·exact h
 ·exact h
 ·exact h
 ·exact h
 ·exact hk.1 h
 ·exact h
 ·exact h
 ·trivial
set_option maxRecDepth 20000 in
set_option maxHeartbeats 12800000 in
theorem s_DrawSteadySpan (A : Option Addr) (c : Nat) (bs : List Int) (w : World) (h : SlAt w 1 encB A bs) (hb : ∀ b ∈ bs, 0 ≤ b ∧ b ≤ 255) (hl : bs.length ≤ 4096) :
  Calls Tryz.prog 8 #[.slice A bs.length c] w fun e w' => ∃ (gq n cq : Nat) (A' : Option Addr) (m ck : Nat) (ps : List Pl) (L : List Lk) (t : List UInt8) (y : Int), e = .returned (.tuple #[.agg #[.slice (some ⟨gq, 0, none⟩) n cq, .slice A' m ck], .string (tx t), .int .i64 y]) ∧ WDr w' w.heap.size gq n cq A' m ck ps L ∧ (t.length ≤ 17 ∧ -4000 ≤ y ∧ y ≤ 4000) ∧ Ext w w' := by
 have HB := hI hb
 clear hb
 go_enter Tryz.func8, Tryz.ntmps8
 go_wp2_with fail
 refine (s_l01From _ _ bs _ (h.ext (xA xR)) HB.out hl).mono ?_
 rintro e w0 ⟨g, rfl, hS0'⟩
 have hS0 : Src w A c bs g w0 := hS0'.base ((Ext.refl w).alloc _) h
 have hog := hS0'.own
 simp at hog
 have hg0 := hS0.lt
 have nb : ¬ w.heap.size = g := by omega
 have ng2 : w.heap.size ≤ w.heap.size := Nat.le_refl _
 have HZ0 : Hid (Blk w0 w.heap.size 27 #[.slice none 0 0, .slice none 0 0]) := hI ((Blk.new rfl).ext hS0'.ext)
 have HU0 : Hid (But g w w0) := hI (But.of hS0.ext)
 have hsz0 : w0.heap.size ≤ w0.heap.size := Nat.le_refl _
 have hw0 := hS0.ext.size
 clear hS0'
 go_upto_region 2 with (fail)
 go_cut [6, 7] (fun p v7 wx => ∃ (t : List UInt8) (b gq n cq : Nat) (A' : Option Addr) (m ck : Nat) (ps : List Pl) (L : List Lk), v7 = .string (tx t) ∧ t.length ≤ 17 ∧ p = .pointer (some ⟨b, 0, none⟩) ∧ w.heap.size < b ∧ b ≠ g ∧ b < wx.heap.size ∧ Hid (CW w A c bs g w w0.heap.size w.heap.size b gq n cq A' m ck ps L wx) ∧ Hid (FarW w.heap.size gq A' ps))
 case first =>
  go_wp2_with fail
  refine (s_l14Draw (a := w) (A := A) (c := c) (bs := bs) _ hS0).mono ?_
  rintro e w1 ⟨gq, n, cq, A', m, ck, ps, L, t, rfl, hW, ht, hS1, hu1⟩
  have hs1 := hu1.size
  have hz1 := HZ0.out.but' hu1 nb
  have HZ := hI hz1
  have HU1 : Hid (But g w w1) := hI (HU0.out.trans hu1)
  have HS1 := hI hS1
  have HW := hI (hW.less (lo' := w0.heap.size) hsz0)
  have ng1 : ¬ g = w1.heap.size := by have := hS1.lt; omega
  have hlz := hz1.lt
  clear hW hS1 hu1 hz1
  go_wp2_with fail
  go_meet
  have hz := HZ.out
  have hu1 := HU1.out
  have hS1 := HS1.out
  exact ⟨t, w1.heap.size, gq, n, cq, A', m, ck, ps, L, rfl, ht, rfl, by omega, fun e => ng1 e.symm, by simp, hI ⟨sA hS1, uA hu1, Blk.eq (bN (by omega)) (by rfl), ⟨_, _, bA hz⟩, HW.out.ext (xA xR)⟩, hI ⟨by have := HW.out.rq; omega, fun z hz => by have := HW.out.rk z hz; omega, fun p hp _ z hz => by have := HW.out.rn p hp z hz; omega⟩⟩
 case rest =>
 obtain ⟨t, b, gq, n, cq, A', m, ck, ps, L, rfl, ht, rfl, hb, nbg, hbl, HC0, HFR⟩ := hcut
 obtain ⟨w4, rfl⟩ : ∃ z, z = wc := ⟨wc, rfl⟩
 clear h
 obtain ⟨lo, hloe⟩ : ∃ lo, lo = w0.heap.size := ⟨_, rfl⟩
 rw [← hloe] at HC0
 obtain ⟨lo2, hlo2⟩ : ∃ lo2, lo2 = w4.heap.size := ⟨_, rfl⟩
 have nrg : ¬ w.heap.size = g := nb
 have ng1 : ¬ g = w.heap.size := fun e => nb e.symm
 have nbr : ¬ b = w.heap.size := by omega
 have hgl : g < lo := by omega
 have hgl2 : g < lo2 := by have := HC0.out.1.lt; omega
 have hlo : w.heap.size < lo2 := by omega
 have hlw : w.heap.size ≤ lo := by omega
 replace hloe := hI hloe
 replace hlo2 := hI hlo2
 go_upto_region 3 with (fail)
 go_cut [3, 4] (fun v v4 wx => ∃ y : Int, v = .string (tx t) ∧ v4 = .int .i64 y ∧ (-4000 ≤ y ∧ y ≤ 4000) ∧ Hid (CW w A c bs g w lo w.heap.size b gq n cq A' m ck ps L wx) ∧ Hid (Blk wx w.heap.size 27 #[.slice (some ⟨gq, 0, none⟩) n cq, .slice A' m ck]))
 case first =>
  refine wp_region_rgb (m := 7) (C := CW w A c bs g w lo w.heap.size b gq n cq A' m ck ps L) (K := KW w.heap.size lo2 #[.slice (some ⟨gq, 0, none⟩) n cq, .slice A' m ck]) (R := RgL2 w.heap.size #[.slice (some ⟨gq, 0, none⟩) n cq, .slice A' m ck] (.pointer (some ⟨g, 0, none⟩)) (.string (tx t))) Tryz.f8.ntmps (by kernel_rfl) (by kernel_rfl) (by simp) (by rw [Tryz.ntmps8]; simp) (fun i v w w' => RgL2.stay i v w w') ?hC ?hstep ?hend
  case hC => exact HC0.out.drew
  case hstep =>
   simp only [List.take_succ_cons, List.take_zero]
   refine AllFrom.cons ?_ <| AllFrom.cons ?_ <| AllFrom.cons ?_ <| AllFrom.cons ?_ <| AllFrom.cons ?_ <| AllFrom.cons ?_ <| AllFrom.cons ?_ AllFrom.nil
   all_goals (intro a1 W hfr hdep hC; have HC := hI hC; clear hC)
   ·have t6 : a1.tmps.getD 6 undef = .pointer (some ⟨b, 0, none⟩) := hfr.at_ rfl (by kernel_rfl)
    have hBW := HC.out.2.2.1
    have c0 : W.cell? ⟨b, 0, none⟩ = some (.slice (some ⟨gq, 0, none⟩) n cq) := hBW.cell 0
    have c1 : W.cell? ⟨b, 1, none⟩ = some (.slice A' m ck) := hBW.cell 1
    unfold Oper.wp
    go_simp
    exact ⟨_, rfl, rfl, KW.refl _ _ _ _, HC.out⟩
   ·have t7 : a1.tmps.getD 7 undef = .string (tx t) := hfr.at_ rfl (by kernel_rfl)
    unfold Oper.wp
    go_simp
    exact ⟨_, rfl, rfl, KW.refl _ _ _ _, HC.out⟩
   ·have t5 : a1.tmps.getD 5 undef = .pointer (some ⟨g, 0, none⟩) := hfr.at_ rfl (by kernel_rfl)
    unfold Oper.wp
    go_simp
    exact ⟨_, rfl, rfl, KW.refl _ _ _ _, HC.out⟩
   ·have t17 : a1.tmps.getD 17 undef = .pointer (some ⟨g, 0, none⟩) := hdep ⟨2, .data⟩ (by simp) rfl _ rfl
    have t17q := tq t17
    unfold Oper.wp
    go_simp
    refine (s_l11YearOf (a := w) (A := A) (c := c) (bs := bs) _ HC.out.1).mono ?_
    rintro e W2 ⟨y, rfl, hy, hS2, hu2⟩
    exact ⟨_, rfl, ⟨y, rfl, hy⟩, KW.but hu2 nrg hgl2, HC.out.call hS2 hu2 nbg nrg hgl⟩
   ·have t2 : a1.tmps.getD 2 undef = .pointer (some ⟨w.heap.size, 0, none⟩) := hfr.at_ rfl (by kernel_rfl)
    have t15 : a1.tmps.getD 15 undef = .agg #[.slice (some ⟨gq, 0, none⟩) n cq, .slice A' m ck] := hdep ⟨0, .data⟩ (by simp) rfl _ rfl
    have t15q := tq t15
    obtain ⟨u0, u1, hR0⟩ := HC.out.2.2.2.1
    have f0 := hR0.frozen 0
    have f1 := hR0.frozen 1
    have d0 : W.cell? ⟨w.heap.size, 0, none⟩ = some u0 := hR0.cell 0
    have d1 : W.cell? ⟨w.heap.size, 1, none⟩ = some u1 := hR0.cell 1
    have hlr := hR0.lt
    obtain ⟨hC2, hB2⟩ := HC.out.put ng1 ng2 (Nat.le_refl _) nbr HFR.out (.slice (some ⟨gq, 0, none⟩) n cq) (.slice A' m ck)
    unfold Oper.wp
    go_simp
    first | exact ⟨hB2, KW.put hB2 hlo⟩ | exact ⟨hB2, KW.put hB2 hlo, hC2⟩
   ·have t16 : a1.tmps.getD 16 undef = .string (tx t) := hdep ⟨1, .data⟩ (by simp) rfl _ rfl
    have t16q := tq t16
    unfold Oper.wp
    go_simp
    exact ⟨_, rfl, rfl, KW.refl _ _ _ _, HC.out⟩
   ·obtain ⟨y, t18, hy⟩ : RgL2 w.heap.size _ _ _ 3 (a1.tmps.getD 18 undef) W := hdep ⟨3, .data⟩ (by simp) rfl _ rfl
    have t18q := tq t18
    unfold Oper.wp
    go_simp
    exact ⟨_, rfl, ⟨y, rfl, hy⟩, KW.refl _ _ _ _, HC.out⟩
  case hend =>
   intro a1 W hfr hR hC
   have t3 : a1.tmps.getD 3 undef = .string (tx t) := hR 5 _ (by omega) rfl
   obtain ⟨y, t4, hy⟩ : RgL2 w.heap.size _ _ _ 6 (a1.tmps.getD 4 undef) W := hR 6 _ (by omega) rfl
   have hBr : RgL2 w.heap.size _ _ _ 4 _ W := hR 4 _ (by omega) rfl
   have t3q := tq t3
   have t4q := tq t4
   have HC := hI hC
   clear hC
   refine wpAny_end (by kernel_rfl) ?_
   have hsh := hfr.shape [false, false, false, true, true, false, false, false, false, false, false, false, false, false, false, true, true, true, true] (by rfl) (by kernel_rfl)
   simp only [mixL] at hsh
   rw [hsh]
   go_wp2_with fail
   go_meet
   exact ⟨y, by first | exact t3 | (simp [t3q]; done), by first | exact t4 | (simp [t4q]; done), hy, HC, hI hBr⟩
 case rest =>
 obtain ⟨y2, rfl, rfl, hy2, HC, HBR⟩ := hcut
 go_wp2
 exact ret_pts1 (b0 := w.heap.size) (t := 27) (v := .tuple #[.agg #[.slice (some ⟨gq, 0, none⟩) n cq, .slice A' m ck], .string (tx t), .int .i64 y2]) HBR.out rfl (by intro W' r0 r1; simp [results, Tryz.results8, go_sem, r0, r1]) ⟨gq, n, cq, A', m, ck, ps, L, t, y2, rfl, HC.out.2.2.2.2.less hlw, ⟨ht, hy2⟩, HC.out.1.ext⟩
def RgL4 (r : Nat) (cb : Array Value) (p t2 l2 : Value) : Nat → Value → World → Prop
 | 0, v, _ => v = .agg cb
 | 1, v, _ => v = t2
 | 2, v, _ => v = l2
 | 3, v, _ => v = p
 | 4, v, _ => ∃ y : Int, v = .int .i64 y ∧ -4000 ≤ y ∧ y ≤ 4000
 | 5, _, W => Blk W r 27 cb
 | 6, v, _ => v = t2
 | 7, v, _ => v = l2
 | 8, v, _ => ∃ y : Int, v = .int .i64 y ∧ -4000 ≤ y ∧ y ≤ 4000
 | _, _, _ => True
theorem RgL4.stay {r lo : Nat} {cb : Array Value} {p t2 l2 : Value} (i : Nat) (v : Value) (w w' : World) (hk : KW r lo cb w w') (h : RgL4 r cb p t2 l2 i v w) : RgL4 r cb p t2 l2 i v w' := by
 rcases i with _ | _ | _ | _ | _ | _ | _ | _ | _ | i
 ·exact h
 ·exact h
 ·exact h
 ·exact h
 ·exact h
 ·exact hk.1 h
 ·exact h
 ·exact h
 ·exact h
 ·trivial
set_option maxRecDepth 20000 in
set_option maxHeartbeats 6400000 in
theorem s_DrawTurnsOf (A : Option Addr) (c : Nat) (bs : List Int) (w : World) (h : SlAt w 1 encB A bs) (hb : ∀ b ∈ bs, 0 ≤ b ∧ b ≤ 255) (hl : bs.length ≤ 4096) :
  Calls Tryz.prog 5 #[.slice A bs.length c] w fun e w' => ∃ (gq n cq : Nat) (A' : Option Addr) (m ck : Nat) (ps : List Pl) (L : List Lk) (t : List UInt8), e = .returned (.tuple #[.agg #[.slice (some ⟨gq, 0, none⟩) n cq, .slice A' m ck], .string (tx t)]) ∧ WDr w' w.heap.size gq n cq A' m ck ps L ∧ t.length ≤ 17 ∧ Ext w w' := by
 have HB := hI hb
 clear hb
 go_enter Tryz.func5, Tryz.ntmps5
 go_wp2_with fail
 refine (s_l01From _ _ bs _ (h.ext (xA xR)) HB.out hl).mono ?_
 rintro e w0 ⟨g, rfl, hS0'⟩
 have hS0 : Src w A c bs g w0 := hS0'.base ((Ext.refl w).alloc _) h
 have hog := hS0'.own
 simp at hog
 have hg0 := hS0.lt
 have nb : ¬ w.heap.size = g := by omega
 have ng2 : w.heap.size ≤ w.heap.size := Nat.le_refl _
 have HZ0 : Hid (Blk w0 w.heap.size 27 #[.slice none 0 0, .slice none 0 0]) := hI ((Blk.new rfl).ext hS0'.ext)
 have HU0 : Hid (But g w w0) := hI (But.of hS0.ext)
 have hsz0 : w0.heap.size ≤ w0.heap.size := Nat.le_refl _
 have hw0 := hS0.ext.size
 clear hS0'
 go_wp2_with fail
 refine (s_l14Draw (a := w) (A := A) (c := c) (bs := bs) _ hS0).mono ?_
 rintro e w1 ⟨gq, n, cq, A', m, ck, ps, L, t, rfl, hW, ht, hS1, hu1⟩
 have hz1 : Blk w1 w.heap.size 27 #[.slice none 0 0, .slice none 0 0] := HZ0.out.but' hu1 nb
 have HZ := hI hz1
 have HF : Hid (FarW w.heap.size gq A' ps) := hI ⟨by have := hW.rq; omega, fun z hz => by have := hW.rk z hz; omega, fun p hp _ z hz => by have := hW.rn p hp z hz; omega⟩
 have HW := hI (hW.less (lo' := w.heap.size) hw0)
 have HX := hI hS1.ext
 have f0 := hz1.frozen 0
 have f1 := hz1.frozen 1
 have d0 : w1.cell? ⟨w.heap.size, 0, none⟩ = some (.slice none 0 0) := hz1.cell 0
 have d1 : w1.cell? ⟨w.heap.size, 1, none⟩ = some (.slice none 0 0) := hz1.cell 1
 have hlz := hz1.lt
 clear hz1 hW hS1 hu1 hS0
 go_wp2
 have hz1 := HZ.out
 have hx1 := HX.out
 exact ret_pts1 (b0 := w.heap.size) (t := 27) (v := .tuple #[.agg #[.slice (some ⟨gq, 0, none⟩) n cq, .slice A' m ck], .string (tx t)]) (Blk.eq (bS (bS hz1)) (by rfl)) rfl (by intro W' r0 r1; simp [results, Tryz.results5, go_sem, r0, r1]) ⟨gq, n, cq, A', m, ck, ps, L, t, rfl, (HW.out.set (q := ⟨w.heap.size, 0, none⟩) HF.out _).set (q := ⟨w.heap.size, 1, none⟩) HF.out _, ht, xC ng2 (xC ng2 hx1)⟩
set_option maxRecDepth 20000 in
set_option maxHeartbeats 12800000 in
theorem s_DrawStateLine (A : Option Addr) (c : Nat) (bs : List Int) (w : World) (h : SlAt w 1 encB A bs) (hb : ∀ b ∈ bs, 0 ≤ b ∧ b ≤ 255) (hl : bs.length ≤ 4096) :
  Calls Tryz.prog 14 #[.slice A bs.length c] w fun e w' => ∃ (gq n cq : Nat) (A' : Option Addr) (m ck : Nat) (ps : List Pl) (L : List Lk) (t : List UInt8) (A2 : Option Addr) (c2 : Nat) (ls : List (List UInt8)) (y : Int), e = .returned (.tuple #[.agg #[.slice (some ⟨gq, 0, none⟩) n cq, .slice A' m ck], .string (tx t), .slice A2 ls.length c2, .int .i64 y]) ∧ WDr w' w.heap.size gq n cq A' m ck ps L ∧ t.length ≤ 17 ∧ (SlAt w' 1 encS A2 ls ∧ ls.length ≤ 2 ∧ ∀ s ∈ ls, s.length ≤ 3) ∧ (-4000 ≤ y ∧ y ≤ 4000) ∧ Ext w w' := by
 have HB := hI hb
 clear hb
 go_enter Tryz.func14, Tryz.ntmps14
 go_wp2_with fail
 refine (s_l01From _ _ bs _ (h.ext (xA xR)) HB.out hl).mono ?_
 rintro e w0 ⟨g, rfl, hS0'⟩
 have hS0 : Src w A c bs g w0 := hS0'.base ((Ext.refl w).alloc _) h
 have hog := hS0'.own
 simp at hog
 have hg0 := hS0.lt
 have nb : ¬ w.heap.size = g := by omega
 have ng2 : w.heap.size ≤ w.heap.size := Nat.le_refl _
 have HZ0 : Hid (Blk w0 w.heap.size 27 #[.slice none 0 0, .slice none 0 0]) := hI ((Blk.new rfl).ext hS0'.ext)
 have HU0 : Hid (But g w w0) := hI (But.of hS0.ext)
 have hsz0 : w0.heap.size ≤ w0.heap.size := Nat.le_refl _
 have hw0 := hS0.ext.size
 clear hS0'
 go_upto_region 2 with (fail)
 go_cut [7, 8] (fun p v8 wx => ∃ (t : List UInt8) (b gq n cq : Nat) (A' : Option Addr) (m ck : Nat) (ps : List Pl) (L : List Lk), v8 = .string (tx t) ∧ t.length ≤ 17 ∧ p = .pointer (some ⟨b, 0, none⟩) ∧ w.heap.size < b ∧ b ≠ g ∧ b < wx.heap.size ∧ Hid (CW w A c bs g w w0.heap.size w.heap.size b gq n cq A' m ck ps L wx) ∧ Hid (FarW w.heap.size gq A' ps))
 case first =>
  go_wp2_with fail
  refine (s_l14Draw (a := w) (A := A) (c := c) (bs := bs) _ hS0).mono ?_
  rintro e w1 ⟨gq, n, cq, A', m, ck, ps, L, t, rfl, hW, ht, hS1, hu1⟩
  have hs1 := hu1.size
  have hz1 := HZ0.out.but' hu1 nb
  have HZ := hI hz1
  have HU1 : Hid (But g w w1) := hI (HU0.out.trans hu1)
  have HS1 := hI hS1
  have HW := hI (hW.less (lo' := w0.heap.size) hsz0)
  have ng1 : ¬ g = w1.heap.size := by have := hS1.lt; omega
  have hlz := hz1.lt
  clear hW hS1 hu1 hz1
  go_wp2_with fail
  go_meet
  have hz := HZ.out
  have hu1 := HU1.out
  have hS1 := HS1.out
  exact ⟨t, w1.heap.size, gq, n, cq, A', m, ck, ps, L, rfl, ht, rfl, by omega, fun e => ng1 e.symm, by simp, hI ⟨sA hS1, uA hu1, Blk.eq (bN (by omega)) (by rfl), ⟨_, _, bA hz⟩, HW.out.ext (xA xR)⟩, hI ⟨by have := HW.out.rq; omega, fun z hz => by have := HW.out.rk z hz; omega, fun p hp _ z hz => by have := HW.out.rn p hp z hz; omega⟩⟩
 case rest =>
 obtain ⟨t, b, gq, n, cq, A', m, ck, ps, L, rfl, ht, rfl, hb, nbg, hbl, HC0, HFR⟩ := hcut
 obtain ⟨w4, rfl⟩ : ∃ z, z = wc := ⟨wc, rfl⟩
 clear h
 go_wp2_with fail
 refine (s_l14Tongues (a := w) (A := A) (c := c) (bs := bs) _ HC0.out.1).mono ?_
 rintro e w5 ⟨A2, c2, ls, rfl, hA1, ⟨hA2, hA3, hA4⟩, hS5, hu5⟩
 have hs5 := hu5.size
 have HC5 := hI (HC0.out.call hS5 hu5 nbg nb hg0)
 have HA := hI hA1
 have hgw := HC0.out.1.lt
 have hrw : w.heap.size < w4.heap.size := by omega
 clear HC0 hS5 hu5 hA1
 have HC0 := HC5
 clear HC5
 have hrl : ∀ z : Addr, A2 = some z → ¬ z.block = w.heap.size := fun z hz => by have := hA4 z hz; omega
 obtain ⟨lo, hloe⟩ : ∃ lo, lo = w0.heap.size := ⟨_, rfl⟩
 rw [← hloe] at HC0
 obtain ⟨lo2, hlo2⟩ : ∃ lo2, lo2 = w5.heap.size := ⟨_, rfl⟩
 have nrg : ¬ w.heap.size = g := nb
 have ng1 : ¬ g = w.heap.size := fun e => nb e.symm
 have nbr : ¬ b = w.heap.size := by omega
 have hgl : g < lo := by omega
 have hgl2 : g < lo2 := by have := HC0.out.1.lt; omega
 have hlo : w.heap.size < lo2 := by omega
 have hlw : w.heap.size ≤ lo := by omega
 replace hloe := hI hloe
 replace hlo2 := hI hlo2
 go_upto_region 4 with (fail)
 go_cut [3, 4, 5] (fun v v4 v5 wx => ∃ y : Int, v = .string (tx t) ∧ v4 = .slice A2 ls.length c2 ∧ v5 = .int .i64 y ∧ (-4000 ≤ y ∧ y ≤ 4000) ∧ Hid (SlAt wx 1 encS A2 ls) ∧ Hid (CW w A c bs g w lo w.heap.size b gq n cq A' m ck ps L wx) ∧ Hid (Blk wx w.heap.size 27 #[.slice (some ⟨gq, 0, none⟩) n cq, .slice A' m ck]))
 case first =>
  refine wp_region_rgb (m := 9) (C := fun W => CW w A c bs g w lo w.heap.size b gq n cq A' m ck ps L W ∧ SlAt W 1 encS A2 ls) (K := KW w.heap.size lo2 #[.slice (some ⟨gq, 0, none⟩) n cq, .slice A' m ck]) (R := RgL4 w.heap.size #[.slice (some ⟨gq, 0, none⟩) n cq, .slice A' m ck] (.pointer (some ⟨g, 0, none⟩)) (.string (tx t)) (.slice A2 ls.length c2)) Tryz.f14.ntmps (by kernel_rfl) (by kernel_rfl) (by simp) (by rw [Tryz.ntmps14]; simp) (fun i v w w' => RgL4.stay i v w w') ?hC ?hstep ?hend
  case hC => exact ⟨HC0.out.drew, HA.out.ext (Ext.refl _).drew⟩
  case hstep =>
   simp only [List.take_succ_cons, List.take_zero]
   refine AllFrom.cons ?_ <| AllFrom.cons ?_ <| AllFrom.cons ?_ <| AllFrom.cons ?_ <| AllFrom.cons ?_ <| AllFrom.cons ?_ <| AllFrom.cons ?_ <| AllFrom.cons ?_ <| AllFrom.cons ?_ AllFrom.nil
   all_goals (intro a1 W hfr hdep hC; have HC := hI hC; clear hC)
   ·have t7 : a1.tmps.getD 7 undef = .pointer (some ⟨b, 0, none⟩) := hfr.at_ rfl (by kernel_rfl)
    have hBW := HC.out.1.2.2.1
    have c0 : W.cell? ⟨b, 0, none⟩ = some (.slice (some ⟨gq, 0, none⟩) n cq) := hBW.cell 0
    have c1 : W.cell? ⟨b, 1, none⟩ = some (.slice A' m ck) := hBW.cell 1
    unfold Oper.wp
    go_simp
    exact ⟨_, rfl, rfl, KW.refl _ _ _ _, HC.out⟩
   ·have t8 : a1.tmps.getD 8 undef = .string (tx t) := hfr.at_ rfl (by kernel_rfl)
    unfold Oper.wp
    go_simp
    exact ⟨_, rfl, rfl, KW.refl _ _ _ _, HC.out⟩
   ·have t9 : a1.tmps.getD 9 undef = .slice A2 ls.length c2 := hfr.at_ rfl (by kernel_rfl)
    unfold Oper.wp
    go_simp
    exact ⟨_, rfl, rfl, KW.refl _ _ _ _, HC.out⟩
   ·have t6 : a1.tmps.getD 6 undef = .pointer (some ⟨g, 0, none⟩) := hfr.at_ rfl (by kernel_rfl)
    unfold Oper.wp
    go_simp
    exact ⟨_, rfl, rfl, KW.refl _ _ _ _, HC.out⟩
   ·have t22 : a1.tmps.getD 22 undef = .pointer (some ⟨g, 0, none⟩) := hdep ⟨3, .data⟩ (by simp) rfl _ rfl
    have t22q := tq t22
    unfold Oper.wp
    go_simp
    refine (s_l11YearOf (a := w) (A := A) (c := c) (bs := bs) _ HC.out.1.1).mono ?_
    rintro e W2 ⟨y, rfl, hy, hS2, hu2⟩
    exact ⟨_, rfl, ⟨y, rfl, hy⟩, KW.but hu2 nrg hgl2, HC.out.1.call hS2 hu2 nbg nrg hgl, HC.out.2.butG hu2 (fun z hz => by have := hA4 z hz; omega)⟩
   ·have t2 : a1.tmps.getD 2 undef = .pointer (some ⟨w.heap.size, 0, none⟩) := hfr.at_ rfl (by kernel_rfl)
    have t19 : a1.tmps.getD 19 undef = .agg #[.slice (some ⟨gq, 0, none⟩) n cq, .slice A' m ck] := hdep ⟨0, .data⟩ (by simp) rfl _ rfl
    have t19q := tq t19
    obtain ⟨u0, u1, hR0⟩ := HC.out.1.2.2.2.1
    have f0 := hR0.frozen 0
    have f1 := hR0.frozen 1
    have d0 : W.cell? ⟨w.heap.size, 0, none⟩ = some u0 := hR0.cell 0
    have d1 : W.cell? ⟨w.heap.size, 1, none⟩ = some u1 := hR0.cell 1
    have hlr := hR0.lt
    obtain ⟨hC2, hB2⟩ := HC.out.1.put ng1 ng2 (Nat.le_refl _) nbr HFR.out (.slice (some ⟨gq, 0, none⟩) n cq) (.slice A' m ck)
    unfold Oper.wp
    go_simp
    first | exact ⟨hB2, KW.put hB2 hlo, (HC.out.2.setFar hrl _).setFar hrl _⟩ | exact ⟨hB2, KW.put hB2 hlo⟩ | exact ⟨hB2, KW.put hB2 hlo, ⟨hC2, (HC.out.2.setFar hrl _).setFar hrl _⟩⟩
   ·have t20 : a1.tmps.getD 20 undef = .string (tx t) := hdep ⟨1, .data⟩ (by simp) rfl _ rfl
    have t20q := tq t20
    unfold Oper.wp
    go_simp
    exact ⟨_, rfl, rfl, KW.refl _ _ _ _, HC.out⟩
   ·have t21 : a1.tmps.getD 21 undef = .slice A2 ls.length c2 := hdep ⟨2, .data⟩ (by simp) rfl _ rfl
    have t21q := tq t21
    unfold Oper.wp
    go_simp
    exact ⟨_, rfl, rfl, KW.refl _ _ _ _, HC.out⟩
   ·obtain ⟨y, t23, hy⟩ : RgL4 w.heap.size _ _ _ _ 4 (a1.tmps.getD 23 undef) W := hdep ⟨4, .data⟩ (by simp) rfl _ rfl
    have t23q := tq t23
    unfold Oper.wp
    go_simp
    exact ⟨_, rfl, ⟨y, rfl, hy⟩, KW.refl _ _ _ _, HC.out⟩
  case hend =>
   intro a1 W hfr hR hC
   have t3 : a1.tmps.getD 3 undef = .string (tx t) := hR 6 _ (by omega) rfl
   have t4 : a1.tmps.getD 4 undef = .slice A2 ls.length c2 := hR 7 _ (by omega) rfl
   obtain ⟨y, t5, hy⟩ : RgL4 w.heap.size _ _ _ _ 8 (a1.tmps.getD 5 undef) W := hR 8 _ (by omega) rfl
   have hBr : RgL4 w.heap.size _ _ _ _ 5 _ W := hR 5 _ (by omega) rfl
   have t3q := tq t3
   have t4q := tq t4
   have t5q := tq t5
   have HC := hI hC
   clear hC
   refine wpAny_end (by kernel_rfl) ?_
   have hsh := hfr.shape [false, false, false, true, true, true, false, false, false, false, false, false, false, false, false, false, false, false, false, true, true, true, true, true] (by rfl) (by kernel_rfl)
   simp only [mixL] at hsh
   rw [hsh]
   go_wp2_with fail
   go_meet
   exact ⟨y, by first | exact t3 | (simp [t3q]; done), by first | exact t4 | (simp [t4q]; done), by first | exact t5 | (simp [t5q]; done), hy, hI HC.out.2, hI HC.out.1, hI hBr⟩
 case rest =>
 obtain ⟨y, rfl, rfl, rfl, hy, HA5, HC, HBR⟩ := hcut
 go_wp2
 exact ret_pts1 (b0 := w.heap.size) (t := 27) (v := .tuple #[.agg #[.slice (some ⟨gq, 0, none⟩) n cq, .slice A' m ck], .string (tx t), .slice A2 ls.length c2, .int .i64 y]) HBR.out rfl (by intro W' r0 r1; simp [results, Tryz.results14, go_sem, r0, r1]) ⟨gq, n, cq, A', m, ck, ps, L, t, A2, c2, ls, y, rfl, HC.out.2.2.2.2.less hlw, ht, ⟨HA5.out, hA2, hA3⟩, hy, HC.out.1.ext⟩
end Go.Proofs.YtlnliajnipniaaaGreatDoor
