/- More draws of links. Draws of links once more, their row told to be new. -/
import Derived.Test.YtncccigbiefnkaaGreatDoorW5
namespace Go.Proofs.YtncccigbiefnkaaGreatDoor
open Go.RowKit
attribute [local go_sem] ExtOf.cell ExtOf.frozen

set_option maxRecDepth 20000 in
set_option maxHeartbeats 12800000 in
theorem s_DrawChildrenIn (A : Option Addr) (c : Nat) (bs : List Int) (w : World) (h : SlAt w 1 encB A bs) (hb : ∀ b ∈ bs, 0 ≤ b ∧ b ≤ 255) (hl : bs.length ≤ 4096) :
    Calls Tryz.prog 63 #[.slice A bs.length c] w fun e w' => ∃ (A' : Option Addr) (c' : Nat) (L : List Lk) (t : List UInt8) (y : Int), e = .returned (.tuple #[.slice A' L.length c', .string (tx t), .int .i64 y]) ∧ SlAt w' 4 encK A' L ∧ L.length ≤ c' ∧ (L.length ≤ 21 ∧ LnksOk L) ∧ (t.length ≤ 17 ∧ -4000 ≤ y ∧ y ≤ 4000) ∧ Ext w w' := by
  have HB := Lib.hid hb
  clear hb
  go_enter Tryz.func63, Tryz.ntmps63
  go_wp2_with fail
  refine (s_l01From _ _ bs _ (h.ext (by (repeat (first | with_reducible exact Ext.refl _ | with_reducible assumption | ((with_reducible apply Src.ext); with_reducible assumption) | with_reducible refine Ext.alloc ?_ _ | with_reducible refine Ext.drew ?_ | with_reducible refine Ext.drewN ?_ _ | ((with_reducible refine Ext.setCell' ?_ ?_ _); solve | omega | simp | (simp; omega)) | (with_reducible refine Ext.trans ?_ (by with_reducible assumption)))))) HB.out hl).mono ?_
  rintro e w0 ⟨g, rfl, hS0⟩
  have hx0 := hS0.ext
  obtain ⟨hg, hgl⟩ := src_facts hS0
  go_wp2_with fail
  refine (s_l12List (a := w) (A := A) (c := c) (bs := bs) _ hS0).mono ?_
  rintro e w1 ⟨A', c', L, rfl, hS1, hc1, ⟨hl1, hk1, hA1⟩, hSr1, hu1⟩
  have hs1 := hu1.size
  have HS1 := Lib.hid hS1
  have HK1 := Lib.hid hk1
  have HA1 : Hid (∀ q, A' = some q → w0.heap.size ≤ q.block) := Lib.hid hA1
  have HX1 := Lib.hid (hSr1.ext)
  have HSr1 := Lib.hid hSr1
  have hgl1 := hSr1.lt
  clear hS1 hk1 hA1 hu1 hSr1 hx0 hS0 HB h
  have HSr2 := HSr1
  have HS2 := HS1
  obtain ⟨n1, hn1⟩ : ∃ n, n = L.length := ⟨_, rfl⟩
  rw [← hn1] at hc1 hl1 ⊢
  replace hn1 := Lib.hid hn1
  have HC1 := Lib.hid hc1
  clear hc1
  by_cases hn0 : n1 = 0
  · have hg0 : ¬ (0 : Int) < (n1 : Int) := by omega
    have hg1 : ¬ 0 < n1 := by omega
    go_wp2_with fail
    refine (s_l12DrawCode (a := w) (A := A) (c := c) (bs := bs) _ HSr2.out).mono ?_
    rintro e w8 ⟨t, rfl, ht, hSr8, hu8⟩
    have hgl8 := hSr8.lt
    have hs8 := hu8.size
    have HSr8 := Lib.hid hSr8
    have HS8 : Hid (SlAt w8 4 encK A' L) := Lib.hid (HS2.out.butG hu8 (fun q hq => by have := HA1.out q hq; omega))
    clear hSr8 hu8
    go_wp2_with fail
    refine (s_l11YearOf (a := w) (A := A) (c := c) (bs := bs) _ HSr8.out).mono ?_
    rintro e w9 ⟨y, rfl, hy, hSr9, hu9⟩
    have HX9 := Lib.hid hSr9.ext
    have HS9 : Hid (SlAt w9 4 encK A' L) := Lib.hid (HS8.out.butG hu9 (fun q hq => by have := HA1.out q hq; omega))
    clear hSr9 hu9
    go_wp2
    go_ret3
    exact ⟨A', c', L, t, y, by rw [← hn1.out]; first | rfl | (rw [hn0]; rfl), HS9.out, by rw [← hn1.out]; exact HC1.out, ⟨by rw [← hn1.out]; exact hl1, HK1.out⟩, ⟨by omega, hy.1, hy.2⟩, HX9.out⟩
  · have hg0 : (0 : Int) < (n1 : Int) := by omega
    have hg1 : 0 < n1 := by omega
    go_wp2_with fail
    refine (s_l01Next (a := w) (A := A) (c := c) (bs := bs) _ _ HSr2.out (by omega)).mono ?_
    rintro e w3 ⟨x3, rfl, hb3, hSr3, hu3⟩
    have hs3 := hu3.size
    have hgl3 := hSr3.lt
    have HSr3 := Lib.hid hSr3
    have HS3 : Hid (SlAt w3 4 encK A' L) := Lib.hid (HS2.out.butG hu3 (fun q hq => by have := HA1.out q hq; omega))
    clear hSr3 hu3 HSr2 HS2 HS1 HSr1
    by_cases q0 : x3 = 0
    · subst q0
      clear hb3
      go_wp2_with fail
      refine (s_l12DrawCode (a := w) (A := A) (c := c) (bs := bs) _ HSr3.out).mono ?_
      rintro e w8 ⟨t, rfl, ht, hSr8, hu8⟩
      have hgl8 := hSr8.lt
      have hs8 := hu8.size
      have HSr8 := Lib.hid hSr8
      have HS8 : Hid (SlAt w8 4 encK A' L) := Lib.hid (HS3.out.butG hu8 (fun q hq => by have := HA1.out q hq; omega))
      clear hSr8 hu8
      go_wp2_with fail
      refine (s_l11YearOf (a := w) (A := A) (c := c) (bs := bs) _ HSr8.out).mono ?_
      rintro e w9 ⟨y, rfl, hy, hSr9, hu9⟩
      have HX9 := Lib.hid hSr9.ext
      have HS9 : Hid (SlAt w9 4 encK A' L) := Lib.hid (HS8.out.butG hu9 (fun q hq => by have := HA1.out q hq; omega))
      clear hSr9 hu9
      go_wp2
      go_ret3
      exact ⟨A', c', L, t, y, by rw [← hn1.out]; first | rfl | (rw [hn0]; rfl), HS9.out, by rw [← hn1.out]; exact HC1.out, ⟨by rw [← hn1.out]; exact hl1, HK1.out⟩, ⟨by omega, hy.1, hy.2⟩, HX9.out⟩
    · have e0 : 0 < x3 := by omega
      clear hb3
      go_wp2_with fail
      refine (s_l01Next (a := w) (A := A) (c := c) (bs := bs) _ _ HSr3.out (by omega)).mono ?_
      rintro e w4 ⟨x4, rfl, hb4, hSr4, hu4⟩
      obtain ⟨k, rfl⟩ := Int.eq_ofNat_of_zero_le hb4.1
      have hk : k < n1 := by omega
      have hk1 : (k : Int) < (n1 : Int) := by omega
      have hs4 := hu4.size
      have hgl4 := hSr4.lt
      have HSr4 := Lib.hid hSr4
      have HS4 : Hid (SlAt w4 4 encK A' L) := Lib.hid (HS3.out.butG hu4 (fun q hq => by have := HA1.out q hq; omega))
      obtain ⟨b, off, hA, hbl, d0, d1, d2, d3⟩ := HS4.out.lk (k := k) (by rw [← hn1.out]; exact hk)
      subst hA
      have hbg : w0.heap.size ≤ b := HA1.out _ rfl
      have HO := Lib.hid (HK1.out.at k)
      clear hu4 hSr4 hb4 HSr3 HS3
      generalize L.getD k lkD = lk at *
      obtain ⟨s, p, f, d⟩ := lk
      simp only at d0 d1 d2 d3
      have hf : -3001 ≤ f ∧ f ≤ 3001 := HO.out.2.2.1
      have hd : -3001 ≤ d ∧ d ≤ 3001 := HO.out.2.2.2
      have hsl : p.length ≤ 17 := HO.out.2.1
      have nb1 : ¬ b = g := by omega
      have nb2 : ¬ w4.heap.size = g := by omega
      have nb3 : ¬ b = w4.heap.size := by omega
      have nb4 : ¬ w4.heap.size = b := by omega
      have nb5 : ¬ g = w4.heap.size := by omega
      have hwd : IntKind.i64.wrap (d + 1) = d + 1 := IntWalk.i64_in _ (by omega)
      go_upto_region 5 with (fail)
      have Z4 : Blk (w4.alloc (.cells #[.string (tx s), .string (tx p), .int .i64 f, .int .i64 d] 108)) w4.heap.size 108 #[.string (tx s), .string (tx p), .int .i64 f, .int .i64 d] := Blk.new rfl
      have c0 := Z4.cell 0
      have c1 := Z4.cell 1
      have c2 := Z4.cell 2
      have c3 := Z4.cell 3
      have HSB : Hid (SlAt (w4.alloc (.cells #[.string (tx s), .string (tx p), .int .i64 f, .int .i64 d] 108)) 4 encK (some ⟨b, off, none⟩) L) := Lib.hid (HS4.out.ext ((Ext.refl w4).alloc _))
      have HSS : Hid (Src w A c bs g (w4.alloc (.cells #[.string (tx s), .string (tx p), .int .i64 f, .int .i64 d] 108))) := Lib.hid (HSr4.out.alloc _)
      have hlz := Z4.lt
      have hgz : g < (w4.alloc (.cells #[.string (tx s), .string (tx p), .int .i64 f, .int .i64 d] 108)).heap.size := by simp; omega
      have hbz : b < (w4.alloc (.cells #[.string (tx s), .string (tx p), .int .i64 f, .int .i64 d] 108)).heap.size := by simp; omega
      obtain ⟨w5, hw5⟩ : ∃ x, x = w4.alloc (.cells #[.string (tx s), .string (tx p), .int .i64 f, .int .i64 d] 108) := ⟨_, rfl⟩
      rw [← hw5] at c0 c1 c2 c3 HSB HSS hlz hgz hbz Z4 ⊢
      clear hw5 HS4 HSr4 d0 d1 d2 d3
      have hS5 := HSS.out
      have nb6 : ¬ w5.heap.size = w4.heap.size := by omega
      have nb7 : ¬ w4.heap.size = w5.heap.size := by omega
      have nb8 : ¬ w5.heap.size = g := by omega
      have nb9 : ¬ g = w5.heap.size := by omega
      have HKC : Hid (∀ W, Blk W w4.heap.size 108 #[.string (tx s), .string (tx p), .int .i64 f, .int .i64 d] → W.cell? ⟨w4.heap.size, 1, none⟩ = some (.string (tx p)) ∧ W.cell? ⟨w4.heap.size, 2, none⟩ = some (.int .i64 f) ∧ W.cell? ⟨w4.heap.size, 3, none⟩ = some (.int .i64 d)) := Lib.hid (fun W hW => ⟨hW.cell 1, hW.cell 2, hW.cell 3⟩)
      go_region_held3 (fun w' => w'.cell? ⟨w4.heap.size, 1, none⟩ = some (.string (tx p)) ∧ w'.cell? ⟨w4.heap.size, 2, none⟩ = some (.int .i64 f) ∧ w'.cell? ⟨w4.heap.size, 3, none⟩ = some (.int .i64 d)) (first | exact HKC.out _ (by (repeat (first | with_reducible assumption | ((with_reducible apply Blk.new); solve | simp | rfl) | with_reducible apply Blk.drew | with_reducible apply Blk.drewN | ((with_reducible apply Blk.far'); solve | omega | simp | (simp; omega)) | with_reducible apply Blk.set_ | with_reducible apply Blk.alloc | ((with_reducible apply Blk.ext'); with_reducible assumption) | ((with_reducible apply Blk.but'); (with_reducible assumption); solve | omega | (simp; omega))))) | go_keep) (first | (go_at_call 140; refine (s_l01Pick (a := w) (A := A) (c := c) (bs := bs) _ 0 _ [f, d, d + 1] _ (by (repeat (first | with_reducible assumption | with_reducible refine Src.alloc ?_ _ | with_reducible refine Src.drew ?_ | with_reducible refine Src.drewN ?_ _ | ((with_reducible refine Src.far ?_ ?_ ?_ _); (solve | omega | (simp; omega) | simp); (solve | omega | (simp; omega) | simp)) | ((with_reducible apply Src.on'); with_reducible assumption)))) (Blk.sl (by (repeat (first | with_reducible assumption | ((with_reducible apply Blk.new); solve | simp | rfl) | with_reducible apply Blk.drew | with_reducible apply Blk.drewN | ((with_reducible apply Blk.far'); solve | omega | simp | (simp; omega)) | with_reducible apply Blk.set_ | with_reducible apply Blk.alloc | ((with_reducible apply Blk.ext'); with_reducible assumption) | ((with_reducible apply Blk.but'); (with_reducible assumption); solve | omega | (simp; omega))))) (by rfl) (fun _ => rfl)) (by simp) (by simp) (by simp) (by omega)).mono ?_; rintro e w9 ⟨y, rfl, hy, hSr9, hu9⟩; have hs9 := hu9.size; (try simp at hs9)))
      have hy' : -4000 ≤ y ∧ y ≤ 4000 := by
        simp at hy
        omega
      have HX9 := Lib.hid hSr9.ext
      have HS9 : Hid (SlAt w9 4 encK (some ⟨b, off, none⟩) L) := Lib.hid ((HSB.out.ext (by (repeat (first | with_reducible exact Ext.refl _ | with_reducible assumption | ((with_reducible apply Src.ext); with_reducible assumption) | with_reducible refine Ext.alloc ?_ _ | with_reducible refine Ext.drew ?_ | with_reducible refine Ext.drewN ?_ _ | ((with_reducible refine Ext.setCell' ?_ ?_ _); solve | omega | simp | (simp; omega)) | (with_reducible refine Ext.trans ?_ (by with_reducible assumption)))))).butG hu9 (fun q hq => by injection hq with hq; rw [← hq]; exact nb1))
      clear hy hSr9 hu9
      go_wp2
      go_ret3
      exact ⟨some ⟨b, off, none⟩, c', L, p, y, by rw [← hn1.out]; rfl, HS9.out, by rw [← hn1.out]; exact HC1.out, ⟨by rw [← hn1.out]; exact hl1, HK1.out⟩, ⟨hsl, hy'.1, hy'.2⟩, HX9.out⟩


end Go.Proofs.YtncccigbiefnkaaGreatDoor
namespace Go.Proofs.YtncccigbiefnkaaGreatDoor
open Go.RowKit
attribute [local go_sem] ExtOf.cell ExtOf.frozen

set_option maxRecDepth 20000 in
set_option maxHeartbeats 12800000 in
theorem s_DrawParentInN (A : Option Addr) (c : Nat) (bs : List Int) (w : World) (h : SlAt w 1 encB A bs) (hb : ∀ b ∈ bs, 0 ≤ b ∧ b ≤ 255) (hl : bs.length ≤ 4096) :
    Calls Tryz.prog 75 #[.slice A bs.length c] w fun e w' => ∃ (A' : Option Addr) (c' : Nat) (L : List Lk) (t : List UInt8) (y : Int), e = .returned (.tuple #[.slice A' L.length c', .string (tx t), .int .i64 y]) ∧ SlAt w' 4 encK A' L ∧ L.length ≤ c' ∧ (L.length ≤ 21 ∧ LnksOk L ∧ ∀ q, A' = some q → w.heap.size ≤ q.block) ∧ (t.length ≤ 17 ∧ -4000 ≤ y ∧ y ≤ 4000) ∧ Ext w w' := by
  have HB := Lib.hid hb
  clear hb
  go_enter Tryz.func75, Tryz.ntmps75
  go_wp2_with fail
  refine (s_l01From _ _ bs _ (h.ext (by (repeat (first | with_reducible exact Ext.refl _ | with_reducible assumption | ((with_reducible apply Src.ext); with_reducible assumption) | with_reducible refine Ext.alloc ?_ _ | with_reducible refine Ext.drew ?_ | with_reducible refine Ext.drewN ?_ _ | ((with_reducible refine Ext.setCell' ?_ ?_ _); solve | omega | simp | (simp; omega)) | (with_reducible refine Ext.trans ?_ (by with_reducible assumption)))))) HB.out hl).mono ?_
  rintro e w0 ⟨g, rfl, hS0⟩
  have hx0 := hS0.ext
  obtain ⟨hg, hgl⟩ := src_facts hS0
  go_wp2_with fail
  refine (s_l12List (a := w) (A := A) (c := c) (bs := bs) _ hS0).mono ?_
  rintro e w1 ⟨A', c', L, rfl, hS1, hc1, ⟨hl1, hk1, hA1⟩, hSr1, hu1⟩
  have hs1 := hu1.size
  have HS1 := Lib.hid hS1
  have HK1 := Lib.hid hk1
  have HA1 : Hid (∀ q, A' = some q → w0.heap.size ≤ q.block) := Lib.hid hA1
  have HX1 := Lib.hid (hSr1.ext)
  have HSr1 := Lib.hid hSr1
  have hgl1 := hSr1.lt
  clear hS1 hk1 hA1 hu1 hSr1 hx0 hS0 HB h
  go_wp2_with fail
  refine (s_l12DrawCode (a := w) (A := A) (c := c) (bs := bs) _ HSr1.out).mono ?_
  rintro e w2 ⟨t, rfl, ht, hSr2, hu2⟩
  have hs2 := hu2.size
  have hgl2 := hSr2.lt
  have HSr2 := Lib.hid hSr2
  have HS2 : Hid (SlAt w2 4 encK A' L) := Lib.hid (HS1.out.butG hu2 (fun q hq => by have := HA1.out q hq; omega))
  clear hu2 hSr2
  obtain ⟨n1, hn1⟩ : ∃ n, n = L.length := ⟨_, rfl⟩
  rw [← hn1] at hc1 hl1 ⊢
  replace hn1 := Lib.hid hn1
  have HC1 := Lib.hid hc1
  clear hc1
  by_cases hn0 : n1 = 0
  · have hg0 : ¬ (0 : Int) < (n1 : Int) := by omega
    have hg1 : ¬ 0 < n1 := by omega
    go_wp2_with fail
    refine (s_l11YearOf (a := w) (A := A) (c := c) (bs := bs) _ HSr2.out).mono ?_
    rintro e w9 ⟨y, rfl, hy, hSr9, hu9⟩
    have HX9 := Lib.hid hSr9.ext
    have HS9 : Hid (SlAt w9 4 encK A' L) := Lib.hid (HS2.out.butG hu9 (fun q hq => by have := HA1.out q hq; omega))
    clear hSr9 hu9
    go_wp2
    go_ret3
    have HNEW : Hid (∀ q, A' = some q → w.heap.size ≤ q.block) := Lib.hid (fun q hq => by have := HA1.out q hq; omega)
    exact ⟨A', c', L, t, y, by rw [← hn1.out]; first | rfl | (rw [hn0]; rfl), HS9.out, by rw [← hn1.out]; exact HC1.out, ⟨by rw [← hn1.out]; exact hl1, HK1.out, HNEW.out⟩, ⟨by omega, hy.1, hy.2⟩, HX9.out⟩
  · have hg0 : (0 : Int) < (n1 : Int) := by omega
    have hg1 : 0 < n1 := by omega
    go_wp2_with fail
    refine (s_l01Next (a := w) (A := A) (c := c) (bs := bs) _ _ HSr2.out (by omega)).mono ?_
    rintro e w3 ⟨x3, rfl, hb3, hSr3, hu3⟩
    have hs3 := hu3.size
    have hgl3 := hSr3.lt
    have HSr3 := Lib.hid hSr3
    have HS3 : Hid (SlAt w3 4 encK A' L) := Lib.hid (HS2.out.butG hu3 (fun q hq => by have := HA1.out q hq; omega))
    clear hSr3 hu3 HSr2 HS2 HS1 HSr1
    by_cases q0 : x3 = 0
    · subst q0
      clear hb3
      go_wp2_with fail
      refine (s_l01Next (a := w) (A := A) (c := c) (bs := bs) _ _ HSr3.out (by omega)).mono ?_
      rintro e w4 ⟨x4, rfl, hb4, hSr4, hu4⟩
      obtain ⟨k, rfl⟩ := Int.eq_ofNat_of_zero_le hb4.1
      have hk : k < n1 := by omega
      have hk1 : (k : Int) < (n1 : Int) := by omega
      have hs4 := hu4.size
      have hgl4 := hSr4.lt
      have HSr4 := Lib.hid hSr4
      have HS4 : Hid (SlAt w4 4 encK A' L) := Lib.hid (HS3.out.butG hu4 (fun q hq => by have := HA1.out q hq; omega))
      obtain ⟨b, off, hA, hbl, d0, d1, d2, d3⟩ := HS4.out.lk (k := k) (by rw [← hn1.out]; exact hk)
      subst hA
      have hbg : w0.heap.size ≤ b := HA1.out _ rfl
      have HO := Lib.hid (HK1.out.at k)
      clear hu4 hSr4 hb4 HSr3 HS3
      generalize L.getD k lkD = lk at *
      obtain ⟨s, p, f, d⟩ := lk
      simp only at d0 d1 d2 d3
      have hf : -3001 ≤ f ∧ f ≤ 3001 := HO.out.2.2.1
      have hd : -3001 ≤ d ∧ d ≤ 3001 := HO.out.2.2.2
      have hsl : s.length ≤ 17 := HO.out.1
      have nb1 : ¬ b = g := by omega
      have nb2 : ¬ w4.heap.size = g := by omega
      have nb3 : ¬ b = w4.heap.size := by omega
      have nb4 : ¬ w4.heap.size = b := by omega
      have nb5 : ¬ g = w4.heap.size := by omega
      have hwd : IntKind.i64.wrap (d + 1) = d + 1 := IntWalk.i64_in _ (by omega)
      go_upto_region 6 with (fail)
      have Z4 : Blk (w4.alloc (.cells #[.string (tx s), .string (tx p), .int .i64 f, .int .i64 d] 108)) w4.heap.size 108 #[.string (tx s), .string (tx p), .int .i64 f, .int .i64 d] := Blk.new rfl
      have c0 := Z4.cell 0
      have c1 := Z4.cell 1
      have c2 := Z4.cell 2
      have c3 := Z4.cell 3
      have HSB : Hid (SlAt (w4.alloc (.cells #[.string (tx s), .string (tx p), .int .i64 f, .int .i64 d] 108)) 4 encK (some ⟨b, off, none⟩) L) := Lib.hid (HS4.out.ext ((Ext.refl w4).alloc _))
      have HSS : Hid (Src w A c bs g (w4.alloc (.cells #[.string (tx s), .string (tx p), .int .i64 f, .int .i64 d] 108))) := Lib.hid (HSr4.out.alloc _)
      have hlz := Z4.lt
      have hgz : g < (w4.alloc (.cells #[.string (tx s), .string (tx p), .int .i64 f, .int .i64 d] 108)).heap.size := by simp; omega
      have hbz : b < (w4.alloc (.cells #[.string (tx s), .string (tx p), .int .i64 f, .int .i64 d] 108)).heap.size := by simp; omega
      obtain ⟨w5, hw5⟩ : ∃ x, x = w4.alloc (.cells #[.string (tx s), .string (tx p), .int .i64 f, .int .i64 d] 108) := ⟨_, rfl⟩
      rw [← hw5] at c0 c1 c2 c3 HSB HSS hlz hgz hbz Z4 ⊢
      clear hw5 HS4 HSr4 d0 d1 d2 d3
      have hS5 := HSS.out
      have nb6 : ¬ w5.heap.size = w4.heap.size := by omega
      have nb7 : ¬ w4.heap.size = w5.heap.size := by omega
      have nb8 : ¬ w5.heap.size = g := by omega
      have nb9 : ¬ g = w5.heap.size := by omega
      have HKC : Hid (∀ W, Blk W w4.heap.size 108 #[.string (tx s), .string (tx p), .int .i64 f, .int .i64 d] → W.cell? ⟨w4.heap.size, 0, none⟩ = some (.string (tx s)) ∧ W.cell? ⟨w4.heap.size, 2, none⟩ = some (.int .i64 f) ∧ W.cell? ⟨w4.heap.size, 3, none⟩ = some (.int .i64 d)) := Lib.hid (fun W hW => ⟨hW.cell 0, hW.cell 2, hW.cell 3⟩)
      go_region_held3 (fun w' => w'.cell? ⟨w4.heap.size, 0, none⟩ = some (.string (tx s)) ∧ w'.cell? ⟨w4.heap.size, 2, none⟩ = some (.int .i64 f) ∧ w'.cell? ⟨w4.heap.size, 3, none⟩ = some (.int .i64 d)) (first | exact HKC.out _ (by (repeat (first | with_reducible assumption | ((with_reducible apply Blk.new); solve | simp | rfl) | with_reducible apply Blk.drew | with_reducible apply Blk.drewN | ((with_reducible apply Blk.far'); solve | omega | simp | (simp; omega)) | with_reducible apply Blk.set_ | with_reducible apply Blk.alloc | ((with_reducible apply Blk.ext'); with_reducible assumption) | ((with_reducible apply Blk.but'); (with_reducible assumption); solve | omega | (simp; omega))))) | go_keep) (first | (go_at_call 140; refine (s_l01Pick (a := w) (A := A) (c := c) (bs := bs) _ 0 _ [f, d, d + 1] _ (by (repeat (first | with_reducible assumption | with_reducible refine Src.alloc ?_ _ | with_reducible refine Src.drew ?_ | with_reducible refine Src.drewN ?_ _ | ((with_reducible refine Src.far ?_ ?_ ?_ _); (solve | omega | (simp; omega) | simp); (solve | omega | (simp; omega) | simp)) | ((with_reducible apply Src.on'); with_reducible assumption)))) (Blk.sl (by (repeat (first | with_reducible assumption | ((with_reducible apply Blk.new); solve | simp | rfl) | with_reducible apply Blk.drew | with_reducible apply Blk.drewN | ((with_reducible apply Blk.far'); solve | omega | simp | (simp; omega)) | with_reducible apply Blk.set_ | with_reducible apply Blk.alloc | ((with_reducible apply Blk.ext'); with_reducible assumption) | ((with_reducible apply Blk.but'); (with_reducible assumption); solve | omega | (simp; omega))))) (by rfl) (fun _ => rfl)) (by simp) (by simp) (by simp) (by omega)).mono ?_; rintro e w9 ⟨y, rfl, hy, hSr9, hu9⟩; have hs9 := hu9.size; (try simp at hs9)))
      have hy' : -4000 ≤ y ∧ y ≤ 4000 := by
        simp at hy
        omega
      have HX9 := Lib.hid hSr9.ext
      have HS9 : Hid (SlAt w9 4 encK (some ⟨b, off, none⟩) L) := Lib.hid ((HSB.out.ext (by (repeat (first | with_reducible exact Ext.refl _ | with_reducible assumption | ((with_reducible apply Src.ext); with_reducible assumption) | with_reducible refine Ext.alloc ?_ _ | with_reducible refine Ext.drew ?_ | with_reducible refine Ext.drewN ?_ _ | ((with_reducible refine Ext.setCell' ?_ ?_ _); solve | omega | simp | (simp; omega)) | (with_reducible refine Ext.trans ?_ (by with_reducible assumption)))))).butG hu9 (fun q hq => by injection hq with hq; rw [← hq]; exact nb1))
      clear hy hSr9 hu9
      go_wp2
      go_ret3
      exact ⟨some ⟨b, off, none⟩, c', L, s, y, by rw [← hn1.out]; rfl, HS9.out, by rw [← hn1.out]; exact HC1.out, ⟨by rw [← hn1.out]; exact hl1, HK1.out, fun q hq => by injection hq with hq; rw [← hq]; show w.heap.size ≤ b; omega⟩, ⟨hsl, hy'.1, hy'.2⟩, HX9.out⟩
    · have e0 : (x3 == 0) = false := beq_eq_false_iff_ne.2 q0
      clear hb3
      go_wp2_with fail
      refine (s_l11YearOf (a := w) (A := A) (c := c) (bs := bs) _ HSr3.out).mono ?_
      rintro e w9 ⟨y, rfl, hy, hSr9, hu9⟩
      have HX9 := Lib.hid hSr9.ext
      have HS9 : Hid (SlAt w9 4 encK A' L) := Lib.hid (HS3.out.butG hu9 (fun q hq => by have := HA1.out q hq; omega))
      clear hSr9 hu9
      go_wp2
      go_ret3
      have HNEW : Hid (∀ q, A' = some q → w.heap.size ≤ q.block) := Lib.hid (fun q hq => by have := HA1.out q hq; omega)
      exact ⟨A', c', L, t, y, by rw [← hn1.out]; first | rfl | (rw [hn0]; rfl), HS9.out, by rw [← hn1.out]; exact HC1.out, ⟨by rw [← hn1.out]; exact hl1, HK1.out, HNEW.out⟩, ⟨by omega, hy.1, hy.2⟩, HX9.out⟩

set_option maxRecDepth 20000 in
set_option maxHeartbeats 12800000 in
theorem s_DrawChildrenInN (A : Option Addr) (c : Nat) (bs : List Int) (w : World) (h : SlAt w 1 encB A bs) (hb : ∀ b ∈ bs, 0 ≤ b ∧ b ≤ 255) (hl : bs.length ≤ 4096) :
    Calls Tryz.prog 63 #[.slice A bs.length c] w fun e w' => ∃ (A' : Option Addr) (c' : Nat) (L : List Lk) (t : List UInt8) (y : Int), e = .returned (.tuple #[.slice A' L.length c', .string (tx t), .int .i64 y]) ∧ SlAt w' 4 encK A' L ∧ L.length ≤ c' ∧ (L.length ≤ 21 ∧ LnksOk L ∧ ∀ q, A' = some q → w.heap.size ≤ q.block) ∧ (t.length ≤ 17 ∧ -4000 ≤ y ∧ y ≤ 4000) ∧ Ext w w' := by
  have HB := Lib.hid hb
  clear hb
  go_enter Tryz.func63, Tryz.ntmps63
  go_wp2_with fail
  refine (s_l01From _ _ bs _ (h.ext (by (repeat (first | with_reducible exact Ext.refl _ | with_reducible assumption | ((with_reducible apply Src.ext); with_reducible assumption) | with_reducible refine Ext.alloc ?_ _ | with_reducible refine Ext.drew ?_ | with_reducible refine Ext.drewN ?_ _ | ((with_reducible refine Ext.setCell' ?_ ?_ _); solve | omega | simp | (simp; omega)) | (with_reducible refine Ext.trans ?_ (by with_reducible assumption)))))) HB.out hl).mono ?_
  rintro e w0 ⟨g, rfl, hS0⟩
  have hx0 := hS0.ext
  obtain ⟨hg, hgl⟩ := src_facts hS0
  go_wp2_with fail
  refine (s_l12List (a := w) (A := A) (c := c) (bs := bs) _ hS0).mono ?_
  rintro e w1 ⟨A', c', L, rfl, hS1, hc1, ⟨hl1, hk1, hA1⟩, hSr1, hu1⟩
  have hs1 := hu1.size
  have HS1 := Lib.hid hS1
  have HK1 := Lib.hid hk1
  have HA1 : Hid (∀ q, A' = some q → w0.heap.size ≤ q.block) := Lib.hid hA1
  have HX1 := Lib.hid (hSr1.ext)
  have HSr1 := Lib.hid hSr1
  have hgl1 := hSr1.lt
  clear hS1 hk1 hA1 hu1 hSr1 hx0 hS0 HB h
  have HSr2 := HSr1
  have HS2 := HS1
  obtain ⟨n1, hn1⟩ : ∃ n, n = L.length := ⟨_, rfl⟩
  rw [← hn1] at hc1 hl1 ⊢
  replace hn1 := Lib.hid hn1
  have HC1 := Lib.hid hc1
  clear hc1
  by_cases hn0 : n1 = 0
  · have hg0 : ¬ (0 : Int) < (n1 : Int) := by omega
    have hg1 : ¬ 0 < n1 := by omega
    go_wp2_with fail
    refine (s_l12DrawCode (a := w) (A := A) (c := c) (bs := bs) _ HSr2.out).mono ?_
    rintro e w8 ⟨t, rfl, ht, hSr8, hu8⟩
    have hgl8 := hSr8.lt
    have hs8 := hu8.size
    have HSr8 := Lib.hid hSr8
    have HS8 : Hid (SlAt w8 4 encK A' L) := Lib.hid (HS2.out.butG hu8 (fun q hq => by have := HA1.out q hq; omega))
    clear hSr8 hu8
    go_wp2_with fail
    refine (s_l11YearOf (a := w) (A := A) (c := c) (bs := bs) _ HSr8.out).mono ?_
    rintro e w9 ⟨y, rfl, hy, hSr9, hu9⟩
    have HX9 := Lib.hid hSr9.ext
    have HS9 : Hid (SlAt w9 4 encK A' L) := Lib.hid (HS8.out.butG hu9 (fun q hq => by have := HA1.out q hq; omega))
    clear hSr9 hu9
    go_wp2
    go_ret3
    have HNEW : Hid (∀ q, A' = some q → w.heap.size ≤ q.block) := Lib.hid (fun q hq => by have := HA1.out q hq; omega)
    exact ⟨A', c', L, t, y, by rw [← hn1.out]; first | rfl | (rw [hn0]; rfl), HS9.out, by rw [← hn1.out]; exact HC1.out, ⟨by rw [← hn1.out]; exact hl1, HK1.out, HNEW.out⟩, ⟨by omega, hy.1, hy.2⟩, HX9.out⟩
  · have hg0 : (0 : Int) < (n1 : Int) := by omega
    have hg1 : 0 < n1 := by omega
    go_wp2_with fail
    refine (s_l01Next (a := w) (A := A) (c := c) (bs := bs) _ _ HSr2.out (by omega)).mono ?_
    rintro e w3 ⟨x3, rfl, hb3, hSr3, hu3⟩
    have hs3 := hu3.size
    have hgl3 := hSr3.lt
    have HSr3 := Lib.hid hSr3
    have HS3 : Hid (SlAt w3 4 encK A' L) := Lib.hid (HS2.out.butG hu3 (fun q hq => by have := HA1.out q hq; omega))
    clear hSr3 hu3 HSr2 HS2 HS1 HSr1
    by_cases q0 : x3 = 0
    · subst q0
      clear hb3
      go_wp2_with fail
      refine (s_l12DrawCode (a := w) (A := A) (c := c) (bs := bs) _ HSr3.out).mono ?_
      rintro e w8 ⟨t, rfl, ht, hSr8, hu8⟩
      have hgl8 := hSr8.lt
      have hs8 := hu8.size
      have HSr8 := Lib.hid hSr8
      have HS8 : Hid (SlAt w8 4 encK A' L) := Lib.hid (HS3.out.butG hu8 (fun q hq => by have := HA1.out q hq; omega))
      clear hSr8 hu8
      go_wp2_with fail
      refine (s_l11YearOf (a := w) (A := A) (c := c) (bs := bs) _ HSr8.out).mono ?_
      rintro e w9 ⟨y, rfl, hy, hSr9, hu9⟩
      have HX9 := Lib.hid hSr9.ext
      have HS9 : Hid (SlAt w9 4 encK A' L) := Lib.hid (HS8.out.butG hu9 (fun q hq => by have := HA1.out q hq; omega))
      clear hSr9 hu9
      go_wp2
      go_ret3
      have HNEW : Hid (∀ q, A' = some q → w.heap.size ≤ q.block) := Lib.hid (fun q hq => by have := HA1.out q hq; omega)
      exact ⟨A', c', L, t, y, by rw [← hn1.out]; first | rfl | (rw [hn0]; rfl), HS9.out, by rw [← hn1.out]; exact HC1.out, ⟨by rw [← hn1.out]; exact hl1, HK1.out, HNEW.out⟩, ⟨by omega, hy.1, hy.2⟩, HX9.out⟩
    · have e0 : 0 < x3 := by omega
      clear hb3
      go_wp2_with fail
      refine (s_l01Next (a := w) (A := A) (c := c) (bs := bs) _ _ HSr3.out (by omega)).mono ?_
      rintro e w4 ⟨x4, rfl, hb4, hSr4, hu4⟩
      obtain ⟨k, rfl⟩ := Int.eq_ofNat_of_zero_le hb4.1
      have hk : k < n1 := by omega
      have hk1 : (k : Int) < (n1 : Int) := by omega
      have hs4 := hu4.size
      have hgl4 := hSr4.lt
      have HSr4 := Lib.hid hSr4
      have HS4 : Hid (SlAt w4 4 encK A' L) := Lib.hid (HS3.out.butG hu4 (fun q hq => by have := HA1.out q hq; omega))
      obtain ⟨b, off, hA, hbl, d0, d1, d2, d3⟩ := HS4.out.lk (k := k) (by rw [← hn1.out]; exact hk)
      subst hA
      have hbg : w0.heap.size ≤ b := HA1.out _ rfl
      have HO := Lib.hid (HK1.out.at k)
      clear hu4 hSr4 hb4 HSr3 HS3
      generalize L.getD k lkD = lk at *
      obtain ⟨s, p, f, d⟩ := lk
      simp only at d0 d1 d2 d3
      have hf : -3001 ≤ f ∧ f ≤ 3001 := HO.out.2.2.1
      have hd : -3001 ≤ d ∧ d ≤ 3001 := HO.out.2.2.2
      have hsl : p.length ≤ 17 := HO.out.2.1
      have nb1 : ¬ b = g := by omega
      have nb2 : ¬ w4.heap.size = g := by omega
      have nb3 : ¬ b = w4.heap.size := by omega
      have nb4 : ¬ w4.heap.size = b := by omega
      have nb5 : ¬ g = w4.heap.size := by omega
      have hwd : IntKind.i64.wrap (d + 1) = d + 1 := IntWalk.i64_in _ (by omega)
      go_upto_region 5 with (fail)
      have Z4 : Blk (w4.alloc (.cells #[.string (tx s), .string (tx p), .int .i64 f, .int .i64 d] 108)) w4.heap.size 108 #[.string (tx s), .string (tx p), .int .i64 f, .int .i64 d] := Blk.new rfl
      have c0 := Z4.cell 0
      have c1 := Z4.cell 1
      have c2 := Z4.cell 2
      have c3 := Z4.cell 3
      have HSB : Hid (SlAt (w4.alloc (.cells #[.string (tx s), .string (tx p), .int .i64 f, .int .i64 d] 108)) 4 encK (some ⟨b, off, none⟩) L) := Lib.hid (HS4.out.ext ((Ext.refl w4).alloc _))
      have HSS : Hid (Src w A c bs g (w4.alloc (.cells #[.string (tx s), .string (tx p), .int .i64 f, .int .i64 d] 108))) := Lib.hid (HSr4.out.alloc _)
      have hlz := Z4.lt
      have hgz : g < (w4.alloc (.cells #[.string (tx s), .string (tx p), .int .i64 f, .int .i64 d] 108)).heap.size := by simp; omega
      have hbz : b < (w4.alloc (.cells #[.string (tx s), .string (tx p), .int .i64 f, .int .i64 d] 108)).heap.size := by simp; omega
      obtain ⟨w5, hw5⟩ : ∃ x, x = w4.alloc (.cells #[.string (tx s), .string (tx p), .int .i64 f, .int .i64 d] 108) := ⟨_, rfl⟩
      rw [← hw5] at c0 c1 c2 c3 HSB HSS hlz hgz hbz Z4 ⊢
      clear hw5 HS4 HSr4 d0 d1 d2 d3
      have hS5 := HSS.out
      have nb6 : ¬ w5.heap.size = w4.heap.size := by omega
      have nb7 : ¬ w4.heap.size = w5.heap.size := by omega
      have nb8 : ¬ w5.heap.size = g := by omega
      have nb9 : ¬ g = w5.heap.size := by omega
      have HKC : Hid (∀ W, Blk W w4.heap.size 108 #[.string (tx s), .string (tx p), .int .i64 f, .int .i64 d] → W.cell? ⟨w4.heap.size, 1, none⟩ = some (.string (tx p)) ∧ W.cell? ⟨w4.heap.size, 2, none⟩ = some (.int .i64 f) ∧ W.cell? ⟨w4.heap.size, 3, none⟩ = some (.int .i64 d)) := Lib.hid (fun W hW => ⟨hW.cell 1, hW.cell 2, hW.cell 3⟩)
      go_region_held3 (fun w' => w'.cell? ⟨w4.heap.size, 1, none⟩ = some (.string (tx p)) ∧ w'.cell? ⟨w4.heap.size, 2, none⟩ = some (.int .i64 f) ∧ w'.cell? ⟨w4.heap.size, 3, none⟩ = some (.int .i64 d)) (first | exact HKC.out _ (by (repeat (first | with_reducible assumption | ((with_reducible apply Blk.new); solve | simp | rfl) | with_reducible apply Blk.drew | with_reducible apply Blk.drewN | ((with_reducible apply Blk.far'); solve | omega | simp | (simp; omega)) | with_reducible apply Blk.set_ | with_reducible apply Blk.alloc | ((with_reducible apply Blk.ext'); with_reducible assumption) | ((with_reducible apply Blk.but'); (with_reducible assumption); solve | omega | (simp; omega))))) | go_keep) (first | (go_at_call 140; refine (s_l01Pick (a := w) (A := A) (c := c) (bs := bs) _ 0 _ [f, d, d + 1] _ (by (repeat (first | with_reducible assumption | with_reducible refine Src.alloc ?_ _ | with_reducible refine Src.drew ?_ | with_reducible refine Src.drewN ?_ _ | ((with_reducible refine Src.far ?_ ?_ ?_ _); (solve | omega | (simp; omega) | simp); (solve | omega | (simp; omega) | simp)) | ((with_reducible apply Src.on'); with_reducible assumption)))) (Blk.sl (by (repeat (first | with_reducible assumption | ((with_reducible apply Blk.new); solve | simp | rfl) | with_reducible apply Blk.drew | with_reducible apply Blk.drewN | ((with_reducible apply Blk.far'); solve | omega | simp | (simp; omega)) | with_reducible apply Blk.set_ | with_reducible apply Blk.alloc | ((with_reducible apply Blk.ext'); with_reducible assumption) | ((with_reducible apply Blk.but'); (with_reducible assumption); solve | omega | (simp; omega))))) (by rfl) (fun _ => rfl)) (by simp) (by simp) (by simp) (by omega)).mono ?_; rintro e w9 ⟨y, rfl, hy, hSr9, hu9⟩; have hs9 := hu9.size; (try simp at hs9)))
      have hy' : -4000 ≤ y ∧ y ≤ 4000 := by
        simp at hy
        omega
      have HX9 := Lib.hid hSr9.ext
      have HS9 : Hid (SlAt w9 4 encK (some ⟨b, off, none⟩) L) := Lib.hid ((HSB.out.ext (by (repeat (first | with_reducible exact Ext.refl _ | with_reducible assumption | ((with_reducible apply Src.ext); with_reducible assumption) | with_reducible refine Ext.alloc ?_ _ | with_reducible refine Ext.drew ?_ | with_reducible refine Ext.drewN ?_ _ | ((with_reducible refine Ext.setCell' ?_ ?_ _); solve | omega | simp | (simp; omega)) | (with_reducible refine Ext.trans ?_ (by with_reducible assumption)))))).butG hu9 (fun q hq => by injection hq with hq; rw [← hq]; exact nb1))
      clear hy hSr9 hu9
      go_wp2
      go_ret3
      exact ⟨some ⟨b, off, none⟩, c', L, p, y, by rw [← hn1.out]; rfl, HS9.out, by rw [← hn1.out]; exact HC1.out, ⟨by rw [← hn1.out]; exact hl1, HK1.out, fun q hq => by injection hq with hq; rw [← hq]; show w.heap.size ≤ b; omega⟩, ⟨hsl, hy'.1, hy'.2⟩, HX9.out⟩
end Go.Proofs.YtncccigbiefnkaaGreatDoor
