/- Draws for years inside and ended links. The draw for meetings. -/
import Derived.Test.YtncccigbiefnkaaGreatDoorW6
namespace Go.Proofs.YtncccigbiefnkaaGreatDoor
open Go.RowKit
attribute [local go_sem] ExtOf.cell ExtOf.frozen

set_option maxRecDepth 20000 in
set_option maxHeartbeats 6400000 in
theorem s_DrawYearsInside (A : Option Addr) (c : Nat) (bs : List Int) (w : World) (h : SlAt w 1 encB A bs) (hb : ∀ b ∈ bs, 0 ≤ b ∧ b ≤ 255) (hl : bs.length ≤ 4096) :
    Calls Tryz.prog 8 #[.slice A bs.length c] w fun e w' => ∃ (A' : Option Addr) (c' : Nat) (L : List Lk) (a b : List UInt8), e = .returned (.tuple #[.slice A' L.length c', .string (tx a), .string (tx b)]) ∧ SlAt w' 4 encK A' L ∧ L.length ≤ c' ∧ (L.length ≤ 21 ∧ LnksOk L) ∧ (a.length ≤ 4 ∧ b.length ≤ 17) ∧ Ext w w' := by
  have HB := Lib.hid hb
  clear hb
  go_enter Tryz.func8, Tryz.ntmps8
  go_wp2_with fail
  refine (s_l01From _ _ bs _ (h.ext (by (repeat (first | with_reducible exact Ext.refl _ | with_reducible assumption | ((with_reducible apply Src.ext); with_reducible assumption) | with_reducible refine Ext.alloc ?_ _ | with_reducible refine Ext.drew ?_ | with_reducible refine Ext.drewN ?_ _ | ((with_reducible refine Ext.setCell' ?_ ?_ _); solve | omega | simp | (simp; omega)) | (with_reducible refine Ext.trans ?_ (by with_reducible assumption)))))) HB.out hl).mono ?_
  rintro e w0 ⟨g, rfl, hS0⟩
  have hx0 := hS0.ext
  obtain ⟨hg, hgl⟩ := src_facts hS0
  go_wp2_with fail
  refine (s_DrawChildrenInN _ _ bs _ (h.ext hx0) HB.out hl).mono ?_
  rintro e w1 ⟨A', c', L, t, y, rfl, hS1, hc1, ⟨hl1, hk1, hA1⟩, ⟨ht1, hy1⟩, hx1⟩
  have hSr1 := hS0.on hx1
  have HA1 : Hid (∀ q, A' = some q → w0.heap.size ≤ q.block) := Lib.hid hA1
  have HS1 := Lib.hid hS1
  have HK1 := Lib.hid hk1
  have HC1 := Lib.hid hc1
  have HL1 := Lib.hid hl1
  clear hA1 hS1 hk1 hc1 hl1 hx0 hx1 hS0
  go_wp2_with fail
  refine (s_l12DrawCode (a := w) (A := A) (c := c) (bs := bs) _ hSr1).mono ?_
  rintro e w2 ⟨u, rfl, hu, hSr2, hu2⟩
  have HX2 := Lib.hid hSr2.ext
  have HS2 : Hid (SlAt w2 4 encK A' L) := Lib.hid (HS1.out.butG hu2 (fun q hq => by have := HA1.out q hq; omega))
  clear hSr2 hu2 hSr1
  go_wp2
  go_ret3
  exact ⟨A', c', L, u, t, rfl, HS2.out, HC1.out, ⟨HL1.out, HK1.out⟩, ⟨hu, ht1⟩, HX2.out⟩

set_option maxHeartbeats 3200000 in
theorem s_DrawEndLinks (A : Option Addr) (c : Nat) (bs : List Int) (w : World) (h : SlAt w 1 encB A bs) (hb : ∀ b ∈ bs, 0 ≤ b ∧ b ≤ 255) (hl : bs.length ≤ 4096) :
    Calls Tryz.prog 14 #[.slice A bs.length c] w fun e w' => ∃ (A' : Option Addr) (c' : Nat) (L : List Lk) (t : List UInt8) (y : Int), e = .returned (.tuple #[.slice A' L.length c', .string (tx t), .int .i64 y]) ∧ SlAt w' 4 encK A' L ∧ L.length ≤ c' ∧ (L.length ≤ 21 ∧ LnksOk L) ∧ (t.length ≤ 17 ∧ -4000 ≤ y ∧ y ≤ 4000) ∧ Ext w w' := by
  have HC := Lib.hid (fun W hW => s_DrawParentIn A c bs W hW hb hl)
  have HS := Lib.hid h
  clear h hb
  go_enter Tryz.func14, Tryz.ntmps14
  go_wp2_with fail
  refine (HC.out _ HS.out).mono ?_
  rintro e w1 ⟨A', c', L, t, y, rfl, h1, h2, h3, h4, h5⟩
  have H1 := Lib.hid h1
  have H2 := Lib.hid h2
  have H3 := Lib.hid h3
  have H4 := Lib.hid h4
  have H5 := Lib.hid h5
  clear h1 h2 h3 h4 h5
  go_wp2
  go_ret3
  exact ⟨A', c', L, t, y, rfl, H1.out, H2.out, H3.out, H4.out, H5.out⟩
end Go.Proofs.YtncccigbiefnkaaGreatDoor
namespace Go.Proofs.YtncccigbiefnkaaGreatDoor
open Go.RowKit
attribute [local go_sem] ExtOf.cell ExtOf.frozen

theorem results_tmp4 {fn : Func} {t u v x : Tmp} (h : fn.results = #[.tmp t, .tmp u, .tmp v, .tmp x]) (tmps : Array Value) (P : Program) (w : World) :
    (results fn tmps).run P w = .ok (.tuple #[tmps.getD t undef, tmps.getD u undef, tmps.getD v undef, tmps.getD x undef]) w := by
  simp [results, h]

set_option maxRecDepth 20000 in
set_option maxHeartbeats 6400000 in
theorem s_DrawMeetingIn (A : Option Addr) (c : Nat) (bs : List Int) (w : World) (h : SlAt w 1 encB A bs) (hb : ∀ b ∈ bs, 0 ≤ b ∧ b ≤ 255) (hl : bs.length ≤ 4096) :
    Calls Tryz.prog 11 #[.slice A bs.length c] w fun e w' => ∃ (A' : Option Addr) (c' : Nat) (L : List Lk) (a b : List UInt8) (y : Int), e = .returned (.tuple #[.slice A' L.length c', .string (tx a), .string (tx b), .int .i64 y]) ∧ SlAt w' 4 encK A' L ∧ L.length ≤ c' ∧ (L.length ≤ 21 ∧ LnksOk L) ∧ (a.length ≤ 17 ∧ b.length ≤ 4) ∧ (-4000 ≤ y ∧ y ≤ 4000) ∧ Ext w w' := by
  have HB := Lib.hid hb
  clear hb
  go_enter Tryz.func11, Tryz.ntmps11
  go_wp2_with fail
  refine (s_l01From _ _ bs _ (h.ext (by (repeat (first | with_reducible exact Ext.refl _ | with_reducible assumption | ((with_reducible apply Src.ext); with_reducible assumption) | with_reducible refine Ext.alloc ?_ _ | with_reducible refine Ext.drew ?_ | with_reducible refine Ext.drewN ?_ _ | ((with_reducible refine Ext.setCell' ?_ ?_ _); solve | omega | simp | (simp; omega)) | (with_reducible refine Ext.trans ?_ (by with_reducible assumption)))))) HB.out hl).mono ?_
  rintro e w0 ⟨g, rfl, hS0⟩
  have hx0 := hS0.ext
  obtain ⟨hg, hgl⟩ := src_facts hS0
  go_wp2_with fail
  refine (s_DrawParentInN _ _ bs _ (h.ext hx0) HB.out hl).mono ?_
  rintro e w1 ⟨A', c', L, t, y, rfl, hS1, hc1, ⟨hl1, hk1, hA1⟩, ⟨ht1, hy1⟩, hx1⟩
  have hSr1 := hS0.on hx1
  have HA1 : Hid (∀ q, A' = some q → w0.heap.size ≤ q.block) := Lib.hid hA1
  have HS1 := Lib.hid hS1
  have HK1 := Lib.hid hk1
  have HC1 := Lib.hid hc1
  have HL1 := Lib.hid hl1
  clear hA1 hS1 hk1 hc1 hl1 hx0 hx1 hS0
  go_wp2_with fail
  refine (s_l12DrawCode (a := w) (A := A) (c := c) (bs := bs) _ hSr1).mono ?_
  rintro e w2 ⟨u, rfl, hu, hSr2, hu2⟩
  have HX2 := Lib.hid hSr2.ext
  have HS2 : Hid (SlAt w2 4 encK A' L) := Lib.hid (HS1.out.butG hu2 (fun q hq => by have := HA1.out q hq; omega))
  clear hSr2 hu2 hSr1
  go_wp2
  (try simp only [Exit.inBlock, Exit.then])
  refine bodyPost_ret (results_tmp4 rfl _ _ _) rfl ?_
  exact ⟨A', c', L, t, u, y, rfl, HS2.out, HC1.out, ⟨HL1.out, HK1.out⟩, ⟨ht1, hu⟩, hy1, HX2.out⟩
end Go.Proofs.YtncccigbiefnkaaGreatDoor
