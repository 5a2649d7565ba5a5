/- Ways up, circles and lists of links, as the program sees them. The kit's word for slices.Compact at sorted texts: no program in sight. Lists of links, sorted lists of places, and places that are a child, as the program sees them. Lists of links, their codes, children and what lies inside, as the program sees them. -/
import Derived.Test.YtlnliajnipniaaaGreatDoorZ0
import Derived.Test.YtlnliajnipniaaaGreatDoorGU
import Derived.Lib.SlicesCompact
import Derived.Sort.OwnSorted
namespace Go.Proofs.YtlnliajnipniaaaGreatDoor
open Go.RowKit
attribute [local go_sem] ExtOf.cell ExtOf.frozen
set_option maxHeartbeats 1600000 in
theorem i_IndexS (A : Option Addr) (n c : Nat) (xs : List (List UInt8)) (x : List UInt8) (w : World) (h : SlAt w 1 encS A xs) (hn : n = xs.length) (hl : n ≤ 1048577) :
  Calls Tryz.prog 137 #[.slice A n c, .string (tx x)] w fun e w' => e = .returned (.int .i64 (fstG (fun z => z == x) xs)) ∧ Ext w w' := by
 have HN := hI hn
 have HX := hI (tx_toL x)
 clear hn
 go_enter Tryz.func137, Tryz.ntmps137
 go_wp2
 go_loopw [8] (fun i wr => ∃ k : Nat, k ≤ n ∧ i = .int .i64 k ∧ Hid (∀ j, j < k → (xs.getD j [] == x) = false) ∧ Ext w wr) (fun i _ => n - (intOf i).toNat)
 case atStart => exact ⟨0, by omega, rfl, fun j hj => absurd hj (by omega), xR⟩
 case round =>
  obtain ⟨k, hk, rfl, HJ, hxr⟩ := hrel
  by_cases hlt : k < n
  ·have hkr : k < xs.length := by rw [← HN.out]; exact hlt
   obtain ⟨b, off, rfl, hb, d0⟩ := (h.ext hxr).st hkr
   have htz := tx_toL (xs.getD k [])
   cases hq : (xs.getD k [] == x) with
   | true =>
    have HQ := hI hq
    have heq : ((tx x).toList == (tx (xs.getD k [])).toList) = true := by rw [HX.out, htz, beq_iff_eq]; rw [beq_iff_eq] at hq; exact hq.symm
    have heq2 : ((tx (xs.getD k [])).toList == (tx x).toList) = true := by rw [HX.out, htz]; exact hq
    generalize tx (xs.getD k []) = z at d0 heq heq2
    generalize tx x = sx at *
    clear htz hq
    go_wp2
    go_ret
    exact ⟨ret_int (fstG_hit (d := ([] : List UInt8)) (p := fun z => z == x) hkr HQ.out HJ.out), hxr⟩
   | false =>
    have HJ2 := hI (upTo_succ (P := fun j => (xs.getD j [] == x) = false) HJ.out hq)
    have heq2 : ((tx (xs.getD k [])).toList == (tx x).toList) = false := by rw [HX.out, htz]; exact hq
    have heq : ((tx x).toList == (tx (xs.getD k [])).toList) = false := by rw [HX.out, htz, beq_eq_false_iff_ne]; rw [beq_eq_false_iff_ne] at hq; exact fun e => hq e.symm
    generalize tx (xs.getD k []) = z at d0 heq heq2
    generalize tx x = sx at *
    clear htz hq
    go_wp2
    go_roundw
    case rel => exact ⟨k + 1, by omega, by go_num, HJ2, hxr⟩
    case measure => simp [intOf]; omega
  ·obtain rfl : k = n := by omega
   go_wp2
   go_ret
   exact ⟨ret_int (fstG_miss (d := ([] : List UInt8)) (p := fun z => z == x) (by rw [← HN.out]; exact HJ.out)), hxr⟩
theorem any_mem (xs : List (List UInt8)) (x : List UInt8) : (xs.any fun z => z == x) = decide (x ∈ xs) := by
 rw [Bool.eq_iff_iff, List.any_eq_true, decide_eq_true_iff]
 constructor
 ·rintro ⟨z, hz, e⟩
  rw [beq_iff_eq] at e
  exact e ▸ hz
 ·intro h
  exact ⟨x, h, by simp⟩
set_option maxHeartbeats 1600000 in
theorem i_ContainsS (A : Option Addr) (n c : Nat) (xs : List (List UInt8)) (x : List UInt8) (w : World) (h : SlAt w 1 encS A xs) (hn : n = xs.length) (hl : n ≤ 1048577) :
  Calls Tryz.prog 91 #[.slice A n c, .string (tx x)] w fun e w' => e = .returned (.bool (decide (x ∈ xs))) ∧ Ext w w' := by
 rw [← any_mem, ← fstG_any]
 have HC := hI (i_IndexS A n c xs x w h hn hl)
 generalize tx x = sx at *
 clear hn h
 go_enter Tryz.func91, Tryz.ntmps91
 go_wp2_with fail
 refine HC.out.mono ?_
 rintro e w' ⟨rfl, hx⟩
 go_wp2
 go_ret
 exact ⟨rfl, hx⟩
set_option maxRecDepth 20000 in
set_option maxHeartbeats 6400000 in
theorem i_wayUp (A : Option Addr) (n c : Nat) (L : List Lk) (x : List UInt8) (y : Int) (w : World) (h : SlAt w 4 encK A L) (hn : n = L.length) (hl : n ≤ 1048576) :
  Calls Tryz.prog 46 #[.slice A n c, .string (tx x), .int .i64 y] w fun e w' => ∃ v, e = .returned v ∧ OwS w' w.heap.size v (wayU L x y).1 ∧ Ext w w' := by
 have HN := hI hn
 have HS := hI h
 have HV0 : Hid (∀ W g, Blk W g 9 #[.string (tx x)] → w.heap.size ≤ g → OwS W w.heap.size (.slice (some ⟨g, 0, none⟩) 1 1) [x]) := hI (fun W g hB hg => Own.of_blk (xs := [x]) hB len_encS rfl hg (by unfold maxLen; simp))
 clear hn h
 go_enter Tryz.func46, Tryz.ntmps46
 go_wp2
 go_loopw [7] (fun v wr => ∃ ws, Hid (UpAt L x y ws) ∧ Hid (OwS wr w.heap.size v ws) ∧ Ext w wr) (fun v _ => n + 2 - slLn v)
 case atStart => exact ⟨[x], hI UpAt.start, hI (HV0.out _ _ (bN (by omega)) (by omega)), xA xR⟩
 case round =>
  obtain ⟨ws, HU, HV, hxr⟩ := hrel
  obtain ⟨w5, rfl⟩ : ∃ x, x = wr := ⟨wr, rfl⟩
  have hsr := hxr.size
  obtain ⟨A', c', rfl, hS, hcc, hcm, hrow⟩ := HV.out.sl len_encS
  have HSW := hI hS
  obtain ⟨h0, hlen, cl, hlast, hgd⟩ := HU.out.ne
  have hlen2 : ws.length ≤ n + 1 := by rw [HN.out]; exact hlen
  obtain ⟨b, off, hA, hb, d0⟩ := hS.st (k := ws.length - 1) (by omega)
  subst hA
  rw [hgd] at d0
  obtain ⟨m, hm⟩ : ∃ m, ws.length = m + 1 := ⟨ws.length - 1, by omega⟩
  have hm1 : ws.length - 1 = m := by omega
  rw [hm1] at d0
  have hw : IntKind.i64.wrap ((ws.length : Int) - 1) = (m : Int) := by rw [IntWalk.i64_in _ (by omega)]; omega
  have HP := hI (fun W hW => i_parentIn A n c L cl y W hW HN.out hl)
  have HLN : Hid (ws.length = m + 1 ∧ m ≤ n) := hI ⟨hm, by omega⟩
  have hmlt : m < ws.length := by omega
  have HLAST := hI hlast
  obtain ⟨ln, hln⟩ : ∃ ln, ln = ws.length := ⟨_, rfl⟩
  rw [← hln] at hw hmlt ⊢
  have HLEQ := hI hln
  clear hS hrow hcc hcm hm1 hgd hm h0 hlen hlast
  rcases hp : par L cl y with _ | nx
  ·rw [hp] at HP
   have HR := hI (HU.out.none_ HLAST.out hp)
   generalize tx cl = sc at *
   clear hp hln
   go_wp2_with fail
   refine (HP.out _ (HS.out.ext hxr)).mono ?_
   rintro e w1 ⟨rfl, hx1⟩
   go_wp2
   go_ret
   exact ⟨_, rfl, by rw [HR.out, HLEQ.out]; exact HV.out.ext hx1, xT hxr hx1⟩
  ·rw [hp, parT_of hp] at HP
   have HC := hI (fun W hW => i_ContainsS (some ⟨b, off, none⟩) ln c' ws nx W hW hln (by omega))
   by_cases hmem : nx ∈ ws
   ·rw [decide_eq_true hmem] at HC
    have HR := hI (HU.out.hit HLAST.out hp hmem)
    generalize tx cl = sc at *
    generalize tx nx = sn at *
    clear hp hmem hln
    go_wp2_with fail
    refine (HP.out _ (HS.out.ext hxr)).mono ?_
    rintro e w1 ⟨rfl, hx1⟩
    go_wp2_with fail
    refine (HC.out _ (HSW.out.ext hx1)).mono ?_
    rintro e w2 ⟨rfl, hx2⟩
    go_wp2
    go_ret
    exact ⟨_, rfl, by rw [HR.out, HLEQ.out]; exact (HV.out.ext hx1).ext hx2, xT (xT hxr hx1) hx2⟩
   ·rw [decide_eq_false hmem] at HC
    have HON := hI (HU.out.on HLAST.out hp hmem)
    have HBL := hI (fun (W : World) (g : Nat) (hB : Blk W g 9 #[.string (tx nx)]) => blk_s1 hB)
    generalize tx cl = sc at *
    generalize tx nx = sn at *
    clear hp hmem hln
    go_wp2_with fail
    refine (HP.out _ (HS.out.ext hxr)).mono ?_
    rintro e w1 ⟨rfl, hx1⟩
    have hs1 := hx1.size
    go_wp2_with fail
    refine (HC.out _ (HSW.out.ext hx1)).mono ?_
    rintro e w2 ⟨rfl, hx2⟩
    have hs2 := hx2.size
    have HV1 : Hid (OwS w2 w.heap.size (.slice (some ⟨b, off, none⟩) ln c') ws) := hI (by rw [HLEQ.out]; exact (HV.out.ext hx1).ext hx2)
    go_wp2_with (at_builtin; refine wpList_append_sl elS len_encS one_encS rfl _ _ rfl rfl (HV1.out.ext (xA xR)) (xs := [nx]) rfl (HBL.out _ _ (bN (by omega))) (by have := HLN.out; simp; unfold maxLen; omega) (by have := HLN.out; simp; omega) (by first | omega | (simp; omega)) ?_)
    intro v' w6 hown hgrow _
    have HV2 := hI hown
    have hsl : slLn v' = ws.length + 1 := by
     obtain ⟨A2, c2, e, _⟩ := hown.sl len_encS
     rw [e]; simp [slLn]
    have HSL := hI hsl
    clear hsl
    have hx6 : Ext w w6 := by
     refine Ext.grown ?_ hgrow (fun q hq => (HV.out.row q (by rw [← HLEQ.out]; exact hq)).1)
     exact xA (xT (xT hxr hx1) hx2)
    clear hown hgrow
    go_wp2
    go_roundw
    case rel => exact ⟨ws ++ [nx], hI HON.out.1, HV2, hx6⟩
    case measure => simp only [HSL.out]; simp only [slLn]; have := HON.out.2; have := HLEQ.out; have := HN.out; omega
set_option maxHeartbeats 3200000 in
theorem i_isCircle (A : Option Addr) (n c : Nat) (L : List Lk) (x : List UInt8) (y : Int) (w : World) (h : SlAt w 4 encK A L) (hn : n = L.length) (hl : n ≤ 1048576) :
  Calls Tryz.prog 128 #[.slice A n c, .string (tx x), .int .i64 y] w fun e w' => e = .returned (.bool (wayU L x y).2) ∧ Ext w w' := by
 obtain ⟨cl, hgd, h0, h2⟩ := wayU_last L x y
 have hlen : (wayU L x y).1.length ≤ n + 1 := by obtain ⟨_, _, hle⟩ := wayU_ne L x y; omega
 have HU := hI (fun W hW => i_wayUp A n c L x y W hW hn hl)
 have HP := hI (fun W hW => i_parentIn A n c L cl y W hW hn hl)
 rw [h2]
 have HS := hI h
 obtain ⟨ws, hws⟩ : ∃ ws, ws = (wayU L x y).1 := ⟨_, rfl⟩
 rw [← hws] at hgd h0 HU hlen
 have HGD := hI hgd
 generalize (par L cl y).isSome = q at *
 clear h h2 hws hgd hn
 obtain ⟨m, hm⟩ : ∃ m, ws.length = m + 1 := ⟨ws.length - 1, by omega⟩
 have hw : IntKind.i64.wrap ((ws.length : Int) - 1) = (m : Int) := by rw [IntWalk.i64_in _ (by omega)]; omega
 obtain ⟨ln, hln⟩ : ∃ ln, ln = ws.length := ⟨_, rfl⟩
 have hmlt : m < ln := by omega
 have HM1 : Hid (ws.length - 1 = m) := hI (by omega)
 have HM2 : Hid (m < ws.length) := hI (by omega)
 rw [← hln] at hw
 have HLEQ := hI hln
 clear hm hln h0 hlen
 generalize hse : tx x = sx at *
 go_enter Tryz.func128, Tryz.ntmps128
 go_wp2_with fail
 refine (HU.out _ (HS.out.ext xR)).mono ?_
 rintro e w1 ⟨v, rfl, hO, hx1⟩
 obtain ⟨A', c', rfl, hS', _, _, _⟩ := hO.sl len_encS
 obtain ⟨b, off, hA, hb, d0⟩ := hS'.st (k := m) HM2.out
 have hgd := HGD.out
 rw [HM1.out] at hgd
 rw [hgd] at d0
 subst hA
 rw [← HLEQ.out]
 clear hO hS' hgd
 generalize tx cl = sc at *
 go_wp2_with fail
 refine (HP.out _ (HS.out.ext hx1)).mono ?_
 rintro e w2 ⟨rfl, hx2⟩
 go_wp2
 go_ret
 exact ⟨rfl, xT hx1 hx2⟩
def twoB (l m : Lk) : Bool := m.1 == l.1 && meetB m.2.2.1 m.2.2.2 l.2.2.1 l.2.2.2
set_option maxHeartbeats 3200000 in
theorem i_AreLinks1 (l m : Lk) (b5 : Nat) (w : World) (h0 : w.cell? ⟨b5, 0, none⟩ = some (.string (tx l.1))) (h2 : w.cell? ⟨b5, 2, none⟩ = some (.int .i64 l.2.2.1)) (h3 : w.cell? ⟨b5, 3, none⟩ = some (.int .i64 l.2.2.2)) :
  Calls Tryz.prog 126 #[.agg #[.string (tx m.1), .string (tx m.2.1), .int .i64 m.2.2.1, .int .i64 m.2.2.2], .pointer (some ⟨b5, 0, none⟩)] w fun e w' => e = .returned (.bool (twoB l m)) ∧ Ext w w' := by
 have e5 : b5 < w.heap.size := World.block_lt_of_cell? _ _ h0
 have n5 : ¬ b5 = w.heap.size := by omega
 have HH := hI (fun W => i_meets m.2.2.1 m.2.2.2 l.2.2.1 l.2.2.2 W)
 cases he : (m.1 == l.1) with
 | false =>
  have HR : Hid (twoB l m = false) := hI (by unfold twoB; rw [he]; rfl)
  have heq : ((tx m.1).toList == (tx l.1).toList) = false := by rw [tx_toL, tx_toL]; exact he
  generalize twoB l m = res at *
  generalize tx m.1 = sc at *
  generalize tx l.1 = sx at *
  generalize tx m.2.1 = sp at *
  clear he
  go_enter Tryz.func126, Tryz.ntmps126
  go_wp2
  go_ret
  exact ⟨ret_bool' HR.out.symm, xA xR⟩
 | true =>
  have HR : Hid (twoB l m = meetB m.2.2.1 m.2.2.2 l.2.2.1 l.2.2.2) := hI (by unfold twoB; rw [he]; rfl)
  have heq : ((tx m.1).toList == (tx l.1).toList) = true := by rw [tx_toL, tx_toL]; exact he
  generalize twoB l m = res at *
  generalize tx m.1 = sc at *
  generalize tx l.1 = sx at *
  generalize tx m.2.1 = sp at *
  clear he
  go_enter Tryz.func126, Tryz.ntmps126
  (go_wp2_with fail; refine (HH.out _).mono ?_; rintro e w1 ⟨rfl, hx1⟩; obtain ⟨hc1, hf1, hs1⟩ := hx1.all; (try simp at hs1))
  go_wp2
  go_ret
  exact ⟨ret_bool' HR.out.symm, xT (xA xR) hx1⟩
theorem en_AreLinks1 (args : Array Value) (w : World) : (callFunc 126 args).run Tryz.prog w = .ok (.enter 126 args) w := enters_isSome Tryz.func126 (by kernel_rfl) (by kernel_rfl) args w
end Go.Proofs.YtlnliajnipniaaaGreatDoor
namespace Go.Proofs.YtlnliajnipniaaaGreatDoor
end Go.Proofs.YtlnliajnipniaaaGreatDoor
namespace Go.Proofs.YtlnliajnipniaaaGreatDoor
open Go.RowKit Go.Sort
attribute [local go_sem] ExtOf.cell ExtOf.frozen
end Go.Proofs.YtlnliajnipniaaaGreatDoor
namespace Go.Proofs.YtlnliajnipniaaaGreatDoor
open Go.RowKit
attribute [local go_sem] ExtOf.cell ExtOf.frozen
theorem two_any (L : List Lk) (l : Lk) (k : Nat) : ((L.take k).any (twoB l)) = ((L.take k).any fun m => m.1 == l.1 && meetB m.2.2.1 m.2.2.2 l.2.2.1 l.2.2.2) := rfl
set_option maxRecDepth 20000 in
set_option maxHeartbeats 12800000 in
theorem i_AreLinks (A : Option Addr) (n c : Nat) (L : List Lk) (w : World) (h : SlAt w 4 encK A L) (hn : n = L.length) (hl : L.length ≤ 1048576) (hcap : n ≤ c) (hg : Links L) :
  Calls Tryz.prog 73 #[.slice A n c] w fun e w' => e = .returned (.bool (lksB L)) ∧ Ext w w' := by
 have HN := hI hn
 have hn2 : n ≤ 1048576 := by omega
 have HS := hI h
 clear hn h
 go_enter Tryz.func73, Tryz.ntmps73
 go_wp2
 go_loopw [11] (fun i wr => ∃ k : Nat, k ≤ n ∧ i = .int .i64 k ∧ Hid (∀ j, j < k → okK L j) ∧ Ext w wr) (fun i _ => n - (intOf i).toNat)
 case atStart => exact ⟨0, by omega, rfl, fun j hj => absurd hj (by omega), xR⟩
 case round =>
  obtain ⟨k, hk, rfl, HJ, hxr⟩ := hrel
  obtain ⟨w5, rfl⟩ : ∃ x, x = wr := ⟨wr, rfl⟩
  by_cases hlt : k < n
  ·have hkl : k < L.length := by have := HN.out; omega
   obtain ⟨b, off, rfl, hb, d0, d1, d2, d3⟩ := (HS.out.ext hxr).lk hkl
   have hgk := hg k
   obtain ⟨v, hve⟩ : ∃ v, v = L.getD k lkD := ⟨_, rfl⟩
   rw [← hve] at d0 d1 d2 d3 hgk
   have HV := hI hve
   have HC := hI (fun W => i_isLink v W hgk.1 hgk.2)
   have HK2 : Hid (∀ W g, Blk W g 108 #[.string (tx v.1), .string (tx v.2.1), .int .i64 v.2.2.1, .int .i64 v.2.2.2] → Ext w W → Calls Tryz.prog 74 #[.slice (some ⟨b, off, none⟩) k c, .func (.func 126) #[] #[.pointer (some ⟨g, 0, none⟩)]] W fun e w' => e = .returned (.bool ((L.take k).any (twoB v))) ∧ Ext W w') := hI (fun W g hB hx =>
    i_ContainsFuncK (twoB v) _ _ en_AreLinks1 _ k c (L.take k) W ((HS.out.ext hx).take k) (by rw [List.length_take]; omega) (by omega) (fun m _ W' hW' => i_AreLinks1 v m g W' ((hB.ext hW').cell 0) ((hB.ext hW').cell 2) ((hB.ext hW').cell 3)))
   have hres : ∀ q, ((L.take k).any (twoB v)) = q → lkB v = true → (q = true → lksB L = false) ∧ (q = false → okK L k) := fun q hq hq2 => by
    rw [HV.out, two_any] at hq
    rw [HV.out] at hq2
    exact ⟨fun e => lksB_two hkl (by rw [hq]; exact e), fun e => okK_of hkl hq2 (by rw [hq]; exact e)⟩
   have HRES := hI hres
   have f1 : (0 : Int) ≤ (k : Int) := by omega
   have f2 : (k : Int) ≤ (c : Int) := by omega
   have f3 : (k : Int) ≤ (n : Int) := by omega
   clear hve hgk hres
   cases hq : lkB v with
   | false =>
    have HNO : Hid (lksB L = false) := hI (lksB_bad hkl (by rw [← HV.out]; exact hq))
    rw [hq] at HC
    generalize tx v.1 = sc at *
    generalize tx v.2.1 = sp at *
    clear hq hkl
    (go_wp2_with fail; refine (HC.out _).mono ?_; rintro e w1 ⟨rfl, hx1⟩; obtain ⟨hc1, hf1, hs1⟩ := hx1.all; (try simp at hs1); have := (show w5.heap.size < w1.heap.size from by omega))
    go_wp2
    go_ret
    exact ⟨ret_bool' HNO.out.symm, xT (xA hxr) hx1⟩
   | true =>
    have HQ := hI (HRES.out _ rfl hq)
    rw [hq] at HC
    generalize tx v.1 = sc at *
    generalize tx v.2.1 = sp at *
    clear hq hkl
    cases hq2 : (L.take k).any (twoB v) with
    | true =>
     rw [hq2] at HK2 HQ
     have HNO : Hid (lksB L = false) := hI (HQ.out.1 rfl)
     clear hq2
     (go_wp2_with fail; refine (HC.out _).mono ?_; rintro e w1 ⟨rfl, hx1⟩; obtain ⟨hc1, hf1, hs1⟩ := hx1.all; (try simp at hs1); have := (show w5.heap.size < w1.heap.size from by omega))
     go_wp2_with fail
     refine (HK2.out _ _ (bE hx1 (bN (by omega))) (xT (xA hxr) hx1)).mono ?_
     rintro e w2 ⟨rfl, hx2⟩
     go_wp2
     go_ret
     exact ⟨ret_bool' HNO.out.symm, xT (xT (xA hxr) hx1) hx2⟩
    | false =>
     rw [hq2] at HK2 HQ
     have HJ2 := hI (upTo_succ HJ.out (HQ.out.2 rfl))
     clear hq2
     (go_wp2_with fail; refine (HC.out _).mono ?_; rintro e w1 ⟨rfl, hx1⟩; obtain ⟨hc1, hf1, hs1⟩ := hx1.all; (try simp at hs1); have := (show w5.heap.size < w1.heap.size from by omega))
     go_wp2_with fail
     refine (HK2.out _ _ (bE hx1 (bN (by omega))) (xT (xA hxr) hx1)).mono ?_
     rintro e w2 ⟨rfl, hx2⟩
     go_wp2
     go_roundw
     case rel => exact ⟨k + 1, by omega, by go_num, HJ2, xT (xT (xA hxr) hx1) hx2⟩
     case measure => simp [intOf]; omega
  ·obtain rfl : k = n := by omega
   have HP : Hid (∀ j, j < L.length → okK L j) := hI fun j hj => HJ.out j (by have := HN.out; omega)
   go_wp2
   go_loopw [29] (fun i wr => ∃ a : Nat, a ≤ k ∧ i = .int .i64 a ∧ Hid (∀ q, q < a → ∀ m, m < k → (lkHas (L.getD m lkD) (L.getD q lkD).2.2.1 && (wayU L (L.getD m lkD).1 (L.getD q lkD).2.2.1).2) = false) ∧ Ext w wr) (fun i _ => k - (intOf i).toNat)
   case atStart => exact ⟨0, by omega, rfl, fun j hj => absurd hj (by omega), hxr⟩
   case round =>
    obtain ⟨a, ha, rfl, HA, hxa⟩ := hrel
    obtain ⟨w6, rfl⟩ : ∃ x, x = wr := ⟨wr, rfl⟩
    by_cases hak : a < k
    ·have hal : a < L.length := by have := HN.out; omega
     obtain ⟨b, off, rfl, hb, d0, d1, d2, d3⟩ := (HS.out.ext hxa).lk hal
     obtain ⟨u, hue⟩ : ∃ u, u = L.getD a lkD := ⟨_, rfl⟩
     rw [← hue] at d0 d1 d2 d3
     have HU := hI hue
     have hsa := hxa.size
     clear hue
     generalize hsc : tx u.1 = sc at *
     generalize hsp : tx u.2.1 = sp at *
     clear hsc hsp
     go_wp2
     go_loopw [35] (fun i wi => ∃ j : Nat, j ≤ k ∧ i = .int .i64 j ∧ Hid (∀ m, m < j → (lkHas (L.getD m lkD) u.2.2.1 && (wayU L (L.getD m lkD).1 u.2.2.1).2) = false) ∧ Blk wi w6.heap.size 108 #[.string sc, .string sp, .int .i64 u.2.2.1, .int .i64 u.2.2.2] ∧ Ext w6 wi) (fun i _ => k - (intOf i).toNat)
     case atStart => exact ⟨0, by omega, rfl, fun q hq => absurd hq (by omega), Blk.eq (bN (by omega)) (by rfl), xA xR⟩
     case round =>
      obtain ⟨j, hj, rfl, HO, hB, hxi⟩ := hrel
      obtain ⟨w7, rfl⟩ : ∃ x, x = wr := ⟨wr, rfl⟩
      have hxw := hxa.trans hxi
      have hBl := hB.lt
      have b2 : w7.cell? ⟨w6.heap.size, 2, none⟩ = some (.int .i64 u.2.2.1) := hB.cell 2
      have HB := hI hB
      clear hB d0 d1 d2 d3 hb
      by_cases hjk : j < k
      ·have hjl : j < L.length := by have := HN.out; omega
       obtain ⟨b', off', hA', hb', e0, e1, e2, e3⟩ := (HS.out.ext hxw).lk hjl
       injection hA' with hA'
       injection hA' with hA1 hA2
       subst hA1 hA2
       obtain ⟨v, hve⟩ : ∃ v, v = L.getD j lkD := ⟨_, rfl⟩
       rw [← hve] at e0 e1 e2 e3
       have HV := hI hve
       have HH := hI (fun W => i_has v.2.2.1 v.2.2.2 u.2.2.1 W)
       have HCI := hI (fun W hW => i_isCircle (some ⟨b, off, none⟩) k c L v.1 u.2.2.1 W hW HN.out hn2)
       have hlk : lkHas v u.2.2.1 = inB u.2.2.1 v.2.2.1 v.2.2.2 := rfl
       clear hve
       cases hq : lkHas v u.2.2.1 with
       | false =>
        rw [← hlk, hq] at HH
        have HO2 := hI (upTo_succ (P := fun m => (lkHas (L.getD m lkD) u.2.2.1 && (wayU L (L.getD m lkD).1 u.2.2.1).2) = false) HO.out (by rw [← HV.out, hq]; rfl))
        generalize tx v.1 = vc at *
        generalize tx v.2.1 = vp at *
        clear hq hlk hjl
        (go_wp2_with fail; refine (HH.out _).mono ?_; rintro e w1 ⟨rfl, hx1⟩; obtain ⟨hc1, hf1, hs1⟩ := hx1.all; (try simp at hs1); have := (show w6.heap.size < w1.heap.size from by omega); have := (show w7.heap.size < w1.heap.size from by omega))
        go_wp2
        go_roundw
        case rel => exact ⟨j + 1, by omega, by go_num, HO2, HB.out.ext (xT (xA xR) hx1), xT (xA hxi) hx1⟩
        case measure => simp [intOf]; omega
       | true =>
        rw [← hlk, hq] at HH
        cases hq2 : (wayU L v.1 u.2.2.1).2 with
        | false =>
         rw [hq2] at HCI
         have HO2 := hI (upTo_succ (P := fun m => (lkHas (L.getD m lkD) u.2.2.1 && (wayU L (L.getD m lkD).1 u.2.2.1).2) = false) HO.out (by rw [← HV.out, hq, hq2]; rfl))
         generalize tx v.1 = vc at *
         generalize tx v.2.1 = vp at *
         clear hq hq2 hlk hjl
         (go_wp2_with fail; refine (HH.out _).mono ?_; rintro e w1 ⟨rfl, hx1⟩; obtain ⟨hc1, hf1, hs1⟩ := hx1.all; (try simp at hs1); have := (show w6.heap.size < w1.heap.size from by omega); have := (show w7.heap.size < w1.heap.size from by omega))
         go_wp2_with fail
         refine (HCI.out _ (HS.out.ext (hxw.trans (xT (xA xR) hx1)))).mono ?_
         rintro e w2 ⟨rfl, hx2⟩
         go_wp2
         go_roundw
         case rel => exact ⟨j + 1, by omega, by go_num, HO2, HB.out.ext (xT (xT (xA xR) hx1) hx2), xT (xT (xA hxi) hx1) hx2⟩
         case measure => simp [intOf]; omega
        | true =>
         rw [hq2] at HCI
         have HNO : Hid (lksB L = false) := hI (lksB_cir hal hjl (by rw [← HV.out, ← HU.out]; exact hq2))
         generalize tx v.1 = vc at *
         generalize tx v.2.1 = vp at *
         clear hq hq2 hlk hjl
         (go_wp2_with fail; refine (HH.out _).mono ?_; rintro e w1 ⟨rfl, hx1⟩; obtain ⟨hc1, hf1, hs1⟩ := hx1.all; (try simp at hs1); have := (show w6.heap.size < w1.heap.size from by omega); have := (show w7.heap.size < w1.heap.size from by omega))
         go_wp2_with fail
         refine (HCI.out _ (HS.out.ext (hxw.trans (xT (xA xR) hx1)))).mono ?_
         rintro e w2 ⟨rfl, hx2⟩
         go_wp2
         go_ret
         exact ⟨ret_bool' HNO.out.symm, hxw.trans (xT (xT (xA xR) hx1) hx2)⟩
      ·obtain rfl : j = k := by omega
       have HA2 := hI (upTo_succ (P := fun q => ∀ m, m < j → (lkHas (L.getD m lkD) (L.getD q lkD).2.2.1 && (wayU L (L.getD m lkD).1 (L.getD q lkD).2.2.1).2) = false) HA.out (by rw [← HU.out]; exact HO.out))
       go_wp2
       go_roundw
       case rel => exact ⟨a + 1, by omega, by go_num, HA2, hxa.trans hxi⟩
       case measure => simp [intOf]; omega
    ·obtain rfl : a = k := by omega
     have hres : lksB L = decide ((a : Int) ≤ 20) := by
      by_cases h20 : a ≤ 20
      ·rw [decide_eq_true (by omega)]
       exact lksB_yes HP.out (fun i hi m hm => HA.out i (by have := HN.out; omega) m (by have := HN.out; omega)) (by have := HN.out; omega)
      ·rw [decide_eq_false (by omega)]
       exact lksB_long (by have := HN.out; omega)
     have HR := hI hres
     clear hres
     go_wp2
     go_ret
     exact ⟨ret_bool' HR.out.symm, hxa⟩
theorem as_boolG {P : Program} {f : FuncId} {args : Array Value} {w : World} {b b' : Bool} (h : Calls P f args w fun e w' => e = .returned (.bool b) ∧ w = w') (e : b = b') : Calls P f args w fun e w' => e = .returned (.bool b') ∧ w = w' := e ▸ h
end Go.Proofs.YtlnliajnipniaaaGreatDoor
