/- Ways up, as the specification sees them. Lists of links, as the specification sees them. Plain laws of ways up and of links as the program tests them: no program in sight. Plain laws of children and of what lies inside. -/
import Derived.Test.YtlnliajnipniaaaGreatDoorGW
namespace Go.Proofs.YtlnliajnipniaaaGreatDoor
open Go.RowKit
attribute [local go_sem] ExtOf.cell ExtOf.frozen
def slLn : Value → Nat
 | .slice _ n _ => n
 | _ => 0
def Told (L : List Lk) : Prop := ∀ l ∈ L, l.2.1 ≠ []
def WayAt (L : List Lk) (x : List UInt8) (y : Int) (ws : List (List UInt8)) (c : List UInt8) : Prop :=
 (c = [] ∧ wayU L x y = (ws, false)) ∨ (c ≠ [] ∧ c ∈ ws ∧ wayU L x y = (ws, true)) ∨ (c ≠ [] ∧ c ∉ ws ∧ ∃ f, way (fun z => par L z y) f (ws ++ [c]) c = wayU L x y ∧ WayIn L y f (ws ++ [c]) c)
theorem WayAt.start {L : List Lk} {x : List UInt8} {y : Int} (hx : x ≠ []) : WayAt L x y [] x :=
 .inr (.inr ⟨hx, by simp, L.length + 1, rfl, WayIn.start L x y⟩)
theorem par_told {L : List Lk} (hT : Told L) {c n : List UInt8} {y : Int} (h : par L c y = some n) : n ≠ [] := by
 unfold par at h
 rcases hl : lkOf L c y with _ | l
 ·rw [hl] at h; cases h
 ·rw [hl] at h
  injection h with h
  rw [← h]
  exact hT l (lkOf_some hl).1
theorem WayAt.next {L : List Lk} (hT : Told L) {x c : List UInt8} {y : Int} {ws : List (List UInt8)} (h : WayAt L x y ws c) (hc : c ≠ []) (hn : c ∉ ws) : WayAt L x y (ws ++ [c]) (parT L c y) := by
 rcases h with ⟨e, _⟩ | ⟨_, e, _⟩ | ⟨_, _, f, hw, hi⟩
 ·exact absurd e hc
 ·exact absurd e hn
 ·unfold parT
  rcases hp : par L c y with _ | n
  ·rw [way_none (p := fun z => par L z y) hp] at hw
   exact .inl ⟨rfl, hw.symm⟩
  ·have hne := par_told hT hp
   have hf := (hi.pos par_in (show (fun z => par L z y) c = some n from hp)).1
   by_cases hm : n ∈ ws ++ [c]
   ·rw [way_hit hf (show (fun z => par L z y) c = some n from hp) hm] at hw
    exact .inr (.inl ⟨hne, hm, hw.symm⟩)
   ·obtain ⟨f, rfl⟩ : ∃ k, f = k + 1 := ⟨f - 1, by omega⟩
    rw [way_on (show (fun z => par L z y) c = some n from hp) hm] at hw
    exact .inr (.inr ⟨hne, hm, f, hw, hi.step par_in hp hm⟩)
theorem WayAt.len {L : List Lk} {x c : List UInt8} {y : Int} {ws : List (List UInt8)} (h : WayAt L x y ws c) (hc : c ≠ []) (hn : c ∉ ws) : ws.length ≤ L.length := by
 rcases h with ⟨e, _⟩ | ⟨_, e, _⟩ | ⟨_, _, f, _, hi⟩
 ·exact absurd e hc
 ·exact absurd e hn
 ·have := hi.len
  rw [List.length_append, List.length_map] at this
  simp at this
  omega
theorem WayAt.end_ {L : List Lk} {x : List UInt8} {y : Int} {ws : List (List UInt8)} (h : WayAt L x y ws []) : wayU L x y = (ws, false) := by
 rcases h with ⟨_, e⟩ | ⟨e, _⟩ | ⟨e, _⟩
 ·exact e
 ·exact absurd rfl e
 ·exact absurd rfl e
theorem WayAt.back {L : List Lk} {x c : List UInt8} {y : Int} {ws : List (List UInt8)} (h : WayAt L x y ws c) (hc : c ≠ []) (hm : c ∈ ws) : wayU L x y = (ws, true) := by
 rcases h with ⟨e, _⟩ | ⟨_, _, e⟩ | ⟨_, e, _⟩
 ·exact absurd e hc
 ·exact e
 ·exact absurd hm e
def WayRet (L : List Lk) (x : List UInt8) (y : Int) (base : Nat) (e : Ending) (w' : World) : Prop :=
 ((wayU L x y).2 = true ∧ e = .returned (.tuple #[.slice none 0 0, .bool false])) ∨ ((wayU L x y).2 = false ∧ ∃ v, e = .returned (.tuple #[v, .bool true]) ∧ OwS w' base v (wayU L x y).1)
set_option maxRecDepth 20000 in
set_option maxHeartbeats 12800000 in
theorem s_l12Way (A : Option Addr) (n c : Nat) (L : List Lk) (x : List UInt8) (y : Int) (w : World) (h : SlAt w 4 encK A L) (hn : n = L.length) (hl : n ≤ 1048576) (hT : Told L) (hx : x ≠ []) :
  Calls Tryz.prog 50 #[.slice A n c, .string (tx x), .int .i64 y] w fun e w' => WayRet L x y w.heap.size e w' ∧ Ext w w' := by
 have HN := hI hn
 have HT := hI hT
 have HS := hI h
 have HV0 := hI (World.ownsRow_made (base := w.heap.size) (e := 9) (size := 1) w #[] 0 (Nat.le_refl _) (Nat.zero_le _) rfl : OwS _ w.heap.size _ [])
 have HW0 := hI (WayAt.start (L := L) (y := y) hx)
 clear hn hT h hx
 go_enter Tryz.func50, Tryz.ntmps50
 go_wp2
 go_loopw [1, 8] (fun s v wr => ∃ ws d, s = .string (tx d) ∧ Hid (WayAt L x y ws d) ∧ Hid (OwS wr w.heap.size v ws) ∧ Ext w wr) (fun _ v _ => n + 2 - slLn v)
 case atStart => exact ⟨[], x, rfl, HW0, HV0, xA xR⟩
 case round =>
  obtain ⟨ws, d, rfl, HW, HV, hxr⟩ := hrel
  obtain ⟨w5, rfl⟩ : ∃ x, x = wr := ⟨wr, rfl⟩
  have htd := tx_toL d
  have hsr := hxr.size
  obtain ⟨A', c', rfl, hS, hcc, hcm, hrow⟩ := HV.out.sl len_encS
  have HSW := hI hS
  by_cases hd : d = []
  ·have HR := hI (WayAt.end_ (hd ▸ HW.out))
   have hem : (tx d).toList.isEmpty = true := by rw [htd, hd]; rfl
   generalize tx d = sd at *
   clear hd htd hS hrow
   go_wp2
   go_ret2
   exact ⟨.inr ⟨by rw [HR.out], _, rfl, by rw [HR.out]; exact HV.out⟩, hxr⟩
  ·have hem : (tx d).toList.isEmpty = false := by rw [htd]; cases d with | nil => exact absurd rfl hd | cons a t => rfl
   have hwl := HV.out.1
   have HC := hI (fun W (hW : SlAt W 1 encS A' ws) hlim => s_l03Find A' ws.length c' ws d W hW rfl hlim)
   by_cases hm : d ∈ ws
   ·have HR := hI (HW.out.back hd hm)
    obtain ⟨r, hr⟩ : ∃ r, r = fdI ws d := ⟨_, rfl⟩
    rw [← hr] at HC
    have hr0 : 0 ≤ r := by rw [hr]; exact fdI_iff.2 hm
    have hdr : decide (0 ≤ r) = true := decide_eq_true hr0
    have hwz : ws.length ≤ 2097152 := by
     obtain ⟨_, _, hle⟩ := wayU_ne L x y
     rw [HR.out] at hle
     have := HN.out
     simp only at hle
     omega
    have HWZ := hI hwz
    generalize tx d = sd at *
    clear hd htd hS hrow hm hr hwl
    (go_wp2_with fail; refine (HC.out _ (HSW.out.ext xR) HWZ.out).mono ?_; rintro e w' ⟨rfl, rfl⟩)
    go_wp2
    go_ret2
    exact ⟨.inl ⟨by rw [HR.out], rfl⟩, hxr⟩
   ·have hlen := HW.out.len hd hm
    have hlen2 : ws.length ≤ n := by rw [HN.out]; exact hlen
    have HLE := hI hlen2
    have HW2 := hI (HW.out.next HT.out hd hm)
    obtain ⟨r, hr⟩ : ∃ r, r = fdI ws d := ⟨_, rfl⟩
    rw [← hr] at HC
    have hr0 : r < 0 := by rw [hr]; exact Int.lt_of_not_ge fun e => hm (fdI_iff.1 e)
    have hdr : decide (0 ≤ r) = false := decide_eq_false (by omega)
    have HP := hI (fun W hW => s_l12Parent A n c L d y W hW HN.out hl)
    have HBL := hI (fun (W : World) (g : Nat) (hB : Blk W g 9 #[.string (tx d)]) => blk_s1 hB)
    clear hd htd hS hrow hm hr hwl hlen
    (go_wp2_with fail; refine (HC.out _ (HSW.out.ext xR) (Nat.le_trans HLE.out (Nat.le_trans hl (by decide)))).mono ?_; rintro e w' ⟨rfl, rfl⟩)
    go_wp2_with (at_builtin; refine wpList_append_sl elS len_encS one_encS rfl _ _ rfl rfl (HV.out.ext (xA xR)) (xs := [d]) rfl (blk_s1 (bN (by omega))) (by have := HLE.out; simp; unfold maxLen; omega) (by have := HLE.out; simp; omega) (by first | omega | (simp; omega)) ?_)
    intro v' w6 hown hgrow _
    have HV2 := hI hown
    have hsl : slLn v' = ws.length + 1 := by
     obtain ⟨A2, c2, e, _⟩ := hown.sl len_encS
     rw [e]; simp [slLn]
    have HSL := hI hsl
    clear hsl
    have hx5 : Ext w w6 := by
     refine Ext.grown ?_ hgrow (fun q hq => (HV.out.row q hq).1)
     exact xA hxr
    clear hown hgrow
    go_wp2_with fail
    refine (HP.out _ (HS.out.ext hx5)).mono ?_
    rintro e w7 ⟨rfl, hx7⟩
    go_wp2
    go_roundw
    case rel => exact ⟨ws ++ [d], parT L d y, rfl, HW2, hI (HV2.out.ext hx7), xT hx5 hx7⟩
    case measure => simp only [HSL.out]; simp only [slLn]; omega
def liB (L : List Lk) (q j : Nat) : Bool := (L.getD q lkD).1 == (L.getD j lkD).1 && meetB (L.getD q lkD).2.2.1 (L.getD q lkD).2.2.2 (L.getD j lkD).2.2.1 (L.getD j lkD).2.2.2
def okK (L : List Lk) (j : Nat) : Prop := lkB (L.getD j lkD) = true ∧ ∀ q, q < j → liB L q j = false
def LkP (L : List Lk) : Prop := (∀ j, j < L.length → okK L j) ∧ L.length ≤ 20
def LksP (L : List Lk) : Prop := LkP L ∧ ∀ i, i < L.length → ∀ k, k < L.length → (wayU L (L.getD k lkD).1 (L.getD i lkD).2.2.1).2 = false
open Classical in
noncomputable def lksB (L : List Lk) : Bool := decide (LksP L)
open Classical in
theorem lksB_iff {L : List Lk} : lksB L = true ↔ LksP L := by unfold lksB; exact decide_eq_true_iff
open Classical in
theorem lksB_no {L : List Lk} (h : ¬ LksP L) : lksB L = false := by unfold lksB; exact decide_eq_false h
theorem LkP.alone {L : List Lk} (h : LkP L) : AloneL L := fun i j hj hi => (h.1 i hi).2 j hj
theorem LksP.flat {L : List Lk} (h : LksP L) : FlatL L := fun l hl m hm => by
 obtain ⟨i, hi, rfl⟩ := List.mem_iff_getElem.1 hl
 obtain ⟨k, hk, rfl⟩ := List.mem_iff_getElem.1 hm
 have := h.2 i hi k hk
 simpa [List.getD, hi, hk] using this
theorem LksP.way {L : List Lk} (h : LksP L) (c : List UInt8) (y : Int) : (wayU L c y).2 = false := flat_any h.1.alone h.flat c y
theorem smL_ne {s : List UInt8} {hi : Int} (h : smL s 1 hi = true) : s ≠ [] := by
 intro e
 rw [e] at h
 simp [smL, inB] at h
theorem LkP.told {L : List Lk} (h : ∀ j, j < L.length → okK L j) : Told L := fun l hl => by
 obtain ⟨i, hi, rfl⟩ := List.mem_iff_getElem.1 hl
 have := (h i hi).1
 simp only [List.getD, List.getElem?_eq_getElem hi, Option.getD_some, lkB, Bool.and_eq_true] at this
 exact smL_ne this.1.1.2
theorem lkB_child {l : Lk} (h : lkB l = true) : l.1 ≠ [] := by
 simp only [lkB, Bool.and_eq_true] at h
 exact smL_ne h.1.1.1
set_option maxRecDepth 20000 in
set_option maxHeartbeats 12800000 in
theorem s_AreLinks (A : Option Addr) (n c : Nat) (L : List Lk) (w : World) (h : SlAt w 4 encK A L) (hn : n = L.length) (hl : L.length ≤ 1048576) (hg : Links L) :
  Calls Tryz.prog 84 #[.slice A n c] w fun e w' => e = .returned (.bool (lksB L)) ∧ Ext w w' := by
 have HN := hI hn
 have hn2 : n ≤ 1048576 := by omega
 clear hn
 go_enter Tryz.func84, Tryz.ntmps84
 go_wp2
 go_loopw [3] (fun i wr => ∃ k : Nat, k ≤ n ∧ i = .int .i64 k ∧ Hid (∀ j, j < k → okK L j) ∧ Ext w wr) (fun i _ => n - (intOf i).toNat)
 case atStart => exact ⟨0, by omega, rfl, fun j hj => absurd hj (by omega), xR⟩
 case round =>
  obtain ⟨k, hk, rfl, HJ, hxr⟩ := hrel
  obtain ⟨w5, rfl⟩ : ∃ x, x = wr := ⟨wr, rfl⟩
  by_cases hlt : k < n
  ·have hkl : k < L.length := by have := HN.out; omega
   obtain ⟨b, off, rfl, hb, d0, d1, d2, d3⟩ := (h.ext hxr).lk hkl
   have HS := hI h
   have hgk := hg k
   obtain ⟨v, hve⟩ : ∃ v, v = L.getD k lkD := ⟨_, rfl⟩
   rw [← hve] at d0 d1 d2 d3 hgk
   have HV := hI hve
   obtain ⟨vc, vp, va, vb⟩ := v
   simp only at d0 d1 d2 d3
   have HC : Hid (∀ W, Calls Tryz.prog 133 #[.agg #[.string (tx vc), .string (tx vp), .int .i64 va, .int .i64 vb]] W fun e w' => e = .returned (.bool (lkB (L.getD k lkD))) ∧ Ext W w') := hI (fun W => by
    have := s_l12Is (tx vc) (tx vp) va vb W (by rw [tx_size]; exact hgk.1) (by rw [tx_size]; exact hgk.2)
    rw [smB_tx, smB_tx, tx_toL, tx_toL] at this
    rw [← HV.out]
    exact this)
   have HVC := hI (tx_toL vc)
   generalize tx vc = sc at *
   generalize tx vp = sp at *
   clear hve hgk h
   cases hq : lkB (L.getD k lkD) with
   | false =>
    have HNO : Hid (lksB L = false) := hI (lksB_no fun hM => by rw [(hM.1.1 k hkl).1] at hq; cases hq)
    rw [hq] at HC
    clear hq hkl
    (go_wp2_with fail; refine (HC.out _).mono ?_; rintro e w1 ⟨rfl, hx1⟩; obtain ⟨hc1, hf1, hs1⟩ := hx1.all; (try simp at hs1); have := (show b < w1.heap.size from by omega))
    go_wp2
    go_ret
    exact ⟨ret_bool HNO.out.symm, xT hxr hx1⟩
   | true =>
    rw [hq] at HC
    have HQ := hI hq
    have HKL := hI hkl
    clear hq hkl
    (go_wp2_with fail; refine (HC.out _).mono ?_; rintro e w1 ⟨rfl, hx1⟩; obtain ⟨hc1, hf1, hs1⟩ := hx1.all; (try simp at hs1); have := (show b < w1.heap.size from by omega))
    go_wp2
    go_loopw [4] (fun i wi => ∃ j : Nat, j ≤ k ∧ i = .int .i64 j ∧ Hid (∀ q, q < j → liB L q k = false) ∧ Ext w5 wi) (fun i _ => k - (intOf i).toNat)
    case atStart => exact ⟨0, by omega, rfl, fun q hq => absurd hq (by omega), hx1⟩
    case round =>
     obtain ⟨j, hj, rfl, HO, hxi⟩ := hrel
     have hxw := hxr.trans hxi
     have hbi : b < wr.heap.size := Nat.lt_of_lt_of_le hb hxi.size
     by_cases hjk : j < k
     ·have hjl : j < L.length := by have := HKL.out; omega
      obtain ⟨e0, e1, e2, e3⟩ := (HS.out.ext hxw).lk' hjl
      have f0 := (hxi.cell _ _ hb).trans d0
      have f2 := (hxi.cell _ _ hb).trans d2
      have f3 := (hxi.cell _ _ hb).trans d3
      obtain ⟨u, hue⟩ : ∃ u, u = L.getD j lkD := ⟨_, rfl⟩
      rw [← hue] at e0 e1 e2 e3
      have HU := hI hue
      obtain ⟨uc, up, ua, ub⟩ := u
      simp only at e0 e1 e2 e3
      have htu := tx_toL uc
      have HCL : Hid (liB L j k = ((tx uc).toList == sc.toList && meetB ua ub va vb)) := hI (by unfold liB; rw [← HV.out, ← HU.out, htu, HVC.out])
      have HNO : Hid (liB L j k = true → lksB L = false) := hI (fun e => lksB_no fun hM => by rw [(hM.1.1 k HKL.out).2 j hjk] at e; cases e)
      generalize tx uc = su at *
      generalize tx up = sv at *
      clear hue htu d0 d1 d2 d3 hb
      have HM := hI (fun W => s_l02Meet ua ub va vb W)
      cases hA : (su.toList == sc.toList) with
      | false =>
       have HO2 := hI (upTo1 HO.out (show liB L j k = false by rw [HCL.out, hA]; rfl))
       go_wp2
       (refine wp_region_ext (by kernel_rfl) (by kernel_rfl) ?_; (repeat (go_big_quiet_step (fail))); refine wpQuiet_nil ?_; intro wq hxwq; obtain ⟨hcwq, hfwq, hswq⟩ := hxwq.all; (try simp at hswq))
       go_wp2
       go_roundw
       case rel => exact ⟨j + 1, by omega, by go_num, HO2, xT hxi hxwq⟩
       case measure => simp [intOf]; omega
      | true =>
       cases hD : meetB ua ub va vb with
       | false =>
        have HO2 := hI (upTo1 HO.out (show liB L j k = false by rw [HCL.out, hA, hD]; rfl))
        rw [hD] at HM
        clear hD
        go_wp2
        (refine wp_region_ext (by kernel_rfl) (by kernel_rfl) ?_; (repeat (go_big_quiet_step ((go_at_call 134; exact Calls_ext (HM.out _))))); refine wpQuiet_nil ?_; intro wq hxwq; obtain ⟨hcwq, hfwq, hswq⟩ := hxwq.all; (try simp at hswq))
        go_wp2
        go_roundw
        case rel => exact ⟨j + 1, by omega, by go_num, HO2, xT hxi hxwq⟩
        case measure => simp [intOf]; omega
       | true =>
        have HNO2 := hI (HNO.out (by rw [HCL.out, hA, hD]; rfl))
        rw [hD] at HM
        clear hD
        go_wp2
        (refine wp_region_ext (by kernel_rfl) (by kernel_rfl) ?_; (repeat (go_big_quiet_step ((go_at_call 134; exact Calls_ext (HM.out _))))); refine wpQuiet_nil ?_; intro wq hxwq; obtain ⟨hcwq, hfwq, hswq⟩ := hxwq.all; (try simp at hswq))
        go_wp2
        go_ret
        exact ⟨ret_bool HNO2.out.symm, hxr.trans (xT hxi hxwq)⟩
     ·obtain rfl : j = k := by omega
      have HJ2 := hI (upTo1 HJ.out (show okK L j from ⟨HQ.out, HO.out⟩))
      clear d0 d1 d2 d3
      go_wp2
      go_roundw
      case rel => exact ⟨j + 1, by omega, by go_num, HJ2, hxw⟩
      case measure => simp [intOf]; omega
  ·obtain rfl : k = n := by omega
   by_cases h20 : k ≤ 20
   ·have hgt : decide ((20 : Int) < (k : Int)) = false := decide_eq_false (by omega)
    have HP : Hid (LkP L) := hI ⟨fun j hj => HJ.out j (by have := HN.out; omega), by have := HN.out; omega⟩
    have HT := hI (LkP.told HP.out.1)
    have HS := hI h
    clear h hg
    go_wp2
    go_loopw [5] (fun i wr => ∃ a : Nat, a ≤ k ∧ i = .int .i64 a ∧ Hid (∀ q, q < a → ∀ m, m < k → (wayU L (L.getD m lkD).1 (L.getD q lkD).2.2.1).2 = false) ∧ Ext w wr) (fun i _ => k - (intOf i).toNat)
    case atStart => exact ⟨0, by omega, rfl, fun j hj => absurd hj (by omega), hxr⟩
    case round =>
     obtain ⟨a, ha, rfl, HA, hxa⟩ := hrel
     obtain ⟨w6, rfl⟩ : ∃ x, x = wr := ⟨wr, rfl⟩
     by_cases hak : a < k
     ·have hal : a < L.length := by have := HN.out; omega
      obtain ⟨b, off, rfl, hb, d0, d1, d2, d3⟩ := (HS.out.ext hxa).lk hal
      clear d0 d1 d3
      obtain ⟨ya, hya⟩ : ∃ ya, ya = (L.getD a lkD).2.2.1 := ⟨_, rfl⟩
      rw [← hya] at d2
      have HYA := hI hya
      clear hya
      go_wp2
      go_loopw [6] (fun i wi => ∃ j : Nat, j ≤ k ∧ i = .int .i64 j ∧ Hid (∀ m, m < j → (wayU L (L.getD m lkD).1 ya).2 = false) ∧ Ext w6 wi) (fun i _ => k - (intOf i).toNat)
      case atStart => exact ⟨0, by omega, rfl, fun q hq => absurd hq (by omega), xR⟩
      case round =>
       obtain ⟨j, hj, rfl, HO, hxi⟩ := hrel
       have hxw := hxa.trans hxi
       have hbi : b < wr.heap.size := Nat.lt_of_lt_of_le hb hxi.size
       by_cases hjk : j < k
       ·have hjl : j < L.length := by have := HN.out; omega
        obtain ⟨e0, _, _, _⟩ := (HS.out.ext hxw).lk' hjl
        have f2 := (hxi.cell _ _ hb).trans d2
        have hne := lkB_child (HP.out.1 j hjl).1
        obtain ⟨uc, huc⟩ : ∃ uc, uc = (L.getD j lkD).1 := ⟨_, rfl⟩
        rw [← huc] at e0 hne
        have HUC := hI huc
        have HW := hI (fun W hW => s_l12Way (some ⟨b, off, none⟩) k c L uc ya W hW HN.out hn2 HT.out hne)
        clear d2 hb huc hne
        cases hw : (wayU L uc ya).2 with
        | true =>
         have HW2 : Hid (∀ W, SlAt W 4 encK (some ⟨b, off, none⟩) L → Calls Tryz.prog 50 #[.slice (some ⟨b, off, none⟩) k c, .string (tx uc), .int .i64 ya] W fun e w' => e = .returned (.tuple #[.slice none 0 0, .bool false]) ∧ Ext W w') := hI (fun W hW => (HW.out W hW).mono (by
          rintro e w' ⟨hr, hx⟩
          rcases hr with ⟨_, e⟩ | ⟨e, _⟩
          ·exact ⟨e, hx⟩
          ·rw [hw] at e; cases e))
         have HNO : Hid (lksB L = false) := hI (lksB_no fun hM => by
          have := hM.2 a hal j hjl
          rw [← HUC.out, ← HYA.out, hw] at this
          cases this)
         clear hw HW hal hjl
         generalize tx uc = su at *
         go_wp2
         go_region_held3 (fun w' => w'.cell? ⟨b, off + j * 4, none⟩ = some (.string su) ∧ w'.cell? ⟨b, off + a * 4 + 2, none⟩ = some (.int .i64 ya)) (first | go_keep | exact ⟨(hx7.cell b (off + j * 4) hbi).trans e0, (hx7.cell b (off + a * 4 + 2) hbi).trans f2⟩) ((go_at_call 50; refine (HW2.out _ (HS.out.ext (xD hxw))).mono ?_; rintro e w7 ⟨rfl, hx7⟩; obtain ⟨hc7, hf7, hs7⟩ := hx7.all; (try simp at hs7)))
         go_wp2
         go_ret
         exact ⟨ret_bool HNO.out.symm, xT (xD hxw) hx7⟩
        | false =>
         have HW2 : Hid (∀ W, SlAt W 4 encK (some ⟨b, off, none⟩) L → Calls Tryz.prog 50 #[.slice (some ⟨b, off, none⟩) k c, .string (tx uc), .int .i64 ya] W fun e w' => (∃ v, e = .returned (.tuple #[v, .bool true])) ∧ Ext W w') := hI (fun W hW => (HW.out W hW).mono (by
          rintro e w' ⟨hr, hx⟩
          rcases hr with ⟨e, _⟩ | ⟨_, v, e, _⟩
          ·rw [hw] at e; cases e
          ·exact ⟨⟨v, e⟩, hx⟩))
         have HO2 := hI (upTo1 HO.out (show (wayU L (L.getD j lkD).1 ya).2 = false by rw [← HUC.out]; exact hw))
         clear hw HW hal hjl
         generalize tx uc = su at *
         go_wp2
         go_region_held3 (fun w' => w'.cell? ⟨b, off + j * 4, none⟩ = some (.string su) ∧ w'.cell? ⟨b, off + a * 4 + 2, none⟩ = some (.int .i64 ya)) (first | go_keep | exact ⟨(hx7.cell b (off + j * 4) hbi).trans e0, (hx7.cell b (off + a * 4 + 2) hbi).trans f2⟩) ((go_at_call 50; refine (HW2.out _ (HS.out.ext (xD hxw))).mono ?_; rintro e w7 ⟨⟨v7, rfl⟩, hx7⟩; obtain ⟨hc7, hf7, hs7⟩ := hx7.all; (try simp at hs7)))
         go_wp2
         go_roundw
         case rel => exact ⟨j + 1, by omega, by go_num, HO2, xT (xD hxi) hx7⟩
         case measure => simp [intOf]; omega
       ·obtain rfl : j = k := by omega
        have HA2 : Hid (∀ q, q < a + 1 → ∀ m, m < j → (wayU L (L.getD m lkD).1 (L.getD q lkD).2.2.1).2 = false) := hI (upTo1 HA.out (by rw [← HYA.out]; exact HO.out))
        clear d2
        go_wp2
        go_roundw
        case rel => exact ⟨a + 1, by omega, by go_num, HA2, hxw⟩
        case measure => simp [intOf]; omega
     ·obtain rfl : a = k := by omega
      have HR : Hid (lksB L = true) := hI (lksB_iff.2 ⟨HP.out, fun i hi m hm => HA.out i (by have := HN.out; omega) m (by have := HN.out; omega)⟩)
      go_wp2
      go_ret
      exact ⟨ret_bool HR.out.symm, hxa⟩
   ·have hgt : decide ((20 : Int) < (k : Int)) = true := decide_eq_true (by omega)
    have HNO : Hid (lksB L = false) := hI (lksB_no fun hM => by have := hM.1.2; have := HN.out; omega)
    clear h20
    go_wp2
    go_ret
    exact ⟨ret_bool HNO.out.symm, hxr⟩
end Go.Proofs.YtlnliajnipniaaaGreatDoor
namespace Go.Proofs.YtlnliajnipniaaaGreatDoor
def UpAt (L : List Lk) (x : List UInt8) (y : Int) (ws : List (List UInt8)) : Prop :=
 ∃ f c, ws.getLast? = some c ∧ way (fun z => par L z y) f ws c = wayU L x y ∧ WayIn L y f ws c
section
variable {L : List Lk} {x c n : List UInt8} {y : Int} {ws : List (List UInt8)}
theorem UpAt.start : UpAt L x y [x] := ⟨L.length + 1, x, rfl, rfl, WayIn.start L x y⟩
theorem UpAt.none_ (h : UpAt L x y ws) (hl : ws.getLast? = some c) (hp : par L c y = none) : (wayU L x y).1 = ws := by
 obtain ⟨f, c', h1, h2, h3⟩ := h
 rw [hl] at h1
 injection h1 with h1
 subst h1
 rw [way_none (p := fun z => par L z y) hp] at h2
 rw [← h2]
theorem UpAt.hit (h : UpAt L x y ws) (hl : ws.getLast? = some c) (hp : par L c y = some n) (hm : n ∈ ws) : (wayU L x y).1 = ws := by
 obtain ⟨f, c', h1, h2, h3⟩ := h
 rw [hl] at h1
 injection h1 with h1
 subst h1
 have hf := (h3.pos par_in (show (fun z => par L z y) c = some n from hp)).1
 rw [way_hit hf (show (fun z => par L z y) c = some n from hp) hm] at h2
 rw [← h2]
theorem UpAt.on (h : UpAt L x y ws) (hl : ws.getLast? = some c) (hp : par L c y = some n) (hm : n ∉ ws) : UpAt L x y (ws ++ [n]) ∧ ws.length ≤ L.length := by
 obtain ⟨f, c', h1, h2, h3⟩ := h
 rw [hl] at h1
 injection h1 with h1
 subst h1
 have hpos := h3.pos par_in (show (fun z => par L z y) c = some n from hp)
 rw [List.length_map] at hpos
 obtain ⟨f, rfl⟩ : ∃ k, f = k + 1 := ⟨f - 1, by omega⟩
 rw [way_on (show (fun z => par L z y) c = some n from hp) hm] at h2
 exact ⟨⟨f, n, by simp, h2, h3.step par_in hp hm⟩, hpos.2⟩
theorem UpAt.ne (h : UpAt L x y ws) : 0 < ws.length ∧ ws.length ≤ L.length + 1 ∧ ∃ c, ws.getLast? = some c ∧ ws.getD (ws.length - 1) [] = c := by
 obtain ⟨f, c, h1, h2, h3⟩ := h
 have h4 := h3.len
 rw [List.length_map] at h4
 have h5 : 0 < ws.length := by
  rcases ws with _ | ⟨a, t⟩
  ·simp at h1
  ·simp
 refine ⟨h5, h4, c, h1, ?_⟩
 rw [List.getLast?_eq_getElem?] at h1
 rw [List.getD_eq_getElem?_getD, h1]; rfl
end
theorem parT_of {L : List Lk} {c n : List UInt8} {y : Int} (h : par L c y = some n) : parT L c y = n := by unfold parT; rw [h]; rfl
theorem wayU_last (L : List Lk) (x : List UInt8) (y : Int) : ∃ c, (wayU L x y).1.getD ((wayU L x y).1.length - 1) [] = c ∧ 0 < (wayU L x y).1.length ∧ (wayU L x y).2 = (par L c y).isSome := by
 obtain ⟨c, h1, _⟩ := wayU_ne L x y
 have h2 := wayU_circ L x y
 rw [h1] at h2
 have h3 : 0 < (wayU L x y).1.length := by
  rcases he : (wayU L x y).1 with _ | ⟨a, t⟩
  ·rw [he] at h1; simp at h1
  ·simp
 refine ⟨c, ?_, h3, h2⟩
 rw [List.getLast?_eq_getElem?] at h1
 rw [List.getD_eq_getElem?_getD, h1]; rfl
theorem lksB_bad {L : List Lk} {j : Nat} (hj : j < L.length) (h : lkB (L.getD j lkD) = false) : lksB L = false := lksB_no fun hM => by rw [(hM.1.1 j hj).1] at h; cases h
theorem lksB_two {L : List Lk} {j : Nat} (hj : j < L.length) (h : ((L.take j).any fun m => m.1 == (L.getD j lkD).1 && meetB m.2.2.1 m.2.2.2 (L.getD j lkD).2.2.1 (L.getD j lkD).2.2.2) = true) : lksB L = false := lksB_no fun hM => by
 rw [List.any_eq_true] at h
 obtain ⟨m, hm, hq⟩ := h
 obtain ⟨q, hq2, rfl⟩ := List.mem_iff_getElem.1 hm
 rw [List.length_take] at hq2
 have := (hM.1.1 j hj).2 q (by omega)
 have hql : q < L.length := by omega
 simp only [List.getElem_take] at hq
 simp only [liB, List.getD, List.getElem?_eq_getElem hql, Option.getD_some] at this
 simp only [List.getD] at hq
 rw [hq] at this
 cases this
theorem okK_of {L : List Lk} {j : Nat} (hj : j < L.length) (h1 : lkB (L.getD j lkD) = true) (h : ((L.take j).any fun m => m.1 == (L.getD j lkD).1 && meetB m.2.2.1 m.2.2.2 (L.getD j lkD).2.2.1 (L.getD j lkD).2.2.2) = false) : okK L j := ⟨h1, fun q hq => by
 rw [List.any_eq_false] at h
 have hql : q < L.length := by omega
 have := h L[q] (List.mem_iff_getElem.2 ⟨q, by simp; omega, by simp⟩)
 unfold liB
 rw [show L.getD q lkD = L[q] by simp [List.getD, hql]]
 simpa using this⟩
theorem lksB_cir {L : List Lk} {i k : Nat} (hi : i < L.length) (hk : k < L.length) (h : (wayU L (L.getD k lkD).1 (L.getD i lkD).2.2.1).2 = true) : lksB L = false := lksB_no fun hM => by rw [hM.2 i hi k hk] at h; cases h
theorem lksB_yes {L : List Lk} (h1 : ∀ j, j < L.length → okK L j) (h2 : ∀ i, i < L.length → ∀ k, k < L.length → (lkHas (L.getD k lkD) (L.getD i lkD).2.2.1 && (wayU L (L.getD k lkD).1 (L.getD i lkD).2.2.1).2) = false) (h3 : L.length ≤ 20) : lksB L = true :=
 lksB_iff.2 ⟨⟨h1, h3⟩, fun i hi k hk => by
  cases hb : (wayU L (L.getD k lkD).1 (L.getD i lkD).2.2.1).2 with
  | false => rfl
  | true =>
   obtain ⟨l, hl, hc, hy⟩ := wayU_has hb
   obtain ⟨q, hq, rfl⟩ := List.mem_iff_getElem.1 hl
   have := h2 i hi q hq
   rw [show L.getD q lkD = L[q] by simp [List.getD, hq], hc, hy, hb] at this
   cases this⟩
theorem lksB_long {L : List Lk} (h : 20 < L.length) : lksB L = false := lksB_no fun hM => by have := hM.1.2; omega
noncomputable def lkC (L : List Lk) (cs : List (List UInt8)) (y : Int) : Int := if lksB L = true ∧ (cs.all fun x => smL x 1 16) = true then (if inB y (-3000) 3000 = true then 0 else 2) else 1
theorem lkC_links {L : List Lk} {cs : List (List UInt8)} {y : Int} (h : lksB L = false) : lkC L cs y = 1 := by simp [lkC, h]
theorem lkC_words {L : List Lk} {cs : List (List UInt8)} {y : Int} (h : (cs.all fun x => smL x 1 16) = false) : lkC L cs y = 1 := by simp [lkC, h]
theorem lkC_year {L : List Lk} {cs : List (List UInt8)} {y : Int} (h1 : lksB L = true) (h2 : (cs.all fun x => smL x 1 16) = true) (h : inB y (-3000) 3000 = false) : lkC L cs y = 2 := by simp [lkC, h1, h2, h]
theorem lkC_ok {L : List Lk} {cs : List (List UInt8)} {y : Int} (h1 : lksB L = true) (h2 : (cs.all fun x => smL x 1 16) = true) (h : inB y (-3000) 3000 = true) : lkC L cs y = 0 := by simp [lkC, h1, h2, h]
theorem lkC_zero {L : List Lk} {cs : List (List UInt8)} {y : Int} (h : lkC L cs y = 0) : lksB L = true ∧ (cs.all fun x => smL x 1 16) = true ∧ inB y (-3000) 3000 = true := by
 cases h1 : lksB L with
 | false => rw [lkC_links h1] at h; cases h
 | true =>
  cases h2 : (cs.all fun x => smL x 1 16) with
  | false => rw [lkC_words h2] at h; cases h
  | true =>
   refine ⟨rfl, rfl, ?_⟩
   cases h3 : inB y (-3000) 3000 with
   | false => rw [lkC_year h1 h2 h3] at h; cases h
   | true => rfl
def plaA (L : List Lk) : List Tx := L.foldl (fun o l => insA (insA o l.1) l.2.1) []
theorem plaF_mem : ∀ {L : List Lk} {o : List Tx} {x : Tx}, x ∈ L.foldl (fun o l => insA (insA o l.1) l.2.1) o ↔ x ∈ o ∨ ∃ l ∈ L, x = l.1 ∨ x = l.2.1
 | [], o, x => by simp
 | m :: L, o, x => by
  rw [List.foldl_cons, plaF_mem, insA_mem, insA_mem]
  constructor
  ·rintro ((e | e | e) | ⟨l, hl, e⟩)
   ·exact .inr ⟨m, List.mem_cons_self .., .inr e⟩
   ·exact .inr ⟨m, List.mem_cons_self .., .inl e⟩
   ·exact .inl e
   ·exact .inr ⟨l, List.mem_cons_of_mem _ hl, e⟩
  ·rintro (e | ⟨l, hl, e⟩)
   ·exact .inl (.inr (.inr e))
   ·rcases List.mem_cons.1 hl with rfl | hl
    ·rcases e with e | e
     ·exact .inl (.inr (.inl e))
     ·exact .inl (.inl e)
    ·exact .inr ⟨l, hl, e⟩
theorem plaA_mem {L : List Lk} {x : Tx} : x ∈ plaA L ↔ ∃ l ∈ L, x = l.1 ∨ x = l.2.1 := by
 unfold plaA
 rw [plaF_mem]
 simp
def chiB (L : List Lk) (c : Tx) (y : Int) (x : Tx) : Bool := parT L x y == c
end Go.Proofs.YtlnliajnipniaaaGreatDoor
