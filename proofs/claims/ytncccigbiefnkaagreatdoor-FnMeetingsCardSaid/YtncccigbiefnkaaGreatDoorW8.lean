/- Where two ways up meet, as both tell it. Where two ways up meet, as the program tells it. Where two ways up meet, as the specification tells it. -/
import Derived.Test.YtncccigbiefnkaaGreatDoorW2
namespace Go.Proofs.YtncccigbiefnkaaGreatDoor
open Go.RowKit
attribute [local go_sem] ExtOf.cell ExtOf.frozen

/-- the first place of one way up that lies on another -/
def mtO (L : List Lk) (a b : List UInt8) (y : Int) : Option (List UInt8) := (wayU L a y).1.find? fun z => decide (z ∈ (wayU L b y).1)
noncomputable def mtC (L : List Lk) (a b : List UInt8) (y : Int) : Int := if lkC L [a, b] y = 0 then (if (mtO L a b y).isSome = true then 0 else 4) else lkC L [a, b] y
noncomputable def mtV (L : List Lk) (a b : List UInt8) (y : Int) : List UInt8 := if mtC L a b y = 0 then (mtO L a b y).getD [] else []
theorem lkC_pair (L : List Lk) (a b : List UInt8) (y : Int) : lkC L [a, b] y = if smL b 1 16 = true then lkC L [a] y else 1 := by
  by_cases h : smL b 1 16 = true
  · rw [if_pos h]; simp [lkC, h]
  · rw [if_neg h]; simp [lkC, h]
theorem mtC_bad {L : List Lk} {a b : List UInt8} {y : Int} (h : ¬ lkC L [a, b] y = 0) : mtC L a b y = lkC L [a, b] y ∧ mtV L a b y = [] := by
  have e : mtC L a b y = lkC L [a, b] y := by unfold mtC; rw [if_neg h]
  exact ⟨e, by unfold mtV; rw [e, if_neg h]⟩
theorem mtC_none {L : List Lk} {a b : List UInt8} {y : Int} (h : lkC L [a, b] y = 0) (hp : mtO L a b y = none) : mtC L a b y = 4 ∧ mtV L a b y = [] := by
  have e : mtC L a b y = 4 := by unfold mtC; rw [if_pos h, hp]; rfl
  exact ⟨e, by unfold mtV; rw [e, if_neg (by decide)]⟩
theorem mtC_some {L : List Lk} {a b z : List UInt8} {y : Int} (h : lkC L [a, b] y = 0) (hp : mtO L a b y = some z) : mtC L a b y = 0 ∧ mtV L a b y = z := by
  have e : mtC L a b y = 0 := by unfold mtC; rw [if_pos h, hp]; rfl
  exact ⟨e, by unfold mtV; rw [e, if_pos rfl, hp]; rfl⟩
end Go.Proofs.YtncccigbiefnkaaGreatDoor
namespace Go.Proofs.YtncccigbiefnkaaGreatDoor
open Go.RowKit
attribute [local go_sem] ExtOf.cell ExtOf.frozen

set_option maxRecDepth 20000 in
set_option maxHeartbeats 6400000 in
theorem i_MeetingIn (A : Option Addr) (n c : Nat) (L : List Lk) (a b : List UInt8) (y : Int) (w : World) (h : SlAt w 4 encK A L) (hn : n = L.length) (hl : L.length ≤ 1000000) (hcap : n ≤ c) (hg : Links L) (ha : a.length ≤ 1048576) (hb : b.length ≤ 1048576) :
    Calls Tryz.prog 12 #[.slice A n c, .string (tx a), .string (tx b), .int .i64 y] w fun e w' => e = .returned (.tuple #[.string (tx (mtV L a b y)), .int .i64 (mtC L a b y)]) ∧ Ext w w' := by
  have HC : Hid (∀ W g, Ext w W → Blk W g 9 #[.string (tx a), .string (tx b)] → Calls Tryz.prog 65 #[.slice A n c, .int .i64 y, .slice (some ⟨g, 0, none⟩) 2 2] W fun e w' => e = .returned (.int .i64 (lkC L [a, b] y)) ∧ Ext W w') := Lib.hid (fun W g hW hB => i_linkCode A _ n c 2 2 L [a, b] y W (h.ext hW) hn (by omega) hcap hg (blk_s2 hB) rfl (by omega) (fun k => by
    rcases k with _ | _ | k
    · exact ha
    · exact hb
    · simp [List.getD]))
  have HU := Lib.hid (fun x W hW => i_wayUp A n c L x y W hW hn (by omega))
  have HS := Lib.hid h
  by_cases hz : lkC L [a, b] y = 0
  · rw [hz] at HC
    have hwa := wayU_ne L a y
    have hwb := wayU_ne L b y
    obtain ⟨_, _, hla⟩ := hwa
    obtain ⟨_, _, hlb⟩ := hwb
    have HZ := Lib.hid hz
    have HUA := Lib.hid (HU.out a)
    have HUB := Lib.hid (HU.out b)
    have HF : Hid ((∀ k, k < (wayU L a y).1.length → (∀ j, j < k → (wayU L a y).1.getD j [] ∉ (wayU L b y).1) → (wayU L a y).1.getD k [] ∈ (wayU L b y).1 → mtO L a b y = some ((wayU L a y).1.getD k [])) ∧ ((∀ j, j < (wayU L a y).1.length → (wayU L a y).1.getD j [] ∉ (wayU L b y).1) → mtO L a b y = none)) := Lib.hid (by
      unfold mtO
      generalize (wayU L a y).1 = xs
      generalize (wayU L b y).1 = ys
      refine ⟨fun k hk hj hm => ?_, fun hj => ?_⟩
      · rw [List.find?_eq_some_iff_getElem]
        refine ⟨by simpa using hm, k, hk, by simp [List.getD, hk], fun j hjk => ?_⟩
        have := hj j hjk
        have hj2 : j < xs.length := by omega
        simpa [List.getD, hj2] using this
      · rw [List.find?_eq_none]
        intro x hx
        obtain ⟨j, hj2, rfl⟩ := List.mem_iff_getElem.1 hx
        have := hj j hj2
        simpa [List.getD, hj2] using this)
    have HV : Hid ((mtO L a b y = none → mtC L a b y = 4 ∧ mtV L a b y = []) ∧ ∀ z, mtO L a b y = some z → mtC L a b y = 0 ∧ mtV L a b y = z) := Lib.hid ⟨fun e => mtC_none hz e, fun z e => mtC_some hz e⟩
    generalize mtC L a b y = mc at *
    generalize mtV L a b y = mv at *
    generalize mtO L a b y = mo at *
    generalize (wayU L a y).1 = xs at *
    generalize (wayU L b y).1 = ys at *
    generalize tx a = sa at *
    generalize tx b = sb at *
    have hx5 : xs.length ≤ 1048577 := by omega
    have hy5 : ys.length ≤ 1048577 := by omega
    clear h hn hg ha hb hl HU hcap hz HZ hla hlb
    obtain ⟨nx, hnx⟩ : ∃ nx, nx = xs.length := ⟨_, rfl⟩
    obtain ⟨ny, hny⟩ : ∃ ny, ny = ys.length := ⟨_, rfl⟩
    rw [← hnx] at hx5
    rw [← hny] at hy5
    have HNX := Lib.hid hnx
    have HNY := Lib.hid hny
    clear hnx hny
    go_enter Tryz.func12, Tryz.ntmps12
    go_wp2_with fail
    refine (HC.out _ _ (by (repeat (first | with_reducible exact Ext.refl _ | with_reducible assumption | ((with_reducible apply Src.ext); with_reducible assumption) | with_reducible refine Ext.alloc ?_ _ | with_reducible refine Ext.drew ?_ | with_reducible refine Ext.drewN ?_ _ | ((with_reducible refine Ext.setCell' ?_ ?_ _); solve | omega | simp | (simp; omega)) | (with_reducible refine Ext.trans ?_ (by with_reducible assumption))))) (by (repeat (first | with_reducible assumption | ((with_reducible apply Blk.new); solve | simp | rfl) | with_reducible apply Blk.drew | with_reducible apply Blk.drewN | ((with_reducible apply Blk.far'); solve | omega | simp | (simp; omega)) | with_reducible apply Blk.set_ | with_reducible apply Blk.alloc | ((with_reducible apply Blk.ext'); with_reducible assumption) | ((with_reducible apply Blk.but'); (with_reducible assumption); solve | omega | (simp; omega)))))).mono ?_
    rintro e w1 ⟨rfl, hx1⟩
    go_wp2_with fail
    refine (HUB.out _ (HS.out.ext (by (repeat (first | with_reducible exact Ext.refl _ | with_reducible assumption | ((with_reducible apply Src.ext); with_reducible assumption) | with_reducible refine Ext.alloc ?_ _ | with_reducible refine Ext.drew ?_ | with_reducible refine Ext.drewN ?_ _ | ((with_reducible refine Ext.setCell' ?_ ?_ _); solve | omega | simp | (simp; omega)) | (with_reducible refine Ext.trans ?_ (by with_reducible assumption))))))).mono ?_
    rintro e w2 ⟨v2, rfl, hO2, hx2⟩
    obtain ⟨A2, c2, rfl, hS2, -, -, -⟩ := hO2.sl len_encS
    rw [← HNY.out]
    have HS2 := Lib.hid hS2
    clear hO2 hS2
    go_wp2_with fail
    refine (HUA.out _ (HS.out.ext (by (repeat (first | with_reducible exact Ext.refl _ | with_reducible assumption | ((with_reducible apply Src.ext); with_reducible assumption) | with_reducible refine Ext.alloc ?_ _ | with_reducible refine Ext.drew ?_ | with_reducible refine Ext.drewN ?_ _ | ((with_reducible refine Ext.setCell' ?_ ?_ _); solve | omega | simp | (simp; omega)) | (with_reducible refine Ext.trans ?_ (by with_reducible assumption))))))).mono ?_
    rintro e w3 ⟨v3, rfl, hO3, hx3⟩
    obtain ⟨A3, c3, rfl, hS3, -, -, -⟩ := hO3.sl len_encS
    rw [← HNX.out]
    have HS3 := Lib.hid hS3
    clear hO3 hS3
    have HX3 : Hid (Ext w w3) := Lib.hid (by (repeat (first | with_reducible exact Ext.refl _ | with_reducible assumption | ((with_reducible apply Src.ext); with_reducible assumption) | with_reducible refine Ext.alloc ?_ _ | with_reducible refine Ext.drew ?_ | with_reducible refine Ext.drewN ?_ _ | ((with_reducible refine Ext.setCell' ?_ ?_ _); solve | omega | simp | (simp; omega)) | (with_reducible refine Ext.trans ?_ (by with_reducible assumption)))))
    clear hx1
    go_wp2
    go_loopw [32] (fun i wr => ∃ k : Nat, k ≤ nx ∧ i = .int .i64 k ∧ Hid (∀ j, j < k → xs.getD j [] ∉ ys) ∧ Ext w3 wr) (fun i _ => nx - (intOf i).toNat)
    case atStart => exact ⟨0, by omega, rfl, Lib.hid (fun j hj => absurd hj (by omega)), by (repeat (first | with_reducible exact Ext.refl _ | with_reducible assumption | ((with_reducible apply Src.ext); with_reducible assumption) | with_reducible refine Ext.alloc ?_ _ | with_reducible refine Ext.drew ?_ | with_reducible refine Ext.drewN ?_ _ | ((with_reducible refine Ext.setCell' ?_ ?_ _); solve | omega | simp | (simp; omega)) | (with_reducible refine Ext.trans ?_ (by with_reducible assumption))))⟩
    case round =>
      obtain ⟨k, hk, rfl, HJ, hxr⟩ := hrel
      obtain ⟨w5, rfl⟩ : ∃ x, x = wr := ⟨wr, rfl⟩
      by_cases hlt : k < nx
      · have hkx : k < xs.length := by rw [← HNX.out]; exact hlt
        obtain ⟨b9, off, rfl, hbl, d0⟩ := (HS3.out.ext hxr).st (k := k) hkx
        have HCO := Lib.hid (fun W hW => i_ContainsS A2 ny c2 ys (xs.getD k []) W hW HNY.out hy5)
        by_cases hm : xs.getD k [] ∈ ys
        · rw [decide_eq_true hm] at HCO
          have HR := Lib.hid (HV.out.2 _ (HF.out.1 k hkx HJ.out hm))
          generalize hz : xs.getD k [] = z at *
          have HR1 : Hid (mc = 0 ∧ tx mv = tx z) := Lib.hid ⟨HR.out.1, by rw [HR.out.2]⟩
          clear hz hm HR hkx
          generalize tx z = sz at *
          go_wp2_with fail
          refine (HCO.out _ (HS2.out.ext (hx3.trans (hxr.trans (by (repeat (first | with_reducible exact Ext.refl _ | with_reducible assumption | ((with_reducible apply Src.ext); with_reducible assumption) | with_reducible refine Ext.alloc ?_ _ | with_reducible refine Ext.drew ?_ | with_reducible refine Ext.drewN ?_ _ | ((with_reducible refine Ext.setCell' ?_ ?_ _); solve | omega | simp | (simp; omega)) | (with_reducible refine Ext.trans ?_ (by with_reducible assumption))))))))).mono ?_
          rintro e w7 ⟨rfl, hx7⟩
          go_wp2
          go_ret2
          exact ⟨by rw [HR1.out.1, HR1.out.2]; rfl, HX3.out.trans (by (repeat (first | with_reducible exact Ext.refl _ | with_reducible assumption | ((with_reducible apply Src.ext); with_reducible assumption) | with_reducible refine Ext.alloc ?_ _ | with_reducible refine Ext.drew ?_ | with_reducible refine Ext.drewN ?_ _ | ((with_reducible refine Ext.setCell' ?_ ?_ _); solve | omega | simp | (simp; omega)) | (with_reducible refine Ext.trans ?_ (by with_reducible assumption)))))⟩
        · rw [decide_eq_false hm] at HCO
          have HJ2 := Lib.hid (upTo_succ (P := fun j => xs.getD j [] ∉ ys) HJ.out hm)
          generalize hz : xs.getD k [] = z at *
          clear hz hm hkx
          generalize tx z = sz at *
          go_wp2_with fail
          refine (HCO.out _ (HS2.out.ext (hx3.trans (hxr.trans (by (repeat (first | with_reducible exact Ext.refl _ | with_reducible assumption | ((with_reducible apply Src.ext); with_reducible assumption) | with_reducible refine Ext.alloc ?_ _ | with_reducible refine Ext.drew ?_ | with_reducible refine Ext.drewN ?_ _ | ((with_reducible refine Ext.setCell' ?_ ?_ _); solve | omega | simp | (simp; omega)) | (with_reducible refine Ext.trans ?_ (by with_reducible assumption))))))))).mono ?_
          rintro e w7 ⟨rfl, hx7⟩
          go_wp2
          go_roundw
          case rel => exact ⟨k + 1, by omega, by go_num, HJ2, by (repeat (first | with_reducible exact Ext.refl _ | with_reducible assumption | ((with_reducible apply Src.ext); with_reducible assumption) | with_reducible refine Ext.alloc ?_ _ | with_reducible refine Ext.drew ?_ | with_reducible refine Ext.drewN ?_ _ | ((with_reducible refine Ext.setCell' ?_ ?_ _); solve | omega | simp | (simp; omega)) | (with_reducible refine Ext.trans ?_ (by with_reducible assumption))))⟩
          case measure => simp [intOf]; omega
      · obtain rfl : k = nx := by omega
        have HR := Lib.hid (HV.out.1 (HF.out.2 (by rw [← HNX.out]; exact HJ.out)))
        go_wp2
        go_ret2
        exact ⟨by rw [HR.out.1, HR.out.2]; rfl, HX3.out.trans (by (repeat (first | with_reducible exact Ext.refl _ | with_reducible assumption | ((with_reducible apply Src.ext); with_reducible assumption) | with_reducible refine Ext.alloc ?_ _ | with_reducible refine Ext.drew ?_ | with_reducible refine Ext.drewN ?_ _ | ((with_reducible refine Ext.setCell' ?_ ?_ _); solve | omega | simp | (simp; omega)) | (with_reducible refine Ext.trans ?_ (by with_reducible assumption)))))⟩
  · rw [(mtC_bad hz).1, (mtC_bad hz).2]
    generalize lkC L [a, b] y = cd at *
    have hcd : (cd != 0) = true := by simpa using hz
    generalize tx a = sa at *
    generalize tx b = sb at *
    clear h hn hg ha hb hl HU hcap
    go_enter Tryz.func12, Tryz.ntmps12
    go_wp2_with fail
    refine (HC.out _ _ (by (repeat (first | with_reducible exact Ext.refl _ | with_reducible assumption | ((with_reducible apply Src.ext); with_reducible assumption) | with_reducible refine Ext.alloc ?_ _ | with_reducible refine Ext.drew ?_ | with_reducible refine Ext.drewN ?_ _ | ((with_reducible refine Ext.setCell' ?_ ?_ _); solve | omega | simp | (simp; omega)) | (with_reducible refine Ext.trans ?_ (by with_reducible assumption))))) (by (repeat (first | with_reducible assumption | ((with_reducible apply Blk.new); solve | simp | rfl) | with_reducible apply Blk.drew | with_reducible apply Blk.drewN | ((with_reducible apply Blk.far'); solve | omega | simp | (simp; omega)) | with_reducible apply Blk.set_ | with_reducible apply Blk.alloc | ((with_reducible apply Blk.ext'); with_reducible assumption) | ((with_reducible apply Blk.but'); (with_reducible assumption); solve | omega | (simp; omega)))))).mono ?_
    rintro e w1 ⟨rfl, hx1⟩
    go_wp2
    go_ret2
    exact ⟨rfl, by (repeat (first | with_reducible exact Ext.refl _ | with_reducible assumption | ((with_reducible apply Src.ext); with_reducible assumption) | with_reducible refine Ext.alloc ?_ _ | with_reducible refine Ext.drew ?_ | with_reducible refine Ext.drewN ?_ _ | ((with_reducible refine Ext.setCell' ?_ ?_ _); solve | omega | simp | (simp; omega)) | (with_reducible refine Ext.trans ?_ (by with_reducible assumption))))⟩
end Go.Proofs.YtncccigbiefnkaaGreatDoor
namespace Go.Proofs.YtncccigbiefnkaaGreatDoor
open Go.RowKit
attribute [local go_sem] ExtOf.cell ExtOf.frozen

set_option maxRecDepth 20000 in
set_option maxHeartbeats 6400000 in
theorem s_MeetingIn (A : Option Addr) (n c : Nat) (L : List Lk) (a b : List UInt8) (y : Int) (w : World) (h : SlAt w 4 encK A L) (hn : n = L.length) (hl : L.length ≤ 1000000) (hg : Links L) (ha : a.length ≤ 1048576) (hb : b.length ≤ 1048576) :
    Calls Tryz.prog 13 #[.slice A n c, .string (tx a), .string (tx b), .int .i64 y] w fun e w' => e = .returned (.tuple #[.string (tx (mtV L a b y)), .int .i64 (mtC L a b y)]) ∧ Ext w w' := by
  have HC1 := Lib.hid (fun W hW => s_l12Code A n c L a y W hW hn (by omega) hg ha)
  have HC2 := Lib.hid (fun W => by have := s_IsWord (tx b) W (by rw [tx_size]; omega); rw [smB_tx] at this; exact this)
  have HTW := lkC_pair L a b y
  have HS := Lib.hid h
  by_cases hz : lkC L [a, b] y = 0
  · have hbw : smL b 1 16 = true := by
      by_cases hq : smL b 1 16 = true
      · exact hq
      · rw [HTW, if_neg hq] at hz; cases hz
    have haz : lkC L [a] y = 0 := by rw [HTW, if_pos hbw] at hz; exact hz
    rw [haz] at HC1
    rw [hbw] at HC2
    have hT : Told L := LkP.told (lksB_iff.1 (lkC_zero haz).1).1.1
    have hfl : ∀ x, (wayU L x y).2 = false := fun x => (lksB_iff.1 (lkC_zero haz).1).way x y
    have HW : Hid (∀ x, x ≠ [] → ∀ W, SlAt W 4 encK A L → Calls Tryz.prog 73 #[.slice A n c, .string (tx x), .int .i64 y] W fun e w' => ∃ v, e = .returned (.tuple #[v, .bool true]) ∧ OwS w' W.heap.size v (wayU L x y).1 ∧ Ext W w') := Lib.hid (fun x hx W hW => (s_l12Way A n c L x y W hW hn (by omega) hT hx).mono fun e w' hr => by
      obtain ⟨hr, hx'⟩ := hr
      rcases hr with ⟨h1, _⟩ | ⟨_, v, h2, h3⟩
      · rw [hfl x] at h1; cases h1
      · exact ⟨v, h2, h3, hx'⟩)
    have hwa := wayU_ne L a y
    have hwb := wayU_ne L b y
    obtain ⟨_, _, hla⟩ := hwa
    obtain ⟨_, _, hlb⟩ := hwb
    have HZ := Lib.hid hz
    have HUA := Lib.hid (HW.out a (smA_ne (lkC_zero haz).2.1))
    have HUB := Lib.hid (HW.out b (smL_ne hbw))
    have HF : Hid ((∀ k, k < (wayU L a y).1.length → (∀ j, j < k → (wayU L a y).1.getD j [] ∉ (wayU L b y).1) → (wayU L a y).1.getD k [] ∈ (wayU L b y).1 → mtO L a b y = some ((wayU L a y).1.getD k [])) ∧ ((∀ j, j < (wayU L a y).1.length → (wayU L a y).1.getD j [] ∉ (wayU L b y).1) → mtO L a b y = none)) := Lib.hid (by
      unfold mtO
      generalize (wayU L a y).1 = xs
      generalize (wayU L b y).1 = ys
      refine ⟨fun k hk hj hm => ?_, fun hj => ?_⟩
      · rw [List.find?_eq_some_iff_getElem]
        refine ⟨by simpa using hm, k, hk, by simp [List.getD, hk], fun j hjk => ?_⟩
        have := hj j hjk
        have hj2 : j < xs.length := by omega
        simpa [List.getD, hj2] using this
      · rw [List.find?_eq_none]
        intro x hx
        obtain ⟨j, hj2, rfl⟩ := List.mem_iff_getElem.1 hx
        have := hj j hj2
        simpa [List.getD, hj2] using this)
    have HV : Hid ((mtO L a b y = none → mtC L a b y = 4 ∧ mtV L a b y = []) ∧ ∀ z, mtO L a b y = some z → mtC L a b y = 0 ∧ mtV L a b y = z) := Lib.hid ⟨fun e => mtC_none hz e, fun z e => mtC_some hz e⟩
    generalize mtC L a b y = mc at *
    generalize mtV L a b y = mv at *
    generalize mtO L a b y = mo at *
    generalize (wayU L a y).1 = xs at *
    generalize (wayU L b y).1 = ys at *
    generalize tx a = sa at *
    generalize tx b = sb at *
    have hx5 : xs.length ≤ 1048577 := by omega
    have hy5 : ys.length ≤ 1048577 := by omega
    clear h hn hg ha hb hl hz HZ hla hlb HW hT hfl haz hbw HTW
    obtain ⟨nx, hnx⟩ : ∃ nx, nx = xs.length := ⟨_, rfl⟩
    obtain ⟨ny, hny⟩ : ∃ ny, ny = ys.length := ⟨_, rfl⟩
    rw [← hnx] at hx5
    rw [← hny] at hy5
    have HNX := Lib.hid hnx
    have HNY := Lib.hid hny
    clear hnx hny
    go_enter Tryz.func13, Tryz.ntmps13
    (go_wp2_with fail; refine (HC1.out _ HS.out).mono ?_; rintro e w1 ⟨rfl, hx1⟩; obtain ⟨hc1, hf1⟩ := hx1.rules; have hs1 := hx1.size; (try simp at hs1))
    (go_wp2_with fail; refine (HC2.out _).mono ?_; rintro e w8 ⟨rfl, hx8⟩; obtain ⟨hc8, hf8⟩ := hx8.rules; have hs8 := hx8.size; (try simp at hs8))
    go_wp2_with fail
    refine (HUA.out _ (HS.out.ext (by (repeat (first | with_reducible exact Ext.refl _ | with_reducible assumption | ((with_reducible apply Src.ext); with_reducible assumption) | with_reducible refine Ext.alloc ?_ _ | with_reducible refine Ext.drew ?_ | with_reducible refine Ext.drewN ?_ _ | ((with_reducible refine Ext.setCell' ?_ ?_ _); solve | omega | simp | (simp; omega)) | (with_reducible refine Ext.trans ?_ (by with_reducible assumption))))))).mono ?_
    rintro e w2 ⟨v2, rfl, hO2, hx2⟩
    obtain ⟨A3, c3, rfl, hS3, -, -, -⟩ := hO2.sl len_encS
    rw [← HNX.out]
    have HS3a := Lib.hid hS3
    clear hO2 hS3
    go_wp2_with fail
    refine (HUB.out _ (HS.out.ext (by (repeat (first | with_reducible exact Ext.refl _ | with_reducible assumption | ((with_reducible apply Src.ext); with_reducible assumption) | with_reducible refine Ext.alloc ?_ _ | with_reducible refine Ext.drew ?_ | with_reducible refine Ext.drewN ?_ _ | ((with_reducible refine Ext.setCell' ?_ ?_ _); solve | omega | simp | (simp; omega)) | (with_reducible refine Ext.trans ?_ (by with_reducible assumption))))))).mono ?_
    rintro e w3 ⟨v3, rfl, hO3, hx3⟩
    obtain ⟨A2, c2, rfl, hS2, -, -, -⟩ := hO3.sl len_encS
    rw [← HNY.out]
    have HS2 := Lib.hid hS2
    have HS3 := Lib.hid (HS3a.out.ext hx3)
    clear hO3 hS2
    have HX3 : Hid (Ext w w3) := Lib.hid (by (repeat (first | with_reducible exact Ext.refl _ | with_reducible assumption | ((with_reducible apply Src.ext); with_reducible assumption) | with_reducible refine Ext.alloc ?_ _ | with_reducible refine Ext.drew ?_ | with_reducible refine Ext.drewN ?_ _ | ((with_reducible refine Ext.setCell' ?_ ?_ _); solve | omega | simp | (simp; omega)) | (with_reducible refine Ext.trans ?_ (by with_reducible assumption)))))
    clear hx1 hx8 hc1 hf1 hc8 hf8
    go_wp2
    go_loopw [15] (fun i wr => ∃ k : Nat, k ≤ nx ∧ i = .int .i64 k ∧ Hid (∀ j, j < k → xs.getD j [] ∉ ys) ∧ Ext w3 wr) (fun i _ => nx - (intOf i).toNat)
    case atStart => exact ⟨0, by omega, rfl, Lib.hid (fun j hj => absurd hj (by omega)), by (repeat (first | with_reducible exact Ext.refl _ | with_reducible assumption | ((with_reducible apply Src.ext); with_reducible assumption) | with_reducible refine Ext.alloc ?_ _ | with_reducible refine Ext.drew ?_ | with_reducible refine Ext.drewN ?_ _ | ((with_reducible refine Ext.setCell' ?_ ?_ _); solve | omega | simp | (simp; omega)) | (with_reducible refine Ext.trans ?_ (by with_reducible assumption))))⟩
    case round =>
      obtain ⟨k, hk, rfl, HJ, hxr⟩ := hrel
      obtain ⟨w5, rfl⟩ : ∃ x, x = wr := ⟨wr, rfl⟩
      by_cases hlt : k < nx
      · have hkx : k < xs.length := by rw [← HNX.out]; exact hlt
        obtain ⟨b9, off, rfl, hbl, d0⟩ := (HS3.out.ext hxr).st (k := k) hkx
        have HCO := Lib.hid (fun W hW => s_l03Find A2 ny c2 ys (xs.getD k []) W hW HNY.out (by omega))
        by_cases hm : xs.getD k [] ∈ ys
        · have hf : 0 ≤ fdI ys (xs.getD k []) := fdI_iff.2 hm
          have HR := Lib.hid (HV.out.2 _ (HF.out.1 k hkx HJ.out hm))
          generalize hz : xs.getD k [] = z at *
          have HR1 : Hid (mc = 0 ∧ tx mv = tx z) := Lib.hid ⟨HR.out.1, by rw [HR.out.2]⟩
          clear hz hm HR hkx
          generalize fdI ys z = fi at *
          generalize tx z = sz at *
          go_wp2_with fail
          refine (HCO.out _ (HS2.out.ext (hxr.trans (by (repeat (first | with_reducible exact Ext.refl _ | with_reducible assumption | ((with_reducible apply Src.ext); with_reducible assumption) | with_reducible refine Ext.alloc ?_ _ | with_reducible refine Ext.drew ?_ | with_reducible refine Ext.drewN ?_ _ | ((with_reducible refine Ext.setCell' ?_ ?_ _); solve | omega | simp | (simp; omega)) | (with_reducible refine Ext.trans ?_ (by with_reducible assumption)))))))).mono ?_
          rintro e w7 ⟨rfl, rfl⟩
          go_wp2
          go_ret2
          exact ⟨by rw [HR1.out.1, HR1.out.2]; rfl, HX3.out.trans (by (repeat (first | with_reducible exact Ext.refl _ | with_reducible assumption | ((with_reducible apply Src.ext); with_reducible assumption) | with_reducible refine Ext.alloc ?_ _ | with_reducible refine Ext.drew ?_ | with_reducible refine Ext.drewN ?_ _ | ((with_reducible refine Ext.setCell' ?_ ?_ _); solve | omega | simp | (simp; omega)) | (with_reducible refine Ext.trans ?_ (by with_reducible assumption)))))⟩
        · have hf : ¬ 0 ≤ fdI ys (xs.getD k []) := fun e => hm (fdI_iff.1 e)
          have HJ2 := Lib.hid (upTo_succ (P := fun j => xs.getD j [] ∉ ys) HJ.out hm)
          generalize hz : xs.getD k [] = z at *
          clear hz hm hkx
          generalize fdI ys z = fi at *
          generalize tx z = sz at *
          go_wp2_with fail
          refine (HCO.out _ (HS2.out.ext (hxr.trans (by (repeat (first | with_reducible exact Ext.refl _ | with_reducible assumption | ((with_reducible apply Src.ext); with_reducible assumption) | with_reducible refine Ext.alloc ?_ _ | with_reducible refine Ext.drew ?_ | with_reducible refine Ext.drewN ?_ _ | ((with_reducible refine Ext.setCell' ?_ ?_ _); solve | omega | simp | (simp; omega)) | (with_reducible refine Ext.trans ?_ (by with_reducible assumption)))))))).mono ?_
          rintro e w7 ⟨rfl, rfl⟩
          go_wp2
          go_roundw
          case rel => exact ⟨k + 1, by omega, by go_num, HJ2, by (repeat (first | with_reducible exact Ext.refl _ | with_reducible assumption | ((with_reducible apply Src.ext); with_reducible assumption) | with_reducible refine Ext.alloc ?_ _ | with_reducible refine Ext.drew ?_ | with_reducible refine Ext.drewN ?_ _ | ((with_reducible refine Ext.setCell' ?_ ?_ _); solve | omega | simp | (simp; omega)) | (with_reducible refine Ext.trans ?_ (by with_reducible assumption))))⟩
          case measure => simp [intOf]; omega
      · obtain rfl : k = nx := by omega
        have HR := Lib.hid (HV.out.1 (HF.out.2 (by rw [← HNX.out]; exact HJ.out)))
        go_wp2
        go_ret2
        exact ⟨by rw [HR.out.1, HR.out.2]; rfl, HX3.out.trans (by (repeat (first | with_reducible exact Ext.refl _ | with_reducible assumption | ((with_reducible apply Src.ext); with_reducible assumption) | with_reducible refine Ext.alloc ?_ _ | with_reducible refine Ext.drew ?_ | with_reducible refine Ext.drewN ?_ _ | ((with_reducible refine Ext.setCell' ?_ ?_ _); solve | omega | simp | (simp; omega)) | (with_reducible refine Ext.trans ?_ (by with_reducible assumption)))))⟩
  · rw [(mtC_bad hz).1, (mtC_bad hz).2]
    have hcd : (lkC L [a, b] y != 0) = true := by simpa using hz
    cases hbw : smL b 1 16 with
    | true =>
      rw [HTW, if_pos hbw] at hcd ⊢
      rw [hbw] at HC2
      generalize lkC L [a] y = cd at *
      generalize tx a = sa at *
      generalize tx b = sb at *
      clear h hn hg ha hb hl hz HTW hbw
      go_enter Tryz.func13, Tryz.ntmps13
      (go_wp2_with fail; refine (HC1.out _ HS.out).mono ?_; rintro e w1 ⟨rfl, hx1⟩; obtain ⟨hc1, hf1⟩ := hx1.rules; have hs1 := hx1.size; (try simp at hs1))
      (go_wp2_with fail; refine (HC2.out _).mono ?_; rintro e w8 ⟨rfl, hx8⟩; obtain ⟨hc8, hf8⟩ := hx8.rules; have hs8 := hx8.size; (try simp at hs8))
      go_wp2
      go_ret2
      exact ⟨rfl, by (repeat (first | with_reducible exact Ext.refl _ | with_reducible assumption | ((with_reducible apply Src.ext); with_reducible assumption) | with_reducible refine Ext.alloc ?_ _ | with_reducible refine Ext.drew ?_ | with_reducible refine Ext.drewN ?_ _ | ((with_reducible refine Ext.setCell' ?_ ?_ _); solve | omega | simp | (simp; omega)) | (with_reducible refine Ext.trans ?_ (by with_reducible assumption))))⟩
    | false =>
      rw [HTW, if_neg (by rw [hbw]; exact Bool.false_ne_true)]
      rw [hbw] at HC2
      generalize lkC L [a] y = cd at *
      generalize tx a = sa at *
      generalize tx b = sb at *
      clear h hn hg ha hb hl hz HTW hbw hcd
      go_enter Tryz.func13, Tryz.ntmps13
      (go_wp2_with fail; refine (HC1.out _ HS.out).mono ?_; rintro e w1 ⟨rfl, hx1⟩; obtain ⟨hc1, hf1⟩ := hx1.rules; have hs1 := hx1.size; (try simp at hs1))
      (go_wp2_with fail; refine (HC2.out _).mono ?_; rintro e w8 ⟨rfl, hx8⟩; obtain ⟨hc8, hf8⟩ := hx8.rules; have hs8 := hx8.size; (try simp at hs8))
      go_wp2
      go_ret2
      exact ⟨rfl, by (repeat (first | with_reducible exact Ext.refl _ | with_reducible assumption | ((with_reducible apply Src.ext); with_reducible assumption) | with_reducible refine Ext.alloc ?_ _ | with_reducible refine Ext.drew ?_ | with_reducible refine Ext.drewN ?_ _ | ((with_reducible refine Ext.setCell' ?_ ?_ _); solve | omega | simp | (simp; omega)) | (with_reducible refine Ext.trans ?_ (by with_reducible assumption))))⟩
end Go.Proofs.YtncccigbiefnkaaGreatDoor
