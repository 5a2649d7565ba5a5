/- A place's parent and its way up, as both tell them. -/
import Derived.Test.YtmpgjajkaehdiaaGreatDoorZF
import Derived.Test.YtmpgjajkaehdiaaGreatDoorZH
namespace Go.Proofs.YtmpgjajkaehdiaaGreatDoor
open Go.RowKit
attribute [local go_sem] ExtOf.cell ExtOf.frozen

noncomputable def parC (L : List Lk) (x : List UInt8) (y : Int) : Int := if lkC L [x] y = 0 then (if (par L x y).isSome = true then 0 else 4) else lkC L [x] y
noncomputable def parV (L : List Lk) (x : List UInt8) (y : Int) : List UInt8 := if parC L x y = 0 then parT L x y else []
noncomputable def wayR (L : List Lk) (x : List UInt8) (y : Int) : List (List UInt8) := if lkC L [x] y = 0 then (wayU L x y).1 else []
theorem parC_bad {L : List Lk} {x : List UInt8} {y : Int} (h : ¬ lkC L [x] y = 0) : parC L x y = lkC L [x] y ∧ parV L x y = [] := by
  have e : parC L x y = lkC L [x] y := by unfold parC; rw [if_neg h]
  exact ⟨e, by unfold parV; rw [e, if_neg h]⟩
theorem parC_none {L : List Lk} {x : List UInt8} {y : Int} (h : lkC L [x] y = 0) (hp : (par L x y).isSome = false) : parC L x y = 4 ∧ parV L x y = [] := by
  have e : parC L x y = 4 := by unfold parC; rw [if_pos h, if_neg (by rw [hp]; exact Bool.false_ne_true)]
  exact ⟨e, by unfold parV; rw [e, if_neg (by decide)]⟩
theorem parC_some {L : List Lk} {x : List UInt8} {y : Int} (h : lkC L [x] y = 0) (hp : (par L x y).isSome = true) : parC L x y = 0 ∧ parV L x y = parT L x y := by
  have e : parC L x y = 0 := by unfold parC; rw [if_pos h, if_pos hp]
  exact ⟨e, by unfold parV; rw [e, if_pos rfl]⟩
theorem parT_no {L : List Lk} {x : List UInt8} {y : Int} (hp : (par L x y).isSome = false) : parT L x y = [] := by
  unfold parT
  cases h : par L x y with
  | none => rfl
  | some n => rw [h] at hp; cases hp
theorem parT_yes {L : List Lk} {x : List UInt8} {y : Int} (hT : Told L) (hp : (par L x y).isSome = true) : parT L x y ≠ [] := by
  unfold parT
  cases h : par L x y with
  | none => rw [h] at hp; cases hp
  | some n => exact par_told hT h

set_option maxHeartbeats 6400000 in
theorem s_ParentIn (A : Option Addr) (n c : Nat) (L : List Lk) (x : List UInt8) (y : Int) (w : World) (h : SlAt w 4 encK A L) (hn : n = L.length) (hl : L.length ≤ 1048576) (hg : Links L) (hx : x.length ≤ 1048576) :
    Calls Tryz.prog 28 #[.slice A n c, .string (tx x), .int .i64 y] w fun e w' => e = .returned (.tuple #[.string (tx (parV L x y)), .int .i64 (parC L x y)]) ∧ Ext w w' := by
  have HC := Lib.hid (fun W hW => s_l12Code A n c L x y W hW hn hl hg hx)
  have HP := Lib.hid (fun W hW => s_l12Parent A n c L x y W hW hn (by omega))
  have HS := Lib.hid h
  by_cases hz : lkC L [x] y = 0
  · have hT : Told L := LkP.told (lksB_iff.1 (lkC_zero hz).1).1.1
    rw [hz] at HC
    cases hp : (par L x y).isSome with
    | false =>
      rw [(parC_none hz hp).1, (parC_none hz hp).2]
      rw [parT_no hp] at HP
      have he : (tx []).toList.isEmpty = true := by rw [tx_toL]; rfl
      obtain ⟨se, hse⟩ : ∃ se, se = tx [] := ⟨_, rfl⟩
      rw [← hse] at HP he
      clear hse hz hp hT h hn hg hx hl
      generalize tx x = sx at *
      go_enter Tryz.func28, Tryz.ntmps28
      (go_wp2_with fail; refine (HC.out _ HS.out).mono ?_; rintro e w1 ⟨rfl, hx1⟩; obtain ⟨hc1, hf1⟩ := hx1.rules; have hs1 := hx1.size; (try simp at hs1))
      (go_wp2_with fail; refine (HP.out _ (HS.out.ext (by (repeat (first | with_reducible exact Ext.refl _ | with_reducible assumption | ((with_reducible apply Src.ext); with_reducible assumption) | with_reducible refine Ext.alloc ?_ _ | with_reducible refine Ext.drew ?_ | with_reducible refine Ext.drewN ?_ _ | ((with_reducible refine Ext.setCell' ?_ ?_ _); solve | omega | simp | (simp; omega)) | (with_reducible refine Ext.trans ?_ (by with_reducible assumption))))))).mono ?_; rintro e w2 ⟨rfl, hx2⟩; obtain ⟨hc2, hf2⟩ := hx2.rules; have hs2 := hx2.size; (try simp at hs2))
      go_wp2
      go_ret2
      exact ⟨rfl, by (repeat (first | with_reducible exact Ext.refl _ | with_reducible assumption | ((with_reducible apply Src.ext); with_reducible assumption) | with_reducible refine Ext.alloc ?_ _ | with_reducible refine Ext.drew ?_ | with_reducible refine Ext.drewN ?_ _ | ((with_reducible refine Ext.setCell' ?_ ?_ _); solve | omega | simp | (simp; omega)) | (with_reducible refine Ext.trans ?_ (by with_reducible assumption))))⟩
    | true =>
      rw [(parC_some hz hp).1, (parC_some hz hp).2]
      have he : (tx (parT L x y)).toList.isEmpty = false := by rw [tx_toL]; simpa using parT_yes hT hp
      generalize tx (parT L x y) = sp at *
      generalize tx x = sx at *
      clear hz hp hT h hn hg hx hl
      go_enter Tryz.func28, Tryz.ntmps28
      (go_wp2_with fail; refine (HC.out _ HS.out).mono ?_; rintro e w1 ⟨rfl, hx1⟩; obtain ⟨hc1, hf1⟩ := hx1.rules; have hs1 := hx1.size; (try simp at hs1))
      (go_wp2_with fail; refine (HP.out _ (HS.out.ext (by (repeat (first | with_reducible exact Ext.refl _ | with_reducible assumption | ((with_reducible apply Src.ext); with_reducible assumption) | with_reducible refine Ext.alloc ?_ _ | with_reducible refine Ext.drew ?_ | with_reducible refine Ext.drewN ?_ _ | ((with_reducible refine Ext.setCell' ?_ ?_ _); solve | omega | simp | (simp; omega)) | (with_reducible refine Ext.trans ?_ (by with_reducible assumption))))))).mono ?_; rintro e w2 ⟨rfl, hx2⟩; obtain ⟨hc2, hf2⟩ := hx2.rules; have hs2 := hx2.size; (try simp at hs2))
      go_wp2
      all_goals go_ret2
      all_goals exact ⟨rfl, by (repeat (first | with_reducible exact Ext.refl _ | with_reducible assumption | ((with_reducible apply Src.ext); with_reducible assumption) | with_reducible refine Ext.alloc ?_ _ | with_reducible refine Ext.drew ?_ | with_reducible refine Ext.drewN ?_ _ | ((with_reducible refine Ext.setCell' ?_ ?_ _); solve | omega | simp | (simp; omega)) | (with_reducible refine Ext.trans ?_ (by with_reducible assumption))))⟩
  · rw [(parC_bad hz).1, (parC_bad hz).2]
    generalize lkC L [x] y = cd at *
    have hcd : (cd != 0) = true := by simpa using hz
    generalize tx x = sx at *
    clear h hn hg hx hl HP
    go_enter Tryz.func28, Tryz.ntmps28
    (go_wp2_with fail; refine (HC.out _ HS.out).mono ?_; rintro e w1 ⟨rfl, hx1⟩; obtain ⟨hc1, hf1⟩ := hx1.rules; have hs1 := hx1.size; (try simp at hs1))
    go_wp2
    go_ret2
    exact ⟨rfl, by (repeat (first | with_reducible exact Ext.refl _ | with_reducible assumption | ((with_reducible apply Src.ext); with_reducible assumption) | with_reducible refine Ext.alloc ?_ _ | with_reducible refine Ext.drew ?_ | with_reducible refine Ext.drewN ?_ _ | ((with_reducible refine Ext.setCell' ?_ ?_ _); solve | omega | simp | (simp; omega)) | (with_reducible refine Ext.trans ?_ (by with_reducible assumption))))⟩

set_option maxHeartbeats 6400000 in
theorem i_ParentIn (A : Option Addr) (n c : Nat) (L : List Lk) (x : List UInt8) (y : Int) (w : World) (h : SlAt w 4 encK A L) (hn : n = L.length) (hl : L.length ≤ 1048576) (hcap : n ≤ c) (hg : Links L) (hx : x.length ≤ 1048576) :
    Calls Tryz.prog 19 #[.slice A n c, .string (tx x), .int .i64 y] w fun e w' => e = .returned (.tuple #[.string (tx (parV L x y)), .int .i64 (parC L x y)]) ∧ Ext w w' := by
  have HC : Hid (∀ W g, Ext w W → Blk W g 9 #[.string (tx x)] → Calls Tryz.prog 50 #[.slice A n c, .int .i64 y, .slice (some ⟨g, 0, none⟩) 1 1] W fun e w' => e = .returned (.int .i64 (lkC L [x] y)) ∧ Ext W w') := Lib.hid (fun W g hW hB => i_linkCode A _ n c 1 1 L [x] y W (h.ext hW) hn hl hcap hg (blk_s1 hB) rfl (by omega) (fun k => by
    rcases k with _ | k
    · exact hx
    · simp [List.getD]))
  have HP := Lib.hid (fun W hW => i_parentIn A n c L x y W hW hn (by omega))
  have HS := Lib.hid h
  by_cases hz : lkC L [x] y = 0
  · rw [hz] at HC
    cases hp : (par L x y).isSome with
    | false =>
      rw [(parC_none hz hp).1, (parC_none hz hp).2]
      rw [parT_no hp, hp] at HP
      clear hz hp h hn hg hx hl hcap
      generalize tx x = sx at *
      go_enter Tryz.func19, Tryz.ntmps19
      go_wp2_with fail
      refine (HC.out _ _ (by (repeat (first | with_reducible exact Ext.refl _ | with_reducible assumption | ((with_reducible apply Src.ext); with_reducible assumption) | with_reducible refine Ext.alloc ?_ _ | with_reducible refine Ext.drew ?_ | with_reducible refine Ext.drewN ?_ _ | ((with_reducible refine Ext.setCell' ?_ ?_ _); solve | omega | simp | (simp; omega)) | (with_reducible refine Ext.trans ?_ (by with_reducible assumption))))) (by (repeat (first | with_reducible assumption | ((with_reducible apply Blk.new); solve | simp | rfl) | with_reducible apply Blk.drew | with_reducible apply Blk.drewN | ((with_reducible apply Blk.far'); solve | omega | simp | (simp; omega)) | with_reducible apply Blk.set_ | with_reducible apply Blk.alloc | ((with_reducible apply Blk.ext'); with_reducible assumption) | ((with_reducible apply Blk.but'); (with_reducible assumption); solve | omega | (simp; omega)))))).mono ?_
      rintro e w1 ⟨rfl, hx1⟩
      (go_wp2_with fail; refine (HP.out _ (HS.out.ext (by (repeat (first | with_reducible exact Ext.refl _ | with_reducible assumption | ((with_reducible apply Src.ext); with_reducible assumption) | with_reducible refine Ext.alloc ?_ _ | with_reducible refine Ext.drew ?_ | with_reducible refine Ext.drewN ?_ _ | ((with_reducible refine Ext.setCell' ?_ ?_ _); solve | omega | simp | (simp; omega)) | (with_reducible refine Ext.trans ?_ (by with_reducible assumption))))))).mono ?_; rintro e w2 ⟨rfl, hx2⟩; obtain ⟨hc2, hf2⟩ := hx2.rules; have hs2 := hx2.size; (try simp at hs2))
      go_wp2
      go_ret2
      exact ⟨rfl, by (repeat (first | with_reducible exact Ext.refl _ | with_reducible assumption | ((with_reducible apply Src.ext); with_reducible assumption) | with_reducible refine Ext.alloc ?_ _ | with_reducible refine Ext.drew ?_ | with_reducible refine Ext.drewN ?_ _ | ((with_reducible refine Ext.setCell' ?_ ?_ _); solve | omega | simp | (simp; omega)) | (with_reducible refine Ext.trans ?_ (by with_reducible assumption))))⟩
    | true =>
      rw [(parC_some hz hp).1, (parC_some hz hp).2]
      rw [hp] at HP
      generalize tx (parT L x y) = sp at *
      generalize tx x = sx at *
      clear hz hp h hn hg hx hl hcap
      go_enter Tryz.func19, Tryz.ntmps19
      go_wp2_with fail
      refine (HC.out _ _ (by (repeat (first | with_reducible exact Ext.refl _ | with_reducible assumption | ((with_reducible apply Src.ext); with_reducible assumption) | with_reducible refine Ext.alloc ?_ _ | with_reducible refine Ext.drew ?_ | with_reducible refine Ext.drewN ?_ _ | ((with_reducible refine Ext.setCell' ?_ ?_ _); solve | omega | simp | (simp; omega)) | (with_reducible refine Ext.trans ?_ (by with_reducible assumption))))) (by (repeat (first | with_reducible assumption | ((with_reducible apply Blk.new); solve | simp | rfl) | with_reducible apply Blk.drew | with_reducible apply Blk.drewN | ((with_reducible apply Blk.far'); solve | omega | simp | (simp; omega)) | with_reducible apply Blk.set_ | with_reducible apply Blk.alloc | ((with_reducible apply Blk.ext'); with_reducible assumption) | ((with_reducible apply Blk.but'); (with_reducible assumption); solve | omega | (simp; omega)))))).mono ?_
      rintro e w1 ⟨rfl, hx1⟩
      (go_wp2_with fail; refine (HP.out _ (HS.out.ext (by (repeat (first | with_reducible exact Ext.refl _ | with_reducible assumption | ((with_reducible apply Src.ext); with_reducible assumption) | with_reducible refine Ext.alloc ?_ _ | with_reducible refine Ext.drew ?_ | with_reducible refine Ext.drewN ?_ _ | ((with_reducible refine Ext.setCell' ?_ ?_ _); solve | omega | simp | (simp; omega)) | (with_reducible refine Ext.trans ?_ (by with_reducible assumption))))))).mono ?_; rintro e w2 ⟨rfl, hx2⟩; obtain ⟨hc2, hf2⟩ := hx2.rules; have hs2 := hx2.size; (try simp at hs2))
      go_wp2
      go_ret2
      exact ⟨rfl, by (repeat (first | with_reducible exact Ext.refl _ | with_reducible assumption | ((with_reducible apply Src.ext); with_reducible assumption) | with_reducible refine Ext.alloc ?_ _ | with_reducible refine Ext.drew ?_ | with_reducible refine Ext.drewN ?_ _ | ((with_reducible refine Ext.setCell' ?_ ?_ _); solve | omega | simp | (simp; omega)) | (with_reducible refine Ext.trans ?_ (by with_reducible assumption))))⟩
  · rw [(parC_bad hz).1, (parC_bad hz).2]
    generalize lkC L [x] y = cd at *
    have hcd : (cd != 0) = true := by simpa using hz
    generalize tx x = sx at *
    clear h hn hg hx hl HP hcap
    go_enter Tryz.func19, Tryz.ntmps19
    go_wp2_with fail
    refine (HC.out _ _ (by (repeat (first | with_reducible exact Ext.refl _ | with_reducible assumption | ((with_reducible apply Src.ext); with_reducible assumption) | with_reducible refine Ext.alloc ?_ _ | with_reducible refine Ext.drew ?_ | with_reducible refine Ext.drewN ?_ _ | ((with_reducible refine Ext.setCell' ?_ ?_ _); solve | omega | simp | (simp; omega)) | (with_reducible refine Ext.trans ?_ (by with_reducible assumption))))) (by (repeat (first | with_reducible assumption | ((with_reducible apply Blk.new); solve | simp | rfl) | with_reducible apply Blk.drew | with_reducible apply Blk.drewN | ((with_reducible apply Blk.far'); solve | omega | simp | (simp; omega)) | with_reducible apply Blk.set_ | with_reducible apply Blk.alloc | ((with_reducible apply Blk.ext'); with_reducible assumption) | ((with_reducible apply Blk.but'); (with_reducible assumption); solve | omega | (simp; omega)))))).mono ?_
    rintro e w1 ⟨rfl, hx1⟩
    go_wp2
    go_ret2
    exact ⟨rfl, by (repeat (first | with_reducible exact Ext.refl _ | with_reducible assumption | ((with_reducible apply Src.ext); with_reducible assumption) | with_reducible refine Ext.alloc ?_ _ | with_reducible refine Ext.drew ?_ | with_reducible refine Ext.drewN ?_ _ | ((with_reducible refine Ext.setCell' ?_ ?_ _); solve | omega | simp | (simp; omega)) | (with_reducible refine Ext.trans ?_ (by with_reducible assumption))))⟩

set_option maxHeartbeats 6400000 in
theorem s_WayUp (A : Option Addr) (n c : Nat) (L : List Lk) (x : List UInt8) (y : Int) (w : World) (h : SlAt w 4 encK A L) (hn : n = L.length) (hl : L.length ≤ 1048576) (hg : Links L) (hx : x.length ≤ 1048576) :
    Calls Tryz.prog 27 #[.slice A n c, .string (tx x), .int .i64 y] w fun e w' => ∃ v, e = .returned (.tuple #[v, .int .i64 (lkC L [x] y)]) ∧ OwS w' w.heap.size v (wayR L x y) ∧ Ext w w' := by
  have HC := Lib.hid (fun W hW => s_l12Code A n c L x y W hW hn hl hg hx)
  have HS := Lib.hid h
  by_cases hz : lkC L [x] y = 0
  · have hR : wayR L x y = (wayU L x y).1 := by unfold wayR; rw [if_pos hz]
    have hT : Told L := LkP.told (lksB_iff.1 (lkC_zero hz).1).1.1
    have hf : (wayU L x y).2 = false := (lksB_iff.1 (lkC_zero hz).1).way x y
    have HW : Hid (∀ W, SlAt W 4 encK A L → Calls Tryz.prog 58 #[.slice A n c, .string (tx x), .int .i64 y] W fun e w' => ∃ v, e = .returned (.tuple #[v, .bool true]) ∧ OwS w' W.heap.size v (wayU L x y).1 ∧ Ext W w') := Lib.hid (fun W hW => (s_l12Way A n c L x y W hW hn (by omega) hT (smA_ne (lkC_zero hz).2.1)).mono fun e w' hr => by
      obtain ⟨hr, hx'⟩ := hr
      rcases hr with ⟨h1, _⟩ | ⟨_, v, h2, h3⟩
      · rw [hf] at h1; cases h1
      · exact ⟨v, h2, h3, hx'⟩)
    rw [hR, hz]
    rw [hz] at HC
    generalize (wayU L x y).1 = ws at *
    generalize tx x = sx at *
    clear hz hR hT hf h hn hg hx hl
    go_enter Tryz.func27, Tryz.ntmps27
    (go_wp2_with fail; refine (HC.out _ HS.out).mono ?_; rintro e w1 ⟨rfl, hx1⟩; obtain ⟨hc1, hf1⟩ := hx1.rules; have hs1 := hx1.size; (try simp at hs1))
    go_wp2_with fail
    refine (HW.out _ (HS.out.ext (by (repeat (first | with_reducible exact Ext.refl _ | with_reducible assumption | ((with_reducible apply Src.ext); with_reducible assumption) | with_reducible refine Ext.alloc ?_ _ | with_reducible refine Ext.drew ?_ | with_reducible refine Ext.drewN ?_ _ | ((with_reducible refine Ext.setCell' ?_ ?_ _); solve | omega | simp | (simp; omega)) | (with_reducible refine Ext.trans ?_ (by with_reducible assumption))))))).mono ?_
    rintro e w2 ⟨v, rfl, hO, hx2⟩
    have HO := Lib.hid hO
    clear hO
    go_wp2
    go_ret2
    exact ⟨v, rfl, HO.out.less (by omega), by (repeat (first | with_reducible exact Ext.refl _ | with_reducible assumption | ((with_reducible apply Src.ext); with_reducible assumption) | with_reducible refine Ext.alloc ?_ _ | with_reducible refine Ext.drew ?_ | with_reducible refine Ext.drewN ?_ _ | ((with_reducible refine Ext.setCell' ?_ ?_ _); solve | omega | simp | (simp; omega)) | (with_reducible refine Ext.trans ?_ (by with_reducible assumption))))⟩
  · have hR : wayR L x y = [] := by unfold wayR; rw [if_neg hz]
    rw [hR]
    generalize lkC L [x] y = cd at *
    have hcd : (cd != 0) = true := by simpa using hz
    generalize tx x = sx at *
    clear h hn hg hx hl hR
    go_enter Tryz.func27, Tryz.ntmps27
    (go_wp2_with fail; refine (HC.out _ HS.out).mono ?_; rintro e w1 ⟨rfl, hx1⟩; obtain ⟨hc1, hf1⟩ := hx1.rules; have hs1 := hx1.size; (try simp at hs1))
    go_wp2
    go_ret2
    exact ⟨_, rfl, Own.nil _ _, by (repeat (first | with_reducible exact Ext.refl _ | with_reducible assumption | ((with_reducible apply Src.ext); with_reducible assumption) | with_reducible refine Ext.alloc ?_ _ | with_reducible refine Ext.drew ?_ | with_reducible refine Ext.drewN ?_ _ | ((with_reducible refine Ext.setCell' ?_ ?_ _); solve | omega | simp | (simp; omega)) | (with_reducible refine Ext.trans ?_ (by with_reducible assumption))))⟩

set_option maxHeartbeats 6400000 in
theorem i_WayUp (A : Option Addr) (n c : Nat) (L : List Lk) (x : List UInt8) (y : Int) (w : World) (h : SlAt w 4 encK A L) (hn : n = L.length) (hl : L.length ≤ 1048576) (hcap : n ≤ c) (hg : Links L) (hx : x.length ≤ 1048576) :
    Calls Tryz.prog 24 #[.slice A n c, .string (tx x), .int .i64 y] w fun e w' => ∃ v, e = .returned (.tuple #[v, .int .i64 (lkC L [x] y)]) ∧ OwS w' w.heap.size v (wayR L x y) ∧ Ext w w' := by
  have HC : Hid (∀ W g, Ext w W → Blk W g 9 #[.string (tx x)] → Calls Tryz.prog 50 #[.slice A n c, .int .i64 y, .slice (some ⟨g, 0, none⟩) 1 1] W fun e w' => e = .returned (.int .i64 (lkC L [x] y)) ∧ Ext W w') := Lib.hid (fun W g hW hB => i_linkCode A _ n c 1 1 L [x] y W (h.ext hW) hn hl hcap hg (blk_s1 hB) rfl (by omega) (fun k => by
    rcases k with _ | k
    · exact hx
    · simp [List.getD]))
  have HU := Lib.hid (fun W hW => i_wayUp A n c L x y W hW hn (by omega))
  have HS := Lib.hid h
  by_cases hz : lkC L [x] y = 0
  · have hR : wayR L x y = (wayU L x y).1 := by unfold wayR; rw [if_pos hz]
    rw [hR, hz]
    rw [hz] at HC
    generalize (wayU L x y).1 = ws at *
    generalize tx x = sx at *
    clear hz hR h hn hg hx hl hcap
    go_enter Tryz.func24, Tryz.ntmps24
    go_wp2_with fail
    refine (HC.out _ _ (by (repeat (first | with_reducible exact Ext.refl _ | with_reducible assumption | ((with_reducible apply Src.ext); with_reducible assumption) | with_reducible refine Ext.alloc ?_ _ | with_reducible refine Ext.drew ?_ | with_reducible refine Ext.drewN ?_ _ | ((with_reducible refine Ext.setCell' ?_ ?_ _); solve | omega | simp | (simp; omega)) | (with_reducible refine Ext.trans ?_ (by with_reducible assumption))))) (by (repeat (first | with_reducible assumption | ((with_reducible apply Blk.new); solve | simp | rfl) | with_reducible apply Blk.drew | with_reducible apply Blk.drewN | ((with_reducible apply Blk.far'); solve | omega | simp | (simp; omega)) | with_reducible apply Blk.set_ | with_reducible apply Blk.alloc | ((with_reducible apply Blk.ext'); with_reducible assumption) | ((with_reducible apply Blk.but'); (with_reducible assumption); solve | omega | (simp; omega)))))).mono ?_
    rintro e w1 ⟨rfl, hx1⟩
    have hs1 := hx1.size
    (try simp at hs1)
    go_wp2_with fail
    refine (HU.out _ (HS.out.ext (by (repeat (first | with_reducible exact Ext.refl _ | with_reducible assumption | ((with_reducible apply Src.ext); with_reducible assumption) | with_reducible refine Ext.alloc ?_ _ | with_reducible refine Ext.drew ?_ | with_reducible refine Ext.drewN ?_ _ | ((with_reducible refine Ext.setCell' ?_ ?_ _); solve | omega | simp | (simp; omega)) | (with_reducible refine Ext.trans ?_ (by with_reducible assumption))))))).mono ?_
    rintro e w2 ⟨v, rfl, hO, hx2⟩
    have HO := Lib.hid hO
    clear hO
    go_wp2
    go_ret2
    exact ⟨v, rfl, HO.out.less (by omega), by (repeat (first | with_reducible exact Ext.refl _ | with_reducible assumption | ((with_reducible apply Src.ext); with_reducible assumption) | with_reducible refine Ext.alloc ?_ _ | with_reducible refine Ext.drew ?_ | with_reducible refine Ext.drewN ?_ _ | ((with_reducible refine Ext.setCell' ?_ ?_ _); solve | omega | simp | (simp; omega)) | (with_reducible refine Ext.trans ?_ (by with_reducible assumption))))⟩
  · have hR : wayR L x y = [] := by unfold wayR; rw [if_neg hz]
    rw [hR]
    generalize lkC L [x] y = cd at *
    have hcd : (cd != 0) = true := by simpa using hz
    generalize tx x = sx at *
    clear h hn hg hx hl hR HU hcap
    go_enter Tryz.func24, Tryz.ntmps24
    go_wp2_with fail
    refine (HC.out _ _ (by (repeat (first | with_reducible exact Ext.refl _ | with_reducible assumption | ((with_reducible apply Src.ext); with_reducible assumption) | with_reducible refine Ext.alloc ?_ _ | with_reducible refine Ext.drew ?_ | with_reducible refine Ext.drewN ?_ _ | ((with_reducible refine Ext.setCell' ?_ ?_ _); solve | omega | simp | (simp; omega)) | (with_reducible refine Ext.trans ?_ (by with_reducible assumption))))) (by (repeat (first | with_reducible assumption | ((with_reducible apply Blk.new); solve | simp | rfl) | with_reducible apply Blk.drew | with_reducible apply Blk.drewN | ((with_reducible apply Blk.far'); solve | omega | simp | (simp; omega)) | with_reducible apply Blk.set_ | with_reducible apply Blk.alloc | ((with_reducible apply Blk.ext'); with_reducible assumption) | ((with_reducible apply Blk.but'); (with_reducible assumption); solve | omega | (simp; omega)))))).mono ?_
    rintro e w1 ⟨rfl, hx1⟩
    go_wp2
    go_ret2
    exact ⟨_, rfl, Own.nil _ _, by (repeat (first | with_reducible exact Ext.refl _ | with_reducible assumption | ((with_reducible apply Src.ext); with_reducible assumption) | with_reducible refine Ext.alloc ?_ _ | with_reducible refine Ext.drew ?_ | with_reducible refine Ext.drewN ?_ _ | ((with_reducible refine Ext.setCell' ?_ ?_ _); solve | omega | simp | (simp; omega)) | (with_reducible refine Ext.trans ?_ (by with_reducible assumption))))⟩
end Go.Proofs.YtmpgjajkaehdiaaGreatDoor
