/- Plain laws of what lies between two years: who is renamed bears two names, who moves moves back, who appears was not there. No program in sight. Names and places of a register in a year, as the program tells them. -/
import Derived.Test.YtbnkiibjhfcffaaGreatDoorZ6
import Derived.Test.YtbnkiibjhfcffaaGreatDoorY1
import Derived.Deep.RegionHeld3
import Derived.Deep.DeepCutAuto
import Derived.RegionTactic
import Derived.BigRegion
import Derived.WalkLawsBesides
import Derived.WalkSpells
import Derived.Lib.MinMax
import Derived.Outline
namespace Go.Proofs.YtbnkiibjhfcffaaGreatDoor
open Go.RowKit

theorem cds_mem {p : Pd → Bool} {D : List Pd} {x : List UInt8} : x ∈ cdsP p D ↔ ∃ d, d ∈ D ∧ p d = true ∧ d.1 = x := by
  unfold cdsP
  simp [List.mem_map, List.mem_filter, and_assoc]
theorem mov_swap (L : List Lk) (a b : Int) (d : Pd) : movB L a b d = movB L b a d := by
  unfold movB
  rw [show (parT L d.1 a == parT L d.1 b) = (parT L d.1 b == parT L d.1 a) from by rw [Bool.eq_iff_iff, beq_iff_eq, beq_iff_eq, eq_comm]]
  cases exB d a <;> cases exB d b <;> simp
theorem wy_swap (D : List Pd) (L : List Lk) (ok : Bool) (a b : Int) : wyC D L ok [a, b] = wyC D L ok [b, a] := by
  unfold wyC
  rw [show ([a, b].all fun y => inB y (-3000) 3000) = ([b, a].all fun y => inB y (-3000) 3000) from by simp only [List.all_cons, List.all_nil, Bool.and_true]; rw [Bool.and_comm]]
theorem mov_back (D : List Pd) (L : List Lk) (a b : Int) : movR D L b a = movR D L a b := by
  unfold movR
  rw [wy_swap, show movB L b a = movB L a b from funext fun d => mov_swap L b a d]
/-- the codes of a register tell its places apart -/
theorem fnd_mem {ps : List Pl} (ha : AscP ps) {d : Pd} (hd : d ∈ psD ps) : fndP (psD ps) d.1 = some d := by
  obtain ⟨i, hi, rfl⟩ := List.mem_iff_getElem.1 hd
  have hl : i < ps.length := by simpa [psD] using hi
  have e : (psD ps)[i] = pdOf (ps.getD i plD) := by simp [psD, List.getD, hl]
  rw [e]
  exact fnd_self ha hl
theorem plB_mem {D : List Pd} (h : rgB D = true) {d : Pd} (hd : d ∈ D) : plB d = true := by
  obtain ⟨j, hj, rfl⟩ := List.mem_iff_getElem.1 hd
  have := (rgB_iff.1 h).1 j hj
  unfold okR at this
  rw [Bool.and_eq_true] at this
  have e : D.getD j pdD = D[j] := by simp [List.getD, hj]
  rw [e] at this
  exact this.1
theorem app_law {ps : List Pl} {L : List Lk} {a b : Int} {x : List UInt8} (h : x ∈ appR (psD ps) L a b) : ¬ x ∈ cdsP (fun d => exB d a) (psD ps) ∧ x ∈ cdsP (fun d => exB d b) (psD ps) := by
  unfold appR at h
  split at h
  · rename_i h0
    obtain ⟨d, hd, hp, hx⟩ := cds_mem.1 h
    unfold appB at hp
    rw [Bool.and_eq_true] at hp
    refine ⟨fun hc => ?_, cds_mem.2 ⟨d, hd, hp.1, hx⟩⟩
    obtain ⟨d', hd', hp', hx'⟩ := cds_mem.1 hc
    have ha := asc_of (wdB_iff.1 (wyC_zero h0).1).1
    have e1 := fnd_mem ha hd
    have e2 := fnd_mem ha hd'
    rw [hx] at e1
    rw [hx', e1] at e2
    injection e2 with e2
    subst e2
    have h2 := hp.2
    rw [hp'] at h2
    cases h2
  · cases h
theorem ren_law {ps : List Pl} {L : List Lk} {ls : List (List UInt8)} {a b : Int} {x : List UInt8} (h : x ∈ renR (psD ps) L ls a b) : ∃ d, fndP (psD ps) x = some d ∧ smL x 1 16 = true ∧ nmO d ls a ≠ nmO d ls b := by
  unfold renR at h
  split at h
  · rename_i h0
    obtain ⟨d, hd, hp, hx⟩ := cds_mem.1 h
    have hr := (wdB_iff.1 (wyC_zero h0).1).1
    refine ⟨d, by rw [← hx]; exact fnd_mem (asc_of hr) hd, ?_, ?_⟩
    · have := plB_mem hr hd
      unfold plB at this
      rw [Bool.and_eq_true] at this
      rw [← hx]
      exact this.1
    · unfold renB at hp
      simp only [Bool.and_eq_true, Bool.not_eq_true', beq_eq_false_iff_ne, ne_eq] at hp
      exact hp.2.2
  · cases h
end Go.Proofs.YtbnkiibjhfcffaaGreatDoor
namespace Go.Proofs.YtbnkiibjhfcffaaGreatDoor
open Go.RowKit
attribute [local go_sem] ExtOf.cell ExtOf.frozen

set_option maxHeartbeats 3200000 in
theorem i_registerCode_ok (A : Option Addr) (n c : Nat) (ps : List Pl) (y : Int) (w : World) (h : SlAt w 5 encQ A ps) (hp : Places w ps) (hn : n = ps.length) (hl : ps.length ≤ 1048576) (hm : Mx w) (hr : rgB (psD ps) = true) (hy : inB y (-3000) 3000 = true) :
    Calls Tryz.prog 44 #[.slice A n c, .bool true, .int .i64 y] w fun e w' => e = .returned (.int .i64 0) ∧ Ext w w' := by
  have HR : Hid (∀ W, Ext w W → Calls Tryz.prog 76 #[.slice A n c] W fun e w' => e = .returned (.bool true) ∧ Ext W w') := Lib.hid (fun W hW => by
    have := i_IsRegister A n c ps W (h.ext hW) (hp.ext hW) hn hl (hm.ext hW)
    rwa [hr] at this)
  have HY : Hid (∀ W, Calls Tryz.prog 77 #[.int .i64 y] W fun e w' => e = .returned (.bool true) ∧ W = w') := Lib.hid (fun W => by
    have := i_isYear y W
    rwa [hy] at this)
  clear h hp hn hl hm hr hy
  go_enter Tryz.func44, Tryz.ntmps44
  (go_wp2_with fail; refine (HR.out _ (by (with_reducible repeat (first | exact Ext.refl _ | assumption | (apply Src.ext; assumption) | refine Ext.alloc ?_ _ | refine Ext.drew ?_ | refine Ext.drewN ?_ _ | (refine Ext.setCell' ?_ ?_ _; solve | omega | simp | (simp; omega)) | refine Ext.trans ?_ (by assumption))))).mono ?_; rintro e w1 ⟨rfl, hx1⟩; obtain ⟨hc1, hf1⟩ := hx1.rules; have hs1 := hx1.size; (try simp at hs1))
  (go_wp2_with fail; refine (HY.out _).mono ?_; rintro e w' ⟨rfl, rfl⟩)
  go_wp2
  go_ret
  exact ⟨rfl, by (with_reducible repeat (first | exact Ext.refl _ | assumption | (apply Src.ext; assumption) | refine Ext.alloc ?_ _ | refine Ext.drew ?_ | refine Ext.drewN ?_ _ | (refine Ext.setCell' ?_ ?_ _; solve | omega | simp | (simp; omega)) | refine Ext.trans ?_ (by assumption)))⟩
theorem i_PlacesIn1 (p : Pl) (y : Int) (b5 : Nat) (w : World) (h5 : w.cell? ⟨b5, 0, none⟩ = some (.int .i64 y)) :
    Calls Tryz.prog 46 #[plV p, .pointer (some ⟨b5, 0, none⟩)] w fun e w' => e = .returned (.bool (exB (pdOf p) y)) ∧ Ext w w' := by
  have e5 : b5 < w.heap.size := World.block_lt_of_cell? _ _ h5
  have hpv : plV p = .agg #[.string (tx p.1), .int .i64 p.2.1, .int .i64 p.2.2.1, .int .i64 p.2.2.2.1, .slice p.2.2.2.2.1 p.2.2.2.2.2.2.length p.2.2.2.2.2.1] := rfl
  have H1 := Lib.hid (fun W => i_has p.2.2.1 p.2.2.2.1 y W)
  have hq : exB (pdOf p) y = inB y p.2.2.1 p.2.2.2.1 := rfl
  rw [hq, hpv]
  generalize inB y p.2.2.1 p.2.2.2.1 = q1 at *
  generalize tx p.1 = s0 at *
  clear hq hpv
  go_enter Tryz.func46, Tryz.ntmps46
  (go_wp2_with fail; refine (H1.out _).mono ?_; rintro e w1 ⟨rfl, hx1⟩; obtain ⟨hc1, hf1⟩ := hx1.rules; have hs1 := hx1.size; (try simp at hs1))
  go_wp2
  go_ret
  exact ⟨rfl, by (with_reducible repeat (first | exact Ext.refl _ | assumption | (apply Src.ext; assumption) | refine Ext.alloc ?_ _ | refine Ext.drew ?_ | refine Ext.drewN ?_ _ | (refine Ext.setCell' ?_ ?_ _; solve | omega | simp | (simp; omega)) | refine Ext.trans ?_ (by assumption)))⟩
theorem en_PlacesIn1 (args : Array Value) (w : World) : (callFunc 46 args).run Tryz.prog w = .ok (.enter 46 args) w := enters_isSome Tryz.func46 (by kernel_rfl) (by kernel_rfl) args w
set_option maxRecDepth 20000 in
set_option maxHeartbeats 6400000 in
theorem i_PlacesIn (A : Option Addr) (n c : Nat) (ps : List Pl) (y : Int) (w : World) (h : SlAt w 5 encQ A ps) (hp : Places w ps) (hn : n = ps.length) (hl : n ≤ 1000) (hm : Mx w) (hr : rgB (psD ps) = true) (hy : inB y (-3000) 3000 = true) :
    Calls Tryz.prog 18 #[.slice A n c, .int .i64 y] w fun e w' => ∃ v, e = .returned (.tuple #[v, .int .i64 0]) ∧ OwS w' w.heap.size v (cdsP (fun d => exB d y) (psD ps)) ∧ Ext w w' := by
  have HC := Lib.hid (fun W (hW : Ext w W) => i_registerCode_ok A n c ps y W (h.ext hW) (hp.ext hW) hn (by omega) (hm.ext hW) hr hy)
  have HI : Hid (∀ W b5, Ext w W → Blk W b5 2 #[.int .i64 y] → Calls Tryz.prog 22 #[.slice A n c, .func (.func 46) #[] #[.pointer (some ⟨b5, 0, none⟩)]] W fun e w' => ∃ v, e = .returned v ∧ OwS w' W.heap.size v (cdsP (fun d => exB d y) (psD ps)) ∧ Ext W w') := Lib.hid (fun W b5 hW h5 =>
    i_codesOf (fun d => exB d y) _ _ en_PlacesIn1 A n c ps W (h.ext hW) hn hl (fun p _ W' hW' => i_PlacesIn1 p y b5 W' ((h5.ext hW').cell 0)))
  generalize cdsP (fun d => exB d y) (psD ps) = res at *
  clear h hp hn hl hm hr hy
  go_enter Tryz.func18, Tryz.ntmps18
  (go_wp2_with fail; refine (HC.out _ (by (with_reducible repeat (first | exact Ext.refl _ | assumption | (apply Src.ext; assumption) | refine Ext.alloc ?_ _ | refine Ext.drew ?_ | refine Ext.drewN ?_ _ | (refine Ext.setCell' ?_ ?_ _; solve | omega | simp | (simp; omega)) | refine Ext.trans ?_ (by assumption))))).mono ?_; rintro e w1 ⟨rfl, hx1⟩; obtain ⟨hc1, hf1⟩ := hx1.rules; have hs1 := hx1.size; (try simp at hs1); have := (show w.heap.size < w1.heap.size from by omega))
  have HB := Lib.hid (show Blk w1 w.heap.size 2 #[.int .i64 y] from Blk.eq (by (with_reducible repeat (first | assumption | (apply Blk.new; solve | simp | with_unfolding_all rfl) | apply Blk.drew | apply Blk.drewN | (apply Blk.far'; solve | omega | simp | (simp; omega)) | apply Blk.set_ | apply Blk.alloc | (apply Blk.ext'; assumption) | (apply Blk.but'; assumption; solve | omega | (simp; omega))))) (by rfl))
  go_wp2_with fail
  refine (HI.out _ _ (by (with_reducible repeat (first | exact Ext.refl _ | assumption | (apply Src.ext; assumption) | refine Ext.alloc ?_ _ | refine Ext.drew ?_ | refine Ext.drewN ?_ _ | (refine Ext.setCell' ?_ ?_ _; solve | omega | simp | (simp; omega)) | refine Ext.trans ?_ (by assumption)))) (HB.out.ext (by (with_reducible repeat (first | exact Ext.refl _ | assumption | (apply Src.ext; assumption) | refine Ext.alloc ?_ _ | refine Ext.drew ?_ | refine Ext.drewN ?_ _ | (refine Ext.setCell' ?_ ?_ _; solve | omega | simp | (simp; omega)) | refine Ext.trans ?_ (by assumption)))))).mono ?_
  rintro e w2 ⟨v, rfl, hO, hx2⟩
  have HO := Lib.hid hO
  have hs0 : w.heap.size ≤ w1.heap.size := by omega
  clear hO
  go_wp2
  go_ret2
  exact ⟨_, rfl, HO.out.less (by first | exact hs0 | (simp; omega)), by (with_reducible repeat (first | exact Ext.refl _ | assumption | (apply Src.ext; assumption) | refine Ext.alloc ?_ _ | refine Ext.drew ?_ | refine Ext.drewN ?_ _ | (refine Ext.setCell' ?_ ?_ _; solve | omega | simp | (simp; omega)) | refine Ext.trans ?_ (by assumption)))⟩
set_option maxRecDepth 20000 in
set_option maxHeartbeats 6400000 in
theorem i_NameOf (A A9 : Option Addr) (n c r c9 : Nat) (ps : List Pl) (x : List UInt8) (d : Pd) (ls : List (List UInt8)) (y : Int) (w : World) (h : SlAt w 5 encQ A ps) (hp : Places w ps) (hn : n = ps.length) (hl : n ≤ 1000) (hm : Mx w) (hr : rgB (psD ps) = true) (hy : inB y (-3000) 3000 = true)
    (h9 : SlAt w 1 encS A9 ls) (hr9 : r = ls.length) (hrl : r ≤ 1048576) (hs : ∀ s ∈ ls, s.length ≤ 1048576) (hls : lgB ls = true) (hx : smL x 1 16 = true) (hxl : x.length ≤ 1048576) (hf : fndP (psD ps) x = some d) :
    Calls Tryz.prog 17 #[.slice A n c, .string (tx x), .slice A9 r c9, .int .i64 y] w fun e w' => e = .returned (.tuple #[.string (tx (nmO d ls y)), .int .i64 0]) ∧ Ext w w' := by
  have ha := asc_of hr
  have HC := Lib.hid (fun W (hW : Ext w W) => i_registerCode_ok A n c ps y W (h.ext hW) (hp.ext hW) hn (by omega) (hm.ext hW) hr hy)
  have HW : Hid (∀ W, Calls Tryz.prog 38 #[.string (tx x)] W fun e w' => e = .returned (.bool true) ∧ Ext W w') := Lib.hid (fun W => by
    have := i_IsWord (tx x) W (by rw [tx_size]; omega)
    rwa [smB_tx, hx] at this)
  have HL : Hid (∀ W, Ext w W → Calls Tryz.prog 32 #[.slice A9 r c9] W fun e w' => e = .returned (.bool true) ∧ Ext W w') := Lib.hid (fun W hW => by
    have := i_areLanguages A9 r c9 ls W (h9.ext hW) hr9 hrl hs
    rwa [hls] at this)
  have HF := Lib.hid (fun W (hW : Ext w W) => i_findPlace A n c ps x W (h.ext hW) hn (by omega) ha)
  have HH := Lib.hid h
  have HP := Lib.hid hp
  have H9 := Lib.hid h9
  have HFD := Lib.hid hf
  have hs1 : (fndP (psD ps) x).isSome = true := by rw [hf]; rfl
  rw [hs1] at HF
  have HN := Lib.hid hn
  have HR9 := Lib.hid hr9
  clear h hp h9 hf hs1 hm hr hy hls hx hs hn hr9
  go_enter Tryz.func17, Tryz.ntmps17
  (go_wp2_with fail; refine (HW.out _).mono ?_; rintro e w1 ⟨rfl, hx1⟩; obtain ⟨hc1, hf1⟩ := hx1.rules; have hs1 := hx1.size; (try simp at hs1))
  (go_wp2_with fail; refine (HL.out _ (by (with_reducible repeat (first | exact Ext.refl _ | assumption | (apply Src.ext; assumption) | refine Ext.alloc ?_ _ | refine Ext.drew ?_ | refine Ext.drewN ?_ _ | (refine Ext.setCell' ?_ ?_ _; solve | omega | simp | (simp; omega)) | refine Ext.trans ?_ (by assumption))))).mono ?_; rintro e w2 ⟨rfl, hx2⟩; obtain ⟨hc2, hf2⟩ := hx2.rules; have hs2 := hx2.size; (try simp at hs2))
  (go_wp2_with fail; refine (HC.out _ (by (with_reducible repeat (first | exact Ext.refl _ | assumption | (apply Src.ext; assumption) | refine Ext.alloc ?_ _ | refine Ext.drew ?_ | refine Ext.drewN ?_ _ | (refine Ext.setCell' ?_ ?_ _; solve | omega | simp | (simp; omega)) | refine Ext.trans ?_ (by assumption))))).mono ?_; rintro e w3 ⟨rfl, hx3⟩; obtain ⟨hc3, hf3⟩ := hx3.rules; have hs3 := hx3.size; (try simp at hs3))
  go_wp2_with fail
  refine (HF.out _ (by (with_reducible repeat (first | exact Ext.refl _ | assumption | (apply Src.ext; assumption) | refine Ext.alloc ?_ _ | refine Ext.drew ?_ | refine Ext.drewN ?_ _ | (refine Ext.setCell' ?_ ?_ _; solve | omega | simp | (simp; omega)) | refine Ext.trans ?_ (by assumption))))).mono ?_
  rintro e w4 ⟨k, hk, hkn, rfl, hx4⟩
  obtain ⟨hkl, _, hkd⟩ := hk trivial
  have hX4 : Ext w w4 := by (with_reducible repeat (first | exact Ext.refl _ | assumption | (apply Src.ext; assumption) | refine Ext.alloc ?_ _ | refine Ext.drew ?_ | refine Ext.drewN ?_ _ | (refine Ext.setCell' ?_ ?_ _; solve | omega | simp | (simp; omega)) | refine Ext.trans ?_ (by assumption)))
  rw [HFD.out] at hkd
  injection hkd with hkd
  subst hkd
  have hkn2 : k < n := by rw [HN.out]; exact hkl
  have HNO := Lib.hid (fun W (hW : Ext w W) => i_nameOf (ps.getD k plD) A9 r c9 ls y W ((HP.out _ (pl_mem hkl)).ext hW) (H9.out.ext hW) HR9.out hrl)
  obtain ⟨b, off, rfl, hb, d0, d1, d2, d3, d4⟩ := (HH.out.ext hX4).pl hkl
  clear hk hkl HFD HP HH
  obtain ⟨p, hpe⟩ : ∃ p, p = ps.getD k plD := ⟨_, rfl⟩
  rw [← hpe] at d0 d1 d2 d3 d4 HNO
  have HPE := Lib.hid hpe
  clear hpe
  go_wp2_with fail
  refine (HNO.out _ (by (with_reducible repeat (first | exact Ext.refl _ | assumption | (apply Src.ext; assumption) | refine Ext.alloc ?_ _ | refine Ext.drew ?_ | refine Ext.drewN ?_ _ | (refine Ext.setCell' ?_ ?_ _; solve | omega | simp | (simp; omega)) | refine Ext.trans ?_ (by assumption))))).mono ?_
  rintro e w5 ⟨rfl, hx5⟩
  go_wp2
  go_ret2
  exact ⟨by rw [← HPE.out]; rfl, by (with_reducible repeat (first | exact Ext.refl _ | assumption | (apply Src.ext; assumption) | refine Ext.alloc ?_ _ | refine Ext.drew ?_ | refine Ext.drewN ?_ _ | (refine Ext.setCell' ?_ ?_ _; solve | omega | simp | (simp; omega)) | refine Ext.trans ?_ (by assumption)))⟩
end Go.Proofs.YtbnkiibjhfcffaaGreatDoor
