/- The laws' own source of numbers: dice rolled from a code. -/
import Derived.Test.YtncccigbiefnkaaGreatDoorG0
import Derived.WalkSmall
import Derived.WalkArith
import Derived.Deep.RegionHeld3
import Derived.Deep.DeepCutAuto
import Derived.RegionTactic
import Derived.BigRegion
import Derived.WalkLawsBesides
import Derived.WalkSpells
import Derived.Lib.MinMax
import Derived.Outline
namespace Go.Proofs.YtncccigbiefnkaaGreatDoor
open Go.RowKit
attribute [local go_sem] ExtOf.cell ExtOf.frozen

theorem u64_rng (x : Int) : 0 ≤ IntKind.u64.wrap x ∧ IntKind.u64.wrap x ≤ 18446744073709551615 := by
  simp [IntKind.wrap, IntKind.bits, IntKind.signed]
  omega
theorem and24 {y : Int} (h0 : 0 ≤ y) (h1 : y ≤ 18446744073709551615) : 0 ≤ bits BinOp.and IntKind.u64 y 16777215 ∧ bits BinOp.and IntKind.u64 y 16777215 ≤ 16777215 := by
  have h := bits_and_u64_nat y.toNat 16777215 (by omega) (by omega)
  rw [Int.toNat_of_nonneg h0] at h
  have h2 : y.toNat &&& 16777215 ≤ 16777215 := Nat.and_le_right
  have e : bits BinOp.and IntKind.u64 y 16777215 = ((y.toNat &&& 16777215 : Nat) : Int) := h
  rw [e]
  omega
/-- g holds dice rolled from the code bs, made after a -/
structure Dic (a : World) (A : Option Addr) (c : Nat) (bs : List Int) (g : Nat) (w : World) : Prop where
  ext : Ext a w
  own : a.heap.size ≤ g
  code : SlAt a 1 encB A bs
  byt : ∀ b ∈ bs, 0 ≤ b ∧ b ≤ 255
  len : bs.length ≤ 4096
  blk : ∃ (k : Nat) (s : Int), k ≤ bs.length ∧ 0 ≤ s ∧ s ≤ 18446744073709551615 ∧ Blk w g 118 #[.slice A bs.length c, .int .i64 k, .int .u64 s]
section
variable {a w w' : World} {A : Option Addr} {c : Nat} {bs : List Int} {g : Nat}
theorem Dic.lt (h : Dic a A c bs g w) : g < w.heap.size := by
  obtain ⟨_, _, _, _, _, hB⟩ := h.blk
  exact hB.lt
theorem Dic.on (h : Dic a A c bs g w) (hx : Ext w w') : Dic a A c bs g w' := by
  obtain ⟨k, s, h1, h2, h3, hB⟩ := h.blk
  exact ⟨h.ext.trans hx, h.own, h.code, h.byt, h.len, k, s, h1, h2, h3, hB.ext hx⟩
end
set_option maxHeartbeats 3200000 in
theorem l_roll (A : Option Addr) (c : Nat) (bs : List Int) (sd : Int) (w : World) (h : SlAt w 1 encB A bs) (hb : ∀ b ∈ bs, 0 ≤ b ∧ b ≤ 255) (hl : bs.length ≤ 4096) :
    Calls Tryz.prog 22 #[.slice A bs.length c, .int .u64 sd] w fun e w' => ∃ g, e = .returned (.pointer (some ⟨g, 0, none⟩)) ∧ Dic w A c bs g w' := by
  have HB := Lib.hid hb
  clear hb
  have h0 := u64_rng (IntKind.u64.wrap (sd * 7919) + IntKind.u64.wrap (bs.length : Int))
  have hwl : IntKind.u64.wrap (bs.length : Int) = (bs.length : Int) := IntWalk.u64_in _ (by omega)
  rw [hwl] at h0
  generalize hs0 : IntKind.u64.wrap (IntKind.u64.wrap (sd * 7919) + (bs.length : Int)) = s0 at *
  go_enter Tryz.func22, Tryz.ntmps22
  go_wp2
  go_loopw [6] (fun i wr => ∃ (k : Nat) (s : Int), k ≤ bs.length ∧ 0 ≤ s ∧ s ≤ 18446744073709551615 ∧ i = .int .i64 k ∧ Blk wr w.heap.size 118 #[.slice A bs.length c, .int .i64 0, .int .u64 s] ∧ Ext w wr) (fun i _ => bs.length - (intOf i).toNat)
  case atStart => exact ⟨0, s0, by omega, by omega, by omega, rfl, Blk.eq (by (repeat (first | with_reducible assumption | ((with_reducible apply Blk.new); solve | simp | rfl) | with_reducible apply Blk.drew | with_reducible apply Blk.drewN | ((with_reducible apply Blk.far'); solve | omega | simp | (simp; omega)) | with_reducible apply Blk.set_ | with_reducible apply Blk.alloc | ((with_reducible apply Blk.ext'); with_reducible assumption) | ((with_reducible apply Blk.but'); (with_reducible assumption); solve | omega | (simp; omega))))) (by first | rfl | (rw [← hs0]; rfl) | (simp [hs0])), by (repeat (first | with_reducible exact Ext.refl _ | with_reducible assumption | ((with_reducible apply Src.ext); with_reducible assumption) | with_reducible refine Ext.alloc ?_ _ | with_reducible refine Ext.drew ?_ | with_reducible refine Ext.drewN ?_ _ | ((with_reducible refine Ext.setCell' ?_ ?_ _); solve | omega | simp | (simp; omega)) | (with_reducible refine Ext.trans ?_ (by with_reducible assumption))))⟩
  case round =>
    obtain ⟨k, s, hk, hs0, hs1, rfl, hB, hxr⟩ := hrel
    have f2 : wr.cell? ⟨w.heap.size, 2, none⟩ = some (.int .u64 s) := hB.cell 2
    have z2 := hB.frozen 2
    have zlt := hB.lt
    by_cases hlt : k < bs.length
    · obtain ⟨b, off, y, rfl, hbw, hc, hy0, hy1⟩ := (h.ext hxr).byt hlt HB.out
      have hwy : IntKind.u64.wrap y = y := IntWalk.u64_in _ (by omega)
      have hr := u64_rng (IntKind.u64.wrap (IntKind.u64.wrap (s * 1099511628211) + y) + 3)
      generalize hs2 : IntKind.u64.wrap (IntKind.u64.wrap (IntKind.u64.wrap (s * 1099511628211) + y) + 3) = s2 at *
      go_wp2
      go_region
      go_wp2
      go_roundw
      case rel => exact ⟨k + 1, s2, by omega, by omega, by omega, by go_num, Blk.eq (by (repeat (first | with_reducible assumption | ((with_reducible apply Blk.new); solve | simp | rfl) | with_reducible apply Blk.drew | with_reducible apply Blk.drewN | ((with_reducible apply Blk.far'); solve | omega | simp | (simp; omega)) | with_reducible apply Blk.set_ | with_reducible apply Blk.alloc | ((with_reducible apply Blk.ext'); with_reducible assumption) | ((with_reducible apply Blk.but'); (with_reducible assumption); solve | omega | (simp; omega))))) (by first | rfl | (simp [hs2])), by (repeat (first | with_reducible exact Ext.refl _ | with_reducible assumption | ((with_reducible apply Src.ext); with_reducible assumption) | with_reducible refine Ext.alloc ?_ _ | with_reducible refine Ext.drew ?_ | with_reducible refine Ext.drewN ?_ _ | ((with_reducible refine Ext.setCell' ?_ ?_ _); solve | omega | simp | (simp; omega)) | (with_reducible refine Ext.trans ?_ (by with_reducible assumption))))⟩
      case measure => simp [intOf]; omega
    · go_wp2
      go_ret
      exact ⟨_, rfl, hxr, Nat.le_refl _, h, HB.out, hl, 0, s, by omega, hs0, hs1, hB⟩

set_option maxHeartbeats 3200000 in
theorem l_below {a : World} {A : Option Addr} {c : Nat} {bs : List Int} {g : Nat} (n : Int) (w : World) (h : Dic a A c bs g w) (h0 : 0 < n) (hn : n ≤ 1000000000000) :
    Calls Tryz.prog 23 #[.pointer (some ⟨g, 0, none⟩), .int .i64 n] w fun e w' => ∃ x : Int, e = .returned (.int .i64 x) ∧ (0 ≤ x ∧ x < n) ∧ Dic a A c bs g w' ∧ But g w w' := by
  obtain ⟨hx, hg, hcode, hb, hl, k, s, hk, hs0, hs1, hB⟩ := h
  have HB := Lib.hid hb
  clear hb
  have f0 : w.cell? ⟨g, 0, none⟩ = some (.slice A bs.length c) := hB.cell 0
  have f1 : w.cell? ⟨g, 1, none⟩ = some (.int .i64 k) := hB.cell 1
  have f2 : w.cell? ⟨g, 2, none⟩ = some (.int .u64 s) := hB.cell 2
  have z1 := hB.frozen 1
  have z2 := hB.frozen 2
  have zlt := hB.lt
  have hr := u64_rng (IntKind.u64.wrap (s * 6364136223846793005) + 1442695040888963407)
  generalize hs2 : IntKind.u64.wrap (IntKind.u64.wrap (s * 6364136223846793005) + 1442695040888963407) = s2 at *
  have hd : 0 ≤ s2 / 2 ^ (33 : Nat) ∧ s2 / 2 ^ (33 : Nat) ≤ 18446744073709551615 := by omega
  have ha := and24 hd.1 hd.2
  have hd2 : s2 / 2 ^ (33 : Nat) = s2 / 8589934592 := by omega
  generalize hs3 : bits BinOp.and IntKind.u64 (s2 / 2 ^ (33 : Nat)) 16777215 = s3 at *
  have hs3' : bits BinOp.and IntKind.u64 (s2 / 8589934592) 16777215 = s3 := by rw [← hd2]; exact hs3
  have hw3 : IntKind.i64.wrap s3 = s3 := IntWalk.i64_in _ (by omega)
  by_cases hlt : k < bs.length
  · obtain ⟨b, off, y, rfl, hbw, hc0, hy0, hy1⟩ := hcode.byt hlt HB.out
    have hc := (hx.cell b (off + k) hbw).trans hc0
    have hbr := Nat.lt_of_lt_of_le hbw hx.size
    have n1 : ¬ b = g := by omega
    have n2 : ¬ g = b := by omega
    have hwy : IntKind.i64.wrap y = y := IntWalk.i64_in _ (by omega)
    have hw4 : IntKind.i64.wrap (s3 + y) = s3 + y := IntWalk.i64_in _ (by omega)
    clear hc0
    go_enter Tryz.func23, Tryz.ntmps23
    go_wp2
    repeat (go_quiet (fail); go_wp2)
    all_goals (go_ret; exact ⟨_, rfl, ⟨Int.emod_nonneg _ (by omega), Int.emod_lt_of_pos _ (by omega)⟩, ⟨by (repeat (first | with_reducible exact Ext.refl _ | with_reducible assumption | ((with_reducible apply Src.ext); with_reducible assumption) | with_reducible refine Ext.alloc ?_ _ | with_reducible refine Ext.drew ?_ | with_reducible refine Ext.drewN ?_ _ | ((with_reducible refine Ext.setCell' ?_ ?_ _); solve | omega | simp | (simp; omega)) | (with_reducible refine Ext.trans ?_ (by with_reducible assumption)))), hg, hcode, HB.out, hl, k + 1, s2, by omega, by omega, by omega, Blk.eq (by (repeat (first | with_reducible assumption | ((with_reducible apply Blk.new); solve | simp | rfl) | with_reducible apply Blk.drew | with_reducible apply Blk.drewN | ((with_reducible apply Blk.far'); solve | omega | simp | (simp; omega)) | with_reducible apply Blk.set_ | with_reducible apply Blk.alloc | ((with_reducible apply Blk.ext'); with_reducible assumption) | ((with_reducible apply Blk.but'); (with_reducible assumption); solve | omega | (simp; omega))))) (by first | rfl | (simp [hs2]))⟩, by (repeat (first | with_reducible exact But.refl _ _ | with_reducible assumption | with_reducible refine But.alloc ?_ _ | with_reducible refine But.drew ?_ | with_reducible refine But.drewN ?_ _ | with_reducible refine But.set_ ?_ _ _ | ((with_reducible refine But.new ?_ ?_ _); solve | omega | simp | (simp; omega)) | (with_reducible refine But.trans ?_ (by with_reducible assumption)) | (with_reducible refine But.trans ?_ (But.of (by with_reducible assumption)))))⟩)
  · go_enter Tryz.func23, Tryz.ntmps23
    go_wp2
    repeat (go_quiet (fail); go_wp2)
    all_goals (go_ret; exact ⟨_, rfl, ⟨Int.emod_nonneg _ (by omega), Int.emod_lt_of_pos _ (by omega)⟩, ⟨by (repeat (first | with_reducible exact Ext.refl _ | with_reducible assumption | ((with_reducible apply Src.ext); with_reducible assumption) | with_reducible refine Ext.alloc ?_ _ | with_reducible refine Ext.drew ?_ | with_reducible refine Ext.drewN ?_ _ | ((with_reducible refine Ext.setCell' ?_ ?_ _); solve | omega | simp | (simp; omega)) | (with_reducible refine Ext.trans ?_ (by with_reducible assumption)))), hg, hcode, HB.out, hl, k, s2, by omega, by omega, by omega, Blk.eq (by (repeat (first | with_reducible assumption | ((with_reducible apply Blk.new); solve | simp | rfl) | with_reducible apply Blk.drew | with_reducible apply Blk.drewN | ((with_reducible apply Blk.far'); solve | omega | simp | (simp; omega)) | with_reducible apply Blk.set_ | with_reducible apply Blk.alloc | ((with_reducible apply Blk.ext'); with_reducible assumption) | ((with_reducible apply Blk.but'); (with_reducible assumption); solve | omega | (simp; omega))))) (by first | rfl | (simp [hs2]))⟩, by (repeat (first | with_reducible exact But.refl _ _ | with_reducible assumption | with_reducible refine But.alloc ?_ _ | with_reducible refine But.drew ?_ | with_reducible refine But.drewN ?_ _ | with_reducible refine But.set_ ?_ _ _ | ((with_reducible refine But.new ?_ ?_ _); solve | omega | simp | (simp; omega)) | (with_reducible refine But.trans ?_ (by with_reducible assumption)) | (with_reducible refine But.trans ?_ (But.of (by with_reducible assumption)))))⟩)
end Go.Proofs.YtncccigbiefnkaaGreatDoor
