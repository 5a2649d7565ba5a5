/- Contracts of the rings: borders, exported functions, walked over the translation. -/
import Derived.Test.YteppjdoggjcdoaaU
import Derived.Test.YteppjdoggjcdoaaW
import Derived.Deep.DeepCutAuto
import Derived.RegionTactic
import Derived.BigRegion
import Derived.WalkLawsBesides
import Derived.WalkSpells
import Derived.Lib.MinMax
import Derived.Outline
namespace Go.Proofs.Yteppjdoggjcdoaa
open Go.RowKit
attribute [local go_sem] ExtOf.cell ExtOf.frozen





def gcdI (x z : Int) : Nat := Nat.gcd x.natAbs z.natAbs
theorem gcd_le (a b : Nat) : Nat.gcd a b ≤ a + b := by
  rcases Nat.eq_zero_or_pos a with h | h
  · subst h; simp
  · have := Nat.gcd_le_left b h; omega
theorem i_absN (x : Int) (w : World) (h : -1000000000 ≤ x) (h' : x ≤ 1000000000) : Calls Try.prog 61 #[.int .i64 x] w fun e w' => e = .returned (.int .i64 (x.natAbs : Int)) ∧ w = w' := by
  have := i_abs x w
  rwa [show absW x = (x.natAbs : Int) by unfold absW wrap64; omega] at this
theorem s_absN (x : Int) (w : World) (h : -1000000000 ≤ x) (h' : x ≤ 1000000000) : Calls Try.prog 63 #[.int .i64 x] w fun e w' => e = .returned (.int .i64 (x.natAbs : Int)) ∧ w = w' := by
  have := s_abs x w
  rwa [show absW x = (x.natAbs : Int) by unfold absW wrap64; omega] at this
theorem gcd_step {a b g : Nat} (h : Hid (Nat.gcd a b = g)) : Hid (Nat.gcd b (a % b) = g) := by
  show _ = _
  rw [← h.out, Nat.gcd_comm b, ← Nat.gcd_rec, Nat.gcd_comm]
theorem i_gcd (a b : Nat) (w : World) (ha : a ≤ 1000000) (hb : b ≤ 1000000) : Calls Try.prog 114 #[.int .i64 a, .int .i64 b] w fun e w' => e = .returned (.int .i64 (Nat.gcd a b : Nat)) ∧ Ext w w' := by
  obtain ⟨g, hg⟩ : ∃ g, Nat.gcd a b = g := ⟨_, rfl⟩
  rw [hg]
  have HG := Lib.hid hg
  clear hg
  go_enter Try.func114, Try.ntmps114
  go_wp2
  go_loopw [0, 1] (fun s u wr => ∃ x y : Nat, x ≤ 1000000 ∧ y ≤ 1000000 ∧ s = .int .i64 x ∧ u = .int .i64 y ∧ Hid (Nat.gcd x y = g) ∧ Ext w wr) (fun _ u _ => (intOf u).toNat)
  case atStart => exact ⟨a, b, ha, hb, rfl, rfl, HG, by (repeat (first | with_reducible exact Ext.refl _ | with_reducible assumption | ((with_reducible apply Src.ext); with_reducible assumption) | with_reducible refine Ext.alloc ?_ _ | with_reducible refine Ext.drew ?_ | with_reducible refine Ext.drewN ?_ _ | ((with_reducible refine Ext.setCell' ?_ ?_ _); solve | omega | simp | (simp; omega)) | (with_reducible refine Ext.trans ?_ (by with_reducible assumption))))⟩
  case round =>
    obtain ⟨x, y, hx, hy, rfl, rfl, HXY, hxw⟩ := hrel
    by_cases h0 : y = 0
    · subst h0
      have hb0 : ((0 : Nat) : Int) = 0 := rfl
      rw [hb0]
      go_wp2
      go_ret
      exact ⟨ret_int (by rw [← HXY.out, Nat.gcd_zero_right]), by (repeat (first | with_reducible exact Ext.refl _ | with_reducible assumption | ((with_reducible apply Src.ext); with_reducible assumption) | with_reducible refine Ext.alloc ?_ _ | with_reducible refine Ext.drew ?_ | with_reducible refine Ext.drewN ?_ _ | ((with_reducible refine Ext.setCell' ?_ ?_ _); solve | omega | simp | (simp; omega)) | (with_reducible refine Ext.trans ?_ (by with_reducible assumption))))⟩
    · have h1 : ((y : Int) != 0) = true := by rw [bne_iff_ne]; omega
      have h2 : ((y : Int) == 0) = false := by rw [beq_eq_false_iff_ne]; omega
      have h3 : x % y < y := Nat.mod_lt _ (by omega)
      have h4 : 0 < y := by omega
      clear h0
      go_wp2
      (refine wp_region_ext (by kernel_rfl) (by kernel_rfl) ?_; (repeat (go_big_quiet_step (fail))); refine wpQuiet_nil ?_; intro wq hxwq; obtain ⟨hcwq, hfwq⟩ := hxwq.rules; have hswq := hxwq.size; (try simp at hswq))
      go_wp2
      go_roundw
      case rel => exact ⟨y, x % y, by omega, by omega, rfl, by go_num, gcd_step HXY, by (repeat (first | with_reducible exact Ext.refl _ | with_reducible assumption | ((with_reducible apply Src.ext); with_reducible assumption) | with_reducible refine Ext.alloc ?_ _ | with_reducible refine Ext.drew ?_ | with_reducible refine Ext.drewN ?_ _ | ((with_reducible refine Ext.setCell' ?_ ?_ _); solve | omega | simp | (simp; omega)) | (with_reducible refine Ext.trans ?_ (by with_reducible assumption))))⟩
      case measure => simp [intOf]; omega

def edgeG (ps : List (Int × Int)) (k : Int) : Nat := gcdI (ptx ps (k + 1) - ptx ps k) (ptz ps (k + 1) - ptz ps k)
theorem edgeG_sym (ps : List (Int × Int)) (k : Int) : Hid (Nat.gcd (ptx ps k - ptx ps (k + 1)).natAbs (ptz ps k - ptz ps (k + 1)).natAbs = edgeG ps k) := by
  show _ = _
  unfold edgeG gcdI
  rw [← Int.natAbs_neg (ptx ps k - ptx ps (k + 1)), ← Int.natAbs_neg (ptz ps k - ptz ps (k + 1)), Int.neg_sub, Int.neg_sub]
def borderTo (ps : List (Int × Int)) : Nat → Int
  | 0 => 0
  | k + 1 => borderTo ps k + (edgeG ps k : Int)
theorem edgeG_bd {ps : List (Int × Int)} (h : oks ps = true) (k : Int) : edgeG ps k ≤ 4000 := by
  have a := ptx_bd h k
  have b := ptx_bd h (k + 1)
  have c := ptz_bd h k
  have d := ptz_bd h (k + 1)
  have := gcd_le (ptx ps (k + 1) - ptx ps k).natAbs (ptz ps (k + 1) - ptz ps k).natAbs
  unfold edgeG gcdI
  omega
theorem borderTo_bd {ps : List (Int × Int)} (h : oks ps = true) : ∀ k : Nat, 0 ≤ borderTo ps k ∧ borderTo ps k ≤ 4000 * (k : Int)
  | 0 => by simp [borderTo]
  | k + 1 => by
    have h1 := borderTo_bd h k
    have h2 := edgeG_bd h k
    simp only [borderTo]
    omega
def borderZ (ps : List (Int × Int)) : Int := borderTo ps ps.length
set_option maxHeartbeats 800000 in
theorem i_onBorder (A : Option Addr) (c : Nat) (ps : List (Int × Int)) (w : World) (h : SlAt w 2 encP A ps) (h0 : 0 < ps.length) (hl : ps.length ≤ 1000) (ho : oks ps = true) :
    Calls Try.prog 65 #[.slice A ps.length c] w fun e w' => e = .returned (.int .i64 (borderZ ps)) ∧ Ext w w' := by
  obtain ⟨b, off, rfl, hb0⟩ := h.open_ h0
  have HO := Lib.hid ho
  clear ho
  go_enter Try.func65, Try.ntmps65
  go_wp2
  go_loopw [3, 9] (fun s i wr => ∃ k : Nat, k ≤ ps.length ∧ i = .int .i64 k ∧ s = .int .i64 (borderTo ps k) ∧ Ext w wr) (fun _ i _ => ps.length - (intOf i).toNat)
  case atStart => exact ⟨0, Nat.zero_le _, rfl, rfl, by (repeat (first | with_reducible exact Ext.refl _ | with_reducible assumption | ((with_reducible apply Src.ext); with_reducible assumption) | with_reducible refine Ext.alloc ?_ _ | with_reducible refine Ext.drew ?_ | with_reducible refine Ext.drewN ?_ _ | ((with_reducible refine Ext.setCell' ?_ ?_ _); solve | omega | simp | (simp; omega)) | (with_reducible refine Ext.trans ?_ (by with_reducible assumption))))⟩
  case round =>
    obtain ⟨k, hk, rfl, rfl, hx⟩ := hrel
    by_cases hlt : k < ps.length
    · have hS := h.ext hx
      obtain ⟨d0, d1⟩ := hS.ring hlt
      have hbr := Nat.lt_of_lt_of_le hb0 hx.size
      have m0 := ptx_bd HO.out k
      have m1 := ptx_bd HO.out (k + 1)
      have m2 := ptz_bd HO.out k
      have m3 := ptz_bd HO.out (k + 1)
      have m4 := borderTo_bd HO.out k
      have m5 := edgeG_bd HO.out k
      have HE := Lib.hid (show Nat.gcd (ptx ps (k + 1) - ptx ps k).natAbs (ptz ps (k + 1) - ptz ps k).natAbs = edgeG ps k from rfl)
      go_wp2_with (first | (go_at_call 113; refine (i_corner _ _ ps _ _ (hS.ext (by (repeat (first | with_reducible exact Ext.refl _ | with_reducible assumption | ((with_reducible apply Src.ext); with_reducible assumption) | with_reducible refine Ext.alloc ?_ _ | with_reducible refine Ext.drew ?_ | with_reducible refine Ext.drewN ?_ _ | ((with_reducible refine Ext.setCell' ?_ ?_ _); solve | omega | simp | (simp; omega)) | (with_reducible refine Ext.trans ?_ (by with_reducible assumption)))))) h0 (by omega) (by omega) (by omega)).mono ?_; rintro e w1 ⟨rfl, hx1⟩; obtain ⟨hc1, hf1⟩ := hx1.rules; have hs1 := hx1.size; (try simp at hs1); have := (show wr.heap.size < w1.heap.size from by omega)))
      (refine wp_region_ext (by kernel_rfl) (by kernel_rfl) ?_; (repeat (go_big_quiet_step (first | (go_at_call 61; exact Calls_same (i_absN _ _ (by omega) (by omega))) | (go_at_call 114; exact Calls_ext (as_int (i_gcd _ _ _ (by omega) (by omega)) (congrArg Int.ofNat HE.out)))))); refine wpQuiet_nil ?_; intro wq hxwq; obtain ⟨hcwq, hfwq⟩ := hxwq.rules; have hswq := hxwq.size; (try simp at hswq))
      go_wp2
      go_roundw
      case rel => exact ⟨k + 1, by omega, by go_num, rfl, by (repeat (first | with_reducible exact Ext.refl _ | with_reducible assumption | ((with_reducible apply Src.ext); with_reducible assumption) | with_reducible refine Ext.alloc ?_ _ | with_reducible refine Ext.drew ?_ | with_reducible refine Ext.drewN ?_ _ | ((with_reducible refine Ext.setCell' ?_ ?_ _); solve | omega | simp | (simp; omega)) | (with_reducible refine Ext.trans ?_ (by with_reducible assumption))))⟩
      case measure => simp [intOf]; omega
    · go_wp2
      go_ret
      obtain rfl : k = ps.length := by omega
      exact ⟨rfl, by (repeat (first | with_reducible exact Ext.refl _ | with_reducible assumption | ((with_reducible apply Src.ext); with_reducible assumption) | with_reducible refine Ext.alloc ?_ _ | with_reducible refine Ext.drew ?_ | with_reducible refine Ext.drewN ?_ _ | ((with_reducible refine Ext.setCell' ?_ ?_ _); solve | omega | simp | (simp; omega)) | (with_reducible refine Ext.trans ?_ (by with_reducible assumption))))⟩
set_option maxHeartbeats 1600000 in
theorem s_l16Border (A : Option Addr) (c : Nat) (ps : List (Int × Int)) (w : World) (h : SlAt w 2 encP A ps) (h0 : 0 < ps.length) (hl : ps.length ≤ 1000) (ho : oks ps = true) :
    Calls Try.prog 66 #[.slice A ps.length c] w fun e w' => e = .returned (.int .i64 (borderZ ps)) ∧ Ext w w' := by
  obtain ⟨b, off, rfl, hb0⟩ := h.open_ h0
  have HO := Lib.hid ho
  clear ho
  go_enter Try.func66, Try.ntmps66
  go_wp2
  go_loopw [3, 4] (fun s i wr => ∃ k : Nat, k ≤ ps.length ∧ i = .int .i64 k ∧ s = .int .i64 (borderTo ps k) ∧ Ext w wr) (fun _ i _ => ps.length - (intOf i).toNat)
  case atStart => exact ⟨0, Nat.zero_le _, rfl, rfl, by (repeat (first | with_reducible exact Ext.refl _ | with_reducible assumption | ((with_reducible apply Src.ext); with_reducible assumption) | with_reducible refine Ext.alloc ?_ _ | with_reducible refine Ext.drew ?_ | with_reducible refine Ext.drewN ?_ _ | ((with_reducible refine Ext.setCell' ?_ ?_ _); solve | omega | simp | (simp; omega)) | (with_reducible refine Ext.trans ?_ (by with_reducible assumption))))⟩
  case round =>
    obtain ⟨k, hk, rfl, rfl, hx⟩ := hrel
    by_cases hlt : k < ps.length
    · have hS := h.ext hx
      obtain ⟨d0, d1⟩ := hS.ring hlt
      have hbr := Nat.lt_of_lt_of_le hb0 hx.size
      have m0 := ptx_bd HO.out k
      have m1 := ptx_bd HO.out (k + 1)
      have m2 := ptz_bd HO.out k
      have m3 := ptz_bd HO.out (k + 1)
      have m4 := borderTo_bd HO.out k
      have m5 := edgeG_bd HO.out k
      (have := (show b < wr.heap.size + 1 from by omega); have := (show b < wr.heap.size + 1 + 1 from by omega); have := (show b < wr.heap.size + 1 + 1 + 1 from by omega))
      have n1 : ¬ b = wr.heap.size := by omega
      have n2 : ¬ wr.heap.size = b := by omega
      have n3 : ¬ b = wr.heap.size + 1 := by omega
      have n4 : ¬ wr.heap.size + 1 = b := by omega
      have hw1 : IntKind.i64.wrap ((k : Int) + 1) = (k : Int) + 1 := IntWalk.i64_in _ (by omega)
      go_upto_region 5 with (fail)
      go_cut [5, 6] (fun p q wx => ∃ b5 b6 : Nat, p = .pointer (some ⟨b5, 0, none⟩) ∧ q = .pointer (some ⟨b6, 0, none⟩) ∧ Blk wx b5 33 #[.int .i64 (ptx ps k), .int .i64 (ptz ps k)] ∧ Blk wx b6 33 #[.int .i64 (ptx ps (k + 1)), .int .i64 (ptz ps (k + 1))] ∧ Ext wr wx)
      case first =>
        go_region_held3 (fun w' => w'.cell? ⟨b, off + k * 2, none⟩ = some (.int .i64 (ptx ps k)) ∧ w'.cell? ⟨b, off + k * 2 + 1, none⟩ = some (.int .i64 (ptz ps k))) (go_keep) (first | ((go_at_call 70; refine (s_corner _ _ ps _ _ (hS.ext (by (repeat (first | with_reducible exact Ext.refl _ | with_reducible assumption | ((with_reducible apply Src.ext); with_reducible assumption) | with_reducible refine Ext.alloc ?_ _ | with_reducible refine Ext.drew ?_ | with_reducible refine Ext.drewN ?_ _ | ((with_reducible refine Ext.setCell' ?_ ?_ _); solve | omega | simp | (simp; omega)) | (with_reducible refine Ext.trans ?_ (by with_reducible assumption)))))) h0 (by omega) (by omega) (by omega)).mono ?_; rintro e w1 ⟨rfl, hx1⟩; obtain ⟨hc1, hf1⟩ := hx1.rules; have hs1 := hx1.size; (try simp at hs1); have hl1 : ∀ n, n < _ → n < w1.heap.size := fun n h => Nat.lt_of_lt_of_le h hx1.size; have := (show b < w1.heap.size from by omega)); have k0 := (hx1.cell b (off + k * 2) (by simp; omega)).trans (show _ = some (.int .i64 (ptx ps k)) by simp [*]); have k1 := (hx1.cell b (off + k * 2 + 1) (by simp; omega)).trans (show _ = some (.int .i64 (ptz ps k)) by simp [*]); (have := (show b < w1.heap.size + 1 from by omega); have := (show b < w1.heap.size + 1 + 1 from by omega)); have := (show ¬ b = w1.heap.size from by omega); have := (show ¬ w1.heap.size = b from by omega); have := (show ¬ b = w1.heap.size + 1 from by omega); have := (show ¬ w1.heap.size + 1 = b from by omega)))
        all_goals (go_wp2_with fail; go_meet; exact ⟨_, _, rfl, rfl, Blk.eq (by (repeat (first | with_reducible assumption | ((with_reducible apply Blk.new); solve | simp | rfl) | with_reducible apply Blk.drew | with_reducible apply Blk.drewN | ((with_reducible apply Blk.far'); solve | omega | simp | (simp; omega)) | with_reducible apply Blk.set_ | with_reducible apply Blk.alloc | ((with_reducible apply Blk.ext'); with_reducible assumption) | ((with_reducible apply Blk.but'); (with_reducible assumption); solve | omega | (simp; omega))))) (by rfl), Blk.eq (by (repeat (first | with_reducible assumption | ((with_reducible apply Blk.new); solve | simp | rfl) | with_reducible apply Blk.drew | with_reducible apply Blk.drewN | ((with_reducible apply Blk.far'); solve | omega | simp | (simp; omega)) | with_reducible apply Blk.set_ | with_reducible apply Blk.alloc | ((with_reducible apply Blk.ext'); with_reducible assumption) | ((with_reducible apply Blk.but'); (with_reducible assumption); solve | omega | (simp; omega))))) (by rfl), by (repeat (first | with_reducible exact Ext.refl _ | with_reducible assumption | ((with_reducible apply Src.ext); with_reducible assumption) | with_reducible refine Ext.alloc ?_ _ | with_reducible refine Ext.drew ?_ | with_reducible refine Ext.drewN ?_ _ | ((with_reducible refine Ext.setCell' ?_ ?_ _); solve | omega | simp | (simp; omega)) | (with_reducible refine Ext.trans ?_ (by with_reducible assumption))))⟩)
      case rest =>
      obtain ⟨b5, b6, rfl, rfl, B5, B6, hxc⟩ := hcut
      have e0 : wc.cell? ⟨b5, 0, none⟩ = some (.int .i64 (ptx ps k)) := B5.cell 0
      have e1 : wc.cell? ⟨b5, 1, none⟩ = some (.int .i64 (ptz ps k)) := B5.cell 1
      have e2 : wc.cell? ⟨b6, 0, none⟩ = some (.int .i64 (ptx ps (k + 1))) := B6.cell 0
      have e3 : wc.cell? ⟨b6, 1, none⟩ = some (.int .i64 (ptz ps (k + 1))) := B6.cell 1
      have z5 := B5.lt
      have z6 := B6.lt
      go_wp2
      (refine wp_region_ext (by kernel_rfl) (by kernel_rfl) ?_; (repeat (go_big_quiet_step (first | (go_at_call 63; exact Calls_same (s_absN _ _ (by omega) (by omega)))))); refine wpQuiet_nil ?_; intro wq hxwq; obtain ⟨hcwq, hfwq⟩ := hxwq.rules; have hswq := hxwq.size; (try simp at hswq))
      go_wp2
      obtain ⟨wo, hwo⟩ : ∃ wo : World, wo = wr := ⟨_, rfl⟩
      have HW := Lib.hid hwo
      clear hwo
      go_loopw [7, 8] (fun s u wr2 => ∃ x y : Nat, x ≤ 1000000 ∧ y ≤ 1000000 ∧ s = .int .i64 x ∧ u = .int .i64 y ∧ Hid (Nat.gcd x y = edgeG ps k) ∧ Ext w wr2) (fun _ u _ => (intOf u).toNat)
      case atStart => exact ⟨(ptx ps k - ptx ps (k + 1)).natAbs, (ptz ps k - ptz ps (k + 1)).natAbs, by omega, by omega, rfl, rfl, edgeG_sym ps k, by (repeat (first | with_reducible exact Ext.refl _ | with_reducible assumption | ((with_reducible apply Src.ext); with_reducible assumption) | with_reducible refine Ext.alloc ?_ _ | with_reducible refine Ext.drew ?_ | with_reducible refine Ext.drewN ?_ _ | ((with_reducible refine Ext.setCell' ?_ ?_ _); solve | omega | simp | (simp; omega)) | (with_reducible refine Ext.trans ?_ (by with_reducible assumption))))⟩
      case round =>
        obtain ⟨x, y, hx, hy, rfl, rfl, HXY, hxw⟩ := hrel
        by_cases h0 : y = 0
        · subst h0
          have hb0 : ((0 : Nat) : Int) = 0 := rfl
          rw [hb0]
          have hxe : x = edgeG ps k := by rw [← HXY.out, Nat.gcd_zero_right]
          have HXE := Lib.hid hxe
          clear hxe
          go_wp2
          go_roundw
          case rel => exact ⟨k + 1, by omega, by go_num, by rw [HXE.out]; rfl, by (repeat (first | with_reducible exact Ext.refl _ | with_reducible assumption | ((with_reducible apply Src.ext); with_reducible assumption) | with_reducible refine Ext.alloc ?_ _ | with_reducible refine Ext.drew ?_ | with_reducible refine Ext.drewN ?_ _ | ((with_reducible refine Ext.setCell' ?_ ?_ _); solve | omega | simp | (simp; omega)) | (with_reducible refine Ext.trans ?_ (by with_reducible assumption))))⟩
          case measure => simp [intOf]; omega
        · have h1 : ((y : Int) != 0) = true := by rw [bne_iff_ne]; omega
          have h2 : ((y : Int) == 0) = false := by rw [beq_eq_false_iff_ne]; omega
          have h3 : x % y < y := Nat.mod_lt _ (by omega)
          have h4 : 0 < y := by omega
          clear h0
          go_wp2
          (refine wp_region_ext (by kernel_rfl) (by kernel_rfl) ?_; (repeat (go_big_quiet_step (fail))); refine wpQuiet_nil ?_; intro wp hxwp; obtain ⟨hcwp, hfwp⟩ := hxwp.rules; have hswp := hxwp.size; (try simp at hswp))
          go_wp2
          go_roundw
          case rel => exact ⟨y, x % y, by omega, by omega, rfl, by go_num, gcd_step HXY, by (repeat (first | with_reducible exact Ext.refl _ | with_reducible assumption | ((with_reducible apply Src.ext); with_reducible assumption) | with_reducible refine Ext.alloc ?_ _ | with_reducible refine Ext.drew ?_ | with_reducible refine Ext.drewN ?_ _ | ((with_reducible refine Ext.setCell' ?_ ?_ _); solve | omega | simp | (simp; omega)) | (with_reducible refine Ext.trans ?_ (by with_reducible assumption))))⟩
          case measure => simp [intOf]; omega
    · go_wp2
      go_ret
      obtain rfl : k = ps.length := by omega
      exact ⟨rfl, by (repeat (first | with_reducible exact Ext.refl _ | with_reducible assumption | ((with_reducible apply Src.ext); with_reducible assumption) | with_reducible refine Ext.alloc ?_ _ | with_reducible refine Ext.drew ?_ | with_reducible refine Ext.drewN ?_ _ | ((with_reducible refine Ext.setCell' ?_ ?_ _); solve | omega | simp | (simp; omega)) | (with_reducible refine Ext.trans ?_ (by with_reducible assumption))))⟩
end Go.Proofs.Yteppjdoggjcdoaa
