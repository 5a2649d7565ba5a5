/- Contracts of the the nearest point; laws on lists of points, walked over the translation. -/
import Derived.Test.YtconoaphenahnaaO
import Derived.Deep.RegionHeld3
import Derived.RegionTactic
import Derived.BigRegion
import Derived.WalkLawsBesides
import Derived.WalkSpells
import Derived.Lib.MinMax
import Derived.Outline
namespace Go.Proofs.Ytconoaphenahnaa
open Go.RowKit
attribute [local go_sem] ExtOf.cell ExtOf.frozen





/-- the index of the nearest of the first k points -/
def bst (ps : List (Int × Int)) (px pz : Int) : Nat → Nat
  | 0 => 0
  | k + 1 => if sqW (ps.getD k (0, 0)).1 (ps.getD k (0, 0)).2 px pz < sqW (ps.getD (bst ps px pz k) (0, 0)).1 (ps.getD (bst ps px pz k) (0, 0)).2 px pz then k else bst ps px pz k
theorem bst_lt (ps : List (Int × Int)) (px pz : Int) (h0 : 0 < ps.length) : ∀ k, k ≤ ps.length → bst ps px pz k < ps.length
  | 0, _ => h0
  | k + 1, h => by
    unfold bst
    split
    · omega
    · exact bst_lt ps px pz h0 k (by omega)
theorem bst_yes {ps : List (Int × Int)} {px pz : Int} {k m : Nat} (e : Hid (m = bst ps px pz k)) {h1 : k < ps.length} {h2 : m < ps.length} (h : sqW ps[k].1 ps[k].2 px pz < sqW ps[m].1 ps[m].2 px pz) : Hid (k = bst ps px pz (k + 1)) := by
  have e := e.out
  subst e
  show _ = _
  conv => rhs; unfold bst
  rw [if_pos (by simpa [List.getD, h1, h2] using h)]
theorem bst_no {ps : List (Int × Int)} {px pz : Int} {k m : Nat} (e : Hid (m = bst ps px pz k)) {h1 : k < ps.length} {h2 : m < ps.length} (h : ¬ sqW ps[k].1 ps[k].2 px pz < sqW ps[m].1 ps[m].2 px pz) : Hid (m = bst ps px pz (k + 1)) := by
  have e := e.out
  subst e
  show _ = _
  conv => rhs; unfold bst
  rw [if_neg (by simpa [List.getD, h1, h2] using h)]
def nearC (ps : List (Int × Int)) (px pz : Int) : Int := if okP px pz then ptsC ps else 1
def nearI (ps : List (Int × Int)) (px pz : Int) : Int := if nearC ps px pz = 0 then (bst ps px pz ps.length : Int) else 0
theorem nearC_ok {ps : List (Int × Int)} {px pz : Int} (h : okP px pz = true) : nearC ps px pz = ptsC ps := by simp [nearC, h]
theorem nearC_no {ps : List (Int × Int)} {px pz : Int} (h : okP px pz = false) : nearC ps px pz = 1 := by simp [nearC, h]

set_option maxHeartbeats 800000 in
theorem i_NearestPoint (A : Option Addr) (c : Nat) (ps : List (Int × Int)) (px pz : Int) (w : World) (h : SlAt w 2 encP A ps) (hl : ps.length ≤ 1048576) :
    Calls Try.prog 35 #[.slice A ps.length c, .agg #[.int .i64 px, .int .i64 pz]] w fun e w' => e = .returned (.tuple #[.int .i64 (nearI ps px pz), .int .i64 (nearC ps px pz)]) ∧ Ext w w' := by
  have hx0 : Ext w (w.alloc (.cells #[.int .i64 px, .int .i64 pz] 25)) := by (repeat (first | with_reducible exact Ext.refl _ | with_reducible assumption | ((with_reducible apply Src.ext); with_reducible assumption) | with_reducible refine Ext.alloc ?_ _ | with_reducible refine Ext.drew ?_ | with_reducible refine Ext.drewN ?_ _ | ((with_reducible refine Ext.setCell' ?_ ?_ _); solve | omega | simp | (simp; omega)) | (with_reducible refine Ext.trans ?_ (by with_reducible assumption))))
  have h1 := h.ext hx0
  by_cases hp : okP px pz = true
  · by_cases hc : ptsC ps = 0
    · obtain ⟨h0, hq, _⟩ := ptsC_zero hc
      have hcb : (ptsC ps != 0) = false := by simp [hc]
      have eC : nearC ps px pz = 0 := by rw [nearC_ok hp, hc]
      have eI : nearI ps px pz = (bst ps px pz ps.length : Int) := by simp [nearI, eC]
      rw [eC, eI]
      clear hc eC eI
      have HP := hp
      go_enter Try.func35, Try.ntmps35
      go_wp2_with (first | (go_at_call 17; refine (i_IsPoint _ _ _).mono ?_; rintro e w1 ⟨rfl, hx1⟩; obtain ⟨hc1, hf1⟩ := hx1.rules; have hs1 := hx1.size; (try simp at hs1); have := (show w.heap.size < w1.heap.size from by omega)) | (go_at_call 60; refine (i_pointsCode _ _ ps _ (h1.ext hx1) hl).mono ?_; rintro e w2 ⟨rfl, hx2⟩; obtain ⟨hc2, hf2⟩ := hx2.rules; have hs2 := hx2.size; (try simp at hs2); have := (show w.heap.size < w2.heap.size from by omega)))
      go_loopw [7, 20] (fun u i wr => ∃ k m : Nat, k ≤ ps.length ∧ m < ps.length ∧ i = .int .i64 k ∧ u = .int .i64 m ∧ Hid (m = bst ps px pz k) ∧ Ext (w.alloc (.cells #[.int .i64 px, .int .i64 pz] 25)) wr) (fun _ i _ => ps.length - (intOf i).toNat)
      case atStart => exact ⟨0, 0, Nat.zero_le _, h0, rfl, rfl, rfl, by (repeat (first | with_reducible exact Ext.refl _ | with_reducible assumption | ((with_reducible apply Src.ext); with_reducible assumption) | with_reducible refine Ext.alloc ?_ _ | with_reducible refine Ext.drew ?_ | with_reducible refine Ext.drewN ?_ _ | ((with_reducible refine Ext.setCell' ?_ ?_ _); solve | omega | simp | (simp; omega)) | (with_reducible refine Ext.trans ?_ (by with_reducible assumption))))⟩
      case round =>
        obtain ⟨k, m, hk, hm, rfl, rfl, HB, hxr⟩ := hrel
        obtain ⟨hcr, hfr⟩ := hxr.rules
        have hsr := hxr.size
        simp at hsr
        (have := (show w.heap.size < wr.heap.size from by omega))
        by_cases hlt : k < ps.length
        · obtain ⟨b, off, rfl, hb, d0, d1⟩ := (h1.ext hxr).pt hlt
          obtain ⟨g0, g1⟩ := (h1.ext hxr).pt' hm
          (have := (show b < wr.heap.size + 1 from by omega); have := (show b < wr.heap.size + 1 + 1 from by omega))
          (have := (show w.heap.size < wr.heap.size + 1 from by omega); have := (show w.heap.size < wr.heap.size + 1 + 1 from by omega))
          go_wp2
          (refine wp_region_ext (by kernel_rfl) (by kernel_rfl) ?_; (repeat (go_big_quiet_step ((go_at_call 50; exact Calls_ext (i_squared _ _ _ _ _))))); refine wpQuiet_nil ?_; intro wq hxwq; obtain ⟨hcwq, hfwq⟩ := hxwq.rules; have hswq := hxwq.size; (try simp at hswq))
          go_wp2
          · go_roundw
            case rel => exact ⟨k + 1, k, by omega, hlt, by go_num, rfl, bst_yes HB (by assumption), by (repeat (first | with_reducible exact Ext.refl _ | with_reducible assumption | ((with_reducible apply Src.ext); with_reducible assumption) | with_reducible refine Ext.alloc ?_ _ | with_reducible refine Ext.drew ?_ | with_reducible refine Ext.drewN ?_ _ | ((with_reducible refine Ext.setCell' ?_ ?_ _); solve | omega | simp | (simp; omega)) | (with_reducible refine Ext.trans ?_ (by with_reducible assumption))))⟩
            case measure => simp [intOf]; omega
          · go_roundw
            case rel => exact ⟨k + 1, m, by omega, hm, by go_num, rfl, bst_no HB (by omega), by (repeat (first | with_reducible exact Ext.refl _ | with_reducible assumption | ((with_reducible apply Src.ext); with_reducible assumption) | with_reducible refine Ext.alloc ?_ _ | with_reducible refine Ext.drew ?_ | with_reducible refine Ext.drewN ?_ _ | ((with_reducible refine Ext.setCell' ?_ ?_ _); solve | omega | simp | (simp; omega)) | (with_reducible refine Ext.trans ?_ (by with_reducible assumption))))⟩
            case measure => simp [intOf]; omega
        · go_wp2
          go_ret2
          obtain rfl : k = ps.length := by omega
          exact ⟨by rw [← HB.out]; rfl, by (repeat (first | with_reducible exact Ext.refl _ | with_reducible assumption | ((with_reducible apply Src.ext); with_reducible assumption) | with_reducible refine Ext.alloc ?_ _ | with_reducible refine Ext.drew ?_ | with_reducible refine Ext.drewN ?_ _ | ((with_reducible refine Ext.setCell' ?_ ?_ _); solve | omega | simp | (simp; omega)) | (with_reducible refine Ext.trans ?_ (by with_reducible assumption))))⟩
    · have hcb : (ptsC ps != 0) = true := by simp [hc]
      have eC : nearC ps px pz = ptsC ps := nearC_ok hp
      have eI : nearI ps px pz = 0 := by simp [nearI, eC, hc]
      rw [eC, eI]
      clear hc eC eI
      go_enter Try.func35, Try.ntmps35
      go_wp2_with (first | (go_at_call 17; refine (i_IsPoint _ _ _).mono ?_; rintro e w1 ⟨rfl, hx1⟩; obtain ⟨hc1, hf1⟩ := hx1.rules; have hs1 := hx1.size; (try simp at hs1); have := (show w.heap.size < w1.heap.size from by omega)) | (go_at_call 60; refine (i_pointsCode _ _ ps _ (h1.ext hx1) hl).mono ?_; rintro e w2 ⟨rfl, hx2⟩; obtain ⟨hc2, hf2⟩ := hx2.rules; have hs2 := hx2.size; (try simp at hs2); have := (show w.heap.size < w2.heap.size from by omega)))
      go_ret2
      exact ⟨rfl, by (repeat (first | with_reducible exact Ext.refl _ | with_reducible assumption | ((with_reducible apply Src.ext); with_reducible assumption) | with_reducible refine Ext.alloc ?_ _ | with_reducible refine Ext.drew ?_ | with_reducible refine Ext.drewN ?_ _ | ((with_reducible refine Ext.setCell' ?_ ?_ _); solve | omega | simp | (simp; omega)) | (with_reducible refine Ext.trans ?_ (by with_reducible assumption))))⟩
  · have hp' : okP px pz = false := by simpa using hp
    have eC : nearC ps px pz = 1 := nearC_no hp'
    have eI : nearI ps px pz = 0 := by simp [nearI, eC]
    rw [eC, eI]
    clear hp eC eI
    go_enter Try.func35, Try.ntmps35
    go_wp2_with (first | (go_at_call 17; refine (i_IsPoint _ _ _).mono ?_; rintro e w1 ⟨rfl, hx1⟩; obtain ⟨hc1, hf1⟩ := hx1.rules; have hs1 := hx1.size; (try simp at hs1); have := (show w.heap.size < w1.heap.size from by omega)))
    go_ret2
    exact ⟨rfl, by (repeat (first | with_reducible exact Ext.refl _ | with_reducible assumption | ((with_reducible apply Src.ext); with_reducible assumption) | with_reducible refine Ext.alloc ?_ _ | with_reducible refine Ext.drew ?_ | with_reducible refine Ext.drewN ?_ _ | ((with_reducible refine Ext.setCell' ?_ ?_ _); solve | omega | simp | (simp; omega)) | (with_reducible refine Ext.trans ?_ (by with_reducible assumption))))⟩

set_option maxHeartbeats 800000 in
theorem s_NearestPoint (A : Option Addr) (c : Nat) (ps : List (Int × Int)) (px pz : Int) (w : World) (h : SlAt w 2 encP A ps) (hl : ps.length ≤ 1048576) :
    Calls Try.prog 34 #[.slice A ps.length c, .agg #[.int .i64 px, .int .i64 pz]] w fun e w' => e = .returned (.tuple #[.int .i64 (nearI ps px pz), .int .i64 (nearC ps px pz)]) ∧ Ext w w' := by
  have hx0 : Ext w (w.alloc (.cells #[.int .i64 px, .int .i64 pz] 25)) := by (repeat (first | with_reducible exact Ext.refl _ | with_reducible assumption | ((with_reducible apply Src.ext); with_reducible assumption) | with_reducible refine Ext.alloc ?_ _ | with_reducible refine Ext.drew ?_ | with_reducible refine Ext.drewN ?_ _ | ((with_reducible refine Ext.setCell' ?_ ?_ _); solve | omega | simp | (simp; omega)) | (with_reducible refine Ext.trans ?_ (by with_reducible assumption))))
  have h1 := h.ext hx0
  by_cases hp : okP px pz = true
  · by_cases hc : ptsC ps = 0
    · obtain ⟨h0, hq, _⟩ := ptsC_zero hc
      have hcb : (ptsC ps != 0) = false := by simp [hc]
      have eC : nearC ps px pz = 0 := by rw [nearC_ok hp, hc]
      have eI : nearI ps px pz = (bst ps px pz ps.length : Int) := by simp [nearI, eC]
      rw [eC, eI]
      clear hc eC eI
      have HP := hp
      go_enter Try.func34, Try.ntmps34
      go_wp2_with (first | (go_at_call 15; refine (s_IsPoint _ _ _).mono ?_; rintro e w1 ⟨rfl, hx1⟩; obtain ⟨hc1, hf1⟩ := hx1.rules; have hs1 := hx1.size; (try simp at hs1); have := (show w.heap.size < w1.heap.size from by omega)) | (go_at_call 59; refine (s_l15List _ _ ps _ (h1.ext hx1) hl).mono ?_; rintro e w2 ⟨rfl, hx2⟩; obtain ⟨hc2, hf2⟩ := hx2.rules; have hs2 := hx2.size; (try simp at hs2); have := (show w.heap.size < w2.heap.size from by omega)))
      go_loopw [7, 8] (fun u i wr => ∃ k m : Nat, k ≤ ps.length ∧ m < ps.length ∧ i = .int .i64 k ∧ u = .int .i64 m ∧ Hid (m = bst ps px pz k) ∧ Ext (w.alloc (.cells #[.int .i64 px, .int .i64 pz] 25)) wr) (fun _ i _ => ps.length - (intOf i).toNat)
      case atStart => exact ⟨0, 0, Nat.zero_le _, h0, rfl, rfl, rfl, by (repeat (first | with_reducible exact Ext.refl _ | with_reducible assumption | ((with_reducible apply Src.ext); with_reducible assumption) | with_reducible refine Ext.alloc ?_ _ | with_reducible refine Ext.drew ?_ | with_reducible refine Ext.drewN ?_ _ | ((with_reducible refine Ext.setCell' ?_ ?_ _); solve | omega | simp | (simp; omega)) | (with_reducible refine Ext.trans ?_ (by with_reducible assumption))))⟩
      case round =>
        obtain ⟨k, m, hk, hm, rfl, rfl, HB, hxr⟩ := hrel
        obtain ⟨hcr, hfr⟩ := hxr.rules
        have hsr := hxr.size
        simp at hsr
        (have := (show w.heap.size < wr.heap.size from by omega))
        by_cases hlt : k < ps.length
        · obtain ⟨b, off, rfl, hb, d0, d1⟩ := (h1.ext hxr).pt hlt
          obtain ⟨g0, g1⟩ := (h1.ext hxr).pt' hm
          (have := (show b < wr.heap.size + 1 from by omega); have := (show b < wr.heap.size + 1 + 1 from by omega))
          (have := (show w.heap.size < wr.heap.size + 1 from by omega); have := (show w.heap.size < wr.heap.size + 1 + 1 from by omega))
          go_wp2
          (refine wp_region_ext (by kernel_rfl) (by kernel_rfl) ?_; (repeat (go_big_quiet_step ((go_at_call 48; exact Calls_ext (s_squared _ _ _ _ _))))); refine wpQuiet_nil ?_; intro wq hxwq; obtain ⟨hcwq, hfwq⟩ := hxwq.rules; have hswq := hxwq.size; (try simp at hswq))
          go_wp2
          · go_roundw
            case rel => exact ⟨k + 1, k, by omega, hlt, by go_num, rfl, bst_yes HB (by assumption), by (repeat (first | with_reducible exact Ext.refl _ | with_reducible assumption | ((with_reducible apply Src.ext); with_reducible assumption) | with_reducible refine Ext.alloc ?_ _ | with_reducible refine Ext.drew ?_ | with_reducible refine Ext.drewN ?_ _ | ((with_reducible refine Ext.setCell' ?_ ?_ _); solve | omega | simp | (simp; omega)) | (with_reducible refine Ext.trans ?_ (by with_reducible assumption))))⟩
            case measure => simp [intOf]; omega
          · go_roundw
            case rel => exact ⟨k + 1, m, by omega, hm, by go_num, rfl, bst_no HB (by omega), by (repeat (first | with_reducible exact Ext.refl _ | with_reducible assumption | ((with_reducible apply Src.ext); with_reducible assumption) | with_reducible refine Ext.alloc ?_ _ | with_reducible refine Ext.drew ?_ | with_reducible refine Ext.drewN ?_ _ | ((with_reducible refine Ext.setCell' ?_ ?_ _); solve | omega | simp | (simp; omega)) | (with_reducible refine Ext.trans ?_ (by with_reducible assumption))))⟩
            case measure => simp [intOf]; omega
        · go_wp2
          go_ret2
          obtain rfl : k = ps.length := by omega
          exact ⟨by rw [← HB.out]; rfl, by (repeat (first | with_reducible exact Ext.refl _ | with_reducible assumption | ((with_reducible apply Src.ext); with_reducible assumption) | with_reducible refine Ext.alloc ?_ _ | with_reducible refine Ext.drew ?_ | with_reducible refine Ext.drewN ?_ _ | ((with_reducible refine Ext.setCell' ?_ ?_ _); solve | omega | simp | (simp; omega)) | (with_reducible refine Ext.trans ?_ (by with_reducible assumption))))⟩
    · have hcb : (ptsC ps != 0) = true := by simp [hc]
      have eC : nearC ps px pz = ptsC ps := nearC_ok hp
      have eI : nearI ps px pz = 0 := by simp [nearI, eC, hc]
      rw [eC, eI]
      clear hc eC eI
      go_enter Try.func34, Try.ntmps34
      go_wp2_with (first | (go_at_call 15; refine (s_IsPoint _ _ _).mono ?_; rintro e w1 ⟨rfl, hx1⟩; obtain ⟨hc1, hf1⟩ := hx1.rules; have hs1 := hx1.size; (try simp at hs1); have := (show w.heap.size < w1.heap.size from by omega)) | (go_at_call 59; refine (s_l15List _ _ ps _ (h1.ext hx1) hl).mono ?_; rintro e w2 ⟨rfl, hx2⟩; obtain ⟨hc2, hf2⟩ := hx2.rules; have hs2 := hx2.size; (try simp at hs2); have := (show w.heap.size < w2.heap.size from by omega)))
      go_ret2
      exact ⟨rfl, by (repeat (first | with_reducible exact Ext.refl _ | with_reducible assumption | ((with_reducible apply Src.ext); with_reducible assumption) | with_reducible refine Ext.alloc ?_ _ | with_reducible refine Ext.drew ?_ | with_reducible refine Ext.drewN ?_ _ | ((with_reducible refine Ext.setCell' ?_ ?_ _); solve | omega | simp | (simp; omega)) | (with_reducible refine Ext.trans ?_ (by with_reducible assumption))))⟩
  · have hp' : okP px pz = false := by simpa using hp
    have eC : nearC ps px pz = 1 := nearC_no hp'
    have eI : nearI ps px pz = 0 := by simp [nearI, eC]
    rw [eC, eI]
    clear hp eC eI
    go_enter Try.func34, Try.ntmps34
    go_wp2_with (first | (go_at_call 15; refine (s_IsPoint _ _ _).mono ?_; rintro e w1 ⟨rfl, hx1⟩; obtain ⟨hc1, hf1⟩ := hx1.rules; have hs1 := hx1.size; (try simp at hs1); have := (show w.heap.size < w1.heap.size from by omega)))
    go_ret2
    exact ⟨rfl, by (repeat (first | with_reducible exact Ext.refl _ | with_reducible assumption | ((with_reducible apply Src.ext); with_reducible assumption) | with_reducible refine Ext.alloc ?_ _ | with_reducible refine Ext.drew ?_ | with_reducible refine Ext.drewN ?_ _ | ((with_reducible refine Ext.setCell' ?_ ?_ _); solve | omega | simp | (simp; omega)) | (with_reducible refine Ext.trans ?_ (by with_reducible assumption))))⟩

theorem l_eqPoint_self (ax az : Int) (w : World) : Calls Try.prog 32 #[.agg #[.int .i64 ax, .int .i64 az], .agg #[.int .i64 ax, .int .i64 az]] w
    fun e w' => e = .returned (.bool true) ∧ Ext w w' := by
  have := l_eqPoint ax az ax az w
  rwa [eqP_iff.2 ⟨rfl, rfl⟩] at this
theorem l_eqPointS_self (A A' : Option Addr) (c c' : Nat) (ps : List (Int × Int)) (w : World) (h : SlAt w 2 encP A ps) (h' : SlAt w 2 encP A' ps) (hl : ps.length ≤ 1048576) :
    Calls Try.prog 33 #[.slice A ps.length c, .slice A' ps.length c'] w fun e w' => e = .returned (.bool true) ∧ Ext w w' := by
  have := l_eqPointS A A' c c' ps ps w h h' hl
  rwa [show eqPs ps ps = true by simp [eqPs]] at this
set_option maxHeartbeats 1600000 in
theorem fnExactBoxOf_walk (A : Option Addr) (c : Nat) (ps : List (Int × Int)) (w : World) (h : SlAt w 2 encP A ps) (hn : ps.length ≤ 140737488351232) :
    Calls Try.prog 9 #[.slice A ps.length c] w fun e w' => e = .returned (.bool true) ∧ Ext w w' := by
  by_cases hl : ps.length ≤ 1048576
  · have hs0 : szR 1048576 ps.length = 1048576 - ps.length := by unfold szR; rw [if_neg (by omega)]
    have hsz := l_szPointS A ps.length c 1048576 w hn (by omega) (by omega)
    rw [hs0] at hsz
    have HZ := Lib.hid hsz
    clear hs0 hsz
    go_enter Try.func9, Try.ntmps9
    (go_wp2_with fail; refine (HZ.out).mono ?_; rintro e w' ⟨rfl, rfl⟩)
    (go_wp2_with fail; refine (l_toPointS _ _ ps _ (h.ext (by (repeat (first | with_reducible exact Ext.refl _ | with_reducible assumption | ((with_reducible apply Src.ext); with_reducible assumption) | with_reducible refine Ext.alloc ?_ _ | with_reducible refine Ext.drew ?_ | with_reducible refine Ext.drewN ?_ _ | ((with_reducible refine Ext.setCell' ?_ ?_ _); solve | omega | simp | (simp; omega)) | (with_reducible refine Ext.trans ?_ (by with_reducible assumption)))))) hl).mono ?_; rintro e w1 ⟨cs1, rfl, hB1, hcs1, hx1⟩; (try simp at hB1); obtain ⟨hc1, hf1⟩ := hx1.rules; have hs1 := hx1.size; (try simp at hs1); have hlt1 := hB1.lt; have := (show w.heap.size < w1.heap.size from by omega))
    (go_wp2_with fail; refine (s_BoxOf _ _ ps _ (Blk.sl (by (repeat (first | with_reducible assumption | ((with_reducible apply Blk.new); solve | simp | rfl) | with_reducible apply Blk.drew | with_reducible apply Blk.drewN | ((with_reducible apply Blk.far'); solve | omega | simp | (simp; omega)) | with_reducible apply Blk.set_ | with_reducible apply Blk.alloc | ((with_reducible apply Blk.ext'); with_reducible assumption) | ((with_reducible apply Blk.but'); (with_reducible assumption); solve | omega | (simp; omega))))) hcs1 len_encP) hl).mono ?_; rintro e w2 ⟨rfl, hx2⟩; obtain ⟨hc2, hf2⟩ := hx2.rules; have hs2 := hx2.size; (try simp at hs2))
    (go_wp2_with fail; refine (l_toPointS _ _ ps _ (h.ext (by (repeat (first | with_reducible exact Ext.refl _ | with_reducible assumption | ((with_reducible apply Src.ext); with_reducible assumption) | with_reducible refine Ext.alloc ?_ _ | with_reducible refine Ext.drew ?_ | with_reducible refine Ext.drewN ?_ _ | ((with_reducible refine Ext.setCell' ?_ ?_ _); solve | omega | simp | (simp; omega)) | (with_reducible refine Ext.trans ?_ (by with_reducible assumption)))))) hl).mono ?_; rintro e w3 ⟨cs3, rfl, hB3, hcs3, hx3⟩; (try simp at hB3); obtain ⟨hc3, hf3⟩ := hx3.rules; have hs3 := hx3.size; (try simp at hs3); have hlt3 := hB3.lt; have := (show w2.heap.size < w3.heap.size from by omega); have := (show w2.heap.size + 1 < w3.heap.size from by omega); have := (show w2.heap.size + 1 + 1 < w3.heap.size from by omega))
    (go_wp2_with fail; refine (i_BoxOf _ _ ps _ (Blk.sl (by (repeat (first | with_reducible assumption | ((with_reducible apply Blk.new); solve | simp | rfl) | with_reducible apply Blk.drew | with_reducible apply Blk.drewN | ((with_reducible apply Blk.far'); solve | omega | simp | (simp; omega)) | with_reducible apply Blk.set_ | with_reducible apply Blk.alloc | ((with_reducible apply Blk.ext'); with_reducible assumption) | ((with_reducible apply Blk.but'); (with_reducible assumption); solve | omega | (simp; omega))))) hcs3 len_encP) hl).mono ?_; rintro e w4 ⟨rfl, hx4⟩; obtain ⟨hc4, hf4⟩ := hx4.rules; have hs4 := hx4.size; (try simp at hs4); have := (show w2.heap.size < w4.heap.size from by omega); have := (show w2.heap.size + 1 < w4.heap.size from by omega); have := (show w2.heap.size + 1 + 1 < w4.heap.size from by omega))
    (go_wp2_with fail; refine (l_eqPoint_self _ _ _).mono ?_; rintro e w5 ⟨rfl, hx5⟩; obtain ⟨hc5, hf5⟩ := hx5.rules; have hs5 := hx5.size; (try simp at hs5); have := (show w2.heap.size < w5.heap.size from by omega); have := (show w2.heap.size + 1 < w5.heap.size from by omega); have := (show w2.heap.size + 1 + 1 < w5.heap.size from by omega); have := (show w4.heap.size < w5.heap.size from by omega); have := (show w4.heap.size + 1 < w5.heap.size from by omega))
    (go_wp2_with fail; refine (l_eqPoint_self _ _ _).mono ?_; rintro e w6 ⟨rfl, hx6⟩; obtain ⟨hc6, hf6⟩ := hx6.rules; have hs6 := hx6.size; (try simp at hs6); have := (show w2.heap.size < w6.heap.size from by omega); have := (show w2.heap.size + 1 < w6.heap.size from by omega); have := (show w2.heap.size + 1 + 1 < w6.heap.size from by omega); have := (show w4.heap.size < w6.heap.size from by omega); have := (show w4.heap.size + 1 < w6.heap.size from by omega))
    (go_wp2_with fail; refine (l_toPointS _ _ ps _ (h.ext (by (repeat (first | with_reducible exact Ext.refl _ | with_reducible assumption | ((with_reducible apply Src.ext); with_reducible assumption) | with_reducible refine Ext.alloc ?_ _ | with_reducible refine Ext.drew ?_ | with_reducible refine Ext.drewN ?_ _ | ((with_reducible refine Ext.setCell' ?_ ?_ _); solve | omega | simp | (simp; omega)) | (with_reducible refine Ext.trans ?_ (by with_reducible assumption)))))) hl).mono ?_; rintro e w7 ⟨cs7, rfl, hB7, hcs7, hx7⟩; (try simp at hB7); obtain ⟨hc7, hf7⟩ := hx7.rules; have hs7 := hx7.size; (try simp at hs7); have hlt7 := hB7.lt; have := (show w2.heap.size + 1 + 1 < w7.heap.size from by omega); have := (show w6.heap.size < w7.heap.size from by omega))
    (go_wp2_with fail; refine (l_eqPointS_self _ _ _ _ ps _ (Blk.sl (by (repeat (first | with_reducible assumption | ((with_reducible apply Blk.new); solve | simp | rfl) | with_reducible apply Blk.drew | with_reducible apply Blk.drewN | ((with_reducible apply Blk.far'); solve | omega | simp | (simp; omega)) | with_reducible apply Blk.set_ | with_reducible apply Blk.alloc | ((with_reducible apply Blk.ext'); with_reducible assumption) | ((with_reducible apply Blk.but'); (with_reducible assumption); solve | omega | (simp; omega))))) hcs3 len_encP) (Blk.sl (by (repeat (first | with_reducible assumption | ((with_reducible apply Blk.new); solve | simp | rfl) | with_reducible apply Blk.drew | with_reducible apply Blk.drewN | ((with_reducible apply Blk.far'); solve | omega | simp | (simp; omega)) | with_reducible apply Blk.set_ | with_reducible apply Blk.alloc | ((with_reducible apply Blk.ext'); with_reducible assumption) | ((with_reducible apply Blk.but'); (with_reducible assumption); solve | omega | (simp; omega))))) hcs7 len_encP) hl).mono ?_; rintro e w8 ⟨rfl, hx8⟩; obtain ⟨hc8, hf8⟩ := hx8.rules; have hs8 := hx8.size; (try simp at hs8))
    go_wp2
    go_ret
    exact ⟨rfl, by (repeat (first | with_reducible exact Ext.refl _ | with_reducible assumption | ((with_reducible apply Src.ext); with_reducible assumption) | with_reducible refine Ext.alloc ?_ _ | with_reducible refine Ext.drew ?_ | with_reducible refine Ext.drewN ?_ _ | ((with_reducible refine Ext.setCell' ?_ ?_ _); solve | omega | simp | (simp; omega)) | (with_reducible refine Ext.trans ?_ (by with_reducible assumption))))⟩
  · have hs0 : szR 1048576 ps.length = -1 := by unfold szR; rw [if_pos (by omega)]
    have hsz := l_szPointS A ps.length c 1048576 w hn (by omega) (by omega)
    rw [hs0] at hsz
    have HZ := Lib.hid hsz
    clear hs0 hsz
    go_enter Try.func9, Try.ntmps9
    (go_wp2_with fail; refine (HZ.out).mono ?_; rintro e w' ⟨rfl, rfl⟩)
    go_wp2
    go_ret
    exact ⟨rfl, by (repeat (first | with_reducible exact Ext.refl _ | with_reducible assumption | ((with_reducible apply Src.ext); with_reducible assumption) | with_reducible refine Ext.alloc ?_ _ | with_reducible refine Ext.drew ?_ | with_reducible refine Ext.drewN ?_ _ | ((with_reducible refine Ext.setCell' ?_ ?_ _); solve | omega | simp | (simp; omega)) | (with_reducible refine Ext.trans ?_ (by with_reducible assumption))))⟩

set_option maxHeartbeats 1600000 in
theorem fnExactNearestPoint_walk (A : Option Addr) (c : Nat) (ps : List (Int × Int)) (px pz : Int) (w : World) (h : SlAt w 2 encP A ps) (hn : ps.length ≤ 140737488351232) :
    Calls Try.prog 10 #[.slice A ps.length c, .agg #[.int .i64 px, .int .i64 pz]] w fun e w' => e = .returned (.bool true) ∧ Ext w w' := by
  by_cases hl : ps.length ≤ 1048576
  · have hs0 : szR 1048576 ps.length = 1048576 - ps.length := by unfold szR; rw [if_neg (by omega)]
    have hsz := fun w => l_szPointS A ps.length c 1048576 w hn (by omega) (by omega)
    rw [hs0] at hsz
    have HZ := Lib.hid hsz
    clear hs0 hsz
    go_enter Try.func10, Try.ntmps10
    (go_wp2_with fail; refine (HZ.out _).mono ?_; rintro e w' ⟨rfl, rfl⟩)
    go_wp2
    go_region_held3 (fun w' => w'.cell? ⟨w.heap.size, 0, none⟩ = some (.int .i64 px) ∧ w'.cell? ⟨w.heap.size, 1, none⟩ = some (.int .i64 pz)) (go_keep) (first | (go_at_call 30; refine (l_toPointS _ _ ps _ (h.ext (by (repeat (first | with_reducible exact Ext.refl _ | with_reducible assumption | ((with_reducible apply Src.ext); with_reducible assumption) | with_reducible refine Ext.alloc ?_ _ | with_reducible refine Ext.drew ?_ | with_reducible refine Ext.drewN ?_ _ | ((with_reducible refine Ext.setCell' ?_ ?_ _); solve | omega | simp | (simp; omega)) | (with_reducible refine Ext.trans ?_ (by with_reducible assumption)))))) hl).mono ?_; rintro e w1 ⟨cs1, rfl, hB1, hcs1, hx1⟩; (try simp at hB1); obtain ⟨hc1, hf1⟩ := hx1.rules; have hs1 := hx1.size; (try simp at hs1); have hlt1 := hB1.lt; have hl1 : ∀ n, n < _ → n < w1.heap.size := fun n h => Nat.lt_of_lt_of_le h hx1.size; have := (show w.heap.size < w1.heap.size from by omega)) | (go_at_call 16; refine (l_toPoint _ _ _).mono ?_; rintro e w2 ⟨rfl, hx2⟩; obtain ⟨hc2, hf2⟩ := hx2.rules; have hs2 := hx2.size; (try simp at hs2); have hl2 : ∀ n, n < _ → n < w2.heap.size := fun n h => Nat.lt_of_lt_of_le h hx2.size; have := (show w.heap.size < w2.heap.size from by omega); have := (show w.heap.size + 1 < w2.heap.size from by omega)) | (go_at_call 34; refine (s_NearestPoint _ _ ps _ _ _ (Blk.sl (by (repeat (first | with_reducible assumption | ((with_reducible apply Blk.new); solve | simp | rfl) | with_reducible apply Blk.drew | with_reducible apply Blk.drewN | ((with_reducible apply Blk.far'); solve | omega | simp | (simp; omega)) | with_reducible apply Blk.set_ | with_reducible apply Blk.alloc | ((with_reducible apply Blk.ext'); with_reducible assumption) | ((with_reducible apply Blk.but'); (with_reducible assumption); solve | omega | (simp; omega))))) hcs1 len_encP) hl).mono ?_; rintro e w3 ⟨rfl, hx3⟩; obtain ⟨hc3, hf3⟩ := hx3.rules; have hs3 := hx3.size; (try simp at hs3); have hl3 : ∀ n, n < _ → n < w3.heap.size := fun n h => Nat.lt_of_lt_of_le h hx3.size; have := (show w.heap.size < w3.heap.size from by omega)))
    (go_wp2_with fail; refine (l_toPointS _ _ ps _ (h.ext (by (repeat (first | with_reducible exact Ext.refl _ | with_reducible assumption | ((with_reducible apply Src.ext); with_reducible assumption) | with_reducible refine Ext.alloc ?_ _ | with_reducible refine Ext.drew ?_ | with_reducible refine Ext.drewN ?_ _ | ((with_reducible refine Ext.setCell' ?_ ?_ _); solve | omega | simp | (simp; omega)) | (with_reducible refine Ext.trans ?_ (by with_reducible assumption)))))) hl).mono ?_; rintro e w4 ⟨cs4, rfl, hB4, hcs4, hx4⟩; (try simp at hB4); obtain ⟨hc4, hf4⟩ := hx4.rules; have hs4 := hx4.size; (try simp at hs4); have hlt4 := hB4.lt; have := (show w.heap.size < w4.heap.size from by omega); have := (show w3.heap.size < w4.heap.size from by omega))
    (go_wp2_with fail; refine (l_toPoint _ _ _).mono ?_; rintro e w5 ⟨rfl, hx5⟩; obtain ⟨hc5, hf5⟩ := hx5.rules; have hs5 := hx5.size; (try simp at hs5); have := (show w.heap.size < w5.heap.size from by omega); have := (show w3.heap.size < w5.heap.size from by omega))
    (go_wp2_with fail; refine (i_NearestPoint _ _ ps _ _ _ (Blk.sl (by (repeat (first | with_reducible assumption | ((with_reducible apply Blk.new); solve | simp | rfl) | with_reducible apply Blk.drew | with_reducible apply Blk.drewN | ((with_reducible apply Blk.far'); solve | omega | simp | (simp; omega)) | with_reducible apply Blk.set_ | with_reducible apply Blk.alloc | ((with_reducible apply Blk.ext'); with_reducible assumption) | ((with_reducible apply Blk.but'); (with_reducible assumption); solve | omega | (simp; omega))))) hcs4 len_encP) hl).mono ?_; rintro e w6 ⟨rfl, hx6⟩; obtain ⟨hc6, hf6⟩ := hx6.rules; have hs6 := hx6.size; (try simp at hs6); have := (show w3.heap.size < w6.heap.size from by omega))
    (go_wp2_with fail; refine (l_toPointS _ _ ps _ (h.ext (by (repeat (first | with_reducible exact Ext.refl _ | with_reducible assumption | ((with_reducible apply Src.ext); with_reducible assumption) | with_reducible refine Ext.alloc ?_ _ | with_reducible refine Ext.drew ?_ | with_reducible refine Ext.drewN ?_ _ | ((with_reducible refine Ext.setCell' ?_ ?_ _); solve | omega | simp | (simp; omega)) | (with_reducible refine Ext.trans ?_ (by with_reducible assumption)))))) hl).mono ?_; rintro e w7 ⟨cs7, rfl, hB7, hcs7, hx7⟩; (try simp at hB7); obtain ⟨hc7, hf7⟩ := hx7.rules; have hs7 := hx7.size; (try simp at hs7); have hlt7 := hB7.lt; have := (show w3.heap.size < w7.heap.size from by omega); have := (show w6.heap.size < w7.heap.size from by omega))
    (go_wp2_with fail; refine (l_eqPointS_self _ _ _ _ ps _ (Blk.sl (by (repeat (first | with_reducible assumption | ((with_reducible apply Blk.new); solve | simp | rfl) | with_reducible apply Blk.drew | with_reducible apply Blk.drewN | ((with_reducible apply Blk.far'); solve | omega | simp | (simp; omega)) | with_reducible apply Blk.set_ | with_reducible apply Blk.alloc | ((with_reducible apply Blk.ext'); with_reducible assumption) | ((with_reducible apply Blk.but'); (with_reducible assumption); solve | omega | (simp; omega))))) hcs4 len_encP) (Blk.sl (by (repeat (first | with_reducible assumption | ((with_reducible apply Blk.new); solve | simp | rfl) | with_reducible apply Blk.drew | with_reducible apply Blk.drewN | ((with_reducible apply Blk.far'); solve | omega | simp | (simp; omega)) | with_reducible apply Blk.set_ | with_reducible apply Blk.alloc | ((with_reducible apply Blk.ext'); with_reducible assumption) | ((with_reducible apply Blk.but'); (with_reducible assumption); solve | omega | (simp; omega))))) hcs7 len_encP) hl).mono ?_; rintro e w8 ⟨rfl, hx8⟩; obtain ⟨hc8, hf8⟩ := hx8.rules; have hs8 := hx8.size; (try simp at hs8))
    go_wp2
    go_ret
    exact ⟨rfl, by (repeat (first | with_reducible exact Ext.refl _ | with_reducible assumption | ((with_reducible apply Src.ext); with_reducible assumption) | with_reducible refine Ext.alloc ?_ _ | with_reducible refine Ext.drew ?_ | with_reducible refine Ext.drewN ?_ _ | ((with_reducible refine Ext.setCell' ?_ ?_ _); solve | omega | simp | (simp; omega)) | (with_reducible refine Ext.trans ?_ (by with_reducible assumption))))⟩
  · have hs0 : szR 1048576 ps.length = -1 := by unfold szR; rw [if_pos (by omega)]
    have hsz := fun w => l_szPointS A ps.length c 1048576 w hn (by omega) (by omega)
    rw [hs0] at hsz
    have HZ := Lib.hid hsz
    clear hs0 hsz
    go_enter Try.func10, Try.ntmps10
    (go_wp2_with fail; refine (HZ.out _).mono ?_; rintro e w' ⟨rfl, rfl⟩)
    go_wp2
    go_ret
    exact ⟨rfl, by (repeat (first | with_reducible exact Ext.refl _ | with_reducible assumption | ((with_reducible apply Src.ext); with_reducible assumption) | with_reducible refine Ext.alloc ?_ _ | with_reducible refine Ext.drew ?_ | with_reducible refine Ext.drewN ?_ _ | ((with_reducible refine Ext.setCell' ?_ ?_ _); solve | omega | simp | (simp; omega)) | (with_reducible refine Ext.trans ?_ (by with_reducible assumption))))⟩
end Go.Proofs.Ytconoaphenahnaa
