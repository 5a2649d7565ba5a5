/- Contracts of the rings: corners, turns, edges apart; the test of a ring, walked over the translation. -/
import Derived.Test.YteppjdoggjcdoaaM
import Derived.RegionTactic
import Derived.BigRegion
import Derived.Deep.RegionHeld3
import Derived.WalkLawsBesides
import Derived.WalkSpells
import Derived.Lib.MinMax
import Derived.Outline
namespace Go.Proofs.Yteppjdoggjcdoaa
open Go.RowKit
attribute [local go_sem] ExtOf.cell ExtOf.frozen





/-- the corner with an index, counted on around the end -/
def ptx (ps : List (Int × Int)) (i : Int) : Int := (ps.getD (i.toNat % ps.length) (0, 0)).1
def ptz (ps : List (Int × Int)) (i : Int) : Int := (ps.getD (i.toNat % ps.length) (0, 0)).2
theorem ptx_lt {ps : List (Int × Int)} {k : Nat} (hk : k < ps.length) : ptx ps k = (ps.getD k (0, 0)).1 := by simp [ptx, Nat.mod_eq_of_lt hk]
theorem ptz_lt {ps : List (Int × Int)} {k : Nat} (hk : k < ps.length) : ptz ps k = (ps.getD k (0, 0)).2 := by simp [ptz, Nat.mod_eq_of_lt hk]
theorem SlAt.ring {w : World} {b off : Nat} {ps : List (Int × Int)} (h : SlAt w 2 encP (some ⟨b, off, none⟩) ps) {k : Nat} (hk : k < ps.length) :
    w.cell? ⟨b, off + k * 2, none⟩ = some (.int .i64 (ptx ps k)) ∧ w.cell? ⟨b, off + k * 2 + 1, none⟩ = some (.int .i64 (ptz ps k)) := by
  rw [ptx_lt hk, ptz_lt hk]; exact h.pt' hk
theorem SlAt.open_ {w : World} {A : Option Addr} {ps : List (Int × Int)} (h : SlAt w 2 encP A ps) (h0 : 0 < ps.length) : ∃ b off, A = some ⟨b, off, none⟩ ∧ b < w.heap.size := by
  obtain ⟨b, off, e, hb, _⟩ := h.pt h0
  exact ⟨b, off, e, hb⟩

theorem i_corner (A : Option Addr) (c : Nat) (ps : List (Int × Int)) (i : Int) (w : World) (h : SlAt w 2 encP A ps) (h0 : 0 < ps.length) (hl : ps.length ≤ 1048576) (hi : 0 ≤ i) (hi' : i ≤ 1000000000) :
    Calls Try.prog 113 #[.slice A ps.length c, .int .i64 i] w fun e w' => e = .returned (.agg #[.int .i64 (ptx ps i), .int .i64 (ptz ps i)]) ∧ Ext w w' := by
  obtain ⟨k, rfl⟩ := Int.eq_ofNat_of_zero_le hi
  have hm : k % ps.length < ps.length := Nat.mod_lt _ h0
  obtain ⟨m, hme⟩ : ∃ m, m = k % ps.length := ⟨_, rfl⟩
  rw [← hme] at hm
  have hr : ((k : Int).tmod (ps.length : Int)) = (m : Int) := by rw [hme]; rfl
  have hr' : (k : Int) % (ps.length : Int) = (m : Int) := by rw [hme]; rfl
  obtain ⟨b, off, rfl, hb⟩ := h.open_ h0
  obtain ⟨d0, d1⟩ := h.pt' hm
  have ex : ptx ps (k : Int) = (ps.getD m (0, 0)).1 := by simp [ptx, hme]
  have ez : ptz ps (k : Int) = (ps.getD m (0, 0)).2 := by simp [ptz, hme]
  rw [ex, ez]
  have hn0 : ((ps.length : Int) == 0) = false := beq_eq_false_iff_ne.2 (by omega)
  have HM := Lib.hid hme
  clear hme ex ez
  (have := (show b < w.heap.size + 1 from by omega); have := (show b < w.heap.size + 1 + 1 from by omega))
  go_enter Try.func113, Try.ntmps113
  go_wp2
  refine bodyPost_ret (v := .agg #[.int .i64 (ps.getD m (0, 0)).1, .int .i64 (ps.getD m (0, 0)).2]) (by simp [results, Try.results113, go_sem, hm]) rfl ⟨rfl, by (repeat (first | with_reducible exact Ext.refl _ | with_reducible assumption | ((with_reducible apply Src.ext); with_reducible assumption) | with_reducible refine Ext.alloc ?_ _ | with_reducible refine Ext.drew ?_ | with_reducible refine Ext.drewN ?_ _ | ((with_reducible refine Ext.setCell' ?_ ?_ _); solve | omega | simp | (simp; omega)) | (with_reducible refine Ext.trans ?_ (by with_reducible assumption))))⟩

theorem s_corner (A : Option Addr) (c : Nat) (ps : List (Int × Int)) (i : Int) (w : World) (h : SlAt w 2 encP A ps) (h0 : 0 < ps.length) (hl : ps.length ≤ 1048576) (hi : 0 ≤ i) (hi' : i ≤ 1000000000) :
    Calls Try.prog 70 #[.slice A ps.length c, .int .i64 i] w fun e w' => e = .returned (.agg #[.int .i64 (ptx ps i), .int .i64 (ptz ps i)]) ∧ Ext w w' := by
  obtain ⟨k, rfl⟩ := Int.eq_ofNat_of_zero_le hi
  have hm : k % ps.length < ps.length := Nat.mod_lt _ h0
  obtain ⟨m, hme⟩ : ∃ m, m = k % ps.length := ⟨_, rfl⟩
  rw [← hme] at hm
  have hr : ((k : Int).tmod (ps.length : Int)) = (m : Int) := by rw [hme]; rfl
  have hr' : (k : Int) % (ps.length : Int) = (m : Int) := by rw [hme]; rfl
  obtain ⟨b, off, rfl, hb⟩ := h.open_ h0
  obtain ⟨d0, d1⟩ := h.pt' hm
  have ex : ptx ps (k : Int) = (ps.getD m (0, 0)).1 := by simp [ptx, hme]
  have ez : ptz ps (k : Int) = (ps.getD m (0, 0)).2 := by simp [ptz, hme]
  rw [ex, ez]
  have hn0 : ((ps.length : Int) == 0) = false := beq_eq_false_iff_ne.2 (by omega)
  have HM := Lib.hid hme
  clear hme ex ez
  (have := (show b < w.heap.size + 1 from by omega); have := (show b < w.heap.size + 1 + 1 from by omega))
  go_enter Try.func70, Try.ntmps70
  go_wp2
  refine bodyPost_ret (v := .agg #[.int .i64 (ps.getD m (0, 0)).1, .int .i64 (ps.getD m (0, 0)).2]) (by simp [results, Try.results70, go_sem, hm]) rfl ⟨rfl, by (repeat (first | with_reducible exact Ext.refl _ | with_reducible assumption | ((with_reducible apply Src.ext); with_reducible assumption) | with_reducible refine Ext.alloc ?_ _ | with_reducible refine Ext.drew ?_ | with_reducible refine Ext.drewN ?_ _ | ((with_reducible refine Ext.setCell' ?_ ?_ _); solve | omega | simp | (simp; omega)) | (with_reducible refine Ext.trans ?_ (by with_reducible assumption))))⟩

def turnI (ps : List (Int × Int)) (k : Int) : Int := turnW (ptx ps k) (ptz ps k) (ptx ps (k + 1)) (ptz ps (k + 1)) (ptx ps (k + 2)) (ptz ps (k + 2))
theorem i_turnAt (A : Option Addr) (c : Nat) (ps : List (Int × Int)) (k : Nat) (w : World) (h : SlAt w 2 encP A ps) (hk : k < ps.length) (hl : ps.length ≤ 1048576) :
    Calls Try.prog 68 #[.slice A ps.length c, .int .i64 k] w fun e w' => e = .returned (.int .i64 (turnI ps k)) ∧ Ext w w' := by
  obtain ⟨b, off, rfl, hb⟩ := h.open_ (by omega)
  obtain ⟨d0, d1⟩ := h.ring hk
  go_enter Try.func68, Try.ntmps68
  go_wp2
  (refine wp_region_ext (by kernel_rfl) (by kernel_rfl) ?_; (repeat (go_big_quiet_step (first | (go_at_call 113; exact Calls_ext (i_corner _ _ ps _ _ (h.ext (ExtOf.ext _)) (by omega) hl (by omega) (by omega))) | (go_at_call 115; exact Calls_ext (i_turn _ _ _ _ _ _ _))))); refine wpQuiet_nil ?_; intro wq hxwq; obtain ⟨hcwq, hfwq⟩ := hxwq.rules; have hswq := hxwq.size; (try simp at hswq))
  go_wp2
  go_ret
  exact ⟨rfl, by (repeat (first | with_reducible exact Ext.refl _ | with_reducible assumption | ((with_reducible apply Src.ext); with_reducible assumption) | with_reducible refine Ext.alloc ?_ _ | with_reducible refine Ext.drew ?_ | with_reducible refine Ext.drewN ?_ _ | ((with_reducible refine Ext.setCell' ?_ ?_ _); solve | omega | simp | (simp; omega)) | (with_reducible refine Ext.trans ?_ (by with_reducible assumption))))⟩
def crossI (ps : List (Int × Int)) (i k : Int) : Bool := crossW (ptx ps i) (ptz ps i) (ptx ps (i + 1)) (ptz ps (i + 1)) (ptx ps k) (ptz ps k) (ptx ps (k + 1)) (ptz ps (k + 1))
/-- two edges have nothing in common, or follow one another -/
def apB (ps : List (Int × Int)) (i k : Nat) : Bool := decide (k = i + 1 ∨ (i = 0 ∧ k + 1 = ps.length)) || !crossI ps i k
theorem i_areApart (A : Option Addr) (c : Nat) (ps : List (Int × Int)) (i k : Nat) (w : World) (h : SlAt w 2 encP A ps) (hi : i < k) (hk : k < ps.length) (hl : ps.length ≤ 1048576) :
    Calls Try.prog 108 #[.slice A ps.length c, .int .i64 i, .int .i64 k] w fun e w' => e = .returned (.bool (apB ps i k)) ∧ Ext w w' := by
  obtain ⟨b, off, rfl, hb⟩ := h.open_ (by omega)
  obtain ⟨d0, d1⟩ := h.ring (k := i) (by omega)
  obtain ⟨g0, g1⟩ := h.ring hk
  by_cases h1 : k = i + 1
  · have t1 : ((k : Int) == (i : Int) + 1) = true := by rw [beq_iff_eq]; omega
    have eb : apB ps i k = true := by simp [apB, h1]
    rw [eb]
    clear h1 eb
    go_enter Try.func108, Try.ntmps108
    go_wp2
    go_ret
    exact ⟨rfl, by (repeat (first | with_reducible exact Ext.refl _ | with_reducible assumption | ((with_reducible apply Src.ext); with_reducible assumption) | with_reducible refine Ext.alloc ?_ _ | with_reducible refine Ext.drew ?_ | with_reducible refine Ext.drewN ?_ _ | ((with_reducible refine Ext.setCell' ?_ ?_ _); solve | omega | simp | (simp; omega)) | (with_reducible refine Ext.trans ?_ (by with_reducible assumption))))⟩
  · have t1 : ((k : Int) == (i : Int) + 1) = false := by rw [beq_eq_false_iff_ne]; omega
    by_cases h2 : i = 0
    · by_cases h3 : k + 1 = ps.length
      · have t2 : ((i : Int) == 0) = true := by rw [beq_iff_eq]; omega
        have t3 : ((k : Int) == (ps.length : Int) - 1) = true := by rw [beq_iff_eq]; omega
        have eb : apB ps i k = true := by simp [apB, h2, h3]
        rw [eb]
        clear h1 h2 h3 eb
        go_enter Try.func108, Try.ntmps108
        go_wp2
        go_ret
        exact ⟨rfl, by (repeat (first | with_reducible exact Ext.refl _ | with_reducible assumption | ((with_reducible apply Src.ext); with_reducible assumption) | with_reducible refine Ext.alloc ?_ _ | with_reducible refine Ext.drew ?_ | with_reducible refine Ext.drewN ?_ _ | ((with_reducible refine Ext.setCell' ?_ ?_ _); solve | omega | simp | (simp; omega)) | (with_reducible refine Ext.trans ?_ (by with_reducible assumption))))⟩
      · have t2 : ((i : Int) == 0) = true := by rw [beq_iff_eq]; omega
        have t3 : ((k : Int) == (ps.length : Int) - 1) = false := by rw [beq_eq_false_iff_ne]; omega
        have eb : apB ps i k = !crossI ps i k := by simp [apB, h1, h3]
        rw [eb]
        clear h1 h2 h3 eb
        go_enter Try.func108, Try.ntmps108
        go_wp2
        (refine wp_region_ext (by kernel_rfl) (by kernel_rfl) ?_; (repeat (go_big_quiet_step (first | (go_at_call 113; exact Calls_ext (i_corner _ _ ps _ _ (h.ext (ExtOf.ext _)) (by omega) hl (by omega) (by omega))) | (go_at_call 134; exact Calls_ext (i_doCross _ _ _ _ _ _ _ _ _))))); refine wpQuiet_nil ?_; intro wq hxwq; obtain ⟨hcwq, hfwq⟩ := hxwq.rules; have hswq := hxwq.size; (try simp at hswq))
        go_wp2
        go_ret
        exact ⟨rfl, by (repeat (first | with_reducible exact Ext.refl _ | with_reducible assumption | ((with_reducible apply Src.ext); with_reducible assumption) | with_reducible refine Ext.alloc ?_ _ | with_reducible refine Ext.drew ?_ | with_reducible refine Ext.drewN ?_ _ | ((with_reducible refine Ext.setCell' ?_ ?_ _); solve | omega | simp | (simp; omega)) | (with_reducible refine Ext.trans ?_ (by with_reducible assumption))))⟩
    · have t2 : ((i : Int) == 0) = false := by rw [beq_eq_false_iff_ne]; omega
      have eb : apB ps i k = !crossI ps i k := by simp [apB, h1, h2]
      rw [eb]
      clear h1 h2 eb
      go_enter Try.func108, Try.ntmps108
      go_wp2
      (refine wp_region_ext (by kernel_rfl) (by kernel_rfl) ?_; (repeat (go_big_quiet_step (first | (go_at_call 113; exact Calls_ext (i_corner _ _ ps _ _ (h.ext (ExtOf.ext _)) (by omega) hl (by omega) (by omega))) | (go_at_call 134; exact Calls_ext (i_doCross _ _ _ _ _ _ _ _ _))))); refine wpQuiet_nil ?_; intro wq hxwq; obtain ⟨hcwq, hfwq⟩ := hxwq.rules; have hswq := hxwq.size; (try simp at hswq))
      go_wp2
      go_ret
      exact ⟨rfl, by (repeat (first | with_reducible exact Ext.refl _ | with_reducible assumption | ((with_reducible apply Src.ext); with_reducible assumption) | with_reducible refine Ext.alloc ?_ _ | with_reducible refine Ext.drew ?_ | with_reducible refine Ext.drewN ?_ _ | ((with_reducible refine Ext.setCell' ?_ ?_ _); solve | omega | simp | (simp; omega)) | (with_reducible refine Ext.trans ?_ (by with_reducible assumption))))⟩
/-- the index of a point in a list, counted on from i, or -1 -/
def idxG (x z : Int) : List (Int × Int) → Int → Int
  | [], _ => -1
  | p :: ps, i => if eqP x z p.1 p.2 = true then i else idxG x z ps (i + 1)
theorem idxG_at {x z : Int} {xs : List (Int × Int)} {k : Nat} {r : Int} (hk : k < xs.length) (h : Hid (idxG x z (xs.drop k) k = r)) (he : eqP x z xs[k].1 xs[k].2 = true) : (k : Int) = r := by
  have h := h.out
  rw [List.drop_eq_getElem_cons hk] at h
  simpa [idxG, he] using h
theorem idxG_no {x z : Int} {xs : List (Int × Int)} {k : Nat} {r : Int} (hk : k < xs.length) (h : Hid (idxG x z (xs.drop k) k = r)) (he : eqP x z xs[k].1 xs[k].2 = false) : Hid (idxG x z (xs.drop (k + 1)) ((k + 1 : Nat) : Int) = r) := by
  have h := h.out
  rw [List.drop_eq_getElem_cons hk] at h
  show _ = _
  simpa [idxG, he] using h
theorem idxG_end {x z : Int} {xs : List (Int × Int)} {k : Nat} {r : Int} (hk : xs.length ≤ k) (h : Hid (idxG x z (xs.drop k) k = r)) : -1 = r := by
  have h := h.out
  rw [List.drop_of_length_le hk] at h
  simpa [idxG] using h
theorem i_Index (A : Option Addr) (c : Nat) (xs : List (Int × Int)) (x z : Int) (w : World) (h : SlAt w 2 encP A xs) (hl : xs.length ≤ 1048576) :
    Calls Try.prog 133 #[.slice A xs.length c, .agg #[.int .i64 x, .int .i64 z]] w fun e w' => e = .returned (.int .i64 (idxG x z xs 0)) ∧ Ext w w' := by
  obtain ⟨r, hr⟩ : ∃ r, idxG x z xs 0 = r := ⟨_, rfl⟩
  rw [hr]
  have HR := Lib.hid hr
  clear hr
  have hx0 : Ext w (w.alloc (.cells #[.int .i64 x, .int .i64 z] 33)) := by (repeat (first | with_reducible exact Ext.refl _ | with_reducible assumption | ((with_reducible apply Src.ext); with_reducible assumption) | with_reducible refine Ext.alloc ?_ _ | with_reducible refine Ext.drew ?_ | with_reducible refine Ext.drewN ?_ _ | ((with_reducible refine Ext.setCell' ?_ ?_ _); solve | omega | simp | (simp; omega)) | (with_reducible refine Ext.trans ?_ (by with_reducible assumption))))
  have h1 := h.ext hx0
  go_enter Try.func133, Try.ntmps133
  go_wp2
  go_loopw [8] (fun i wr => ∃ k : Nat, k ≤ xs.length ∧ i = .int .i64 k ∧ Hid (idxG x z (xs.drop k) k = r) ∧ Ext (w.alloc (.cells #[.int .i64 x, .int .i64 z] 33)) wr) (fun i _ => xs.length - (intOf i).toNat)
  case atStart => exact ⟨0, Nat.zero_le _, rfl, by simpa using HR, by (repeat (first | with_reducible exact Ext.refl _ | with_reducible assumption | ((with_reducible apply Src.ext); with_reducible assumption) | with_reducible refine Ext.alloc ?_ _ | with_reducible refine Ext.drew ?_ | with_reducible refine Ext.drewN ?_ _ | ((with_reducible refine Ext.setCell' ?_ ?_ _); solve | omega | simp | (simp; omega)) | (with_reducible refine Ext.trans ?_ (by with_reducible assumption))))⟩
  case round =>
    obtain ⟨k, hk, rfl, HI, hxr⟩ := hrel
    obtain ⟨hcr, hfr⟩ := hxr.rules
    have hsr := hxr.size
    simp at hsr
    (have := (show w.heap.size < wr.heap.size from by omega))
    by_cases hlt : k < xs.length
    · obtain ⟨b, off, rfl, hb, d0, d1⟩ := (h1.ext hxr).pt hlt
      go_wp2
      (refine wp_region_ext (by kernel_rfl) (by kernel_rfl) ?_; (repeat (go_big_quiet_step (fail))); refine wpQuiet_nil ?_; intro wq hxwq; obtain ⟨hcwq, hfwq⟩ := hxwq.rules; have hswq := hxwq.size; (try simp at hswq))
      go_wp2
      · go_ret
        exact ⟨ret_int (idxG_at hlt HI (by assumption)), by (repeat (first | with_reducible exact Ext.refl _ | with_reducible assumption | ((with_reducible apply Src.ext); with_reducible assumption) | with_reducible refine Ext.alloc ?_ _ | with_reducible refine Ext.drew ?_ | with_reducible refine Ext.drewN ?_ _ | ((with_reducible refine Ext.setCell' ?_ ?_ _); solve | omega | simp | (simp; omega)) | (with_reducible refine Ext.trans ?_ (by with_reducible assumption))))⟩
      · go_roundw
        case rel => exact ⟨k + 1, by omega, by go_num, idxG_no hlt HI (by first | assumption | exact Bool.eq_false_iff.2 (by assumption)), by (repeat (first | with_reducible exact Ext.refl _ | with_reducible assumption | ((with_reducible apply Src.ext); with_reducible assumption) | with_reducible refine Ext.alloc ?_ _ | with_reducible refine Ext.drew ?_ | with_reducible refine Ext.drewN ?_ _ | ((with_reducible refine Ext.setCell' ?_ ?_ _); solve | omega | simp | (simp; omega)) | (with_reducible refine Ext.trans ?_ (by with_reducible assumption))))⟩
        case measure => simp [intOf]; omega
    · go_wp2
      go_ret
      exact ⟨ret_int (idxG_end (by omega) HI), by (repeat (first | with_reducible exact Ext.refl _ | with_reducible assumption | ((with_reducible apply Src.ext); with_reducible assumption) | with_reducible refine Ext.alloc ?_ _ | with_reducible refine Ext.drew ?_ | with_reducible refine Ext.drewN ?_ _ | ((with_reducible refine Ext.setCell' ?_ ?_ _); solve | omega | simp | (simp; omega)) | (with_reducible refine Ext.trans ?_ (by with_reducible assumption))))⟩
def hasP (xs : List (Int × Int)) (x z : Int) : Bool := decide (0 ≤ idxG x z xs 0)
theorem idxG_mem {x z : Int} : ∀ (xs : List (Int × Int)) (i : Int), 0 ≤ i → (0 ≤ idxG x z xs i ↔ (x, z) ∈ xs)
  | [], i, _ => by simp [idxG]
  | p :: ps, i, hi => by
    unfold idxG
    by_cases h : eqP x z p.1 p.2 = true
    · rw [if_pos h]
      have := eqP_iff.1 h
      exact ⟨fun _ => List.mem_cons.2 (Or.inl (Prod.ext this.1 this.2)), fun _ => hi⟩
    · rw [if_neg h, idxG_mem ps (i + 1) (by omega), List.mem_cons]
      refine ⟨Or.inr, fun e => e.resolve_left fun e => h ?_⟩
      rw [← e]
      exact eqP_iff.2 ⟨rfl, rfl⟩
theorem hasP_iff {xs : List (Int × Int)} {x z : Int} : hasP xs x z = true ↔ (x, z) ∈ xs := by rw [hasP, decide_eq_true_eq]; exact idxG_mem xs 0 (by omega)
theorem i_Contains (A : Option Addr) (c : Nat) (xs : List (Int × Int)) (x z : Int) (w : World) (h : SlAt w 2 encP A xs) (hl : xs.length ≤ 1048576) :
    Calls Try.prog 107 #[.slice A xs.length c, .agg #[.int .i64 x, .int .i64 z]] w fun e w' => e = .returned (.bool (hasP xs x z)) ∧ Ext w w' := by
  have h1 := h.ext (by (repeat (first | with_reducible exact Ext.refl _ | with_reducible assumption | ((with_reducible apply Src.ext); with_reducible assumption) | with_reducible refine Ext.alloc ?_ _ | with_reducible refine Ext.drew ?_ | with_reducible refine Ext.drewN ?_ _ | ((with_reducible refine Ext.setCell' ?_ ?_ _); solve | omega | simp | (simp; omega)) | (with_reducible refine Ext.trans ?_ (by with_reducible assumption)))) : Ext w (w.alloc (.cells #[.int .i64 x, .int .i64 z] 33)))
  go_enter Try.func107, Try.ntmps107
  go_wp2_with (first | (go_at_call 133; refine (i_Index _ _ xs _ _ _ h1 hl).mono ?_; rintro e w1 ⟨rfl, hx1⟩; obtain ⟨hc1, hf1⟩ := hx1.rules; have hs1 := hx1.size; (try simp at hs1)))
  go_ret
  exact ⟨rfl, by (repeat (first | with_reducible exact Ext.refl _ | with_reducible assumption | ((with_reducible apply Src.ext); with_reducible assumption) | with_reducible refine Ext.alloc ?_ _ | with_reducible refine Ext.drew ?_ | with_reducible refine Ext.drewN ?_ _ | ((with_reducible refine Ext.setCell' ?_ ?_ _); solve | omega | simp | (simp; omega)) | (with_reducible refine Ext.trans ?_ (by with_reducible assumption))))⟩
end Go.Proofs.Yteppjdoggjcdoaa
