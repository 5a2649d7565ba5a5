/- Ways of edges as the program joins them, and rings straightened. -/
import Derived.Test.YteppjdoggjcdoaaP1
import Derived.Test.YteppjdoggjcdoaaPF
import Derived.Test.YteppjdoggjcdoaaNB
import Derived.Deep.RegionHeld3
import Derived.Deep.DeepCutAuto
import Derived.RegionTactic
import Derived.BigRegion
import Derived.WalkLawsBesides
import Derived.WalkSpells
import Derived.Lib.MinMax
import Derived.Outline
namespace Go.Proofs.Yteppjdoggjcdoaa
open Go.RowKit
attribute [local go_sem] ExtOf.cell ExtOf.frozen


/-- the length that a slice says -/
def lenV : Value → Nat
  | .slice _ n _ => n
  | _ => 0
/-- the way of edges is one ring that goes through all of them -/
def OneR (es : List Ed) : Prop := 0 < es.length ∧ Ret es es.length
theorem stB_walk (ps : List (Int × Int)) (k : Nat) (hk : k < ps.length) (px pz : Int) (hp : ps.getD k (0, 0) = (px, pz)) :
    (turnW (ptx ps ((k : Int) + (ps.length : Int) - 1)) (ptz ps ((k : Int) + (ps.length : Int) - 1)) px pz (ptx ps ((k : Int) + 1)) (ptz ps ((k : Int) + 1)) != 0) = stB ps k := by
  unfold stB atP
  rw [hp, show (k : Int) + (ps.length : Int) - 1 = ((k + ps.length - 1 : Nat) : Int) by omega]

theorem blk_pt {w : World} {g : Nat} {t : TypeId} {x z : Int} (h : Blk w g t #[.int .i64 x, .int .i64 z]) : SlAt w 2 encP (some ⟨g, 0, none⟩) [(x, z)] := h.sl rfl len_encP
theorem blk_keptP {w w' : World} {row : Option Nat} {g : Nat} {t : TypeId} {cs : Array Value} (hg : w.grownBy w' row) (h : Blk w g t cs) (hne : ¬ some g = row) : Blk w' g t cs := (hg.block g h.lt hne).trans h

set_option maxRecDepth 20000 in
set_option maxHeartbeats 12800000 in
theorem i_straightened (A : Option Addr) (c : Nat) (ps : List (Int × Int)) (w : World) (h : SlAt w 2 encP A ps) (hl : ps.length ≤ 1000) :
    Calls Try.prog 86 #[.slice A ps.length c] w fun e w' => ∃ v, e = .returned v ∧ OwP w' w.heap.size v (stP ps) ∧ Ext w w' := by
  go_enter Try.func86, Try.ntmps86
  go_wp2
  go_loopw [3, 8] (fun v i wr => ∃ k : Nat, k ≤ ps.length ∧ i = .int .i64 k ∧ Hid (OwP wr w.heap.size v (stTo ps k)) ∧ Ext w wr) (fun _ i _ => ps.length - (intOf i).toNat)
  case atStart => exact ⟨0, by omega, rfl, Lib.hid (Own.nil _ _), by (repeat (first | with_reducible exact Ext.refl _ | with_reducible assumption | ((with_reducible apply Src.ext); with_reducible assumption) | with_reducible refine Ext.alloc ?_ _ | with_reducible refine Ext.drew ?_ | with_reducible refine Ext.drewN ?_ _ | ((with_reducible refine Ext.setCell' ?_ ?_ _); solve | omega | simp | (simp; omega)) | (with_reducible refine Ext.trans ?_ (by with_reducible assumption))))⟩
  case round =>
    obtain ⟨k, hk, rfl, HV, hxr⟩ := hrel
    obtain ⟨w5, rfl⟩ : ∃ x, x = wr := ⟨wr, rfl⟩
    have hsr := hxr.size
    by_cases hlt : k < ps.length
    · have hSr := h.ext hxr
      obtain ⟨b, off, rfl, hb, d0, d1⟩ := hSr.pt (k := k) hlt
      have HSL : Hid ((stTo ps k).length ≤ 1000) := Lib.hid (by have := stTo_len ps k; omega)
      obtain ⟨px, pz, hpe⟩ : ∃ px pz, ps.getD k (0, 0) = (px, pz) := ⟨_, _, rfl⟩
      rw [hpe] at d0 d1
      simp only at d0 d1
      have hw : (turnW (ptx ps ((k : Int) + (ps.length : Int) - 1)) (ptz ps ((k : Int) + (ps.length : Int) - 1)) px pz (ptx ps ((k : Int) + 1)) (ptz ps ((k : Int) + 1)) != 0) = stB ps k := stB_walk ps k hlt px pz hpe
      have hSa : SlAt (w5.alloc (.cells #[.int .i64 px, .int .i64 pz] 33)) 2 encP (some ⟨b, off, none⟩) ps := hSr.ext (by (repeat (first | with_reducible exact Ext.refl _ | with_reducible assumption | ((with_reducible apply Src.ext); with_reducible assumption) | with_reducible refine Ext.alloc ?_ _ | with_reducible refine Ext.drew ?_ | with_reducible refine Ext.drewN ?_ _ | ((with_reducible refine Ext.setCell' ?_ ?_ _); solve | omega | simp | (simp; omega)) | (with_reducible refine Ext.trans ?_ (by with_reducible assumption)))))
      cases hq : stB ps k with
      | true =>
        have HQ := Lib.hid hq
        rw [hq] at hw
        have HPE := Lib.hid hpe
        clear hq hpe
        go_wp2
        (refine wp_region_ext (by kernel_rfl) (by kernel_rfl) ?_; (repeat (go_big_quiet_step (first | (go_at_call 113; exact Calls_ext (i_corner _ _ ps _ _ (hSa.ext (ExtOf.ext _)) (by omega) (by omega) (by omega) (by omega))) | (go_at_call 115; exact Calls_ext (i_turn _ _ _ _ _ _ _))))); refine wpQuiet_nil ?_; intro wq hxwq; obtain ⟨hcwq, hfwq⟩ := hxwq.rules; have hswq := hxwq.size; (try simp at hswq))
        go_wp2_with (at_builtin; refine wpList_append_sl elP len_encP one_encP rfl _ _ rfl rfl (HV.out.ext (by (repeat (first | with_reducible exact Ext.refl _ | with_reducible assumption | ((with_reducible apply Src.ext); with_reducible assumption) | with_reducible refine Ext.alloc ?_ _ | with_reducible refine Ext.drew ?_ | with_reducible refine Ext.drewN ?_ _ | ((with_reducible refine Ext.setCell' ?_ ?_ _); solve | omega | simp | (simp; omega)) | (with_reducible refine Ext.trans ?_ (by with_reducible assumption)))))) (xs := [(px, pz)]) rfl (blk_pt (by (repeat (first | with_reducible assumption | ((with_reducible apply Blk.new); solve | simp | rfl) | with_reducible apply Blk.drew | with_reducible apply Blk.drewN | ((with_reducible apply Blk.far'); solve | omega | simp | (simp; omega)) | with_reducible apply Blk.set_ | with_reducible apply Blk.alloc | ((with_reducible apply Blk.ext'); with_reducible assumption) | ((with_reducible apply Blk.but'); (with_reducible assumption); solve | omega | (simp; omega)))))) (by have := HSL.out; simp; unfold maxLen; omega) (by have := HSL.out; simp; omega) (by first | omega | (simp; omega)) ?_)
        intro v' w8 hown hgrow _
        have HV2 : Hid (OwP w8 w.heap.size v' (stTo ps (k + 1))) := Lib.hid (by rw [stTo_yes HQ.out]; unfold atP; rw [HPE.out]; exact hown)
        have hx8 : Ext w w8 := Ext.grown (by (repeat (first | with_reducible exact Ext.refl _ | with_reducible assumption | ((with_reducible apply Src.ext); with_reducible assumption) | with_reducible refine Ext.alloc ?_ _ | with_reducible refine Ext.drew ?_ | with_reducible refine Ext.drewN ?_ _ | ((with_reducible refine Ext.setCell' ?_ ?_ _); solve | omega | simp | (simp; omega)) | (with_reducible refine Ext.trans ?_ (by with_reducible assumption))))) hgrow (fun q hq => (HV.out.row q hq).1)
        clear hown hgrow
        go_wp2
        go_roundw
        case rel => exact ⟨k + 1, by omega, by go_num, HV2, hx8⟩
        case measure => simp [intOf]; omega
      | false =>
        have HQ := Lib.hid hq
        rw [hq] at hw
        have HPE := Lib.hid hpe
        clear hq hpe
        go_wp2
        (refine wp_region_ext (by kernel_rfl) (by kernel_rfl) ?_; (repeat (go_big_quiet_step (first | (go_at_call 113; exact Calls_ext (i_corner _ _ ps _ _ (hSa.ext (ExtOf.ext _)) (by omega) (by omega) (by omega) (by omega))) | (go_at_call 115; exact Calls_ext (i_turn _ _ _ _ _ _ _))))); refine wpQuiet_nil ?_; intro wq hxwq; obtain ⟨hcwq, hfwq⟩ := hxwq.rules; have hswq := hxwq.size; (try simp at hswq))
        go_wp2
        go_roundw
        case rel => exact ⟨k + 1, by omega, by go_num, Lib.hid (by rw [stTo_no HQ.out]; exact HV.out.ext (by (repeat (first | with_reducible exact Ext.refl _ | with_reducible assumption | ((with_reducible apply Src.ext); with_reducible assumption) | with_reducible refine Ext.alloc ?_ _ | with_reducible refine Ext.drew ?_ | with_reducible refine Ext.drewN ?_ _ | ((with_reducible refine Ext.setCell' ?_ ?_ _); solve | omega | simp | (simp; omega)) | (with_reducible refine Ext.trans ?_ (by with_reducible assumption)))))), by (repeat (first | with_reducible exact Ext.refl _ | with_reducible assumption | ((with_reducible apply Src.ext); with_reducible assumption) | with_reducible refine Ext.alloc ?_ _ | with_reducible refine Ext.drew ?_ | with_reducible refine Ext.drewN ?_ _ | ((with_reducible refine Ext.setCell' ?_ ?_ _); solve | omega | simp | (simp; omega)) | (with_reducible refine Ext.trans ?_ (by with_reducible assumption))))⟩
        case measure => simp [intOf]; omega
    · obtain rfl : k = ps.length := by omega
      go_wp2
      go_ret
      exact ⟨_, rfl, HV.out, hxr⟩

set_option maxRecDepth 20000 in
set_option maxHeartbeats 12800000 in
theorem s_l17Straight (A : Option Addr) (c : Nat) (ps : List (Int × Int)) (w : World) (h : SlAt w 2 encP A ps) (hl : ps.length ≤ 1000) :
    Calls Try.prog 118 #[.slice A ps.length c] w fun e w' => ∃ v, e = .returned v ∧ OwP w' w.heap.size v (stP ps) ∧ Ext w w' := by
  go_enter Try.func118, Try.ntmps118
  go_wp2
  go_loopw [3, 5] (fun v i wr => ∃ k : Nat, k ≤ ps.length ∧ i = .int .i64 k ∧ Hid (OwP wr w.heap.size v (stTo ps k)) ∧ Ext w wr) (fun _ i _ => ps.length - (intOf i).toNat)
  case atStart => exact ⟨0, by omega, rfl, Lib.hid (World.ownsRow_made (base := w.heap.size) (e := 33) (size := 2) w #[] 0 (Nat.le_refl _) (Nat.zero_le _) rfl), by (repeat (first | with_reducible exact Ext.refl _ | with_reducible assumption | ((with_reducible apply Src.ext); with_reducible assumption) | with_reducible refine Ext.alloc ?_ _ | with_reducible refine Ext.drew ?_ | with_reducible refine Ext.drewN ?_ _ | ((with_reducible refine Ext.setCell' ?_ ?_ _); solve | omega | simp | (simp; omega)) | (with_reducible refine Ext.trans ?_ (by with_reducible assumption))))⟩
  case round =>
    obtain ⟨k, hk, rfl, HV, hxr⟩ := hrel
    obtain ⟨w5, rfl⟩ : ∃ x, x = wr := ⟨wr, rfl⟩
    have hsr := hxr.size
    by_cases hlt : k < ps.length
    · have hSr := h.ext hxr
      obtain ⟨b, off, rfl, hb, d0, d1⟩ := hSr.pt (k := k) hlt
      have HSL : Hid ((stTo ps k).length ≤ 1000) := Lib.hid (by have := stTo_len ps k; omega)
      obtain ⟨px, pz, hpe⟩ : ∃ px pz, ps.getD k (0, 0) = (px, pz) := ⟨_, _, rfl⟩
      rw [hpe] at d0 d1
      simp only at d0 d1
      have hw : (turnW (ptx ps ((k : Int) + (ps.length : Int) - 1)) (ptz ps ((k : Int) + (ps.length : Int) - 1)) px pz (ptx ps ((k : Int) + 1)) (ptz ps ((k : Int) + 1)) != 0) = stB ps k := stB_walk ps k hlt px pz hpe
      cases hq : stB ps k with
      | true =>
        have HQ := Lib.hid hq
        rw [hq] at hw
        have HPE := Lib.hid hpe
        clear hq hpe
        go_wp2
        (refine wp_region_ext (by kernel_rfl) (by kernel_rfl) ?_; (repeat (go_big_quiet_step (first | (go_at_call 70; exact Calls_ext (s_corner _ _ ps _ _ (hSr.ext (ExtOf.ext _)) (by omega) (by omega) (by omega) (by omega))) | (go_at_call 69; exact Calls_ext (s_turn _ _ _ _ _ _ _))))); refine wpQuiet_nil ?_; intro wq hxwq; obtain ⟨hcwq, hfwq⟩ := hxwq.rules; have hswq := hxwq.size; (try simp at hswq))
        go_wp2_with (at_builtin; refine wpList_append_sl elP len_encP one_encP rfl _ _ rfl rfl (HV.out.ext (by (repeat (first | with_reducible exact Ext.refl _ | with_reducible assumption | ((with_reducible apply Src.ext); with_reducible assumption) | with_reducible refine Ext.alloc ?_ _ | with_reducible refine Ext.drew ?_ | with_reducible refine Ext.drewN ?_ _ | ((with_reducible refine Ext.setCell' ?_ ?_ _); solve | omega | simp | (simp; omega)) | (with_reducible refine Ext.trans ?_ (by with_reducible assumption)))))) (xs := [(px, pz)]) rfl (blk_pt (by (repeat (first | with_reducible assumption | ((with_reducible apply Blk.new); solve | simp | rfl) | with_reducible apply Blk.drew | with_reducible apply Blk.drewN | ((with_reducible apply Blk.far'); solve | omega | simp | (simp; omega)) | with_reducible apply Blk.set_ | with_reducible apply Blk.alloc | ((with_reducible apply Blk.ext'); with_reducible assumption) | ((with_reducible apply Blk.but'); (with_reducible assumption); solve | omega | (simp; omega)))))) (by have := HSL.out; simp; unfold maxLen; omega) (by have := HSL.out; simp; omega) (by first | omega | (simp; omega)) ?_)
        intro v' w8 hown hgrow _
        have HV2 : Hid (OwP w8 w.heap.size v' (stTo ps (k + 1))) := Lib.hid (by rw [stTo_yes HQ.out]; unfold atP; rw [HPE.out]; exact hown)
        have hx8 : Ext w w8 := Ext.grown (by (repeat (first | with_reducible exact Ext.refl _ | with_reducible assumption | ((with_reducible apply Src.ext); with_reducible assumption) | with_reducible refine Ext.alloc ?_ _ | with_reducible refine Ext.drew ?_ | with_reducible refine Ext.drewN ?_ _ | ((with_reducible refine Ext.setCell' ?_ ?_ _); solve | omega | simp | (simp; omega)) | (with_reducible refine Ext.trans ?_ (by with_reducible assumption))))) hgrow (fun q hq => (HV.out.row q hq).1)
        clear hown hgrow
        go_wp2
        go_roundw
        case rel => exact ⟨k + 1, by omega, by go_num, HV2, hx8⟩
        case measure => simp [intOf]; omega
      | false =>
        have HQ := Lib.hid hq
        rw [hq] at hw
        have HPE := Lib.hid hpe
        clear hq hpe
        go_wp2
        (refine wp_region_ext (by kernel_rfl) (by kernel_rfl) ?_; (repeat (go_big_quiet_step (first | (go_at_call 70; exact Calls_ext (s_corner _ _ ps _ _ (hSr.ext (ExtOf.ext _)) (by omega) (by omega) (by omega) (by omega))) | (go_at_call 69; exact Calls_ext (s_turn _ _ _ _ _ _ _))))); refine wpQuiet_nil ?_; intro wq hxwq; obtain ⟨hcwq, hfwq⟩ := hxwq.rules; have hswq := hxwq.size; (try simp at hswq))
        go_wp2
        go_roundw
        case rel => exact ⟨k + 1, by omega, by go_num, Lib.hid (by rw [stTo_no HQ.out]; exact HV.out.ext (by (repeat (first | with_reducible exact Ext.refl _ | with_reducible assumption | ((with_reducible apply Src.ext); with_reducible assumption) | with_reducible refine Ext.alloc ?_ _ | with_reducible refine Ext.drew ?_ | with_reducible refine Ext.drewN ?_ _ | ((with_reducible refine Ext.setCell' ?_ ?_ _); solve | omega | simp | (simp; omega)) | (with_reducible refine Ext.trans ?_ (by with_reducible assumption)))))), by (repeat (first | with_reducible exact Ext.refl _ | with_reducible assumption | ((with_reducible apply Src.ext); with_reducible assumption) | with_reducible refine Ext.alloc ?_ _ | with_reducible refine Ext.drew ?_ | with_reducible refine Ext.drewN ?_ _ | ((with_reducible refine Ext.setCell' ?_ ?_ _); solve | omega | simp | (simp; omega)) | (with_reducible refine Ext.trans ?_ (by with_reducible assumption))))⟩
        case measure => simp [intOf]; omega
    · obtain rfl : k = ps.length := by omega
      go_wp2
      go_ret
      exact ⟨_, rfl, HV.out, hxr⟩

theorem SlAt.edX {w : World} {A : Option Addr} {es : List Ed} (h : SlAt w 4 encE A es) {k : Nat} (hk : k < es.length) :
    ∃ b off, A = some ⟨b, off, none⟩ ∧ b < w.heap.size ∧ w.cell? ⟨b, off + k * 4, none⟩ = some (.int .i64 (es.getD k edD).1.1) ∧ w.cell? ⟨b, off + k * 4 + 1, none⟩ = some (.int .i64 (es.getD k edD).1.2) ∧ w.cell? ⟨b, off + k * 4 + 2, none⟩ = some (.int .i64 (es.getD k edD).2.1) ∧ w.cell? ⟨b, off + k * 4 + 3, none⟩ = some (.int .i64 (es.getD k edD).2.2) := by
  obtain ⟨b, off, e, hb, hc⟩ := h (by omega)
  have hg : es[k]? = some (es.getD k edD) := by simp [List.getD, hk]
  exact ⟨b, off, e, hb, by simpa using hc k _ hg 0 _ rfl, hc k _ hg 1 _ rfl, hc k _ hg 2 _ rfl, hc k _ hg 3 _ rfl⟩

/-- the index of the first element with p, or -1 -/
def fstG {α : Type} (p : α → Bool) (xs : List α) : Int := match xs.findIdx? p with
  | some i => i
  | none => -1
theorem fstG_hit {α : Type} {d : α} {p : α → Bool} {xs : List α} {k : Nat} (hk : k < xs.length) (h : p (xs.getD k d) = true) (hb : ∀ j, j < k → p (xs.getD j d) = false) : (k : Int) = fstG p xs := by
  have : xs.findIdx? p = some k := by
    rw [List.findIdx?_eq_some_iff_getElem]
    refine ⟨hk, by simpa [List.getD, hk] using h, fun j hj => ?_⟩
    have := hb j hj
    have hjl : j < xs.length := by omega
    simpa [List.getD, hjl] using this
  unfold fstG
  rw [this]
theorem fstG_miss {α : Type} {d : α} {p : α → Bool} {xs : List α} (hb : ∀ j, j < xs.length → p (xs.getD j d) = false) : -1 = fstG p xs := by
  have : xs.findIdx? p = none := by
    rw [List.findIdx?_eq_none_iff]
    intro x hx
    obtain ⟨j, hj, rfl⟩ := List.mem_iff_getElem.1 hx
    have := hb j hj
    simpa [List.getD, hj] using this
  unfold fstG
  rw [this]
theorem fstG_any {α : Type} (p : α → Bool) (xs : List α) : decide (0 ≤ fstG p xs) = xs.any p := by
  unfold fstG
  rcases h : xs.findIdx? p with _ | k
  · rw [List.findIdx?_eq_none_iff] at h
    have : xs.any p = false := by
      rw [List.any_eq_false]
      intro x hx
      have := h x hx
      simp [this]
    rw [this]; rfl
  · rw [List.findIdx?_eq_some_iff_getElem] at h
    obtain ⟨hk, hp, _⟩ := h
    have : xs.any p = true := by
      rw [List.any_eq_true]
      exact ⟨xs[k], List.getElem_mem hk, hp⟩
    rw [this]
    simp
theorem mem_getD {α : Type} {d : α} {xs : List α} {k : Nat} (hk : k < xs.length) : xs.getD k d ∈ xs := by simp [List.getD, hk]

set_option maxHeartbeats 3200000 in
theorem i_IndexFuncE (p : Ed → Bool) (g : Nat) (lb : Array Value) (eg : ∀ args w, (callFunc g args).run Try.prog w = .ok (.enter g args) w) (A : Option Addr) (n c : Nat) (xs : List (Ed)) (w : World) (h : SlAt w 4 encE A xs) (hn : n = xs.length) (hl : n ≤ 1048576)
    (hp : ∀ x ∈ xs, ∀ W, Ext w W → Calls Try.prog g (#[.agg #[.int .i64 x.1.1, .int .i64 x.1.2, .int .i64 x.2.1, .int .i64 x.2.2]] ++ lb) W fun e w' => e = .returned (.bool (p x)) ∧ Ext W w') :
    Calls Try.prog 122 #[.slice A n c, .func (.func g) #[] lb] w fun e w' => e = .returned (.int .i64 (fstG p xs)) ∧ Ext w w' := by
  have HP := Lib.hid hp
  have HN := Lib.hid hn
  clear hp hn
  go_enter Try.func122, Try.ntmps122
  go_wp2
  go_loopw [8] (fun i wr => ∃ k : Nat, k ≤ n ∧ i = .int .i64 k ∧ Hid (∀ j, j < k → p (xs.getD j edD) = false) ∧ Ext w wr) (fun i _ => n - (intOf i).toNat)
  case atStart => exact ⟨0, by omega, rfl, fun j hj => absurd hj (by omega), by (repeat (first | with_reducible exact Ext.refl _ | with_reducible assumption | ((with_reducible apply Src.ext); with_reducible assumption) | with_reducible refine Ext.alloc ?_ _ | with_reducible refine Ext.drew ?_ | with_reducible refine Ext.drewN ?_ _ | ((with_reducible refine Ext.setCell' ?_ ?_ _); solve | omega | simp | (simp; omega)) | (with_reducible refine Ext.trans ?_ (by with_reducible assumption))))⟩
  case round =>
    obtain ⟨k, hk, rfl, HJ, hxr⟩ := hrel
    by_cases hlt : k < n
    · have hkr : k < xs.length := by rw [← HN.out]; exact hlt
      obtain ⟨b, off, rfl, hb, d0, d1, d2, d3⟩ := (h.ext hxr).edX hkr
      have hcall := HP.out _ (mem_getD (d := edD) hkr)
      cases hq : p (xs.getD k edD) with
      | true =>
        have HQ := Lib.hid hq
        rw [hq] at hcall
        have HC := Lib.hid hcall
        clear hcall hq
        obtain ⟨r, hr⟩ : ∃ r, r = xs.getD k edD := ⟨_, rfl⟩
        rw [← hr] at d0 d1 d2 d3 HC HQ
        have HR := Lib.hid hr
        clear hr
        go_wp2_with fail
        refine (HC.out _ (by (repeat (first | with_reducible exact Ext.refl _ | with_reducible assumption | ((with_reducible apply Src.ext); with_reducible assumption) | with_reducible refine Ext.alloc ?_ _ | with_reducible refine Ext.drew ?_ | with_reducible refine Ext.drewN ?_ _ | ((with_reducible refine Ext.setCell' ?_ ?_ _); solve | omega | simp | (simp; omega)) | (with_reducible refine Ext.trans ?_ (by with_reducible assumption)))))).mono ?_
        rintro e w' ⟨rfl, hx'⟩
        go_wp2
        go_ret
        exact ⟨ret_int (fstG_hit hkr (by rw [← HR.out]; exact HQ.out) HJ.out), by (repeat (first | with_reducible exact Ext.refl _ | with_reducible assumption | ((with_reducible apply Src.ext); with_reducible assumption) | with_reducible refine Ext.alloc ?_ _ | with_reducible refine Ext.drew ?_ | with_reducible refine Ext.drewN ?_ _ | ((with_reducible refine Ext.setCell' ?_ ?_ _); solve | omega | simp | (simp; omega)) | (with_reducible refine Ext.trans ?_ (by with_reducible assumption))))⟩
      | false =>
        have HJ2 := Lib.hid (upTo_succ HJ.out hq)
        rw [hq] at hcall
        have HC := Lib.hid hcall
        clear hcall hq
        obtain ⟨r, hr⟩ : ∃ r, r = xs.getD k edD := ⟨_, rfl⟩
        rw [← hr] at d0 d1 d2 d3 HC
        have HR := Lib.hid hr
        clear hr
        go_wp2_with fail
        refine (HC.out _ (by (repeat (first | with_reducible exact Ext.refl _ | with_reducible assumption | ((with_reducible apply Src.ext); with_reducible assumption) | with_reducible refine Ext.alloc ?_ _ | with_reducible refine Ext.drew ?_ | with_reducible refine Ext.drewN ?_ _ | ((with_reducible refine Ext.setCell' ?_ ?_ _); solve | omega | simp | (simp; omega)) | (with_reducible refine Ext.trans ?_ (by with_reducible assumption)))))).mono ?_
        rintro e w' ⟨rfl, hx'⟩
        go_wp2
        go_roundw
        case rel => exact ⟨k + 1, by omega, by go_num, HJ2, by (repeat (first | with_reducible exact Ext.refl _ | with_reducible assumption | ((with_reducible apply Src.ext); with_reducible assumption) | with_reducible refine Ext.alloc ?_ _ | with_reducible refine Ext.drew ?_ | with_reducible refine Ext.drewN ?_ _ | ((with_reducible refine Ext.setCell' ?_ ?_ _); solve | omega | simp | (simp; omega)) | (with_reducible refine Ext.trans ?_ (by with_reducible assumption))))⟩
        case measure => simp [intOf]; omega
    · obtain rfl : k = n := by omega
      go_wp2
      go_ret
      exact ⟨ret_int (fstG_miss (by rw [← HN.out]; exact HJ.out)), by (repeat (first | with_reducible exact Ext.refl _ | with_reducible assumption | ((with_reducible apply Src.ext); with_reducible assumption) | with_reducible refine Ext.alloc ?_ _ | with_reducible refine Ext.drew ?_ | with_reducible refine Ext.drewN ?_ _ | ((with_reducible refine Ext.setCell' ?_ ?_ _); solve | omega | simp | (simp; omega)) | (with_reducible refine Ext.trans ?_ (by with_reducible assumption))))⟩

theorem i_joinE1 (e : Ed) (px pz : Int) (pb : Nat) (w : World) (hB : Blk w pb 33 #[.int .i64 px, .int .i64 pz]) :
    Calls Try.prog 123 #[.agg #[.int .i64 e.1.1, .int .i64 e.1.2, .int .i64 e.2.1, .int .i64 e.2.2], .pointer (some ⟨pb, 0, none⟩)] w fun e' w' => e' = .returned (.bool (eqP e.1.1 e.1.2 px pz)) ∧ Ext w w' := by
  have c0 : w.cell? ⟨pb, 0, none⟩ = some (.int .i64 px) := hB.cell 0
  have c1 : w.cell? ⟨pb, 1, none⟩ = some (.int .i64 pz) := hB.cell 1
  have hlt := hB.lt
  obtain ⟨⟨a1, a2⟩, a3, a4⟩ := e
  go_enter Try.func123, Try.ntmps123
  go_wp2
  go_ret
  exact ⟨rfl, by (repeat (first | with_reducible exact Ext.refl _ | with_reducible assumption | ((with_reducible apply Src.ext); with_reducible assumption) | with_reducible refine Ext.alloc ?_ _ | with_reducible refine Ext.drew ?_ | with_reducible refine Ext.drewN ?_ _ | ((with_reducible refine Ext.setCell' ?_ ?_ _); solve | omega | simp | (simp; omega)) | (with_reducible refine Ext.trans ?_ (by with_reducible assumption))))⟩
theorem en_joinE1 (args : Array Value) (w : World) : (callFunc 123 args).run Try.prog w = .ok (.enter 123 args) w := enters_isSome Try.func123 (by kernel_rfl) (by kernel_rfl) args w
theorem fstG_cases {α : Type} (d : α) (p : α → Bool) (xs : List α) : (fstG p xs = -1 ∧ ∀ j, j < xs.length → p (xs.getD j d) = false) ∨ ∃ k, k < xs.length ∧ fstG p xs = (k : Int) ∧ p (xs.getD k d) = true ∧ ∀ j, j < k → p (xs.getD j d) = false := by
  unfold fstG
  rcases h : xs.findIdx? p with _ | k
  · rw [List.findIdx?_eq_none_iff] at h
    refine .inl ⟨rfl, fun j hj => ?_⟩
    have := h xs[j] (List.getElem_mem hj)
    simpa [List.getD, hj] using this
  · rw [List.findIdx?_eq_some_iff_getElem] at h
    obtain ⟨hk, hp, hb⟩ := h
    refine .inr ⟨k, hk, rfl, by simpa [List.getD, hk] using hp, fun j hj => ?_⟩
    have hjl : j < xs.length := by omega
    have := hb j hj
    simpa [List.getD, hjl] using this
theorem eqP_no {e : Ed} {p : Int × Int} (h : eqP e.1.1 e.1.2 p.1 p.2 = false) : e.1 ≠ p := fun q => by rw [q] at h; rw [show eqP p.1 p.2 p.1 p.2 = true from eqP_iff.2 ⟨rfl, rfl⟩] at h; cases h
theorem eqP_ok {e : Ed} {p : Int × Int} (h : eqP e.1.1 e.1.2 p.1 p.2 = true) : e.1 = p := Prod.ext (eqP_iff.1 h).1 (eqP_iff.1 h).2
theorem wk_next {es : List Ed} {k : Nat} {p : Int × Int} (h : wk es k = some p) : wk es (k + 1) = nx es p := by rw [wk, h]; rfl
theorem wkL_first {es : List Ed} (h0 : 0 < es.length) : wkL es 1 = [(es.getD 0 edD).1] := by
  cases es with
  | nil => simp at h0
  | cons e l => rfl
theorem wk_zero {es : List Ed} (h0 : 0 < es.length) : wk es 0 = some (es.getD 0 edD).1 := by
  cases es with
  | nil => simp at h0
  | cons e l => rfl
theorem wk_one {es : List Ed} (h0 : 0 < es.length) : wk es 1 = some (es.getD 0 edD).2 := by
  rw [wk_next (wk_zero h0)]
  exact nx_hit h0 rfl (fun j hj => absurd hj (by omega))
/-- the way has come so far without coming back -/
def Way (es : List Ed) (k : Nat) (p : Int × Int) : Prop := wk es k = some p ∧ ∀ j, 0 < j → j < k → wk es j ≠ wk es 0
theorem Way.end_ {es : List Ed} {k : Nat} {p : Int × Int} (h : Way es k p) (h1 : 0 < k) (hk : k ≤ es.length) (e : some p = wk es 0) : OneR es ↔ k = es.length := by
  constructor
  · intro hr
    rcases Nat.lt_or_ge k es.length with c | c
    · exact absurd (h.1.trans e) (hr.2.2.2 k h1 c)
    · omega
  · rintro rfl
    exact ⟨h1, by rw [h.1]; rfl, h.1.trans e, h.2⟩
theorem Way.stuck {es : List Ed} {k : Nat} {p : Int × Int} (h : Way es k p) (hk : k ≤ es.length) (e : k = 0 ∨ some p ≠ wk es 0) (hm : ∀ j, j < es.length → (es.getD j edD).1 ≠ p) : ¬ OneR es := fun hr => by
  have h0 := hr.1
  have hn : wk es (k + 1) = none := by rw [wk_next h.1]; exact nx_miss hm
  rcases Nat.lt_or_ge k es.length with c | c
  · have := wk_none hn (es.length - (k + 1))
    rw [show k + 1 + (es.length - (k + 1)) = es.length by omega] at this
    have h1 := hr.2.1
    rw [this] at h1
    cases h1
  · obtain rfl : k = es.length := by omega
    have := hr.2.2.1
    rw [h.1] at this
    rcases e with e | e
    · omega
    · exact e this
theorem Way.far {es : List Ed} {k : Nat} {p : Int × Int} (h : Way es k p) (hk : es.length ≤ k) (e : some p ≠ wk es 0) (hk2 : k ≤ es.length) : ¬ OneR es := fun hr => by
  obtain rfl : k = es.length := by omega
  exact e (h.1.symm.trans hr.2.2.1)
theorem Way.step {es : List Ed} {k i : Nat} {p : Int × Int} (h : Way es k p) (e : k = 0 ∨ some p ≠ wk es 0) (hi : i < es.length) (hp : (es.getD i edD).1 = p) (hb : ∀ j, j < i → (es.getD j edD).1 ≠ p) : Way es (k + 1) (es.getD i edD).2 := by
  refine ⟨by rw [wk_next h.1]; exact nx_hit hi hp hb, fun j h1 h2 => ?_⟩
  rcases Nat.lt_or_ge j k with c | c
  · exact h.2 j h1 c
  · obtain rfl : j = k := by omega
    rcases e with e | e
    · omega
    · rw [h.1]; exact e
theorem Way.row {es : List Ed} {k : Nat} {p : Int × Int} (h : Way es k p) : wkL es (k + 1) = wkL es k ++ [p] := by rw [wkL_succ, h.1]; rfl

set_option maxRecDepth 20000 in
set_option maxHeartbeats 12800000 in
theorem i_joinEdges (A : Option Addr) (n c : Nat) (es : List Ed) (w : World) (h : SlAt w 4 encE A es) (hn : n = es.length) (hl : n ≤ 24) :
    Calls Try.prog 85 #[.slice A n c] w fun e w' => ∃ v r q, e = .returned (.tuple #[v, .bool q]) ∧ OwP w' w.heap.size v r ∧ r.length ≤ 24 ∧ (q = true → OneR es ∧ r = wkL es es.length) ∧ (q = false → ¬ OneR es) ∧ Ext w w' := by
  by_cases h0 : n = 0
  · have hno : ¬ OneR es := fun hr => by have := hr.1; omega
    have HNO := Lib.hid hno
    have hnb : ((n : Int) == 0) = true := by rw [beq_iff_eq]; omega
    clear hno hn
    subst h0
    go_enter Try.func85, Try.ntmps85
    go_wp2
    go_ret2
    exact ⟨_, [], false, rfl, Own.nil _ _, by simp, (fun e => by cases e), fun _ => HNO.out, by (repeat (first | with_reducible exact Ext.refl _ | with_reducible assumption | ((with_reducible apply Src.ext); with_reducible assumption) | with_reducible refine Ext.alloc ?_ _ | with_reducible refine Ext.drew ?_ | with_reducible refine Ext.drewN ?_ _ | ((with_reducible refine Ext.setCell' ?_ ?_ _); solve | omega | simp | (simp; omega)) | (with_reducible refine Ext.trans ?_ (by with_reducible assumption))))⟩
  · have hnb : ((n : Int) == 0) = false := by rw [beq_eq_false_iff_ne]; omega
    have h0' : 0 < es.length := by omega
    obtain ⟨b, off, a1, a2, a3, a4, rfl, hb, he, d0, d1, d2, d3⟩ := h.ed (k := 0) h0'
    simp only [Nat.zero_mul, Nat.add_zero] at d0 d1 d2 d3
    have he' : es.getD 0 edD = ((a1, a2), (a3, a4)) := he
    have HW0 : Hid (wk es 0 = some (a1, a2)) := Lib.hid (by rw [wk_zero h0', he'])
    have HW1 : Hid (Way es 1 (a3, a4)) := Lib.hid ⟨by rw [wk_one h0', he'], fun j h1 h2 => absurd h1 (by omega)⟩
    have HL1 : Hid (wkL es 1 = [(a1, a2)]) := Lib.hid (by rw [wkL_first h0', he'])
    have HN := Lib.hid hn
    have HH := Lib.hid h
    have hn0 : 0 < n := by omega
    clear he he' hn h0 h0' h
    go_enter Try.func85, Try.ntmps85
    go_wp2
    go_loopw [4] (fun v wr => ∃ (k : Nat) (p : Int × Int), 0 < k ∧ k ≤ n ∧ Hid (OwP wr w.heap.size v (wkL es k)) ∧ Hid (∀ q, v.ownBlock = some q → q ≠ w.heap.size + 1) ∧ Blk wr (w.heap.size + 1) 33 #[.int .i64 p.1, .int .i64 p.2] ∧ Hid (Way es k p) ∧ Ext w wr) (fun v _ => n - lenV v)
    case atStart => exact ⟨1, (a3, a4), by omega, by omega, Lib.hid (by rw [HL1.out]; exact Own.of_blk (g := w.heap.size) (cs := #[.int .i64 a1, .int .i64 a2]) (xs := [(a1, a2)]) (by (repeat (first | with_reducible assumption | ((with_reducible apply Blk.new); solve | simp | rfl) | with_reducible apply Blk.drew | with_reducible apply Blk.drewN | ((with_reducible apply Blk.far'); solve | omega | simp | (simp; omega)) | with_reducible apply Blk.set_ | with_reducible apply Blk.alloc | ((with_reducible apply Blk.ext'); with_reducible assumption) | ((with_reducible apply Blk.but'); (with_reducible assumption); solve | omega | (simp; omega))))) len_encP rfl (Nat.le_refl _) (by simp [maxLen])), Lib.hid (fun q hq => by simp [Value.ownBlock] at hq; omega), by (repeat (first | with_reducible assumption | ((with_reducible apply Blk.new); solve | simp | rfl) | with_reducible apply Blk.drew | with_reducible apply Blk.drewN | ((with_reducible apply Blk.far'); solve | omega | simp | (simp; omega)) | with_reducible apply Blk.set_ | with_reducible apply Blk.alloc | ((with_reducible apply Blk.ext'); with_reducible assumption) | ((with_reducible apply Blk.but'); (with_reducible assumption); solve | omega | (simp; omega)))), HW1, by (repeat (first | with_reducible exact Ext.refl _ | with_reducible assumption | ((with_reducible apply Src.ext); with_reducible assumption) | with_reducible refine Ext.alloc ?_ _ | with_reducible refine Ext.drew ?_ | with_reducible refine Ext.drewN ?_ _ | ((with_reducible refine Ext.setCell' ?_ ?_ _); solve | omega | simp | (simp; omega)) | (with_reducible refine Ext.trans ?_ (by with_reducible assumption))))⟩
    case round =>
      rename_i v0 _
      obtain ⟨k, p, hk0, hk, HV, HNB, hB, HW, hxr⟩ := hrel
      obtain ⟨w5, rfl⟩ : ∃ x, x = wr := ⟨wr, rfl⟩
      obtain ⟨px, pz⟩ := p
      simp only at hB
      have hsr := hxr.size
      have hlt := hB.lt
      have HB := Lib.hid hB
      have t0 : w5.cell? ⟨w.heap.size + 1, 0, none⟩ = some (.int .i64 px) := hB.cell 0
      have t1 : w5.cell? ⟨w.heap.size + 1, 1, none⟩ = some (.int .i64 pz) := hB.cell 1
      have f0 := hB.frozen 0
      have f1 := hB.frozen 1
      have hkl : (wkL es k).length = k := wkL_len es k
      obtain ⟨A5, c5, hv5, hS5, hc5, _, hA5⟩ := HV.out.sl len_encP
      rw [hkl] at hv5 hc5
      subst hv5
      obtain ⟨b5, off5, hA5e, hb5, r0, r1⟩ := hS5.pt (k := 0) (by omega)
      subst hA5e
      have hr0 : (wkL es k).getD 0 (0, 0) = (a1, a2) := by rw [wkL_at es hk0, HW0.out]; rfl
      rw [hr0] at r0 r1
      simp only [Nat.zero_mul, Nat.add_zero] at r0 r1
      have HS5 := Lib.hid hS5
      clear hB hS5 hA5 hr0 hkl
      by_cases hc : eqP px pz a1 a2 = true
      · have hoe : OneR es ↔ k = n := by rw [HN.out]; exact HW.out.end_ hk0 (by rw [← HN.out]; exact hk) (by rw [HW0.out]; exact congrArg some (Prod.ext (eqP_iff.1 hc).1 (eqP_iff.1 hc).2))
        have HOE := Lib.hid hoe
        clear hoe
        by_cases hkn : k = n
        · have hkb : ((k : Int) == (n : Int)) = true := by rw [beq_iff_eq]; omega
          have HKN := Lib.hid hkn
          clear hkn
          go_wp2
          (refine wp_region_ext (by kernel_rfl) (by kernel_rfl) ?_; (repeat (go_big_quiet_step (fail))); refine wpQuiet_nil ?_; intro wq hxwq; obtain ⟨hcwq, hfwq⟩ := hxwq.rules; have hswq := hxwq.size; (try simp at hswq))
          go_wp2
          go_ret2
          exact ⟨_, wkL es k, true, rfl, HV.out.ext (by (repeat (first | with_reducible exact Ext.refl _ | with_reducible assumption | ((with_reducible apply Src.ext); with_reducible assumption) | with_reducible refine Ext.alloc ?_ _ | with_reducible refine Ext.drew ?_ | with_reducible refine Ext.drewN ?_ _ | ((with_reducible refine Ext.setCell' ?_ ?_ _); solve | omega | simp | (simp; omega)) | (with_reducible refine Ext.trans ?_ (by with_reducible assumption))))), by rw [wkL_len]; omega, fun _ => ⟨HOE.out.2 HKN.out, by rw [HKN.out, HN.out]⟩, (fun e => by cases e), by (repeat (first | with_reducible exact Ext.refl _ | with_reducible assumption | ((with_reducible apply Src.ext); with_reducible assumption) | with_reducible refine Ext.alloc ?_ _ | with_reducible refine Ext.drew ?_ | with_reducible refine Ext.drewN ?_ _ | ((with_reducible refine Ext.setCell' ?_ ?_ _); solve | omega | simp | (simp; omega)) | (with_reducible refine Ext.trans ?_ (by with_reducible assumption))))⟩
        · have hkb : ((k : Int) == (n : Int)) = false := by rw [beq_eq_false_iff_ne]; omega
          have HKN := Lib.hid hkn
          clear hkn
          go_wp2
          (refine wp_region_ext (by kernel_rfl) (by kernel_rfl) ?_; (repeat (go_big_quiet_step (fail))); refine wpQuiet_nil ?_; intro wq hxwq; obtain ⟨hcwq, hfwq⟩ := hxwq.rules; have hswq := hxwq.size; (try simp at hswq))
          go_wp2
          go_ret2
          exact ⟨_, wkL es k, false, rfl, HV.out.ext (by (repeat (first | with_reducible exact Ext.refl _ | with_reducible assumption | ((with_reducible apply Src.ext); with_reducible assumption) | with_reducible refine Ext.alloc ?_ _ | with_reducible refine Ext.drew ?_ | with_reducible refine Ext.drewN ?_ _ | ((with_reducible refine Ext.setCell' ?_ ?_ _); solve | omega | simp | (simp; omega)) | (with_reducible refine Ext.trans ?_ (by with_reducible assumption))))), by rw [wkL_len]; omega, (fun e => by cases e), fun _ hr => HKN.out (HOE.out.1 hr), by (repeat (first | with_reducible exact Ext.refl _ | with_reducible assumption | ((with_reducible apply Src.ext); with_reducible assumption) | with_reducible refine Ext.alloc ?_ _ | with_reducible refine Ext.drew ?_ | with_reducible refine Ext.drewN ?_ _ | ((with_reducible refine Ext.setCell' ?_ ?_ _); solve | omega | simp | (simp; omega)) | (with_reducible refine Ext.trans ?_ (by with_reducible assumption))))⟩
      · have hc' : eqP px pz a1 a2 = false := Bool.eq_false_iff.2 hc
        have hne : some (px, pz) ≠ wk es 0 := fun e => by
          rw [HW0.out] at e
          injection e with e
          injection e with e1 e2
          exact hc (eqP_iff.2 ⟨e1, e2⟩)
        have HNE := Lib.hid hne
        have HIX := Lib.hid (fun W (hW : Ext w5 W) => i_IndexFuncE (fun e => eqP e.1.1 e.1.2 px pz) 123 #[.pointer (some ⟨w.heap.size + 1, 0, none⟩)] en_joinE1 (some ⟨b, off, none⟩) n c es W (HH.out.ext (hxr.trans hW)) HN.out (by omega) (fun e _ W' hW' => i_joinE1 e px pz _ W' (HB.out.ext (hW.trans hW'))))
        clear hc hne
        rcases fstG_cases edD (fun e : Ed => eqP e.1.1 e.1.2 px pz) es with ⟨hf, hmiss⟩ | ⟨i, hi, hf, hhit, hbe⟩
        · have hno : ¬ OneR es := HW.out.stuck (by rw [← HN.out]; exact hk) (.inr HNE.out) (fun j hj => eqP_no (hmiss j hj))
          have HNO := Lib.hid hno
          rw [hf] at HIX
          clear hf hmiss hno
          go_wp2
          (refine wp_region_ext (by kernel_rfl) (by kernel_rfl) ?_; (repeat (go_big_quiet_step (fail))); refine wpQuiet_nil ?_; intro wq hxwq; obtain ⟨hcwq, hfwq⟩ := hxwq.rules; have hswq := hxwq.size; (try simp at hswq))
          go_wp2_with fail
          refine (HIX.out _ (by (repeat (first | with_reducible exact Ext.refl _ | with_reducible assumption | ((with_reducible apply Src.ext); with_reducible assumption) | with_reducible refine Ext.alloc ?_ _ | with_reducible refine Ext.drew ?_ | with_reducible refine Ext.drewN ?_ _ | ((with_reducible refine Ext.setCell' ?_ ?_ _); solve | omega | simp | (simp; omega)) | (with_reducible refine Ext.trans ?_ (by with_reducible assumption)))))).mono ?_
          rintro e w6 ⟨rfl, hx6⟩
          go_wp2
          go_ret2
          exact ⟨_, [], false, rfl, Own.nil _ _, by simp, (fun e => by cases e), fun _ => HNO.out, by (repeat (first | with_reducible exact Ext.refl _ | with_reducible assumption | ((with_reducible apply Src.ext); with_reducible assumption) | with_reducible refine Ext.alloc ?_ _ | with_reducible refine Ext.drew ?_ | with_reducible refine Ext.drewN ?_ _ | ((with_reducible refine Ext.setCell' ?_ ?_ _); solve | omega | simp | (simp; omega)) | (with_reducible refine Ext.trans ?_ (by with_reducible assumption))))⟩
        · rw [hf] at HIX
          by_cases hkn : n ≤ k
          · have hno : ¬ OneR es := HW.out.far (by rw [← HN.out]; exact hkn) HNE.out (by rw [← HN.out]; exact hk)
            have HNO := Lib.hid hno
            have hil : i < n := by rw [HN.out]; exact hi
            clear hf hhit hbe hno hi
            go_wp2
            (refine wp_region_ext (by kernel_rfl) (by kernel_rfl) ?_; (repeat (go_big_quiet_step (fail))); refine wpQuiet_nil ?_; intro wq hxwq; obtain ⟨hcwq, hfwq⟩ := hxwq.rules; have hswq := hxwq.size; (try simp at hswq))
            go_wp2_with fail
            refine (HIX.out _ (by (repeat (first | with_reducible exact Ext.refl _ | with_reducible assumption | ((with_reducible apply Src.ext); with_reducible assumption) | with_reducible refine Ext.alloc ?_ _ | with_reducible refine Ext.drew ?_ | with_reducible refine Ext.drewN ?_ _ | ((with_reducible refine Ext.setCell' ?_ ?_ _); solve | omega | simp | (simp; omega)) | (with_reducible refine Ext.trans ?_ (by with_reducible assumption)))))).mono ?_
            rintro e w6 ⟨rfl, hx6⟩
            go_wp2
            go_ret2
            exact ⟨_, [], false, rfl, Own.nil _ _, by simp, (fun e => by cases e), fun _ => HNO.out, by (repeat (first | with_reducible exact Ext.refl _ | with_reducible assumption | ((with_reducible apply Src.ext); with_reducible assumption) | with_reducible refine Ext.alloc ?_ _ | with_reducible refine Ext.drew ?_ | with_reducible refine Ext.drewN ?_ _ | ((with_reducible refine Ext.setCell' ?_ ?_ _); solve | omega | simp | (simp; omega)) | (with_reducible refine Ext.trans ?_ (by with_reducible assumption))))⟩
          · have HW2 := Lib.hid (HW.out.step (.inr HNE.out) hi (eqP_ok hhit) (fun j hj => eqP_no (hbe j hj)))
            have HRW := Lib.hid HW.out.row
            have hil : i < n := by rw [HN.out]; exact hi
            have HI := Lib.hid hi
            clear hf hhit hbe hi
            go_wp2
            (refine wp_region_ext (by kernel_rfl) (by kernel_rfl) ?_; (repeat (go_big_quiet_step (fail))); refine wpQuiet_nil ?_; intro wq hxwq; obtain ⟨hcwq, hfwq⟩ := hxwq.rules; have hswq := hxwq.size; (try simp at hswq))
            go_wp2_with fail
            refine (HIX.out _ (by (repeat (first | with_reducible exact Ext.refl _ | with_reducible assumption | ((with_reducible apply Src.ext); with_reducible assumption) | with_reducible refine Ext.alloc ?_ _ | with_reducible refine Ext.drew ?_ | with_reducible refine Ext.drewN ?_ _ | ((with_reducible refine Ext.setCell' ?_ ?_ _); solve | omega | simp | (simp; omega)) | (with_reducible refine Ext.trans ?_ (by with_reducible assumption)))))).mono ?_
            rintro e w6 ⟨rfl, hx6⟩
            have hxw6 : Ext w5 w6 := by (repeat (first | with_reducible exact Ext.refl _ | with_reducible assumption | ((with_reducible apply Src.ext); with_reducible assumption) | with_reducible refine Ext.alloc ?_ _ | with_reducible refine Ext.drew ?_ | with_reducible refine Ext.drewN ?_ _ | ((with_reducible refine Ext.setCell' ?_ ?_ _); solve | omega | simp | (simp; omega)) | (with_reducible refine Ext.trans ?_ (by with_reducible assumption))))
            have HXW6 := Lib.hid hxw6
            have hB6 := HB.out.ext hxw6
            have u0 : w6.cell? ⟨w.heap.size + 1, 0, none⟩ = some (.int .i64 px) := hB6.cell 0
            have u1 : w6.cell? ⟨w.heap.size + 1, 1, none⟩ = some (.int .i64 pz) := hB6.cell 1
            have hs6 := hxw6.size
            clear hxw6 hB6 hx6
            go_wp2_with (at_builtin; refine wpList_append_near elP len_encP one_encP rfl _ _ rfl rfl (HV.out.ext (by first | exact HXW6.out.alloc _ | (repeat (first | with_reducible exact Ext.refl _ | with_reducible assumption | ((with_reducible apply Src.ext); with_reducible assumption) | with_reducible refine Ext.alloc ?_ _ | with_reducible refine Ext.drew ?_ | with_reducible refine Ext.drewN ?_ _ | ((with_reducible refine Ext.setCell' ?_ ?_ _); solve | omega | simp | (simp; omega)) | (with_reducible refine Ext.trans ?_ (by with_reducible assumption)))))) (xs := [(px, pz)]) rfl (blk_pt (by (repeat (first | with_reducible assumption | ((with_reducible apply Blk.new); solve | simp | rfl) | with_reducible apply Blk.drew | with_reducible apply Blk.drewN | ((with_reducible apply Blk.far'); solve | omega | simp | (simp; omega)) | with_reducible apply Blk.set_ | with_reducible apply Blk.alloc | ((with_reducible apply Blk.ext'); with_reducible assumption) | ((with_reducible apply Blk.but'); (with_reducible assumption); solve | omega | (simp; omega)))))) (by rw [wkL_len]; simp; unfold maxLen; omega) (by rw [wkL_len]; simp; omega) (by first | omega | (simp; omega)) ?_)
            intro v' w8 hown hgrow hnear
            have hxa : Ext w5 (w6.alloc (.cells #[.int .i64 px, .int .i64 pz] 33)) := HXW6.out.alloc _
            have hB8 : Blk w8 (w.heap.size + 1) 33 #[.int .i64 px, .int .i64 pz] := blk_keptP hgrow (HB.out.ext hxa) (fun e => HNB.out _ e.symm rfl)
            have hx8 : Ext w w8 := Ext.grown (hxr.trans hxa) hgrow (fun q hq => (HV.out.row q hq).1)
            have HNB8 : Hid (∀ q, v'.ownBlock = some q → q ≠ w.heap.size + 1) := Lib.hid (fun q hq => by
              rcases hnear with hn | hn
              · exact HNB.out q (hn ▸ hq)
              · have h1 := hn q hq
                simp only [World.size_alloc] at h1
                omega)
            rw [← HRW.out] at hown
            have HV8 := Lib.hid hown
            obtain ⟨A8, c8, hv8, hS8, hc8, _, _⟩ := hown.sl len_encP
            rw [wkL_len] at hv8
            obtain ⟨b', off', e1, e2, e3, e4, hbe, _, he, g0, g1, g2, g3⟩ := (HH.out.ext hx8).ed (k := i) HI.out
            injection hbe with hbe
            injection hbe with hbe1 hbe2
            subst hbe1 hbe2
            have h8 := hx8.size
            have hl8 := hB8.lt
            have q0 : w8.cell? ⟨w.heap.size + 1, 0, none⟩ = some (.int .i64 px) := hB8.cell 0
            have q1 : w8.cell? ⟨w.heap.size + 1, 1, none⟩ = some (.int .i64 pz) := hB8.cell 1
            have v0' := hB8.frozen 0
            have v1' := hB8.frozen 1
            have HB8 := Lib.hid hB8
            have HE : Hid ((es.getD i edD).2 = (e3, e4)) := Lib.hid (by rw [show es.getD i edD = ((e1, e2), (e3, e4)) from he])
            clear hown hgrow hnear hxa hS8 he hB8
            subst hv8
            go_wp2
            have hU : But (w.heap.size + 1) w8 ((w8.setCell ⟨w.heap.size + 1, 0, none⟩ (.int .i64 e3)).setCell ⟨w.heap.size + 1, 1, none⟩ (.int .i64 e4)) := ((But.refl _ _).set_ 0 _).set_ 1 _
            go_roundw
            case rel => exact ⟨k + 1, (e3, e4), by omega, by omega, Lib.hid (HV8.out.kept hU.grown (by
              rcases hq : (Value.slice A8 (k + 1) c8).ownBlock with _ | q
              · exact .inl rfl
              · exact .inr (fun e => by injection e with e; exact HNB8.out q hq e))), HNB8, Blk.eq ((HB8.out.set_ 0 _).set_ 1 _) (by rfl), (by rw [← HE.out]; exact HW2), (hx8.setCell (by show w.heap.size ≤ w.heap.size + 1; omega) _).setCell (by show w.heap.size ≤ w.heap.size + 1; omega) _⟩
            case measure => simp [lenV]; omega

end Go.Proofs.Yteppjdoggjcdoaa
