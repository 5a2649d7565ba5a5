/- Contracts of the maps: lists of rings, walked over the translation. -/
import Derived.Test.YtdbheipjbjcikaaGreatDoorMG
import Derived.Deep.RegionHeld3
import Derived.Deep.DeepCutAuto
import Derived.RegionTactic
import Derived.BigRegion
import Derived.WalkLawsBesides
import Derived.WalkSpells
import Derived.Lib.MinMax
import Derived.Outline
namespace Go.Proofs.YtdbheipjbjcikaaGreatDoor
open Go.RowKit
attribute [local go_sem] ExtOf.cell ExtOf.frozen

/-- a ring as a slice: its address, its capacity, its corners -/
abbrev Rg := Option Addr × Nat × List (Int × Int)
def rgD : Rg := (none, 0, [])
def encR (r : Rg) : List Value := [.slice r.1 r.2.2.length r.2.1]
theorem len_encR : ∀ r, (encR r).length = 1 := fun _ => rfl
theorem one_encR : ∀ p, ∀ u ∈ encR p, u.oneCell' = true := by
  intro p u hu
  simp [encR] at hu
  subst hu; rfl
/-- the rings behind a list read as they are told -/
def Rings (w : World) (rs : List Rg) : Prop := ∀ r ∈ rs, SlAt w 2 encP r.1 r.2.2 ∧ r.2.2.length ≤ r.2.1 ∧ r.2.2.length ≤ 1048576
theorem Rings.ext {w w' : World} {rs : List Rg} (h : Rings w rs) (hx : Ext w w') : Rings w' rs := fun r hr => ⟨(h r hr).1.ext hx, (h r hr).2⟩
theorem Rings.take {w : World} {rs : List Rg} (h : Rings w rs) (k : Nat) : Rings w (rs.take k) := fun r hr => h r (List.mem_of_mem_take hr)
theorem rg_mem {rs : List Rg} {k : Nat} (hk : k < rs.length) : rs.getD k rgD ∈ rs := by simp [List.getD, hk]
theorem SlAt.rg {w : World} {A : Option Addr} {rs : List Rg} (h : SlAt w 1 encR A rs) {k : Nat} (hk : k < rs.length) :
    ∃ b off, A = some ⟨b, off, none⟩ ∧ b < w.heap.size ∧ w.cell? ⟨b, off + k, none⟩ = some (.slice (rs.getD k rgD).1 (rs.getD k rgD).2.2.length (rs.getD k rgD).2.1) := by
  obtain ⟨b, off, e, hb, hc⟩ := h (by omega)
  have hg : rs[k]? = some (rs.getD k rgD) := by simp [List.getD, hk]
  exact ⟨b, off, e, hb, by simpa using hc k _ hg 0 _ rfl⟩
theorem SlAt.rg' {w : World} {b off : Nat} {rs : List Rg} (h : SlAt w 1 encR (some ⟨b, off, none⟩) rs) {k : Nat} (hk : k < rs.length) :
    w.cell? ⟨b, off + k, none⟩ = some (.slice (rs.getD k rgD).1 (rs.getD k rgD).2.2.length (rs.getD k rgD).2.1) := by
  obtain ⟨b', off', e, _, hc⟩ := h.rg hk
  injection e with e
  injection e with e1 e2
  subst e1 e2
  exact hc
theorem SlAt.openR {w : World} {A : Option Addr} {rs : List Rg} (h : SlAt w 1 encR A rs) (h0 : 0 < rs.length) : ∃ b off, A = some ⟨b, off, none⟩ ∧ b < w.heap.size := by
  obtain ⟨b, off, e, hb, _⟩ := h.rg h0
  exact ⟨b, off, e, hb⟩
/-- the index of the first element with p, or -1 -/
def idxF (p : Rg → Bool) (rs : List Rg) : Int := match rs.findIdx? p with
  | some i => i
  | none => -1
theorem idxF_hit {p : Rg → Bool} {rs : List Rg} {k : Nat} (hk : k < rs.length) (h : p (rs.getD k rgD) = true) (hb : ∀ j, j < k → p (rs.getD j rgD) = false) : (k : Int) = idxF p rs := by
  have : rs.findIdx? p = some k := by
    rw [List.findIdx?_eq_some_iff_getElem]
    refine ⟨hk, by simpa [List.getD, hk] using h, fun j hj => ?_⟩
    have := hb j hj
    have hjl : j < rs.length := by omega
    simpa [List.getD, hjl] using this
  unfold idxF
  rw [this]
theorem idxF_miss {p : Rg → Bool} {rs : List Rg} (hb : ∀ j, j < rs.length → p (rs.getD j rgD) = false) : -1 = idxF p rs := by
  have : rs.findIdx? p = none := by
    rw [List.findIdx?_eq_none_iff]
    intro x hx
    obtain ⟨j, hj, rfl⟩ := List.mem_iff_getElem.1 hx
    have := hb j hj
    simpa [List.getD, hj] using this
  unfold idxF
  rw [this]
theorem idxF_any (p : Rg → Bool) (rs : List Rg) : decide (0 ≤ idxF p rs) = rs.any p := by
  unfold idxF
  rcases h : rs.findIdx? p with _ | k
  · rw [List.findIdx?_eq_none_iff] at h
    have : rs.any p = false := by
      rw [List.any_eq_false]
      intro x hx
      have := h x hx
      simp [this]
    rw [this]; rfl
  · rw [List.findIdx?_eq_some_iff_getElem] at h
    obtain ⟨hk, hp, _⟩ := h
    have : rs.any p = true := by
      rw [List.any_eq_true]
      exact ⟨rs[k], List.getElem_mem hk, hp⟩
    rw [this]
    simp
set_option maxHeartbeats 3200000 in
theorem i_IndexFuncR (p : Rg → Bool) (g : Nat) (lb : Array Value) (eg : ∀ args w, (callFunc g args).run Tryz.prog w = .ok (.enter g args) w) (A : Option Addr) (n c : Nat) (rs : List Rg) (w : World) (h : SlAt w 1 encR A rs) (hn : n = rs.length) (hl : n ≤ 1048576)
    (hp : ∀ r ∈ rs, ∀ W, Ext w W → Calls Tryz.prog g (#[.slice r.1 r.2.2.length r.2.1] ++ lb) W fun e w' => e = .returned (.bool (p r)) ∧ Ext W w') :
    Calls Tryz.prog 112 #[.slice A n c, .func (.func g) #[] lb] w fun e w' => e = .returned (.int .i64 (idxF p rs)) ∧ Ext w w' := by
  have HP := Lib.hid hp
  have HN := Lib.hid hn
  clear hp hn
  go_enter Tryz.func112, Tryz.ntmps112
  go_wp2
  go_loopw [8] (fun i wr => ∃ k : Nat, k ≤ n ∧ i = .int .i64 k ∧ Hid (∀ j, j < k → p (rs.getD j rgD) = false) ∧ Ext w wr) (fun i _ => n - (intOf i).toNat)
  case atStart => exact ⟨0, by omega, rfl, fun j hj => absurd hj (by omega), by (repeat (first | with_reducible exact Ext.refl _ | with_reducible assumption | ((with_reducible apply Src.ext); with_reducible assumption) | with_reducible refine Ext.alloc ?_ _ | with_reducible refine Ext.drew ?_ | with_reducible refine Ext.drewN ?_ _ | ((with_reducible refine Ext.setCell' ?_ ?_ _); solve | omega | simp | (simp; omega)) | (with_reducible refine Ext.trans ?_ (by with_reducible assumption))))⟩
  case round =>
    obtain ⟨k, hk, rfl, HJ, hxr⟩ := hrel
    by_cases hlt : k < n
    · have hkr : k < rs.length := by rw [← HN.out]; exact hlt
      obtain ⟨b, off, rfl, hb, hc⟩ := (h.ext hxr).rg hkr
      have hcall := HP.out _ (rg_mem hkr)
      cases hq : p (rs.getD k rgD) with
      | true =>
        have HQ := Lib.hid hq
        rw [hq] at hcall
        have HC := Lib.hid hcall
        clear hcall hq
        obtain ⟨r, hr⟩ : ∃ r, r = rs.getD k rgD := ⟨_, rfl⟩
        rw [← hr] at hc HC HQ
        have HR := Lib.hid hr
        clear hr
        go_wp2_with fail
        refine (HC.out _ (by (repeat (first | with_reducible exact Ext.refl _ | with_reducible assumption | ((with_reducible apply Src.ext); with_reducible assumption) | with_reducible refine Ext.alloc ?_ _ | with_reducible refine Ext.drew ?_ | with_reducible refine Ext.drewN ?_ _ | ((with_reducible refine Ext.setCell' ?_ ?_ _); solve | omega | simp | (simp; omega)) | (with_reducible refine Ext.trans ?_ (by with_reducible assumption)))))).mono ?_
        rintro e w' ⟨rfl, hx'⟩
        go_wp2
        go_ret
        exact ⟨ret_int (idxF_hit hkr (by rw [← HR.out]; exact HQ.out) HJ.out), by (repeat (first | with_reducible exact Ext.refl _ | with_reducible assumption | ((with_reducible apply Src.ext); with_reducible assumption) | with_reducible refine Ext.alloc ?_ _ | with_reducible refine Ext.drew ?_ | with_reducible refine Ext.drewN ?_ _ | ((with_reducible refine Ext.setCell' ?_ ?_ _); solve | omega | simp | (simp; omega)) | (with_reducible refine Ext.trans ?_ (by with_reducible assumption))))⟩
      | false =>
        have HJ2 := Lib.hid (upTo_succ HJ.out hq)
        rw [hq] at hcall
        have HC := Lib.hid hcall
        clear hcall hq
        obtain ⟨r, hr⟩ : ∃ r, r = rs.getD k rgD := ⟨_, rfl⟩
        rw [← hr] at hc HC
        have HR := Lib.hid hr
        clear hr
        go_wp2_with fail
        refine (HC.out _ (by (repeat (first | with_reducible exact Ext.refl _ | with_reducible assumption | ((with_reducible apply Src.ext); with_reducible assumption) | with_reducible refine Ext.alloc ?_ _ | with_reducible refine Ext.drew ?_ | with_reducible refine Ext.drewN ?_ _ | ((with_reducible refine Ext.setCell' ?_ ?_ _); solve | omega | simp | (simp; omega)) | (with_reducible refine Ext.trans ?_ (by with_reducible assumption)))))).mono ?_
        rintro e w' ⟨rfl, hx'⟩
        go_wp2
        go_roundw
        case rel => exact ⟨k + 1, by omega, by go_num, HJ2, by (repeat (first | with_reducible exact Ext.refl _ | with_reducible assumption | ((with_reducible apply Src.ext); with_reducible assumption) | with_reducible refine Ext.alloc ?_ _ | with_reducible refine Ext.drew ?_ | with_reducible refine Ext.drewN ?_ _ | ((with_reducible refine Ext.setCell' ?_ ?_ _); solve | omega | simp | (simp; omega)) | (with_reducible refine Ext.trans ?_ (by with_reducible assumption))))⟩
        case measure => simp [intOf]; omega
    · obtain rfl : k = n := by omega
      go_wp2
      go_ret
      exact ⟨ret_int (idxF_miss (by rw [← HN.out]; exact HJ.out)), by (repeat (first | with_reducible exact Ext.refl _ | with_reducible assumption | ((with_reducible apply Src.ext); with_reducible assumption) | with_reducible refine Ext.alloc ?_ _ | with_reducible refine Ext.drew ?_ | with_reducible refine Ext.drewN ?_ _ | ((with_reducible refine Ext.setCell' ?_ ?_ _); solve | omega | simp | (simp; omega)) | (with_reducible refine Ext.trans ?_ (by with_reducible assumption))))⟩
set_option maxHeartbeats 3200000 in
theorem i_ContainsFuncR (p : Rg → Bool) (g : Nat) (lb : Array Value) (eg : ∀ args w, (callFunc g args).run Tryz.prog w = .ok (.enter g args) w) (A : Option Addr) (n c : Nat) (rs : List Rg) (w : World) (h : SlAt w 1 encR A rs) (hn : n = rs.length) (hl : n ≤ 1048576)
    (hp : ∀ r ∈ rs, ∀ W, Ext w W → Calls Tryz.prog g (#[.slice r.1 r.2.2.length r.2.1] ++ lb) W fun e w' => e = .returned (.bool (p r)) ∧ Ext W w') :
    Calls Tryz.prog 150 #[.slice A n c, .func (.func g) #[] lb] w fun e w' => e = .returned (.bool (rs.any p)) ∧ Ext w w' := by
  rw [← idxF_any]
  have hcall := i_IndexFuncR p g lb eg A n c rs w h hn hl hp
  have HC := Lib.hid hcall
  clear hcall hp hn
  go_enter Tryz.func150, Tryz.ntmps150
  go_wp2_with fail
  refine HC.out.mono ?_
  rintro e w' ⟨rfl, hx⟩
  go_wp2
  go_ret
  exact ⟨rfl, hx⟩
theorem i_notRing (r : Rg) (w : World) (h : SlAt w 2 encP r.1 r.2.2) (hc : r.2.2.length ≤ r.2.1) (hl : r.2.2.length ≤ 1048576) :
    Calls Tryz.prog 151 #[.slice r.1 r.2.2.length r.2.1] w fun e w' => e = .returned (.bool (!ringB r.2.2)) ∧ Ext w w' := by
  obtain ⟨A, c, ps⟩ := r
  simp only at h hc hl ⊢
  go_enter Tryz.func151, Tryz.ntmps151
  (go_wp2_with fail; refine (i_IsRing _ _ ps _ h hl hc).mono ?_; rintro e w1 ⟨rfl, hx1⟩; obtain ⟨hc1, hf1⟩ := hx1.rules; have hs1 := hx1.size; (try simp at hs1))
  go_wp2
  go_ret
  exact ⟨rfl, by (repeat (first | with_reducible exact Ext.refl _ | with_reducible assumption | ((with_reducible apply Src.ext); with_reducible assumption) | with_reducible refine Ext.alloc ?_ _ | with_reducible refine Ext.drew ?_ | with_reducible refine Ext.drewN ?_ _ | ((with_reducible refine Ext.setCell' ?_ ?_ _); solve | omega | simp | (simp; omega)) | (with_reducible refine Ext.trans ?_ (by with_reducible assumption))))⟩
theorem i_notFit (r r' : Rg) (nb : Nat) (w : World) (hn : w.cell? ⟨nb, 0, none⟩ = some (.slice r.1 r.2.2.length r.2.1)) (h : SlAt w 2 encP r.1 r.2.2) (h' : SlAt w 2 encP r'.1 r'.2.2) (hr : ringB r.2.2 = true) (hr' : ringB r'.2.2 = true) :
    Calls Tryz.prog 152 #[.slice r'.1 r'.2.2.length r'.2.1, .pointer (some ⟨nb, 0, none⟩)] w fun e w' => e = .returned (.bool (!fitT r.2.2 r'.2.2)) ∧ Ext w w' := by
  obtain ⟨A, c, ps⟩ := r
  obtain ⟨A', c', ps'⟩ := r'
  simp only at hn h h' hr hr' ⊢
  obtain ⟨a0, al, ao⟩ := ring_facts hr
  obtain ⟨b0, bl, bo⟩ := ring_facts hr'
  have HAO := Lib.hid ao
  have HBO := Lib.hid bo
  clear hr hr' ao bo
  go_enter Tryz.func152, Tryz.ntmps152
  (go_wp2_with fail; refine (i_fitTogether _ _ _ _ ps ps' _ h h' a0 b0 (by omega) (by omega) HAO.out HBO.out).mono ?_; rintro e w1 ⟨rfl, hx1⟩; obtain ⟨hc1, hf1⟩ := hx1.rules; have hs1 := hx1.size; (try simp at hs1))
  go_wp2
  go_ret
  exact ⟨rfl, by (repeat (first | with_reducible exact Ext.refl _ | with_reducible assumption | ((with_reducible apply Src.ext); with_reducible assumption) | with_reducible refine Ext.alloc ?_ _ | with_reducible refine Ext.drew ?_ | with_reducible refine Ext.drewN ?_ _ | ((with_reducible refine Ext.setCell' ?_ ?_ _); solve | omega | simp | (simp; omega)) | (with_reducible refine Ext.trans ?_ (by with_reducible assumption))))⟩

end Go.Proofs.YtdbheipjbjcikaaGreatDoor
