/- Contracts of the laws over spans, links and names, walked over the translation. -/
import Derived.Test.YtmpgjajkaehdiaaGreatDoorZS
import Derived.Test.YtmpgjajkaehdiaaGreatDoorGW
import Derived.Test.YtmpgjajkaehdiaaGreatDoorHM
import Derived.Deep.RegionHeld3
import Derived.Deep.DeepCutAuto
import Derived.RegionTactic
import Derived.BigRegion
import Derived.WalkLawsBesides
import Derived.WalkSpells
import Derived.Lib.MinMax
import Derived.Outline
namespace Go.Proofs.YtmpgjajkaehdiaaGreatDoor
open Go.RowKit
attribute [local go_sem] ExtOf.cell ExtOf.frozen

theorem Filled.stepG {α : Type} {sz : Nat} {enc : α → List Value} {xs : List α} {k : Nat} {cs cs' : Array Value} {x : α} (hk : ∀ x, (enc x).length = sz) (h : Filled sz enc xs k cs) (hx : xs[k]? = some x) (hs : cs'.size = cs.size)
    (h1 : ∀ j, j < k * sz → cs'[j]? = cs[j]?) (h2 : ∀ j u, (enc x)[j]? = some u → cs'[k * sz + j]? = some u) : Filled sz enc xs (k + 1) cs' := by
  refine ⟨by rw [hs]; exact h.1, fun j hj => ?_⟩
  by_cases e : j < k * sz
  · rw [h1 j e]; exact h.2 j e
  · rw [Nat.succ_mul] at hj
    obtain ⟨i, rfl⟩ : ∃ i, j = k * sz + i := ⟨j - k * sz, by omega⟩
    have hi : i < (enc x).length := by rw [hk]; omega
    have hg := List.getElem?_eq_getElem hi
    rw [h2 i _ hg, flatMap_at hk xs k x i _ hx hg]
theorem Filled.step4 {α : Type} {enc : α → List Value} {xs : List α} {k : Nat} {cs : Array Value} {x : α} {u0 u1 u2 u3 : Value} (hk : ∀ x, (enc x).length = 4) (h : Filled 4 enc xs k cs) (hx : xs[k]? = some x) (he : enc x = [u0, u1, u2, u3]) :
    Filled 4 enc xs (k + 1) ((((cs.setIfInBounds (k * 4) u0).setIfInBounds (k * 4 + 1) u1).setIfInBounds (k * 4 + 2) u2).setIfInBounds (k * 4 + 3) u3) := by
  have hl : k < xs.length := (List.getElem?_eq_some_iff.1 hx).1
  have hs := h.1
  refine h.stepG hk hx (by simp) (fun j hj => ?_) (fun j u hu => ?_)
  · rw [Array.getElem?_setIfInBounds_ne (by omega), Array.getElem?_setIfInBounds_ne (by omega), Array.getElem?_setIfInBounds_ne (by omega), Array.getElem?_setIfInBounds_ne (by omega)]
  · rw [he] at hu
    rcases j with _ | _ | _ | _ | j
    · change (_ : Array Value)[k * 4]? = _; rw [Array.getElem?_setIfInBounds_ne (by omega), Array.getElem?_setIfInBounds_ne (by omega), Array.getElem?_setIfInBounds_ne (by omega), Array.getElem?_setIfInBounds_self_of_lt (by omega)]; exact hu
    · rw [Array.getElem?_setIfInBounds_ne (by omega), Array.getElem?_setIfInBounds_ne (by omega), Array.getElem?_setIfInBounds_self_of_lt (by simp; omega)]; exact hu
    · rw [Array.getElem?_setIfInBounds_ne (by omega), Array.getElem?_setIfInBounds_self_of_lt (by simp; omega)]; exact hu
    · rw [Array.getElem?_setIfInBounds_self_of_lt (by simp; omega)]; exact hu
    · simp at hu
theorem Filled.step5 {α : Type} {enc : α → List Value} {xs : List α} {k : Nat} {cs : Array Value} {x : α} {u0 u1 u2 u3 u4 : Value} (hk : ∀ x, (enc x).length = 5) (h : Filled 5 enc xs k cs) (hx : xs[k]? = some x) (he : enc x = [u0, u1, u2, u3, u4]) :
    Filled 5 enc xs (k + 1) (((((cs.setIfInBounds (k * 5) u0).setIfInBounds (k * 5 + 1) u1).setIfInBounds (k * 5 + 2) u2).setIfInBounds (k * 5 + 3) u3).setIfInBounds (k * 5 + 4) u4) := by
  have hl : k < xs.length := (List.getElem?_eq_some_iff.1 hx).1
  have hs := h.1
  refine h.stepG hk hx (by simp) (fun j hj => ?_) (fun j u hu => ?_)
  · rw [Array.getElem?_setIfInBounds_ne (by omega), Array.getElem?_setIfInBounds_ne (by omega), Array.getElem?_setIfInBounds_ne (by omega), Array.getElem?_setIfInBounds_ne (by omega), Array.getElem?_setIfInBounds_ne (by omega)]
  · rw [he] at hu
    rcases j with _ | _ | _ | _ | _ | j
    · change (_ : Array Value)[k * 5]? = _; rw [Array.getElem?_setIfInBounds_ne (by omega), Array.getElem?_setIfInBounds_ne (by omega), Array.getElem?_setIfInBounds_ne (by omega), Array.getElem?_setIfInBounds_ne (by omega), Array.getElem?_setIfInBounds_self_of_lt (by omega)]; exact hu
    · rw [Array.getElem?_setIfInBounds_ne (by omega), Array.getElem?_setIfInBounds_ne (by omega), Array.getElem?_setIfInBounds_ne (by omega), Array.getElem?_setIfInBounds_self_of_lt (by simp; omega)]; exact hu
    · rw [Array.getElem?_setIfInBounds_ne (by omega), Array.getElem?_setIfInBounds_ne (by omega), Array.getElem?_setIfInBounds_self_of_lt (by simp; omega)]; exact hu
    · rw [Array.getElem?_setIfInBounds_ne (by omega), Array.getElem?_setIfInBounds_self_of_lt (by simp; omega)]; exact hu
    · rw [Array.getElem?_setIfInBounds_self_of_lt (by simp; omega)]; exact hu
    · simp at hu
theorem ret_b4 {P : Program} {fn : Func} {R : Ending → World → Prop} {a : Act} {W : World} {b0 : Nat} {t : TypeId} {x0 x1 x2 x3 v : Value} (h0 : Blk W b0 t #[x0, x1, x2, x3]) (hd : a.defers = [])
    (hres : ∀ W' : World, W'.cell? ⟨b0, 0, none⟩ = some x0 → W'.cell? ⟨b0, 1, none⟩ = some x1 → W'.cell? ⟨b0, 2, none⟩ = some x2 → W'.cell? ⟨b0, 3, none⟩ = some x3 → (results fn a.tmps).run P W' = .ok v W') (hR : R (.returned v) W) : bodyPost P fn R .ret a W :=
  bodyPost_ret (hres W (h0.cell 0) (h0.cell 1) (h0.cell 2) (h0.cell 3)) hd hR
theorem ret_b5 {P : Program} {fn : Func} {R : Ending → World → Prop} {a : Act} {W : World} {b0 : Nat} {t : TypeId} {x0 x1 x2 x3 x4 v : Value} (h0 : Blk W b0 t #[x0, x1, x2, x3, x4]) (hd : a.defers = [])
    (hres : ∀ W' : World, W'.cell? ⟨b0, 0, none⟩ = some x0 → W'.cell? ⟨b0, 1, none⟩ = some x1 → W'.cell? ⟨b0, 2, none⟩ = some x2 → W'.cell? ⟨b0, 3, none⟩ = some x3 → W'.cell? ⟨b0, 4, none⟩ = some x4 → (results fn a.tmps).run P W' = .ok v W') (hR : R (.returned v) W) : bodyPost P fn R .ret a W :=
  bodyPost_ret (hres W (h0.cell 0) (h0.cell 1) (h0.cell 2) (h0.cell 3) (h0.cell 4)) hd hR
theorem SlAt.butG {α : Type} {enc : α → List Value} {sz g : Nat} {w w' : World} {A : Option Addr} {xs : List α} (h : SlAt w sz enc A xs) (hu : But g w w') (hg : ∀ q, A = some q → ¬ q.block = g) : SlAt w' sz enc A xs :=
  h.grown hu.grown fun q hq e => hg q hq (by injection e)
theorem Own.butG {α : Type} {enc : α → List Value} {sz g base : Nat} {t : TypeId} {w w' : World} {v : Value} {xs : List α} (h : Own enc sz t w base v xs) (hu : But g w w') (hg : g < base) : Own enc sz t w' base v xs :=
  h.kept hu.grown (by
    rcases hv : v.ownBlock with _ | k
    · exact .inl rfl
    · refine .inr fun e => ?_
      injection e with e
      have := (h.row k hv).1
      omega)
theorem l_toSpan (x y : Int) (w : World) : Calls Tryz.prog 115 #[.agg #[.int .i64 x, .int .i64 y]] w fun e w' => e = .returned (.agg #[.int .i64 x, .int .i64 y]) ∧ Ext w w' := by
  go_enter Tryz.func115, Tryz.ntmps115
  go_wp2
  refine bodyPost_ret (v := .agg #[.int .i64 x, .int .i64 y]) (by simp [results, Tryz.results115, go_sem]) rfl ⟨rfl, ?_⟩
  (repeat (first | with_reducible exact Ext.refl _ | with_reducible assumption | ((with_reducible apply Src.ext); with_reducible assumption) | with_reducible refine Ext.alloc ?_ _ | with_reducible refine Ext.drew ?_ | with_reducible refine Ext.drewN ?_ _ | ((with_reducible refine Ext.setCell' ?_ ?_ _); solve | omega | simp | (simp; omega)) | (with_reducible refine Ext.trans ?_ (by with_reducible assumption))))
theorem l_eqSpan_self (x z : Int) (w : World) : Calls Tryz.prog 90 #[.agg #[.int .i64 x, .int .i64 z], .agg #[.int .i64 x, .int .i64 z]] w fun e w' => e = .returned (.bool true) ∧ Ext w w' := by
  have h1 : (x != x) = false := by simp
  have h2 : (z != z) = false := by simp
  go_enter Tryz.func90, Tryz.ntmps90
  go_wp2
  go_ret
  exact ⟨rfl, by (repeat (first | with_reducible exact Ext.refl _ | with_reducible assumption | ((with_reducible apply Src.ext); with_reducible assumption) | with_reducible refine Ext.alloc ?_ _ | with_reducible refine Ext.drew ?_ | with_reducible refine Ext.drewN ?_ _ | ((with_reducible refine Ext.setCell' ?_ ?_ _); solve | omega | simp | (simp; omega)) | (with_reducible refine Ext.trans ?_ (by with_reducible assumption))))⟩

/-- what is known of a size that was reckoned over one -/
def SzLink (l : Lk) (z : Int) : Prop := z ≤ 1048576 ∧ (z = -1 ∨ (0 ≤ z ∧ l.1.length ≤ 1048576 ∧ l.2.1.length ≤ 1048576))
set_option maxHeartbeats 3200000 in
theorem l_szLink (l : Lk) (left : Int) (w : World) (g0 : l.1.length ≤ 9223372036854775807) (g1 : l.2.1.length ≤ 9223372036854775807) (h0 : 0 ≤ left) (h1 : left ≤ 1048576) :
    Calls Tryz.prog 88 #[.agg #[.string (tx l.1), .string (tx l.2.1), .int .i64 l.2.2.1, .int .i64 l.2.2.2], .int .i64 left] w fun e w' => (∃ z : Int, e = .returned (.int .i64 z) ∧ SzLink l z) ∧ Ext w w' := by
  have hsz0 := tx_size l.1
  obtain ⟨s0, hs0⟩ : ∃ s, s = tx l.1 := ⟨_, rfl⟩
  rw [← hs0] at hsz0 ⊢
  clear hs0
  have hsz1 := tx_size l.2.1
  obtain ⟨s1, hs1⟩ : ∃ s, s = tx l.2.1 := ⟨_, rfl⟩
  rw [← hs1] at hsz1 ⊢
  clear hs1
  obtain ⟨v0, hv0⟩ : ∃ v, v = l.2.2.1 := ⟨_, rfl⟩
  rw [← hv0]
  clear hv0
  obtain ⟨v1, hv1⟩ : ∃ v, v = l.2.2.2 := ⟨_, rfl⟩
  rw [← hv1]
  clear hv1
  by_cases hz0 : left - (l.1.length : Int) < 0
  · go_enter Tryz.func88, Tryz.ntmps88
    go_wp2
    go_ret
    exact ⟨⟨-1, rfl, by omega, .inl rfl⟩, by (repeat (first | with_reducible exact Ext.refl _ | with_reducible assumption | ((with_reducible apply Src.ext); with_reducible assumption) | with_reducible refine Ext.alloc ?_ _ | with_reducible refine Ext.drew ?_ | with_reducible refine Ext.drewN ?_ _ | ((with_reducible refine Ext.setCell' ?_ ?_ _); solve | omega | simp | (simp; omega)) | (with_reducible refine Ext.trans ?_ (by with_reducible assumption))))⟩
  · by_cases hz1 : left - (l.1.length : Int) - (l.2.1.length : Int) < 0
    · go_enter Tryz.func88, Tryz.ntmps88
      go_wp2
      go_ret
      exact ⟨⟨-1, rfl, by omega, .inl rfl⟩, by (repeat (first | with_reducible exact Ext.refl _ | with_reducible assumption | ((with_reducible apply Src.ext); with_reducible assumption) | with_reducible refine Ext.alloc ?_ _ | with_reducible refine Ext.drew ?_ | with_reducible refine Ext.drewN ?_ _ | ((with_reducible refine Ext.setCell' ?_ ?_ _); solve | omega | simp | (simp; omega)) | (with_reducible refine Ext.trans ?_ (by with_reducible assumption))))⟩
    · go_enter Tryz.func88, Tryz.ntmps88
      go_wp2
      go_ret
      exact ⟨⟨_, rfl, by omega, .inr ⟨by omega, by omega, by omega⟩⟩, by (repeat (first | with_reducible exact Ext.refl _ | with_reducible assumption | ((with_reducible apply Src.ext); with_reducible assumption) | with_reducible refine Ext.alloc ?_ _ | with_reducible refine Ext.drew ?_ | with_reducible refine Ext.drewN ?_ _ | ((with_reducible refine Ext.setCell' ?_ ?_ _); solve | omega | simp | (simp; omega)) | (with_reducible refine Ext.trans ?_ (by with_reducible assumption))))⟩

def SzLinks (L : List Lk) (z : Int) : Prop := z ≤ 1048576 ∧ (z = -1 ∨ (0 ≤ z ∧ L.length ≤ 1048576 ∧ Links L))
set_option maxHeartbeats 3200000 in
theorem l_szLinkS (A : Option Addr) (n c : Nat) (L : List Lk) (left : Int) (w : World) (h : SlAt w 4 encK A L) (hne : n = L.length) (hn : n ≤ 9223372036854775807) (hr : ∀ i, i < L.length → (L.getD i lkD).1.length ≤ 9223372036854775807 ∧ (L.getD i lkD).2.1.length ≤ 9223372036854775807) (h0 : 0 ≤ left) (h1 : left ≤ 1048576) :
    Calls Tryz.prog 41 #[.slice A n c, .int .i64 left] w fun e w' => (∃ z : Int, e = .returned (.int .i64 z) ∧ SzLinks L z) ∧ Ext w w' := by
  have HR := Lib.hid hr
  have HN := Lib.hid hne
  clear hr hne
  by_cases hc : left - (n : Int) < 0
  · go_enter Tryz.func41, Tryz.ntmps41
    go_wp2
    go_ret
    exact ⟨⟨-1, rfl, by omega, .inl rfl⟩, by (repeat (first | with_reducible exact Ext.refl _ | with_reducible assumption | ((with_reducible apply Src.ext); with_reducible assumption) | with_reducible refine Ext.alloc ?_ _ | with_reducible refine Ext.drew ?_ | with_reducible refine Ext.drewN ?_ _ | ((with_reducible refine Ext.setCell' ?_ ?_ _); solve | omega | simp | (simp; omega)) | (with_reducible refine Ext.trans ?_ (by with_reducible assumption))))⟩
  · have hl : n ≤ 1048576 := by omega
    go_enter Tryz.func41, Tryz.ntmps41
    go_wp2
    go_loopw [1, 5] (fun l i wr => ∃ (k : Nat) (z : Int), k ≤ n ∧ i = .int .i64 k ∧ l = .int .i64 z ∧ 0 ≤ z ∧ z ≤ 1048576 ∧ Hid (∀ i, i < k → (L.getD i lkD).1.length ≤ 1048576 ∧ (L.getD i lkD).2.1.length ≤ 1048576) ∧ Ext w wr) (fun _ i _ => n - (intOf i).toNat)
    case atStart => exact ⟨0, left - n, by omega, rfl, rfl, by omega, by omega, fun j hj => absurd hj (by omega), by (repeat (first | with_reducible exact Ext.refl _ | with_reducible assumption | ((with_reducible apply Src.ext); with_reducible assumption) | with_reducible refine Ext.alloc ?_ _ | with_reducible refine Ext.drew ?_ | with_reducible refine Ext.drewN ?_ _ | ((with_reducible refine Ext.setCell' ?_ ?_ _); solve | omega | simp | (simp; omega)) | (with_reducible refine Ext.trans ?_ (by with_reducible assumption))))⟩
    case round =>
      obtain ⟨k, z, hk, rfl, rfl, hz0, hz1, HJ, hxr⟩ := hrel
      by_cases hlt : k < n
      · have hkl : k < L.length := by rw [← HN.out]; exact hlt
        obtain ⟨b, off, rfl, hb, d0, d1, d2, d3⟩ := (h.ext hxr).lk hkl
        have hm := HR.out k hkl
        obtain ⟨v, hve⟩ : ∃ v, v = L.getD k lkD := ⟨_, rfl⟩
        rw [← hve] at d0 d1 d2 d3 hm
        have HV := Lib.hid hve
        have HC := Lib.hid (l_szLink v z wr hm.1 hm.2 hz0 hz1)
        clear hve hm
        go_wp2_with fail
        refine HC.out.mono ?_
        rintro e w' ⟨⟨z', rfl, hz2, hzz⟩, hx'⟩
        rcases hzz with rfl | ⟨hz3, hg⟩
        · go_wp2
          go_ret
          exact ⟨⟨-1, rfl, by omega, .inl rfl⟩, by (repeat (first | with_reducible exact Ext.refl _ | with_reducible assumption | ((with_reducible apply Src.ext); with_reducible assumption) | with_reducible refine Ext.alloc ?_ _ | with_reducible refine Ext.drew ?_ | with_reducible refine Ext.drewN ?_ _ | ((with_reducible refine Ext.setCell' ?_ ?_ _); solve | omega | simp | (simp; omega)) | (with_reducible refine Ext.trans ?_ (by with_reducible assumption))))⟩
        · have HJ2 := Lib.hid (upTo_succ HJ.out (show (L.getD k lkD).1.length ≤ 1048576 ∧ (L.getD k lkD).2.1.length ≤ 1048576 by rw [← HV.out]; exact hg))
          clear hg
          go_wp2
          go_roundw
          case rel => exact ⟨k + 1, z', by omega, by go_num, rfl, by omega, by omega, HJ2, by (repeat (first | with_reducible exact Ext.refl _ | with_reducible assumption | ((with_reducible apply Src.ext); with_reducible assumption) | with_reducible refine Ext.alloc ?_ _ | with_reducible refine Ext.drew ?_ | with_reducible refine Ext.drewN ?_ _ | ((with_reducible refine Ext.setCell' ?_ ?_ _); solve | omega | simp | (simp; omega)) | (with_reducible refine Ext.trans ?_ (by with_reducible assumption))))⟩
          case measure => simp [intOf]; omega
      · obtain rfl : k = n := by omega
        go_wp2
        go_ret
        exact ⟨⟨z, rfl, by omega, .inr ⟨hz0, by rw [← HN.out]; exact hl, fun j => by
          rcases Nat.lt_or_ge j L.length with hj | hj
          · exact HJ.out j (by rw [HN.out]; exact hj)
          · rw [List.getD_eq_getElem?_getD, List.getElem?_eq_none hj]; simp [lkD]⟩⟩, by (repeat (first | with_reducible exact Ext.refl _ | with_reducible assumption | ((with_reducible apply Src.ext); with_reducible assumption) | with_reducible refine Ext.alloc ?_ _ | with_reducible refine Ext.drew ?_ | with_reducible refine Ext.drewN ?_ _ | ((with_reducible refine Ext.setCell' ?_ ?_ _); solve | omega | simp | (simp; omega)) | (with_reducible refine Ext.trans ?_ (by with_reducible assumption))))⟩

set_option maxHeartbeats 3200000 in
theorem l_toLink (x0 : ByteArray) (x1 : ByteArray) (x2 : Int) (x3 : Int) (w : World) : Calls Tryz.prog 89 #[.agg #[.string x0, .string x1, .int .i64 x2, .int .i64 x3]] w fun e w' => e = .returned (.agg #[.string x0, .string x1, .int .i64 x2, .int .i64 x3]) ∧ Ext w w' := by
  go_enter Tryz.func89, Tryz.ntmps89
  (go_wp2_with fail; refine (l_toSpan _ _ _).mono ?_; rintro e w1 ⟨rfl, hx1⟩; obtain ⟨hc1, hf1⟩ := hx1.rules; have hs1 := hx1.size; (try simp at hs1); have := (show w.heap.size < w1.heap.size from by omega); have := (show w.heap.size + 1 < w1.heap.size from by omega); have := (show w.heap.size + 1 + 1 < w1.heap.size from by omega))
  go_wp2
  refine ret_b4 (b0 := w.heap.size + 1) (t := 57) (v := .agg #[.string x0, .string x1, .int .i64 x2, .int .i64 x3]) (Blk.eq (by (repeat (first | with_reducible assumption | ((with_reducible apply Blk.new); solve | simp | rfl) | with_reducible apply Blk.drew | with_reducible apply Blk.drewN | ((with_reducible apply Blk.far'); solve | omega | simp | (simp; omega)) | with_reducible apply Blk.set_ | with_reducible apply Blk.alloc | ((with_reducible apply Blk.ext'); with_reducible assumption) | ((with_reducible apply Blk.but'); (with_reducible assumption); solve | omega | (simp; omega))))) (by rfl)) rfl (by intro W' r0 r1 r2 r3; simp [results, Tryz.results89, go_sem, r0, r1, r2, r3]) ⟨rfl, ?_⟩
  (repeat (first | with_reducible exact Ext.refl _ | with_reducible assumption | ((with_reducible apply Src.ext); with_reducible assumption) | with_reducible refine Ext.alloc ?_ _ | with_reducible refine Ext.drew ?_ | with_reducible refine Ext.drewN ?_ _ | ((with_reducible refine Ext.setCell' ?_ ?_ _); solve | omega | simp | (simp; omega)) | (with_reducible refine Ext.trans ?_ (by with_reducible assumption))))
theorem elLink : ElT Tryz.prog 24 57 4 48 := ElT.mk' (z := .agg #[.string .empty, .string .empty, .int .i64 0, .int .i64 0]) Tryz.underlying24 (by kernel_rfl) rfl (by omega)
set_option maxHeartbeats 3200000 in
theorem l_toLinkS (A : Option Addr) (n c : Nat) (L : List Lk) (w : World) (h : SlAt w 4 encK A L) (hn : n = L.length) (hl : n ≤ 1048576) :
    Calls Tryz.prog 42 #[.slice A n c] w fun e w' => ∃ cs, e = .returned (.slice (some ⟨w.heap.size, 0, none⟩) n n) ∧ Blk w' w.heap.size 57 cs ∧ cs.toList = L.flatMap encK ∧ Ext w w' := by
  subst hn
  obtain ⟨hu, ⟨i0, z0, hi, hz, hz1, hz2, hz3⟩, _⟩ := elLink
  have hzz : i0.zero = some (.agg #[.string .empty, .string .empty, .int .i64 0, .int .i64 0]) := by
    have : (Tryz.prog.info? 57).map (fun i => i.zero) = some (some (.agg #[.string .empty, .string .empty, .int .i64 0, .int .i64 0])) := by kernel_rfl
    rw [hi] at this
    injection this
  have hmk : ∀ u : World, (Instr.makeSlice 24 (.int .i64 (L.length : Int)) (.int .i64 (L.length : Int))).run Tryz.prog u =
      .ok (.slice (some ⟨u.heap.size, 0, none⟩) L.length L.length) (u.alloc (.cells (madeCells #[.string .empty, .string .empty, .int .i64 0, .int .i64 0] (L.length * 4)) 57)) := fun u => by
    have h := run_make (P := Tryz.prog) u 24 57 i0 (.agg #[.string .empty, .string .empty, .int .i64 0, .int .i64 0]) hu hi hzz .i64 .i64 (L.length : Int) (L.length : Int) (by omega) (Int.le_refl _) (by rw [hz2]; omega) (by omega)
    simpa [hz1, Value.cells] using h
  clear hz hz3
  go_enter Tryz.func42, Tryz.ntmps42
  go_wp2
  go_loopw [4] (fun i wr => ∃ (k : Nat) (cs : Array Value), k ≤ L.length ∧ i = .int .i64 k ∧ Blk wr w.heap.size 57 cs ∧ Hid (Filled 4 encK L k cs) ∧ Ext w wr) (fun i _ => L.length - (intOf i).toNat)
  case atStart => exact ⟨0, _, Nat.zero_le _, rfl, Blk.new rfl, Lib.hid (Filled.start (by simp [madeCells])), by (repeat (first | with_reducible exact Ext.refl _ | with_reducible assumption | ((with_reducible apply Src.ext); with_reducible assumption) | with_reducible refine Ext.alloc ?_ _ | with_reducible refine Ext.drew ?_ | with_reducible refine Ext.drewN ?_ _ | ((with_reducible refine Ext.setCell' ?_ ?_ _); solve | omega | simp | (simp; omega)) | (with_reducible refine Ext.trans ?_ (by with_reducible assumption))))⟩
  case round =>
    obtain ⟨k, cs, hk, rfl, hB, HF, hx⟩ := hrel
    by_cases hlt : k < L.length
    · obtain ⟨b, off, rfl, hb, d0, d1, d2, d3⟩ := (h.ext hx).lk hlt
      obtain ⟨u0, hu0⟩ := HF.out.at_ (j := k * 4) (by omega)
      obtain ⟨u1, hu1⟩ := HF.out.at_ (j := k * 4 + 1) (by omega)
      obtain ⟨u2, hu2⟩ := HF.out.at_ (j := k * 4 + 2) (by omega)
      obtain ⟨u3, hu3⟩ := HF.out.at_ (j := k * 4 + 3) (by omega)
      have c0 := (hB.cell (k * 4)).trans hu0
      have f0 := hB.frozen (k * 4)
      have c1 := (hB.cell (k * 4 + 1)).trans hu1
      have f1 := hB.frozen (k * 4 + 1)
      have c2 := (hB.cell (k * 4 + 2)).trans hu2
      have f2 := hB.frozen (k * 4 + 2)
      have c3 := (hB.cell (k * 4 + 3)).trans hu3
      have f3 := hB.frozen (k * 4 + 3)
      have hBl := hB.lt
      have HX := Lib.hid (HF.out.step4 (x := L.getD k lkD) len_encK (by simp [List.getD, hlt]) rfl)
      generalize L.getD k lkD = v at *
      generalize tx v.1 = s0 at *
      generalize tx v.2.1 = s1 at *
      clear hu0 hu1 hu2 hu3
      go_wp2_with (first | (go_at_call 89; refine (l_toLink _ _ _ _ _).mono ?_; rintro e w1 ⟨rfl, hx1⟩; obtain ⟨hc1, hf1⟩ := hx1.rules; have hs1 := hx1.size; (try simp at hs1); have := (show w.heap.size < w1.heap.size from by omega)))
      go_roundw
      case rel => exact ⟨k + 1, _, by omega, by go_num, ((((hB.ext hx1).set_ _ _).set_ _ _).set_ _ _).set_ _ _, HX, by (repeat (first | with_reducible exact Ext.refl _ | with_reducible assumption | ((with_reducible apply Src.ext); with_reducible assumption) | with_reducible refine Ext.alloc ?_ _ | with_reducible refine Ext.drew ?_ | with_reducible refine Ext.drewN ?_ _ | ((with_reducible refine Ext.setCell' ?_ ?_ _); solve | omega | simp | (simp; omega)) | (with_reducible refine Ext.trans ?_ (by with_reducible assumption))))⟩
      case measure => simp [intOf]; omega
    · go_wp2
      go_ret
      obtain rfl : k = L.length := by omega
      exact ⟨cs, rfl, hB, HF.out.done len_encK, hx⟩
set_option maxHeartbeats 1600000 in
theorem l_eqLink_self (x0 : ByteArray) (x1 : ByteArray) (x2 : Int) (x3 : Int) (w : World) : Calls Tryz.prog 91 #[.agg #[.string x0, .string x1, .int .i64 x2, .int .i64 x3], .agg #[.string x0, .string x1, .int .i64 x2, .int .i64 x3]] w fun e w' => e = .returned (.bool true) ∧ Ext w w' := by
  have h0 : (x0.toList == x0.toList) = true := by simp
  have h1 : (x1.toList == x1.toList) = true := by simp
  go_enter Tryz.func91, Tryz.ntmps91
  (go_wp2_with fail; refine (l_eqSpan_self _ _ _).mono ?_; rintro e w1 ⟨rfl, hx1⟩; obtain ⟨hc1, hf1⟩ := hx1.rules; have hs1 := hx1.size; (try simp at hs1))
  go_wp2
  go_ret
  exact ⟨rfl, by (repeat (first | with_reducible exact Ext.refl _ | with_reducible assumption | ((with_reducible apply Src.ext); with_reducible assumption) | with_reducible refine Ext.alloc ?_ _ | with_reducible refine Ext.drew ?_ | with_reducible refine Ext.drewN ?_ _ | ((with_reducible refine Ext.setCell' ?_ ?_ _); solve | omega | simp | (simp; omega)) | (with_reducible refine Ext.trans ?_ (by with_reducible assumption))))⟩
set_option maxHeartbeats 1600000 in
theorem l_eqLinkS (A A' : Option Addr) (n c c' : Nat) (L : List Lk) (w : World) (h : SlAt w 4 encK A L) (h' : SlAt w 4 encK A' L) (hn : n = L.length) (hl : n ≤ 1048576) :
    Calls Tryz.prog 44 #[.slice A n c, .slice A' n c'] w fun e w' => e = .returned (.bool true) ∧ Ext w w' := by
  have hn1 : (((n : Nat) : Int) != (n : Int)) = false := by simp
  have HN := Lib.hid hn
  clear hn
  go_enter Tryz.func44, Tryz.ntmps44
  go_wp2
  go_loopw [5] (fun i wr => ∃ k : Nat, k ≤ n ∧ i = .int .i64 k ∧ Ext w wr) (fun i _ => n - (intOf i).toNat)
  case atStart => exact ⟨0, Nat.zero_le _, rfl, by (repeat (first | with_reducible exact Ext.refl _ | with_reducible assumption | ((with_reducible apply Src.ext); with_reducible assumption) | with_reducible refine Ext.alloc ?_ _ | with_reducible refine Ext.drew ?_ | with_reducible refine Ext.drewN ?_ _ | ((with_reducible refine Ext.setCell' ?_ ?_ _); solve | omega | simp | (simp; omega)) | (with_reducible refine Ext.trans ?_ (by with_reducible assumption))))⟩
  case round =>
    obtain ⟨k, hk, rfl, hx⟩ := hrel
    by_cases hlt : k < n
    · have hkl : k < L.length := by rw [← HN.out]; exact hlt
      obtain ⟨b, off, rfl, hb, d0, d1, d2, d3⟩ := (h.ext hx).lk hkl
      obtain ⟨b', off', rfl, hb', e0, e1, e2, e3⟩ := (h'.ext hx).lk hkl
      generalize L.getD k lkD = v at *
      generalize tx v.1 = s0 at *
      generalize tx v.2.1 = s1 at *
      generalize v.2.2.1 = i0 at *
      generalize v.2.2.2 = i1 at *
      clear hkl
      go_wp2
      (refine wp_region_ext (by kernel_rfl) (by kernel_rfl) ?_; (repeat (go_big_quiet_step ((go_at_call 91; exact Calls_ext (l_eqLink_self _ _ _ _ _))))); refine wpQuiet_nil ?_; intro wq hxwq; obtain ⟨hcwq, hfwq⟩ := hxwq.rules; have hswq := hxwq.size; (try simp at hswq))
      go_wp2
      go_roundw
      case rel => exact ⟨k + 1, by omega, by go_num, by (repeat (first | with_reducible exact Ext.refl _ | with_reducible assumption | ((with_reducible apply Src.ext); with_reducible assumption) | with_reducible refine Ext.alloc ?_ _ | with_reducible refine Ext.drew ?_ | with_reducible refine Ext.drewN ?_ _ | ((with_reducible refine Ext.setCell' ?_ ?_ _); solve | omega | simp | (simp; omega)) | (with_reducible refine Ext.trans ?_ (by with_reducible assumption))))⟩
      case measure => simp [intOf]; omega
    · go_wp2
      go_ret
      exact ⟨rfl, by (repeat (first | with_reducible exact Ext.refl _ | with_reducible assumption | ((with_reducible apply Src.ext); with_reducible assumption) | with_reducible refine Ext.alloc ?_ _ | with_reducible refine Ext.drew ?_ | with_reducible refine Ext.drewN ?_ _ | ((with_reducible refine Ext.setCell' ?_ ?_ _); solve | omega | simp | (simp; omega)) | (with_reducible refine Ext.trans ?_ (by with_reducible assumption))))⟩

set_option maxHeartbeats 6400000 in
theorem l_markLinkS (g n c k : Nat) (cs : Array Value) (w : World) (hB : Blk w g 57 cs) (hs : cs.size = n * 4) (hl : n ≤ 1048576) (hk : 0 < k) (hk' : k ≤ 100000000000000) :
    Calls Tryz.prog 45 #[.slice (some ⟨g, 0, none⟩) n c, .int .i64 k] w fun e w' => e = .returned (.int .i64 ((k + 4 * n : Nat) : Int)) ∧ (∃ cs', Blk w' g 57 cs' ∧ cs'.size = n * 4) ∧ But g w w' := by
  go_enter Tryz.func45, Tryz.ntmps45
  go_wp2
  go_loopw [1, 5] (fun m i wr => ∃ (j : Nat) (cs : Array Value), j ≤ n ∧ i = .int .i64 j ∧ m = .int .i64 ((k + 4 * j : Nat) : Int) ∧ Blk wr g 57 cs ∧ Hid (cs.size = n * 4) ∧ But g w wr) (fun _ i _ => n - (intOf i).toNat)
  case atStart => exact ⟨0, cs, by omega, rfl, by simp, hB, Lib.hid hs, But.refl g w⟩
  case round =>
    obtain ⟨j, cs, hj, rfl, rfl, hBr, HC, HG⟩ := hrel
    have hgr := hBr.lt
    by_cases hlt : j < n
    · have hcz := HC.out
      obtain ⟨u0, hu0⟩ : ∃ u, cs[j * 4]? = some u := ⟨_, Array.getElem?_eq_getElem (by omega)⟩
      rw [← hBr.cell] at hu0
      have f0 := hBr.frozen (j * 4)
      obtain ⟨u1, hu1⟩ : ∃ u, cs[j * 4 + 1]? = some u := ⟨_, Array.getElem?_eq_getElem (by omega)⟩
      rw [← hBr.cell] at hu1
      have f1 := hBr.frozen (j * 4 + 1)
      obtain ⟨u2, hu2⟩ : ∃ u, cs[j * 4 + 2]? = some u := ⟨_, Array.getElem?_eq_getElem (by omega)⟩
      rw [← hBr.cell] at hu2
      have f2 := hBr.frozen (j * 4 + 2)
      obtain ⟨u3, hu3⟩ : ∃ u, cs[j * 4 + 3]? = some u := ⟨_, Array.getElem?_eq_getElem (by omega)⟩
      rw [← hBr.cell] at hu3
      have f3 := hBr.frozen (j * 4 + 3)
      clear hcz
      obtain ⟨kj, hkj⟩ : ∃ q, q = k + 4 * j := ⟨_, rfl⟩
      rw [← hkj]
      have HKJ := Lib.hid hkj
      have hkj2 : kj ≤ 200000000000000 := by omega
      have hkj0 : 0 < kj := by omega
      have HT := Lib.hid (fun W => l_markText kj W hkj0 (by omega))
      have HT1 := Lib.hid (fun W => l_markText (kj + 1) W (by omega) (by omega))
      generalize tx (mkL kj) = s0 at *
      generalize tx (mkL (kj + 1)) = s1 at *
      have hw1 : IntKind.i64.wrap ((kj : Int) + 1) = ((kj + 1 : Nat) : Int) := by rw [IntWalk.i64_in _ (by omega)]; omega
      clear hkj
      go_wp2_with fail
      refine (HT.out _).mono ?_
      rintro e w1 ⟨rfl, hx1⟩
      obtain ⟨hc1, hf1⟩ := hx1.rules
      have hs1 := hx1.size
      (try simp at hs1)
      have := (show g < w1.heap.size from by omega)
      go_wp2_with fail
      refine (HT1.out _).mono ?_
      rintro e w2 ⟨rfl, hx2⟩
      obtain ⟨hc2, hf2⟩ := hx2.rules
      have hs2 := hx2.size
      (try simp at hs2)
      have := (show g < w2.heap.size from by omega)
      go_wp2
      go_roundw
      case rel => exact ⟨j + 1, _, by omega, by go_num, by have := HKJ.out; congr 1; omega, Blk.eq (by (repeat (first | with_reducible assumption | ((with_reducible apply Blk.new); solve | simp | rfl) | with_reducible apply Blk.drew | with_reducible apply Blk.drewN | ((with_reducible apply Blk.far'); solve | omega | simp | (simp; omega)) | with_reducible apply Blk.set_ | with_reducible apply Blk.alloc | ((with_reducible apply Blk.ext'); with_reducible assumption) | ((with_reducible apply Blk.but'); (with_reducible assumption); solve | omega | (simp; omega))))) (by rfl), Lib.hid (by have := HC.out; simpa using this), by (repeat (first | with_reducible exact But.refl _ _ | with_reducible assumption | with_reducible refine But.alloc ?_ _ | with_reducible refine But.drew ?_ | with_reducible refine But.drewN ?_ _ | with_reducible refine But.set_ ?_ _ _ | ((with_reducible refine But.new ?_ ?_ _); solve | omega | simp | (simp; omega)) | (with_reducible refine But.trans ?_ (by with_reducible assumption)) | (with_reducible refine But.trans ?_ (But.of (by with_reducible assumption)))))⟩
      case measure => simp [intOf]; omega
    · obtain rfl : j = n := by omega
      go_wp2
      go_ret
      exact ⟨rfl, ⟨cs, hBr, HC.out⟩, HG⟩

/-- what is known of a size that was reckoned over one -/
def SzName (l : Nm) (z : Int) : Prop := z ≤ 1048576 ∧ (z = -1 ∨ (0 ≤ z ∧ l.1.length ≤ 1048576 ∧ l.2.1.length ≤ 1048576))
def SzNames (L : List Nm) (z : Int) : Prop := z ≤ 1048576 ∧ (z = -1 ∨ (0 ≤ z ∧ L.length ≤ 1048576 ∧ Names L))

end Go.Proofs.YtmpgjajkaehdiaaGreatDoor
