/- Opening a list of rings among a law's arguments. Contracts of the laws over lists of views, walked over the translation. Contracts of views copied, walked over the translation. Contracts of views, walked over the translation. AreViews, walked over the translation. The specification of views, walked over the translation. Opening a list of views among a law's arguments. -/
import Derived.Test.YtabdffponmmhoaaGreatDoorK
import Derived.Test.YtabdffponmmhoaaGreatDoorMM
import Derived.Test.YtabdffponmmhoaaGreatDoorGT
import Derived.Deep.RegionHeld3
import Derived.Deep.DeepCutAuto
import Derived.RegionTactic
import Derived.BigRegion
import Derived.WalkLawsBesides
import Derived.WalkSpells
import Derived.Lib.MinMax
import Derived.Outline
namespace Go.Proofs.YtabdffponmmhoaaGreatDoor
open Go.ChangeShapes Go.WideShapes Go.ChangeAt Go.RowKit Go.Deep Go.Joins
theorem trod_len {H : Type} {enc : TypeId × Value → H} {P : Program} {w : World} {base : Nat} {held : Bool} {fuel : Nat} {t e : TypeId} {A : Option Addr} {n c : Nat} {x : DataW H × List MemPlace} (ht : P.underlying t = some (.slice e))
    (h : DataW.trod enc P w base (fun _ => true) held fuel t [.slice A n c] = some x) : n ≤ 9223372036854775807 := by
  rcases open_slice ht h with ⟨e1, _⟩ | ⟨a, len, cap, m, k, D, Pl, e1, _, hl, hm, _⟩
  · injection e1 with e1
    injection e1 with _ e2
    omega
  · injection e1 with e1
    injection e1 with _ e2
    unfold maxLen at hm
    omega
theorem trod_rg {H : Type} {enc : TypeId × Value → H} {w : World} {base : Nat} {held : Bool} {fuel : Nat} {t e : TypeId} {f0 f1 : Field} {cs : List Value} {x : DataW H × List MemPlace} (ht : Tryz.prog.underlying t = some (.slice e)) (hs : Tryz.prog.underlying e = some (.struct #[f0, f1]))
    (h0 : f0.type = 2) (h1 : f1.type = 2) (hone : oneCellFields Tryz.prog #[f0, f1] = true) (hC : Tryz.prog.cellsOf e = 2) (h : DataW.trod enc Tryz.prog w base (fun _ => true) held fuel t cs = some x) :
    ∃ r : Rg, cs = encR r ∧ SlAt w 2 encP r.1 r.2.2 ∧ r.2.2.length ≤ 9223372036854775807 := by
  obtain ⟨A, c, xs, rfl, hS, _, _, _⟩ := open_sl encP (fun p => I64 p.1 ∧ I64 p.2) ht hC (by omega) (fun n cs x h => trod_pt hs Tryz.underlying2 h0 h1 hone hC h) h
  exact ⟨(A, c, xs), rfl, hS, trod_len ht h⟩
set_option maxRecDepth 100000 in
/-- a list of rings among the arguments -/
theorem openLLP {H : Type} {enc : TypeId × Value → H} {w : World} {base : Nat} {t e e2 : TypeId} {f0 f1 : Field} {v : Value} {d : DataW H} {p : List MemPlace}
    (ht : Tryz.prog.underlying t = some (.slice e)) (he : Tryz.prog.underlying e = some (.slice e2)) (hs : Tryz.prog.underlying e2 = some (.struct #[f0, f1])) (h0 : f0.type = 2) (h1 : f1.type = 2) (hone : oneCellFields Tryz.prog #[f0, f1] = true) (hC : Tryz.prog.cellsOf e2 = 2) (hC1 : Tryz.prog.cellsOf e = 1)
    (hv : Value.okWide Tryz.prog w .any base t v) (h : DataW.Trod enc Tryz.prog w 0 (fun _ => true) true t v d p) :
    ∃ (A : Option Addr) (c : Nat) (rs : List Rg), v = .slice A rs.length c ∧ ArgR w A rs := by
  obtain ⟨a0, len, cap, rfl⟩ := okWide_slice ht hv
  obtain ⟨fuel, hf⟩ := h
  obtain ⟨A, c, rs, hcs, hS, hG, _, _⟩ := open_sl (α := Rg) encR (fun r => SlAt w 2 encP r.1 r.2.2 ∧ r.2.2.length ≤ 9223372036854775807) ht hC1 (by omega)
    (fun n cs x h => trod_rg he hs h0 h1 hone hC h) hf
  have hl : len ≤ 9223372036854775807 := trod_len (A := a0) (c := cap) ht (by simpa [Value.cells] using hf)
  have hcs' : Value.slice a0 len cap = .slice A rs.length c := by simpa [Value.cells] using hcs
  refine ⟨A, c, rs, hcs', hS, fun i hi => (hG _ (rg_mem hi)).1, ?_, fun i hi => (hG _ (rg_mem hi)).2⟩
  injection hcs' with _ e2
  omega
end Go.Proofs.YtabdffponmmhoaaGreatDoor
namespace Go.Proofs.YtabdffponmmhoaaGreatDoor
open Go.RowKit
attribute [local go_sem] ExtOf.cell ExtOf.frozen

/-- a view as two cells: its holder; the address, the capacity and the owners of its slice -/
abbrev Vw := List UInt8 × Option Addr × Nat × List (List UInt8)
def vwD : Vw := ([], none, 0, [])
def encV (v : Vw) : List Value := [.string (tx v.1), .slice v.2.1 v.2.2.2.length v.2.2.1]
theorem len_encV : ∀ v, (encV v).length = 2 := fun _ => rfl
theorem one_encV : ∀ p, ∀ u ∈ encV p, u.oneCell' = true := by
  intro p u hu
  simp [encV] at hu
  rcases hu with rfl | rfl <;> rfl
/-- no text of a view is long -/
def GoodV (v : Vw) : Prop := v.1.length ≤ 1048576 ∧ v.2.2.2.length ≤ 1048576 ∧ ∀ i, (v.2.2.2.getD i []).length ≤ 1048576
/-- the owners behind a list of views read as they are told -/
def Views (w : World) (vs : List Vw) : Prop := ∀ v ∈ vs, SlAt w 1 encS v.2.1 v.2.2.2 ∧ v.2.2.2.length ≤ v.2.2.1 ∧ GoodV v
theorem Views.ext {w w' : World} {vs : List Vw} (h : Views w vs) (hx : Ext w w') : Views w' vs := fun v hv => ⟨(h v hv).1.ext hx, (h v hv).2⟩
theorem vw_mem {vs : List Vw} {k : Nat} (hk : k < vs.length) : vs.getD k vwD ∈ vs := by simp [List.getD, hk]
theorem SlAt.vw {w : World} {A : Option Addr} {vs : List Vw} (h : SlAt w 2 encV A vs) {k : Nat} (hk : k < vs.length) :
    ∃ b off, A = some ⟨b, off, none⟩ ∧ b < w.heap.size ∧ w.cell? ⟨b, off + k * 2, none⟩ = some (.string (tx (vs.getD k vwD).1)) ∧
      w.cell? ⟨b, off + k * 2 + 1, none⟩ = some (.slice (vs.getD k vwD).2.1 (vs.getD k vwD).2.2.2.length (vs.getD k vwD).2.2.1) := by
  obtain ⟨b, off, e, hb, hc⟩ := h (by omega)
  have hg : vs[k]? = some (vs.getD k vwD) := by simp [List.getD, hk]
  exact ⟨b, off, e, hb, by simpa using hc k _ hg 0 _ rfl, hc k _ hg 1 _ rfl⟩
theorem SlAt.vw' {w : World} {b off : Nat} {vs : List Vw} (h : SlAt w 2 encV (some ⟨b, off, none⟩) vs) {k : Nat} (hk : k < vs.length) :
    w.cell? ⟨b, off + k * 2, none⟩ = some (.string (tx (vs.getD k vwD).1)) ∧ w.cell? ⟨b, off + k * 2 + 1, none⟩ = some (.slice (vs.getD k vwD).2.1 (vs.getD k vwD).2.2.2.length (vs.getD k vwD).2.2.1) := by
  obtain ⟨b', off', e, _, h0, h1⟩ := h.vw hk
  injection e with e
  injection e with e1 e2
  subst e1 e2
  exact ⟨h0, h1⟩
/-- what the views tell -/
def voOf (vs : List Vw) : List (List UInt8 × List (List UInt8)) := vs.map fun v => (v.1, v.2.2.2)
theorem voOf_len (vs : List Vw) : (voOf vs).length = vs.length := by simp [voOf]
theorem voOf_at {vs : List Vw} {k : Nat} (hk : k < vs.length) : (voOf vs).getD k ([], []) = ((vs.getD k vwD).1, (vs.getD k vwD).2.2.2) := by simp [voOf, List.getD, hk]
theorem voOf_at' {vs vs' : List Vw} (h : voOf vs = voOf vs') {k : Nat} (hk : k < vs.length) : (vs'.getD k vwD).1 = (vs.getD k vwD).1 ∧ (vs'.getD k vwD).2.2.2 = (vs.getD k vwD).2.2.2 := by
  have hl : vs.length = vs'.length := by rw [← voOf_len vs, h, voOf_len]
  have h1 := voOf_at hk
  rw [h, voOf_at (by omega)] at h1
  injection h1 with a b
  exact ⟨a, b⟩
theorem getD_small {α : Type} {L : List (List α)} {m : Nat} (h : ∀ i, i < L.length → (L.getD i []).length ≤ m) : ∀ i, (L.getD i []).length ≤ m := fun i => by
  rcases Nat.lt_or_ge i L.length with hi | hi
  · exact h i hi
  · rw [List.getD_eq_getElem?_getD, List.getElem?_eq_none hi]; simp
/-- what is known of a size that was reckoned over texts -/
def SzS (L : List (List UInt8)) (z : Int) : Prop := z ≤ 1048576 ∧ (z = -1 ∨ (0 ≤ z ∧ L.length ≤ 1048576 ∧ ∀ i, (L.getD i []).length ≤ 1048576))
set_option maxHeartbeats 3200000 in
theorem l_szStringS (A : Option Addr) (n c : Nat) (L : List (List UInt8)) (left : Int) (w : World) (h : SlAt w 1 encS A L) (hn : n = L.length) (hb : n ≤ 9223372036854775807) (hs : ∀ i, i < L.length → (L.getD i []).length ≤ 9223372036854775807) (h0 : 0 ≤ left) (h1 : left ≤ 1048576) :
    Calls Tryz.prog 62 #[.slice A n c, .int .i64 left] w fun e w' => (∃ z : Int, e = .returned (.int .i64 z) ∧ SzS L z) ∧ w = w' := by
  have HN := Lib.hid hn
  have HS := Lib.hid hs
  clear hn hs
  by_cases hc : left - (n : Int) < 0
  · go_enter Tryz.func62, Tryz.ntmps62
    go_wp2
    go_ret
    exact ⟨⟨-1, rfl, by omega, .inl rfl⟩, rfl⟩
  · have hl : n ≤ 1048576 := by omega
    go_enter Tryz.func62, Tryz.ntmps62
    go_wp2
    go_loop [1, 5] (fun l i => ∃ (k : Nat) (z : Int), k ≤ n ∧ i = .int .i64 k ∧ l = .int .i64 z ∧ 0 ≤ z ∧ z ≤ 1048576 ∧ Hid (∀ i, i < k → (L.getD i []).length ≤ 1048576)) (fun _ i => n - (intOf i).toNat)
    case atStart => exact ⟨0, left - n, by omega, rfl, rfl, by omega, by omega, fun j hj => absurd hj (by omega)⟩
    case round =>
      obtain ⟨k, z, hk, rfl, rfl, hz0, hz1, HJ⟩ := hrel
      by_cases hlt : k < n
      · have hkl : k < L.length := by rw [← HN.out]; exact hlt
        obtain ⟨b, off, rfl, hb, hcell⟩ := h.st hkl
        have hm := HS.out k hkl
        have hsz := tx_size (L.getD k [])
        obtain ⟨x, hxe⟩ : ∃ x, x = L.getD k [] := ⟨_, rfl⟩
        rw [← hxe] at hcell hm hsz
        have HX := Lib.hid hxe
        clear hxe
        obtain ⟨s, hse⟩ : ∃ s, s = tx x := ⟨_, rfl⟩
        rw [← hse] at hcell hsz
        clear hse
        by_cases hz : z - (x.length : Int) < 0
        · go_wp2
          go_ret
          exact ⟨⟨-1, rfl, by omega, .inl rfl⟩, rfl⟩
        · have HJ2 := Lib.hid (upTo_succ HJ.out (show (L.getD k []).length ≤ 1048576 by rw [← HX.out]; omega))
          go_wp2
          go_round
          case rel => exact ⟨k + 1, z - (x.length : Int), by omega, by go_num, rfl, by omega, by omega, HJ2⟩
          case measure => simp [intOf]; omega
      · obtain rfl : k = n := by omega
        go_wp2
        go_ret
        exact ⟨⟨z, rfl, by omega, .inr ⟨hz0, by rw [← HN.out]; exact hl, getD_small (by rw [← HN.out]; exact HJ.out)⟩⟩, rfl⟩
/-- what is known of a size that was reckoned over a view -/
def SzV (v : Vw) (z : Int) : Prop := z ≤ 1048576 ∧ (z = -1 ∨ (0 ≤ z ∧ GoodV v))
/-- no text of an argument is longer than a length can tell -/
def CanV (v : Vw) : Prop := v.1.length ≤ 9223372036854775807 ∧ v.2.2.2.length ≤ 9223372036854775807 ∧ ∀ i, i < v.2.2.2.length → (v.2.2.2.getD i []).length ≤ 9223372036854775807
set_option maxHeartbeats 3200000 in
theorem l_szView (v : Vw) (left : Int) (w : World) (h : SlAt w 1 encS v.2.1 v.2.2.2) (hc : CanV v) (h0 : 0 ≤ left) (h1 : left ≤ 1048576) :
    Calls Tryz.prog 28 #[.agg #[.string (tx v.1), .slice v.2.1 v.2.2.2.length v.2.2.1], .int .i64 left] w fun e w' => (∃ z : Int, e = .returned (.int .i64 z) ∧ SzV v z) ∧ Ext w w' := by
  obtain ⟨c1, c2, c3⟩ := hc
  have hsz := tx_size v.1
  obtain ⟨s, hse⟩ : ∃ s, s = tx v.1 := ⟨_, rfl⟩
  rw [← hse] at hsz ⊢
  have HC3 := Lib.hid c3
  clear hse c3
  by_cases hz : left - (v.1.length : Int) < 0
  · go_enter Tryz.func28, Tryz.ntmps28
    go_wp2
    go_ret
    exact ⟨⟨-1, rfl, by omega, .inl rfl⟩, by (repeat (first | with_reducible exact Ext.refl _ | with_reducible assumption | ((with_reducible apply Src.ext); with_reducible assumption) | with_reducible refine Ext.alloc ?_ _ | with_reducible refine Ext.drew ?_ | with_reducible refine Ext.drewN ?_ _ | ((with_reducible refine Ext.setCell' ?_ ?_ _); solve | omega | simp | (simp; omega)) | (with_reducible refine Ext.trans ?_ (by with_reducible assumption))))⟩
  · have HC := Lib.hid (fun W hx => l_szStringS v.2.1 v.2.2.2.length v.2.2.1 v.2.2.2 (left - (v.1.length : Int)) W (h.ext hx) rfl c2 HC3.out (by omega) (by omega))
    have hlen : v.1.length ≤ 1048576 := by omega
    clear h
    go_enter Tryz.func28, Tryz.ntmps28
    go_wp2_with fail
    refine (HC.out _ (by (repeat (first | with_reducible exact Ext.refl _ | with_reducible assumption | ((with_reducible apply Src.ext); with_reducible assumption) | with_reducible refine Ext.alloc ?_ _ | with_reducible refine Ext.drew ?_ | with_reducible refine Ext.drewN ?_ _ | ((with_reducible refine Ext.setCell' ?_ ?_ _); solve | omega | simp | (simp; omega)) | (with_reducible refine Ext.trans ?_ (by with_reducible assumption)))))).mono ?_
    rintro e w' ⟨⟨z, rfl, hz1, hzz⟩, rfl⟩
    rcases hzz with rfl | ⟨hz0, hl, hL⟩
    · go_wp2
      go_ret
      exact ⟨⟨-1, rfl, by omega, .inl rfl⟩, by (repeat (first | with_reducible exact Ext.refl _ | with_reducible assumption | ((with_reducible apply Src.ext); with_reducible assumption) | with_reducible refine Ext.alloc ?_ _ | with_reducible refine Ext.drew ?_ | with_reducible refine Ext.drewN ?_ _ | ((with_reducible refine Ext.setCell' ?_ ?_ _); solve | omega | simp | (simp; omega)) | (with_reducible refine Ext.trans ?_ (by with_reducible assumption))))⟩
    · have HL := Lib.hid hL
      clear hL
      go_wp2
      go_ret
      exact ⟨⟨z, rfl, hz1, .inr ⟨hz0, hlen, hl, HL.out⟩⟩, by (repeat (first | with_reducible exact Ext.refl _ | with_reducible assumption | ((with_reducible apply Src.ext); with_reducible assumption) | with_reducible refine Ext.alloc ?_ _ | with_reducible refine Ext.drew ?_ | with_reducible refine Ext.drewN ?_ _ | ((with_reducible refine Ext.setCell' ?_ ?_ _); solve | omega | simp | (simp; omega)) | (with_reducible refine Ext.trans ?_ (by with_reducible assumption))))⟩
/-- what is known of a size that was reckoned over a list of views -/
def SzVs (vs : List Vw) (z : Int) : Prop := z ≤ 1048576 ∧ (z = -1 ∨ (0 ≤ z ∧ vs.length ≤ 1048576 ∧ ∀ i, i < vs.length → GoodV (vs.getD i vwD)))
set_option maxHeartbeats 3200000 in
theorem l_szViewS (A : Option Addr) (c : Nat) (vs : List Vw) (left : Int) (w : World) (h : SlAt w 2 encV A vs) (hn : vs.length ≤ 9223372036854775807) (hr : ∀ i, i < vs.length → SlAt w 1 encS (vs.getD i vwD).2.1 (vs.getD i vwD).2.2.2 ∧ CanV (vs.getD i vwD)) (h0 : 0 ≤ left) (h1 : left ≤ 1048576) :
    Calls Tryz.prog 6 #[.slice A vs.length c, .int .i64 left] w fun e w' => (∃ z : Int, e = .returned (.int .i64 z) ∧ SzVs vs z) ∧ Ext w w' := by
  have HR := Lib.hid hr
  clear hr
  by_cases hc : left - (vs.length : Int) < 0
  · go_enter Tryz.func6, Tryz.ntmps6
    go_wp2
    go_ret
    exact ⟨⟨-1, rfl, by omega, .inl rfl⟩, by (repeat (first | with_reducible exact Ext.refl _ | with_reducible assumption | ((with_reducible apply Src.ext); with_reducible assumption) | with_reducible refine Ext.alloc ?_ _ | with_reducible refine Ext.drew ?_ | with_reducible refine Ext.drewN ?_ _ | ((with_reducible refine Ext.setCell' ?_ ?_ _); solve | omega | simp | (simp; omega)) | (with_reducible refine Ext.trans ?_ (by with_reducible assumption))))⟩
  · have hl : vs.length ≤ 1048576 := by omega
    go_enter Tryz.func6, Tryz.ntmps6
    go_wp2
    go_loopw [1, 5] (fun l i wr => ∃ (k : Nat) (z : Int), k ≤ vs.length ∧ i = .int .i64 k ∧ l = .int .i64 z ∧ 0 ≤ z ∧ z ≤ 1048576 ∧ Hid (∀ i, i < k → GoodV (vs.getD i vwD)) ∧ Ext w wr) (fun _ i _ => vs.length - (intOf i).toNat)
    case atStart => exact ⟨0, left - vs.length, by omega, rfl, rfl, by omega, by omega, fun j hj => absurd hj (by omega), by (repeat (first | with_reducible exact Ext.refl _ | with_reducible assumption | ((with_reducible apply Src.ext); with_reducible assumption) | with_reducible refine Ext.alloc ?_ _ | with_reducible refine Ext.drew ?_ | with_reducible refine Ext.drewN ?_ _ | ((with_reducible refine Ext.setCell' ?_ ?_ _); solve | omega | simp | (simp; omega)) | (with_reducible refine Ext.trans ?_ (by with_reducible assumption))))⟩
    case round =>
      obtain ⟨k, z, hk, rfl, rfl, hz0, hz1, HJ, hxr⟩ := hrel
      by_cases hlt : k < vs.length
      · obtain ⟨b, off, rfl, hb, d0, d1⟩ := (h.ext hxr).vw hlt
        have hm := HR.out k hlt
        obtain ⟨v, hve⟩ : ∃ v, v = vs.getD k vwD := ⟨_, rfl⟩
        rw [← hve] at d0 d1 hm
        have HV := Lib.hid hve
        have HC := Lib.hid (l_szView v z wr (hm.1.ext hxr) hm.2 hz0 hz1)
        clear hve hm
        go_wp2_with fail
        refine HC.out.mono ?_
        rintro e w' ⟨⟨z', rfl, hz2, hzz⟩, hx'⟩
        rcases hzz with rfl | ⟨hz3, hg⟩
        · go_wp2
          go_ret
          exact ⟨⟨-1, rfl, by omega, .inl rfl⟩, by (repeat (first | with_reducible exact Ext.refl _ | with_reducible assumption | ((with_reducible apply Src.ext); with_reducible assumption) | with_reducible refine Ext.alloc ?_ _ | with_reducible refine Ext.drew ?_ | with_reducible refine Ext.drewN ?_ _ | ((with_reducible refine Ext.setCell' ?_ ?_ _); solve | omega | simp | (simp; omega)) | (with_reducible refine Ext.trans ?_ (by with_reducible assumption))))⟩
        · have HJ2 := Lib.hid (upTo_succ HJ.out (show GoodV (vs.getD k vwD) by rw [← HV.out]; exact hg))
          clear hg
          go_wp2
          go_roundw
          case rel => exact ⟨k + 1, z', by omega, by go_num, rfl, by omega, by omega, HJ2, by (repeat (first | with_reducible exact Ext.refl _ | with_reducible assumption | ((with_reducible apply Src.ext); with_reducible assumption) | with_reducible refine Ext.alloc ?_ _ | with_reducible refine Ext.drew ?_ | with_reducible refine Ext.drewN ?_ _ | ((with_reducible refine Ext.setCell' ?_ ?_ _); solve | omega | simp | (simp; omega)) | (with_reducible refine Ext.trans ?_ (by with_reducible assumption))))⟩
          case measure => simp [intOf]; omega
      · obtain rfl : k = vs.length := by omega
        go_wp2
        go_ret
        exact ⟨⟨z, rfl, by omega, .inr ⟨hz0, hl, HJ.out⟩⟩, by (repeat (first | with_reducible exact Ext.refl _ | with_reducible assumption | ((with_reducible apply Src.ext); with_reducible assumption) | with_reducible refine Ext.alloc ?_ _ | with_reducible refine Ext.drew ?_ | with_reducible refine Ext.drewN ?_ _ | ((with_reducible refine Ext.setCell' ?_ ?_ _); solve | omega | simp | (simp; omega)) | (with_reducible refine Ext.trans ?_ (by with_reducible assumption))))⟩
theorem Filled.step1 {α : Type} {enc : α → List Value} {xs : List α} {k : Nat} {cs : Array Value} {x : α} {u : Value} (hk : ∀ x, (enc x).length = 1) (h : Filled 1 enc xs k cs) (hx : xs[k]? = some x) (he : enc x = [u]) :
    Filled 1 enc xs (k + 1) (cs.setIfInBounds k u) := by
  have hl : k < xs.length := (List.getElem?_eq_some_iff.1 hx).1
  refine ⟨by simpa using h.1, fun j hj => ?_⟩
  have h0 := flatMap_at hk xs k x 0 u hx (by simp [he])
  rw [Nat.mul_one, Nat.add_zero] at h0
  have hs := h.1
  by_cases e1 : j = k
  · subst e1; rw [Array.getElem?_setIfInBounds_self_of_lt (by omega), h0]
  · rw [Array.getElem?_setIfInBounds_ne (by omega)]
    exact h.2 j (by omega)
set_option maxHeartbeats 3200000 in
theorem l_toStringS (A : Option Addr) (n c : Nat) (L : List (List UInt8)) (w : World) (h : SlAt w 1 encS A L) (hn : n = L.length) (hl : n ≤ 1048576) :
    Calls Tryz.prog 69 #[.slice A n c] w fun e w' => ∃ cs, e = .returned (.slice (some ⟨w.heap.size, 0, none⟩) n n) ∧ Blk w' w.heap.size 9 cs ∧ cs.toList = L.flatMap encS ∧ Ext w w' := by
  subst hn
  obtain ⟨hu, ⟨i0, z0, hi, hz, hz1, hz2, hz3⟩, _⟩ := elS
  have hzz : i0.zero = some (.string .empty) := by
    have : (Tryz.prog.info? 9).map (fun i => i.zero) = some (some (.string .empty)) := by kernel_rfl
    rw [hi] at this
    injection this
  have hmk : ∀ u : World, (Instr.makeSlice 28 (.int .i64 (L.length : Int)) (.int .i64 (L.length : Int))).run Tryz.prog u =
      .ok (.slice (some ⟨u.heap.size, 0, none⟩) L.length L.length) (u.alloc (.cells (madeCells #[.string .empty] (L.length * 1)) 9)) := fun u => by
    have h := run_make (P := Tryz.prog) u 28 9 i0 (.string .empty) hu hi hzz .i64 .i64 (L.length : Int) (L.length : Int) (by omega) (Int.le_refl _) (by rw [hz2]; omega) (by omega)
    simpa [hz1, Value.cells] using h
  clear hz hz3
  go_enter Tryz.func69, Tryz.ntmps69
  go_wp2
  go_loopw [4] (fun i wr => ∃ (k : Nat) (cs : Array Value), k ≤ L.length ∧ i = .int .i64 k ∧ Blk wr w.heap.size 9 cs ∧ Hid (Filled 1 encS L k cs) ∧ Ext w wr) (fun i _ => L.length - (intOf i).toNat)
  case atStart => exact ⟨0, _, Nat.zero_le _, rfl, Blk.new rfl, Lib.hid (Filled.start (by simp [madeCells])), by (repeat (first | with_reducible exact Ext.refl _ | with_reducible assumption | ((with_reducible apply Src.ext); with_reducible assumption) | with_reducible refine Ext.alloc ?_ _ | with_reducible refine Ext.drew ?_ | with_reducible refine Ext.drewN ?_ _ | ((with_reducible refine Ext.setCell' ?_ ?_ _); solve | omega | simp | (simp; omega)) | (with_reducible refine Ext.trans ?_ (by with_reducible assumption))))⟩
  case round =>
    obtain ⟨k, cs, hk, rfl, hB, HF, hx⟩ := hrel
    by_cases hlt : k < L.length
    · obtain ⟨b, off, rfl, hb, d0⟩ := (h.ext hx).st hlt
      obtain ⟨u0, hu0⟩ := HF.out.at_ (j := k) (by omega)
      have c0 := (hB.cell k).trans hu0
      have f0 := hB.frozen k
      have hBl := hB.lt
      have HX : Hid (Filled 1 encS L (k + 1) (cs.setIfInBounds k (.string (tx (L.getD k []))))) := Lib.hid (HF.out.step1 len_encS (List.getElem?_eq_getElem hlt) (by simp [encS, List.getD, hlt]))
      generalize tx (L.getD k []) = s at *
      clear hu0
      go_wp2
      go_roundw
      case rel => exact ⟨k + 1, _, by omega, by go_num, hB.set_ _ _, HX, by (repeat (first | with_reducible exact Ext.refl _ | with_reducible assumption | ((with_reducible apply Src.ext); with_reducible assumption) | with_reducible refine Ext.alloc ?_ _ | with_reducible refine Ext.drew ?_ | with_reducible refine Ext.drewN ?_ _ | ((with_reducible refine Ext.setCell' ?_ ?_ _); solve | omega | simp | (simp; omega)) | (with_reducible refine Ext.trans ?_ (by with_reducible assumption))))⟩
      case measure => simp [intOf]; omega
    · go_wp2
      go_ret
      obtain rfl : k = L.length := by omega
      exact ⟨cs, rfl, hB, HF.out.done len_encS, hx⟩
set_option maxHeartbeats 1600000 in
theorem l_eqS (A A' : Option Addr) (n c c' : Nat) (L : List (List UInt8)) (w : World) (h : SlAt w 1 encS A L) (h' : SlAt w 1 encS A' L) (hn : n = L.length) (hl : n ≤ 1048576) :
    Calls Tryz.prog 12 #[.slice A n c, .slice A' n c'] w fun e w' => e = .returned (.bool true) ∧ Ext w w' := by
  have hn1 : (((n : Nat) : Int) != (n : Int)) = false := by simp
  have HN := Lib.hid hn
  clear hn
  go_enter Tryz.func12, Tryz.ntmps12
  go_wp2
  go_loopw [5] (fun i wr => ∃ k : Nat, k ≤ n ∧ i = .int .i64 k ∧ Ext w wr) (fun i _ => n - (intOf i).toNat)
  case atStart => exact ⟨0, Nat.zero_le _, rfl, by (repeat (first | with_reducible exact Ext.refl _ | with_reducible assumption | ((with_reducible apply Src.ext); with_reducible assumption) | with_reducible refine Ext.alloc ?_ _ | with_reducible refine Ext.drew ?_ | with_reducible refine Ext.drewN ?_ _ | ((with_reducible refine Ext.setCell' ?_ ?_ _); solve | omega | simp | (simp; omega)) | (with_reducible refine Ext.trans ?_ (by with_reducible assumption))))⟩
  case round =>
    obtain ⟨k, hk, rfl, hx⟩ := hrel
    by_cases hlt : k < n
    · obtain ⟨b, off, rfl, hb, d0⟩ := (h.ext hx).st (k := k) (by rw [← HN.out]; exact hlt)
      obtain ⟨b', off', rfl, hb', d1⟩ := (h'.ext hx).st (k := k) (by rw [← HN.out]; exact hlt)
      generalize tx (L.getD k []) = x at d0 d1
      have hxx : (x.toList == x.toList) = true := by simp
      go_wp2
      (refine wp_region_ext (by kernel_rfl) (by kernel_rfl) ?_; (repeat (go_big_quiet_step (fail))); refine wpQuiet_nil ?_; intro wq hxwq; obtain ⟨hcwq, hfwq⟩ := hxwq.rules; have hswq := hxwq.size; (try simp at hswq))
      go_wp2
      go_roundw
      case rel => exact ⟨k + 1, by omega, by go_num, by (repeat (first | with_reducible exact Ext.refl _ | with_reducible assumption | ((with_reducible apply Src.ext); with_reducible assumption) | with_reducible refine Ext.alloc ?_ _ | with_reducible refine Ext.drew ?_ | with_reducible refine Ext.drewN ?_ _ | ((with_reducible refine Ext.setCell' ?_ ?_ _); solve | omega | simp | (simp; omega)) | (with_reducible refine Ext.trans ?_ (by with_reducible assumption))))⟩
      case measure => simp [intOf]; omega
    · go_wp2
      go_ret
      exact ⟨rfl, by (repeat (first | with_reducible exact Ext.refl _ | with_reducible assumption | ((with_reducible apply Src.ext); with_reducible assumption) | with_reducible refine Ext.alloc ?_ _ | with_reducible refine Ext.drew ?_ | with_reducible refine Ext.drewN ?_ _ | ((with_reducible refine Ext.setCell' ?_ ?_ _); solve | omega | simp | (simp; omega)) | (with_reducible refine Ext.trans ?_ (by with_reducible assumption))))⟩
set_option maxHeartbeats 1600000 in
theorem l_eqView (v v' : Vw) (w : World) (h : SlAt w 1 encS v.2.1 v.2.2.2) (h' : SlAt w 1 encS v'.2.1 v.2.2.2) (hl : v.2.2.2.length ≤ 1048576) :
    Calls Tryz.prog 40 #[.agg #[.string (tx v.1), .slice v.2.1 v.2.2.2.length v.2.2.1], .agg #[.string (tx v.1), .slice v'.2.1 v.2.2.2.length v'.2.2.1]] w fun e w' => e = .returned (.bool true) ∧ Ext w w' := by
  have HC := Lib.hid (fun W hx => l_eqS v.2.1 v'.2.1 v.2.2.2.length v.2.2.1 v'.2.2.1 v.2.2.2 W (h.ext hx) (h'.ext hx) rfl hl)
  generalize tx v.1 = x at *
  have hxx : (x.toList == x.toList) = true := by simp
  clear h h'
  go_enter Tryz.func40, Tryz.ntmps40
  go_wp2_with fail
  refine (HC.out _ (by (repeat (first | with_reducible exact Ext.refl _ | with_reducible assumption | ((with_reducible apply Src.ext); with_reducible assumption) | with_reducible refine Ext.alloc ?_ _ | with_reducible refine Ext.drew ?_ | with_reducible refine Ext.drewN ?_ _ | ((with_reducible refine Ext.setCell' ?_ ?_ _); solve | omega | simp | (simp; omega)) | (with_reducible refine Ext.trans ?_ (by with_reducible assumption)))))).mono ?_
  rintro e w1 ⟨rfl, hx1⟩
  go_wp2
  go_ret
  exact ⟨rfl, by (repeat (first | with_reducible exact Ext.refl _ | with_reducible assumption | ((with_reducible apply Src.ext); with_reducible assumption) | with_reducible refine Ext.alloc ?_ _ | with_reducible refine Ext.drew ?_ | with_reducible refine Ext.drewN ?_ _ | ((with_reducible refine Ext.setCell' ?_ ?_ _); solve | omega | simp | (simp; omega)) | (with_reducible refine Ext.trans ?_ (by with_reducible assumption))))⟩
set_option maxHeartbeats 3200000 in
theorem l_eqViewS (A A' : Option Addr) (n c c' : Nat) (vs vs' : List Vw) (w : World) (h : SlAt w 2 encV A vs) (h' : SlAt w 2 encV A' vs') (hr : Views w vs) (hr' : Views w vs') (he : voOf vs = voOf vs') (hn : n = vs.length) (hl : n ≤ 1048576) :
    Calls Tryz.prog 14 #[.slice A n c, .slice A' n c'] w fun e w' => e = .returned (.bool true) ∧ Ext w w' := by
  have hn1 : (((n : Nat) : Int) != (n : Int)) = false := by simp
  have hn' : vs.length = vs'.length := by rw [← voOf_len vs, he, voOf_len]
  have HN := Lib.hid hn
  have HN' := Lib.hid hn'
  have HE := Lib.hid he
  clear hn hn' he
  go_enter Tryz.func14, Tryz.ntmps14
  go_wp2
  go_loopw [5] (fun i wr => ∃ k : Nat, k ≤ n ∧ i = .int .i64 k ∧ Ext w wr) (fun i _ => n - (intOf i).toNat)
  case atStart => exact ⟨0, Nat.zero_le _, rfl, by (repeat (first | with_reducible exact Ext.refl _ | with_reducible assumption | ((with_reducible apply Src.ext); with_reducible assumption) | with_reducible refine Ext.alloc ?_ _ | with_reducible refine Ext.drew ?_ | with_reducible refine Ext.drewN ?_ _ | ((with_reducible refine Ext.setCell' ?_ ?_ _); solve | omega | simp | (simp; omega)) | (with_reducible refine Ext.trans ?_ (by with_reducible assumption))))⟩
  case round =>
    obtain ⟨k, hk, rfl, hx⟩ := hrel
    by_cases hlt : k < n
    · have hk1 : k < vs.length := by rw [← HN.out]; exact hlt
      have hk2 : k < vs'.length := by rw [← HN'.out]; exact hk1
      obtain ⟨b, off, rfl, hb, d0, d1⟩ := (h.ext hx).vw hk1
      obtain ⟨b', off', rfl, hb', e0, e1⟩ := (h'.ext hx).vw hk2
      obtain ⟨hp, hq⟩ := voOf_at' HE.out hk1
      have h1 := (hr.ext hx) _ (vw_mem hk1)
      have h2 := (hr'.ext hx) _ (vw_mem hk2)
      obtain ⟨v, hve⟩ : ∃ r, r = vs.getD k vwD := ⟨_, rfl⟩
      obtain ⟨v', hve'⟩ : ∃ r, r = vs'.getD k vwD := ⟨_, rfl⟩
      rw [← hve] at d0 d1 hp hq h1
      rw [← hve'] at e0 e1 hp hq h2
      rw [hp] at e0
      rw [hq] at e1 h2
      have HC := Lib.hid (fun W hx => l_eqView v v' W (h1.1.ext hx) (h2.1.ext hx) h1.2.2.2.1)
      clear hve hve' hp hq hk1 hk2 h1 h2
      go_wp2
      (refine wp_region_ext (by kernel_rfl) (by kernel_rfl) ?_; (repeat (go_big_quiet_step ((go_at_call 40; exact Calls_ext (HC.out _ (ExtOf.ext _)))))); refine wpQuiet_nil ?_; intro wq hxwq; obtain ⟨hcwq, hfwq⟩ := hxwq.rules; have hswq := hxwq.size; (try simp at hswq))
      go_wp2
      go_roundw
      case rel => exact ⟨k + 1, by omega, by go_num, by (repeat (first | with_reducible exact Ext.refl _ | with_reducible assumption | ((with_reducible apply Src.ext); with_reducible assumption) | with_reducible refine Ext.alloc ?_ _ | with_reducible refine Ext.drew ?_ | with_reducible refine Ext.drewN ?_ _ | ((with_reducible refine Ext.setCell' ?_ ?_ _); solve | omega | simp | (simp; omega)) | (with_reducible refine Ext.trans ?_ (by with_reducible assumption))))⟩
      case measure => simp [intOf]; omega
    · go_wp2
      go_ret
      exact ⟨rfl, by (repeat (first | with_reducible exact Ext.refl _ | with_reducible assumption | ((with_reducible apply Src.ext); with_reducible assumption) | with_reducible refine Ext.alloc ?_ _ | with_reducible refine Ext.drew ?_ | with_reducible refine Ext.drewN ?_ _ | ((with_reducible refine Ext.setCell' ?_ ?_ _); solve | omega | simp | (simp; omega)) | (with_reducible refine Ext.trans ?_ (by with_reducible assumption))))⟩

end Go.Proofs.YtabdffponmmhoaaGreatDoor
namespace Go.Proofs.YtabdffponmmhoaaGreatDoor
open Go.RowKit
attribute [local go_sem] ExtOf.cell ExtOf.frozen

set_option maxHeartbeats 1600000 in
theorem l_toView (h : ByteArray) (A : Option Addr) (n c : Nat) (L : List (List UInt8)) (w : World) (hS : SlAt w 1 encS A L) (hn : n = L.length) (hl : n ≤ 1048576) :
    Calls Tryz.prog 33 #[.agg #[.string h, .slice A n c]] w
      fun e w' => ∃ g cs, e = .returned (.agg #[.string h, .slice (some ⟨g, 0, none⟩) n n]) ∧ w.heap.size ≤ g ∧ Blk w' g 9 cs ∧ cs.toList = L.flatMap encS ∧ Ext w w' := by
  have HC := Lib.hid (fun W hx => l_toStringS A n c L W (hS.ext hx) hn hl)
  clear hS hn
  go_enter Tryz.func33, Tryz.ntmps33
  go_wp2_with fail
  refine (HC.out _ (by (repeat (first | with_reducible exact Ext.refl _ | with_reducible assumption | ((with_reducible apply Src.ext); with_reducible assumption) | with_reducible refine Ext.alloc ?_ _ | with_reducible refine Ext.drew ?_ | with_reducible refine Ext.drewN ?_ _ | ((with_reducible refine Ext.setCell' ?_ ?_ _); solve | omega | simp | (simp; omega)) | (with_reducible refine Ext.trans ?_ (by with_reducible assumption)))))).mono ?_
  rintro e w1 ⟨cs, rfl, hB, hcs, hx1⟩
  (try simp at hB)
  have HCS := Lib.hid hcs
  obtain ⟨hc1, hf1⟩ := hx1.rules
  have hs1 := hx1.size
  (try simp at hs1)
  have := (show w.heap.size < w1.heap.size from by omega)
  have := (show w.heap.size + 1 < w1.heap.size from by omega)
  have := (show w.heap.size + 1 + 1 < w1.heap.size from by omega)
  clear hcs
  go_wp2
  refine ret_pts1 (b0 := w.heap.size + 1) (t := 64) (v := .agg #[.string h, .slice (some ⟨w.heap.size + 1 + 1 + 1, 0, none⟩) n n]) (Blk.eq (by (repeat (first | with_reducible assumption | ((with_reducible apply Blk.new); solve | simp | rfl) | with_reducible apply Blk.drew | with_reducible apply Blk.drewN | ((with_reducible apply Blk.far'); solve | omega | simp | (simp; omega)) | with_reducible apply Blk.set_ | with_reducible apply Blk.alloc | ((with_reducible apply Blk.ext'); with_reducible assumption) | ((with_reducible apply Blk.but'); (with_reducible assumption); solve | omega | (simp; omega))))) (by rfl)) rfl (by intro W' r0 r1; simp [results, Tryz.results33, go_sem, r0, r1]) ⟨w.heap.size + 1 + 1 + 1, cs, rfl, by omega, ?_, HCS.out, ?_⟩
  · (repeat (first | with_reducible assumption | ((with_reducible apply Blk.new); solve | simp | rfl) | with_reducible apply Blk.drew | with_reducible apply Blk.drewN | ((with_reducible apply Blk.far'); solve | omega | simp | (simp; omega)) | with_reducible apply Blk.set_ | with_reducible apply Blk.alloc | ((with_reducible apply Blk.ext'); with_reducible assumption) | ((with_reducible apply Blk.but'); (with_reducible assumption); solve | omega | (simp; omega))))
  · (repeat (first | with_reducible exact Ext.refl _ | with_reducible assumption | ((with_reducible apply Src.ext); with_reducible assumption) | with_reducible refine Ext.alloc ?_ _ | with_reducible refine Ext.drew ?_ | with_reducible refine Ext.drewN ?_ _ | ((with_reducible refine Ext.setCell' ?_ ?_ _); solve | omega | simp | (simp; omega)) | (with_reducible refine Ext.trans ?_ (by with_reducible assumption))))
/-- views whose owners lie in blocks of the call's own, one behind the other -/
def blkV (v : Vw) : Nat := match v.2.1 with
  | some q => q.block
  | none => 0
def VwOwn (w : World) (base : Nat) (vs : List Vw) : Prop := ∀ k, k < vs.length → ∃ g cs, vs.getD k vwD = ((vs.getD k vwD).1, some ⟨g, 0, none⟩, (vs.getD k vwD).2.2.2.length, (vs.getD k vwD).2.2.2) ∧ base < g ∧ Blk w g 9 cs ∧
  cs.toList = (vs.getD k vwD).2.2.2.flatMap encS ∧ (∀ j, j < k → blkV (vs.getD j vwD) < g) ∧ GoodV (vs.getD k vwD)
theorem VwOwn.mono {w w' : World} {base : Nat} {vs : List Vw} (h : VwOwn w base vs) (hb : ∀ g t cs, base < g → Blk w g t cs → Blk w' g t cs) : VwOwn w' base vs := fun k hk => by
  obtain ⟨g, cs, a, b, c, d⟩ := h k hk
  exact ⟨g, cs, a, b, hb g _ cs b c, d⟩
theorem VwOwn.ext {w w' : World} {base : Nat} {vs : List Vw} (h : VwOwn w base vs) (hx : Ext w w') : VwOwn w' base vs := h.mono fun _ _ _ _ hB => hB.ext hx
theorem VwOwn.snoc {w : World} {base g : Nat} {cs : Array Value} {vs : List Vw} {x : List UInt8} {L : List (List UInt8)} (h : VwOwn w base vs) (hg : base < g) (hB : Blk w g 9 cs) (hcs : cs.toList = L.flatMap encS) (hlt : ∀ j, j < vs.length → blkV (vs.getD j vwD) < g)
    (hG : GoodV (x, some ⟨g, 0, none⟩, L.length, L)) : VwOwn w base (vs ++ [(x, some ⟨g, 0, none⟩, L.length, L)]) := fun k hk => by
  rw [List.length_append, List.length_singleton] at hk
  rw [getD_snoc hk]
  split
  · rename_i hkl
    obtain ⟨g', cs', a, b, c, d, e, f⟩ := h k hkl
    exact ⟨g', cs', a, b, c, d, fun j hj => by rw [getD_snoc (by omega), if_pos (by omega)]; exact e j hj, f⟩
  · obtain rfl : k = vs.length := by omega
    exact ⟨g, cs, rfl, hg, hB, hcs, fun j hj => by rw [getD_snoc (by omega), if_pos hj]; exact hlt j hj, hG⟩
theorem VwOwn.views {w : World} {base : Nat} {vs : List Vw} (h : VwOwn w base vs) : Views w vs := fun v hv => by
  obtain ⟨k, hk, rfl⟩ := List.mem_iff_getElem.1 hv
  obtain ⟨g, cs, a, b, c, d, e, f⟩ := h k hk
  have hge : vs.getD k vwD = vs[k] := by simp [List.getD, hk]
  rw [hge] at a d f
  refine ⟨?_, ?_, f⟩
  · rw [a]; exact c.sl d len_encS
  · rw [a]; exact Nat.le_refl _
theorem VwOwn.blk_lt {w : World} {base : Nat} {vs : List Vw} (h : VwOwn w base vs) {k : Nat} (hk : k < vs.length) : blkV (vs.getD k vwD) < w.heap.size ∧ base < blkV (vs.getD k vwD) := by
  obtain ⟨g, cs, a, b, c, _⟩ := h k hk
  rw [a]
  exact ⟨c.lt, b⟩
/-- the first k elements of a row of views have been written -/
def FillV (n : Nat) (vs : List Vw) (cs : Array Value) : Prop := cs.size = n * 2 ∧ ∀ q, q < vs.length → cs[q * 2]? = some (.string (tx (vs.getD q vwD).1)) ∧ cs[q * 2 + 1]? = some (.slice (vs.getD q vwD).2.1 (vs.getD q vwD).2.2.2.length (vs.getD q vwD).2.2.1)
theorem FillV.step {n : Nat} {vs : List Vw} {cs : Array Value} {v : Vw} (h : FillV n vs cs) (hl : vs.length < n) :
    FillV n (vs ++ [v]) ((cs.setIfInBounds (vs.length * 2) (.string (tx v.1))).setIfInBounds (vs.length * 2 + 1) (.slice v.2.1 v.2.2.2.length v.2.2.1)) := by
  have hs := h.1
  refine ⟨by simpa using h.1, fun q hq => ?_⟩
  rw [List.length_append, List.length_singleton] at hq
  rw [getD_snoc hq]
  split
  · rename_i hql
    rw [Array.getElem?_setIfInBounds_ne (by omega), Array.getElem?_setIfInBounds_ne (by omega), Array.getElem?_setIfInBounds_ne (by omega), Array.getElem?_setIfInBounds_ne (by omega)]
    exact h.2 q hql
  · obtain rfl : q = vs.length := by omega
    rw [Array.getElem?_setIfInBounds_ne (by omega), Array.getElem?_setIfInBounds_self_of_lt (by omega), Array.getElem?_setIfInBounds_self_of_lt (by simp; omega)]
    exact ⟨rfl, rfl⟩
theorem FillV.done {vs : List Vw} {cs : Array Value} (h : FillV vs.length vs cs) : cs.toList = vs.flatMap encV := by
  apply List.ext_getElem?
  intro i
  rcases Nat.lt_or_ge i (vs.length * 2) with hi | hi
  · have hq : i / 2 < vs.length := by omega
    have hg : vs[i / 2]? = some (vs.getD (i / 2) vwD) := by simp [List.getD, hq]
    rcases Nat.mod_two_eq_zero_or_one i with hm | hm
    · have hi2 : i = i / 2 * 2 := by omega
      have := flatMap_at (enc := encV) (sz := 2) len_encV vs (i / 2) _ 0 _ hg rfl
      rw [Nat.add_zero, ← hi2] at this
      rw [this, Array.getElem?_toList]
      have h0 := (h.2 (i / 2) hq).1
      rw [← hi2] at h0
      exact h0
    · have hi2 : i = i / 2 * 2 + 1 := by omega
      have := flatMap_at (enc := encV) (sz := 2) len_encV vs (i / 2) _ 1 _ hg rfl
      rw [← hi2] at this
      rw [this, Array.getElem?_toList]
      have h0 := (h.2 (i / 2) hq).2
      rw [← hi2] at h0
      exact h0
  · rw [List.getElem?_eq_none (by rw [Array.length_toList, h.1]; exact hi), List.getElem?_eq_none (by rw [flatMap_len len_encV]; exact hi)]
theorem elV : ElT Tryz.prog 33 64 2 40 := ElT.mk' (z := .agg #[.string .empty, .slice none 0 0]) Tryz.underlying33 (by kernel_rfl) rfl (by omega)
set_option maxHeartbeats 6400000 in
theorem l_toViewS (A : Option Addr) (c : Nat) (vs : List Vw) (w : World) (h : SlAt w 2 encV A vs) (hr : ∀ i, i < vs.length → SlAt w 1 encS (vs.getD i vwD).2.1 (vs.getD i vwD).2.2.2) (hl : vs.length ≤ 1048576) (hs : ∀ i, i < vs.length → GoodV (vs.getD i vwD)) :
    Calls Tryz.prog 9 #[.slice A vs.length c] w fun e w' => ∃ (vs' : List Vw) (cs : Array Value), e = .returned (.slice (some ⟨w.heap.size, 0, none⟩) vs.length vs.length) ∧ vs'.length = vs.length ∧ voOf vs' = voOf vs ∧ Blk w' w.heap.size 64 cs ∧ cs.toList = vs'.flatMap encV ∧ VwOwn w' w.heap.size vs' ∧ Ext w w' := by
  obtain ⟨hu, ⟨i0, z0, hi, hz, hz1, hz2, hz3⟩, _⟩ := elV
  have hzz : i0.zero = some (.agg #[.string .empty, .slice none 0 0]) := by
    have : (Tryz.prog.info? 64).map (fun i => i.zero) = some (some (.agg #[.string .empty, .slice none 0 0])) := by kernel_rfl
    rw [hi] at this
    injection this
  have hmk : ∀ u : World, (Instr.makeSlice 33 (.int .i64 (vs.length : Int)) (.int .i64 (vs.length : Int))).run Tryz.prog u =
      .ok (.slice (some ⟨u.heap.size, 0, none⟩) vs.length vs.length) (u.alloc (.cells (madeCells #[.string .empty, .slice none 0 0] (vs.length * 2)) 64)) := fun u => by
    have h := run_make (P := Tryz.prog) u 33 64 i0 (.agg #[.string .empty, .slice none 0 0]) hu hi hzz .i64 .i64 (vs.length : Int) (vs.length : Int) (by omega) (Int.le_refl _) (by rw [hz2]; omega) (by omega)
    simpa [hz1, Value.cells] using h
  have HR := Lib.hid hr
  have HS := Lib.hid hs
  clear hr hs hz hz3
  go_enter Tryz.func9, Tryz.ntmps9
  go_wp2
  go_loopw [4] (fun i wr => ∃ (k : Nat) (q : List Vw) (cs : Array Value), k ≤ vs.length ∧ i = .int .i64 k ∧ q.length = k ∧ Hid (voOf q = (voOf vs).take k) ∧ Blk wr w.heap.size 64 cs ∧ Hid (FillV vs.length q cs) ∧ Hid (VwOwn wr w.heap.size q) ∧ Ext w wr) (fun i _ => vs.length - (intOf i).toNat)
  case atStart => exact ⟨0, [], _, Nat.zero_le _, rfl, rfl, rfl, Blk.new rfl, ⟨by simp [madeCells], fun q hq => absurd hq (by simp)⟩, fun k hk => absurd hk (by simp), by (repeat (first | with_reducible exact Ext.refl _ | with_reducible assumption | ((with_reducible apply Src.ext); with_reducible assumption) | with_reducible refine Ext.alloc ?_ _ | with_reducible refine Ext.drew ?_ | with_reducible refine Ext.drewN ?_ _ | ((with_reducible refine Ext.setCell' ?_ ?_ _); solve | omega | simp | (simp; omega)) | (with_reducible refine Ext.trans ?_ (by with_reducible assumption))))⟩
  case round =>
    obtain ⟨k, q, cs, hk, rfl, hq, HP, hB, HF, HO, hxr⟩ := hrel
    have HQ := Lib.hid hq
    clear hq
    by_cases hlt : k < vs.length
    · obtain ⟨b, off, rfl, hb, d0, d1⟩ := (h.ext hxr).vw hlt
      have hrk := (HR.out k hlt).ext hxr
      have hsk := HS.out k hlt
      obtain ⟨v, hve⟩ : ∃ v, v = vs.getD k vwD := ⟨_, rfl⟩
      rw [← hve] at d0 d1 hrk hsk
      have HVE := Lib.hid hve
      have HSK := Lib.hid hsk
      have HC := Lib.hid (l_toView (tx v.1) v.2.1 v.2.2.2.length v.2.2.1 v.2.2.2 wr hrk rfl hsk.2.1)
      clear hve hrk hsk
      obtain ⟨u0, hu0⟩ : ∃ u, cs[k * 2]? = some u := ⟨_, Array.getElem?_eq_getElem (by rw [HF.out.1]; omega)⟩
      obtain ⟨u1, hu1⟩ : ∃ u, cs[k * 2 + 1]? = some u := ⟨_, Array.getElem?_eq_getElem (by rw [HF.out.1]; omega)⟩
      have c0 := (hB.cell (k * 2)).trans hu0
      have c1 := (hB.cell (k * 2 + 1)).trans hu1
      have f0 := hB.frozen (k * 2)
      have f1 := hB.frozen (k * 2 + 1)
      have hBl := hB.lt
      clear hu0 hu1
      go_wp2_with fail
      refine HC.out.mono ?_
      rintro e w1 ⟨g1, cs1, rfl, hg1, hB1, hcs1, hx1⟩
      obtain ⟨hc1, hf1⟩ := hx1.rules
      have hs1 := hx1.size
      have hl1 : w.heap.size < w1.heap.size := by omega
      have HCS := Lib.hid hcs1
      clear hcs1
      go_wp2
      go_roundw
      case rel =>
        refine ⟨k + 1, q ++ [(v.1, some ⟨g1, 0, none⟩, v.2.2.2.length, v.2.2.2)], _, by omega, by go_num, by rw [List.length_append, HQ.out]; rfl, ?_, Blk.eq (((hB.ext hx1).set_ _ _).set_ _ _) rfl, ?_, ?_, by (repeat (first | with_reducible exact Ext.refl _ | with_reducible assumption | ((with_reducible apply Src.ext); with_reducible assumption) | with_reducible refine Ext.alloc ?_ _ | with_reducible refine Ext.drew ?_ | with_reducible refine Ext.drewN ?_ _ | ((with_reducible refine Ext.setCell' ?_ ?_ _); solve | omega | simp | (simp; omega)) | (with_reducible refine Ext.trans ?_ (by with_reducible assumption))))⟩
        · have hkp : k < (voOf vs).length := by rw [voOf_len]; exact hlt
          have hpk : (voOf vs)[k] = (v.1, v.2.2.2) := by
            have := voOf_at hlt
            rw [← HVE.out] at this
            rw [← this]; simp [List.getD, hkp]
          refine Lib.hid ?_
          rw [List.take_succ_eq_append_getElem hkp, ← HP.out, hpk]
          simp [voOf]
        · have := HF.out.step (v := (v.1, some ⟨g1, 0, none⟩, v.2.2.2.length, v.2.2.2)) (by rw [HQ.out]; exact hlt)
          rw [HQ.out] at this
          exact Lib.hid this
        · refine Lib.hid (VwOwn.snoc (cs := cs1) ((HO.out.ext hx1).mono fun g t cs hg hB => (hB.far (by show ¬ g = w.heap.size; omega) _).far (by show ¬ g = w.heap.size; omega) _) (by omega) ((hB1.far (by show ¬ g1 = w.heap.size; omega) _).far (by show ¬ g1 = w.heap.size; omega) _) HCS.out
            (fun j hj => Nat.lt_of_lt_of_le (HO.out.blk_lt hj).1 hg1) ⟨HSK.out.1, HSK.out.2.1, HSK.out.2.2⟩)
      case measure => simp [intOf]; omega
    · go_wp2
      go_ret
      obtain rfl : k = vs.length := by omega
      have hf := HF.out
      rw [show vs.length = q.length from HQ.out.symm] at hf
      exact ⟨q, cs, rfl, HQ.out, by rw [HP.out, ← voOf_len vs, List.take_length], hB, hf.done, HO.out, hxr⟩

end Go.Proofs.YtabdffponmmhoaaGreatDoor
namespace Go.Proofs.YtabdffponmmhoaaGreatDoor
open Go.RowKit
attribute [local go_sem] ExtOf.cell ExtOf.frozen

/-- the index of the first element with p, or -1 -/
def fstG {α : Type} (p : α → Bool) (xs : List α) : Int := match xs.findIdx? p with
  | some i => i
  | none => -1
theorem fstG_hit {α : Type} {d : α} {p : α → Bool} {xs : List α} {k : Nat} (hk : k < xs.length) (h : p (xs.getD k d) = true) (hb : ∀ j, j < k → p (xs.getD j d) = false) : (k : Int) = fstG p xs := by
  have : xs.findIdx? p = some k := by
    rw [List.findIdx?_eq_some_iff_getElem]
    refine ⟨hk, by simpa [List.getD, hk] using h, fun j hj => ?_⟩
    have := hb j hj
    have hjl : j < xs.length := by omega
    simpa [List.getD, hjl] using this
  unfold fstG
  rw [this]
theorem fstG_miss {α : Type} {d : α} {p : α → Bool} {xs : List α} (hb : ∀ j, j < xs.length → p (xs.getD j d) = false) : -1 = fstG p xs := by
  have : xs.findIdx? p = none := by
    rw [List.findIdx?_eq_none_iff]
    intro x hx
    obtain ⟨j, hj, rfl⟩ := List.mem_iff_getElem.1 hx
    have := hb j hj
    simpa [List.getD, hj] using this
  unfold fstG
  rw [this]
theorem fstG_any {α : Type} (p : α → Bool) (xs : List α) : decide (0 ≤ fstG p xs) = xs.any p := by
  unfold fstG
  rcases h : xs.findIdx? p with _ | k
  · rw [List.findIdx?_eq_none_iff] at h
    have : xs.any p = false := by
      rw [List.any_eq_false]
      intro x hx
      have := h x hx
      simp [this]
    rw [this]; rfl
  · rw [List.findIdx?_eq_some_iff_getElem] at h
    obtain ⟨hk, hp, _⟩ := h
    have : xs.any p = true := by
      rw [List.any_eq_true]
      exact ⟨xs[k], List.getElem_mem hk, hp⟩
    rw [this]
    simp
theorem mem_getD {α : Type} {d : α} {xs : List α} {k : Nat} (hk : k < xs.length) : xs.getD k d ∈ xs := by simp [List.getD, hk]

/-- an owner: nothing, or a word -/
def ownB (o : List UInt8) : Bool := o.isEmpty || smL o 1 16
/-- a view over n rings -/
def isvB (n : Nat) (v : List UInt8 × List (List UInt8)) : Bool := smL v.1 1 16 && (decide (v.2.length = n) && !(v.2.any fun o => !ownB o))
def voD : List UInt8 × List (List UInt8) := ([], [])
def OkV (n : Nat) (V : List (List UInt8 × List (List UInt8))) (i : Nat) : Prop := isvB n (V.getD i voD) = true ∧ (0 < i → Op.bytesLess (V.getD (i - 1) voD).1 (V.getD i voD).1 = true)
/-- views over n rings -/
def AreV (n : Nat) (V : List (List UInt8 × List (List UInt8))) : Prop := inB V.length 1 4 = true ∧ ∀ i, i < V.length → OkV n V i
open Classical in
noncomputable def areV (n : Nat) (V : List (List UInt8 × List (List UInt8))) : Bool := decide (AreV n V)
theorem areV_no {n : Nat} {V : List (List UInt8 × List (List UInt8))} (h : ¬ AreV n V) : areV n V = false := by simp [areV, h]
theorem areV_yes {n : Nat} {V : List (List UInt8 × List (List UInt8))} (h : AreV n V) : areV n V = true := by simp [areV, h]
theorem areV_iff {n : Nat} {V : List (List UInt8 × List (List UInt8))} : areV n V = true ↔ AreV n V := by simp [areV]
noncomputable def viB (L : List (List (Int × Int))) (V : List (List UInt8 × List (List UInt8))) : Bool := areV L.length V && mapB L
theorem voOf_atD {vs : List Vw} {k : Nat} (hk : k < vs.length) : (voOf vs).getD k voD = ((vs.getD k vwD).1, (vs.getD k vwD).2.2.2) := voOf_at hk
theorem tx_toList (l : List UInt8) : (tx l).toList = l := by rw [ByteArray.toList_eq, tx_list]
theorem GoodV.at_ {v : Vw} (h : GoodV v) (o : List UInt8) (ho : o ∈ v.2.2.2) : o.length ≤ 1048576 := by
  obtain ⟨i, hi, rfl⟩ := List.mem_iff_getElem.1 ho
  have := h.2.2 i
  simpa [List.getD, hi] using this

set_option maxHeartbeats 3200000 in
theorem i_IndexFuncS (p : List UInt8 → Bool) (g : Nat) (lb : Array Value) (eg : ∀ args w, (callFunc g args).run Tryz.prog w = .ok (.enter g args) w) (A : Option Addr) (n c : Nat) (xs : List (List UInt8)) (w : World) (h : SlAt w 1 encS A xs) (hn : n = xs.length) (hl : n ≤ 1048576)
    (hp : ∀ x ∈ xs, ∀ W, Ext w W → Calls Tryz.prog g (#[.string (tx x)] ++ lb) W fun e w' => e = .returned (.bool (p x)) ∧ Ext W w') :
    Calls Tryz.prog 126 #[.slice A n c, .func (.func g) #[] lb] w fun e w' => e = .returned (.int .i64 (fstG p xs)) ∧ Ext w w' := by
  have HP := Lib.hid hp
  have HN := Lib.hid hn
  clear hp hn
  go_enter Tryz.func126, Tryz.ntmps126
  go_wp2
  go_loopw [8] (fun i wr => ∃ k : Nat, k ≤ n ∧ i = .int .i64 k ∧ Hid (∀ j, j < k → p (xs.getD j ([] : List UInt8)) = false) ∧ Ext w wr) (fun i _ => n - (intOf i).toNat)
  case atStart => exact ⟨0, by omega, rfl, fun j hj => absurd hj (by omega), by (repeat (first | with_reducible exact Ext.refl _ | with_reducible assumption | ((with_reducible apply Src.ext); with_reducible assumption) | with_reducible refine Ext.alloc ?_ _ | with_reducible refine Ext.drew ?_ | with_reducible refine Ext.drewN ?_ _ | ((with_reducible refine Ext.setCell' ?_ ?_ _); solve | omega | simp | (simp; omega)) | (with_reducible refine Ext.trans ?_ (by with_reducible assumption))))⟩
  case round =>
    obtain ⟨k, hk, rfl, HJ, hxr⟩ := hrel
    by_cases hlt : k < n
    · have hkr : k < xs.length := by rw [← HN.out]; exact hlt
      obtain ⟨b, off, rfl, hb, d0⟩ := (h.ext hxr).st hkr
      have hcall := HP.out _ (mem_getD (d := ([] : List UInt8)) hkr)
      cases hq : p (xs.getD k ([] : List UInt8)) with
      | true =>
        have HQ := Lib.hid hq
        rw [hq] at hcall
        have HC := Lib.hid hcall
        clear hcall hq
        obtain ⟨r, hr⟩ : ∃ r, r = xs.getD k ([] : List UInt8) := ⟨_, rfl⟩
        rw [← hr] at d0 HC HQ
        have HR := Lib.hid hr
        clear hr
        go_wp2_with fail
        refine (HC.out _ (by (repeat (first | with_reducible exact Ext.refl _ | with_reducible assumption | ((with_reducible apply Src.ext); with_reducible assumption) | with_reducible refine Ext.alloc ?_ _ | with_reducible refine Ext.drew ?_ | with_reducible refine Ext.drewN ?_ _ | ((with_reducible refine Ext.setCell' ?_ ?_ _); solve | omega | simp | (simp; omega)) | (with_reducible refine Ext.trans ?_ (by with_reducible assumption)))))).mono ?_
        rintro e w' ⟨rfl, hx'⟩
        go_wp2
        go_ret
        exact ⟨ret_int (fstG_hit hkr (by rw [← HR.out]; exact HQ.out) HJ.out), by (repeat (first | with_reducible exact Ext.refl _ | with_reducible assumption | ((with_reducible apply Src.ext); with_reducible assumption) | with_reducible refine Ext.alloc ?_ _ | with_reducible refine Ext.drew ?_ | with_reducible refine Ext.drewN ?_ _ | ((with_reducible refine Ext.setCell' ?_ ?_ _); solve | omega | simp | (simp; omega)) | (with_reducible refine Ext.trans ?_ (by with_reducible assumption))))⟩
      | false =>
        have HJ2 := Lib.hid (upTo_succ HJ.out hq)
        rw [hq] at hcall
        have HC := Lib.hid hcall
        clear hcall hq
        obtain ⟨r, hr⟩ : ∃ r, r = xs.getD k ([] : List UInt8) := ⟨_, rfl⟩
        rw [← hr] at d0 HC
        have HR := Lib.hid hr
        clear hr
        go_wp2_with fail
        refine (HC.out _ (by (repeat (first | with_reducible exact Ext.refl _ | with_reducible assumption | ((with_reducible apply Src.ext); with_reducible assumption) | with_reducible refine Ext.alloc ?_ _ | with_reducible refine Ext.drew ?_ | with_reducible refine Ext.drewN ?_ _ | ((with_reducible refine Ext.setCell' ?_ ?_ _); solve | omega | simp | (simp; omega)) | (with_reducible refine Ext.trans ?_ (by with_reducible assumption)))))).mono ?_
        rintro e w' ⟨rfl, hx'⟩
        go_wp2
        go_roundw
        case rel => exact ⟨k + 1, by omega, by go_num, HJ2, by (repeat (first | with_reducible exact Ext.refl _ | with_reducible assumption | ((with_reducible apply Src.ext); with_reducible assumption) | with_reducible refine Ext.alloc ?_ _ | with_reducible refine Ext.drew ?_ | with_reducible refine Ext.drewN ?_ _ | ((with_reducible refine Ext.setCell' ?_ ?_ _); solve | omega | simp | (simp; omega)) | (with_reducible refine Ext.trans ?_ (by with_reducible assumption))))⟩
        case measure => simp [intOf]; omega
    · obtain rfl : k = n := by omega
      go_wp2
      go_ret
      exact ⟨ret_int (fstG_miss (by rw [← HN.out]; exact HJ.out)), by (repeat (first | with_reducible exact Ext.refl _ | with_reducible assumption | ((with_reducible apply Src.ext); with_reducible assumption) | with_reducible refine Ext.alloc ?_ _ | with_reducible refine Ext.drew ?_ | with_reducible refine Ext.drewN ?_ _ | ((with_reducible refine Ext.setCell' ?_ ?_ _); solve | omega | simp | (simp; omega)) | (with_reducible refine Ext.trans ?_ (by with_reducible assumption))))⟩

set_option maxHeartbeats 3200000 in
theorem i_ContainsFuncS (p : List UInt8 → Bool) (g : Nat) (lb : Array Value) (eg : ∀ args w, (callFunc g args).run Tryz.prog w = .ok (.enter g args) w) (A : Option Addr) (n c : Nat) (xs : List (List UInt8)) (w : World) (h : SlAt w 1 encS A xs) (hn : n = xs.length) (hl : n ≤ 1048576)
    (hp : ∀ x ∈ xs, ∀ W, Ext w W → Calls Tryz.prog g (#[.string (tx x)] ++ lb) W fun e w' => e = .returned (.bool (p x)) ∧ Ext W w') :
    Calls Tryz.prog 95 #[.slice A n c, .func (.func g) #[] lb] w fun e w' => e = .returned (.bool (xs.any p)) ∧ Ext w w' := by
  rw [← fstG_any]
  have hcall := i_IndexFuncS p g lb eg A n c xs w h hn hl hp
  have HC := Lib.hid hcall
  clear hcall hp hn
  go_enter Tryz.func95, Tryz.ntmps95
  go_wp2_with fail
  refine HC.out.mono ?_
  rintro e w' ⟨rfl, hx⟩
  go_wp2
  go_ret
  exact ⟨rfl, hx⟩

theorem as_bool0' {P : Program} {f : FuncId} {args : Array Value} {w : World} {b b' : Bool} (h : Calls P f args w fun e w' => e = .returned (.bool b) ∧ w = w') (e : b = b') : Calls P f args w fun e w' => e = .returned (.bool b') ∧ w = w' := e ▸ h
theorem i_lengthV (A : Option Addr) (n c : Nat) (w : World) : Calls Tryz.prog 71 #[.slice A n c] w fun e w' => e = .returned (.int .i64 n) ∧ w = w' := by
  go_enter Tryz.func71, Tryz.ntmps71
  go_wp2
  go_ret
  exact ⟨rfl, rfl⟩

set_option maxHeartbeats 1600000 in
theorem i_notOwn (o : List UInt8) (w : World) (ho : o.length ≤ 1048576) : Calls Tryz.prog 96 #[.string (tx o)] w fun e w' => e = .returned (.bool (!ownB o)) ∧ Ext w w' := by
  cases he : o.isEmpty with
  | true =>
    rw [show ownB o = true by unfold ownB; rw [he]; rfl]
    obtain rfl : o = [] := List.isEmpty_iff.1 he
    have hb : ((tx []).toList.isEmpty) = true := by rw [tx_toList]; rfl
    generalize tx [] = s at *
    clear he ho
    go_enter Tryz.func96, Tryz.ntmps96
    go_wp2
    go_ret
    exact ⟨rfl, by (repeat (first | with_reducible exact Ext.refl _ | with_reducible assumption | ((with_reducible apply Src.ext); with_reducible assumption) | with_reducible refine Ext.alloc ?_ _ | with_reducible refine Ext.drew ?_ | with_reducible refine Ext.drewN ?_ _ | ((with_reducible refine Ext.setCell' ?_ ?_ _); solve | omega | simp | (simp; omega)) | (with_reducible refine Ext.trans ?_ (by with_reducible assumption))))⟩
  | false =>
    rw [show ownB o = smL o 1 16 by unfold ownB; rw [he]; rfl]
    have hb : ((tx o).toList.isEmpty) = false := by rw [tx_toList]; exact he
    have HC := Lib.hid (fun W => i_IsWord (tx o) W (by rw [tx_size]; omega))
    rw [smB_tx] at HC
    generalize tx o = s at *
    generalize smL o 1 16 = q at *
    clear he ho
    go_enter Tryz.func96, Tryz.ntmps96
    (go_wp2_with fail; refine (HC.out _).mono ?_; rintro e w1 ⟨rfl, hx1⟩; obtain ⟨hc1, hf1⟩ := hx1.rules; have hs1 := hx1.size; (try simp at hs1))
    go_wp2
    go_ret
    exact ⟨rfl, by (repeat (first | with_reducible exact Ext.refl _ | with_reducible assumption | ((with_reducible apply Src.ext); with_reducible assumption) | with_reducible refine Ext.alloc ?_ _ | with_reducible refine Ext.drew ?_ | with_reducible refine Ext.drewN ?_ _ | ((with_reducible refine Ext.setCell' ?_ ?_ _); solve | omega | simp | (simp; omega)) | (with_reducible refine Ext.trans ?_ (by with_reducible assumption))))⟩
theorem en_own (args : Array Value) (w : World) : (callFunc 96 args).run Tryz.prog w = .ok (.enter 96 args) w := enters_isSome Tryz.func96 (by kernel_rfl) (by kernel_rfl) args w
theorem i_anyNotOwn (A : Option Addr) (n c : Nat) (L : List (List UInt8)) (w : World) (h : SlAt w 1 encS A L) (hn : n = L.length) (hl : n ≤ 1048576) (hg : ∀ o ∈ L, o.length ≤ 1048576) :
    Calls Tryz.prog 95 #[.slice A n c, .func (.func 96) #[] #[]] w fun e w' => e = .returned (.bool (L.any fun o => !ownB o)) ∧ Ext w w' :=
  i_ContainsFuncS (fun o => !ownB o) _ #[] en_own A n c L w h hn hl (fun o ho W _ => i_notOwn o W (hg o ho))
set_option maxHeartbeats 1600000 in
theorem i_isView (n : Nat) (v : Vw) (w : World) (h : SlAt w 1 encS v.2.1 v.2.2.2) (hg : GoodV v) :
    Calls Tryz.prog 70 #[.agg #[.string (tx v.1), .slice v.2.1 v.2.2.2.length v.2.2.1], .int .i64 n] w fun e w' => e = .returned (.bool (isvB n (v.1, v.2.2.2))) ∧ Ext w w' := by
  have HW := Lib.hid (fun W => i_IsWord (tx v.1) W (by rw [tx_size]; have := hg.1; omega))
  have HA := Lib.hid (fun W hx => i_anyNotOwn v.2.1 v.2.2.2.length v.2.2.1 v.2.2.2 W (h.ext hx) rfl hg.2.1 hg.at_)
  rw [smB_tx] at HW
  have hd : isvB n (v.1, v.2.2.2) = (smL v.1 1 16 && (decide (v.2.2.2.length = n) && !(v.2.2.2.any fun o => !ownB o))) := rfl
  rw [hd]
  clear hd h hg
  cases hq : smL v.1 1 16 with
  | false =>
    rw [hq] at HW
    clear hq HA
    go_enter Tryz.func70, Tryz.ntmps70
    (go_wp2_with fail; refine (HW.out _).mono ?_; rintro e w1 ⟨rfl, hx1⟩; obtain ⟨hc1, hf1⟩ := hx1.rules; have hs1 := hx1.size; (try simp at hs1))
    go_wp2
    go_ret
    exact ⟨rfl, by (repeat (first | with_reducible exact Ext.refl _ | with_reducible assumption | ((with_reducible apply Src.ext); with_reducible assumption) | with_reducible refine Ext.alloc ?_ _ | with_reducible refine Ext.drew ?_ | with_reducible refine Ext.drewN ?_ _ | ((with_reducible refine Ext.setCell' ?_ ?_ _); solve | omega | simp | (simp; omega)) | (with_reducible refine Ext.trans ?_ (by with_reducible assumption))))⟩
  | true =>
    rw [hq] at HW
    clear hq
    by_cases hn : v.2.2.2.length = n
    · have hnb : ((v.2.2.2.length : Int) == (n : Int)) = true := by simp [hn]
      rw [decide_eq_true hn]
      generalize (v.2.2.2.any fun o => !ownB o) = q at *
      clear hn
      go_enter Tryz.func70, Tryz.ntmps70
      (go_wp2_with fail; refine (HW.out _).mono ?_; rintro e w1 ⟨rfl, hx1⟩; obtain ⟨hc1, hf1⟩ := hx1.rules; have hs1 := hx1.size; (try simp at hs1); have := (show w.heap.size < w1.heap.size from by omega))
      go_wp2_with fail
      refine (HA.out _ (by (repeat (first | with_reducible exact Ext.refl _ | with_reducible assumption | ((with_reducible apply Src.ext); with_reducible assumption) | with_reducible refine Ext.alloc ?_ _ | with_reducible refine Ext.drew ?_ | with_reducible refine Ext.drewN ?_ _ | ((with_reducible refine Ext.setCell' ?_ ?_ _); solve | omega | simp | (simp; omega)) | (with_reducible refine Ext.trans ?_ (by with_reducible assumption)))))).mono ?_
      rintro e w2 ⟨rfl, hx2⟩
      go_wp2
      go_ret
      exact ⟨rfl, by (repeat (first | with_reducible exact Ext.refl _ | with_reducible assumption | ((with_reducible apply Src.ext); with_reducible assumption) | with_reducible refine Ext.alloc ?_ _ | with_reducible refine Ext.drew ?_ | with_reducible refine Ext.drewN ?_ _ | ((with_reducible refine Ext.setCell' ?_ ?_ _); solve | omega | simp | (simp; omega)) | (with_reducible refine Ext.trans ?_ (by with_reducible assumption))))⟩
    · have hnb : ((v.2.2.2.length : Int) == (n : Int)) = false := by simp; omega
      rw [decide_eq_false hn]
      clear hn HA
      go_enter Tryz.func70, Tryz.ntmps70
      (go_wp2_with fail; refine (HW.out _).mono ?_; rintro e w1 ⟨rfl, hx1⟩; obtain ⟨hc1, hf1⟩ := hx1.rules; have hs1 := hx1.size; (try simp at hs1); have := (show w.heap.size < w1.heap.size from by omega))
      go_wp2
      go_ret
      exact ⟨rfl, by (repeat (first | with_reducible exact Ext.refl _ | with_reducible assumption | ((with_reducible apply Src.ext); with_reducible assumption) | with_reducible refine Ext.alloc ?_ _ | with_reducible refine Ext.drew ?_ | with_reducible refine Ext.drewN ?_ _ | ((with_reducible refine Ext.setCell' ?_ ?_ _); solve | omega | simp | (simp; omega)) | (with_reducible refine Ext.trans ?_ (by with_reducible assumption))))⟩

end Go.Proofs.YtabdffponmmhoaaGreatDoor
namespace Go.Proofs.YtabdffponmmhoaaGreatDoor
open Go.RowKit
attribute [local go_sem] ExtOf.cell ExtOf.frozen

set_option maxRecDepth 20000 in
set_option maxHeartbeats 12800000 in
theorem i_AreViews (A A' : Option Addr) (c c' : Nat) (rs : List Rg) (vs : List Vw) (w : World) (h : SlAt w 1 encR A rs) (hr : Rings w rs) (hl : rs.length ≤ 1048576) (hc : rs.length ≤ c) (h' : SlAt w 2 encV A' vs) (hv : Views w vs) (hl' : vs.length ≤ 1048576) :
    Calls Tryz.prog 34 #[.slice A rs.length c, .slice A' vs.length c'] w fun e w' => e = .returned (.bool (viB (psOf rs) (voOf vs))) ∧ Ext w w' := by
  have HM := Lib.hid (fun W hx => i_IsMap A c rs W (h.ext hx) (hr.ext hx) hl hc)
  have hd : viB (psOf rs) (voOf vs) = (areV rs.length (voOf vs) && mapB (psOf rs)) := by unfold viB; rw [psOf_len]
  rw [hd]
  clear hd h hr
  go_enter Tryz.func34, Tryz.ntmps34
  go_wp2
  go_loopw [9] (fun i wr => ∃ k : Nat, k ≤ vs.length ∧ i = .int .i64 k ∧ Hid (∀ j, j < k → OkV rs.length (voOf vs) j) ∧ Ext w wr) (fun i _ => vs.length - (intOf i).toNat)
  case atStart => exact ⟨0, by omega, rfl, fun j hj => absurd hj (by omega), by (repeat (first | with_reducible exact Ext.refl _ | with_reducible assumption | ((with_reducible apply Src.ext); with_reducible assumption) | with_reducible refine Ext.alloc ?_ _ | with_reducible refine Ext.drew ?_ | with_reducible refine Ext.drewN ?_ _ | ((with_reducible refine Ext.setCell' ?_ ?_ _); solve | omega | simp | (simp; omega)) | (with_reducible refine Ext.trans ?_ (by with_reducible assumption))))⟩
  case round =>
    obtain ⟨k, hk, rfl, HJ, hxr⟩ := hrel
    by_cases hlt : k < vs.length
    · obtain ⟨b, off, rfl, hb, d0, d1⟩ := (h'.ext hxr).vw hlt
      have hvk := (hv.ext hxr) _ (vw_mem hlt)
      have hat := voOf_atD hlt
      have hprev : ∀ m, k = m + 1 → wr.cell? ⟨b, off + m * 2, none⟩ = some (.string (tx (vs.getD m vwD).1)) ∧ (voOf vs).getD m voD = ((vs.getD m vwD).1, (vs.getD m vwD).2.2.2) := fun m hm => ⟨((h'.ext hxr).vw' (show m < vs.length by omega)).1, voOf_atD (by omega)⟩
      have HP := Lib.hid hprev
      obtain ⟨v, hve⟩ : ∃ v, v = vs.getD k vwD := ⟨_, rfl⟩
      rw [← hve] at d0 d1 hvk hat
      have HAT := Lib.hid hat
      have HC := Lib.hid (fun W hx => i_isView rs.length v W (hvk.1.ext hx) hvk.2.2)
      clear hve hvk hat hprev
      cases hq : isvB rs.length (v.1, v.2.2.2) with
      | false =>
        rw [hq] at HC
        have HNO : Hid (areV rs.length (voOf vs) = false) := Lib.hid (areV_no fun hM => by have := (hM.2 k (by rw [voOf_len]; exact hlt)).1; rw [HAT.out, hq] at this; cases this)
        clear hq HP
        go_wp2
        (refine wp_region_ext (by kernel_rfl) (by kernel_rfl) ?_; (repeat (go_big_quiet_step ((go_at_call 70; exact Calls_ext (HC.out _ (Ext.trans (by (repeat (first | with_reducible exact Ext.refl _ | with_reducible assumption | ((with_reducible apply Src.ext); with_reducible assumption) | with_reducible refine Ext.alloc ?_ _ | with_reducible refine Ext.drew ?_ | with_reducible refine Ext.drewN ?_ _ | ((with_reducible refine Ext.setCell' ?_ ?_ _); solve | omega | simp | (simp; omega)) | (with_reducible refine Ext.trans ?_ (by with_reducible assumption))))) (ExtOf.ext _))))))); refine wpQuiet_nil ?_; intro wq hxwq; obtain ⟨hcwq, hfwq⟩ := hxwq.rules; have hswq := hxwq.size; (try simp at hswq))
        all_goals go_wp2
        all_goals go_ret
        all_goals exact ⟨ret_bool (by rw [HNO.out]; rfl), by (repeat (first | with_reducible exact Ext.refl _ | with_reducible assumption | ((with_reducible apply Src.ext); with_reducible assumption) | with_reducible refine Ext.alloc ?_ _ | with_reducible refine Ext.drew ?_ | with_reducible refine Ext.drewN ?_ _ | ((with_reducible refine Ext.setCell' ?_ ?_ _); solve | omega | simp | (simp; omega)) | (with_reducible refine Ext.trans ?_ (by with_reducible assumption))))⟩
      | true =>
        rw [hq] at HC
        by_cases hk0 : k = 0
        · have HJ2 := Lib.hid (upTo_succ HJ.out (show OkV rs.length (voOf vs) k from ⟨by rw [HAT.out]; exact hq, fun h => absurd h (by omega)⟩))
          have hg0 : decide (0 < k) = false := decide_eq_false (by omega)
          clear hq HP hk0
          go_wp2
          (refine wp_region_ext (by kernel_rfl) (by kernel_rfl) ?_; (repeat (go_big_quiet_step ((go_at_call 70; exact Calls_ext (HC.out _ (Ext.trans (by (repeat (first | with_reducible exact Ext.refl _ | with_reducible assumption | ((with_reducible apply Src.ext); with_reducible assumption) | with_reducible refine Ext.alloc ?_ _ | with_reducible refine Ext.drew ?_ | with_reducible refine Ext.drewN ?_ _ | ((with_reducible refine Ext.setCell' ?_ ?_ _); solve | omega | simp | (simp; omega)) | (with_reducible refine Ext.trans ?_ (by with_reducible assumption))))) (ExtOf.ext _))))))); refine wpQuiet_nil ?_; intro wq hxwq; obtain ⟨hcwq, hfwq⟩ := hxwq.rules; have hswq := hxwq.size; (try simp at hswq))
          all_goals go_wp2
          all_goals go_roundw
          case rel => exact ⟨k + 1, by omega, by go_num, HJ2, by (repeat (first | with_reducible exact Ext.refl _ | with_reducible assumption | ((with_reducible apply Src.ext); with_reducible assumption) | with_reducible refine Ext.alloc ?_ _ | with_reducible refine Ext.drew ?_ | with_reducible refine Ext.drewN ?_ _ | ((with_reducible refine Ext.setCell' ?_ ?_ _); solve | omega | simp | (simp; omega)) | (with_reducible refine Ext.trans ?_ (by with_reducible assumption))))⟩
          case measure => simp [intOf]; omega
        · obtain ⟨m, hm⟩ : ∃ m, k = m + 1 := ⟨k - 1, by omega⟩
          obtain ⟨p0, hpa⟩ := HP.out m hm
          have hg0 : decide (0 < k) = true := decide_eq_true (by omega)
          have hw : IntKind.i64.wrap ((k : Int) - 1) = (m : Int) := by rw [IntWalk.i64_in _ (by omega)]; omega
          have hless := tx_toList (vs.getD m vwD).1
          have hless2 := tx_toList v.1
          have HE : Hid ((k - 1) = m) := Lib.hid (by omega)
          have hml : m < vs.length := by omega
          have HMM := Lib.hid hm
          clear hk0
          cases hb2 : Op.bytesLess (vs.getD m vwD).1 v.1 with
          | true =>
            have HJ2 := Lib.hid (upTo_succ HJ.out (show OkV rs.length (voOf vs) k from ⟨by rw [HAT.out]; exact hq, fun _ => by rw [HE.out, hpa, HAT.out]; exact hb2⟩))
            rw [← hless, ← hless2] at hb2
            generalize tx (vs.getD m vwD).1 = s0 at *
            generalize tx v.1 = s1 at *
            clear hq HP hpa hless hless2 HAT hm
            go_wp2
            (refine wp_region_ext (by kernel_rfl) (by kernel_rfl) ?_; (repeat (go_big_quiet_step ((go_at_call 70; exact Calls_ext (HC.out _ (Ext.trans (by (repeat (first | with_reducible exact Ext.refl _ | with_reducible assumption | ((with_reducible apply Src.ext); with_reducible assumption) | with_reducible refine Ext.alloc ?_ _ | with_reducible refine Ext.drew ?_ | with_reducible refine Ext.drewN ?_ _ | ((with_reducible refine Ext.setCell' ?_ ?_ _); solve | omega | simp | (simp; omega)) | (with_reducible refine Ext.trans ?_ (by with_reducible assumption))))) (ExtOf.ext _))))))); refine wpQuiet_nil ?_; intro wq hxwq; obtain ⟨hcwq, hfwq⟩ := hxwq.rules; have hswq := hxwq.size; (try simp at hswq))
            all_goals go_wp2
            all_goals go_roundw
            case rel => exact ⟨k + 1, by omega, by go_num, HJ2, by (repeat (first | with_reducible exact Ext.refl _ | with_reducible assumption | ((with_reducible apply Src.ext); with_reducible assumption) | with_reducible refine Ext.alloc ?_ _ | with_reducible refine Ext.drew ?_ | with_reducible refine Ext.drewN ?_ _ | ((with_reducible refine Ext.setCell' ?_ ?_ _); solve | omega | simp | (simp; omega)) | (with_reducible refine Ext.trans ?_ (by with_reducible assumption))))⟩
            case measure => simp [intOf]; omega
          | false =>
            have HNO : Hid (areV rs.length (voOf vs) = false) := Lib.hid (areV_no fun hM => by have := (hM.2 k (by rw [voOf_len]; exact hlt)).2 (by have := HMM.out; omega); rw [HE.out, hpa, HAT.out] at this; simp only at this; rw [hb2] at this; cases this)
            rw [← hless, ← hless2] at hb2
            generalize tx (vs.getD m vwD).1 = s0 at *
            generalize tx v.1 = s1 at *
            clear hq HP hpa hless hless2 HAT hm
            go_wp2
            (refine wp_region_ext (by kernel_rfl) (by kernel_rfl) ?_; (repeat (go_big_quiet_step ((go_at_call 70; exact Calls_ext (HC.out _ (Ext.trans (by (repeat (first | with_reducible exact Ext.refl _ | with_reducible assumption | ((with_reducible apply Src.ext); with_reducible assumption) | with_reducible refine Ext.alloc ?_ _ | with_reducible refine Ext.drew ?_ | with_reducible refine Ext.drewN ?_ _ | ((with_reducible refine Ext.setCell' ?_ ?_ _); solve | omega | simp | (simp; omega)) | (with_reducible refine Ext.trans ?_ (by with_reducible assumption))))) (ExtOf.ext _))))))); refine wpQuiet_nil ?_; intro wq hxwq; obtain ⟨hcwq, hfwq⟩ := hxwq.rules; have hswq := hxwq.size; (try simp at hswq))
            all_goals go_wp2
            all_goals go_ret
            all_goals exact ⟨ret_bool (by rw [HNO.out]; rfl), by (repeat (first | with_reducible exact Ext.refl _ | with_reducible assumption | ((with_reducible apply Src.ext); with_reducible assumption) | with_reducible refine Ext.alloc ?_ _ | with_reducible refine Ext.drew ?_ | with_reducible refine Ext.drewN ?_ _ | ((with_reducible refine Ext.setCell' ?_ ?_ _); solve | omega | simp | (simp; omega)) | (with_reducible refine Ext.trans ?_ (by with_reducible assumption))))⟩
    · obtain rfl : k = vs.length := by omega
      cases hin : inB vs.length 1 4 with
      | false =>
        have HNO : Hid (areV rs.length (voOf vs) = false) := Lib.hid (areV_no fun hM => by have := hM.1; rw [voOf_len, hin] at this; cases this)
        have HW : Hid (∀ W, Calls Tryz.prog 57 #[.int .i64 vs.length, .int .i64 1, .int .i64 4] W fun e w' => e = .returned (.bool false) ∧ W = w') := Lib.hid fun W => as_bool0' (within_any _ _ _ _) hin
        clear hin
        (go_wp2_with fail; refine (i_lengthV _ _ _ _).mono ?_; rintro e w' ⟨rfl, rfl⟩)
        (go_wp2_with fail; refine (HW.out _).mono ?_; rintro e w' ⟨rfl, rfl⟩)
        go_wp2
        go_ret
        exact ⟨ret_bool (by rw [HNO.out]; rfl), by (repeat (first | with_reducible exact Ext.refl _ | with_reducible assumption | ((with_reducible apply Src.ext); with_reducible assumption) | with_reducible refine Ext.alloc ?_ _ | with_reducible refine Ext.drew ?_ | with_reducible refine Ext.drewN ?_ _ | ((with_reducible refine Ext.setCell' ?_ ?_ _); solve | omega | simp | (simp; omega)) | (with_reducible refine Ext.trans ?_ (by with_reducible assumption))))⟩
      | true =>
        have HYES : Hid (areV rs.length (voOf vs) = true) := Lib.hid (areV_yes ⟨by rw [voOf_len]; exact hin, fun i hi => HJ.out i (by rw [voOf_len] at hi; exact hi)⟩)
        have HW : Hid (∀ W, Calls Tryz.prog 57 #[.int .i64 vs.length, .int .i64 1, .int .i64 4] W fun e w' => e = .returned (.bool true) ∧ W = w') := Lib.hid fun W => as_bool0' (within_any _ _ _ _) hin
        clear hin
        (go_wp2_with fail; refine (i_lengthV _ _ _ _).mono ?_; rintro e w' ⟨rfl, rfl⟩)
        (go_wp2_with fail; refine (HW.out _).mono ?_; rintro e w' ⟨rfl, rfl⟩)
        go_wp2_with fail
        refine (HM.out _ (by (repeat (first | with_reducible exact Ext.refl _ | with_reducible assumption | ((with_reducible apply Src.ext); with_reducible assumption) | with_reducible refine Ext.alloc ?_ _ | with_reducible refine Ext.drew ?_ | with_reducible refine Ext.drewN ?_ _ | ((with_reducible refine Ext.setCell' ?_ ?_ _); solve | omega | simp | (simp; omega)) | (with_reducible refine Ext.trans ?_ (by with_reducible assumption)))))).mono ?_
        rintro e w2 ⟨rfl, hx2⟩
        go_wp2
        go_ret
        exact ⟨ret_bool (by rw [HYES.out]; rfl), by (repeat (first | with_reducible exact Ext.refl _ | with_reducible assumption | ((with_reducible apply Src.ext); with_reducible assumption) | with_reducible refine Ext.alloc ?_ _ | with_reducible refine Ext.drew ?_ | with_reducible refine Ext.drewN ?_ _ | ((with_reducible refine Ext.setCell' ?_ ?_ _); solve | omega | simp | (simp; omega)) | (with_reducible refine Ext.trans ?_ (by with_reducible assumption))))⟩

end Go.Proofs.YtabdffponmmhoaaGreatDoor
namespace Go.Proofs.YtabdffponmmhoaaGreatDoor
open Go.RowKit
attribute [local go_sem] ExtOf.cell ExtOf.frozen

theorem isvB_of {n : Nat} {h : List UInt8} {L : List (List UInt8)} (h1 : smL h 1 16 = true) (h2 : L.length = n) (h3 : ∀ j, j < n → ownB (L.getD j []) = true) : isvB n (h, L) = true := by
  have : (L.any fun o => !ownB o) = false := by
    rw [List.any_eq_false]
    intro o ho
    obtain ⟨j, hj, rfl⟩ := List.mem_iff_getElem.1 ho
    have := h3 j (by omega)
    simp [List.getD, hj] at this
    simp [this]
  simp [isvB, h1, h2, this]
theorem isvB_own {n j : Nat} {h : List UInt8} {L : List (List UInt8)} (hj : j < L.length) (h3 : ownB (L.getD j []) = false) : isvB n (h, L) = false := by
  have : (L.any fun o => !ownB o) = true := by
    rw [List.any_eq_true]
    refine ⟨L.getD j [], mem_getD hj, by rw [h3]; rfl⟩
  simp [isvB, this]

set_option maxRecDepth 20000 in
set_option maxHeartbeats 12800000 in
theorem s_l18Are (n : Nat) (A' : Option Addr) (c' : Nat) (vs : List Vw) (w : World) (hn : n ≤ 1048576) (h' : SlAt w 2 encV A' vs) (hv : Views w vs) (hl' : vs.length ≤ 1048576) :
    Calls Tryz.prog 64 #[.int .i64 n, .slice A' vs.length c'] w fun e w' => e = .returned (.bool (areV n (voOf vs))) ∧ Ext w w' := by
  go_enter Tryz.func64, Tryz.ntmps64
  go_wp2
  go_loopw [5] (fun i wr => ∃ k : Nat, k ≤ vs.length ∧ i = .int .i64 k ∧ Hid (∀ j, j < k → OkV n (voOf vs) j) ∧ Ext w wr) (fun i _ => vs.length - (intOf i).toNat)
  case atStart => exact ⟨0, by omega, rfl, fun j hj => absurd hj (by omega), by (repeat (first | with_reducible exact Ext.refl _ | with_reducible assumption | ((with_reducible apply Src.ext); with_reducible assumption) | with_reducible refine Ext.alloc ?_ _ | with_reducible refine Ext.drew ?_ | with_reducible refine Ext.drewN ?_ _ | ((with_reducible refine Ext.setCell' ?_ ?_ _); solve | omega | simp | (simp; omega)) | (with_reducible refine Ext.trans ?_ (by with_reducible assumption))))⟩
  case round =>
    obtain ⟨k, hk, rfl, HJ, hxr⟩ := hrel
    obtain ⟨w5, rfl⟩ : ∃ x, x = wr := ⟨wr, rfl⟩
    by_cases hlt : k < vs.length
    · obtain ⟨b, off, rfl, hb, d0, d1⟩ := (h'.ext hxr).vw hlt
      have hvk := hv _ (vw_mem hlt)
      have hat := voOf_atD hlt
      have hprev : ∀ m, k = m + 1 → w5.cell? ⟨b, off + m * 2, none⟩ = some (.string (tx (vs.getD m vwD).1)) ∧ (voOf vs).getD m voD = ((vs.getD m vwD).1, (vs.getD m vwD).2.2.2) := fun m hm => ⟨((h'.ext hxr).vw' (show m < vs.length by omega)).1, voOf_atD (by omega)⟩
      have HP := Lib.hid hprev
      obtain ⟨v, hve⟩ : ∃ v, v = vs.getD k vwD := ⟨_, rfl⟩
      rw [← hve] at d0 d1 hvk hat
      have HAT := Lib.hid hat
      have HC := Lib.hid (fun W => s_IsWord (tx v.1) W (by rw [tx_size]; have := hvk.2.2.1; omega))
      rw [smB_tx] at HC
      have hvl := hvk.2.2.2.1
      have HVK := Lib.hid hvk
      have hless2 := tx_toList v.1
      clear hve hvk hat hprev
      cases hq : smL v.1 1 16 with
      | false =>
        rw [hq] at HC
        have HNO : Hid (areV n (voOf vs) = false) := Lib.hid (areV_no fun hM => by have := (hM.2 k (by rw [voOf_len]; exact hlt)).1; rw [HAT.out] at this; simp [isvB, hq] at this)
        generalize tx v.1 = s1 at *
        clear hq HP hless2
        go_wp2
        (refine wp_region_ext (by kernel_rfl) (by kernel_rfl) ?_; (repeat (go_big_quiet_step ((go_at_call 82; exact Calls_ext (HC.out _))))); refine wpQuiet_nil ?_; intro wq hxwq; obtain ⟨hcwq, hfwq⟩ := hxwq.rules; have hswq := hxwq.size; (try simp at hswq))
        all_goals go_wp2
        all_goals go_ret
        all_goals exact ⟨ret_bool HNO.out.symm, by (repeat (first | with_reducible exact Ext.refl _ | with_reducible assumption | ((with_reducible apply Src.ext); with_reducible assumption) | with_reducible refine Ext.alloc ?_ _ | with_reducible refine Ext.drew ?_ | with_reducible refine Ext.drewN ?_ _ | ((with_reducible refine Ext.setCell' ?_ ?_ _); solve | omega | simp | (simp; omega)) | (with_reducible refine Ext.trans ?_ (by with_reducible assumption))))⟩
      | true =>
        rw [hq] at HC
        by_cases hlen : v.2.2.2.length = n
        · have hnb : ((v.2.2.2.length : Int) != (n : Int)) = false := by simp [hlen]
          have HLEN := Lib.hid hlen
          clear hlen
          by_cases hk0 : k = 0
          · have HOKK : Hid (isvB n (v.1, v.2.2.2) = true → OkV n (voOf vs) k) := Lib.hid (fun e => ⟨by rw [HAT.out]; exact e, fun h => absurd h (by omega)⟩)
            have hg0 : decide (0 < k) = false := decide_eq_false (by omega)
            have HQ := Lib.hid hq
            generalize tx v.1 = s1 at *
            clear hq HP hless2 hk0
            go_wp2
            (refine wp_region_ext (by kernel_rfl) (by kernel_rfl) ?_; (repeat (go_big_quiet_step ((go_at_call 82; exact Calls_ext (HC.out _))))); refine wpQuiet_nil ?_; intro wq hxwq; obtain ⟨hcwq, hfwq⟩ := hxwq.rules; have hswq := hxwq.size; (try simp at hswq))
            go_wp2
            go_loopw [7] (fun i wi => ∃ j : Nat, j ≤ n ∧ i = .int .i64 j ∧ Hid (∀ q, q < j → ownB (v.2.2.2.getD q []) = true) ∧ Blk wi w5.heap.size 64 #[.string s1, .slice v.2.1 v.2.2.2.length v.2.2.1] ∧ Ext w wi) (fun i _ => n - (intOf i).toNat)
            case atStart => exact ⟨0, by omega, rfl, fun q hq => absurd hq (by omega), Blk.eq (by (repeat (first | with_reducible assumption | ((with_reducible apply Blk.new); solve | simp | rfl) | with_reducible apply Blk.drew | with_reducible apply Blk.drewN | ((with_reducible apply Blk.far'); solve | omega | simp | (simp; omega)) | with_reducible apply Blk.set_ | with_reducible apply Blk.alloc | ((with_reducible apply Blk.ext'); with_reducible assumption) | ((with_reducible apply Blk.but'); (with_reducible assumption); solve | omega | (simp; omega))))) (by rfl), by (repeat (first | with_reducible exact Ext.refl _ | with_reducible assumption | ((with_reducible apply Src.ext); with_reducible assumption) | with_reducible refine Ext.alloc ?_ _ | with_reducible refine Ext.drew ?_ | with_reducible refine Ext.drewN ?_ _ | ((with_reducible refine Ext.setCell' ?_ ?_ _); solve | omega | simp | (simp; omega)) | (with_reducible refine Ext.trans ?_ (by with_reducible assumption))))⟩
            case round =>
              obtain ⟨j, hj, rfl, HO, hB, hxi⟩ := hrel
              have e0 : wr.cell? ⟨w5.heap.size, 0, none⟩ = some (.string s1) := hB.cell 0
              have hBl := hB.lt
              by_cases hjn : j < n
              · have hjl : j < v.2.2.2.length := by have := HLEN.out; omega
                obtain ⟨b2, off2, hA2, hb2l, f0⟩ := (HVK.out.1.ext hxi).st hjl
                have e1 : wr.cell? ⟨w5.heap.size, 1, none⟩ = some (.slice (some ⟨b2, off2, none⟩) v.2.2.2.length v.2.2.1) := by rw [← hA2]; exact hB.cell 1
                clear hA2
                have hol := HVK.out.2.2.2.2 j
                have htl := tx_toList (v.2.2.2.getD j [])
                have HC2 := Lib.hid (fun W => s_IsWord (tx (v.2.2.2.getD j [])) W (by rw [tx_size]; omega))
                rw [smB_tx] at HC2
                obtain ⟨o, hoe⟩ : ∃ o, o = v.2.2.2.getD j [] := ⟨_, rfl⟩
                rw [← hoe] at f0 hol htl HC2
                have HOE := Lib.hid hoe
                clear hoe
                cases he : o.isEmpty with
                | true =>
                  have HO2 := Lib.hid (upTo_succ HO.out (show ownB (v.2.2.2.getD j []) = true by rw [← HOE.out]; unfold ownB; rw [he]; rfl))
                  have hem : ((tx o).toList.isEmpty) = true := by rw [htl]; exact he
                  generalize tx o = so at *
                  clear he htl
                  go_wp2
                  go_roundw
                  case rel => exact ⟨j + 1, by omega, by go_num, HO2, hB.ext (by (repeat (first | with_reducible exact Ext.refl _ | with_reducible assumption | ((with_reducible apply Src.ext); with_reducible assumption) | with_reducible refine Ext.alloc ?_ _ | with_reducible refine Ext.drew ?_ | with_reducible refine Ext.drewN ?_ _ | ((with_reducible refine Ext.setCell' ?_ ?_ _); solve | omega | simp | (simp; omega)) | (with_reducible refine Ext.trans ?_ (by with_reducible assumption))))), by (repeat (first | with_reducible exact Ext.refl _ | with_reducible assumption | ((with_reducible apply Src.ext); with_reducible assumption) | with_reducible refine Ext.alloc ?_ _ | with_reducible refine Ext.drew ?_ | with_reducible refine Ext.drewN ?_ _ | ((with_reducible refine Ext.setCell' ?_ ?_ _); solve | omega | simp | (simp; omega)) | (with_reducible refine Ext.trans ?_ (by with_reducible assumption))))⟩
                  case measure => simp [intOf]; omega
                | false =>
                  have hem : ((tx o).toList.isEmpty) = false := by rw [htl]; exact he
                  cases hq2 : smL o 1 16 with
                  | true =>
                    have HO2 := Lib.hid (upTo_succ HO.out (show ownB (v.2.2.2.getD j []) = true by rw [← HOE.out]; unfold ownB; rw [he, hq2]; rfl))
                    rw [hq2] at HC2
                    generalize tx o = so at *
                    clear he htl hq2
                    (go_wp2_with fail; refine (HC2.out _).mono ?_; rintro e w7 ⟨rfl, hx7⟩; obtain ⟨hc7, hf7⟩ := hx7.rules; have hs7 := hx7.size; (try simp at hs7); have := (show w5.heap.size < w7.heap.size from by omega))
                    go_wp2
                    go_roundw
                    case rel => exact ⟨j + 1, by omega, by go_num, HO2, hB.ext (by (repeat (first | with_reducible exact Ext.refl _ | with_reducible assumption | ((with_reducible apply Src.ext); with_reducible assumption) | with_reducible refine Ext.alloc ?_ _ | with_reducible refine Ext.drew ?_ | with_reducible refine Ext.drewN ?_ _ | ((with_reducible refine Ext.setCell' ?_ ?_ _); solve | omega | simp | (simp; omega)) | (with_reducible refine Ext.trans ?_ (by with_reducible assumption))))), by (repeat (first | with_reducible exact Ext.refl _ | with_reducible assumption | ((with_reducible apply Src.ext); with_reducible assumption) | with_reducible refine Ext.alloc ?_ _ | with_reducible refine Ext.drew ?_ | with_reducible refine Ext.drewN ?_ _ | ((with_reducible refine Ext.setCell' ?_ ?_ _); solve | omega | simp | (simp; omega)) | (with_reducible refine Ext.trans ?_ (by with_reducible assumption))))⟩
                    case measure => simp [intOf]; omega
                  | false =>
                    have HNO : Hid (areV n (voOf vs) = false) := Lib.hid (areV_no fun hM => by
                      have h1 := (hM.2 k (by rw [voOf_len]; exact hlt)).1
                      rw [HAT.out, isvB_own hjl (by rw [← HOE.out]; unfold ownB; rw [he, hq2]; rfl)] at h1
                      cases h1)
                    rw [hq2] at HC2
                    generalize tx o = so at *
                    clear he htl hq2
                    (go_wp2_with fail; refine (HC2.out _).mono ?_; rintro e w7 ⟨rfl, hx7⟩; obtain ⟨hc7, hf7⟩ := hx7.rules; have hs7 := hx7.size; (try simp at hs7); have := (show w5.heap.size < w7.heap.size from by omega))
                    go_wp2
                    go_ret
                    exact ⟨ret_bool HNO.out.symm, by (repeat (first | with_reducible exact Ext.refl _ | with_reducible assumption | ((with_reducible apply Src.ext); with_reducible assumption) | with_reducible refine Ext.alloc ?_ _ | with_reducible refine Ext.drew ?_ | with_reducible refine Ext.drewN ?_ _ | ((with_reducible refine Ext.setCell' ?_ ?_ _); solve | omega | simp | (simp; omega)) | (with_reducible refine Ext.trans ?_ (by with_reducible assumption))))⟩
              · obtain rfl : j = n := by omega
                have HJ2 := Lib.hid (upTo_succ HJ.out (HOKK.out (isvB_of HQ.out HLEN.out HO.out)))
                go_wp2
                go_roundw
                case rel => exact ⟨k + 1, by omega, by go_num, HJ2, by (repeat (first | with_reducible exact Ext.refl _ | with_reducible assumption | ((with_reducible apply Src.ext); with_reducible assumption) | with_reducible refine Ext.alloc ?_ _ | with_reducible refine Ext.drew ?_ | with_reducible refine Ext.drewN ?_ _ | ((with_reducible refine Ext.setCell' ?_ ?_ _); solve | omega | simp | (simp; omega)) | (with_reducible refine Ext.trans ?_ (by with_reducible assumption))))⟩
                case measure => simp [intOf]; omega
          · obtain ⟨m, hm⟩ : ∃ m, k = m + 1 := ⟨k - 1, by omega⟩
            obtain ⟨p0, hpa⟩ := HP.out m hm
            have hg0 : decide (0 < k) = true := decide_eq_true (by omega)
            have hw : IntKind.i64.wrap ((k : Int) - 1) = (m : Int) := by rw [IntWalk.i64_in _ (by omega)]; omega
            have hless := tx_toList (vs.getD m vwD).1
            have HE : Hid ((k - 1) = m) := Lib.hid (by omega)
            have hml : m < vs.length := by omega
            have HMM := Lib.hid hm
            clear hk0
            have HQ := Lib.hid hq
            cases hb2 : Op.bytesLess (vs.getD m vwD).1 v.1 with
            | true =>
              have HOKK : Hid (isvB n (v.1, v.2.2.2) = true → OkV n (voOf vs) k) := Lib.hid (fun e => ⟨by rw [HAT.out]; exact e, fun h => by rw [HE.out, hpa, HAT.out]; exact hb2⟩)
              rw [← hless, ← hless2] at hb2
              generalize tx (vs.getD m vwD).1 = s0 at *
              generalize tx v.1 = s1 at *
              clear hq HP hpa hless hless2 hm
              go_wp2
              (refine wp_region_ext (by kernel_rfl) (by kernel_rfl) ?_; (repeat (go_big_quiet_step ((go_at_call 82; exact Calls_ext (HC.out _))))); refine wpQuiet_nil ?_; intro wq hxwq; obtain ⟨hcwq, hfwq⟩ := hxwq.rules; have hswq := hxwq.size; (try simp at hswq))
              go_wp2
              go_loopw [7] (fun i wi => ∃ j : Nat, j ≤ n ∧ i = .int .i64 j ∧ Hid (∀ q, q < j → ownB (v.2.2.2.getD q []) = true) ∧ Blk wi w5.heap.size 64 #[.string s1, .slice v.2.1 v.2.2.2.length v.2.2.1] ∧ Ext w wi) (fun i _ => n - (intOf i).toNat)
              case atStart => exact ⟨0, by omega, rfl, fun q hq => absurd hq (by omega), Blk.eq (by (repeat (first | with_reducible assumption | ((with_reducible apply Blk.new); solve | simp | rfl) | with_reducible apply Blk.drew | with_reducible apply Blk.drewN | ((with_reducible apply Blk.far'); solve | omega | simp | (simp; omega)) | with_reducible apply Blk.set_ | with_reducible apply Blk.alloc | ((with_reducible apply Blk.ext'); with_reducible assumption) | ((with_reducible apply Blk.but'); (with_reducible assumption); solve | omega | (simp; omega))))) (by rfl), by (repeat (first | with_reducible exact Ext.refl _ | with_reducible assumption | ((with_reducible apply Src.ext); with_reducible assumption) | with_reducible refine Ext.alloc ?_ _ | with_reducible refine Ext.drew ?_ | with_reducible refine Ext.drewN ?_ _ | ((with_reducible refine Ext.setCell' ?_ ?_ _); solve | omega | simp | (simp; omega)) | (with_reducible refine Ext.trans ?_ (by with_reducible assumption))))⟩
              case round =>
                obtain ⟨j, hj, rfl, HO, hB, hxi⟩ := hrel
                have e0 : wr.cell? ⟨w5.heap.size, 0, none⟩ = some (.string s1) := hB.cell 0
                have hBl := hB.lt
                by_cases hjn : j < n
                · have hjl : j < v.2.2.2.length := by have := HLEN.out; omega
                  obtain ⟨b2, off2, hA2, hb2l, f0⟩ := (HVK.out.1.ext hxi).st hjl
                  have e1 : wr.cell? ⟨w5.heap.size, 1, none⟩ = some (.slice (some ⟨b2, off2, none⟩) v.2.2.2.length v.2.2.1) := by rw [← hA2]; exact hB.cell 1
                  clear hA2
                  have hol := HVK.out.2.2.2.2 j
                  have htl := tx_toList (v.2.2.2.getD j [])
                  have HC2 := Lib.hid (fun W => s_IsWord (tx (v.2.2.2.getD j [])) W (by rw [tx_size]; omega))
                  rw [smB_tx] at HC2
                  obtain ⟨o, hoe⟩ : ∃ o, o = v.2.2.2.getD j [] := ⟨_, rfl⟩
                  rw [← hoe] at f0 hol htl HC2
                  have HOE := Lib.hid hoe
                  clear hoe
                  cases he : o.isEmpty with
                  | true =>
                    have HO2 := Lib.hid (upTo_succ HO.out (show ownB (v.2.2.2.getD j []) = true by rw [← HOE.out]; unfold ownB; rw [he]; rfl))
                    have hem : ((tx o).toList.isEmpty) = true := by rw [htl]; exact he
                    generalize tx o = so at *
                    clear he htl
                    go_wp2
                    go_roundw
                    case rel => exact ⟨j + 1, by omega, by go_num, HO2, hB.ext (by (repeat (first | with_reducible exact Ext.refl _ | with_reducible assumption | ((with_reducible apply Src.ext); with_reducible assumption) | with_reducible refine Ext.alloc ?_ _ | with_reducible refine Ext.drew ?_ | with_reducible refine Ext.drewN ?_ _ | ((with_reducible refine Ext.setCell' ?_ ?_ _); solve | omega | simp | (simp; omega)) | (with_reducible refine Ext.trans ?_ (by with_reducible assumption))))), by (repeat (first | with_reducible exact Ext.refl _ | with_reducible assumption | ((with_reducible apply Src.ext); with_reducible assumption) | with_reducible refine Ext.alloc ?_ _ | with_reducible refine Ext.drew ?_ | with_reducible refine Ext.drewN ?_ _ | ((with_reducible refine Ext.setCell' ?_ ?_ _); solve | omega | simp | (simp; omega)) | (with_reducible refine Ext.trans ?_ (by with_reducible assumption))))⟩
                    case measure => simp [intOf]; omega
                  | false =>
                    have hem : ((tx o).toList.isEmpty) = false := by rw [htl]; exact he
                    cases hq2 : smL o 1 16 with
                    | true =>
                      have HO2 := Lib.hid (upTo_succ HO.out (show ownB (v.2.2.2.getD j []) = true by rw [← HOE.out]; unfold ownB; rw [he, hq2]; rfl))
                      rw [hq2] at HC2
                      generalize tx o = so at *
                      clear he htl hq2
                      (go_wp2_with fail; refine (HC2.out _).mono ?_; rintro e w7 ⟨rfl, hx7⟩; obtain ⟨hc7, hf7⟩ := hx7.rules; have hs7 := hx7.size; (try simp at hs7); have := (show w5.heap.size < w7.heap.size from by omega))
                      go_wp2
                      go_roundw
                      case rel => exact ⟨j + 1, by omega, by go_num, HO2, hB.ext (by (repeat (first | with_reducible exact Ext.refl _ | with_reducible assumption | ((with_reducible apply Src.ext); with_reducible assumption) | with_reducible refine Ext.alloc ?_ _ | with_reducible refine Ext.drew ?_ | with_reducible refine Ext.drewN ?_ _ | ((with_reducible refine Ext.setCell' ?_ ?_ _); solve | omega | simp | (simp; omega)) | (with_reducible refine Ext.trans ?_ (by with_reducible assumption))))), by (repeat (first | with_reducible exact Ext.refl _ | with_reducible assumption | ((with_reducible apply Src.ext); with_reducible assumption) | with_reducible refine Ext.alloc ?_ _ | with_reducible refine Ext.drew ?_ | with_reducible refine Ext.drewN ?_ _ | ((with_reducible refine Ext.setCell' ?_ ?_ _); solve | omega | simp | (simp; omega)) | (with_reducible refine Ext.trans ?_ (by with_reducible assumption))))⟩
                      case measure => simp [intOf]; omega
                    | false =>
                      have HNO : Hid (areV n (voOf vs) = false) := Lib.hid (areV_no fun hM => by
                        have h1 := (hM.2 k (by rw [voOf_len]; exact hlt)).1
                        rw [HAT.out, isvB_own hjl (by rw [← HOE.out]; unfold ownB; rw [he, hq2]; rfl)] at h1
                        cases h1)
                      rw [hq2] at HC2
                      generalize tx o = so at *
                      clear he htl hq2
                      (go_wp2_with fail; refine (HC2.out _).mono ?_; rintro e w7 ⟨rfl, hx7⟩; obtain ⟨hc7, hf7⟩ := hx7.rules; have hs7 := hx7.size; (try simp at hs7); have := (show w5.heap.size < w7.heap.size from by omega))
                      go_wp2
                      go_ret
                      exact ⟨ret_bool HNO.out.symm, by (repeat (first | with_reducible exact Ext.refl _ | with_reducible assumption | ((with_reducible apply Src.ext); with_reducible assumption) | with_reducible refine Ext.alloc ?_ _ | with_reducible refine Ext.drew ?_ | with_reducible refine Ext.drewN ?_ _ | ((with_reducible refine Ext.setCell' ?_ ?_ _); solve | omega | simp | (simp; omega)) | (with_reducible refine Ext.trans ?_ (by with_reducible assumption))))⟩
                · obtain rfl : j = n := by omega
                  have HJ2 := Lib.hid (upTo_succ HJ.out (HOKK.out (isvB_of HQ.out HLEN.out HO.out)))
                  go_wp2
                  go_roundw
                  case rel => exact ⟨k + 1, by omega, by go_num, HJ2, by (repeat (first | with_reducible exact Ext.refl _ | with_reducible assumption | ((with_reducible apply Src.ext); with_reducible assumption) | with_reducible refine Ext.alloc ?_ _ | with_reducible refine Ext.drew ?_ | with_reducible refine Ext.drewN ?_ _ | ((with_reducible refine Ext.setCell' ?_ ?_ _); solve | omega | simp | (simp; omega)) | (with_reducible refine Ext.trans ?_ (by with_reducible assumption))))⟩
                  case measure => simp [intOf]; omega
            | false =>
              have HNO : Hid (areV n (voOf vs) = false) := Lib.hid (areV_no fun hM => by have := (hM.2 k (by rw [voOf_len]; exact hlt)).2 (by have := HMM.out; omega); rw [HE.out, hpa, HAT.out] at this; simp only at this; rw [hb2] at this; cases this)
              rw [← hless, ← hless2] at hb2
              generalize tx (vs.getD m vwD).1 = s0 at *
              generalize tx v.1 = s1 at *
              clear hq HP hpa hless hless2 hm
              go_wp2
              (refine wp_region_ext (by kernel_rfl) (by kernel_rfl) ?_; (repeat (go_big_quiet_step ((go_at_call 82; exact Calls_ext (HC.out _))))); refine wpQuiet_nil ?_; intro wq hxwq; obtain ⟨hcwq, hfwq⟩ := hxwq.rules; have hswq := hxwq.size; (try simp at hswq))
              all_goals go_wp2
              all_goals go_ret
              all_goals exact ⟨ret_bool HNO.out.symm, by (repeat (first | with_reducible exact Ext.refl _ | with_reducible assumption | ((with_reducible apply Src.ext); with_reducible assumption) | with_reducible refine Ext.alloc ?_ _ | with_reducible refine Ext.drew ?_ | with_reducible refine Ext.drewN ?_ _ | ((with_reducible refine Ext.setCell' ?_ ?_ _); solve | omega | simp | (simp; omega)) | (with_reducible refine Ext.trans ?_ (by with_reducible assumption))))⟩
        · have hnb : ((v.2.2.2.length : Int) != (n : Int)) = true := by simp; omega
          have HNO : Hid (areV n (voOf vs) = false) := Lib.hid (areV_no fun hM => by have := (hM.2 k (by rw [voOf_len]; exact hlt)).1; rw [HAT.out] at this; simp [isvB, hlen] at this)
          generalize tx v.1 = s1 at *
          clear hq HP hless2
          go_wp2
          (refine wp_region_ext (by kernel_rfl) (by kernel_rfl) ?_; (repeat (go_big_quiet_step ((go_at_call 82; exact Calls_ext (HC.out _))))); refine wpQuiet_nil ?_; intro wq hxwq; obtain ⟨hcwq, hfwq⟩ := hxwq.rules; have hswq := hxwq.size; (try simp at hswq))
          all_goals go_wp2
          all_goals go_ret
          all_goals exact ⟨ret_bool HNO.out.symm, by (repeat (first | with_reducible exact Ext.refl _ | with_reducible assumption | ((with_reducible apply Src.ext); with_reducible assumption) | with_reducible refine Ext.alloc ?_ _ | with_reducible refine Ext.drew ?_ | with_reducible refine Ext.drewN ?_ _ | ((with_reducible refine Ext.setCell' ?_ ?_ _); solve | omega | simp | (simp; omega)) | (with_reducible refine Ext.trans ?_ (by with_reducible assumption))))⟩
    · obtain rfl : k = vs.length := by omega
      cases hin : inB vs.length 1 4 with
      | false =>
        have HNO : Hid (areV n (voOf vs) = false) := Lib.hid (areV_no fun hM => by have := hM.1; rw [voOf_len, hin] at this; cases this)
        have HW : Hid (∀ W, Calls Tryz.prog 65 #[.int .i64 vs.length, .int .i64 1, .int .i64 4] W fun e w' => e = .returned (.bool false) ∧ W = w') := Lib.hid fun W => as_bool0' (l01In_any _ _ _ _) hin
        clear hin
        (go_wp2_with fail; refine (HW.out _).mono ?_; rintro e w' ⟨rfl, rfl⟩)
        go_wp2
        go_ret
        exact ⟨ret_bool HNO.out.symm, by (repeat (first | with_reducible exact Ext.refl _ | with_reducible assumption | ((with_reducible apply Src.ext); with_reducible assumption) | with_reducible refine Ext.alloc ?_ _ | with_reducible refine Ext.drew ?_ | with_reducible refine Ext.drewN ?_ _ | ((with_reducible refine Ext.setCell' ?_ ?_ _); solve | omega | simp | (simp; omega)) | (with_reducible refine Ext.trans ?_ (by with_reducible assumption))))⟩
      | true =>
        have HYES : Hid (areV n (voOf vs) = true) := Lib.hid (areV_yes ⟨by rw [voOf_len]; exact hin, fun i hi => HJ.out i (by rw [voOf_len] at hi; exact hi)⟩)
        have HW : Hid (∀ W, Calls Tryz.prog 65 #[.int .i64 vs.length, .int .i64 1, .int .i64 4] W fun e w' => e = .returned (.bool true) ∧ W = w') := Lib.hid fun W => as_bool0' (l01In_any _ _ _ _) hin
        clear hin
        (go_wp2_with fail; refine (HW.out _).mono ?_; rintro e w' ⟨rfl, rfl⟩)
        go_wp2
        go_ret
        exact ⟨ret_bool HYES.out.symm, by (repeat (first | with_reducible exact Ext.refl _ | with_reducible assumption | ((with_reducible apply Src.ext); with_reducible assumption) | with_reducible refine Ext.alloc ?_ _ | with_reducible refine Ext.drew ?_ | with_reducible refine Ext.drewN ?_ _ | ((with_reducible refine Ext.setCell' ?_ ?_ _); solve | omega | simp | (simp; omega)) | (with_reducible refine Ext.trans ?_ (by with_reducible assumption))))⟩

set_option maxHeartbeats 3200000 in
theorem s_AreViews (A A' : Option Addr) (c c' : Nat) (rs : List Rg) (vs : List Vw) (w : World) (h : SlAt w 1 encR A rs) (hr : Rings w rs) (hl : rs.length ≤ 1048576) (h' : SlAt w 2 encV A' vs) (hv : Views w vs) (hl' : vs.length ≤ 1048576) :
    Calls Tryz.prog 29 #[.slice A rs.length c, .slice A' vs.length c'] w fun e w' => e = .returned (.bool (viB (psOf rs) (voOf vs))) ∧ Ext w w' := by
  have HM := Lib.hid (s_IsMap A c rs w h hr hl)
  have HA := Lib.hid (fun W hx => s_l18Are rs.length A' c' vs W hl (h'.ext hx) (hv.ext hx) hl')
  have hd : viB (psOf rs) (voOf vs) = (mapB (psOf rs) && areV rs.length (voOf vs)) := by unfold viB; rw [psOf_len, Bool.and_comm]
  rw [hd]
  clear hd h hr h' hv
  cases hm : mapB (psOf rs) with
  | false =>
    rw [hm] at HM
    clear hm
    go_enter Tryz.func29, Tryz.ntmps29
    go_wp2_with fail
    refine HM.out.mono ?_
    rintro e w1 ⟨rfl, hx1⟩
    go_wp2
    go_ret
    exact ⟨rfl, by (repeat (first | with_reducible exact Ext.refl _ | with_reducible assumption | ((with_reducible apply Src.ext); with_reducible assumption) | with_reducible refine Ext.alloc ?_ _ | with_reducible refine Ext.drew ?_ | with_reducible refine Ext.drewN ?_ _ | ((with_reducible refine Ext.setCell' ?_ ?_ _); solve | omega | simp | (simp; omega)) | (with_reducible refine Ext.trans ?_ (by with_reducible assumption))))⟩
  | true =>
    rw [hm] at HM
    clear hm
    go_enter Tryz.func29, Tryz.ntmps29
    go_wp2_with fail
    refine HM.out.mono ?_
    rintro e w1 ⟨rfl, hx1⟩
    go_wp2_with fail
    refine (HA.out _ (by (repeat (first | with_reducible exact Ext.refl _ | with_reducible assumption | ((with_reducible apply Src.ext); with_reducible assumption) | with_reducible refine Ext.alloc ?_ _ | with_reducible refine Ext.drew ?_ | with_reducible refine Ext.drewN ?_ _ | ((with_reducible refine Ext.setCell' ?_ ?_ _); solve | omega | simp | (simp; omega)) | (with_reducible refine Ext.trans ?_ (by with_reducible assumption)))))).mono ?_
    rintro e w2 ⟨rfl, hx2⟩
    go_wp2
    go_ret
    exact ⟨rfl, by (repeat (first | with_reducible exact Ext.refl _ | with_reducible assumption | ((with_reducible apply Src.ext); with_reducible assumption) | with_reducible refine Ext.alloc ?_ _ | with_reducible refine Ext.drew ?_ | with_reducible refine Ext.drewN ?_ _ | ((with_reducible refine Ext.setCell' ?_ ?_ _); solve | omega | simp | (simp; omega)) | (with_reducible refine Ext.trans ?_ (by with_reducible assumption))))⟩

end Go.Proofs.YtabdffponmmhoaaGreatDoor
namespace Go.Proofs.YtabdffponmmhoaaGreatDoor
open Go.ChangeShapes Go.WideShapes Go.ChangeAt Go.RowKit Go.Deep Go.Joins
/-- a list of views among a law's arguments -/
structure ArgV (w : World) (A : Option Addr) (vs : List Vw) : Prop where
  sl : SlAt w 2 encV A vs
  rg : ∀ i, i < vs.length → SlAt w 1 encS (vs.getD i vwD).2.1 (vs.getD i vwD).2.2.2 ∧ CanV (vs.getD i vwD)
  len : vs.length ≤ 9223372036854775807
theorem ArgV.ext {w w' : World} {A : Option Addr} {vs : List Vw} (h : ArgV w A vs) (hx : Ext w w') : ArgV w' A vs := ⟨h.sl.ext hx, fun i hi => ⟨(h.rg i hi).1.ext hx, (h.rg i hi).2⟩, h.len⟩
theorem max_le {n : Nat} (h : n ≤ maxLen) : n ≤ 9223372036854775807 := by unfold maxLen at h; omega
theorem size_tx (s : ByteArray) : s.data.toList.length = s.size := by rw [Array.length_toList]; rfl
theorem trod_tx {H : Type} {enc : TypeId × Value → H} {P : Program} {w : World} {base : Nat} {held : Bool} {fuel : Nat} {ts : TypeId} {cs : List Value} {x : DataW H × List MemPlace} (hu : P.underlying ts = some .string)
    (h : DataW.trod enc P w base (fun _ => true) held fuel ts cs = some x) : ∃ l : List UInt8, cs = encS l ∧ l.length ≤ 9223372036854775807 := by
  obtain ⟨s, e, _, hs⟩ := DataW.trod_string hu h
  exact ⟨s.data.toList, e, by rw [size_tx]; exact max_le hs⟩
theorem trod_txs {H : Type} {enc : TypeId × Value → H} {P : Program} {w : World} {base : Nat} {held : Bool} {fuel : Nat} {t ts : TypeId} {cs : List Value} {x : DataW H × List MemPlace} (ht : P.underlying t = some (.slice ts)) (hu : P.underlying ts = some .string) (hC : P.cellsOf ts = 1)
    (h : DataW.trod enc P w base (fun _ => true) held fuel t cs = some x) : ∃ (A : Option Addr) (c : Nat) (L : List (List UInt8)), cs = [.slice A L.length c] ∧ SlAt w 1 encS A L ∧ L.length ≤ 9223372036854775807 ∧ ∀ i, i < L.length → (L.getD i []).length ≤ 9223372036854775807 := by
  obtain ⟨A, c, xs, rfl, hS, hG, _, _⟩ := open_sl (α := List UInt8) encS (fun l => l.length ≤ 9223372036854775807) ht hC (by omega) (fun n cs x h => trod_tx hu h) h
  exact ⟨A, c, xs, rfl, hS, trod_len ht h, fun i hi => hG _ (by simp [List.getD, hi])⟩
theorem trod_vw {H : Type} {enc : TypeId × Value → H} {P : Program} {w : World} {base : Nat} {held : Bool} {fuel : Nat} {t ts tl : TypeId} {f0 f1 : Field} {cs : List Value} {x : DataW H × List MemPlace} (hs : P.underlying t = some (.struct #[f0, f1]))
    (hu : P.underlying ts = some .string) (hl : P.underlying tl = some (.slice ts)) (h0 : f0.type = ts) (h1 : f1.type = tl) (hone : oneCellFields P #[f0, f1] = true) (hC : P.cellsOf t = 2) (hC1 : P.cellsOf ts = 1)
    (h : DataW.trod enc P w base (fun _ => true) held fuel t cs = some x) : ∃ v : Vw, cs = encV v ∧ SlAt w 1 encS v.2.1 v.2.2.2 ∧ CanV v := by
  obtain ⟨xs, n, _, _, hll, hlen, hg⟩ := DataW.trod_struct hs h
  obtain ⟨o0, k0⟩ := hone_of hone 0 f0 rfl
  obtain ⟨o1, k1⟩ := hone_of hone 1 f1 rfl
  have g0 := hg 0 f0 rfl
  have g1 := hg 1 f1 rfl
  rw [o0, k0, h0, List.getElem?_eq_getElem (show 0 < xs.length by rw [hlen]; simp)] at g0
  rw [o1, k1, h1, List.getElem?_eq_getElem (show 1 < xs.length by rw [hlen]; simp)] at g1
  match cs, hll.trans hC with
  | [c0, c1], _ =>
    obtain ⟨l, e0, hll0⟩ := trod_tx hu g0
    obtain ⟨A, c, L, e1, hS, hL, hLs⟩ := trod_txs hl hu hC1 g1
    simp [encS] at e0 e1
    subst e0 e1
    exact ⟨(l, A, c, L), rfl, hS, hll0, hL, hLs⟩
set_option maxRecDepth 100000 in
/-- a list of views among the arguments -/
theorem openLV {H : Type} {enc : TypeId × Value → H} {w : World} {base : Nat} {t e ts tl : TypeId} {f0 f1 : Field} {v : Value} {d : DataW H} {p : List MemPlace}
    (ht : Tryz.prog.underlying t = some (.slice e)) (hs : Tryz.prog.underlying e = some (.struct #[f0, f1])) (hu : Tryz.prog.underlying ts = some .string) (hl : Tryz.prog.underlying tl = some (.slice ts)) (h0 : f0.type = ts) (h1 : f1.type = tl) (hone : oneCellFields Tryz.prog #[f0, f1] = true) (hC : Tryz.prog.cellsOf e = 2) (hC1 : Tryz.prog.cellsOf ts = 1)
    (hv : Value.okWide Tryz.prog w .any base t v) (h : DataW.Trod enc Tryz.prog w 0 (fun _ => true) true t v d p) :
    ∃ (A : Option Addr) (c : Nat) (vs : List Vw), v = .slice A vs.length c ∧ ArgV w A vs := by
  obtain ⟨a0, len, cap, rfl⟩ := okWide_slice ht hv
  obtain ⟨fuel, hf⟩ := h
  obtain ⟨A, c, vs, hcs, hS, hG, _, _⟩ := open_sl (α := Vw) encV (fun v => SlAt w 1 encS v.2.1 v.2.2.2 ∧ CanV v) ht hC (by omega)
    (fun n cs x h => trod_vw hs hu hl h0 h1 hone hC hC1 h) hf
  have hlen : len ≤ 9223372036854775807 := trod_len (A := a0) (c := cap) ht (by simpa [Value.cells] using hf)
  have hcs' : Value.slice a0 len cap = .slice A vs.length c := by simpa [Value.cells] using hcs
  refine ⟨A, c, vs, hcs', hS, fun i hi => hG _ (vw_mem hi), ?_⟩
  injection hcs' with _ e2
  omega
end Go.Proofs.YtabdffponmmhoaaGreatDoor
