/- Lists of links, sorted lists of places, and places that are a child, as the program sees them. -/
import Derived.Test.YtmpgjajkaehdiaaGreatDoorZC
import Derived.Test.YtmpgjajkaehdiaaGreatDoorGU
import Derived.Test.YtmpgjajkaehdiaaGreatDoorHG
import Derived.Test.YtmpgjajkaehdiaaGreatDoorShB
import Derived.Sort.OwnSorted
import Derived.Deep.RegionHeld3
import Derived.Deep.DeepCutAuto
import Derived.RegionTactic
import Derived.BigRegion
import Derived.WalkLawsBesides
import Derived.WalkSpells
import Derived.Lib.MinMax
import Derived.Outline
namespace Go.Proofs.YtmpgjajkaehdiaaGreatDoor
open Go.RowKit Go.Sort
attribute [local go_sem] ExtOf.cell ExtOf.frozen

theorem encS_flat (xs : List (List UInt8)) : xs.flatMap encS = xs.map encStr := by
  induction xs with
  | nil => rfl
  | cons x xs ih => rw [List.flatMap_cons, ih]; rfl
theorem ret_val {a b : Value} (h : a = b) : Ending.returned a = .returned b := by rw [h]
theorem Own.front {α : Type} {enc : α → List Value} {sz base : Nat} {t : TypeId} {w : World} {A : Option Addr} {n c : Nat} {xs ys : List α} (hk : ∀ x, (enc x).length = sz) (h : Own enc sz t w base (.slice A n c) (xs ++ ys)) (h0 : 0 < (xs ++ ys).length) : Own enc sz t w base (.slice A xs.length c) xs := by
  obtain ⟨g, cap, cur, e, hb, hB, hn, hm, hs, ht⟩ := h.open_ h0
  injection e with e1 e2 e3
  subst e1 e3
  rw [List.length_append] at hn ht
  refine ⟨flatMap_len hk xs, .inr ⟨g, c, cur, rfl, hb, hB, by omega, hm, hs, ?_⟩⟩
  have h2 := congrArg (List.take (xs.length * sz)) ht
  rw [List.take_take, Nat.min_eq_left (Nat.mul_le_mul_right _ (by omega)), List.flatMap_append, List.take_append_of_le_length (by rw [flatMap_len hk]; exact Nat.le_refl _), List.take_of_length_le (l := xs.flatMap enc) (by rw [flatMap_len hk]; exact Nat.le_refl _)] at h2
  exact h2
theorem own_open' {base g n cap : Nat} {xs : List (List UInt8)} {w : World} (h : OwS w base (.slice (some ⟨g, 0, none⟩) n cap) xs) : ∃ cur, base ≤ g ∧ w.heap[g]? = some (.cells cur 9 (0, 0)) ∧ n = xs.length ∧ n ≤ cap ∧ cap ≤ maxLen ∧ cur.size = cap * 1 ∧ cur.toList.take n = xs.map encStr := by
  rcases h.2 with ⟨e, _⟩ | ⟨g', cap', cur, e, hb, hc, h1, h2, h3, h4⟩
  · cases e
  injection e with e1 e2 e3
  injection e1 with e1
  injection e1 with e1
  subst e1 e2 e3
  rw [Nat.mul_one, encS_flat] at h4
  exact ⟨cur, hb, hc, rfl, h1, h2, h3, h4⟩
theorem own_ofmap {base g n cap : Nat} {xs : List (List UInt8)} {w : World} (hn : n = xs.length) (h : w.ownsRow base 9 1 (.slice (some ⟨g, 0, none⟩) n cap) n (xs.map encStr)) : OwS w base (.slice (some ⟨g, 0, none⟩) n cap) xs := by
  unfold OwS Own
  rw [encS_flat, ← hn]
  exact h
theorem sort_own {base g n cap : Nat} {xs : List (List UInt8)} {w : World} (h : OwS w base (.slice (some ⟨g, 0, none⟩) n cap) xs) (hl : n ≤ 1048576) :
    Calls Tryz.prog 110 #[.slice (some ⟨g, 0, none⟩) n cap] w fun e w' => e = .returned (.tuple #[]) ∧ OwS w' base (.slice (some ⟨g, 0, none⟩) n cap) (xs.mergeSort fun x y => decide (x ≤ y)) ∧ w.grownBy w' (some g) := by
  obtain ⟨cur, hb, hc, rfl, h1, h2, h3, h4⟩ := own_open' h
  refine (Tryz.slices_Sort_string g 0 cap xs w (holds_of_block hc h4) (Array.getElem?_eq_some_iff.1 hc).1 (by omega)).mono ?_
  rintro e w' ⟨he, q, os, hw⟩
  subst hw
  have hlen : (xs.mergeSort fun x y => decide (x ≤ y)).length = xs.length := List.length_mergeSort _
  exact ⟨he, own_ofmap hlen.symm (ownsRow_sorted hlen hb hc h1 h2 h3), grownBy_sorted _⟩
theorem compact_own {base g n cap : Nat} {xs : List (List UInt8)} {w : World} (h : OwS w base (.slice (some ⟨g, 0, none⟩) n cap) xs) (hl : n ≤ 1048576) :
    Calls Tryz.prog 111 #[.slice (some ⟨g, 0, none⟩) n cap] w fun e w' => e = .returned (.slice (some ⟨g, 0, none⟩) (Lib.compact xs).length cap) ∧ OwS w' base (.slice (some ⟨g, 0, none⟩) (Lib.compact xs).length cap) (Lib.compact xs) ∧ w.grownBy w' (some g) := by
  obtain ⟨cur, hb, hc, rfl, h1, h2, h3, h4⟩ := own_open' h
  refine (Tryz.slices_Compact_string g 0 cap xs w (holds_of_block hc h4) (by omega) h1).mono ?_
  rintro e w' ⟨he, q, hw⟩
  subst hw
  have hcl := compact_len xs
  have hts : (Lib.compact xs ++ List.replicate (xs.length - (Lib.compact xs).length) []).length = xs.length := by simp; omega
  have hO2 := ownsRow_sorted (n := q) (os := #[]) (ss := xs) (ts := Lib.compact xs ++ List.replicate (xs.length - (Lib.compact xs).length) []) hts hb hc h1 h2 h3
  have hg2 := grownBy_sorted (n := q) (os := #[]) (w := w) (g := g) (Lib.compact xs ++ List.replicate (xs.length - (Lib.compact xs).length) []).toArray
  rw [grow_empty] at hO2 hg2
  have hO3 := own_ofmap hts.symm hO2
  refine ⟨he, ?_, hg2⟩
  rcases Nat.eq_zero_or_pos xs.length with hz | hz
  · have hxs : xs = [] := List.length_eq_zero_iff.1 hz
    subst hxs
    exact hO3
  · exact hO3.front len_encS (by rw [hts]; exact hz)
theorem sortA_nil : sortA [] = [] := by simp [sortA, cpt]
set_option maxHeartbeats 1600000 in
theorem i_sorted (base : Nat) (v : Value) (xs : List (List UInt8)) (w : World) (h : OwS w base v xs) (hl : xs.length ≤ 1048576) :
    Calls Tryz.prog 81 #[v] w fun e w' => ∃ v', e = .returned v' ∧ OwS w' base v' (sortA xs) ∧ w.grownBy w' v.ownBlock := by
  rcases h.2 with ⟨rfl, h0⟩ | ⟨g, cap, cur, rfl, hbase, hb, h1, h2, h3, h4⟩
  · have hx : xs = [] := List.length_eq_zero_iff.1 h0
    subst hx
    clear h
    go_enter Tryz.func81, Tryz.ntmps81
    go_wp2_with fail
    refine (Tryz.slices_Sort_string_none none 0 _).mono ?_
    rintro e w' ⟨rfl, rfl⟩
    go_wp2_with fail
    refine (Tryz.slices_Compact_string_empty none 0 _).mono ?_
    rintro e w' ⟨rfl, rfl⟩
    go_wp2
    go_ret
    exact ⟨_, rfl, by rw [sortA_nil]; exact Own.nil _ _, World.grownBy.refl _ _⟩
  · clear hb h1 h2 h3 h4 hbase
    have hS := sort_own h hl
    have HC : Hid (∀ W, OwS W base (.slice (some ⟨g, 0, none⟩) xs.length cap) (xs.mergeSort fun x y => decide (x ≤ y)) → Calls Tryz.prog 111 #[.slice (some ⟨g, 0, none⟩) xs.length cap] W fun e w' => e = .returned (.slice (some ⟨g, 0, none⟩) (sortA xs).length cap) ∧ OwS w' base (.slice (some ⟨g, 0, none⟩) (sortA xs).length cap) (sortA xs) ∧ W.grownBy w' (some g)) := Lib.hid (fun W hW => by
      have := compact_own hW hl
      rw [compact_sort] at this
      exact this)
    have HS := Lib.hid hS
    generalize (xs.mergeSort fun x y => decide (x ≤ y)) = ss at *
    generalize sortA xs = ts at *
    generalize xs.length = n at *
    clear h hS
    go_enter Tryz.func81, Tryz.ntmps81
    go_wp2_with fail
    refine HS.out.mono ?_
    rintro e w1 ⟨rfl, hO1, hg1⟩
    have HO1 := Lib.hid hO1
    have HG1 := Lib.hid hg1
    clear hO1 hg1
    go_wp2_with fail
    refine (HC.out _ HO1.out).mono ?_
    rintro e w2 ⟨rfl, hO2, hg2⟩
    have HO2 := Lib.hid hO2
    have HG2 := Lib.hid hg2
    clear hO2 hg2
    go_wp2
    go_ret
    exact ⟨_, rfl, HO2.out, HG1.out.trans HG2.out⟩

/-- the children among the first k links that p asks for -/
def chTo (L : List Lk) (y : Int) (p : List UInt8 → Bool) (k : Nat) : List (List UInt8) := ((L.take k).filter fun l => lkHas l y && p l.1).map fun l => l.1
theorem chTo_succ {L : List Lk} {y : Int} {p : List UInt8 → Bool} {k : Nat} (hk : k < L.length) : chTo L y p (k + 1) = if (lkHas (L.getD k lkD) y && p (L.getD k lkD).1) = true then chTo L y p k ++ [(L.getD k lkD).1] else chTo L y p k := by
  unfold chTo
  rw [List.take_succ_eq_append_getElem hk, List.filter_append, List.map_append, show L.getD k lkD = L[k] by simp [List.getD, hk]]
  by_cases h : (lkHas L[k] y && p L[k].1) = true
  · rw [if_pos h]; simp [h]
  · rw [if_neg h]; simp [h]
theorem chTo_len (L : List Lk) (y : Int) (p : List UInt8 → Bool) (k : Nat) : (chTo L y p k).length ≤ k := by
  unfold chTo
  rw [List.length_map]
  have := List.length_filter_le (fun l => lkHas l y && p l.1) (L.take k)
  rw [List.length_take] at this
  omega
set_option maxRecDepth 20000 in
set_option maxHeartbeats 6400000 in
theorem i_childrenOf (p : List UInt8 → Bool) (g : Nat) (lb : Array Value) (eg : ∀ args w, (callFunc g args).run Tryz.prog w = .ok (.enter g args) w) (A : Option Addr) (n c : Nat) (L : List Lk) (y : Int) (w : World) (h : SlAt w 4 encK A L) (hn : n = L.length) (hl : n ≤ 1000)
    (hp : ∀ l ∈ L, ∀ W, Ext w W → Calls Tryz.prog g (#[.string (tx l.1)] ++ lb) W fun e w' => e = .returned (.bool (p l.1)) ∧ Ext W w') :
    Calls Tryz.prog 63 #[.slice A n c, .int .i64 y, .func (.func g) #[] lb] w fun e w' => ∃ v, e = .returned v ∧ OwS w' w.heap.size v (sortA ((L.filter fun l => lkHas l y && p l.1).map fun l => l.1)) ∧ Ext w w' := by
  have HP := Lib.hid hp
  have HN := Lib.hid hn
  have HS := Lib.hid h
  have hfin : chTo L y p n = (L.filter fun l => lkHas l y && p l.1).map fun l => l.1 := by unfold chTo; rw [hn, List.take_length]
  have HFIN := Lib.hid hfin
  clear hp hn h hfin
  go_enter Tryz.func63, Tryz.ntmps63
  go_wp2
  go_loopw [7, 12] (fun v i wr => ∃ k : Nat, k ≤ n ∧ i = .int .i64 k ∧ Hid (OwS wr w.heap.size v (chTo L y p k)) ∧ Ext w wr) (fun _ i _ => n - (intOf i).toNat)
  case atStart => exact ⟨0, by omega, rfl, Lib.hid (Own.nil _ _), by (repeat (first | with_reducible exact Ext.refl _ | with_reducible assumption | ((with_reducible apply Src.ext); with_reducible assumption) | with_reducible refine Ext.alloc ?_ _ | with_reducible refine Ext.drew ?_ | with_reducible refine Ext.drewN ?_ _ | ((with_reducible refine Ext.setCell' ?_ ?_ _); solve | omega | simp | (simp; omega)) | (with_reducible refine Ext.trans ?_ (by with_reducible assumption))))⟩
  case round =>
    obtain ⟨k, hk, rfl, HV, hxr⟩ := hrel
    obtain ⟨w5, rfl⟩ : ∃ x, x = wr := ⟨wr, rfl⟩
    by_cases hlt : k < n
    · have hkr : k < L.length := by rw [← HN.out]; exact hlt
      obtain ⟨b, off, rfl, hb, d0, d1, d2, d3⟩ := (HS.out.ext hxr).lk hkr
      have hcall := HP.out _ (mem_getD (d := lkD) hkr)
      have hsucc := chTo_succ (y := y) (p := p) hkr
      have hln := chTo_len L y p k
      have HH := Lib.hid (fun W => i_has (L.getD k lkD).2.2.1 (L.getD k lkD).2.2.2 y W)
      have hlk : lkHas (L.getD k lkD) y = inB y (L.getD k lkD).2.2.1 (L.getD k lkD).2.2.2 := rfl
      cases hq : lkHas (L.getD k lkD) y with
      | false =>
        rw [hq] at hsucc
        rw [← hlk, hq] at HH
        have HSU : Hid (chTo L y p (k + 1) = chTo L y p k) := Lib.hid (by rw [hsucc]; simp)
        clear hcall hsucc hlk hq
        generalize L.getD k lkD = l at *
        generalize tx l.1 = sc at *
        generalize tx l.2.1 = sp at *
        go_wp2_with fail
        refine (HH.out _).mono ?_
        rintro e w1 ⟨rfl, hx1⟩
        go_wp2
        go_roundw
        case rel => exact ⟨k + 1, by omega, by go_num, Lib.hid (by rw [HSU.out]; exact HV.out.ext (by (repeat (first | with_reducible exact Ext.refl _ | with_reducible assumption | ((with_reducible apply Src.ext); with_reducible assumption) | with_reducible refine Ext.alloc ?_ _ | with_reducible refine Ext.drew ?_ | with_reducible refine Ext.drewN ?_ _ | ((with_reducible refine Ext.setCell' ?_ ?_ _); solve | omega | simp | (simp; omega)) | (with_reducible refine Ext.trans ?_ (by with_reducible assumption)))))), by (repeat (first | with_reducible exact Ext.refl _ | with_reducible assumption | ((with_reducible apply Src.ext); with_reducible assumption) | with_reducible refine Ext.alloc ?_ _ | with_reducible refine Ext.drew ?_ | with_reducible refine Ext.drewN ?_ _ | ((with_reducible refine Ext.setCell' ?_ ?_ _); solve | omega | simp | (simp; omega)) | (with_reducible refine Ext.trans ?_ (by with_reducible assumption))))⟩
        case measure => simp [intOf]; omega
      | true =>
        rw [← hlk, hq] at HH
        cases hq2 : p (L.getD k lkD).1 with
        | false =>
          rw [hq, hq2] at hsucc
          rw [hq2] at hcall
          have HC := Lib.hid hcall
          have HSU : Hid (chTo L y p (k + 1) = chTo L y p k) := Lib.hid (by rw [hsucc]; simp)
          clear hcall hsucc hlk hq hq2
          generalize L.getD k lkD = l at *
          generalize tx l.1 = sc at *
          generalize tx l.2.1 = sp at *
          go_wp2_with fail
          refine (HH.out _).mono ?_
          rintro e w1 ⟨rfl, hx1⟩
          obtain ⟨hc1, hf1⟩ := hx1.rules
          have hs1 := hx1.size
          (try simp at hs1)
          have := (show w5.heap.size < w1.heap.size from by omega)
          go_wp2_with fail
          refine (HC.out _ (by (repeat (first | with_reducible exact Ext.refl _ | with_reducible assumption | ((with_reducible apply Src.ext); with_reducible assumption) | with_reducible refine Ext.alloc ?_ _ | with_reducible refine Ext.drew ?_ | with_reducible refine Ext.drewN ?_ _ | ((with_reducible refine Ext.setCell' ?_ ?_ _); solve | omega | simp | (simp; omega)) | (with_reducible refine Ext.trans ?_ (by with_reducible assumption)))))).mono ?_
          rintro e w2 ⟨rfl, hx2⟩
          go_wp2
          go_roundw
          case rel => exact ⟨k + 1, by omega, by go_num, Lib.hid (by rw [HSU.out]; exact HV.out.ext (by (repeat (first | with_reducible exact Ext.refl _ | with_reducible assumption | ((with_reducible apply Src.ext); with_reducible assumption) | with_reducible refine Ext.alloc ?_ _ | with_reducible refine Ext.drew ?_ | with_reducible refine Ext.drewN ?_ _ | ((with_reducible refine Ext.setCell' ?_ ?_ _); solve | omega | simp | (simp; omega)) | (with_reducible refine Ext.trans ?_ (by with_reducible assumption)))))), by (repeat (first | with_reducible exact Ext.refl _ | with_reducible assumption | ((with_reducible apply Src.ext); with_reducible assumption) | with_reducible refine Ext.alloc ?_ _ | with_reducible refine Ext.drew ?_ | with_reducible refine Ext.drewN ?_ _ | ((with_reducible refine Ext.setCell' ?_ ?_ _); solve | omega | simp | (simp; omega)) | (with_reducible refine Ext.trans ?_ (by with_reducible assumption))))⟩
          case measure => simp [intOf]; omega
        | true =>
          rw [hq, hq2] at hsucc
          rw [hq2] at hcall
          have HC := Lib.hid hcall
          have HSU : Hid (chTo L y p (k + 1) = chTo L y p k ++ [(L.getD k lkD).1]) := Lib.hid (by rw [hsucc]; simp)
          have HBL := Lib.hid (fun (W : World) (g : Nat) (hB : Blk W g 9 #[.string (tx (L.getD k lkD).1)]) => blk_s1 hB)
          clear hcall hsucc hlk hq hq2
          generalize L.getD k lkD = l at *
          have HLN : Hid ((chTo L y p k).length ≤ 1000) := Lib.hid (by omega)
          generalize tx l.1 = sc at *
          generalize tx l.2.1 = sp at *
          clear hln
          go_wp2_with fail
          refine (HH.out _).mono ?_
          rintro e w1 ⟨rfl, hx1⟩
          obtain ⟨hc1, hf1⟩ := hx1.rules
          have hs1 := hx1.size
          (try simp at hs1)
          have := (show w5.heap.size < w1.heap.size from by omega)
          go_wp2_with fail
          refine (HC.out _ (by (repeat (first | with_reducible exact Ext.refl _ | with_reducible assumption | ((with_reducible apply Src.ext); with_reducible assumption) | with_reducible refine Ext.alloc ?_ _ | with_reducible refine Ext.drew ?_ | with_reducible refine Ext.drewN ?_ _ | ((with_reducible refine Ext.setCell' ?_ ?_ _); solve | omega | simp | (simp; omega)) | (with_reducible refine Ext.trans ?_ (by with_reducible assumption)))))).mono ?_
          rintro e w2 ⟨rfl, hx2⟩
          obtain ⟨hc2, hf2⟩ := hx2.rules
          have hs2 := hx2.size
          (try simp at hs2)
          have := (show w5.heap.size < w2.heap.size from by omega)
          have hsr := hxr.size
          have HV1 : Hid (OwS w2 w.heap.size _ (chTo L y p k)) := Lib.hid (HV.out.ext (by (repeat (first | with_reducible exact Ext.refl _ | with_reducible assumption | ((with_reducible apply Src.ext); with_reducible assumption) | with_reducible refine Ext.alloc ?_ _ | with_reducible refine Ext.drew ?_ | with_reducible refine Ext.drewN ?_ _ | ((with_reducible refine Ext.setCell' ?_ ?_ _); solve | omega | simp | (simp; omega)) | (with_reducible refine Ext.trans ?_ (by with_reducible assumption))))))
          go_wp2_with (at_builtin; refine wpList_append_sl elS len_encS one_encS rfl _ _ rfl rfl (HV1.out.ext (by (repeat (first | with_reducible exact Ext.refl _ | with_reducible assumption | ((with_reducible apply Src.ext); with_reducible assumption) | with_reducible refine Ext.alloc ?_ _ | with_reducible refine Ext.drew ?_ | with_reducible refine Ext.drewN ?_ _ | ((with_reducible refine Ext.setCell' ?_ ?_ _); solve | omega | simp | (simp; omega)) | (with_reducible refine Ext.trans ?_ (by with_reducible assumption)))))) (xs := [l.1]) rfl (HBL.out _ _ (by (repeat (first | with_reducible assumption | ((with_reducible apply Blk.new); solve | simp | rfl) | with_reducible apply Blk.drew | with_reducible apply Blk.drewN | ((with_reducible apply Blk.far'); solve | omega | simp | (simp; omega)) | with_reducible apply Blk.set_ | with_reducible apply Blk.alloc | ((with_reducible apply Blk.ext'); with_reducible assumption) | ((with_reducible apply Blk.but'); (with_reducible assumption); solve | omega | (simp; omega)))))) (by have := HLN.out; simp; unfold maxLen; omega) (by have := HLN.out; simp; omega) (by first | omega | (simp; omega)) ?_)
          intro v' w6 hown hgrow _
          have HV2 := Lib.hid hown
          have hx6 : Ext w w6 := by
            refine Ext.grown ?_ hgrow (fun q hq => (HV.out.row q hq).1)
            (repeat (first | with_reducible exact Ext.refl _ | with_reducible assumption | ((with_reducible apply Src.ext); with_reducible assumption) | with_reducible refine Ext.alloc ?_ _ | with_reducible refine Ext.drew ?_ | with_reducible refine Ext.drewN ?_ _ | ((with_reducible refine Ext.setCell' ?_ ?_ _); solve | omega | simp | (simp; omega)) | (with_reducible refine Ext.trans ?_ (by with_reducible assumption))))
          clear hown hgrow
          go_wp2
          go_roundw
          case rel => exact ⟨k + 1, by omega, by go_num, Lib.hid (by rw [HSU.out]; exact HV2.out), hx6⟩
          case measure => simp [intOf]; omega
    · obtain rfl : k = n := by omega
      have hln := chTo_len L y p k
      have HC := Lib.hid (i_sorted _ _ _ _ HV.out (by omega))
      rw [HFIN.out] at HC
      go_wp2_with fail
      refine HC.out.mono ?_
      rintro e w1 ⟨v', rfl, hO, hg⟩
      have HO := Lib.hid hO
      have hx1 : Ext w w1 := hxr.grown hg (fun q hq => (HV.out.row q hq).1)
      clear hg hO
      go_wp2
      go_ret
      exact ⟨_, rfl, HO.out, hx1⟩
end Go.Proofs.YtmpgjajkaehdiaaGreatDoor
