/- The years of changes as the program gathers, sorts and compacts them. -/
import Derived.Test.YtmpgjajkaehdiaaGreatDoorUA
import Derived.Test.YtmpgjajkaehdiaaGreatDoorUS
import Derived.Test.YtmpgjajkaehdiaaGreatDoorZC
import Derived.Sort.OwnSortedInts
import Derived.Deep.RegionHeld3
import Derived.Deep.DeepCutAuto
import Derived.RegionTactic
import Derived.BigRegion
import Derived.WalkLawsBesides
import Derived.WalkSpells
import Derived.Lib.MinMax
import Derived.Outline
namespace Go.Proofs.YtmpgjajkaehdiaaGreatDoor
open Go.RowKit Go.Sort
attribute [local go_sem] ExtOf.cell ExtOf.frozen

theorem encI_flat (xs : List Int) : xs.flatMap encI = xs.map (Value.int .i64) := by
  induction xs with
  | nil => rfl
  | cons x xs ih => rw [List.flatMap_cons, ih]; rfl
theorem Own.frontI {base : Nat} {t : TypeId} {w : World} {A : Option Addr} {n c : Nat} {xs ys : List Int} (h : Own encI 1 t w base (.slice A n c) (xs ++ ys)) (h0 : 0 < (xs ++ ys).length) : Own encI 1 t w base (.slice A xs.length c) xs := by
  obtain ⟨g, cap, cur, e, hb, hB, hn, hm, hs, ht⟩ := h.open_ h0
  injection e with e1 e2 e3
  subst e1 e3
  rw [List.length_append] at hn ht
  refine ⟨flatMap_len len_encI xs, .inr ⟨g, c, cur, rfl, hb, hB, by omega, hm, hs, ?_⟩⟩
  have h2 := congrArg (List.take (xs.length * 1)) ht
  rw [List.take_take, Nat.min_eq_left (Nat.mul_le_mul_right _ (by omega)), List.flatMap_append, List.take_append_of_le_length (by rw [flatMap_len len_encI]; exact Nat.le_refl _), List.take_of_length_le (l := xs.flatMap encI) (by rw [flatMap_len len_encI]; exact Nat.le_refl _)] at h2
  exact h2
theorem ownI_open {base g n cap : Nat} {xs : List Int} {w : World} (h : OwI w base (.slice (some ⟨g, 0, none⟩) n cap) xs) : ∃ cur, base ≤ g ∧ w.heap[g]? = some (.cells cur 2 (0, 0)) ∧ n = xs.length ∧ n ≤ cap ∧ cap ≤ maxLen ∧ cur.size = cap * 1 ∧ cur.toList.take n = xs.map (Value.int .i64) := by
  rcases h.2 with ⟨e, _⟩ | ⟨g', cap', cur, e, hb, hc, h1, h2, h3, h4⟩
  · cases e
  injection e with e1 e2 e3
  injection e1 with e1
  injection e1 with e1
  subst e1 e2 e3
  rw [Nat.mul_one, encI_flat] at h4
  exact ⟨cur, hb, hc, rfl, h1, h2, h3, h4⟩
theorem ownI_ofmap {base g n cap : Nat} {xs : List Int} {w : World} (hn : n = xs.length) (h : w.ownsRow base 2 1 (.slice (some ⟨g, 0, none⟩) n cap) n (xs.map (Value.int .i64))) : OwI w base (.slice (some ⟨g, 0, none⟩) n cap) xs := by
  unfold OwI Own
  rw [encI_flat, ← hn]
  exact h
theorem sortI_own {base g n cap : Nat} {xs : List Int} {w : World} (h : OwI w base (.slice (some ⟨g, 0, none⟩) n cap) xs) (hl : n ≤ 1048576) :
    Calls Tryz.prog 95 #[.slice (some ⟨g, 0, none⟩) n cap] w fun e w' => e = .returned (.tuple #[]) ∧ OwI w' base (.slice (some ⟨g, 0, none⟩) n cap) (xs.mergeSort fun x y => decide (x ≤ y)) ∧ w.grownBy w' (some g) := by
  obtain ⟨cur, hb, hc, rfl, h1, h2, h3, h4⟩ := ownI_open h
  refine (AnyM.slices_Sort_int Tryz.sortY g 0 cap xs w (holds_of_blockI hc h4) (Array.getElem?_eq_some_iff.1 hc).1 (by omega)).mono ?_
  rintro e w' ⟨he, q, os, hw⟩
  subst hw
  have hlen : (xs.mergeSort fun x y => decide (x ≤ y)).length = xs.length := List.length_mergeSort _
  exact ⟨he, ownI_ofmap hlen.symm (ownsRow_sortedI hlen hb hc h1 h2 h3), grownBy_sortedI _⟩
theorem compactI_own {base g n cap : Nat} {xs : List Int} {w : World} (h : OwI w base (.slice (some ⟨g, 0, none⟩) n cap) xs) (hl : n ≤ 1048576) :
    Calls Tryz.prog 96 #[.slice (some ⟨g, 0, none⟩) n cap] w fun e w' => e = .returned (.slice (some ⟨g, 0, none⟩) (Lib.compact xs).length cap) ∧ OwI w' base (.slice (some ⟨g, 0, none⟩) (Lib.compact xs).length cap) (Lib.compact xs) ∧ w.grownBy w' (some g) := by
  obtain ⟨cur, hb, hc, rfl, h1, h2, h3, h4⟩ := ownI_open h
  refine (AnyG.slices_Compact_int Tryz.compactY g 0 cap xs w (holds_of_blockI hc h4) (by omega) h1).mono ?_
  rintro e w' ⟨he, q, hw⟩
  subst hw
  have hcl := compact_lenI xs
  have hts : (Lib.compact xs ++ List.replicate (xs.length - (Lib.compact xs).length) 0).length = xs.length := by simp; omega
  have hO2 := ownsRow_sortedI (n := q) (os := #[]) (ss := xs) (ts := Lib.compact xs ++ List.replicate (xs.length - (Lib.compact xs).length) 0) hts hb hc h1 h2 h3
  have hg2 := grownBy_sortedI (n := q) (os := #[]) (w := w) (g := g) (Lib.compact xs ++ List.replicate (xs.length - (Lib.compact xs).length) 0).toArray
  rw [grow_empty] at hO2 hg2
  have hO3 := ownI_ofmap hts.symm hO2
  refine ⟨he, ?_, hg2⟩
  rcases Nat.eq_zero_or_pos xs.length with hz | hz
  · have hxs : xs = [] := List.length_eq_zero_iff.1 hz
    subst hxs
    exact hO3
  · exact Own.frontI hO3 (by rw [hts]; exact hz)
set_option maxRecDepth 20000 in
set_option maxHeartbeats 6400000 in
theorem i_changes (A : Option Addr) (n c : Nat) (L : List Lk) (w : World) (h : SlAt w 4 encK A L) (hn : n = L.length) (hl : n ≤ 1000) (hy : lksB L = true) :
    Calls Tryz.prog 51 #[.slice A n c] w fun e w' => ∃ v, e = .returned v ∧ OwI w' w.heap.size v (chY L) ∧ Ext w w' := by
  have HN := Lib.hid hn
  have HS := Lib.hid h
  have HLN := Lib.hid (fun k (hk : k ≤ n) => chL_len L k (by rw [← hn]; exact hk))
  have HFIN : Hid (chL L n = chL L L.length) := Lib.hid (by rw [hn])
  have HB2 : Hid (∀ W g, Blk W g 2 #[.int .i64 (-3000), .int .i64 3001] → w.heap.size ≤ g → OwI W w.heap.size (.slice (some ⟨g, 0, none⟩) 2 2) (chL L 0)) := Lib.hid (fun W g hB hg => Own.of_blk (xs := [-3000, 3001]) hB len_encI rfl hg (by unfold maxLen; simp))
  have HYR := Lib.hid (fun k (hk : k < L.length) => by
    have h1 := ((lksB_iff.1 hy).1.1 k hk).1
    unfold lkB at h1
    simp only [Bool.and_eq_true] at h1
    exact spB_iff.1 h1.2)
  clear hn h hy
  go_enter Tryz.func51, Tryz.ntmps51
  go_wp2
  go_loopw [3, 9] (fun v i wr => ∃ k : Nat, k ≤ n ∧ i = .int .i64 k ∧ Hid (OwI wr w.heap.size v (chL L k)) ∧ Ext w wr) (fun _ i _ => n - (intOf i).toNat)
  case atStart => exact ⟨0, by omega, rfl, Lib.hid (HB2.out _ _ (by (repeat (first | with_reducible assumption | ((with_reducible apply Blk.new); solve | simp | rfl) | with_reducible apply Blk.drew | with_reducible apply Blk.drewN | ((with_reducible apply Blk.far'); solve | omega | simp | (simp; omega)) | with_reducible apply Blk.set_ | with_reducible apply Blk.alloc | ((with_reducible apply Blk.ext'); with_reducible assumption) | ((with_reducible apply Blk.but'); (with_reducible assumption); solve | omega | (simp; omega))))) (by omega)), by (repeat (first | with_reducible exact Ext.refl _ | with_reducible assumption | ((with_reducible apply Src.ext); with_reducible assumption) | with_reducible refine Ext.alloc ?_ _ | with_reducible refine Ext.drew ?_ | with_reducible refine Ext.drewN ?_ _ | ((with_reducible refine Ext.setCell' ?_ ?_ _); solve | omega | simp | (simp; omega)) | (with_reducible refine Ext.trans ?_ (by with_reducible assumption))))⟩
  case round =>
    obtain ⟨k, hk, rfl, HV, hxr⟩ := hrel
    obtain ⟨w5, rfl⟩ : ∃ x, x = wr := ⟨wr, rfl⟩
    have hsr := hxr.size
    have hlen := HLN.out k hk
    by_cases hlt : k < n
    · have hkr : k < L.length := by rw [← HN.out]; exact hlt
      obtain ⟨b, off, rfl, hb, d0, d1, d2, d3⟩ := (HS.out.ext hxr).lk hkr
      have hsucc := Lib.hid (chL_succ hkr)
      obtain ⟨y1, y2, y3⟩ := HYR.out k hkr
      have hLL : (chL L k).length ≤ 2002 := by rw [hlen]; omega
      clear hlen
      generalize L.getD k lkD = l at *
      have hw1 : IntKind.i64.wrap (l.2.2.2 + 1) = l.2.2.2 + 1 := IntWalk.i64_in _ (by omega)
      generalize tx l.1 = sc at *
      generalize tx l.2.1 = sp at *
      obtain ⟨p, hp⟩ : ∃ p, p = l.2.2.1 := ⟨_, rfl⟩
      obtain ⟨q, hq⟩ : ∃ q, q = l.2.2.2 := ⟨_, rfl⟩
      have HSU : Hid (chL L (k + 1) = chL L k ++ [p, q + 1]) := Lib.hid (by rw [hsucc.out, hp, hq])
      rw [← hp] at d2 y1 y2
      rw [← hq] at d3 y2 y3 hw1
      clear hp hq hsucc
      go_wp2_with (at_builtin; refine wpList_append_sl elI len_encI one_encI rfl _ _ rfl rfl (HV.out.ext (by (repeat (first | with_reducible exact Ext.refl _ | with_reducible assumption | ((with_reducible apply Src.ext); with_reducible assumption) | with_reducible refine Ext.alloc ?_ _ | with_reducible refine Ext.drew ?_ | with_reducible refine Ext.drewN ?_ _ | ((with_reducible refine Ext.setCell' ?_ ?_ _); solve | omega | simp | (simp; omega)) | (with_reducible refine Ext.trans ?_ (by with_reducible assumption)))))) (xs := [p, q + 1]) rfl (blk_i2 (by (repeat (first | with_reducible assumption | ((with_reducible apply Blk.new); solve | simp | rfl) | with_reducible apply Blk.drew | with_reducible apply Blk.drewN | ((with_reducible apply Blk.far'); solve | omega | simp | (simp; omega)) | with_reducible apply Blk.set_ | with_reducible apply Blk.alloc | ((with_reducible apply Blk.ext'); with_reducible assumption) | ((with_reducible apply Blk.but'); (with_reducible assumption); solve | omega | (simp; omega)))))) (by simp only [List.length_cons, List.length_nil]; unfold maxLen; omega) (by simp only [List.length_cons, List.length_nil]; omega) (by first | omega | (simp; omega)) ?_)
      intro v' w8 hown hgrow _
      have HV2 := Lib.hid hown
      have hx8 : Ext w w8 := by
        refine Ext.grown ?_ hgrow (fun q hq => (HV.out.row q hq).1)
        (repeat (first | with_reducible exact Ext.refl _ | with_reducible assumption | ((with_reducible apply Src.ext); with_reducible assumption) | with_reducible refine Ext.alloc ?_ _ | with_reducible refine Ext.drew ?_ | with_reducible refine Ext.drewN ?_ _ | ((with_reducible refine Ext.setCell' ?_ ?_ _); solve | omega | simp | (simp; omega)) | (with_reducible refine Ext.trans ?_ (by with_reducible assumption))))
      clear hown hgrow
      go_wp2
      go_roundw
      case rel => exact ⟨k + 1, by omega, by go_num, Lib.hid (by rw [HSU.out]; exact HV2.out), by (repeat (first | with_reducible exact Ext.refl _ | with_reducible assumption | ((with_reducible apply Src.ext); with_reducible assumption) | with_reducible refine Ext.alloc ?_ _ | with_reducible refine Ext.drew ?_ | with_reducible refine Ext.drewN ?_ _ | ((with_reducible refine Ext.setCell' ?_ ?_ _); solve | omega | simp | (simp; omega)) | (with_reducible refine Ext.trans ?_ (by with_reducible assumption))))⟩
      case measure => simp [intOf]; omega
    · have hkn : k = n := by omega
      subst hkn
      obtain ⟨g, cap, cur, rfl, hgb, hB, hcc, hcm, hcs, htk⟩ := HV.out.open_ (by rw [hlen]; omega)
      have hun : (chL L k).length ≤ 1048576 := by rw [hlen]; omega
      have h1 := sortI_own HV.out hun
      have HC : Hid (∀ W, OwI W w.heap.size (.slice (some ⟨g, 0, none⟩) (chL L k).length cap) ((chL L k).mergeSort fun x y => decide (x ≤ y)) → Calls Tryz.prog 96 #[.slice (some ⟨g, 0, none⟩) (chL L k).length cap] W fun e w' => e = .returned (.slice (some ⟨g, 0, none⟩) (chY L).length cap) ∧ OwI w' w.heap.size (.slice (some ⟨g, 0, none⟩) (chY L).length cap) (chY L) ∧ W.grownBy w' (some g)) := Lib.hid (fun W hW => by
        have := compactI_own hW hun
        rw [HFIN.out] at this ⊢
        exact this)
      have HS1 := Lib.hid h1
      generalize ((chL L k).mergeSort fun x y => decide (x ≤ y)) = ss at *
      obtain ⟨ts, hts⟩ : ∃ ts, ts = chY L := ⟨_, rfl⟩
      have HTS := Lib.hid hts
      rw [← hts] at HC
      clear hts
      generalize (chL L k).length = ln at *
      clear h1 hB hcc hcm hcs htk hlen hun
      go_wp2_with fail
      refine HS1.out.mono ?_
      rintro e w1 ⟨rfl, hO1, hg1⟩
      have HO1 := Lib.hid hO1
      have HG1 := Lib.hid hg1
      clear hO1 hg1
      go_wp2_with fail
      refine (HC.out _ HO1.out).mono ?_
      rintro e w2 ⟨rfl, hO2, hg2⟩
      have HO2 := Lib.hid hO2
      have HG2 := Lib.hid hg2
      clear hO2 hg2
      go_wp2
      go_ret
      exact ⟨.slice (some ⟨g, 0, none⟩) ts.length cap, rfl, by rw [← HTS.out]; exact HO2.out, Ext.grown hxr (HG1.out.trans HG2.out) (fun q hq => by cases hq; exact hgb)⟩
end Go.Proofs.YtmpgjajkaehdiaaGreatDoor
