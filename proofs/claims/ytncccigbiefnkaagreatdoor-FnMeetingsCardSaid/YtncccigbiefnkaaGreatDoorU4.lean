/- The years of changes as the program gathers, sorts and compacts them. The union of spans that are in a strict order. YearsInside as the program tells it. YearsInside as the program tells it: the walk. -/
import Derived.Test.YtncccigbiefnkaaGreatDoorUA
import Derived.Test.YtncccigbiefnkaaGreatDoorU1
import Derived.Test.YtncccigbiefnkaaGreatDoorI1
import Derived.Sort.OwnSortedInts
import Derived.Deep.RegionHeld3
import Derived.Deep.DeepCutAuto
import Derived.RegionTactic
import Derived.BigRegion
import Derived.WalkLawsBesides
import Derived.WalkSpells
import Derived.Lib.MinMax
import Derived.Outline
import Derived.Test.YtncccigbiefnkaaGreatDoorU3
import Derived.Test.YtncccigbiefnkaaGreatDoorUB
namespace Go.Proofs.YtncccigbiefnkaaGreatDoor
open Go.RowKit Go.Sort
attribute [local go_sem] ExtOf.cell ExtOf.frozen

theorem encI_flat (xs : List Int) : xs.flatMap encI = xs.map (Value.int .i64) := by
  induction xs with
  | nil => rfl
  | cons x xs ih => rw [List.flatMap_cons, ih]; rfl
theorem Own.frontI {base : Nat} {t : TypeId} {w : World} {A : Option Addr} {n c : Nat} {xs ys : List Int} (h : Own encI 1 t w base (.slice A n c) (xs ++ ys)) (h0 : 0 < (xs ++ ys).length) : Own encI 1 t w base (.slice A xs.length c) xs := by
  obtain ⟨g, cap, cur, e, hb, hB, hn, hm, hs, ht⟩ := h.open_ h0
  injection e with e1 e2 e3
  subst e1 e3
  rw [List.length_append] at hn ht
  refine ⟨flatMap_len len_encI xs, .inr ⟨g, c, cur, rfl, hb, hB, by omega, hm, hs, ?_⟩⟩
  have h2 := congrArg (List.take (xs.length * 1)) ht
  rw [List.take_take, Nat.min_eq_left (Nat.mul_le_mul_right _ (by omega)), List.flatMap_append, List.take_append_of_le_length (by rw [flatMap_len len_encI]; exact Nat.le_refl _), List.take_of_length_le (l := xs.flatMap encI) (by rw [flatMap_len len_encI]; exact Nat.le_refl _)] at h2
  exact h2
theorem ownI_open {base g n cap : Nat} {xs : List Int} {w : World} (h : OwI w base (.slice (some ⟨g, 0, none⟩) n cap) xs) : ∃ cur, base ≤ g ∧ w.heap[g]? = some (.cells cur 2 (0, 0)) ∧ n = xs.length ∧ n ≤ cap ∧ cap ≤ maxLen ∧ cur.size = cap * 1 ∧ cur.toList.take n = xs.map (Value.int .i64) := by
  rcases h.2 with ⟨e, _⟩ | ⟨g', cap', cur, e, hb, hc, h1, h2, h3, h4⟩
  · cases e
  injection e with e1 e2 e3
  injection e1 with e1
  injection e1 with e1
  subst e1 e2 e3
  rw [Nat.mul_one, encI_flat] at h4
  exact ⟨cur, hb, hc, rfl, h1, h2, h3, h4⟩
theorem ownI_ofmap {base g n cap : Nat} {xs : List Int} {w : World} (hn : n = xs.length) (h : w.ownsRow base 2 1 (.slice (some ⟨g, 0, none⟩) n cap) n (xs.map (Value.int .i64))) : OwI w base (.slice (some ⟨g, 0, none⟩) n cap) xs := by
  unfold OwI Own
  rw [encI_flat, ← hn]
  exact h
theorem sortI_own {base g n cap : Nat} {xs : List Int} {w : World} (h : OwI w base (.slice (some ⟨g, 0, none⟩) n cap) xs) (hl : n ≤ 1048576) :
    Calls Tryz.prog 151 #[.slice (some ⟨g, 0, none⟩) n cap] w fun e w' => e = .returned (.tuple #[]) ∧ OwI w' base (.slice (some ⟨g, 0, none⟩) n cap) (xs.mergeSort fun x y => decide (x ≤ y)) ∧ w.grownBy w' (some g) := by
  obtain ⟨cur, hb, hc, rfl, h1, h2, h3, h4⟩ := ownI_open h
  refine (AnyM.slices_Sort_int Tryz.sortY g 0 cap xs w (holds_of_blockI hc h4) (Array.getElem?_eq_some_iff.1 hc).1 (by omega)).mono ?_
  rintro e w' ⟨he, q, os, hw⟩
  subst hw
  have hlen : (xs.mergeSort fun x y => decide (x ≤ y)).length = xs.length := List.length_mergeSort _
  exact ⟨he, ownI_ofmap hlen.symm (ownsRow_sortedI hlen hb hc h1 h2 h3), grownBy_sortedI _⟩
theorem compactI_own {base g n cap : Nat} {xs : List Int} {w : World} (h : OwI w base (.slice (some ⟨g, 0, none⟩) n cap) xs) (hl : n ≤ 1048576) :
    Calls Tryz.prog 152 #[.slice (some ⟨g, 0, none⟩) n cap] w fun e w' => e = .returned (.slice (some ⟨g, 0, none⟩) (Lib.compact xs).length cap) ∧ OwI w' base (.slice (some ⟨g, 0, none⟩) (Lib.compact xs).length cap) (Lib.compact xs) ∧ w.grownBy w' (some g) := by
  obtain ⟨cur, hb, hc, rfl, h1, h2, h3, h4⟩ := ownI_open h
  refine (AnyG.slices_Compact_int Tryz.compactY g 0 cap xs w (holds_of_blockI hc h4) (by omega) h1).mono ?_
  rintro e w' ⟨he, q, hw⟩
  subst hw
  have hcl := compact_lenI xs
  have hts : (Lib.compact xs ++ List.replicate (xs.length - (Lib.compact xs).length) 0).length = xs.length := by simp; omega
  have hO2 := ownsRow_sortedI (n := q) (os := #[]) (ss := xs) (ts := Lib.compact xs ++ List.replicate (xs.length - (Lib.compact xs).length) 0) hts hb hc h1 h2 h3
  have hg2 := grownBy_sortedI (n := q) (os := #[]) (w := w) (g := g) (Lib.compact xs ++ List.replicate (xs.length - (Lib.compact xs).length) 0).toArray
  rw [grow_empty] at hO2 hg2
  have hO3 := ownI_ofmap hts.symm hO2
  refine ⟨he, ?_, hg2⟩
  rcases Nat.eq_zero_or_pos xs.length with hz | hz
  · have hxs : xs = [] := List.length_eq_zero_iff.1 hz
    subst hxs
    exact hO3
  · exact Own.frontI hO3 (by rw [hts]; exact hz)
set_option maxRecDepth 20000 in
set_option maxHeartbeats 6400000 in
theorem i_changes (A : Option Addr) (n c : Nat) (L : List Lk) (w : World) (h : SlAt w 4 encK A L) (hn : n = L.length) (hl : n ≤ 1000) (hy : lksB L = true) :
    Calls Tryz.prog 66 #[.slice A n c] w fun e w' => ∃ v, e = .returned v ∧ OwI w' w.heap.size v (chY L) ∧ Ext w w' := by
  have HN := Lib.hid hn
  have HS := Lib.hid h
  have HLN := Lib.hid (fun k (hk : k ≤ n) => chL_len L k (by rw [← hn]; exact hk))
  have HFIN : Hid (chL L n = chL L L.length) := Lib.hid (by rw [hn])
  have HB2 : Hid (∀ W g, Blk W g 2 #[.int .i64 (-3000), .int .i64 3001] → w.heap.size ≤ g → OwI W w.heap.size (.slice (some ⟨g, 0, none⟩) 2 2) (chL L 0)) := Lib.hid (fun W g hB hg => Own.of_blk (xs := [-3000, 3001]) hB len_encI rfl hg (by unfold maxLen; simp))
  have HYR := Lib.hid (fun k (hk : k < L.length) => by
    have h1 := ((lksB_iff.1 hy).1.1 k hk).1
    unfold lkB at h1
    simp only [Bool.and_eq_true] at h1
    exact spB_iff.1 h1.2)
  clear hn h hy
  go_enter Tryz.func66, Tryz.ntmps66
  go_wp2
  go_loopw [3, 9] (fun v i wr => ∃ k : Nat, k ≤ n ∧ i = .int .i64 k ∧ Hid (OwI wr w.heap.size v (chL L k)) ∧ Ext w wr) (fun _ i _ => n - (intOf i).toNat)
  case atStart => exact ⟨0, by omega, rfl, Lib.hid (HB2.out _ _ (by (repeat (first | with_reducible assumption | ((with_reducible apply Blk.new); solve | simp | rfl) | with_reducible apply Blk.drew | with_reducible apply Blk.drewN | ((with_reducible apply Blk.far'); solve | omega | simp | (simp; omega)) | with_reducible apply Blk.set_ | with_reducible apply Blk.alloc | ((with_reducible apply Blk.ext'); with_reducible assumption) | ((with_reducible apply Blk.but'); (with_reducible assumption); solve | omega | (simp; omega))))) (by omega)), by (repeat (first | with_reducible exact Ext.refl _ | with_reducible assumption | ((with_reducible apply Src.ext); with_reducible assumption) | with_reducible refine Ext.alloc ?_ _ | with_reducible refine Ext.drew ?_ | with_reducible refine Ext.drewN ?_ _ | ((with_reducible refine Ext.setCell' ?_ ?_ _); solve | omega | simp | (simp; omega)) | (with_reducible refine Ext.trans ?_ (by with_reducible assumption))))⟩
  case round =>
    obtain ⟨k, hk, rfl, HV, hxr⟩ := hrel
    obtain ⟨w5, rfl⟩ : ∃ x, x = wr := ⟨wr, rfl⟩
    have hsr := hxr.size
    have hlen := HLN.out k hk
    by_cases hlt : k < n
    · have hkr : k < L.length := by rw [← HN.out]; exact hlt
      obtain ⟨b, off, rfl, hb, d0, d1, d2, d3⟩ := (HS.out.ext hxr).lk hkr
      have hsucc := Lib.hid (chL_succ hkr)
      obtain ⟨y1, y2, y3⟩ := HYR.out k hkr
      have hLL : (chL L k).length ≤ 2002 := by rw [hlen]; omega
      clear hlen
      generalize L.getD k lkD = l at *
      have hw1 : IntKind.i64.wrap (l.2.2.2 + 1) = l.2.2.2 + 1 := IntWalk.i64_in _ (by omega)
      generalize tx l.1 = sc at *
      generalize tx l.2.1 = sp at *
      obtain ⟨p, hp⟩ : ∃ p, p = l.2.2.1 := ⟨_, rfl⟩
      obtain ⟨q, hq⟩ : ∃ q, q = l.2.2.2 := ⟨_, rfl⟩
      have HSU : Hid (chL L (k + 1) = chL L k ++ [p, q + 1]) := Lib.hid (by rw [hsucc.out, hp, hq])
      rw [← hp] at d2 y1 y2
      rw [← hq] at d3 y2 y3 hw1
      clear hp hq hsucc
      go_wp2_with (at_builtin; refine wpList_append_sl elI len_encI one_encI rfl _ _ rfl rfl (HV.out.ext (by (repeat (first | with_reducible exact Ext.refl _ | with_reducible assumption | ((with_reducible apply Src.ext); with_reducible assumption) | with_reducible refine Ext.alloc ?_ _ | with_reducible refine Ext.drew ?_ | with_reducible refine Ext.drewN ?_ _ | ((with_reducible refine Ext.setCell' ?_ ?_ _); solve | omega | simp | (simp; omega)) | (with_reducible refine Ext.trans ?_ (by with_reducible assumption)))))) (xs := [p, q + 1]) rfl (blk_i2 (by (repeat (first | with_reducible assumption | ((with_reducible apply Blk.new); solve | simp | rfl) | with_reducible apply Blk.drew | with_reducible apply Blk.drewN | ((with_reducible apply Blk.far'); solve | omega | simp | (simp; omega)) | with_reducible apply Blk.set_ | with_reducible apply Blk.alloc | ((with_reducible apply Blk.ext'); with_reducible assumption) | ((with_reducible apply Blk.but'); (with_reducible assumption); solve | omega | (simp; omega)))))) (by simp only [List.length_cons, List.length_nil]; unfold maxLen; omega) (by simp only [List.length_cons, List.length_nil]; omega) (by first | omega | (simp; omega)) ?_)
      intro v' w8 hown hgrow _
      have HV2 := Lib.hid hown
      have hx8 : Ext w w8 := by
        refine Ext.grown ?_ hgrow (fun q hq => (HV.out.row q hq).1)
        (repeat (first | with_reducible exact Ext.refl _ | with_reducible assumption | ((with_reducible apply Src.ext); with_reducible assumption) | with_reducible refine Ext.alloc ?_ _ | with_reducible refine Ext.drew ?_ | with_reducible refine Ext.drewN ?_ _ | ((with_reducible refine Ext.setCell' ?_ ?_ _); solve | omega | simp | (simp; omega)) | (with_reducible refine Ext.trans ?_ (by with_reducible assumption))))
      clear hown hgrow
      go_wp2
      go_roundw
      case rel => exact ⟨k + 1, by omega, by go_num, Lib.hid (by rw [HSU.out]; exact HV2.out), by (repeat (first | with_reducible exact Ext.refl _ | with_reducible assumption | ((with_reducible apply Src.ext); with_reducible assumption) | with_reducible refine Ext.alloc ?_ _ | with_reducible refine Ext.drew ?_ | with_reducible refine Ext.drewN ?_ _ | ((with_reducible refine Ext.setCell' ?_ ?_ _); solve | omega | simp | (simp; omega)) | (with_reducible refine Ext.trans ?_ (by with_reducible assumption))))⟩
      case measure => simp [intOf]; omega
    · have hkn : k = n := by omega
      subst hkn
      obtain ⟨g, cap, cur, rfl, hgb, hB, hcc, hcm, hcs, htk⟩ := HV.out.open_ (by rw [hlen]; omega)
      have hun : (chL L k).length ≤ 1048576 := by rw [hlen]; omega
      have h1 := sortI_own HV.out hun
      have HC : Hid (∀ W, OwI W w.heap.size (.slice (some ⟨g, 0, none⟩) (chL L k).length cap) ((chL L k).mergeSort fun x y => decide (x ≤ y)) → Calls Tryz.prog 152 #[.slice (some ⟨g, 0, none⟩) (chL L k).length cap] W fun e w' => e = .returned (.slice (some ⟨g, 0, none⟩) (chY L).length cap) ∧ OwI w' w.heap.size (.slice (some ⟨g, 0, none⟩) (chY L).length cap) (chY L) ∧ W.grownBy w' (some g)) := Lib.hid (fun W hW => by
        have := compactI_own hW hun
        rw [HFIN.out] at this ⊢
        exact this)
      have HS1 := Lib.hid h1
      generalize ((chL L k).mergeSort fun x y => decide (x ≤ y)) = ss at *
      obtain ⟨ts, hts⟩ : ∃ ts, ts = chY L := ⟨_, rfl⟩
      have HTS := Lib.hid hts
      rw [← hts] at HC
      clear hts
      generalize (chL L k).length = ln at *
      clear h1 hB hcc hcm hcs htk hlen hun
      go_wp2_with fail
      refine HS1.out.mono ?_
      rintro e w1 ⟨rfl, hO1, hg1⟩
      have HO1 := Lib.hid hO1
      have HG1 := Lib.hid hg1
      clear hO1 hg1
      go_wp2_with fail
      refine (HC.out _ HO1.out).mono ?_
      rintro e w2 ⟨rfl, hO2, hg2⟩
      have HO2 := Lib.hid hO2
      have HG2 := Lib.hid hg2
      clear hO2 hg2
      go_wp2
      go_ret
      exact ⟨.slice (some ⟨g, 0, none⟩) ts.length cap, rfl, by rw [← HTS.out]; exact HO2.out, Ext.grown hxr (HG1.out.trans HG2.out) (fun q hq => by cases hq; exact hgb)⟩
end Go.Proofs.YtncccigbiefnkaaGreatDoor
namespace Go.Proofs.YtncccigbiefnkaaGreatDoor
open Go.RowKit
attribute [local go_sem] ExtOf.cell ExtOf.frozen

theorem take_joinS {S : List Sn} {k : Nat} (hk : k < S.length) : (S.take (k + 1)).foldl joinS [] = joinS ((S.take k).foldl joinS []) (S.getD k (0, 0)) := by
  rw [take_succ_sn S hk, List.foldl_append]; rfl
theorem foldJ_len : ∀ (S : List Sn) (o : List Sn), (S.foldl joinS o).length ≤ o.length + S.length
  | [], _ => Nat.le_refl _
  | s :: S, o => by
    have h1 := foldJ_len S (joinS o s)
    have h2 := joinS_len o s
    rw [List.foldl_cons, List.length_cons]
    omega
theorem foldJ_mem {S : List Sn} (h : ∀ s ∈ S, -10000 ≤ s.1 ∧ s.1 ≤ 10000 ∧ -10000 ≤ s.2 ∧ s.2 ≤ 10000) : ∀ {o : List Sn}, (∀ s ∈ o, -10000 ≤ s.1 ∧ s.1 ≤ 10000 ∧ -10000 ≤ s.2 ∧ s.2 ≤ 10000) → ∀ t ∈ S.foldl joinS o, -10000 ≤ t.1 ∧ t.1 ≤ 10000 ∧ -10000 ≤ t.2 ∧ t.2 ≤ 10000 := by
  induction S with
  | nil => exact fun ho => ho
  | cons s S ih =>
    intro o ho
    rw [List.foldl_cons]
    refine ih (fun t ht => h t (List.mem_cons_of_mem _ ht)) fun t ht => ?_
    have hs := h s (List.mem_cons_self ..)
    rcases List.eq_nil_or_concat o with rfl | ⟨o', u, rfl⟩
    · rw [joinS_nil, List.mem_singleton] at ht
      rw [ht]; exact hs
    · rw [List.concat_eq_append] at *
      rw [joinS_snoc] at ht
      have hu := ho u (List.mem_append_right _ (List.mem_singleton.2 rfl))
      split at ht
      · rcases List.mem_append.1 ht with e | e
        · exact ho t (List.mem_append_left _ e)
        · rw [List.mem_singleton] at e
          rw [e]; simp only; omega
      · rcases List.mem_append.1 ht with e | e
        · exact ho t e
        · rw [List.mem_singleton] at e
          rw [e]; exact hs
set_option maxRecDepth 20000 in
set_option maxHeartbeats 12800000 in
theorem i_union (base : Nat) (v : Value) (S : List Sn) (w : World) (h : OwSn w base v S) (hl : S.length ≤ 1000) (hp : S.Pairwise (fun s t => s.1 < t.1)) (hb : ∀ s ∈ S, -10000 ≤ s.1 ∧ s.1 ≤ 10000 ∧ -10000 ≤ s.2 ∧ s.2 ≤ 10000) :
    Calls Tryz.prog 70 #[v] w fun e w' => ∃ v', e = .returned v' ∧ OwSn w' w.heap.size v' (S.foldl joinS []) ∧ Ext w w' := by
  obtain ⟨A, c, rfl, _⟩ := h.sl len_encSn
  have HQ := Lib.hid h.seqAt
  have HF := Lib.hid (fun W (hW : SeqS W w.heap.size S) => i_SortedFuncS hW (by omega) hp)
  have HJ := Lib.hid (fun k (hk : k < S.length) => hb (S.getD k (0, 0)) (by rw [show S.getD k (0, 0) = S[k] by simp [List.getD, hk]]; exact List.getElem_mem hk))
  have HM := Lib.hid (fun k => foldJ_mem (S := S.take k) (o := []) (fun s hs => hb s (List.mem_of_mem_take hs)) (fun s hs => by cases hs))
  have HLJ := Lib.hid (fun k => Nat.le_trans (foldJ_len (S.take k) []) (by rw [List.length_nil, Nat.zero_add]; exact List.length_take_le' _ _))
  have HFIN : Hid ((S.take S.length).foldl joinS [] = S.foldl joinS []) := Lib.hid (by rw [List.take_length])
  clear h hp hb
  obtain ⟨n, hn⟩ : ∃ n, n = S.length := ⟨_, rfl⟩
  have HN := Lib.hid hn
  rw [← hn] at HQ HFIN hl ⊢
  clear hn
  go_enter Tryz.func70, Tryz.ntmps70
  go_wp2_with fail
  refine (i_ValuesS A n c w).mono ?_
  rintro e w1 ⟨rfl, rfl⟩
  go_wp2_with fail
  refine (HF.out _ HQ.out).mono ?_
  rintro e w2 ⟨v2, rfl, hO2, hx2⟩
  obtain ⟨A2, c2, rfl, hS2, hq2⟩ := hO2.sl len_encSn
  have HS2 := Lib.hid hS2
  have hx02 : Ext w w2 := (Ext.alloc (Ext.refl _) _).trans hx2
  have HX2 := Lib.hid hx02
  have hsz := hx02.size
  rw [← HN.out]
  clear hO2 hS2 hq2 hx2 hx02 HF HQ
  go_wp2
  go_loopw [4, 13] (fun v i wr => ∃ k : Nat, k ≤ n ∧ i = .int .i64 k ∧ Hid (OwSn wr w2.heap.size v ((S.take k).foldl joinS [])) ∧ Ext w2 wr) (fun _ i _ => n - (intOf i).toNat)
  case atStart => exact ⟨0, by omega, rfl, Lib.hid (Own.nil _ _), by (repeat (first | with_reducible exact Ext.refl _ | with_reducible assumption | ((with_reducible apply Src.ext); with_reducible assumption) | with_reducible refine Ext.alloc ?_ _ | with_reducible refine Ext.drew ?_ | with_reducible refine Ext.drewN ?_ _ | ((with_reducible refine Ext.setCell' ?_ ?_ _); solve | omega | simp | (simp; omega)) | (with_reducible refine Ext.trans ?_ (by with_reducible assumption))))⟩
  case round =>
    obtain ⟨k, hk, rfl, HV, hxr⟩ := hrel
    obtain ⟨w5, rfl⟩ : ∃ x, x = wr := ⟨wr, rfl⟩
    have hsr := hxr.size
    by_cases hlt : k < n
    · have hkr : k < S.length := by rw [← HN.out]; exact hlt
      obtain ⟨b, off, rfl, hbb, d0, d1⟩ := (HS2.out.ext hxr).sn hkr
      have HSU := Lib.hid (take_joinS hkr)
      obtain ⟨r1, r2, r3, r4⟩ := HJ.out k hkr
      have hTL := Nat.le_trans (HLJ.out k) (show S.length ≤ 1000 by rw [← HN.out]; exact hl)
      have hTM := HM.out k
      generalize (S.take k).foldl joinS [] = T at *
      generalize S.getD k (0, 0) = s at *
      obtain ⟨s1, s2⟩ := s
      rcases List.eq_nil_or_concat T with rfl | ⟨o, t, rfl⟩
      · obtain ⟨A5, c5, hv5, _⟩ := HV.out.sl len_encSn
        simp only [List.length_nil] at hv5
        subst hv5
        clear hTM hTL
        simp only at d0 d1
        go_wp2
        (refine wp_region_ext (by kernel_rfl) (by kernel_rfl) ?_; (repeat (go_big_quiet_step (fail))); refine wpQuiet_nil ?_; intro wq hxwq; obtain ⟨hcwq, hfwq⟩ := hxwq.rules; have hswq := hxwq.size; (try simp at hswq))
        have hgq2 : w5.heap.size < wq.heap.size := by omega
        go_wp2_with (at_builtin; refine wpList_append_sl elSn len_encSn one_encSn rfl _ _ rfl rfl (HV.out.ext (by (repeat (first | with_reducible exact Ext.refl _ | with_reducible assumption | ((with_reducible apply Src.ext); with_reducible assumption) | with_reducible refine Ext.alloc ?_ _ | with_reducible refine Ext.drew ?_ | with_reducible refine Ext.drewN ?_ _ | ((with_reducible refine Ext.setCell' ?_ ?_ _); solve | omega | simp | (simp; omega)) | (with_reducible refine Ext.trans ?_ (by with_reducible assumption)))))) (xs := [(s1, s2)]) rfl (blk_sn1 (by (repeat (first | with_reducible assumption | ((with_reducible apply Blk.new); solve | simp | rfl) | with_reducible apply Blk.drew | with_reducible apply Blk.drewN | ((with_reducible apply Blk.far'); solve | omega | simp | (simp; omega)) | with_reducible apply Blk.set_ | with_reducible apply Blk.alloc | ((with_reducible apply Blk.ext'); with_reducible assumption) | ((with_reducible apply Blk.but'); (with_reducible assumption); solve | omega | (simp; omega))))) rfl) (by simp only [List.length_cons, List.length_nil]; unfold maxLen; omega) (by simp only [List.length_cons, List.length_nil]; omega) (by first | omega | (simp; omega)) ?_)
        intro v' w8 hown hgrow _
        have HV2 := Lib.hid hown
        have hx8 : Ext w2 w8 := by
          refine Ext.grown ?_ hgrow (fun q hq => (HV.out.row q hq).1)
          (repeat (first | with_reducible exact Ext.refl _ | with_reducible assumption | ((with_reducible apply Src.ext); with_reducible assumption) | with_reducible refine Ext.alloc ?_ _ | with_reducible refine Ext.drew ?_ | with_reducible refine Ext.drewN ?_ _ | ((with_reducible refine Ext.setCell' ?_ ?_ _); solve | omega | simp | (simp; omega)) | (with_reducible refine Ext.trans ?_ (by with_reducible assumption))))
        clear hown hgrow
        go_wp2
        go_roundw
        case rel => exact ⟨k + 1, by omega, by go_num, Lib.hid (by rw [HSU.out, joinS_nil]; exact HV2.out), by (repeat (first | with_reducible exact Ext.refl _ | with_reducible assumption | ((with_reducible apply Src.ext); with_reducible assumption) | with_reducible refine Ext.alloc ?_ _ | with_reducible refine Ext.drew ?_ | with_reducible refine Ext.drewN ?_ _ | ((with_reducible refine Ext.setCell' ?_ ?_ _); solve | omega | simp | (simp; omega)) | (with_reducible refine Ext.trans ?_ (by with_reducible assumption))))⟩
        case measure => simp [intOf]; omega
      · rw [List.concat_eq_append] at *
        obtain ⟨t1, t2⟩ := t
        obtain ⟨g, cap, rfl, hgb, hgl, q2, q3, q4⟩ := HV.out.last
        obtain ⟨u1, u2, u3, u4⟩ := hTM (t1, t2) (List.mem_append_right _ (List.mem_singleton.2 rfl))
        rw [List.length_append, List.length_singleton] at hTL
        simp only at d0 d1 q2 q3 r1 r2 r3 r4 u1 u2 u3 u4
        have hm18 : o.length ≤ 1000 := by omega
        obtain ⟨m, hm⟩ : ∃ m, m = o.length := ⟨_, rfl⟩
        have HMM := Lib.hid hm
        rw [← hm] at HV hTL q2 q3 q4 ⊢
        obtain ⟨ln, hln⟩ : ∃ ln, ln = m + 1 := ⟨_, rfl⟩
        have HLN := Lib.hid hln
        rw [← hln] at HV hTL ⊢
        have hw : IntKind.i64.wrap ((ln : Int) - 1) = (m : Int) := by rw [IntWalk.i64_in _ (by omega)]; omega
        have hw2 : IntKind.i64.wrap (t2 + 1) = t2 + 1 := IntWalk.i64_in _ (by omega)
        have hmlt : m < ln := by omega
        have hpos : decide ((ln : Int) > 0) = true := decide_eq_true (by omega)
        have hpos1 : decide (0 < (ln : Int)) = true := decide_eq_true (by omega)
        have hpos2 : decide (0 < ln) = true := decide_eq_true (by omega)
        have hpos3 : 0 < ln := by omega
        have HG : Hid (∀ W y, Ext w5 W → OwSn (W.setCell ⟨g, m * 2 + 1, none⟩ (.int .i64 y)) w2.heap.size (.slice (some ⟨g, 0, none⟩) ln cap) (o ++ [(t1, y)]) ∧ Ext w2 (W.setCell ⟨g, m * 2 + 1, none⟩ (.int .i64 y))) := Lib.hid (fun W y hW => by
          have h1 := HV.out.ext hW
          rw [HLN.out, HMM.out] at h1 ⊢
          obtain ⟨a, b⟩ := OwSn.grow h1 y
          exact ⟨a, Ext.grown (hxr.trans hW) b (fun q hq => by cases hq; exact hgb)⟩)
        clear hm hln hTM
        by_cases hs : s1 ≤ t2 + 1
        · have hsd : decide (s1 ≤ t2 + 1) = true := decide_eq_true hs
          go_wp2
          (refine wp_region_ext (by kernel_rfl) (by kernel_rfl) ?_; (repeat (go_big_quiet_step (fail))); refine wpQuiet_nil ?_; intro wq hxwq; obtain ⟨hcwq, hfwq⟩ := hxwq.rules; have hswq := hxwq.size; (try simp at hswq))
          have hgq : g < wq.heap.size := by omega
          have hgq2 : w5.heap.size < wq.heap.size := by omega
          go_wp2
          (refine wp_region_ext_tail 14 (by kernel_rfl) (by kernel_rfl) ?_; simp only [List.take_succ_cons, List.take_zero, List.drop_succ_cons, List.drop_zero]; (repeat (go_big_quiet_step (fail))); refine wpQuiet_nil ?_; intro ws hxws; obtain ⟨hcws, hfws⟩ := hxws.rules; have hsws := hxws.size; (try simp at hsws))
          have hgs : g < ws.heap.size := by omega
          have hgs2 : w5.heap.size < ws.heap.size := by omega
          go_wp2
          go_roundw
          case rel => exact ⟨k + 1, by omega, by go_num, Lib.hid (by rw [HSU.out, joinS_snoc, if_pos hs]; exact (HG.out _ _ (by (repeat (first | with_reducible exact Ext.refl _ | with_reducible assumption | ((with_reducible apply Src.ext); with_reducible assumption) | with_reducible refine Ext.alloc ?_ _ | with_reducible refine Ext.drew ?_ | with_reducible refine Ext.drewN ?_ _ | ((with_reducible refine Ext.setCell' ?_ ?_ _); solve | omega | simp | (simp; omega)) | (with_reducible refine Ext.trans ?_ (by with_reducible assumption)))))).1), (HG.out _ _ (by (repeat (first | with_reducible exact Ext.refl _ | with_reducible assumption | ((with_reducible apply Src.ext); with_reducible assumption) | with_reducible refine Ext.alloc ?_ _ | with_reducible refine Ext.drew ?_ | with_reducible refine Ext.drewN ?_ _ | ((with_reducible refine Ext.setCell' ?_ ?_ _); solve | omega | simp | (simp; omega)) | (with_reducible refine Ext.trans ?_ (by with_reducible assumption)))))).2⟩
          case measure => simp [intOf]; omega
        · have hsd : decide (s1 ≤ t2 + 1) = false := decide_eq_false hs
          have HNS := Lib.hid hs
          go_wp2
          (refine wp_region_ext (by kernel_rfl) (by kernel_rfl) ?_; (repeat (go_big_quiet_step (fail))); refine wpQuiet_nil ?_; intro wq hxwq; obtain ⟨hcwq, hfwq⟩ := hxwq.rules; have hswq := hxwq.size; (try simp at hswq))
          have hgq : g < wq.heap.size := by omega
          have hgq2 : w5.heap.size < wq.heap.size := by omega
          go_wp2_with (at_builtin; refine wpList_append_sl elSn len_encSn one_encSn rfl _ _ rfl rfl (HV.out.ext (by (repeat (first | with_reducible exact Ext.refl _ | with_reducible assumption | ((with_reducible apply Src.ext); with_reducible assumption) | with_reducible refine Ext.alloc ?_ _ | with_reducible refine Ext.drew ?_ | with_reducible refine Ext.drewN ?_ _ | ((with_reducible refine Ext.setCell' ?_ ?_ _); solve | omega | simp | (simp; omega)) | (with_reducible refine Ext.trans ?_ (by with_reducible assumption)))))) (xs := [(s1, s2)]) rfl (blk_sn1 (by (repeat (first | with_reducible assumption | ((with_reducible apply Blk.new); solve | simp | rfl) | with_reducible apply Blk.drew | with_reducible apply Blk.drewN | ((with_reducible apply Blk.far'); solve | omega | simp | (simp; omega)) | with_reducible apply Blk.set_ | with_reducible apply Blk.alloc | ((with_reducible apply Blk.ext'); with_reducible assumption) | ((with_reducible apply Blk.but'); (with_reducible assumption); solve | omega | (simp; omega))))) rfl) (by simp only [List.length_append, List.length_cons, List.length_nil]; unfold maxLen; omega) (by simp only [List.length_append, List.length_cons, List.length_nil]; omega) (by first | omega | (simp; omega)) ?_)
          intro v' w8 hown hgrow _
          have HV2 := Lib.hid hown
          have hx8 : Ext w2 w8 := by
            refine Ext.grown ?_ hgrow (fun q hq => (HV.out.row q hq).1)
            (repeat (first | with_reducible exact Ext.refl _ | with_reducible assumption | ((with_reducible apply Src.ext); with_reducible assumption) | with_reducible refine Ext.alloc ?_ _ | with_reducible refine Ext.drew ?_ | with_reducible refine Ext.drewN ?_ _ | ((with_reducible refine Ext.setCell' ?_ ?_ _); solve | omega | simp | (simp; omega)) | (with_reducible refine Ext.trans ?_ (by with_reducible assumption))))
          clear hown hgrow
          go_wp2
          go_roundw
          case rel => exact ⟨k + 1, by omega, by go_num, Lib.hid (by rw [HSU.out, joinS_snoc, if_neg (by have := HNS.out; simp only; omega)]; (try rw [List.append_assoc]); exact HV2.out), by (repeat (first | with_reducible exact Ext.refl _ | with_reducible assumption | ((with_reducible apply Src.ext); with_reducible assumption) | with_reducible refine Ext.alloc ?_ _ | with_reducible refine Ext.drew ?_ | with_reducible refine Ext.drewN ?_ _ | ((with_reducible refine Ext.setCell' ?_ ?_ _); solve | omega | simp | (simp; omega)) | (with_reducible refine Ext.trans ?_ (by with_reducible assumption))))⟩
          case measure => simp [intOf]; omega
    · have hkn : k = n := by omega
      subst hkn
      rw [HFIN.out] at HV
      obtain ⟨A5, c5, rfl, _⟩ := HV.out.sl len_encSn
      obtain ⟨un, hun⟩ : ∃ un, un = (S.foldl joinS []).length := ⟨_, rfl⟩
      rw [← hun] at HV ⊢
      clear hun
      go_wp2
      go_ret
      exact ⟨.slice A5 un c5, rfl, HV.out.less hsz, HX2.out.trans hxr⟩
end Go.Proofs.YtncccigbiefnkaaGreatDoor
namespace Go.Proofs.YtncccigbiefnkaaGreatDoor
open Go.RowKit
attribute [local go_sem] ExtOf.cell ExtOf.frozen

theorem i_limited (base : Nat) (v : Value) (S : List Sn) (w : World) (h : OwSn w base v S) (hl : S.length ≤ 1000000) :
    Calls Tryz.prog 69 #[v] w fun e w' => ((12 < S.length ∧ e = .returned (.tuple #[.slice none 0 0, .int .i64 3])) ∨ (¬ 12 < S.length ∧ e = .returned (.tuple #[v, .int .i64 0]))) ∧ w' = w := by
  obtain ⟨A, c, rfl, _⟩ := h.sl len_encSn
  clear h
  obtain ⟨n, hn⟩ : ∃ n, n = S.length := ⟨_, rfl⟩
  rw [← hn] at hl ⊢
  clear hn
  by_cases h12 : 12 < n
  · have h1 : decide ((n : Int) > 12) = true := decide_eq_true (by omega)
    have H := Lib.hid h12
    go_enter Tryz.func69, Tryz.ntmps69
    go_wp2
    go_ret2
    exact ⟨.inl ⟨H.out, rfl⟩, rfl⟩
  · have h1 : decide ((n : Int) > 12) = false := decide_eq_false (by omega)
    have H := Lib.hid h12
    go_enter Tryz.func69, Tryz.ntmps69
    go_wp2
    go_ret2
    exact ⟨.inr ⟨by have := H.out; omega, rfl⟩, rfl⟩
theorem yiS_in {L : List Lk} (h : lksB L = true) (a b : List UInt8) (k : Nat) (hk : k ≤ (chY L).length - 1) : ∀ s ∈ yiS L a b k, -10000 ≤ s.1 ∧ s.1 ≤ 10000 ∧ -10000 ≤ s.2 ∧ s.2 ≤ 10000 := by
  intro s hs
  obtain ⟨i, hi, _, rfl⟩ := spTo_mem.1 hs
  have h1 := chL_in h _ (chY_of (L := L) (j := i) (by omega))
  have h2 := chL_in h _ (chY_of (L := L) (j := i + 1) (by omega))
  simp only
  omega
theorem yiS_len (L : List Lk) (a b : List UInt8) (k : Nat) : (yiS L a b k).length ≤ k := spTo_len _ _ _
theorem yiS_no {L : List Lk} {a b : List UInt8} {k : Nat} (h : insY L a b ((chY L).getD k 0) = false) : yiS L a b (k + 1) = yiS L a b k := by
  unfold yiS
  rw [spTo_succ, if_neg (by rw [h]; exact Bool.false_ne_true), List.append_nil]
theorem yiS_yes {L : List Lk} {a b : List UInt8} {k : Nat} (h : insY L a b ((chY L).getD k 0) = true) : yiS L a b (k + 1) = yiS L a b k ++ [((chY L).getD k 0, (chY L).getD (k + 1) 0 - 1)] := by
  unfold yiS
  rw [spTo_succ, if_pos h]
end Go.Proofs.YtncccigbiefnkaaGreatDoor
namespace Go.Proofs.YtncccigbiefnkaaGreatDoor
open Go.RowKit
attribute [local go_sem] ExtOf.cell ExtOf.frozen

theorem lkC_two {L : List Lk} {a b : List UInt8} (h : ¬ (lksB L = true ∧ smL a 1 16 = true ∧ smL b 1 16 = true)) : lkC L [a, b] (-3000) = 1 := by
  cases h1 : lksB L with
  | false => exact lkC_links h1
  | true =>
    refine lkC_words ?_
    cases h2 : ([a, b].all fun x => smL x 1 16) with
    | false => rfl
    | true =>
      simp at h2
      exact absurd ⟨h1, h2.1, h2.2⟩ h
theorem lkC_twoOk {L : List Lk} {a b : List UInt8} (h : lksB L = true ∧ smL a 1 16 = true ∧ smL b 1 16 = true) : lkC L [a, b] (-3000) = 0 := lkC_ok h.1 (by simp [h.2.1, h.2.2]) (by decide)
section
variable (A : Option Addr) (n c : Nat) (L : List Lk) (x z : List UInt8) (w : World)
set_option maxRecDepth 20000 in
set_option maxHeartbeats 12800000 in
theorem i_YearsInside (h : SlAt w 4 encK A L) (hn : n = L.length) (hl : L.length ≤ 1048576) (hcap : n ≤ c) (hg : Links L) (hx : x.length ≤ 1048576) (hz : z.length ≤ 1048576) :
    Calls Tryz.prog 9 #[.slice A n c, .string (tx x), .string (tx z)] w fun e w' => ∃ v, e = .returned (.tuple #[v, .int .i64 (yiC L x z)]) ∧ OwSn w' w.heap.size v (yiV L x z) ∧ Ext w w' := by
  have HL := Lib.hid (fun W g hW (hB : Blk W g 9 #[.string (tx x), .string (tx z)]) => i_linkCode A (some ⟨g, 0, none⟩) n c 2 2 L [x, z] (-3000) W hW hn hl hcap hg (hB.sl rfl len_encS) rfl (by omega) (fun k => by
    match k with
    | 0 => exact hx
    | 1 => exact hz
    | k + 2 => simp))
  have HS := Lib.hid h
  have htx := tx_toL x
  have htz := tx_toL z
  by_cases hok : lksB L = true ∧ smL x 1 16 = true ∧ smL z 1 16 = true
  · rw [lkC_twoOk hok] at HL
    by_cases hxz : x = z
    · have hC := yiC_same hok hxz
      have hV := yiV_no (L := L) (a := x) (b := z) (by rw [hC]; decide)
      rw [hC, hV]
      have heq : ((tx x).toList == (tx z).toList) = true := by rw [htx, htz, hxz]; simp
      generalize tx x = sx at *
      generalize tx z = sz at *
      clear hC hV htx htz h hn hg hok hx hz hxz hcap
      go_enter Tryz.func9, Tryz.ntmps9
      go_wp2_with fail
      refine (HL.out _ _ (HS.out.ext (by (repeat (first | with_reducible exact Ext.refl _ | with_reducible assumption | ((with_reducible apply Src.ext); with_reducible assumption) | with_reducible refine Ext.alloc ?_ _ | with_reducible refine Ext.drew ?_ | with_reducible refine Ext.drewN ?_ _ | ((with_reducible refine Ext.setCell' ?_ ?_ _); solve | omega | simp | (simp; omega)) | (with_reducible refine Ext.trans ?_ (by with_reducible assumption)))))) (by (repeat (first | with_reducible assumption | ((with_reducible apply Blk.new); solve | simp | rfl) | with_reducible apply Blk.drew | with_reducible apply Blk.drewN | ((with_reducible apply Blk.far'); solve | omega | simp | (simp; omega)) | with_reducible apply Blk.set_ | with_reducible apply Blk.alloc | ((with_reducible apply Blk.ext'); with_reducible assumption) | ((with_reducible apply Blk.but'); (with_reducible assumption); solve | omega | (simp; omega)))))).mono ?_
      rintro e w1 ⟨rfl, hx1⟩
      go_wp2
      go_ret2
      exact ⟨_, rfl, Own.nil _ _, by (repeat (first | with_reducible exact Ext.refl _ | with_reducible assumption | ((with_reducible apply Src.ext); with_reducible assumption) | with_reducible refine Ext.alloc ?_ _ | with_reducible refine Ext.drew ?_ | with_reducible refine Ext.drewN ?_ _ | ((with_reducible refine Ext.setCell' ?_ ?_ _); solve | omega | simp | (simp; omega)) | (with_reducible refine Ext.trans ?_ (by with_reducible assumption))))⟩
    · have h20 : L.length ≤ 20 := (lksB_iff.1 hok.1).1.2
      have hY0 := chY_len L
      have HCH := Lib.hid (fun W hW => i_changes A n c L W hW hn (by omega) hok.1)
      have HWU := Lib.hid (fun W y hW => i_wayUp A n c L x y W hW hn (by omega))
      have HCO := Lib.hid (fun W A1 c1 (ws : List (List UInt8)) hW (hlw : ws.length ≤ 1048577) => i_ContainsS A1 ws.length c1 ws z W hW rfl hlw)
      have HWL := Lib.hid (fun y => show (wayU L x y).1.length ≤ 1048577 by
        obtain ⟨_, _, hle⟩ := wayU_ne L x y
        omega)
      have HIN := Lib.hid (yiS_in hok.1 x z)
      have HUN := Lib.hid (fun W b v (hO : OwSn W b v (yiS L x z ((chY L).length - 1))) => i_union b v _ W hO (by have := yiS_len L x z ((chY L).length - 1); omega) (yiS_asc L x z) (HIN.out _ (Nat.le_refl _)))
      rw [yrS_law hok.1 x z] at HUN
      have HC3 := Lib.hid (yiC_long hok hxz)
      have HC0 := Lib.hid (yiC_ok hok hxz)
      have HV0 := Lib.hid (fun e => yiV_ok (yiC_ok hok hxz e))
      have HV3 := Lib.hid (fun e => yiV_no (L := L) (a := x) (b := z) (by rw [yiC_long hok hxz e]; decide))
      have hlim : (yrS L x z).length ≤ 1000 := by
        have h1 := foldJ_len (yiS L x z ((chY L).length - 1)) []
        have h2 := yiS_len L x z ((chY L).length - 1)
        rw [yrS_law hok.1 x z, List.length_nil] at h1
        omega
      have HLM := Lib.hid (fun W b v (hO : OwSn W b v (yrS L x z)) => i_limited b v _ W hO (by omega))
      have heq : ((tx x).toList == (tx z).toList) = false := by
        rw [htx, htz]
        simpa using hxz
      generalize tx x = sx at *
      generalize tx z = sz at *
      clear htx htz h hn hg hok hx hz hxz hcap hlim
      go_enter Tryz.func9, Tryz.ntmps9
      go_wp2_with fail
      refine (HL.out _ _ (HS.out.ext (by (repeat (first | with_reducible exact Ext.refl _ | with_reducible assumption | ((with_reducible apply Src.ext); with_reducible assumption) | with_reducible refine Ext.alloc ?_ _ | with_reducible refine Ext.drew ?_ | with_reducible refine Ext.drewN ?_ _ | ((with_reducible refine Ext.setCell' ?_ ?_ _); solve | omega | simp | (simp; omega)) | (with_reducible refine Ext.trans ?_ (by with_reducible assumption)))))) (by (repeat (first | with_reducible assumption | ((with_reducible apply Blk.new); solve | simp | rfl) | with_reducible apply Blk.drew | with_reducible apply Blk.drewN | ((with_reducible apply Blk.far'); solve | omega | simp | (simp; omega)) | with_reducible apply Blk.set_ | with_reducible apply Blk.alloc | ((with_reducible apply Blk.ext'); with_reducible assumption) | ((with_reducible apply Blk.but'); (with_reducible assumption); solve | omega | (simp; omega)))))).mono ?_
      rintro e w1 ⟨rfl, hx1⟩
      go_wp2_with fail
      refine (HCH.out _ (HS.out.ext (by (repeat (first | with_reducible exact Ext.refl _ | with_reducible assumption | ((with_reducible apply Src.ext); with_reducible assumption) | with_reducible refine Ext.alloc ?_ _ | with_reducible refine Ext.drew ?_ | with_reducible refine Ext.drewN ?_ _ | ((with_reducible refine Ext.setCell' ?_ ?_ _); solve | omega | simp | (simp; omega)) | (with_reducible refine Ext.trans ?_ (by with_reducible assumption))))))).mono ?_
      rintro e w2 ⟨vy, rfl, hOY, hx2⟩
      obtain ⟨A2, c2, rfl, hSY, hq2⟩ := hOY.sl len_encI
      have HSY := Lib.hid hSY
      have hx02 : Ext w w2 := by (repeat (first | with_reducible exact Ext.refl _ | with_reducible assumption | ((with_reducible apply Src.ext); with_reducible assumption) | with_reducible refine Ext.alloc ?_ _ | with_reducible refine Ext.drew ?_ | with_reducible refine Ext.drewN ?_ _ | ((with_reducible refine Ext.setCell' ?_ ?_ _); solve | omega | simp | (simp; omega)) | (with_reducible refine Ext.trans ?_ (by with_reducible assumption))))
      have HX2 := Lib.hid hx02
      have hsz := hx02.size
      obtain ⟨un, hun⟩ : ∃ un, un = (chY L).length := ⟨_, rfl⟩
      have HUE := Lib.hid hun
      have hun1 : 1 ≤ un := by
        obtain ⟨j, hj, _⟩ := chY_at (L := L) (z := -3000) (by unfold chL; simp)
        omega
      rw [← hun] at HUN HIN hY0 ⊢
      clear hun hOY hSY hq2
      go_wp2
      go_loopw [9, 11] (fun v i wr => ∃ k : Nat, k + 1 ≤ un ∧ i = .int .i64 ((k : Int) + 1) ∧ Hid (OwSn wr w2.heap.size v (yiS L x z k)) ∧ Ext w2 wr) (fun _ i _ => un - (intOf i).toNat)
      case atStart => exact ⟨0, by omega, rfl, Lib.hid (Own.nil _ _), by (repeat (first | with_reducible exact Ext.refl _ | with_reducible assumption | ((with_reducible apply Src.ext); with_reducible assumption) | with_reducible refine Ext.alloc ?_ _ | with_reducible refine Ext.drew ?_ | with_reducible refine Ext.drewN ?_ _ | ((with_reducible refine Ext.setCell' ?_ ?_ _); solve | omega | simp | (simp; omega)) | (with_reducible refine Ext.trans ?_ (by with_reducible assumption))))⟩
      case round =>
        obtain ⟨k, hk, rfl, HV, hxr⟩ := hrel
        obtain ⟨w5, rfl⟩ : ∃ x, x = wr := ⟨wr, rfl⟩
        have hsr := hxr.size
        by_cases hlt : k + 1 < un
        · have hkr : k < (chY L).length := by rw [← HUE.out]; omega
          have hkr1 : k + 1 < (chY L).length := by rw [← HUE.out]; omega
          have hcd : decide ((k : Int) + 1 < (un : Int)) = true := decide_eq_true (by omega)
          obtain ⟨b, off, rfl, hbb, d0⟩ := (HSY.out.ext hxr).it hkr
          obtain ⟨b2, off2, e2, hbb2, d1⟩ := (HSY.out.ext hxr).it hkr1
          injection e2 with e2
          injection e2 with e3 e4
          subst e3 e4
          have hwk : IntKind.i64.wrap ((k : Int) + 1 - 1) = (k : Int) := by rw [IntWalk.i64_in _ (by omega)]; omega
          obtain ⟨y, hy⟩ : ∃ y, y = (chY L).getD k 0 := ⟨_, rfl⟩
          have HY := Lib.hid hy
          rw [← hy] at d0
          clear hy
          by_cases hm : z ∈ (wayU L x y).1
          · have hmd : decide (z ∈ (wayU L x y).1) = true := decide_eq_true hm
            have HI : Hid (insY L x z ((chY L).getD k 0) = true) := Lib.hid (by rw [← HY.out]; exact hmd)
            have HCY := Lib.hid (fun W A1 c1 hW => HCO.out W A1 c1 (wayU L x y).1 hW (HWL.out y))
            rw [hmd] at HCY
            obtain ⟨y2, hy2⟩ : ∃ y2, y2 = (chY L).getD (k + 1) 0 := ⟨_, rfl⟩
            have HY2 := Lib.hid hy2
            rw [← hy2] at d1
            have htn : ((k : Int) + 1).toNat = k + 1 := by omega
            have hlt0 : k < un := by omega
            obtain ⟨j1, j2, j3, j4⟩ := HIN.out (k + 1) (by omega) (y, y2 - 1) (by rw [yiS_yes HI.out, ← HY.out, ← HY2.out]; exact List.mem_append_right _ (List.mem_singleton.2 rfl))
            simp only at j3 j4
            have hw1 : IntKind.i64.wrap (y2 - 1) = y2 - 1 := IntWalk.i64_in _ (by omega)
            have hkl := yiS_len L x z k
            clear hm hmd hy2 j1 j2
            go_wp2_with fail
            refine (HWU.out _ _ (HS.out.ext (by (repeat (first | with_reducible exact Ext.refl _ | with_reducible assumption | ((with_reducible apply Src.ext); with_reducible assumption) | with_reducible refine Ext.alloc ?_ _ | with_reducible refine Ext.drew ?_ | with_reducible refine Ext.drewN ?_ _ | ((with_reducible refine Ext.setCell' ?_ ?_ _); solve | omega | simp | (simp; omega)) | (with_reducible refine Ext.trans ?_ (by with_reducible assumption))))))).mono ?_
            rintro e w6 ⟨v6, rfl, hO6, hx6⟩
            obtain ⟨A6, c6, rfl, hS6, hq6⟩ := hO6.sl len_encS
            have HS6 := Lib.hid hS6
            have hs6 := hx6.size
            clear hO6 hS6 hq6
            go_wp2_with fail
            refine (HCY.out _ _ _ (HS6.out.ext (by (repeat (first | with_reducible exact Ext.refl _ | with_reducible assumption | ((with_reducible apply Src.ext); with_reducible assumption) | with_reducible refine Ext.alloc ?_ _ | with_reducible refine Ext.drew ?_ | with_reducible refine Ext.drewN ?_ _ | ((with_reducible refine Ext.setCell' ?_ ?_ _); solve | omega | simp | (simp; omega)) | (with_reducible refine Ext.trans ?_ (by with_reducible assumption))))))).mono ?_
            rintro e w7 ⟨rfl, hx7⟩
            have hs7 := hx7.size
            obtain ⟨hc6, hf6⟩ := hx6.rules
            obtain ⟨hc7, hf7⟩ := hx7.rules
            have hb6 : b < w6.heap.size := by omega
            have hb7 : b < w7.heap.size := by omega
            go_wp2
            have hx57 : Ext w5 w7 := hx6.trans hx7
            have HKN : Hid (∀ W, Ext w2 W → W.cell? ⟨b, off + k, none⟩ = some (.int .i64 y) ∧ W.cell? ⟨b, off + (k + 1), none⟩ = some (.int .i64 y2)) := Lib.hid (fun W hW => ⟨by have := (HSY.out.ext hW).it' hkr; rwa [← HY.out] at this, by have := (HSY.out.ext hW).it' hkr1; rwa [← HY2.out] at this⟩)
            have HX57 := Lib.hid hx57
            obtain ⟨v1, v2⟩ := HKN.out w7 (hxr.trans hx57)
            have i0 : IntKind.i64.wrap (k : Int) = (k : Int) := IntWalk.i64_in _ (by omega)
            have i1 : (0 : Int) ≤ (k : Int) := by omega
            have i2 : (k : Int) < (un : Int) := by omega
            have i3 : (0 : Int) ≤ (k : Int) + 1 := by omega
            have i4 : (k : Int) + 1 < (un : Int) := by omega
            clear hx57 d0 d1
            go_region_held3 (fun w' => w'.cell? ⟨b, off + k, none⟩ = some (.int .i64 y) ∧ w'.cell? ⟨b, off + (k + 1), none⟩ = some (.int .i64 y2)) (first | exact hk8 | exact HKN.out _ (by (repeat (first | with_reducible exact Ext.refl _ | with_reducible assumption | ((with_reducible apply Src.ext); with_reducible assumption) | with_reducible refine Ext.alloc ?_ _ | with_reducible refine Ext.drew ?_ | with_reducible refine Ext.drewN ?_ _ | ((with_reducible refine Ext.setCell' ?_ ?_ _); solve | omega | simp | (simp; omega)) | (with_reducible refine Ext.trans ?_ (by with_reducible assumption))))) | go_keep) (first | (refine step_append_sl elSn len_encSn one_encSn rfl _ _ rfl rfl (HV.out.ext (by (repeat (first | with_reducible exact Ext.refl _ | with_reducible assumption | ((with_reducible apply Src.ext); with_reducible assumption) | with_reducible refine Ext.alloc ?_ _ | with_reducible refine Ext.drew ?_ | with_reducible refine Ext.drewN ?_ _ | ((with_reducible refine Ext.setCell' ?_ ?_ _); solve | omega | simp | (simp; omega)) | (with_reducible refine Ext.trans ?_ (by with_reducible assumption)))))) (xs := [(y, y2 - 1)]) rfl (blk_sn1 (by (repeat (first | with_reducible assumption | ((with_reducible apply Blk.new); solve | simp | rfl) | with_reducible apply Blk.drew | with_reducible apply Blk.drewN | ((with_reducible apply Blk.far'); solve | omega | simp | (simp; omega)) | with_reducible apply Blk.set_ | with_reducible apply Blk.alloc | ((with_reducible apply Blk.ext'); with_reducible assumption) | ((with_reducible apply Blk.but'); (with_reducible assumption); solve | omega | (simp; omega))))) rfl) (by simp only [List.length_cons, List.length_nil]; unfold maxLen; omega) (by simp only [List.length_cons, List.length_nil]; omega) (by first | omega | (simp; omega)) ?_; intro v' w8 hown hgrow _; have hx8 : Ext w2 w8 := Ext.grown (by (repeat (first | with_reducible exact Ext.refl _ | with_reducible assumption | ((with_reducible apply Src.ext); with_reducible assumption) | with_reducible refine Ext.alloc ?_ _ | with_reducible refine Ext.drew ?_ | with_reducible refine Ext.drewN ?_ _ | ((with_reducible refine Ext.setCell' ?_ ?_ _); solve | omega | simp | (simp; omega)) | (with_reducible refine Ext.trans ?_ (by with_reducible assumption))))) hgrow (fun q hq => (HV.out.row q hq).1); have HV2 := Lib.hid hown; have hk8 := HKN.out w8 hx8))
            all_goals
            clear hown hgrow
            go_wp2
            go_roundw
            case rel => exact ⟨k + 1, by omega, by simp, Lib.hid (by rw [yiS_yes HI.out, ← HY.out, ← HY2.out]; exact HV2.out), by (repeat (first | with_reducible exact Ext.refl _ | with_reducible assumption | ((with_reducible apply Src.ext); with_reducible assumption) | with_reducible refine Ext.alloc ?_ _ | with_reducible refine Ext.drew ?_ | with_reducible refine Ext.drewN ?_ _ | ((with_reducible refine Ext.setCell' ?_ ?_ _); solve | omega | simp | (simp; omega)) | (with_reducible refine Ext.trans ?_ (by with_reducible assumption))))⟩
            case measure => simp [intOf]; omega
          · have hmd : decide (z ∈ (wayU L x y).1) = false := decide_eq_false hm
            have HI : Hid (insY L x z ((chY L).getD k 0) = false) := Lib.hid (by rw [← HY.out]; exact hmd)
            have HCY := Lib.hid (fun W A1 c1 hW => HCO.out W A1 c1 (wayU L x y).1 hW (HWL.out y))
            rw [hmd] at HCY
            clear hm hmd
            go_wp2_with fail
            refine (HWU.out _ _ (HS.out.ext (by (repeat (first | with_reducible exact Ext.refl _ | with_reducible assumption | ((with_reducible apply Src.ext); with_reducible assumption) | with_reducible refine Ext.alloc ?_ _ | with_reducible refine Ext.drew ?_ | with_reducible refine Ext.drewN ?_ _ | ((with_reducible refine Ext.setCell' ?_ ?_ _); solve | omega | simp | (simp; omega)) | (with_reducible refine Ext.trans ?_ (by with_reducible assumption))))))).mono ?_
            rintro e w6 ⟨v6, rfl, hO6, hx6⟩
            obtain ⟨A6, c6, rfl, hS6, hq6⟩ := hO6.sl len_encS
            have HS6 := Lib.hid hS6
            have hs6 := hx6.size
            clear hO6 hS6 hq6
            go_wp2_with fail
            refine (HCY.out _ _ _ (HS6.out.ext (by (repeat (first | with_reducible exact Ext.refl _ | with_reducible assumption | ((with_reducible apply Src.ext); with_reducible assumption) | with_reducible refine Ext.alloc ?_ _ | with_reducible refine Ext.drew ?_ | with_reducible refine Ext.drewN ?_ _ | ((with_reducible refine Ext.setCell' ?_ ?_ _); solve | omega | simp | (simp; omega)) | (with_reducible refine Ext.trans ?_ (by with_reducible assumption))))))).mono ?_
            rintro e w7 ⟨rfl, hx7⟩
            go_wp2
            go_roundw
            case rel => exact ⟨k + 1, by omega, by simp, Lib.hid (by rw [yiS_no HI.out]; exact HV.out.ext (by (repeat (first | with_reducible exact Ext.refl _ | with_reducible assumption | ((with_reducible apply Src.ext); with_reducible assumption) | with_reducible refine Ext.alloc ?_ _ | with_reducible refine Ext.drew ?_ | with_reducible refine Ext.drewN ?_ _ | ((with_reducible refine Ext.setCell' ?_ ?_ _); solve | omega | simp | (simp; omega)) | (with_reducible refine Ext.trans ?_ (by with_reducible assumption)))))), by (repeat (first | with_reducible exact Ext.refl _ | with_reducible assumption | ((with_reducible apply Src.ext); with_reducible assumption) | with_reducible refine Ext.alloc ?_ _ | with_reducible refine Ext.drew ?_ | with_reducible refine Ext.drewN ?_ _ | ((with_reducible refine Ext.setCell' ?_ ?_ _); solve | omega | simp | (simp; omega)) | (with_reducible refine Ext.trans ?_ (by with_reducible assumption))))⟩
            case measure => simp [intOf]; omega
        · have hku : k = un - 1 := by omega
          have hcd : decide ((k : Int) + 1 < (un : Int)) = false := decide_eq_false (by omega)
          rw [hku] at HV
          obtain ⟨A5, c5, rfl, hq5⟩ := HV.out.sl len_encSn
          have HU5 := Lib.hid (HUN.out _ _ _ HV.out)
          generalize (yiS L x z (un - 1)).length = l5 at *
          clear hq5 hku
          go_wp2_with fail
          refine HU5.out.mono ?_
          rintro e w8 ⟨v8, rfl, hO8, hx8⟩
          have HO8 := Lib.hid hO8
          have HX8 := Lib.hid hx8
          have HL8 := Lib.hid (HLM.out _ _ _ hO8)
          obtain ⟨A8, c8, rfl, hq8⟩ := hO8.sl len_encSn
          obtain ⟨l8, hl8⟩ : ∃ l8, l8 = (yrS L x z).length := ⟨_, rfl⟩
          rw [← hl8] at HL8 HO8 HC3 HC0 HV0 HV3 ⊢
          clear hO8 hq8 hx8 hl8
          go_wp2_with fail
          refine HL8.out.mono ?_
          rintro e w9 ⟨⟨h12, rfl⟩ | ⟨h12, rfl⟩, rfl⟩
          · have HR1 := Lib.hid (HC3.out h12)
            have HR2 := Lib.hid (HV3.out h12)
            go_wp2
            go_ret2
            exact ⟨_, by rw [HR1.out]; rfl, by rw [HR2.out]; exact Own.nil _ _, HX2.out.trans (hxr.trans HX8.out)⟩
          · have HR1 := Lib.hid (HC0.out h12)
            have HR2 := Lib.hid (HV0.out h12)
            go_wp2
            go_ret2
            exact ⟨_, by rw [HR1.out]; rfl, by rw [HR2.out]; exact HO8.out.less (by have := hxr.size; omega), HX2.out.trans (hxr.trans HX8.out)⟩
  · rw [lkC_two hok] at HL
    have hC := yiC_bad hok
    have hV := yiV_no (L := L) (a := x) (b := z) (by rw [hC]; decide)
    rw [hC, hV]
    generalize tx x = sx at *
    generalize tx z = sz at *
    clear hC hV htx htz h hn hg hok hx hz hcap
    go_enter Tryz.func9, Tryz.ntmps9
    go_wp2_with fail
    refine (HL.out _ _ (HS.out.ext (by (repeat (first | with_reducible exact Ext.refl _ | with_reducible assumption | ((with_reducible apply Src.ext); with_reducible assumption) | with_reducible refine Ext.alloc ?_ _ | with_reducible refine Ext.drew ?_ | with_reducible refine Ext.drewN ?_ _ | ((with_reducible refine Ext.setCell' ?_ ?_ _); solve | omega | simp | (simp; omega)) | (with_reducible refine Ext.trans ?_ (by with_reducible assumption)))))) (by (repeat (first | with_reducible assumption | ((with_reducible apply Blk.new); solve | simp | rfl) | with_reducible apply Blk.drew | with_reducible apply Blk.drewN | ((with_reducible apply Blk.far'); solve | omega | simp | (simp; omega)) | with_reducible apply Blk.set_ | with_reducible apply Blk.alloc | ((with_reducible apply Blk.ext'); with_reducible assumption) | ((with_reducible apply Blk.but'); (with_reducible assumption); solve | omega | (simp; omega)))))).mono ?_
    rintro e w1 ⟨rfl, hx1⟩
    go_wp2
    go_ret2
    exact ⟨_, rfl, Own.nil _ _, by (repeat (first | with_reducible exact Ext.refl _ | with_reducible assumption | ((with_reducible apply Src.ext); with_reducible assumption) | with_reducible refine Ext.alloc ?_ _ | with_reducible refine Ext.drew ?_ | with_reducible refine Ext.drewN ?_ _ | ((with_reducible refine Ext.setCell' ?_ ?_ _); solve | omega | simp | (simp; omega)) | (with_reducible refine Ext.trans ?_ (by with_reducible assumption))))⟩
end
end Go.Proofs.YtncccigbiefnkaaGreatDoor
