/- The union of spans that are in a strict order. -/
import Derived.Test.YtmpgjajkaehdiaaGreatDoorUH
import Derived.Test.YtmpgjajkaehdiaaGreatDoorUB
import Derived.Deep.RegionHeld3
import Derived.Deep.DeepCutAuto
import Derived.RegionTactic
import Derived.BigRegion
import Derived.WalkLawsBesides
import Derived.WalkSpells
import Derived.Lib.MinMax
import Derived.Outline
namespace Go.Proofs.YtmpgjajkaehdiaaGreatDoor
open Go.RowKit
attribute [local go_sem] ExtOf.cell ExtOf.frozen

theorem take_joinS {S : List Sn} {k : Nat} (hk : k < S.length) : (S.take (k + 1)).foldl joinS [] = joinS ((S.take k).foldl joinS []) (S.getD k (0, 0)) := by
  rw [take_succ_sn S hk, List.foldl_append]; rfl
theorem foldJ_len : ∀ (S : List Sn) (o : List Sn), (S.foldl joinS o).length ≤ o.length + S.length
  | [], _ => Nat.le_refl _
  | s :: S, o => by
    have h1 := foldJ_len S (joinS o s)
    have h2 := joinS_len o s
    rw [List.foldl_cons, List.length_cons]
    omega
theorem foldJ_mem {S : List Sn} (h : ∀ s ∈ S, -10000 ≤ s.1 ∧ s.1 ≤ 10000 ∧ -10000 ≤ s.2 ∧ s.2 ≤ 10000) : ∀ {o : List Sn}, (∀ s ∈ o, -10000 ≤ s.1 ∧ s.1 ≤ 10000 ∧ -10000 ≤ s.2 ∧ s.2 ≤ 10000) → ∀ t ∈ S.foldl joinS o, -10000 ≤ t.1 ∧ t.1 ≤ 10000 ∧ -10000 ≤ t.2 ∧ t.2 ≤ 10000 := by
  induction S with
  | nil => exact fun ho => ho
  | cons s S ih =>
    intro o ho
    rw [List.foldl_cons]
    refine ih (fun t ht => h t (List.mem_cons_of_mem _ ht)) fun t ht => ?_
    have hs := h s (List.mem_cons_self ..)
    rcases List.eq_nil_or_concat o with rfl | ⟨o', u, rfl⟩
    · rw [joinS_nil, List.mem_singleton] at ht
      rw [ht]; exact hs
    · rw [List.concat_eq_append] at *
      rw [joinS_snoc] at ht
      have hu := ho u (List.mem_append_right _ (List.mem_singleton.2 rfl))
      split at ht
      · rcases List.mem_append.1 ht with e | e
        · exact ho t (List.mem_append_left _ e)
        · rw [List.mem_singleton] at e
          rw [e]; simp only; omega
      · rcases List.mem_append.1 ht with e | e
        · exact ho t e
        · rw [List.mem_singleton] at e
          rw [e]; exact hs
set_option maxRecDepth 20000 in
set_option maxHeartbeats 12800000 in
theorem i_union (base : Nat) (v : Value) (S : List Sn) (w : World) (h : OwSn w base v S) (hl : S.length ≤ 1000) (hp : S.Pairwise (fun s t => s.1 < t.1)) (hb : ∀ s ∈ S, -10000 ≤ s.1 ∧ s.1 ≤ 10000 ∧ -10000 ≤ s.2 ∧ s.2 ≤ 10000) :
    Calls Tryz.prog 55 #[v] w fun e w' => ∃ v', e = .returned v' ∧ OwSn w' w.heap.size v' (S.foldl joinS []) ∧ Ext w w' := by
  obtain ⟨A, c, rfl, _⟩ := h.sl len_encSn
  have HQ := Lib.hid h.seqAt
  have HF := Lib.hid (fun W (hW : SeqS W w.heap.size S) => i_SortedFuncS hW (by omega) hp)
  have HJ := Lib.hid (fun k (hk : k < S.length) => hb (S.getD k (0, 0)) (by rw [show S.getD k (0, 0) = S[k] by simp [List.getD, hk]]; exact List.getElem_mem hk))
  have HM := Lib.hid (fun k => foldJ_mem (S := S.take k) (o := []) (fun s hs => hb s (List.mem_of_mem_take hs)) (fun s hs => by cases hs))
  have HLJ := Lib.hid (fun k => Nat.le_trans (foldJ_len (S.take k) []) (by rw [List.length_nil, Nat.zero_add]; exact List.length_take_le' _ _))
  have HFIN : Hid ((S.take S.length).foldl joinS [] = S.foldl joinS []) := Lib.hid (by rw [List.take_length])
  clear h hp hb
  obtain ⟨n, hn⟩ : ∃ n, n = S.length := ⟨_, rfl⟩
  have HN := Lib.hid hn
  rw [← hn] at HQ HFIN hl ⊢
  clear hn
  go_enter Tryz.func55, Tryz.ntmps55
  go_wp2_with fail
  refine (i_ValuesS A n c w).mono ?_
  rintro e w1 ⟨rfl, rfl⟩
  go_wp2_with fail
  refine (HF.out _ HQ.out).mono ?_
  rintro e w2 ⟨v2, rfl, hO2, hx2⟩
  obtain ⟨A2, c2, rfl, hS2, hq2⟩ := hO2.sl len_encSn
  have HS2 := Lib.hid hS2
  have hx02 : Ext w w2 := (Ext.alloc (Ext.refl _) _).trans hx2
  have HX2 := Lib.hid hx02
  have hsz := hx02.size
  rw [← HN.out]
  clear hO2 hS2 hq2 hx2 hx02 HF HQ
  go_wp2
  go_loopw [4, 13] (fun v i wr => ∃ k : Nat, k ≤ n ∧ i = .int .i64 k ∧ Hid (OwSn wr w2.heap.size v ((S.take k).foldl joinS [])) ∧ Ext w2 wr) (fun _ i _ => n - (intOf i).toNat)
  case atStart => exact ⟨0, by omega, rfl, Lib.hid (Own.nil _ _), by (repeat (first | with_reducible exact Ext.refl _ | with_reducible assumption | ((with_reducible apply Src.ext); with_reducible assumption) | with_reducible refine Ext.alloc ?_ _ | with_reducible refine Ext.drew ?_ | with_reducible refine Ext.drewN ?_ _ | ((with_reducible refine Ext.setCell' ?_ ?_ _); solve | omega | simp | (simp; omega)) | (with_reducible refine Ext.trans ?_ (by with_reducible assumption))))⟩
  case round =>
    obtain ⟨k, hk, rfl, HV, hxr⟩ := hrel
    obtain ⟨w5, rfl⟩ : ∃ x, x = wr := ⟨wr, rfl⟩
    have hsr := hxr.size
    by_cases hlt : k < n
    · have hkr : k < S.length := by rw [← HN.out]; exact hlt
      obtain ⟨b, off, rfl, hbb, d0, d1⟩ := (HS2.out.ext hxr).sn hkr
      have HSU := Lib.hid (take_joinS hkr)
      obtain ⟨r1, r2, r3, r4⟩ := HJ.out k hkr
      have hTL := Nat.le_trans (HLJ.out k) (show S.length ≤ 1000 by rw [← HN.out]; exact hl)
      have hTM := HM.out k
      generalize (S.take k).foldl joinS [] = T at *
      generalize S.getD k (0, 0) = s at *
      obtain ⟨s1, s2⟩ := s
      rcases List.eq_nil_or_concat T with rfl | ⟨o, t, rfl⟩
      · obtain ⟨A5, c5, hv5, _⟩ := HV.out.sl len_encSn
        simp only [List.length_nil] at hv5
        subst hv5
        clear hTM hTL
        simp only at d0 d1
        go_wp2
        (refine wp_region_ext (by kernel_rfl) (by kernel_rfl) ?_; (repeat (go_big_quiet_step (fail))); refine wpQuiet_nil ?_; intro wq hxwq; obtain ⟨hcwq, hfwq⟩ := hxwq.rules; have hswq := hxwq.size; (try simp at hswq))
        have hgq2 : w5.heap.size < wq.heap.size := by omega
        go_wp2_with (at_builtin; refine wpList_append_sl elSn len_encSn one_encSn rfl _ _ rfl rfl (HV.out.ext (by (repeat (first | with_reducible exact Ext.refl _ | with_reducible assumption | ((with_reducible apply Src.ext); with_reducible assumption) | with_reducible refine Ext.alloc ?_ _ | with_reducible refine Ext.drew ?_ | with_reducible refine Ext.drewN ?_ _ | ((with_reducible refine Ext.setCell' ?_ ?_ _); solve | omega | simp | (simp; omega)) | (with_reducible refine Ext.trans ?_ (by with_reducible assumption)))))) (xs := [(s1, s2)]) rfl (blk_sn1 (by (repeat (first | with_reducible assumption | ((with_reducible apply Blk.new); solve | simp | rfl) | with_reducible apply Blk.drew | with_reducible apply Blk.drewN | ((with_reducible apply Blk.far'); solve | omega | simp | (simp; omega)) | with_reducible apply Blk.set_ | with_reducible apply Blk.alloc | ((with_reducible apply Blk.ext'); with_reducible assumption) | ((with_reducible apply Blk.but'); (with_reducible assumption); solve | omega | (simp; omega))))) rfl) (by simp only [List.length_cons, List.length_nil]; unfold maxLen; omega) (by simp only [List.length_cons, List.length_nil]; omega) (by first | omega | (simp; omega)) ?_)
        intro v' w8 hown hgrow _
        have HV2 := Lib.hid hown
        have hx8 : Ext w2 w8 := by
          refine Ext.grown ?_ hgrow (fun q hq => (HV.out.row q hq).1)
          (repeat (first | with_reducible exact Ext.refl _ | with_reducible assumption | ((with_reducible apply Src.ext); with_reducible assumption) | with_reducible refine Ext.alloc ?_ _ | with_reducible refine Ext.drew ?_ | with_reducible refine Ext.drewN ?_ _ | ((with_reducible refine Ext.setCell' ?_ ?_ _); solve | omega | simp | (simp; omega)) | (with_reducible refine Ext.trans ?_ (by with_reducible assumption))))
        clear hown hgrow
        go_wp2
        go_roundw
        case rel => exact ⟨k + 1, by omega, by go_num, Lib.hid (by rw [HSU.out, joinS_nil]; exact HV2.out), by (repeat (first | with_reducible exact Ext.refl _ | with_reducible assumption | ((with_reducible apply Src.ext); with_reducible assumption) | with_reducible refine Ext.alloc ?_ _ | with_reducible refine Ext.drew ?_ | with_reducible refine Ext.drewN ?_ _ | ((with_reducible refine Ext.setCell' ?_ ?_ _); solve | omega | simp | (simp; omega)) | (with_reducible refine Ext.trans ?_ (by with_reducible assumption))))⟩
        case measure => simp [intOf]; omega
      · rw [List.concat_eq_append] at *
        obtain ⟨t1, t2⟩ := t
        obtain ⟨g, cap, rfl, hgb, hgl, q2, q3, q4⟩ := HV.out.last
        obtain ⟨u1, u2, u3, u4⟩ := hTM (t1, t2) (List.mem_append_right _ (List.mem_singleton.2 rfl))
        rw [List.length_append, List.length_singleton] at hTL
        simp only at d0 d1 q2 q3 r1 r2 r3 r4 u1 u2 u3 u4
        have hm18 : o.length ≤ 1000 := by omega
        obtain ⟨m, hm⟩ : ∃ m, m = o.length := ⟨_, rfl⟩
        have HMM := Lib.hid hm
        rw [← hm] at HV hTL q2 q3 q4 ⊢
        obtain ⟨ln, hln⟩ : ∃ ln, ln = m + 1 := ⟨_, rfl⟩
        have HLN := Lib.hid hln
        rw [← hln] at HV hTL ⊢
        have hw : IntKind.i64.wrap ((ln : Int) - 1) = (m : Int) := by rw [IntWalk.i64_in _ (by omega)]; omega
        have hw2 : IntKind.i64.wrap (t2 + 1) = t2 + 1 := IntWalk.i64_in _ (by omega)
        have hmlt : m < ln := by omega
        have hpos : decide ((ln : Int) > 0) = true := decide_eq_true (by omega)
        have hpos1 : decide (0 < (ln : Int)) = true := decide_eq_true (by omega)
        have hpos2 : decide (0 < ln) = true := decide_eq_true (by omega)
        have hpos3 : 0 < ln := by omega
        have HG : Hid (∀ W y, Ext w5 W → OwSn (W.setCell ⟨g, m * 2 + 1, none⟩ (.int .i64 y)) w2.heap.size (.slice (some ⟨g, 0, none⟩) ln cap) (o ++ [(t1, y)]) ∧ Ext w2 (W.setCell ⟨g, m * 2 + 1, none⟩ (.int .i64 y))) := Lib.hid (fun W y hW => by
          have h1 := HV.out.ext hW
          rw [HLN.out, HMM.out] at h1 ⊢
          obtain ⟨a, b⟩ := OwSn.grow h1 y
          exact ⟨a, Ext.grown (hxr.trans hW) b (fun q hq => by cases hq; exact hgb)⟩)
        clear hm hln hTM
        by_cases hs : s1 ≤ t2 + 1
        · have hsd : decide (s1 ≤ t2 + 1) = true := decide_eq_true hs
          go_wp2
          (refine wp_region_ext (by kernel_rfl) (by kernel_rfl) ?_; (repeat (go_big_quiet_step (fail))); refine wpQuiet_nil ?_; intro wq hxwq; obtain ⟨hcwq, hfwq⟩ := hxwq.rules; have hswq := hxwq.size; (try simp at hswq))
          have hgq : g < wq.heap.size := by omega
          have hgq2 : w5.heap.size < wq.heap.size := by omega
          go_wp2
          (refine wp_region_ext_tail 14 (by kernel_rfl) (by kernel_rfl) ?_; simp only [List.take_succ_cons, List.take_zero, List.drop_succ_cons, List.drop_zero]; (repeat (go_big_quiet_step (fail))); refine wpQuiet_nil ?_; intro ws hxws; obtain ⟨hcws, hfws⟩ := hxws.rules; have hsws := hxws.size; (try simp at hsws))
          have hgs : g < ws.heap.size := by omega
          have hgs2 : w5.heap.size < ws.heap.size := by omega
          go_wp2
          go_roundw
          case rel => exact ⟨k + 1, by omega, by go_num, Lib.hid (by rw [HSU.out, joinS_snoc, if_pos hs]; exact (HG.out _ _ (by (repeat (first | with_reducible exact Ext.refl _ | with_reducible assumption | ((with_reducible apply Src.ext); with_reducible assumption) | with_reducible refine Ext.alloc ?_ _ | with_reducible refine Ext.drew ?_ | with_reducible refine Ext.drewN ?_ _ | ((with_reducible refine Ext.setCell' ?_ ?_ _); solve | omega | simp | (simp; omega)) | (with_reducible refine Ext.trans ?_ (by with_reducible assumption)))))).1), (HG.out _ _ (by (repeat (first | with_reducible exact Ext.refl _ | with_reducible assumption | ((with_reducible apply Src.ext); with_reducible assumption) | with_reducible refine Ext.alloc ?_ _ | with_reducible refine Ext.drew ?_ | with_reducible refine Ext.drewN ?_ _ | ((with_reducible refine Ext.setCell' ?_ ?_ _); solve | omega | simp | (simp; omega)) | (with_reducible refine Ext.trans ?_ (by with_reducible assumption)))))).2⟩
          case measure => simp [intOf]; omega
        · have hsd : decide (s1 ≤ t2 + 1) = false := decide_eq_false hs
          have HNS := Lib.hid hs
          go_wp2
          (refine wp_region_ext (by kernel_rfl) (by kernel_rfl) ?_; (repeat (go_big_quiet_step (fail))); refine wpQuiet_nil ?_; intro wq hxwq; obtain ⟨hcwq, hfwq⟩ := hxwq.rules; have hswq := hxwq.size; (try simp at hswq))
          have hgq : g < wq.heap.size := by omega
          have hgq2 : w5.heap.size < wq.heap.size := by omega
          go_wp2_with (at_builtin; refine wpList_append_sl elSn len_encSn one_encSn rfl _ _ rfl rfl (HV.out.ext (by (repeat (first | with_reducible exact Ext.refl _ | with_reducible assumption | ((with_reducible apply Src.ext); with_reducible assumption) | with_reducible refine Ext.alloc ?_ _ | with_reducible refine Ext.drew ?_ | with_reducible refine Ext.drewN ?_ _ | ((with_reducible refine Ext.setCell' ?_ ?_ _); solve | omega | simp | (simp; omega)) | (with_reducible refine Ext.trans ?_ (by with_reducible assumption)))))) (xs := [(s1, s2)]) rfl (blk_sn1 (by (repeat (first | with_reducible assumption | ((with_reducible apply Blk.new); solve | simp | rfl) | with_reducible apply Blk.drew | with_reducible apply Blk.drewN | ((with_reducible apply Blk.far'); solve | omega | simp | (simp; omega)) | with_reducible apply Blk.set_ | with_reducible apply Blk.alloc | ((with_reducible apply Blk.ext'); with_reducible assumption) | ((with_reducible apply Blk.but'); (with_reducible assumption); solve | omega | (simp; omega))))) rfl) (by simp only [List.length_append, List.length_cons, List.length_nil]; unfold maxLen; omega) (by simp only [List.length_append, List.length_cons, List.length_nil]; omega) (by first | omega | (simp; omega)) ?_)
          intro v' w8 hown hgrow _
          have HV2 := Lib.hid hown
          have hx8 : Ext w2 w8 := by
            refine Ext.grown ?_ hgrow (fun q hq => (HV.out.row q hq).1)
            (repeat (first | with_reducible exact Ext.refl _ | with_reducible assumption | ((with_reducible apply Src.ext); with_reducible assumption) | with_reducible refine Ext.alloc ?_ _ | with_reducible refine Ext.drew ?_ | with_reducible refine Ext.drewN ?_ _ | ((with_reducible refine Ext.setCell' ?_ ?_ _); solve | omega | simp | (simp; omega)) | (with_reducible refine Ext.trans ?_ (by with_reducible assumption))))
          clear hown hgrow
          go_wp2
          go_roundw
          case rel => exact ⟨k + 1, by omega, by go_num, Lib.hid (by rw [HSU.out, joinS_snoc, if_neg (by have := HNS.out; simp only; omega)]; (try rw [List.append_assoc]); exact HV2.out), by (repeat (first | with_reducible exact Ext.refl _ | with_reducible assumption | ((with_reducible apply Src.ext); with_reducible assumption) | with_reducible refine Ext.alloc ?_ _ | with_reducible refine Ext.drew ?_ | with_reducible refine Ext.drewN ?_ _ | ((with_reducible refine Ext.setCell' ?_ ?_ _); solve | omega | simp | (simp; omega)) | (with_reducible refine Ext.trans ?_ (by with_reducible assumption))))⟩
          case measure => simp [intOf]; omega
    · have hkn : k = n := by omega
      subst hkn
      rw [HFIN.out] at HV
      obtain ⟨A5, c5, rfl, _⟩ := HV.out.sl len_encSn
      obtain ⟨un, hun⟩ : ∃ un, un = (S.foldl joinS []).length := ⟨_, rfl⟩
      rw [← hun] at HV ⊢
      clear hun
      go_wp2
      go_ret
      exact ⟨.slice A5 un c5, rfl, HV.out.less hsz, HX2.out.trans hxr⟩
end Go.Proofs.YtmpgjajkaehdiaaGreatDoor
