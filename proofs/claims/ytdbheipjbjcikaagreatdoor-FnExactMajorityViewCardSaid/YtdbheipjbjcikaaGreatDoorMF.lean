/- Contracts of the maps: middles of edges, walked over the translation. -/
import Derived.Test.YtdbheipjbjcikaaGreatDoorMD
import Derived.Deep.RegionHeld3
import Derived.Deep.DeepCutAuto
import Derived.RegionTactic
import Derived.BigRegion
import Derived.WalkLawsBesides
import Derived.WalkSpells
import Derived.Lib.MinMax
import Derived.Outline
namespace Go.Proofs.YtdbheipjbjcikaaGreatDoor
open Go.RowKit
attribute [local go_sem] ExtOf.cell ExtOf.frozen

theorem any_yes {α : Type} {P : α → Bool} {xs : List α} {d : α} {k : Nat} (hk : k < xs.length) (h : P (xs.getD k d) = true) : true = xs.any P := by
  rw [eq_comm, List.any_eq_true]
  refine ⟨xs.getD k d, ?_, h⟩
  simp [List.getD, hk]
theorem any_no {α : Type} {P : α → Bool} {xs : List α} {d : α} (h : ∀ j, j < xs.length → P (xs.getD j d) = false) : false = xs.any P := by
  rw [eq_comm, List.any_eq_false]
  intro x hx
  obtain ⟨j, hj, rfl⟩ := List.mem_iff_getElem.1 hx
  have := h j hj
  simpa [List.getD, hj] using this
theorem dbTo_at {ps : List (Int × Int)} {n k : Nat} (hk : k < n) : (dbTo ps n).getD k (0, 0) = dbP (atP ps k) := by simp [dbTo, List.getD, hk]
theorem dbl_bd {ps : List (Int × Int)} (h : oks ps = true) (h0 : 0 < ps.length) : Bd2 (dbTo ps ps.length) := fun k => by
  have hl := dbTo_len ps ps.length
  have hk : k.toNat % ps.length < ps.length := Nat.mod_lt _ h0
  have hb := oks_at2 h hk
  unfold bdP at hb
  unfold ptx ptz
  rw [hl, dbTo_at hk]
  unfold dbP atP
  simp only
  omega
set_option maxRecDepth 20000 in
set_option maxHeartbeats 12800000 in
theorem s_l17Middle (A B : Option Addr) (ca cb : Nat) (pa pb : List (Int × Int)) (w : World) (hA : SlAt w 2 encP A pa) (hB : SlAt w 2 encP B pb) (ha0 : 0 < pa.length) (hb0 : 0 < pb.length) (hal : pa.length ≤ 1000) (hbl : pb.length ≤ 1000) (hao : oks pa = true) (hbo : oks pb = true) :
    Calls Tryz.prog 190 #[.slice A pa.length ca, .slice B pb.length cb] w fun e w' => e = .returned (.bool ((edL pa).any (midE pb))) ∧ Ext w w' := by
  have HAO := Lib.hid hao
  have HBO := Lib.hid hbo
  clear hao hbo
  obtain ⟨gb, ob, rfl, hgb⟩ := hB.open_ hb0
  obtain ⟨ga, oa, rfl, hga⟩ := hA.open_ ha0
  have HO0 := Lib.hid (World.ownsRow_made (base := w.heap.size) (e := 70) (size := 2) w #[] 0 (Nat.le_refl _) (Nat.zero_le _) rfl : OwP _ w.heap.size _ (dbTo pb 0))
  go_enter Tryz.func190, Tryz.ntmps190
  go_wp2
  go_loopw [5, 6] (fun v i wr => ∃ k : Nat, k ≤ pb.length ∧ i = .int .i64 k ∧ Hid (OwP wr w.heap.size v (dbTo pb k)) ∧ Ext w wr) (fun _ i _ => pb.length - (intOf i).toNat)
  case atStart => exact ⟨0, by omega, rfl, HO0, by (repeat (first | with_reducible exact Ext.refl _ | with_reducible assumption | ((with_reducible apply Src.ext); with_reducible assumption) | with_reducible refine Ext.alloc ?_ _ | with_reducible refine Ext.drew ?_ | with_reducible refine Ext.drewN ?_ _ | ((with_reducible refine Ext.setCell' ?_ ?_ _); solve | omega | simp | (simp; omega)) | (with_reducible refine Ext.trans ?_ (by with_reducible assumption))))⟩
  case round =>
    obtain ⟨k, hk, rfl, HV, hxr⟩ := hrel
    have hsr := hxr.size
    have hgr : gb < wr.heap.size := by omega
    by_cases hlt : k < pb.length
    · obtain ⟨d0, d1⟩ := (hB.ext hxr).pt' (k := k) hlt
      have hnl := dbTo_len pb k
      have HN := Lib.hid hnl
      have HS := Lib.hid (dbTo_succ pb k)
      have hok := oks_at2 HBO.out hlt
      have HA : Hid (dbP (atP pb k) = (2 * (pb.getD k (0, 0)).1, 2 * (pb.getD k (0, 0)).2)) := Lib.hid rfl
      generalize (pb.getD k (0, 0)).1 = xk at d0 HA hok
      generalize (pb.getD k (0, 0)).2 = zk at d1 HA hok
      obtain ⟨q1, q2, q3, q4⟩ := hok
      clear hnl
      go_wp2
      have hw1 : IntKind.i64.wrap (2 * xk) = 2 * xk := IntWalk.i64_in _ (by omega)
      have hw2 : IntKind.i64.wrap (2 * zk) = 2 * zk := IntWalk.i64_in _ (by omega)
      go_region_held3 (fun w' => w'.cell? ⟨gb, ob + k * 2, none⟩ = some (.int .i64 xk) ∧ w'.cell? ⟨gb, ob + k * 2 + 1, none⟩ = some (.int .i64 zk)) (first | go_keep | (go_split_ands; (refine ⟨(grown_far hgrow _ ?_ ?_).trans ?_, (grown_far hgrow _ ?_ ?_).trans ?_⟩); all_goals (first | assumption | (intro e; have hq : w.heap.size ≤ gb := (HV.out.row _ e.symm).1; omega) | (simp [*]; done) | (simp; omega)))) (first | (refine step_append_sl elP len_encP one_encP rfl _ _ rfl rfl (HV.out.ext (by (repeat (first | with_reducible exact Ext.refl _ | with_reducible assumption | ((with_reducible apply Src.ext); with_reducible assumption) | with_reducible refine Ext.alloc ?_ _ | with_reducible refine Ext.drew ?_ | with_reducible refine Ext.drewN ?_ _ | ((with_reducible refine Ext.setCell' ?_ ?_ _); solve | omega | simp | (simp; omega)) | (with_reducible refine Ext.trans ?_ (by with_reducible assumption)))))) (xs := [dbP (atP pb k)]) rfl (blk_sl1 (by (repeat (first | with_reducible assumption | ((with_reducible apply Blk.new); solve | simp | rfl) | with_reducible apply Blk.drew | with_reducible apply Blk.drewN | ((with_reducible apply Blk.far'); solve | omega | simp | (simp; omega)) | with_reducible apply Blk.set_ | with_reducible apply Blk.alloc | ((with_reducible apply Blk.ext'); with_reducible assumption) | ((with_reducible apply Blk.but'); (with_reducible assumption); solve | omega | (simp; omega))))) HA.out) (by rw [HN.out]; unfold maxLen; first | (simp; done) | (simp; omega)) (by rw [HN.out]; first | (simp; done) | (simp; omega)) (by first | omega | (simp; done) | (simp; omega)) ?_; intro v' w5 hown hgrow _))
      all_goals
        rw [← HS.out] at hown
        have HV2 := Lib.hid hown
        have hx5 : Ext w w5 := by
          refine Ext.grown ?_ hgrow (fun q hq => (HV.out.row q hq).1)
          (repeat (first | with_reducible exact Ext.refl _ | with_reducible assumption | ((with_reducible apply Src.ext); with_reducible assumption) | with_reducible refine Ext.alloc ?_ _ | with_reducible refine Ext.drew ?_ | with_reducible refine Ext.drewN ?_ _ | ((with_reducible refine Ext.setCell' ?_ ?_ _); solve | omega | simp | (simp; omega)) | (with_reducible refine Ext.trans ?_ (by with_reducible assumption))))
        clear hown hgrow
        go_wp2
        go_roundw
        case rel => exact ⟨k + 1, by omega, by go_num, HV2, hx5⟩
        case measure => simp [intOf]; omega
    · obtain rfl : k = pb.length := by omega
      obtain ⟨A3, c3, hv, hS3, _, _, hA3⟩ := HV.out.sl len_encP
      subst hv
      have hdl := dbTo_len pb pb.length
      have HD := Lib.hid hdl
      clear hdl
      have hdb := dbl_bd HBO.out hb0
      have HDB := Lib.hid hdb
      clear hdb
      obtain ⟨W2, hW2⟩ : ∃ W : World, W = wr := ⟨_, rfl⟩
      rw [← hW2] at hS3 hxr
      have HW2 := Lib.hid hW2
      clear hW2
      go_wp2
      go_loopw [7] (fun i wr => ∃ k : Nat, k ≤ pa.length ∧ i = .int .i64 k ∧ Hid (∀ j, j < k → midE pb ((edL pa).getD j edD) = false) ∧ Ext W2 wr) (fun i _ => pa.length - (intOf i).toNat)
      case atStart => exact ⟨0, by omega, rfl, fun j hj => absurd hj (by omega), by rw [HW2.out]; (repeat (first | with_reducible exact Ext.refl _ | with_reducible assumption | ((with_reducible apply Src.ext); with_reducible assumption) | with_reducible refine Ext.alloc ?_ _ | with_reducible refine Ext.drew ?_ | with_reducible refine Ext.drewN ?_ _ | ((with_reducible refine Ext.setCell' ?_ ?_ _); solve | omega | simp | (simp; omega)) | (with_reducible refine Ext.trans ?_ (by with_reducible assumption))))⟩
      case round =>
        obtain ⟨k, hk, rfl, HI, hx2⟩ := hrel
        have hs2 := hx2.size
        have hsx := hxr.size
        have hgr : ga < wr.heap.size := by omega
        by_cases hlt : k < pa.length
        · have hS := (hA.ext hxr).ext hx2
          obtain ⟨d0, d1⟩ := hS.ring hlt
          have hb1 := bd_at HAO.out (k : Int)
          have hb2 := bd_at HAO.out ((k : Int) + 1)
          unfold bdP at hb1 hb2
          obtain ⟨r1, r2, r3, r4⟩ := hb1
          obtain ⟨r5, r6, r7, r8⟩ := hb2
          have HE : Hid ((edL pa).getD k edD = ((ptx pa k, ptz pa k), (ptx pa ((k : Int) + 1), ptz pa ((k : Int) + 1)))) := Lib.hid (by rw [edL_at hlt]; unfold edAt atP; rw [ptx_lt hlt, ptz_lt hlt])
          have hw1 : IntKind.i64.wrap ((k : Int) + 1) = (k : Int) + 1 := IntWalk.i64_in _ (by omega)
          have n1 : ¬ ga = wr.heap.size := by omega
          have n2 : ¬ wr.heap.size = ga := by omega
          have n3 : ¬ ga = wr.heap.size + 1 := by omega
          have n4 : ¬ wr.heap.size + 1 = ga := by omega
          (have := (show ga < wr.heap.size + 1 from by omega); have := (show ga < wr.heap.size + 1 + 1 from by omega); have := (show ga < wr.heap.size + 1 + 1 + 1 from by omega))
          go_upto_region 9 with (fail)
          go_cut [8, 9] (fun p q wx => ∃ b5 b6 : Nat, p = .pointer (some ⟨b5, 0, none⟩) ∧ q = .pointer (some ⟨b6, 0, none⟩) ∧ Blk wx b5 70 #[.int .i64 (ptx pa k), .int .i64 (ptz pa k)] ∧ Blk wx b6 70 #[.int .i64 (ptx pa ((k : Int) + 1)), .int .i64 (ptz pa ((k : Int) + 1))] ∧ Ext wr wx)
          case first =>
            go_region_held3 (fun w' => w'.cell? ⟨ga, oa + k * 2, none⟩ = some (.int .i64 (ptx pa k)) ∧ w'.cell? ⟨ga, oa + k * 2 + 1, none⟩ = some (.int .i64 (ptz pa k))) (go_keep) (first | ((go_at_call 131; refine (s_corner _ _ pa _ _ (hS.ext (by (repeat (first | with_reducible exact Ext.refl _ | with_reducible assumption | ((with_reducible apply Src.ext); with_reducible assumption) | with_reducible refine Ext.alloc ?_ _ | with_reducible refine Ext.drew ?_ | with_reducible refine Ext.drewN ?_ _ | ((with_reducible refine Ext.setCell' ?_ ?_ _); solve | omega | simp | (simp; omega)) | (with_reducible refine Ext.trans ?_ (by with_reducible assumption)))))) ha0 (by omega) (by omega) (by omega)).mono ?_; rintro e w1 ⟨rfl, hx1⟩; obtain ⟨hc1, hf1⟩ := hx1.rules; have hs1 := hx1.size; (try simp at hs1); have hl1 : ∀ n, n < _ → n < w1.heap.size := fun n h => Nat.lt_of_lt_of_le h hx1.size; have := (show ga < w1.heap.size from by omega)); have k0 := (hx1.cell ga (oa + k * 2) (by simp; omega)).trans (show _ = some (.int .i64 (ptx pa k)) by simp [*]); have k1 := (hx1.cell ga (oa + k * 2 + 1) (by simp; omega)).trans (show _ = some (.int .i64 (ptz pa k)) by simp [*]); (have := (show ga < w1.heap.size + 1 from by omega); have := (show ga < w1.heap.size + 1 + 1 from by omega)); have := (show ¬ ga = w1.heap.size from by omega); have := (show ¬ w1.heap.size = ga from by omega); have := (show ¬ ga = w1.heap.size + 1 from by omega); have := (show ¬ w1.heap.size + 1 = ga from by omega)))
            all_goals (go_wp2_with fail; go_meet; exact ⟨_, _, rfl, rfl, Blk.eq (by (repeat (first | with_reducible assumption | ((with_reducible apply Blk.new); solve | simp | rfl) | with_reducible apply Blk.drew | with_reducible apply Blk.drewN | ((with_reducible apply Blk.far'); solve | omega | simp | (simp; omega)) | with_reducible apply Blk.set_ | with_reducible apply Blk.alloc | ((with_reducible apply Blk.ext'); with_reducible assumption) | ((with_reducible apply Blk.but'); (with_reducible assumption); solve | omega | (simp; omega))))) (by rfl), Blk.eq (by (repeat (first | with_reducible assumption | ((with_reducible apply Blk.new); solve | simp | rfl) | with_reducible apply Blk.drew | with_reducible apply Blk.drewN | ((with_reducible apply Blk.far'); solve | omega | simp | (simp; omega)) | with_reducible apply Blk.set_ | with_reducible apply Blk.alloc | ((with_reducible apply Blk.ext'); with_reducible assumption) | ((with_reducible apply Blk.but'); (with_reducible assumption); solve | omega | (simp; omega))))) (by rfl), by (repeat (first | with_reducible exact Ext.refl _ | with_reducible assumption | ((with_reducible apply Src.ext); with_reducible assumption) | with_reducible refine Ext.alloc ?_ _ | with_reducible refine Ext.drew ?_ | with_reducible refine Ext.drewN ?_ _ | ((with_reducible refine Ext.setCell' ?_ ?_ _); solve | omega | simp | (simp; omega)) | (with_reducible refine Ext.trans ?_ (by with_reducible assumption))))⟩)
          case rest =>
          obtain ⟨b5, b6, rfl, rfl, B5, B6, hxc⟩ := hcut
          have e0 : wc.cell? ⟨b5, 0, none⟩ = some (.int .i64 (ptx pa k)) := B5.cell 0
          have e1 : wc.cell? ⟨b5, 1, none⟩ = some (.int .i64 (ptz pa k)) := B5.cell 1
          have e2 : wc.cell? ⟨b6, 0, none⟩ = some (.int .i64 (ptx pa ((k : Int) + 1))) := B6.cell 0
          have e3 : wc.cell? ⟨b6, 1, none⟩ = some (.int .i64 (ptz pa ((k : Int) + 1))) := B6.cell 1
          by_cases hm : 0 < sideZ (dbTo pb pb.length) (ptx pa k + ptx pa ((k : Int) + 1)) (ptz pa k + ptz pa ((k : Int) + 1))
          · have HM : Hid (midE pb ((edL pa).getD k edD) = true) := Lib.hid (by rw [HE.out]; simp only [midE, midB]; rw [decide_eq_true_eq]; exact hm)
            go_wp2_with fail
            refine (s_side2 _ _ (dbTo pb pb.length) _ _ _ ((hS3.ext hx2).ext (by (repeat (first | with_reducible exact Ext.refl _ | with_reducible assumption | ((with_reducible apply Src.ext); with_reducible assumption) | with_reducible refine Ext.alloc ?_ _ | with_reducible refine Ext.drew ?_ | with_reducible refine Ext.drewN ?_ _ | ((with_reducible refine Ext.setCell' ?_ ?_ _); solve | omega | simp | (simp; omega)) | (with_reducible refine Ext.trans ?_ (by with_reducible assumption)))))) (by rw [HD.out]; exact hb0) (by rw [HD.out]; exact hbl) HDB.out (by omega)).mono ?_
            rintro e w4 ⟨rfl, hx4⟩
            go_wp2
            go_ret
            exact ⟨ret_bool (any_yes (d := edD) (by rw [edL_len]; exact hlt) HM.out), by (repeat (first | with_reducible exact Ext.refl _ | with_reducible assumption | ((with_reducible apply Src.ext); with_reducible assumption) | with_reducible refine Ext.alloc ?_ _ | with_reducible refine Ext.drew ?_ | with_reducible refine Ext.drewN ?_ _ | ((with_reducible refine Ext.setCell' ?_ ?_ _); solve | omega | simp | (simp; omega)) | (with_reducible refine Ext.trans ?_ (by with_reducible assumption))))⟩
          · have HM : Hid (midE pb ((edL pa).getD k edD) = false) := Lib.hid (by rw [HE.out]; simp only [midE, midB]; rw [decide_eq_false_iff_not]; exact hm)
            have HI2 := Lib.hid (upTo_succ HI.out HM.out)
            go_wp2_with fail
            refine (s_side2 _ _ (dbTo pb pb.length) _ _ _ ((hS3.ext hx2).ext (by (repeat (first | with_reducible exact Ext.refl _ | with_reducible assumption | ((with_reducible apply Src.ext); with_reducible assumption) | with_reducible refine Ext.alloc ?_ _ | with_reducible refine Ext.drew ?_ | with_reducible refine Ext.drewN ?_ _ | ((with_reducible refine Ext.setCell' ?_ ?_ _); solve | omega | simp | (simp; omega)) | (with_reducible refine Ext.trans ?_ (by with_reducible assumption)))))) (by rw [HD.out]; exact hb0) (by rw [HD.out]; exact hbl) HDB.out (by omega)).mono ?_
            rintro e w4 ⟨rfl, hx4⟩
            go_wp2
            go_roundw
            case rel => exact ⟨k + 1, by omega, by go_num, HI2, by (repeat (first | with_reducible exact Ext.refl _ | with_reducible assumption | ((with_reducible apply Src.ext); with_reducible assumption) | with_reducible refine Ext.alloc ?_ _ | with_reducible refine Ext.drew ?_ | with_reducible refine Ext.drewN ?_ _ | ((with_reducible refine Ext.setCell' ?_ ?_ _); solve | omega | simp | (simp; omega)) | (with_reducible refine Ext.trans ?_ (by with_reducible assumption))))⟩
            case measure => simp [intOf]; omega
        · obtain rfl : k = pa.length := by omega
          go_wp2
          go_ret
          exact ⟨ret_bool (any_no (d := edD) (fun j hj => HI.out j (by rw [edL_len] at hj; exact hj))), by (repeat (first | with_reducible exact Ext.refl _ | with_reducible assumption | ((with_reducible apply Src.ext); with_reducible assumption) | with_reducible refine Ext.alloc ?_ _ | with_reducible refine Ext.drew ?_ | with_reducible refine Ext.drewN ?_ _ | ((with_reducible refine Ext.setCell' ?_ ?_ _); solve | omega | simp | (simp; omega)) | (with_reducible refine Ext.trans ?_ (by with_reducible assumption))))⟩

end Go.Proofs.YtdbheipjbjcikaaGreatDoor
