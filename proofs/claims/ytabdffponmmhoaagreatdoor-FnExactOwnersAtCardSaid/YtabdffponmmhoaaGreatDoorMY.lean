/- Contracts of the maps: middles of edges, walked over the translation. Contracts of the maps: rings apart, walked over the translation. Contracts of the maps: lists of rings, walked over the translation. -/
import Derived.Test.YtabdffponmmhoaaGreatDoorMX
import Derived.Deep.RegionHeld3
import Derived.Deep.DeepCutAuto
import Derived.RegionTactic
import Derived.BigRegion
import Derived.WalkLawsBesides
import Derived.WalkSpells
import Derived.Lib.MinMax
import Derived.Outline
import Derived.Test.YtabdffponmmhoaaGreatDoorME
namespace Go.Proofs.YtabdffponmmhoaaGreatDoor
open Go.RowKit
attribute [local go_sem] ExtOf.cell ExtOf.frozen

theorem any_yes {α : Type} {P : α → Bool} {xs : List α} {d : α} {k : Nat} (hk : k < xs.length) (h : P (xs.getD k d) = true) : true = xs.any P := by
  rw [eq_comm, List.any_eq_true]
  refine ⟨xs.getD k d, ?_, h⟩
  simp [List.getD, hk]
theorem any_no {α : Type} {P : α → Bool} {xs : List α} {d : α} (h : ∀ j, j < xs.length → P (xs.getD j d) = false) : false = xs.any P := by
  rw [eq_comm, List.any_eq_false]
  intro x hx
  obtain ⟨j, hj, rfl⟩ := List.mem_iff_getElem.1 hx
  have := h j hj
  simpa [List.getD, hj] using this
theorem dbTo_at {ps : List (Int × Int)} {n k : Nat} (hk : k < n) : (dbTo ps n).getD k (0, 0) = dbP (atP ps k) := by simp [dbTo, List.getD, hk]
theorem dbl_bd {ps : List (Int × Int)} (h : oks ps = true) (h0 : 0 < ps.length) : Bd2 (dbTo ps ps.length) := fun k => by
  have hl := dbTo_len ps ps.length
  have hk : k.toNat % ps.length < ps.length := Nat.mod_lt _ h0
  have hb := oks_at2 h hk
  unfold bdP at hb
  unfold ptx ptz
  rw [hl, dbTo_at hk]
  unfold dbP atP
  simp only
  omega
set_option maxRecDepth 20000 in
set_option maxHeartbeats 12800000 in
theorem s_l17Middle (A B : Option Addr) (ca cb : Nat) (pa pb : List (Int × Int)) (w : World) (hA : SlAt w 2 encP A pa) (hB : SlAt w 2 encP B pb) (ha0 : 0 < pa.length) (hb0 : 0 < pb.length) (hal : pa.length ≤ 1000) (hbl : pb.length ≤ 1000) (hao : oks pa = true) (hbo : oks pb = true) :
    Calls Tryz.prog 125 #[.slice A pa.length ca, .slice B pb.length cb] w fun e w' => e = .returned (.bool ((edL pa).any (midE pb))) ∧ Ext w w' := by
  have HAO := Lib.hid hao
  have HBO := Lib.hid hbo
  clear hao hbo
  obtain ⟨gb, ob, rfl, hgb⟩ := hB.open_ hb0
  obtain ⟨ga, oa, rfl, hga⟩ := hA.open_ ha0
  have HO0 := Lib.hid (World.ownsRow_made (base := w.heap.size) (e := 35) (size := 2) w #[] 0 (Nat.le_refl _) (Nat.zero_le _) rfl : OwP _ w.heap.size _ (dbTo pb 0))
  go_enter Tryz.func125, Tryz.ntmps125
  go_wp2
  go_loopw [5, 6] (fun v i wr => ∃ k : Nat, k ≤ pb.length ∧ i = .int .i64 k ∧ Hid (OwP wr w.heap.size v (dbTo pb k)) ∧ Ext w wr) (fun _ i _ => pb.length - (intOf i).toNat)
  case atStart => exact ⟨0, by omega, rfl, HO0, by (repeat (first | with_reducible exact Ext.refl _ | with_reducible assumption | ((with_reducible apply Src.ext); with_reducible assumption) | with_reducible refine Ext.alloc ?_ _ | with_reducible refine Ext.drew ?_ | with_reducible refine Ext.drewN ?_ _ | ((with_reducible refine Ext.setCell' ?_ ?_ _); solve | omega | simp | (simp; omega)) | (with_reducible refine Ext.trans ?_ (by with_reducible assumption))))⟩
  case round =>
    obtain ⟨k, hk, rfl, HV, hxr⟩ := hrel
    have hsr := hxr.size
    have hgr : gb < wr.heap.size := by omega
    by_cases hlt : k < pb.length
    · obtain ⟨d0, d1⟩ := (hB.ext hxr).pt' (k := k) hlt
      have hnl := dbTo_len pb k
      have HN := Lib.hid hnl
      have HS := Lib.hid (dbTo_succ pb k)
      have hok := oks_at2 HBO.out hlt
      have HA : Hid (dbP (atP pb k) = (2 * (pb.getD k (0, 0)).1, 2 * (pb.getD k (0, 0)).2)) := Lib.hid rfl
      generalize (pb.getD k (0, 0)).1 = xk at d0 HA hok
      generalize (pb.getD k (0, 0)).2 = zk at d1 HA hok
      obtain ⟨q1, q2, q3, q4⟩ := hok
      clear hnl
      go_wp2
      have hw1 : IntKind.i64.wrap (2 * xk) = 2 * xk := IntWalk.i64_in _ (by omega)
      have hw2 : IntKind.i64.wrap (2 * zk) = 2 * zk := IntWalk.i64_in _ (by omega)
      go_region_held3 (fun w' => w'.cell? ⟨gb, ob + k * 2, none⟩ = some (.int .i64 xk) ∧ w'.cell? ⟨gb, ob + k * 2 + 1, none⟩ = some (.int .i64 zk)) (first | go_keep | (go_split_ands; (refine ⟨(grown_far hgrow _ ?_ ?_).trans ?_, (grown_far hgrow _ ?_ ?_).trans ?_⟩); all_goals (first | assumption | (intro e; have hq : w.heap.size ≤ gb := (HV.out.row _ e.symm).1; omega) | (simp [*]; done) | (simp; omega)))) (first | (refine step_append_sl elP len_encP one_encP rfl _ _ rfl rfl (HV.out.ext (by (repeat (first | with_reducible exact Ext.refl _ | with_reducible assumption | ((with_reducible apply Src.ext); with_reducible assumption) | with_reducible refine Ext.alloc ?_ _ | with_reducible refine Ext.drew ?_ | with_reducible refine Ext.drewN ?_ _ | ((with_reducible refine Ext.setCell' ?_ ?_ _); solve | omega | simp | (simp; omega)) | (with_reducible refine Ext.trans ?_ (by with_reducible assumption)))))) (xs := [dbP (atP pb k)]) rfl (blk_sl1 (by (repeat (first | with_reducible assumption | ((with_reducible apply Blk.new); solve | simp | rfl) | with_reducible apply Blk.drew | with_reducible apply Blk.drewN | ((with_reducible apply Blk.far'); solve | omega | simp | (simp; omega)) | with_reducible apply Blk.set_ | with_reducible apply Blk.alloc | ((with_reducible apply Blk.ext'); with_reducible assumption) | ((with_reducible apply Blk.but'); (with_reducible assumption); solve | omega | (simp; omega))))) HA.out) (by rw [HN.out]; unfold maxLen; first | (simp; done) | (simp; omega)) (by rw [HN.out]; first | (simp; done) | (simp; omega)) (by first | omega | (simp; done) | (simp; omega)) ?_; intro v' w5 hown hgrow _))
      all_goals
        rw [← HS.out] at hown
        have HV2 := Lib.hid hown
        have hx5 : Ext w w5 := by
          refine Ext.grown ?_ hgrow (fun q hq => (HV.out.row q hq).1)
          (repeat (first | with_reducible exact Ext.refl _ | with_reducible assumption | ((with_reducible apply Src.ext); with_reducible assumption) | with_reducible refine Ext.alloc ?_ _ | with_reducible refine Ext.drew ?_ | with_reducible refine Ext.drewN ?_ _ | ((with_reducible refine Ext.setCell' ?_ ?_ _); solve | omega | simp | (simp; omega)) | (with_reducible refine Ext.trans ?_ (by with_reducible assumption))))
        clear hown hgrow
        go_wp2
        go_roundw
        case rel => exact ⟨k + 1, by omega, by go_num, HV2, hx5⟩
        case measure => simp [intOf]; omega
    · obtain rfl : k = pb.length := by omega
      obtain ⟨A3, c3, hv, hS3, _, _, hA3⟩ := HV.out.sl len_encP
      subst hv
      have hdl := dbTo_len pb pb.length
      have HD := Lib.hid hdl
      clear hdl
      have hdb := dbl_bd HBO.out hb0
      have HDB := Lib.hid hdb
      clear hdb
      obtain ⟨W2, hW2⟩ : ∃ W : World, W = wr := ⟨_, rfl⟩
      rw [← hW2] at hS3 hxr
      have HW2 := Lib.hid hW2
      clear hW2
      go_wp2
      go_loopw [7] (fun i wr => ∃ k : Nat, k ≤ pa.length ∧ i = .int .i64 k ∧ Hid (∀ j, j < k → midE pb ((edL pa).getD j edD) = false) ∧ Ext W2 wr) (fun i _ => pa.length - (intOf i).toNat)
      case atStart => exact ⟨0, by omega, rfl, fun j hj => absurd hj (by omega), by rw [HW2.out]; (repeat (first | with_reducible exact Ext.refl _ | with_reducible assumption | ((with_reducible apply Src.ext); with_reducible assumption) | with_reducible refine Ext.alloc ?_ _ | with_reducible refine Ext.drew ?_ | with_reducible refine Ext.drewN ?_ _ | ((with_reducible refine Ext.setCell' ?_ ?_ _); solve | omega | simp | (simp; omega)) | (with_reducible refine Ext.trans ?_ (by with_reducible assumption))))⟩
      case round =>
        obtain ⟨k, hk, rfl, HI, hx2⟩ := hrel
        have hs2 := hx2.size
        have hsx := hxr.size
        have hgr : ga < wr.heap.size := by omega
        by_cases hlt : k < pa.length
        · have hS := (hA.ext hxr).ext hx2
          obtain ⟨d0, d1⟩ := hS.ring hlt
          have hb1 := bd_at HAO.out (k : Int)
          have hb2 := bd_at HAO.out ((k : Int) + 1)
          unfold bdP at hb1 hb2
          obtain ⟨r1, r2, r3, r4⟩ := hb1
          obtain ⟨r5, r6, r7, r8⟩ := hb2
          have HE : Hid ((edL pa).getD k edD = ((ptx pa k, ptz pa k), (ptx pa ((k : Int) + 1), ptz pa ((k : Int) + 1)))) := Lib.hid (by rw [edL_at hlt]; unfold edAt atP; rw [ptx_lt hlt, ptz_lt hlt])
          have hw1 : IntKind.i64.wrap ((k : Int) + 1) = (k : Int) + 1 := IntWalk.i64_in _ (by omega)
          have n1 : ¬ ga = wr.heap.size := by omega
          have n2 : ¬ wr.heap.size = ga := by omega
          have n3 : ¬ ga = wr.heap.size + 1 := by omega
          have n4 : ¬ wr.heap.size + 1 = ga := by omega
          (have := (show ga < wr.heap.size + 1 from by omega); have := (show ga < wr.heap.size + 1 + 1 from by omega); have := (show ga < wr.heap.size + 1 + 1 + 1 from by omega))
          go_upto_region 9 with (fail)
          go_cut [8, 9] (fun p q wx => ∃ b5 b6 : Nat, p = .pointer (some ⟨b5, 0, none⟩) ∧ q = .pointer (some ⟨b6, 0, none⟩) ∧ Blk wx b5 35 #[.int .i64 (ptx pa k), .int .i64 (ptz pa k)] ∧ Blk wx b6 35 #[.int .i64 (ptx pa ((k : Int) + 1)), .int .i64 (ptz pa ((k : Int) + 1))] ∧ Ext wr wx)
          case first =>
            go_region_held3 (fun w' => w'.cell? ⟨ga, oa + k * 2, none⟩ = some (.int .i64 (ptx pa k)) ∧ w'.cell? ⟨ga, oa + k * 2 + 1, none⟩ = some (.int .i64 (ptz pa k))) (go_keep) (first | ((go_at_call 66; refine (s_corner _ _ pa _ _ (hS.ext (by (repeat (first | with_reducible exact Ext.refl _ | with_reducible assumption | ((with_reducible apply Src.ext); with_reducible assumption) | with_reducible refine Ext.alloc ?_ _ | with_reducible refine Ext.drew ?_ | with_reducible refine Ext.drewN ?_ _ | ((with_reducible refine Ext.setCell' ?_ ?_ _); solve | omega | simp | (simp; omega)) | (with_reducible refine Ext.trans ?_ (by with_reducible assumption)))))) ha0 (by omega) (by omega) (by omega)).mono ?_; rintro e w1 ⟨rfl, hx1⟩; obtain ⟨hc1, hf1⟩ := hx1.rules; have hs1 := hx1.size; (try simp at hs1); have hl1 : ∀ n, n < _ → n < w1.heap.size := fun n h => Nat.lt_of_lt_of_le h hx1.size; have := (show ga < w1.heap.size from by omega)); have k0 := (hx1.cell ga (oa + k * 2) (by simp; omega)).trans (show _ = some (.int .i64 (ptx pa k)) by simp [*]); have k1 := (hx1.cell ga (oa + k * 2 + 1) (by simp; omega)).trans (show _ = some (.int .i64 (ptz pa k)) by simp [*]); (have := (show ga < w1.heap.size + 1 from by omega); have := (show ga < w1.heap.size + 1 + 1 from by omega)); have := (show ¬ ga = w1.heap.size from by omega); have := (show ¬ w1.heap.size = ga from by omega); have := (show ¬ ga = w1.heap.size + 1 from by omega); have := (show ¬ w1.heap.size + 1 = ga from by omega)))
            all_goals (go_wp2_with fail; go_meet; exact ⟨_, _, rfl, rfl, Blk.eq (by (repeat (first | with_reducible assumption | ((with_reducible apply Blk.new); solve | simp | rfl) | with_reducible apply Blk.drew | with_reducible apply Blk.drewN | ((with_reducible apply Blk.far'); solve | omega | simp | (simp; omega)) | with_reducible apply Blk.set_ | with_reducible apply Blk.alloc | ((with_reducible apply Blk.ext'); with_reducible assumption) | ((with_reducible apply Blk.but'); (with_reducible assumption); solve | omega | (simp; omega))))) (by rfl), Blk.eq (by (repeat (first | with_reducible assumption | ((with_reducible apply Blk.new); solve | simp | rfl) | with_reducible apply Blk.drew | with_reducible apply Blk.drewN | ((with_reducible apply Blk.far'); solve | omega | simp | (simp; omega)) | with_reducible apply Blk.set_ | with_reducible apply Blk.alloc | ((with_reducible apply Blk.ext'); with_reducible assumption) | ((with_reducible apply Blk.but'); (with_reducible assumption); solve | omega | (simp; omega))))) (by rfl), by (repeat (first | with_reducible exact Ext.refl _ | with_reducible assumption | ((with_reducible apply Src.ext); with_reducible assumption) | with_reducible refine Ext.alloc ?_ _ | with_reducible refine Ext.drew ?_ | with_reducible refine Ext.drewN ?_ _ | ((with_reducible refine Ext.setCell' ?_ ?_ _); solve | omega | simp | (simp; omega)) | (with_reducible refine Ext.trans ?_ (by with_reducible assumption))))⟩)
          case rest =>
          obtain ⟨b5, b6, rfl, rfl, B5, B6, hxc⟩ := hcut
          have e0 : wc.cell? ⟨b5, 0, none⟩ = some (.int .i64 (ptx pa k)) := B5.cell 0
          have e1 : wc.cell? ⟨b5, 1, none⟩ = some (.int .i64 (ptz pa k)) := B5.cell 1
          have e2 : wc.cell? ⟨b6, 0, none⟩ = some (.int .i64 (ptx pa ((k : Int) + 1))) := B6.cell 0
          have e3 : wc.cell? ⟨b6, 1, none⟩ = some (.int .i64 (ptz pa ((k : Int) + 1))) := B6.cell 1
          by_cases hm : 0 < sideZ (dbTo pb pb.length) (ptx pa k + ptx pa ((k : Int) + 1)) (ptz pa k + ptz pa ((k : Int) + 1))
          · have HM : Hid (midE pb ((edL pa).getD k edD) = true) := Lib.hid (by rw [HE.out]; simp only [midE, midB]; rw [decide_eq_true_eq]; exact hm)
            go_wp2_with fail
            refine (s_side2 _ _ (dbTo pb pb.length) _ _ _ ((hS3.ext hx2).ext (by (repeat (first | with_reducible exact Ext.refl _ | with_reducible assumption | ((with_reducible apply Src.ext); with_reducible assumption) | with_reducible refine Ext.alloc ?_ _ | with_reducible refine Ext.drew ?_ | with_reducible refine Ext.drewN ?_ _ | ((with_reducible refine Ext.setCell' ?_ ?_ _); solve | omega | simp | (simp; omega)) | (with_reducible refine Ext.trans ?_ (by with_reducible assumption)))))) (by rw [HD.out]; exact hb0) (by rw [HD.out]; exact hbl) HDB.out (by omega)).mono ?_
            rintro e w4 ⟨rfl, hx4⟩
            go_wp2
            go_ret
            exact ⟨ret_bool (any_yes (d := edD) (by rw [edL_len]; exact hlt) HM.out), by (repeat (first | with_reducible exact Ext.refl _ | with_reducible assumption | ((with_reducible apply Src.ext); with_reducible assumption) | with_reducible refine Ext.alloc ?_ _ | with_reducible refine Ext.drew ?_ | with_reducible refine Ext.drewN ?_ _ | ((with_reducible refine Ext.setCell' ?_ ?_ _); solve | omega | simp | (simp; omega)) | (with_reducible refine Ext.trans ?_ (by with_reducible assumption))))⟩
          · have HM : Hid (midE pb ((edL pa).getD k edD) = false) := Lib.hid (by rw [HE.out]; simp only [midE, midB]; rw [decide_eq_false_iff_not]; exact hm)
            have HI2 := Lib.hid (upTo_succ HI.out HM.out)
            go_wp2_with fail
            refine (s_side2 _ _ (dbTo pb pb.length) _ _ _ ((hS3.ext hx2).ext (by (repeat (first | with_reducible exact Ext.refl _ | with_reducible assumption | ((with_reducible apply Src.ext); with_reducible assumption) | with_reducible refine Ext.alloc ?_ _ | with_reducible refine Ext.drew ?_ | with_reducible refine Ext.drewN ?_ _ | ((with_reducible refine Ext.setCell' ?_ ?_ _); solve | omega | simp | (simp; omega)) | (with_reducible refine Ext.trans ?_ (by with_reducible assumption)))))) (by rw [HD.out]; exact hb0) (by rw [HD.out]; exact hbl) HDB.out (by omega)).mono ?_
            rintro e w4 ⟨rfl, hx4⟩
            go_wp2
            go_roundw
            case rel => exact ⟨k + 1, by omega, by go_num, HI2, by (repeat (first | with_reducible exact Ext.refl _ | with_reducible assumption | ((with_reducible apply Src.ext); with_reducible assumption) | with_reducible refine Ext.alloc ?_ _ | with_reducible refine Ext.drew ?_ | with_reducible refine Ext.drewN ?_ _ | ((with_reducible refine Ext.setCell' ?_ ?_ _); solve | omega | simp | (simp; omega)) | (with_reducible refine Ext.trans ?_ (by with_reducible assumption))))⟩
            case measure => simp [intOf]; omega
        · obtain rfl : k = pa.length := by omega
          go_wp2
          go_ret
          exact ⟨ret_bool (any_no (d := edD) (fun j hj => HI.out j (by rw [edL_len] at hj; exact hj))), by (repeat (first | with_reducible exact Ext.refl _ | with_reducible assumption | ((with_reducible apply Src.ext); with_reducible assumption) | with_reducible refine Ext.alloc ?_ _ | with_reducible refine Ext.drew ?_ | with_reducible refine Ext.drewN ?_ _ | ((with_reducible refine Ext.setCell' ?_ ?_ _); solve | omega | simp | (simp; omega)) | (with_reducible refine Ext.trans ?_ (by with_reducible assumption))))⟩

end Go.Proofs.YtabdffponmmhoaaGreatDoor
namespace Go.Proofs.YtabdffponmmhoaaGreatDoor
open Go.RowKit
attribute [local go_sem] ExtOf.cell ExtOf.frozen

def touchE (e f : Ed) : Bool := touchB e.1.1 e.1.2 e.2.1 e.2.2 f.1.1 f.1.2 f.2.1 f.2.2
/-- whether two rings may be on a map together, as the reference reckons it -/
def apartS (pa pb : List (Int × Int)) : Bool := (edL (normS pa)).all (fun e => (edL (normS pb)).all (touchE e)) && !(edL pa).any (midE pb) && !(edL pb).any (midE pa)
theorem apart_no {pa pb : List (Int × Int)} (h : false = (edL (normS pa)).all (fun e => (edL (normS pb)).all (touchE e))) : false = apartS pa pb := by simp [apartS, ← h]
set_option maxRecDepth 20000 in
set_option maxHeartbeats 12800000 in
theorem s_l17Apart (A B : Option Addr) (ca cb : Nat) (pa pb : List (Int × Int)) (w : World) (hA : SlAt w 2 encP A pa) (hB : SlAt w 2 encP B pb) (ha0 : 0 < pa.length) (hb0 : 0 < pb.length) (hal : pa.length ≤ 1000) (hbl : pb.length ≤ 1000) (hao : oks pa = true) (hbo : oks pb = true) :
    Calls Tryz.prog 94 #[.slice A pa.length ca, .slice B pb.length cb] w fun e w' => e = .returned (.bool (apartS pa pb)) ∧ Ext w w' := by
  have HAO := Lib.hid hao
  have HBO := Lib.hid hbo
  clear hao hbo
  go_enter Tryz.func94, Tryz.ntmps94
  go_wp2_with fail
  refine (s_l17Edges _ _ pa _ hA ha0 hal HAO.out).mono ?_
  rintro e w1 ⟨v1, rfl, hO1, hx1⟩
  obtain ⟨A1, c1, rfl, hS1, _, _, _⟩ := hO1.sl len_encE
  clear hO1
  go_wp2_with fail
  refine (s_l17Edges _ _ pb _ (hB.ext hx1) hb0 hbl HBO.out).mono ?_
  rintro e w2 ⟨v2, rfl, hO2, hx2⟩
  obtain ⟨A2, c2, rfl, hS2, _, _, _⟩ := hO2.sl len_encE
  clear hO2
  have hx12 := hx1.trans hx2
  have hS1' := hS1.ext hx2
  have hnl : (edL (normS pa)).length ≤ 1000 := by rw [edL_len, normS_len]; exact hal
  have hml : (edL (normS pb)).length ≤ 1000 := by rw [edL_len, normS_len]; exact hbl
  obtain ⟨n, hn⟩ : ∃ n, n = (edL (normS pa)).length := ⟨_, rfl⟩
  obtain ⟨m, hm⟩ : ∃ m, m = (edL (normS pb)).length := ⟨_, rfl⟩
  rw [← hn] at hnl ⊢
  rw [← hm] at hml ⊢
  have HN := Lib.hid hn
  have HM := Lib.hid hm
  clear hn hm hx1 hx2 hS1
  go_wp2
  go_loopw [7] (fun i wr => ∃ k : Nat, k ≤ n ∧ i = .int .i64 k ∧ Hid (∀ j, j < k → (edL (normS pb)).all (touchE ((edL (normS pa)).getD j edD)) = true) ∧ Ext w2 wr) (fun i _ => n - (intOf i).toNat)
  case atStart => exact ⟨0, by omega, rfl, fun j hj => absurd hj (by omega), by (repeat (first | with_reducible exact Ext.refl _ | with_reducible assumption | ((with_reducible apply Src.ext); with_reducible assumption) | with_reducible refine Ext.alloc ?_ _ | with_reducible refine Ext.drew ?_ | with_reducible refine Ext.drewN ?_ _ | ((with_reducible refine Ext.setCell' ?_ ?_ _); solve | omega | simp | (simp; omega)) | (with_reducible refine Ext.trans ?_ (by with_reducible assumption))))⟩
  case round =>
    obtain ⟨k, hk, rfl, HI, hxr⟩ := hrel
    by_cases hlt : k < n
    · go_wp2
      go_loopw [8] (fun i wi => ∃ j : Nat, j ≤ m ∧ i = .int .i64 j ∧ Hid (∀ q, q < j → touchE ((edL (normS pa)).getD k edD) ((edL (normS pb)).getD q edD) = true) ∧ Ext w2 wi) (fun i _ => m - (intOf i).toNat)
      case atStart => exact ⟨0, by omega, rfl, fun j hj => absurd hj (by omega), by (repeat (first | with_reducible exact Ext.refl _ | with_reducible assumption | ((with_reducible apply Src.ext); with_reducible assumption) | with_reducible refine Ext.alloc ?_ _ | with_reducible refine Ext.drew ?_ | with_reducible refine Ext.drewN ?_ _ | ((with_reducible refine Ext.setCell' ?_ ?_ _); solve | omega | simp | (simp; omega)) | (with_reducible refine Ext.trans ?_ (by with_reducible assumption))))⟩
      case round =>
        obtain ⟨j, hj, rfl, HJ, hxi⟩ := hrel
        by_cases hlm : j < m
        · obtain ⟨g, off, a1, a2, a3, a4, rfl, hgr, he, d0, d1, d2, d3⟩ := (hS1'.ext hxi).ed (k := k) (by rw [← HN.out]; exact hlt)
          obtain ⟨g', off', q1, q2, q3, q4, rfl, hgr', hf, f0, f1, f2, f3⟩ := (hS2.ext hxi).ed (k := j) (by rw [← HM.out]; exact hlm)
          have HE := Lib.hid he
          have HF := Lib.hid hf
          clear he hf
          by_cases ht : touchB a1 a2 a3 a4 q1 q2 q3 q4 = true
          · have HT : Hid (touchE ((edL (normS pa)).getD k edD) ((edL (normS pb)).getD j edD) = true) := Lib.hid (by rw [show (edL (normS pa)).getD k edD = ((a1, a2), (a3, a4)) from HE.out, show (edL (normS pb)).getD j edD = ((q1, q2), (q3, q4)) from HF.out]; exact ht)
            have HJ2 := Lib.hid (upTo_succ HJ.out HT.out)
            go_wp2
            (refine wp_region_ext (by kernel_rfl) (by kernel_rfl) ?_; (repeat (go_big_quiet_step ((go_at_call 124; exact Calls_ext (s_touch _ _ _ _ _ _ _ _ _))))); refine wpQuiet_nil ?_; intro wq hxwq; obtain ⟨hcwq, hfwq⟩ := hxwq.rules; have hswq := hxwq.size; (try simp at hswq))
            go_wp2
            go_roundw
            case rel => exact ⟨j + 1, by omega, by go_num, HJ2, by (repeat (first | with_reducible exact Ext.refl _ | with_reducible assumption | ((with_reducible apply Src.ext); with_reducible assumption) | with_reducible refine Ext.alloc ?_ _ | with_reducible refine Ext.drew ?_ | with_reducible refine Ext.drewN ?_ _ | ((with_reducible refine Ext.setCell' ?_ ?_ _); solve | omega | simp | (simp; omega)) | (with_reducible refine Ext.trans ?_ (by with_reducible assumption))))⟩
            case measure => simp [intOf]; omega
          · have ht' : touchB a1 a2 a3 a4 q1 q2 q3 q4 = false := Bool.eq_false_iff.2 ht
            have HT : Hid (touchE ((edL (normS pa)).getD k edD) ((edL (normS pb)).getD j edD) = false) := Lib.hid (by rw [show (edL (normS pa)).getD k edD = ((a1, a2), (a3, a4)) from HE.out, show (edL (normS pb)).getD j edD = ((q1, q2), (q3, q4)) from HF.out]; exact ht')
            clear ht
            go_wp2
            (refine wp_region_ext (by kernel_rfl) (by kernel_rfl) ?_; (repeat (go_big_quiet_step ((go_at_call 124; exact Calls_ext (s_touch _ _ _ _ _ _ _ _ _))))); refine wpQuiet_nil ?_; intro wq hxwq; obtain ⟨hcwq, hfwq⟩ := hxwq.rules; have hswq := hxwq.size; (try simp at hswq))
            go_wp2
            go_ret
            exact ⟨ret_bool (apart_no (all_no (d := edD) (by rw [← HN.out]; exact hlt) (all_no (d := edD) (by rw [← HM.out]; exact hlm) HT.out).symm)), by (repeat (first | with_reducible exact Ext.refl _ | with_reducible assumption | ((with_reducible apply Src.ext); with_reducible assumption) | with_reducible refine Ext.alloc ?_ _ | with_reducible refine Ext.drew ?_ | with_reducible refine Ext.drewN ?_ _ | ((with_reducible refine Ext.setCell' ?_ ?_ _); solve | omega | simp | (simp; omega)) | (with_reducible refine Ext.trans ?_ (by with_reducible assumption))))⟩
        · obtain rfl : j = m := by omega
          have HI2 := Lib.hid (upTo_succ HI.out (all_yes (d := edD) (fun q hq => HJ.out q (by rw [HM.out]; exact hq))).symm)
          go_wp2
          go_roundw
          case rel => exact ⟨k + 1, by omega, by go_num, HI2, by (repeat (first | with_reducible exact Ext.refl _ | with_reducible assumption | ((with_reducible apply Src.ext); with_reducible assumption) | with_reducible refine Ext.alloc ?_ _ | with_reducible refine Ext.drew ?_ | with_reducible refine Ext.drewN ?_ _ | ((with_reducible refine Ext.setCell' ?_ ?_ _); solve | omega | simp | (simp; omega)) | (with_reducible refine Ext.trans ?_ (by with_reducible assumption))))⟩
          case measure => simp [intOf]; omega
    · obtain rfl : k = n := by omega
      have hall := all_yes (P := fun e => (edL (normS pb)).all (touchE e)) (xs := edL (normS pa)) (d := edD) (fun j hj => HI.out j (by rw [HN.out]; exact hj))
      have HALL := Lib.hid hall
      clear hall
      by_cases hA2 : (edL pa).any (midE pb) = true
      · have hc : ∀ W, SlAt W 2 encP A pa → SlAt W 2 encP B pb → Calls Tryz.prog 125 #[.slice A pa.length ca, .slice B pb.length cb] W fun e w' => e = .returned (.bool true) ∧ Ext W w' := fun W h h' => as_bool (s_l17Middle _ _ _ _ pa pb _ h h' ha0 hb0 hal hbl HAO.out HBO.out) hA2
        have HC := Lib.hid hc
        have HF : Hid (false = apartS pa pb) := Lib.hid (by simp [apartS, hA2])
        clear hc hA2
        go_wp2_with fail
        refine (HC.out _ ((hA.ext hx12).ext (by (repeat (first | with_reducible exact Ext.refl _ | with_reducible assumption | ((with_reducible apply Src.ext); with_reducible assumption) | with_reducible refine Ext.alloc ?_ _ | with_reducible refine Ext.drew ?_ | with_reducible refine Ext.drewN ?_ _ | ((with_reducible refine Ext.setCell' ?_ ?_ _); solve | omega | simp | (simp; omega)) | (with_reducible refine Ext.trans ?_ (by with_reducible assumption)))))) ((hB.ext hx12).ext (by (repeat (first | with_reducible exact Ext.refl _ | with_reducible assumption | ((with_reducible apply Src.ext); with_reducible assumption) | with_reducible refine Ext.alloc ?_ _ | with_reducible refine Ext.drew ?_ | with_reducible refine Ext.drewN ?_ _ | ((with_reducible refine Ext.setCell' ?_ ?_ _); solve | omega | simp | (simp; omega)) | (with_reducible refine Ext.trans ?_ (by with_reducible assumption))))))).mono ?_
        rintro e w4 ⟨rfl, hx4⟩
        go_wp2
        go_ret
        exact ⟨ret_bool HF.out, by (repeat (first | with_reducible exact Ext.refl _ | with_reducible assumption | ((with_reducible apply Src.ext); with_reducible assumption) | with_reducible refine Ext.alloc ?_ _ | with_reducible refine Ext.drew ?_ | with_reducible refine Ext.drewN ?_ _ | ((with_reducible refine Ext.setCell' ?_ ?_ _); solve | omega | simp | (simp; omega)) | (with_reducible refine Ext.trans ?_ (by with_reducible assumption))))⟩
      · have hA2' : (edL pa).any (midE pb) = false := Bool.eq_false_iff.2 hA2
        have hc : ∀ W, SlAt W 2 encP A pa → SlAt W 2 encP B pb → Calls Tryz.prog 125 #[.slice A pa.length ca, .slice B pb.length cb] W fun e w' => e = .returned (.bool false) ∧ Ext W w' := fun W h h' => as_bool (s_l17Middle _ _ _ _ pa pb _ h h' ha0 hb0 hal hbl HAO.out HBO.out) hA2'
        have HC := Lib.hid hc
        have HF : Hid ((!(edL pb).any (midE pa)) = apartS pa pb) := Lib.hid (by simp [apartS, hA2', ← HALL.out])
        clear hc hA2 hA2'
        go_wp2_with fail
        refine (HC.out _ ((hA.ext hx12).ext (by (repeat (first | with_reducible exact Ext.refl _ | with_reducible assumption | ((with_reducible apply Src.ext); with_reducible assumption) | with_reducible refine Ext.alloc ?_ _ | with_reducible refine Ext.drew ?_ | with_reducible refine Ext.drewN ?_ _ | ((with_reducible refine Ext.setCell' ?_ ?_ _); solve | omega | simp | (simp; omega)) | (with_reducible refine Ext.trans ?_ (by with_reducible assumption)))))) ((hB.ext hx12).ext (by (repeat (first | with_reducible exact Ext.refl _ | with_reducible assumption | ((with_reducible apply Src.ext); with_reducible assumption) | with_reducible refine Ext.alloc ?_ _ | with_reducible refine Ext.drew ?_ | with_reducible refine Ext.drewN ?_ _ | ((with_reducible refine Ext.setCell' ?_ ?_ _); solve | omega | simp | (simp; omega)) | (with_reducible refine Ext.trans ?_ (by with_reducible assumption))))))).mono ?_
        rintro e w4 ⟨rfl, hx4⟩
        go_wp2_with fail
        refine (s_l17Middle _ _ _ _ pb pa _ ((hB.ext hx12).ext (by (repeat (first | with_reducible exact Ext.refl _ | with_reducible assumption | ((with_reducible apply Src.ext); with_reducible assumption) | with_reducible refine Ext.alloc ?_ _ | with_reducible refine Ext.drew ?_ | with_reducible refine Ext.drewN ?_ _ | ((with_reducible refine Ext.setCell' ?_ ?_ _); solve | omega | simp | (simp; omega)) | (with_reducible refine Ext.trans ?_ (by with_reducible assumption)))))) ((hA.ext hx12).ext (by (repeat (first | with_reducible exact Ext.refl _ | with_reducible assumption | ((with_reducible apply Src.ext); with_reducible assumption) | with_reducible refine Ext.alloc ?_ _ | with_reducible refine Ext.drew ?_ | with_reducible refine Ext.drewN ?_ _ | ((with_reducible refine Ext.setCell' ?_ ?_ _); solve | omega | simp | (simp; omega)) | (with_reducible refine Ext.trans ?_ (by with_reducible assumption)))))) hb0 ha0 hbl hal HBO.out HAO.out).mono ?_
        rintro e w5 ⟨rfl, hx5⟩
        generalize (edL pb).any (midE pa) = bm at *
        go_wp2
        go_ret
        exact ⟨ret_bool HF.out, by (repeat (first | with_reducible exact Ext.refl _ | with_reducible assumption | ((with_reducible apply Src.ext); with_reducible assumption) | with_reducible refine Ext.alloc ?_ _ | with_reducible refine Ext.drew ?_ | with_reducible refine Ext.drewN ?_ _ | ((with_reducible refine Ext.setCell' ?_ ?_ _); solve | omega | simp | (simp; omega)) | (with_reducible refine Ext.trans ?_ (by with_reducible assumption))))⟩

end Go.Proofs.YtabdffponmmhoaaGreatDoor
namespace Go.Proofs.YtabdffponmmhoaaGreatDoor
open Go.RowKit
attribute [local go_sem] ExtOf.cell ExtOf.frozen

/-- a ring as a slice: its address, its capacity, its corners -/
abbrev Rg := Option Addr × Nat × List (Int × Int)
def rgD : Rg := (none, 0, [])
def encR (r : Rg) : List Value := [.slice r.1 r.2.2.length r.2.1]
theorem len_encR : ∀ r, (encR r).length = 1 := fun _ => rfl
theorem one_encR : ∀ p, ∀ u ∈ encR p, u.oneCell' = true := by
  intro p u hu
  simp [encR] at hu
  subst hu; rfl
/-- the rings behind a list read as they are told -/
def Rings (w : World) (rs : List Rg) : Prop := ∀ r ∈ rs, SlAt w 2 encP r.1 r.2.2 ∧ r.2.2.length ≤ r.2.1 ∧ r.2.2.length ≤ 1048576
theorem Rings.ext {w w' : World} {rs : List Rg} (h : Rings w rs) (hx : Ext w w') : Rings w' rs := fun r hr => ⟨(h r hr).1.ext hx, (h r hr).2⟩
theorem Rings.take {w : World} {rs : List Rg} (h : Rings w rs) (k : Nat) : Rings w (rs.take k) := fun r hr => h r (List.mem_of_mem_take hr)
theorem rg_mem {rs : List Rg} {k : Nat} (hk : k < rs.length) : rs.getD k rgD ∈ rs := by simp [List.getD, hk]
theorem SlAt.rg {w : World} {A : Option Addr} {rs : List Rg} (h : SlAt w 1 encR A rs) {k : Nat} (hk : k < rs.length) :
    ∃ b off, A = some ⟨b, off, none⟩ ∧ b < w.heap.size ∧ w.cell? ⟨b, off + k, none⟩ = some (.slice (rs.getD k rgD).1 (rs.getD k rgD).2.2.length (rs.getD k rgD).2.1) := by
  obtain ⟨b, off, e, hb, hc⟩ := h (by omega)
  have hg : rs[k]? = some (rs.getD k rgD) := by simp [List.getD, hk]
  exact ⟨b, off, e, hb, by simpa using hc k _ hg 0 _ rfl⟩
theorem SlAt.rg' {w : World} {b off : Nat} {rs : List Rg} (h : SlAt w 1 encR (some ⟨b, off, none⟩) rs) {k : Nat} (hk : k < rs.length) :
    w.cell? ⟨b, off + k, none⟩ = some (.slice (rs.getD k rgD).1 (rs.getD k rgD).2.2.length (rs.getD k rgD).2.1) := by
  obtain ⟨b', off', e, _, hc⟩ := h.rg hk
  injection e with e
  injection e with e1 e2
  subst e1 e2
  exact hc
theorem SlAt.openR {w : World} {A : Option Addr} {rs : List Rg} (h : SlAt w 1 encR A rs) (h0 : 0 < rs.length) : ∃ b off, A = some ⟨b, off, none⟩ ∧ b < w.heap.size := by
  obtain ⟨b, off, e, hb, _⟩ := h.rg h0
  exact ⟨b, off, e, hb⟩
/-- the index of the first element with p, or -1 -/
def idxF (p : Rg → Bool) (rs : List Rg) : Int := match rs.findIdx? p with
  | some i => i
  | none => -1
theorem idxF_hit {p : Rg → Bool} {rs : List Rg} {k : Nat} (hk : k < rs.length) (h : p (rs.getD k rgD) = true) (hb : ∀ j, j < k → p (rs.getD j rgD) = false) : (k : Int) = idxF p rs := by
  have : rs.findIdx? p = some k := by
    rw [List.findIdx?_eq_some_iff_getElem]
    refine ⟨hk, by simpa [List.getD, hk] using h, fun j hj => ?_⟩
    have := hb j hj
    have hjl : j < rs.length := by omega
    simpa [List.getD, hjl] using this
  unfold idxF
  rw [this]
theorem idxF_miss {p : Rg → Bool} {rs : List Rg} (hb : ∀ j, j < rs.length → p (rs.getD j rgD) = false) : -1 = idxF p rs := by
  have : rs.findIdx? p = none := by
    rw [List.findIdx?_eq_none_iff]
    intro x hx
    obtain ⟨j, hj, rfl⟩ := List.mem_iff_getElem.1 hx
    have := hb j hj
    simpa [List.getD, hj] using this
  unfold idxF
  rw [this]
theorem idxF_any (p : Rg → Bool) (rs : List Rg) : decide (0 ≤ idxF p rs) = rs.any p := by
  unfold idxF
  rcases h : rs.findIdx? p with _ | k
  · rw [List.findIdx?_eq_none_iff] at h
    have : rs.any p = false := by
      rw [List.any_eq_false]
      intro x hx
      have := h x hx
      simp [this]
    rw [this]; rfl
  · rw [List.findIdx?_eq_some_iff_getElem] at h
    obtain ⟨hk, hp, _⟩ := h
    have : rs.any p = true := by
      rw [List.any_eq_true]
      exact ⟨rs[k], List.getElem_mem hk, hp⟩
    rw [this]
    simp
set_option maxHeartbeats 3200000 in
theorem i_IndexFuncR (p : Rg → Bool) (g : Nat) (lb : Array Value) (eg : ∀ args w, (callFunc g args).run Tryz.prog w = .ok (.enter g args) w) (A : Option Addr) (n c : Nat) (rs : List Rg) (w : World) (h : SlAt w 1 encR A rs) (hn : n = rs.length) (hl : n ≤ 1048576)
    (hp : ∀ r ∈ rs, ∀ W, Ext w W → Calls Tryz.prog g (#[.slice r.1 r.2.2.length r.2.1] ++ lb) W fun e w' => e = .returned (.bool (p r)) ∧ Ext W w') :
    Calls Tryz.prog 36 #[.slice A n c, .func (.func g) #[] lb] w fun e w' => e = .returned (.int .i64 (idxF p rs)) ∧ Ext w w' := by
  have HP := Lib.hid hp
  have HN := Lib.hid hn
  clear hp hn
  go_enter Tryz.func36, Tryz.ntmps36
  go_wp2
  go_loopw [8] (fun i wr => ∃ k : Nat, k ≤ n ∧ i = .int .i64 k ∧ Hid (∀ j, j < k → p (rs.getD j rgD) = false) ∧ Ext w wr) (fun i _ => n - (intOf i).toNat)
  case atStart => exact ⟨0, by omega, rfl, fun j hj => absurd hj (by omega), by (repeat (first | with_reducible exact Ext.refl _ | with_reducible assumption | ((with_reducible apply Src.ext); with_reducible assumption) | with_reducible refine Ext.alloc ?_ _ | with_reducible refine Ext.drew ?_ | with_reducible refine Ext.drewN ?_ _ | ((with_reducible refine Ext.setCell' ?_ ?_ _); solve | omega | simp | (simp; omega)) | (with_reducible refine Ext.trans ?_ (by with_reducible assumption))))⟩
  case round =>
    obtain ⟨k, hk, rfl, HJ, hxr⟩ := hrel
    by_cases hlt : k < n
    · have hkr : k < rs.length := by rw [← HN.out]; exact hlt
      obtain ⟨b, off, rfl, hb, hc⟩ := (h.ext hxr).rg hkr
      have hcall := HP.out _ (rg_mem hkr)
      cases hq : p (rs.getD k rgD) with
      | true =>
        have HQ := Lib.hid hq
        rw [hq] at hcall
        have HC := Lib.hid hcall
        clear hcall hq
        obtain ⟨r, hr⟩ : ∃ r, r = rs.getD k rgD := ⟨_, rfl⟩
        rw [← hr] at hc HC HQ
        have HR := Lib.hid hr
        clear hr
        go_wp2_with fail
        refine (HC.out _ (by (repeat (first | with_reducible exact Ext.refl _ | with_reducible assumption | ((with_reducible apply Src.ext); with_reducible assumption) | with_reducible refine Ext.alloc ?_ _ | with_reducible refine Ext.drew ?_ | with_reducible refine Ext.drewN ?_ _ | ((with_reducible refine Ext.setCell' ?_ ?_ _); solve | omega | simp | (simp; omega)) | (with_reducible refine Ext.trans ?_ (by with_reducible assumption)))))).mono ?_
        rintro e w' ⟨rfl, hx'⟩
        go_wp2
        go_ret
        exact ⟨ret_int (idxF_hit hkr (by rw [← HR.out]; exact HQ.out) HJ.out), by (repeat (first | with_reducible exact Ext.refl _ | with_reducible assumption | ((with_reducible apply Src.ext); with_reducible assumption) | with_reducible refine Ext.alloc ?_ _ | with_reducible refine Ext.drew ?_ | with_reducible refine Ext.drewN ?_ _ | ((with_reducible refine Ext.setCell' ?_ ?_ _); solve | omega | simp | (simp; omega)) | (with_reducible refine Ext.trans ?_ (by with_reducible assumption))))⟩
      | false =>
        have HJ2 := Lib.hid (upTo_succ HJ.out hq)
        rw [hq] at hcall
        have HC := Lib.hid hcall
        clear hcall hq
        obtain ⟨r, hr⟩ : ∃ r, r = rs.getD k rgD := ⟨_, rfl⟩
        rw [← hr] at hc HC
        have HR := Lib.hid hr
        clear hr
        go_wp2_with fail
        refine (HC.out _ (by (repeat (first | with_reducible exact Ext.refl _ | with_reducible assumption | ((with_reducible apply Src.ext); with_reducible assumption) | with_reducible refine Ext.alloc ?_ _ | with_reducible refine Ext.drew ?_ | with_reducible refine Ext.drewN ?_ _ | ((with_reducible refine Ext.setCell' ?_ ?_ _); solve | omega | simp | (simp; omega)) | (with_reducible refine Ext.trans ?_ (by with_reducible assumption)))))).mono ?_
        rintro e w' ⟨rfl, hx'⟩
        go_wp2
        go_roundw
        case rel => exact ⟨k + 1, by omega, by go_num, HJ2, by (repeat (first | with_reducible exact Ext.refl _ | with_reducible assumption | ((with_reducible apply Src.ext); with_reducible assumption) | with_reducible refine Ext.alloc ?_ _ | with_reducible refine Ext.drew ?_ | with_reducible refine Ext.drewN ?_ _ | ((with_reducible refine Ext.setCell' ?_ ?_ _); solve | omega | simp | (simp; omega)) | (with_reducible refine Ext.trans ?_ (by with_reducible assumption))))⟩
        case measure => simp [intOf]; omega
    · obtain rfl : k = n := by omega
      go_wp2
      go_ret
      exact ⟨ret_int (idxF_miss (by rw [← HN.out]; exact HJ.out)), by (repeat (first | with_reducible exact Ext.refl _ | with_reducible assumption | ((with_reducible apply Src.ext); with_reducible assumption) | with_reducible refine Ext.alloc ?_ _ | with_reducible refine Ext.drew ?_ | with_reducible refine Ext.drewN ?_ _ | ((with_reducible refine Ext.setCell' ?_ ?_ _); solve | omega | simp | (simp; omega)) | (with_reducible refine Ext.trans ?_ (by with_reducible assumption))))⟩
set_option maxHeartbeats 3200000 in
theorem i_ContainsFuncR (p : Rg → Bool) (g : Nat) (lb : Array Value) (eg : ∀ args w, (callFunc g args).run Tryz.prog w = .ok (.enter g args) w) (A : Option Addr) (n c : Nat) (rs : List Rg) (w : World) (h : SlAt w 1 encR A rs) (hn : n = rs.length) (hl : n ≤ 1048576)
    (hp : ∀ r ∈ rs, ∀ W, Ext w W → Calls Tryz.prog g (#[.slice r.1 r.2.2.length r.2.1] ++ lb) W fun e w' => e = .returned (.bool (p r)) ∧ Ext W w') :
    Calls Tryz.prog 97 #[.slice A n c, .func (.func g) #[] lb] w fun e w' => e = .returned (.bool (rs.any p)) ∧ Ext w w' := by
  rw [← idxF_any]
  have hcall := i_IndexFuncR p g lb eg A n c rs w h hn hl hp
  have HC := Lib.hid hcall
  clear hcall hp hn
  go_enter Tryz.func97, Tryz.ntmps97
  go_wp2_with fail
  refine HC.out.mono ?_
  rintro e w' ⟨rfl, hx⟩
  go_wp2
  go_ret
  exact ⟨rfl, hx⟩
theorem i_notRing (r : Rg) (w : World) (h : SlAt w 2 encP r.1 r.2.2) (hc : r.2.2.length ≤ r.2.1) (hl : r.2.2.length ≤ 1048576) :
    Calls Tryz.prog 98 #[.slice r.1 r.2.2.length r.2.1] w fun e w' => e = .returned (.bool (!ringB r.2.2)) ∧ Ext w w' := by
  obtain ⟨A, c, ps⟩ := r
  simp only at h hc hl ⊢
  go_enter Tryz.func98, Tryz.ntmps98
  (go_wp2_with fail; refine (i_IsRing _ _ ps _ h hl hc).mono ?_; rintro e w1 ⟨rfl, hx1⟩; obtain ⟨hc1, hf1⟩ := hx1.rules; have hs1 := hx1.size; (try simp at hs1))
  go_wp2
  go_ret
  exact ⟨rfl, by (repeat (first | with_reducible exact Ext.refl _ | with_reducible assumption | ((with_reducible apply Src.ext); with_reducible assumption) | with_reducible refine Ext.alloc ?_ _ | with_reducible refine Ext.drew ?_ | with_reducible refine Ext.drewN ?_ _ | ((with_reducible refine Ext.setCell' ?_ ?_ _); solve | omega | simp | (simp; omega)) | (with_reducible refine Ext.trans ?_ (by with_reducible assumption))))⟩
theorem i_notFit (r r' : Rg) (nb : Nat) (w : World) (hn : w.cell? ⟨nb, 0, none⟩ = some (.slice r.1 r.2.2.length r.2.1)) (h : SlAt w 2 encP r.1 r.2.2) (h' : SlAt w 2 encP r'.1 r'.2.2) (hr : ringB r.2.2 = true) (hr' : ringB r'.2.2 = true) :
    Calls Tryz.prog 100 #[.slice r'.1 r'.2.2.length r'.2.1, .pointer (some ⟨nb, 0, none⟩)] w fun e w' => e = .returned (.bool (!fitT r.2.2 r'.2.2)) ∧ Ext w w' := by
  obtain ⟨A, c, ps⟩ := r
  obtain ⟨A', c', ps'⟩ := r'
  simp only at hn h h' hr hr' ⊢
  obtain ⟨a0, al, ao⟩ := ring_facts hr
  obtain ⟨b0, bl, bo⟩ := ring_facts hr'
  have HAO := Lib.hid ao
  have HBO := Lib.hid bo
  clear hr hr' ao bo
  go_enter Tryz.func100, Tryz.ntmps100
  (go_wp2_with fail; refine (i_fitTogether _ _ _ _ ps ps' _ h h' a0 b0 (by omega) (by omega) HAO.out HBO.out).mono ?_; rintro e w1 ⟨rfl, hx1⟩; obtain ⟨hc1, hf1⟩ := hx1.rules; have hs1 := hx1.size; (try simp at hs1))
  go_wp2
  go_ret
  exact ⟨rfl, by (repeat (first | with_reducible exact Ext.refl _ | with_reducible assumption | ((with_reducible apply Src.ext); with_reducible assumption) | with_reducible refine Ext.alloc ?_ _ | with_reducible refine Ext.drew ?_ | with_reducible refine Ext.drewN ?_ _ | ((with_reducible refine Ext.setCell' ?_ ?_ _); solve | omega | simp | (simp; omega)) | (with_reducible refine Ext.trans ?_ (by with_reducible assumption))))⟩

end Go.Proofs.YtabdffponmmhoaaGreatDoor
