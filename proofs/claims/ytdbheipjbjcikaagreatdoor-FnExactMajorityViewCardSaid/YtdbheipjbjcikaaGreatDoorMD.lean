/- Contracts of the maps: rings that fit together, walked over the translation. -/
import Derived.Test.YtdbheipjbjcikaaGreatDoorMC
import Derived.Deep.RegionHeld3
import Derived.Deep.DeepCutAuto
import Derived.RegionTactic
import Derived.BigRegion
import Derived.WalkLawsBesides
import Derived.WalkSpells
import Derived.Lib.MinMax
import Derived.Outline
namespace Go.Proofs.YtdbheipjbjcikaaGreatDoor
open Go.RowKit
attribute [local go_sem] ExtOf.cell ExtOf.frozen

theorem all_no {α : Type} {P : α → Bool} {xs : List α} {d : α} {k : Nat} (hk : k < xs.length) (h : P (xs.getD k d) = false) : false = xs.all P := by
  rw [eq_comm, List.all_eq_false]
  refine ⟨xs.getD k d, ?_, by rw [h]; exact Bool.false_ne_true⟩
  simp [List.getD, hk]
theorem all_yes {α : Type} {P : α → Bool} {xs : List α} {d : α} (h : ∀ j, j < xs.length → P (xs.getD j d) = true) : true = xs.all P := by
  rw [eq_comm, List.all_eq_true]
  intro x hx
  obtain ⟨j, hj, rfl⟩ := List.mem_iff_getElem.1 hx
  have := h j hj
  simpa [List.getD, hj] using this
def edD : Ed := ((0, 0), (0, 0))
def midE (ps : List (Int × Int)) (e : Ed) : Bool := midB ps e.1.1 e.1.2 e.2.1 e.2.2
def fitE (e f : Ed) : Bool := fitB e.1.1 e.1.2 e.2.1 e.2.2 f.1.1 f.1.2 f.2.1 f.2.2
def in2 (pa : List (Int × Int)) (e f : Ed) : Bool := fitE e f && !midE pa f
def in1 (pa pb : List (Int × Int)) (e : Ed) : Bool := !midE pb e && (edL (normI pb)).all (in2 pa e)
/-- whether two rings can be those of a map -/
def fitT (pa pb : List (Int × Int)) : Bool := (edL (normI pa)).all (in1 pa pb)
theorem oks_outI {ps : List (Int × Int)} (h : oks ps = true) : oks (outI ps) = true := by
  unfold oks outI at *
  split
  · rw [List.all_reverse]; exact h
  · exact h
theorem oks_normI {ps : List (Int × Int)} (h : oks ps = true) : oks (normI ps) = true := by
  have := oks_outI h
  unfold normI
  unfold oks at *
  rw [List.all_eq_true] at *
  intro x hx
  rcases List.mem_append.1 hx with hx | hx
  · exact this x (List.mem_of_mem_drop hx)
  · exact this x (List.mem_of_mem_take hx)
theorem edL_len (o : List (Int × Int)) : (edL o).length = o.length := edTo_len o _
theorem edL_at {o : List (Int × Int)} {k : Nat} (hk : k < o.length) : (edL o).getD k edD = edAt o k := by simp [edL, edTo, List.getD, hk]
theorem ed_bd {o : List (Int × Int)} (h : oks o = true) {k : Nat} (hk : k < o.length) {a b c d : Int} (e : edAt o k = ((a, b), (c, d))) : bdP a b ∧ bdP c d := by
  have h1 := oks_at2 h hk
  have h2 := bd_at h ((k : Int) + 1)
  unfold edAt atP at e
  injection e with e1 e2
  injection e2 with e3 e4
  rw [e1] at h1
  rw [e3, e4] at h2
  exact ⟨h1, h2⟩
theorem in2_no1 {pa : List (Int × Int)} {e f : Ed} (h : fitE e f = false) : in2 pa e f = false := by simp [in2, h]
theorem in2_no2 {pa : List (Int × Int)} {e f : Ed} (h : midE pa f = true) : in2 pa e f = false := by simp [in2, h]
theorem in2_yes {pa : List (Int × Int)} {e f : Ed} (h : fitE e f = true) (h' : midE pa f = false) : in2 pa e f = true := by simp [in2, h, h']
theorem in1_no1 {pa pb : List (Int × Int)} {e : Ed} (h : midE pb e = true) : in1 pa pb e = false := by simp [in1, h]
theorem in1_no2 {pa pb : List (Int × Int)} {e : Ed} (h : false = (edL (normI pb)).all (in2 pa e)) : in1 pa pb e = false := by simp [in1, ← h]
theorem in1_yes {pa pb : List (Int × Int)} {e : Ed} (h : midE pb e = false) (h' : true = (edL (normI pb)).all (in2 pa e)) : in1 pa pb e = true := by simp [in1, h, ← h']
theorem upTo_succ {P : Nat → Prop} {k : Nat} (h : ∀ j, j < k → P j) (hk : P k) : ∀ j, j < k + 1 → P j := fun j hj => by
  rcases Nat.lt_or_ge j k with c | c
  · exact h j c
  · obtain rfl : j = k := by omega
    exact hk
set_option maxRecDepth 20000 in
set_option maxHeartbeats 12800000 in
theorem i_fitTogether (A B : Option Addr) (ca cb : Nat) (pa pb : List (Int × Int)) (w : World) (hA : SlAt w 2 encP A pa) (hB : SlAt w 2 encP B pb) (ha0 : 0 < pa.length) (hb0 : 0 < pb.length) (hal : pa.length ≤ 1000) (hbl : pb.length ≤ 1000) (hao : oks pa = true) (hbo : oks pb = true) :
    Calls Tryz.prog 153 #[.slice A pa.length ca, .slice B pb.length cb] w fun e w' => e = .returned (.bool (fitT pa pb)) ∧ Ext w w' := by
  have HAO := Lib.hid hao
  have HBO := Lib.hid hbo
  have HLA := Lib.hid (normI_len pa)
  have HLB := Lib.hid (normI_len pb)
  clear hao hbo
  go_enter Tryz.func153, Tryz.ntmps153
  go_wp2_with fail
  refine (i_edgesOf _ _ pa _ hA ha0 hal HAO.out).mono ?_
  rintro e w1 ⟨v1, rfl, hO1, hx1⟩
  have hs1 := hx1.size
  obtain ⟨A1, c1, rfl, hS1, _, _, _⟩ := hO1.sl len_encE
  have hen : (edL (normI pa)).length = pa.length := by rw [edL_len, HLA.out]
  obtain ⟨n, hn⟩ : ∃ n, n = (edL (normI pa)).length := ⟨_, rfl⟩
  rw [← hn] at hen ⊢
  have HN := Lib.hid hn
  have HEN := Lib.hid hen
  clear hO1 hn
  go_wp2
  go_loopw [12] (fun i wr => ∃ k : Nat, k ≤ n ∧ i = .int .i64 k ∧ Hid (∀ j, j < k → in1 pa pb ((edL (normI pa)).getD j edD) = true) ∧ Ext w1 wr) (fun i _ => n - (intOf i).toNat)
  case atStart => exact ⟨0, by omega, rfl, fun j hj => absurd hj (by omega), by (repeat (first | with_reducible exact Ext.refl _ | with_reducible assumption | ((with_reducible apply Src.ext); with_reducible assumption) | with_reducible refine Ext.alloc ?_ _ | with_reducible refine Ext.drew ?_ | with_reducible refine Ext.drewN ?_ _ | ((with_reducible refine Ext.setCell' ?_ ?_ _); solve | omega | simp | (simp; omega)) | (with_reducible refine Ext.trans ?_ (by with_reducible assumption))))⟩
  case round =>
    obtain ⟨k, hk, rfl, HI, hxr⟩ := hrel
    by_cases hlt : k < n
    · obtain ⟨g, off, a1, a2, a3, a4, rfl, hgr, he, d0, d1, d2, d3⟩ := (hS1.ext hxr).ed (k := k) (by rw [← HN.out]; exact hlt)
      have hkn : k < (normI pa).length := by rw [HLA.out, ← HEN.out]; exact hlt
      have he' : edAt (normI pa) k = ((a1, a2), (a3, a4)) := by rw [← edL_at hkn]; exact he
      have hbd := ed_bd (oks_normI HAO.out) hkn he'
      have HBD := Lib.hid hbd
      have HE := Lib.hid he
      clear he he' hbd hkn
      by_cases hm : midB pb a1 a2 a3 a4 = true
      · have HM : Hid (in1 pa pb ((edL (normI pa)).getD k edD) = false) := Lib.hid (by rw [show (edL (normI pa)).getD k edD = ((a1, a2), (a3, a4)) from HE.out]; exact in1_no1 hm)
        have hc : ∀ W, SlAt W 2 encP B pb → Calls Tryz.prog 193 #[.slice B pb.length cb, .agg #[.int .i64 a1, .int .i64 a2, .int .i64 a3, .int .i64 a4]] W fun e w' => e = .returned (.bool true) ∧ Ext W w' := fun W h => as_bool (i_isMiddleIn _ _ pb _ _ _ _ _ h hb0 hbl HBO.out HBD.out.1 HBD.out.2) hm
        have HC := Lib.hid hc
        clear hm hc
        go_wp2_with fail
        refine (HC.out _ ((hB.ext hx1).ext (by (repeat (first | with_reducible exact Ext.refl _ | with_reducible assumption | ((with_reducible apply Src.ext); with_reducible assumption) | with_reducible refine Ext.alloc ?_ _ | with_reducible refine Ext.drew ?_ | with_reducible refine Ext.drewN ?_ _ | ((with_reducible refine Ext.setCell' ?_ ?_ _); solve | omega | simp | (simp; omega)) | (with_reducible refine Ext.trans ?_ (by with_reducible assumption))))))).mono ?_
        rintro e w2 ⟨rfl, hx2⟩
        go_wp2
        go_ret
        exact ⟨ret_bool (all_no (d := edD) (by rw [← HN.out]; exact hlt) HM.out), by (repeat (first | with_reducible exact Ext.refl _ | with_reducible assumption | ((with_reducible apply Src.ext); with_reducible assumption) | with_reducible refine Ext.alloc ?_ _ | with_reducible refine Ext.drew ?_ | with_reducible refine Ext.drewN ?_ _ | ((with_reducible refine Ext.setCell' ?_ ?_ _); solve | omega | simp | (simp; omega)) | (with_reducible refine Ext.trans ?_ (by with_reducible assumption))))⟩
      · have hm' : midB pb a1 a2 a3 a4 = false := Bool.eq_false_iff.2 hm
        have HM : Hid (midE pb ((edL (normI pa)).getD k edD) = false) := Lib.hid (by rw [show (edL (normI pa)).getD k edD = ((a1, a2), (a3, a4)) from HE.out]; exact hm')
        have hc : ∀ W, SlAt W 2 encP B pb → Calls Tryz.prog 193 #[.slice B pb.length cb, .agg #[.int .i64 a1, .int .i64 a2, .int .i64 a3, .int .i64 a4]] W fun e w' => e = .returned (.bool false) ∧ Ext W w' := fun W h => as_bool (i_isMiddleIn _ _ pb _ _ _ _ _ h hb0 hbl HBO.out HBD.out.1 HBD.out.2) hm'
        have HC := Lib.hid hc
        clear hm hm' hc
        go_wp2_with fail
        refine (HC.out _ ((hB.ext hx1).ext (by (repeat (first | with_reducible exact Ext.refl _ | with_reducible assumption | ((with_reducible apply Src.ext); with_reducible assumption) | with_reducible refine Ext.alloc ?_ _ | with_reducible refine Ext.drew ?_ | with_reducible refine Ext.drewN ?_ _ | ((with_reducible refine Ext.setCell' ?_ ?_ _); solve | omega | simp | (simp; omega)) | (with_reducible refine Ext.trans ?_ (by with_reducible assumption))))))).mono ?_
        rintro e w2 ⟨rfl, hx2⟩
        have b6 : Blk w2 wr.heap.size 195 #[.int .i64 a1, .int .i64 a2, .int .i64 a3, .int .i64 a4] := by (repeat (first | with_reducible assumption | ((with_reducible apply Blk.new); solve | simp | rfl) | with_reducible apply Blk.drew | with_reducible apply Blk.drewN | ((with_reducible apply Blk.far'); solve | omega | simp | (simp; omega)) | with_reducible apply Blk.set_ | with_reducible apply Blk.alloc | ((with_reducible apply Blk.ext'); with_reducible assumption) | ((with_reducible apply Blk.but'); (with_reducible assumption); solve | omega | (simp; omega))))
        have hX2 : Ext w1 w2 := by (repeat (first | with_reducible exact Ext.refl _ | with_reducible assumption | ((with_reducible apply Src.ext); with_reducible assumption) | with_reducible refine Ext.alloc ?_ _ | with_reducible refine Ext.drew ?_ | with_reducible refine Ext.drewN ?_ _ | ((with_reducible refine Ext.setCell' ?_ ?_ _); solve | omega | simp | (simp; omega)) | (with_reducible refine Ext.trans ?_ (by with_reducible assumption))))
        clear hx2 d0 d1 d2 d3 hxr
        go_wp2_with fail
        refine (i_edgesOf _ _ pb _ ((hB.ext hx1).ext hX2) hb0 hbl HBO.out).mono ?_
        rintro e w3 ⟨v3, rfl, hO3, hx3⟩
        obtain ⟨A3, c3, rfl, hS3, _, _, _⟩ := hO3.sl len_encE
        have hfn : (edL (normI pb)).length = pb.length := by rw [edL_len, HLB.out]
        obtain ⟨n', hn'⟩ : ∃ n', n' = (edL (normI pb)).length := ⟨_, rfl⟩
        rw [← hn'] at hfn ⊢
        have HN' := Lib.hid hn'
        have HFN := Lib.hid hfn
        have b63 := b6.ext hx3
        have hX3 := hX2.trans hx3
        clear hO3 hn' b6 hx3 hX2
        go_wp2
        generalize wr.heap.size = nb at b63 ⊢
        have HGR := Lib.hid hgr
        clear hgr
        go_loopw [22] (fun i wi => ∃ m : Nat, m ≤ n' ∧ i = .int .i64 m ∧ Hid (∀ j, j < m → in2 pa ((edL (normI pa)).getD k edD) ((edL (normI pb)).getD j edD) = true) ∧ Blk wi nb 195 #[.int .i64 a1, .int .i64 a2, .int .i64 a3, .int .i64 a4] ∧ Ext w3 wi) (fun i _ => n' - (intOf i).toNat)
        case atStart => exact ⟨0, by omega, rfl, fun j hj => absurd hj (by omega), by (repeat (first | with_reducible assumption | ((with_reducible apply Blk.new); solve | simp | rfl) | with_reducible apply Blk.drew | with_reducible apply Blk.drewN | ((with_reducible apply Blk.far'); solve | omega | simp | (simp; omega)) | with_reducible apply Blk.set_ | with_reducible apply Blk.alloc | ((with_reducible apply Blk.ext'); with_reducible assumption) | ((with_reducible apply Blk.but'); (with_reducible assumption); solve | omega | (simp; omega)))), by (repeat (first | with_reducible exact Ext.refl _ | with_reducible assumption | ((with_reducible apply Src.ext); with_reducible assumption) | with_reducible refine Ext.alloc ?_ _ | with_reducible refine Ext.drew ?_ | with_reducible refine Ext.drewN ?_ _ | ((with_reducible refine Ext.setCell' ?_ ?_ _); solve | omega | simp | (simp; omega)) | (with_reducible refine Ext.trans ?_ (by with_reducible assumption))))⟩
        case round =>
          obtain ⟨m, hm, rfl, HJ, b6, hxi⟩ := hrel
          have x0 : wr.cell? ⟨nb, 0, none⟩ = some (.int .i64 a1) := b6.cell 0
          have x1 : wr.cell? ⟨nb, 1, none⟩ = some (.int .i64 a2) := b6.cell 1
          have x2 : wr.cell? ⟨nb, 2, none⟩ = some (.int .i64 a3) := b6.cell 2
          have x3 : wr.cell? ⟨nb, 3, none⟩ = some (.int .i64 a4) := b6.cell 3
          have l6 := b6.lt
          by_cases hlm : m < n'
          · obtain ⟨g', off', q1, q2, q3, q4, rfl, hgr', hf, f0, f1, f2, f3⟩ := (hS3.ext hxi).ed (k := m) (by rw [← HN'.out]; exact hlm)
            have hmn : m < (normI pb).length := by rw [HLB.out, ← HFN.out]; exact hlm
            have hf' : edAt (normI pb) m = ((q1, q2), (q3, q4)) := by rw [← edL_at hmn]; exact hf
            have hbd2 := ed_bd (oks_normI HBO.out) hmn hf'
            have HBD2 := Lib.hid hbd2
            have HF := Lib.hid hf
            clear hf hf' hbd2 hmn
            by_cases hfit : fitB a1 a2 a3 a4 q1 q2 q3 q4 = true
            · have hfE : fitE ((edL (normI pa)).getD k edD) ((edL (normI pb)).getD m edD) = true := by rw [show (edL (normI pa)).getD k edD = ((a1, a2), (a3, a4)) from HE.out, show (edL (normI pb)).getD m edD = ((q1, q2), (q3, q4)) from HF.out]; exact hfit
              have HFE := Lib.hid hfE
              have hci : ∀ W, Calls Tryz.prog 194 #[.agg #[.int .i64 a1, .int .i64 a2, .int .i64 a3, .int .i64 a4], .agg #[.int .i64 q1, .int .i64 q2, .int .i64 q3, .int .i64 q4]] W fun e w' => e = .returned (.bool true) ∧ Ext W w' := fun W => as_bool (i_fit _ _ _ _ _ _ _ _ _) hfit
              have HCI := Lib.hid hci
              clear hfE hfit hci
              by_cases hmi : midB pa q1 q2 q3 q4 = true
              · have HMI : Hid (in2 pa ((edL (normI pa)).getD k edD) ((edL (normI pb)).getD m edD) = false) := Lib.hid (in2_no2 (by rw [show (edL (normI pb)).getD m edD = ((q1, q2), (q3, q4)) from HF.out]; exact hmi))
                have hcm : ∀ W, SlAt W 2 encP A pa → Calls Tryz.prog 193 #[.slice A pa.length ca, .agg #[.int .i64 q1, .int .i64 q2, .int .i64 q3, .int .i64 q4]] W fun e w' => e = .returned (.bool true) ∧ Ext W w' := fun W h => as_bool (i_isMiddleIn _ _ pa _ _ _ _ _ h ha0 hal HAO.out HBD2.out.1 HBD2.out.2) hmi
                have HCM := Lib.hid hcm
                clear hmi hcm
                go_wp2_with (first | (go_at_call 194; refine (HCI.out _).mono ?_; rintro e w4 ⟨rfl, hx4⟩; obtain ⟨hc4, hf4⟩ := hx4.rules; have hs4 := hx4.size; (try simp at hs4); have := (show wr.heap.size < w4.heap.size from by omega)) | (go_at_call 193; refine (HCM.out _ (((hA.ext hx1).ext hX3).ext (by (repeat (first | with_reducible exact Ext.refl _ | with_reducible assumption | ((with_reducible apply Src.ext); with_reducible assumption) | with_reducible refine Ext.alloc ?_ _ | with_reducible refine Ext.drew ?_ | with_reducible refine Ext.drewN ?_ _ | ((with_reducible refine Ext.setCell' ?_ ?_ _); solve | omega | simp | (simp; omega)) | (with_reducible refine Ext.trans ?_ (by with_reducible assumption))))))).mono ?_; rintro e w5 ⟨rfl, hx5⟩; obtain ⟨hc5, hf5⟩ := hx5.rules; have hs5 := hx5.size; (try simp at hs5)))
                go_ret
                exact ⟨ret_bool (all_no (d := edD) (by rw [← HN.out]; exact hlt) (in1_no2 (all_no (d := edD) (by rw [← HN'.out]; exact hlm) HMI.out))), by (repeat (first | with_reducible exact Ext.refl _ | with_reducible assumption | ((with_reducible apply Src.ext); with_reducible assumption) | with_reducible refine Ext.alloc ?_ _ | with_reducible refine Ext.drew ?_ | with_reducible refine Ext.drewN ?_ _ | ((with_reducible refine Ext.setCell' ?_ ?_ _); solve | omega | simp | (simp; omega)) | (with_reducible refine Ext.trans ?_ (by with_reducible assumption))))⟩
              · have hmi' : midB pa q1 q2 q3 q4 = false := Bool.eq_false_iff.2 hmi
                have HMI : Hid (in2 pa ((edL (normI pa)).getD k edD) ((edL (normI pb)).getD m edD) = true) := Lib.hid (in2_yes HFE.out (by rw [show (edL (normI pb)).getD m edD = ((q1, q2), (q3, q4)) from HF.out]; exact hmi'))
                have hcm : ∀ W, SlAt W 2 encP A pa → Calls Tryz.prog 193 #[.slice A pa.length ca, .agg #[.int .i64 q1, .int .i64 q2, .int .i64 q3, .int .i64 q4]] W fun e w' => e = .returned (.bool false) ∧ Ext W w' := fun W h => as_bool (i_isMiddleIn _ _ pa _ _ _ _ _ h ha0 hal HAO.out HBD2.out.1 HBD2.out.2) hmi'
                have HCM := Lib.hid hcm
                have HJ2 := Lib.hid (upTo_succ HJ.out HMI.out)
                clear hmi hmi' hcm
                go_wp2_with (first | (go_at_call 194; refine (HCI.out _).mono ?_; rintro e w4 ⟨rfl, hx4⟩; obtain ⟨hc4, hf4⟩ := hx4.rules; have hs4 := hx4.size; (try simp at hs4); have := (show wr.heap.size < w4.heap.size from by omega)) | (go_at_call 193; refine (HCM.out _ (((hA.ext hx1).ext hX3).ext (by (repeat (first | with_reducible exact Ext.refl _ | with_reducible assumption | ((with_reducible apply Src.ext); with_reducible assumption) | with_reducible refine Ext.alloc ?_ _ | with_reducible refine Ext.drew ?_ | with_reducible refine Ext.drewN ?_ _ | ((with_reducible refine Ext.setCell' ?_ ?_ _); solve | omega | simp | (simp; omega)) | (with_reducible refine Ext.trans ?_ (by with_reducible assumption))))))).mono ?_; rintro e w5 ⟨rfl, hx5⟩; obtain ⟨hc5, hf5⟩ := hx5.rules; have hs5 := hx5.size; (try simp at hs5)))
                go_roundw
                case rel => exact ⟨m + 1, by omega, by go_num, HJ2, by (repeat (first | with_reducible assumption | ((with_reducible apply Blk.new); solve | simp | rfl) | with_reducible apply Blk.drew | with_reducible apply Blk.drewN | ((with_reducible apply Blk.far'); solve | omega | simp | (simp; omega)) | with_reducible apply Blk.set_ | with_reducible apply Blk.alloc | ((with_reducible apply Blk.ext'); with_reducible assumption) | ((with_reducible apply Blk.but'); (with_reducible assumption); solve | omega | (simp; omega)))), by (repeat (first | with_reducible exact Ext.refl _ | with_reducible assumption | ((with_reducible apply Src.ext); with_reducible assumption) | with_reducible refine Ext.alloc ?_ _ | with_reducible refine Ext.drew ?_ | with_reducible refine Ext.drewN ?_ _ | ((with_reducible refine Ext.setCell' ?_ ?_ _); solve | omega | simp | (simp; omega)) | (with_reducible refine Ext.trans ?_ (by with_reducible assumption))))⟩
                case measure => simp [intOf]; omega
            · have hfit' : fitB a1 a2 a3 a4 q1 q2 q3 q4 = false := Bool.eq_false_iff.2 hfit
              have HMI : Hid (in2 pa ((edL (normI pa)).getD k edD) ((edL (normI pb)).getD m edD) = false) := Lib.hid (in2_no1 (by rw [show (edL (normI pa)).getD k edD = ((a1, a2), (a3, a4)) from HE.out, show (edL (normI pb)).getD m edD = ((q1, q2), (q3, q4)) from HF.out]; exact hfit'))
              have hci : ∀ W, Calls Tryz.prog 194 #[.agg #[.int .i64 a1, .int .i64 a2, .int .i64 a3, .int .i64 a4], .agg #[.int .i64 q1, .int .i64 q2, .int .i64 q3, .int .i64 q4]] W fun e w' => e = .returned (.bool false) ∧ Ext W w' := fun W => as_bool (i_fit _ _ _ _ _ _ _ _ _) hfit'
              have HCI := Lib.hid hci
              clear hfit hfit' hci
              go_wp2_with (first | (go_at_call 194; refine (HCI.out _).mono ?_; rintro e w4 ⟨rfl, hx4⟩; obtain ⟨hc4, hf4⟩ := hx4.rules; have hs4 := hx4.size; (try simp at hs4); have := (show wr.heap.size < w4.heap.size from by omega)))
              go_ret
              exact ⟨ret_bool (all_no (d := edD) (by rw [← HN.out]; exact hlt) (in1_no2 (all_no (d := edD) (by rw [← HN'.out]; exact hlm) HMI.out))), by (repeat (first | with_reducible exact Ext.refl _ | with_reducible assumption | ((with_reducible apply Src.ext); with_reducible assumption) | with_reducible refine Ext.alloc ?_ _ | with_reducible refine Ext.drew ?_ | with_reducible refine Ext.drewN ?_ _ | ((with_reducible refine Ext.setCell' ?_ ?_ _); solve | omega | simp | (simp; omega)) | (with_reducible refine Ext.trans ?_ (by with_reducible assumption))))⟩
          · obtain rfl : m = n' := by omega
            have HI2 := Lib.hid (upTo_succ HI.out (in1_yes HM.out (all_yes (d := edD) (fun j hj => HJ.out j (by rw [HN'.out]; exact hj)))))
            go_wp2
            go_roundw
            case rel => exact ⟨k + 1, by omega, by go_num, HI2, by (repeat (first | with_reducible exact Ext.refl _ | with_reducible assumption | ((with_reducible apply Src.ext); with_reducible assumption) | with_reducible refine Ext.alloc ?_ _ | with_reducible refine Ext.drew ?_ | with_reducible refine Ext.drewN ?_ _ | ((with_reducible refine Ext.setCell' ?_ ?_ _); solve | omega | simp | (simp; omega)) | (with_reducible refine Ext.trans ?_ (by with_reducible assumption))))⟩
            case measure => simp [intOf]; omega
    · obtain rfl : k = n := by omega
      go_wp2
      go_ret
      exact ⟨ret_bool (all_yes (d := edD) (fun j hj => HI.out j (by rw [HN.out]; exact hj))), by (repeat (first | with_reducible exact Ext.refl _ | with_reducible assumption | ((with_reducible apply Src.ext); with_reducible assumption) | with_reducible refine Ext.alloc ?_ _ | with_reducible refine Ext.drew ?_ | with_reducible refine Ext.drewN ?_ _ | ((with_reducible refine Ext.setCell' ?_ ?_ _); solve | omega | simp | (simp; omega)) | (with_reducible refine Ext.trans ?_ (by with_reducible assumption))))⟩

end Go.Proofs.YtdbheipjbjcikaaGreatDoor
