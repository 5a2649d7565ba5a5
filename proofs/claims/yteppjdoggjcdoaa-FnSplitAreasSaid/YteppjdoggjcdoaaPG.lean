/- MergeAreas: the program and the specification. -/
import Derived.Test.YteppjdoggjcdoaaPK
import Derived.Test.YteppjdoggjcdoaaPI
import Derived.Deep.RegionHeld3
import Derived.Deep.DeepCutAuto
import Derived.RegionTactic
import Derived.BigRegion
import Derived.WalkLawsBesides
import Derived.WalkSpells
import Derived.Lib.MinMax
import Derived.Outline
namespace Go.Proofs.Yteppjdoggjcdoaa
open Go.RowKit
attribute [local go_sem] ExtOf.cell ExtOf.frozen


noncomputable def maC (L : List (List (Int × Int))) (a b : Int) : Int := if abC L a b = 0 then (if shE (L.getD a.toNat []) (L.getD b.toNat []) = [] then 5 else if mgB (mgE (L.getD a.toNat []) (L.getD b.toNat [])) = true then 0 else 4) else abC L a b
noncomputable def maP (L : List (List (Int × Int))) (a b : Int) : List (Int × Int) := if maC L a b = 0 then mgR (mgE (L.getD a.toNat []) (L.getD b.toNat [])) else []
theorem maP_no {L : List (List (Int × Int))} {a b : Int} (h : maC L a b ≠ 0) : maP L a b = [] := if_neg h
theorem maP_len (L : List (List (Int × Int))) (a b : Int) : (maP L a b).length ≤ 72 := by
  unfold maP
  split
  · rename_i h
    have hz : abC L a b = 0 := by
      unfold maC at h
      split at h
      · assumption
      · exact h
    obtain ⟨hm, hin⟩ := arC_zero.1 hz
    have ha := hin a (by simp)
    have hb := hin b (by simp)
    have h1 := (ring_facts (map_ring hm (k := a.toNat) (by omega))).2.1
    have h2 := (ring_facts (map_ring hm (k := b.toNat) (by omega))).2.1
    have h3 := mgE_len (L.getD a.toNat []) (L.getD b.toNat [])
    have h4 := mgR_len (mgE (L.getD a.toNat []) (L.getD b.toNat []))
    omega
  · exact Nat.zero_le _
theorem i_straightN (A : Option Addr) (n c : Nat) (ps : List (Int × Int)) (w : World) (h : SlAt w 2 encP A ps) (hn : n = ps.length) (hl : n ≤ 1000) :
    Calls Try.prog 86 #[.slice A n c] w fun e w' => ∃ v, e = .returned v ∧ OwP w' w.heap.size v (stP ps) ∧ Ext w w' := by
  subst hn; exact i_straightened A c ps w h hl
theorem i_IsRingN (A : Option Addr) (n c : Nat) (ps : List (Int × Int)) (w : World) (h : SlAt w 2 encP A ps) (hn : n = ps.length) (hl : n ≤ 1048576) (hc : n ≤ c) :
    Calls Try.prog 57 #[.slice A n c] w fun e w' => e = .returned (.bool (ringB ps)) ∧ Ext w w' := by
  subst hn; exact i_IsRing A c ps w h hl hc
theorem i_normalN (A : Option Addr) (n c : Nat) (ps : List (Int × Int)) (w : World) (h : SlAt w 2 encP A ps) (hn : n = ps.length) (hl : n ≤ 1000) (hr : ringB ps = true) :
    Calls Try.prog 58 #[.slice A n c] w fun e w' => ∃ v, e = .returned v ∧ OwP w' w.heap.size v (normS ps) ∧ Ext w w' := by
  subst hn
  have h3 := (ring_facts hr).1
  have := i_normal A c ps w h h3 hl (ring_facts hr).2.2
  rwa [norm_same (ringB_iff.1 hr)] at this

set_option maxRecDepth 20000 in
set_option maxHeartbeats 25600000 in
theorem i_MergeAreas (A : Option Addr) (c : Nat) (rs : List Rg) (a b : Int) (w : World) (h : SlAt w 1 encR A rs) (hr : Rings w rs) (hl : rs.length ≤ 1048576) (hc : rs.length ≤ c) :
    Calls Try.prog 28 #[.slice A rs.length c, .int .i64 a, .int .i64 b] w fun e w' => ∃ v, e = .returned (.tuple #[v, .int .i64 (maC (psOf rs) a b)]) ∧ OwP w' w.heap.size v (maP (psOf rs) a b) ∧ Ext w w' := by
  by_cases hz : abC (psOf rs) a b = 0
  · obtain ⟨hm, hin⟩ := arC_zero.1 hz
    have ha := hin a (by simp)
    have hb := hin b (by simp)
    rw [psOf_len] at ha hb
    obtain ⟨j, rfl⟩ : ∃ j : Nat, a = (j : Int) := ⟨a.toNat, by omega⟩
    obtain ⟨i, rfl⟩ : ∃ j : Nat, b = (j : Int) := ⟨b.toNat, by omega⟩
    have hj : j < rs.length := by omega
    have hi : i < rs.length := by omega
    have hLj : (psOf rs).getD j [] = (rs.getD j rgD).2.2 := psOf_at hj
    have hLi : (psOf rs).getD i [] = (rs.getD i rgD).2.2 := psOf_at hi
    obtain ⟨pa, hpa⟩ : ∃ pa, pa = (rs.getD j rgD).2.2 := ⟨_, rfl⟩
    obtain ⟨pb, hpb⟩ : ∃ pa, pa = (rs.getD i rgD).2.2 := ⟨_, rfl⟩
    have hrj : ringB pa = true := by rw [hpa, ← hLj]; exact map_ring hm (by rw [psOf_len]; exact hj)
    have hri : ringB pb = true := by rw [hpb, ← hLi]; exact map_ring hm (by rw [psOf_len]; exact hi)
    have hCC : maC (psOf rs) (j : Int) (i : Int) = if shE pa pb = [] then 5 else if mgB (mgE pa pb) = true then 0 else 4 := by
      unfold maC
      rw [if_pos hz, Int.toNat_natCast, Int.toNat_natCast, hLj, hLi, ← hpa, ← hpb]
    have hPP : maC (psOf rs) (j : Int) (i : Int) = 0 → maP (psOf rs) (j : Int) (i : Int) = mgR (mgE pa pb) := fun e => by
      unfold maP
      rw [if_pos e, Int.toNat_natCast, Int.toNat_natCast, hLj, hLi, ← hpa, ← hpb]
    have HP5 : Hid (shE pa pb = [] → maC (psOf rs) (j : Int) (i : Int) = 5 ∧ maP (psOf rs) (j : Int) (i : Int) = []) := Lib.hid fun e => by
      have : maC (psOf rs) (j : Int) (i : Int) = 5 := by rw [hCC, if_pos e]
      exact ⟨this, maP_no (by rw [this]; decide)⟩
    have HP4 : Hid (shE pa pb ≠ [] → mgB (mgE pa pb) = false → maC (psOf rs) (j : Int) (i : Int) = 4 ∧ maP (psOf rs) (j : Int) (i : Int) = []) := Lib.hid fun e e2 => by
      have : maC (psOf rs) (j : Int) (i : Int) = 4 := by rw [hCC, if_neg e, if_neg (by rw [e2]; exact Bool.false_ne_true)]
      exact ⟨this, maP_no (by rw [this]; decide)⟩
    have HP0 : Hid (shE pa pb ≠ [] → mgB (mgE pa pb) = true → maC (psOf rs) (j : Int) (i : Int) = 0 ∧ maP (psOf rs) (j : Int) (i : Int) = mgR (mgE pa pb)) := Lib.hid fun e e2 => by
      have : maC (psOf rs) (j : Int) (i : Int) = 0 := by rw [hCC, if_neg e, if_pos e2]
      exact ⟨this, hPP this⟩
    obtain ⟨mc, hmc⟩ : ∃ mc, mc = maC (psOf rs) (j : Int) (i : Int) := ⟨_, rfl⟩
    obtain ⟨mp, hmp⟩ : ∃ mp, mp = maP (psOf rs) (j : Int) (i : Int) := ⟨_, rfl⟩
    rw [← hmc, ← hmp] at HP5 HP4 HP0
    rw [← hmc, ← hmp]
    have hee : j = i → shE pa pb = [] := fun e => by
      have : pb = pa := by rw [hpa, hpb, e]
      rw [this]; exact shE_self hrj
    have HEE := Lib.hid hee
    have hma : (mgE pa pb).length ≤ 24 := by
      have := mgE_len pa pb
      have := (ring_facts hrj).2.1
      have := (ring_facts hri).2.1
      omega
    have HMA := Lib.hid hma
    have HZ := Lib.hid hz
    have HRJ := Lib.hid hrj
    have HRI := Lib.hid hri
    have HPA := Lib.hid hpa
    have HPB := Lib.hid hpb
    clear hz hm hin hrj hri hLj hLi hpa hpb ha hb hCC hPP hmc hmp hee hma
    go_enter Try.func28, Try.ntmps28
    go_wp2_with fail
    refine (i_areaCode _ _ _ 2 _ rs [(j : Int), (i : Int)] _ (h.ext (by (repeat (first | with_reducible exact Ext.refl _ | with_reducible assumption | ((with_reducible apply Src.ext); with_reducible assumption) | with_reducible refine Ext.alloc ?_ _ | with_reducible refine Ext.drew ?_ | with_reducible refine Ext.drewN ?_ _ | ((with_reducible refine Ext.setCell' ?_ ?_ _); solve | omega | simp | (simp; omega)) | (with_reducible refine Ext.trans ?_ (by with_reducible assumption)))))) (hr.ext (by (repeat (first | with_reducible exact Ext.refl _ | with_reducible assumption | ((with_reducible apply Src.ext); with_reducible assumption) | with_reducible refine Ext.alloc ?_ _ | with_reducible refine Ext.drew ?_ | with_reducible refine Ext.drewN ?_ _ | ((with_reducible refine Ext.setCell' ?_ ?_ _); solve | omega | simp | (simp; omega)) | (with_reducible refine Ext.trans ?_ (by with_reducible assumption)))))) hl hc (blk_i2 (by (repeat (first | with_reducible assumption | ((with_reducible apply Blk.new); solve | simp | rfl) | with_reducible apply Blk.drew | with_reducible apply Blk.drewN | ((with_reducible apply Blk.far'); solve | omega | simp | (simp; omega)) | with_reducible apply Blk.set_ | with_reducible apply Blk.alloc | ((with_reducible apply Blk.ext'); with_reducible assumption) | ((with_reducible apply Blk.but'); (with_reducible assumption); solve | omega | (simp; omega)))))) rfl (by omega)).mono ?_
    rintro e w1 ⟨rfl, hx1⟩
    rw [show arC (psOf rs) [(j : Int), (i : Int)] = 0 from HZ.out]
    have hx01 : Ext w w1 := by (repeat (first | with_reducible exact Ext.refl _ | with_reducible assumption | ((with_reducible apply Src.ext); with_reducible assumption) | with_reducible refine Ext.alloc ?_ _ | with_reducible refine Ext.drew ?_ | with_reducible refine Ext.drewN ?_ _ | ((with_reducible refine Ext.setCell' ?_ ?_ _); solve | omega | simp | (simp; omega)) | (with_reducible refine Ext.trans ?_ (by with_reducible assumption))))
    have hs1 := hx01.size
    obtain ⟨b, off, rfl, hb, hcj⟩ := (h.ext hx01).rg hj
    have hci := SlAt.rg' (h.ext hx01) hi
    have hrki := (hr.ext hx01) _ (rg_mem hi)
    have hrkj := (hr.ext hx01) _ (rg_mem hj)
    obtain ⟨ri, hrie⟩ : ∃ r, r = rs.getD i rgD := ⟨_, rfl⟩
    obtain ⟨rj, hrje⟩ : ∃ r, r = rs.getD j rgD := ⟨_, rfl⟩
    have hpj : pa = rj.2.2 := by rw [HPA.out, hrje]
    have hpi : pb = ri.2.2 := by rw [HPB.out, hrie]
    rw [← hrie, ← hpi] at hci hrki
    rw [← hrje, ← hpj] at hcj hrkj
    have HKI := Lib.hid hrki.1
    have HKJ := Lib.hid hrkj.1
    have HX01 := Lib.hid hx01
    have HCJ := Lib.hid hcj
    have HCI := Lib.hid hci
    clear hrie hrje hpj hpi hrki hrkj hx1 h hr
    go_wp2
    go_region_held3 (fun w' => w'.cell? ⟨b, off + j, none⟩ = some (.slice rj.1 pa.length rj.2.1) ∧ w'.cell? ⟨b, off + i, none⟩ = some (.slice ri.1 pb.length ri.2.1)) (first | go_keep | exact ⟨(hx7.cell b (off + j) hb).trans hcj, (hx7.cell b (off + i) hb).trans hci⟩) (first | (go_at_call 84; refine (i_parted _ _ _ _ pa pb _ (HKJ.out.ext (by (repeat (first | with_reducible exact Ext.refl _ | with_reducible assumption | ((with_reducible apply Src.ext); with_reducible assumption) | with_reducible refine Ext.alloc ?_ _ | with_reducible refine Ext.drew ?_ | with_reducible refine Ext.drewN ?_ _ | ((with_reducible refine Ext.setCell' ?_ ?_ _); solve | omega | simp | (simp; omega)) | (with_reducible refine Ext.trans ?_ (by with_reducible assumption)))))) (HKI.out.ext (by (repeat (first | with_reducible exact Ext.refl _ | with_reducible assumption | ((with_reducible apply Src.ext); with_reducible assumption) | with_reducible refine Ext.alloc ?_ _ | with_reducible refine Ext.drew ?_ | with_reducible refine Ext.drewN ?_ _ | ((with_reducible refine Ext.setCell' ?_ ?_ _); solve | omega | simp | (simp; omega)) | (with_reducible refine Ext.trans ?_ (by with_reducible assumption)))))) HRJ.out HRI.out).mono ?_; rintro e w7 ⟨v7, u7, rfl, hO7, hU7, _, hx7⟩; have hs7 := hx7.size; (try simp at hs7)))
    have hX17 : Ext w1 w7 := by (repeat (first | with_reducible exact Ext.refl _ | with_reducible assumption | ((with_reducible apply Src.ext); with_reducible assumption) | with_reducible refine Ext.alloc ?_ _ | with_reducible refine Ext.drew ?_ | with_reducible refine Ext.drewN ?_ _ | ((with_reducible refine Ext.setCell' ?_ ?_ _); solve | omega | simp | (simp; omega)) | (with_reducible refine Ext.trans ?_ (by with_reducible assumption))))
    have HX17 := Lib.hid hX17
    obtain ⟨A7, c7, hv7, _, _, _, _⟩ := hO7.sl len_encE
    obtain ⟨l7, hl7⟩ : ∃ l7, l7 = (shE pa pb).length := ⟨_, rfl⟩
    rw [← hl7] at hv7
    subst hv7
    have HU7 := Lib.hid (hU7.less (show w1.heap.size ≤ _ from Ext.size (by (repeat (first | with_reducible exact Ext.refl _ | with_reducible assumption | ((with_reducible apply Src.ext); with_reducible assumption) | with_reducible refine Ext.alloc ?_ _ | with_reducible refine Ext.drew ?_ | with_reducible refine Ext.drewN ?_ _ | ((with_reducible refine Ext.setCell' ?_ ?_ _); solve | omega | simp | (simp; omega)) | (with_reducible refine Ext.trans ?_ (by with_reducible assumption)))))))
    have HL7 : Hid (shE pa pb = [] ↔ l7 = 0) := Lib.hid (by rw [hl7]; exact List.length_eq_zero_iff.symm)
    clear hO7 hU7 hX17 hl7 hx7
    by_cases h7 : l7 = 0
    · have HM := Lib.hid (HP5.out (HL7.out.2 h7))
      have h7b : ((l7 : Int) == 0) = true := by rw [beq_iff_eq]; omega
      by_cases hji : j = i
      · have heq : ((j : Int) == (i : Int)) = true := by simp [hji]
        clear h7 hji
        go_wp2
        go_ret2
        exact ⟨_, by rw [HM.out.1]; rfl, by rw [HM.out.2]; exact Own.nil _ _, HX01.out.trans (HX17.out.trans (by (repeat (first | with_reducible exact Ext.refl _ | with_reducible assumption | ((with_reducible apply Src.ext); with_reducible assumption) | with_reducible refine Ext.alloc ?_ _ | with_reducible refine Ext.drew ?_ | with_reducible refine Ext.drewN ?_ _ | ((with_reducible refine Ext.setCell' ?_ ?_ _); solve | omega | simp | (simp; omega)) | (with_reducible refine Ext.trans ?_ (by with_reducible assumption))))))⟩
      · have heq : ((j : Int) == (i : Int)) = false := by simp; omega
        clear h7 hji
        go_wp2
        go_ret2
        exact ⟨_, by rw [HM.out.1]; rfl, by rw [HM.out.2]; exact Own.nil _ _, HX01.out.trans (HX17.out.trans (by (repeat (first | with_reducible exact Ext.refl _ | with_reducible assumption | ((with_reducible apply Src.ext); with_reducible assumption) | with_reducible refine Ext.alloc ?_ _ | with_reducible refine Ext.drew ?_ | with_reducible refine Ext.drewN ?_ _ | ((with_reducible refine Ext.setCell' ?_ ?_ _); solve | omega | simp | (simp; omega)) | (with_reducible refine Ext.trans ?_ (by with_reducible assumption))))))⟩
    · have hji : j ≠ i := fun e => h7 (HL7.out.1 (HEE.out e))
      have heq : ((j : Int) == (i : Int)) = false := by simp; omega
      have h7b : ((l7 : Int) == 0) = false := by rw [beq_eq_false_iff_ne]; omega
      have HNE : Hid (shE pa pb ≠ []) := Lib.hid fun e => h7 (HL7.out.1 e)
      have dcj := (HX17.out.cell b (off + j) hb).trans HCJ.out
      have dci := (HX17.out.cell b (off + i) hb).trans HCI.out
      have DCJ := Lib.hid dcj
      have DCI := Lib.hid dci
      have hb7 : b < w7.heap.size := Nat.lt_of_lt_of_le hb HX17.out.size
      clear h7 hji hcj hci HP5 HL7 HEE
      go_wp2
      go_region_held3 (fun w' => w'.cell? ⟨b, off + i, none⟩ = some (.slice ri.1 pb.length ri.2.1) ∧ w'.cell? ⟨b, off + j, none⟩ = some (.slice rj.1 pa.length rj.2.1)) (first | go_keep | exact ⟨(hx8.cell b (off + i) hb7).trans DCI.out, (hx8.cell b (off + j) hb7).trans DCJ.out⟩) (first | (go_at_call 84; refine (i_parted _ _ _ _ pb pa _ (HKI.out.ext (HX17.out.trans (by (repeat (first | with_reducible exact Ext.refl _ | with_reducible assumption | ((with_reducible apply Src.ext); with_reducible assumption) | with_reducible refine Ext.alloc ?_ _ | with_reducible refine Ext.drew ?_ | with_reducible refine Ext.drewN ?_ _ | ((with_reducible refine Ext.setCell' ?_ ?_ _); solve | omega | simp | (simp; omega)) | (with_reducible refine Ext.trans ?_ (by with_reducible assumption))))))) (HKJ.out.ext (HX17.out.trans (by (repeat (first | with_reducible exact Ext.refl _ | with_reducible assumption | ((with_reducible apply Src.ext); with_reducible assumption) | with_reducible refine Ext.alloc ?_ _ | with_reducible refine Ext.drew ?_ | with_reducible refine Ext.drewN ?_ _ | ((with_reducible refine Ext.setCell' ?_ ?_ _); solve | omega | simp | (simp; omega)) | (with_reducible refine Ext.trans ?_ (by with_reducible assumption))))))) HRI.out HRJ.out).mono ?_; rintro e w8 ⟨v8, u8, rfl, _, hU8, _, hx8⟩; have hs8 := hx8.size; (try simp at hs8)))
      have hX78 : Ext w7 w8 := by (repeat (first | with_reducible exact Ext.refl _ | with_reducible assumption | ((with_reducible apply Src.ext); with_reducible assumption) | with_reducible refine Ext.alloc ?_ _ | with_reducible refine Ext.drew ?_ | with_reducible refine Ext.drewN ?_ _ | ((with_reducible refine Ext.setCell' ?_ ?_ _); solve | omega | simp | (simp; omega)) | (with_reducible refine Ext.trans ?_ (by with_reducible assumption))))
      have HX78 := Lib.hid hX78
      obtain ⟨A8, c8, rfl, hS8, _, _, _⟩ := hU8.sl len_encE
      have HS8 := Lib.hid hS8
      have HU8 := Lib.hid (HU7.out.ext hX78)
      have hls : (unE pa pb).length + (unE pb pa).length ≤ 24 := by have := HMA.out; unfold mgE at this; rwa [List.length_append] at this
      have HLS := Lib.hid hls
      have hs78 := hX78.size
      have hs17 := HX17.out.size
      clear hU8 hS8 hX78 hls hx8 dcj dci
      go_wp2_with (at_builtin; refine wpList_append_sl elE len_encE one_encE rfl _ _ rfl rfl (HU8.out.ext (by (repeat (first | with_reducible exact Ext.refl _ | with_reducible assumption | ((with_reducible apply Src.ext); with_reducible assumption) | with_reducible refine Ext.alloc ?_ _ | with_reducible refine Ext.drew ?_ | with_reducible refine Ext.drewN ?_ _ | ((with_reducible refine Ext.setCell' ?_ ?_ _); solve | omega | simp | (simp; omega)) | (with_reducible refine Ext.trans ?_ (by with_reducible assumption)))))) (xs := unE pb pa) rfl (HS8.out.ext (by (repeat (first | with_reducible exact Ext.refl _ | with_reducible assumption | ((with_reducible apply Src.ext); with_reducible assumption) | with_reducible refine Ext.alloc ?_ _ | with_reducible refine Ext.drew ?_ | with_reducible refine Ext.drewN ?_ _ | ((with_reducible refine Ext.setCell' ?_ ?_ _); solve | omega | simp | (simp; omega)) | (with_reducible refine Ext.trans ?_ (by with_reducible assumption)))))) (by have := HLS.out; unfold maxLen; omega) (by have := HLS.out; omega) (by first | omega | (simp; omega)) ?_)
      intro v9 w9 hown hgrow _
      have hX9 : Ext w1 w9 := Ext.grown (HX17.out.trans (HX78.out.trans (by (repeat (first | with_reducible exact Ext.refl _ | with_reducible assumption | ((with_reducible apply Src.ext); with_reducible assumption) | with_reducible refine Ext.alloc ?_ _ | with_reducible refine Ext.drew ?_ | with_reducible refine Ext.drewN ?_ _ | ((with_reducible refine Ext.setCell' ?_ ?_ _); solve | omega | simp | (simp; omega)) | (with_reducible refine Ext.trans ?_ (by with_reducible assumption))))))) hgrow (fun q hq => (HU8.out.row q hq).1)
      have HX9 := Lib.hid hX9
      have HO9 : Hid (OwE w9 w1.heap.size v9 (mgE pa pb)) := Lib.hid hown
      obtain ⟨A9, c9, hv9, hS9, _, _, _⟩ := HO9.out.sl len_encE
      obtain ⟨n9, hn9⟩ : ∃ n9, n9 = (mgE pa pb).length := ⟨_, rfl⟩
      rw [← hn9] at hv9
      subst hv9
      have hl9 : n9 ≤ 24 := by rw [hn9]; exact HMA.out
      have HJ9 := Lib.hid (fun W hW => i_joinEdges A9 n9 c9 (mgE pa pb) W (hS9.ext hW) hn9 hl9)
      clear hown hgrow hS9 hn9 hX9
      go_wp2_with fail
      refine (HJ9.out _ (by (repeat (first | with_reducible exact Ext.refl _ | with_reducible assumption | ((with_reducible apply Src.ext); with_reducible assumption) | with_reducible refine Ext.alloc ?_ _ | with_reducible refine Ext.drew ?_ | with_reducible refine Ext.drewN ?_ _ | ((with_reducible refine Ext.setCell' ?_ ?_ _); solve | omega | simp | (simp; omega)) | (with_reducible refine Ext.trans ?_ (by with_reducible assumption)))))).mono ?_
      rintro e w10 ⟨v10, r, q, rfl, hO10, hr24, hq1, hq2, hx10⟩
      have HQ1 := Lib.hid hq1
      have HQ2 := Lib.hid hq2
      obtain ⟨A10, c10, hv10, hS10, _, _, _⟩ := hO10.sl len_encP
      obtain ⟨n10, hn10⟩ : ∃ n10, n10 = r.length := ⟨_, rfl⟩
      rw [← hn10] at hv10 hr24
      subst hv10
      have HS10 := Lib.hid hS10
      have HN10 := Lib.hid hn10
      have HJ10 := Lib.hid (fun W hW => i_straightN A10 n10 c10 r W (HS10.out.ext hW) HN10.out (by omega))
      have HX10 : Hid (Ext w1 w10) := Lib.hid (HX9.out.trans (by (repeat (first | with_reducible exact Ext.refl _ | with_reducible assumption | ((with_reducible apply Src.ext); with_reducible assumption) | with_reducible refine Ext.alloc ?_ _ | with_reducible refine Ext.drew ?_ | with_reducible refine Ext.drewN ?_ _ | ((with_reducible refine Ext.setCell' ?_ ?_ _); solve | omega | simp | (simp; omega)) | (with_reducible refine Ext.trans ?_ (by with_reducible assumption))))))
      clear hO10 hq1 hq2 hS10 hx10 hn10
      go_wp2_with fail
      refine (HJ10.out _ (by (repeat (first | with_reducible exact Ext.refl _ | with_reducible assumption | ((with_reducible apply Src.ext); with_reducible assumption) | with_reducible refine Ext.alloc ?_ _ | with_reducible refine Ext.drew ?_ | with_reducible refine Ext.drewN ?_ _ | ((with_reducible refine Ext.setCell' ?_ ?_ _); solve | omega | simp | (simp; omega)) | (with_reducible refine Ext.trans ?_ (by with_reducible assumption)))))).mono ?_
      rintro e w11 ⟨v11, rfl, hO11, hx11⟩
      have HX11 : Hid (Ext w1 w11) := Lib.hid (HX10.out.trans (by (repeat (first | with_reducible exact Ext.refl _ | with_reducible assumption | ((with_reducible apply Src.ext); with_reducible assumption) | with_reducible refine Ext.alloc ?_ _ | with_reducible refine Ext.drew ?_ | with_reducible refine Ext.drewN ?_ _ | ((with_reducible refine Ext.setCell' ?_ ?_ _); solve | omega | simp | (simp; omega)) | (with_reducible refine Ext.trans ?_ (by with_reducible assumption))))))
      obtain ⟨A11, c11, hv11, hS11, hc11, _, _⟩ := hO11.sl len_encP
      obtain ⟨n11, hn11⟩ : ∃ n11, n11 = (stP r).length := ⟨_, rfl⟩
      have hl11 : n11 ≤ 24 := by have h1 := stTo_len r r.length; have h2 := HN10.out; rw [hn11]; unfold stP; omega
      rw [← hn11] at hv11 hc11
      subst hv11
      have HS11 := Lib.hid hS11
      have HN11 := Lib.hid hn11
      clear hO11 hS11 hn11 hx11
      cases q with
      | false =>
        have hmb : mgB (mgE pa pb) = false := mgB_no (HQ2.out rfl)
        have HM := Lib.hid (HP4.out HNE.out hmb)
        clear hmb HQ1 HQ2
        go_wp2
        go_ret2
        exact ⟨_, by rw [HM.out.1]; rfl, by rw [HM.out.2]; exact Own.nil _ _, HX01.out.trans (HX11.out.trans (by (repeat (first | with_reducible exact Ext.refl _ | with_reducible assumption | ((with_reducible apply Src.ext); with_reducible assumption) | with_reducible refine Ext.alloc ?_ _ | with_reducible refine Ext.drew ?_ | with_reducible refine Ext.drewN ?_ _ | ((with_reducible refine Ext.setCell' ?_ ?_ _); solve | omega | simp | (simp; omega)) | (with_reducible refine Ext.trans ?_ (by with_reducible assumption))))))⟩
      | true =>
        obtain ⟨hone, hre⟩ := HQ1.out rfl
        have hmb : mgB (mgE pa pb) = ringB (stP r) := by rw [mgB_yes hone, hre]
        have hmr : mgB (mgE pa pb) = true → mgR (mgE pa pb) = normS (stP r) := fun e => by rw [mgR_yes e, hre]
        have HMB := Lib.hid hmb
        have HMR := Lib.hid hmr
        have HIR := Lib.hid fun W hW => i_IsRingN A11 n11 c11 (stP r) W (HS11.out.ext hW) HN11.out (by omega) hc11
        clear hone hre hmb hmr HQ1 HQ2
        cases hrr : ringB (stP r) with
        | false =>
          have HM := Lib.hid (HP4.out HNE.out (HMB.out.trans hrr))
          rw [hrr] at HIR
          clear hrr
          go_wp2_with fail
          refine (HIR.out _ (by (repeat (first | with_reducible exact Ext.refl _ | with_reducible assumption | ((with_reducible apply Src.ext); with_reducible assumption) | with_reducible refine Ext.alloc ?_ _ | with_reducible refine Ext.drew ?_ | with_reducible refine Ext.drewN ?_ _ | ((with_reducible refine Ext.setCell' ?_ ?_ _); solve | omega | simp | (simp; omega)) | (with_reducible refine Ext.trans ?_ (by with_reducible assumption)))))).mono ?_
          rintro e w12 ⟨rfl, hx12⟩
          go_wp2
          go_ret2
          exact ⟨_, by rw [HM.out.1]; rfl, by rw [HM.out.2]; exact Own.nil _ _, HX01.out.trans (HX11.out.trans (by (repeat (first | with_reducible exact Ext.refl _ | with_reducible assumption | ((with_reducible apply Src.ext); with_reducible assumption) | with_reducible refine Ext.alloc ?_ _ | with_reducible refine Ext.drew ?_ | with_reducible refine Ext.drewN ?_ _ | ((with_reducible refine Ext.setCell' ?_ ?_ _); solve | omega | simp | (simp; omega)) | (with_reducible refine Ext.trans ?_ (by with_reducible assumption))))))⟩
        | true =>
          have HM := Lib.hid (HP0.out HNE.out (HMB.out.trans hrr))
          have HME := Lib.hid (HMR.out (HMB.out.trans hrr))
          have HNM := Lib.hid fun W hW => i_normalN A11 n11 c11 (stP r) W (HS11.out.ext hW) HN11.out (by omega) hrr
          rw [hrr] at HIR
          clear hrr
          go_wp2_with fail
          refine (HIR.out _ (by (repeat (first | with_reducible exact Ext.refl _ | with_reducible assumption | ((with_reducible apply Src.ext); with_reducible assumption) | with_reducible refine Ext.alloc ?_ _ | with_reducible refine Ext.drew ?_ | with_reducible refine Ext.drewN ?_ _ | ((with_reducible refine Ext.setCell' ?_ ?_ _); solve | omega | simp | (simp; omega)) | (with_reducible refine Ext.trans ?_ (by with_reducible assumption)))))).mono ?_
          rintro e w12 ⟨rfl, hx12⟩
          go_wp2_with fail
          refine (HNM.out _ (by (repeat (first | with_reducible exact Ext.refl _ | with_reducible assumption | ((with_reducible apply Src.ext); with_reducible assumption) | with_reducible refine Ext.alloc ?_ _ | with_reducible refine Ext.drew ?_ | with_reducible refine Ext.drewN ?_ _ | ((with_reducible refine Ext.setCell' ?_ ?_ _); solve | omega | simp | (simp; omega)) | (with_reducible refine Ext.trans ?_ (by with_reducible assumption)))))).mono ?_
          rintro e w13 ⟨v13, rfl, hO13, hx13⟩
          have HO13 := Lib.hid hO13
          have HX13 : Hid (Ext w11 w13) := Lib.hid (by (repeat (first | with_reducible exact Ext.refl _ | with_reducible assumption | ((with_reducible apply Src.ext); with_reducible assumption) | with_reducible refine Ext.alloc ?_ _ | with_reducible refine Ext.drew ?_ | with_reducible refine Ext.drewN ?_ _ | ((with_reducible refine Ext.setCell' ?_ ?_ _); solve | omega | simp | (simp; omega)) | (with_reducible refine Ext.trans ?_ (by with_reducible assumption)))))
          have hs12 := hx12.size
          clear hO13
          go_wp2
          go_ret2
          exact ⟨_, by rw [HM.out.1]; rfl, by rw [HM.out.2, HME.out]; exact HO13.out.less (by have h1 := HX01.out.size; have h2 := HX11.out.size; omega), HX01.out.trans (HX11.out.trans HX13.out)⟩
  · have hCC : maC (psOf rs) a b = abC (psOf rs) a b := by unfold maC; rw [if_neg hz]
    have hPN : maP (psOf rs) a b = [] := maP_no (by rw [hCC]; exact hz)
    obtain ⟨z, hze⟩ : ∃ z, z = abC (psOf rs) a b := ⟨_, rfl⟩
    rw [hPN, hCC, ← hze]
    rw [← hze] at hz
    have HZ : Hid (arC (psOf rs) [a, b] = z) := Lib.hid hze.symm
    have hzz : (z != 0) = true := by simpa using hz
    have hzq : (z == 0) = false := by simpa using hz
    clear hze hCC hPN
    go_enter Try.func28, Try.ntmps28
    go_wp2_with fail
    refine (i_areaCode _ _ _ 2 _ rs [a, b] _ (h.ext (by (repeat (first | with_reducible exact Ext.refl _ | with_reducible assumption | ((with_reducible apply Src.ext); with_reducible assumption) | with_reducible refine Ext.alloc ?_ _ | with_reducible refine Ext.drew ?_ | with_reducible refine Ext.drewN ?_ _ | ((with_reducible refine Ext.setCell' ?_ ?_ _); solve | omega | simp | (simp; omega)) | (with_reducible refine Ext.trans ?_ (by with_reducible assumption)))))) (hr.ext (by (repeat (first | with_reducible exact Ext.refl _ | with_reducible assumption | ((with_reducible apply Src.ext); with_reducible assumption) | with_reducible refine Ext.alloc ?_ _ | with_reducible refine Ext.drew ?_ | with_reducible refine Ext.drewN ?_ _ | ((with_reducible refine Ext.setCell' ?_ ?_ _); solve | omega | simp | (simp; omega)) | (with_reducible refine Ext.trans ?_ (by with_reducible assumption)))))) hl hc (blk_i2 (by (repeat (first | with_reducible assumption | ((with_reducible apply Blk.new); solve | simp | rfl) | with_reducible apply Blk.drew | with_reducible apply Blk.drewN | ((with_reducible apply Blk.far'); solve | omega | simp | (simp; omega)) | with_reducible apply Blk.set_ | with_reducible apply Blk.alloc | ((with_reducible apply Blk.ext'); with_reducible assumption) | ((with_reducible apply Blk.but'); (with_reducible assumption); solve | omega | (simp; omega)))))) rfl (by omega)).mono ?_
    rintro e w1 ⟨rfl, hx1⟩
    rw [HZ.out]
    go_wp2
    go_wp2
    go_ret2
    exact ⟨_, rfl, Own.nil _ _, by (repeat (first | with_reducible exact Ext.refl _ | with_reducible assumption | ((with_reducible apply Src.ext); with_reducible assumption) | with_reducible refine Ext.alloc ?_ _ | with_reducible refine Ext.drew ?_ | with_reducible refine Ext.drewN ?_ _ | ((with_reducible refine Ext.setCell' ?_ ?_ _); solve | omega | simp | (simp; omega)) | (with_reducible refine Ext.trans ?_ (by with_reducible assumption))))⟩

end Go.Proofs.Yteppjdoggjcdoaa
