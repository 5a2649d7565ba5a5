/- MergeAreas as the specification tells it. -/
import Derived.Test.YteppjdoggjcdoaaPG
import Derived.Deep.RegionHeld3
import Derived.Deep.DeepCutAuto
import Derived.RegionTactic
import Derived.BigRegion
import Derived.WalkLawsBesides
import Derived.WalkSpells
import Derived.Lib.MinMax
import Derived.Outline
namespace Go.Proofs.Yteppjdoggjcdoaa
open Go.RowKit
attribute [local go_sem] ExtOf.cell ExtOf.frozen


set_option maxRecDepth 20000 in
set_option maxHeartbeats 25600000 in
theorem s_MergeAreas (A : Option Addr) (c : Nat) (rs : List Rg) (a b : Int) (w : World) (h : SlAt w 1 encR A rs) (hr : Rings w rs) (hl : rs.length ≤ 1048576) :
    Calls Try.prog 26 #[.slice A rs.length c, .int .i64 a, .int .i64 b] w fun e w' => ∃ v, e = .returned (.tuple #[v, .int .i64 (maC (psOf rs) a b)]) ∧ OwP w' w.heap.size v (maP (psOf rs) a b) ∧ Ext w w' := by
  by_cases hz : abC (psOf rs) a b = 0
  · obtain ⟨hm, hin⟩ := arC_zero.1 hz
    have ha := hin a (by simp)
    have hb := hin b (by simp)
    rw [psOf_len] at ha hb
    obtain ⟨j, rfl⟩ : ∃ j : Nat, a = (j : Int) := ⟨a.toNat, by omega⟩
    obtain ⟨i, rfl⟩ : ∃ j : Nat, b = (j : Int) := ⟨b.toNat, by omega⟩
    have hj : j < rs.length := by omega
    have hi : i < rs.length := by omega
    have hLj : (psOf rs).getD j [] = (rs.getD j rgD).2.2 := psOf_at hj
    have hLi : (psOf rs).getD i [] = (rs.getD i rgD).2.2 := psOf_at hi
    obtain ⟨pa, hpa⟩ : ∃ pa, pa = (rs.getD j rgD).2.2 := ⟨_, rfl⟩
    obtain ⟨pb, hpb⟩ : ∃ pa, pa = (rs.getD i rgD).2.2 := ⟨_, rfl⟩
    have hrj : ringB pa = true := by rw [hpa, ← hLj]; exact map_ring hm (by rw [psOf_len]; exact hj)
    have hri : ringB pb = true := by rw [hpb, ← hLi]; exact map_ring hm (by rw [psOf_len]; exact hi)
    have hCC : maC (psOf rs) (j : Int) (i : Int) = if shE pa pb = [] then 5 else if mgB (mgE pa pb) = true then 0 else 4 := by
      unfold maC
      rw [if_pos hz, Int.toNat_natCast, Int.toNat_natCast, hLj, hLi, ← hpa, ← hpb]
    have hPP : maC (psOf rs) (j : Int) (i : Int) = 0 → maP (psOf rs) (j : Int) (i : Int) = mgR (mgE pa pb) := fun e => by
      unfold maP
      rw [if_pos e, Int.toNat_natCast, Int.toNat_natCast, hLj, hLi, ← hpa, ← hpb]
    have HP5 : Hid (shE pa pb = [] → maC (psOf rs) (j : Int) (i : Int) = 5 ∧ maP (psOf rs) (j : Int) (i : Int) = []) := Lib.hid fun e => by
      have : maC (psOf rs) (j : Int) (i : Int) = 5 := by rw [hCC, if_pos e]
      exact ⟨this, maP_no (by rw [this]; decide)⟩
    have HP4 : Hid (shE pa pb ≠ [] → mgB (mgE pa pb) = false → maC (psOf rs) (j : Int) (i : Int) = 4 ∧ maP (psOf rs) (j : Int) (i : Int) = []) := Lib.hid fun e e2 => by
      have : maC (psOf rs) (j : Int) (i : Int) = 4 := by rw [hCC, if_neg e, if_neg (by rw [e2]; exact Bool.false_ne_true)]
      exact ⟨this, maP_no (by rw [this]; decide)⟩
    have HP0 : Hid (shE pa pb ≠ [] → mgB (mgE pa pb) = true → maC (psOf rs) (j : Int) (i : Int) = 0 ∧ maP (psOf rs) (j : Int) (i : Int) = mgR (mgE pa pb)) := Lib.hid fun e e2 => by
      have : maC (psOf rs) (j : Int) (i : Int) = 0 := by rw [hCC, if_neg e, if_pos e2]
      exact ⟨this, hPP this⟩
    obtain ⟨mc, hmc⟩ : ∃ mc, mc = maC (psOf rs) (j : Int) (i : Int) := ⟨_, rfl⟩
    obtain ⟨mp, hmp⟩ : ∃ mp, mp = maP (psOf rs) (j : Int) (i : Int) := ⟨_, rfl⟩
    rw [← hmc, ← hmp] at HP5 HP4 HP0
    rw [← hmc, ← hmp]
    have hee : j = i → shE pa pb = [] := fun e => by
      have : pb = pa := by rw [hpa, hpb, e]
      rw [this]; exact shE_self hrj
    have HEE := Lib.hid hee
    have hma : (mgE pa pb).length ≤ 24 := by
      have := mgE_len pa pb
      have := (ring_facts hrj).2.1
      have := (ring_facts hri).2.1
      omega
    have HMA := Lib.hid hma
    have HZ := Lib.hid hz
    have HRJ := Lib.hid hrj
    have HRI := Lib.hid hri
    have HPA := Lib.hid hpa
    have HPB := Lib.hid hpb
    clear hz hm hin hrj hri hLj hLi hpa hpb ha hb hCC hPP hmc hmp hee hma
    go_enter Try.func26, Try.ntmps26
    go_wp2_with fail
    refine (s_l17Code _ _ rs (j : Int) (i : Int) _ (h.ext (by (repeat (first | with_reducible exact Ext.refl _ | with_reducible assumption | ((with_reducible apply Src.ext); with_reducible assumption) | with_reducible refine Ext.alloc ?_ _ | with_reducible refine Ext.drew ?_ | with_reducible refine Ext.drewN ?_ _ | ((with_reducible refine Ext.setCell' ?_ ?_ _); solve | omega | simp | (simp; omega)) | (with_reducible refine Ext.trans ?_ (by with_reducible assumption)))))) (hr.ext (by (repeat (first | with_reducible exact Ext.refl _ | with_reducible assumption | ((with_reducible apply Src.ext); with_reducible assumption) | with_reducible refine Ext.alloc ?_ _ | with_reducible refine Ext.drew ?_ | with_reducible refine Ext.drewN ?_ _ | ((with_reducible refine Ext.setCell' ?_ ?_ _); solve | omega | simp | (simp; omega)) | (with_reducible refine Ext.trans ?_ (by with_reducible assumption)))))) hl).mono ?_
    rintro e w1 ⟨rfl, hx1⟩
    rw [show arC (psOf rs) [(j : Int), (i : Int)] = 0 from HZ.out]
    have hx01 : Ext w w1 := by (repeat (first | with_reducible exact Ext.refl _ | with_reducible assumption | ((with_reducible apply Src.ext); with_reducible assumption) | with_reducible refine Ext.alloc ?_ _ | with_reducible refine Ext.drew ?_ | with_reducible refine Ext.drewN ?_ _ | ((with_reducible refine Ext.setCell' ?_ ?_ _); solve | omega | simp | (simp; omega)) | (with_reducible refine Ext.trans ?_ (by with_reducible assumption))))
    have hs1 := hx01.size
    obtain ⟨b, off, rfl, hb, hcj⟩ := (h.ext hx01).rg hj
    have hci := SlAt.rg' (h.ext hx01) hi
    have hrki := (hr.ext hx01) _ (rg_mem hi)
    have hrkj := (hr.ext hx01) _ (rg_mem hj)
    obtain ⟨ri, hrie⟩ : ∃ r, r = rs.getD i rgD := ⟨_, rfl⟩
    obtain ⟨rj, hrje⟩ : ∃ r, r = rs.getD j rgD := ⟨_, rfl⟩
    have hpj : pa = rj.2.2 := by rw [HPA.out, hrje]
    have hpi : pb = ri.2.2 := by rw [HPB.out, hrie]
    rw [← hrie, ← hpi] at hci hrki
    rw [← hrje, ← hpj] at hcj hrkj
    have HKI := Lib.hid hrki.1
    have HKJ := Lib.hid hrkj.1
    have HX01 := Lib.hid hx01
    have HCJ := Lib.hid hcj
    have HCI := Lib.hid hci
    clear hrie hrje hpj hpi hrki hrkj hx1 h hr
    by_cases hsn : shE pa pb = []
    · have HM := Lib.hid (HP5.out hsn)
      by_cases hji : j = i
      · have heq : ((j : Int) == (i : Int)) = true := by simp [hji]
        clear hsn hji
        go_wp2
        (refine wp_region_ext (by kernel_rfl) (by kernel_rfl) ?_; (repeat (go_big_quiet_step (fail))); refine wpQuiet_nil ?_; intro wq hxwq; obtain ⟨hcwq, hfwq⟩ := hxwq.rules; have hswq := hxwq.size; (try simp at hswq))
        go_wp2
        go_ret2
        exact ⟨_, by rw [HM.out.1]; rfl, by rw [HM.out.2]; exact Own.nil _ _, HX01.out.trans (by (repeat (first | with_reducible exact Ext.refl _ | with_reducible assumption | ((with_reducible apply Src.ext); with_reducible assumption) | with_reducible refine Ext.alloc ?_ _ | with_reducible refine Ext.drew ?_ | with_reducible refine Ext.drewN ?_ _ | ((with_reducible refine Ext.setCell' ?_ ?_ _); solve | omega | simp | (simp; omega)) | (with_reducible refine Ext.trans ?_ (by with_reducible assumption)))))⟩
      · have heq : ((j : Int) == (i : Int)) = false := by simp; omega
        have HN0 : Hid ((shE pa pb).length = 0) := Lib.hid (by rw [hsn]; rfl)
        clear hsn hji
        go_wp2
        go_region_held3 (fun w' => w'.cell? ⟨b, off + j, none⟩ = some (.slice rj.1 pa.length rj.2.1) ∧ w'.cell? ⟨b, off + i, none⟩ = some (.slice ri.1 pb.length ri.2.1)) (first | go_keep | exact ⟨(hx7.cell b (off + j) hb).trans hcj, (hx7.cell b (off + i) hb).trans hci⟩) (first | (go_at_call 78; refine (s_l17Shared _ _ _ _ pa pb _ (HKJ.out.ext (by (repeat (first | with_reducible exact Ext.refl _ | with_reducible assumption | ((with_reducible apply Src.ext); with_reducible assumption) | with_reducible refine Ext.alloc ?_ _ | with_reducible refine Ext.drew ?_ | with_reducible refine Ext.drewN ?_ _ | ((with_reducible refine Ext.setCell' ?_ ?_ _); solve | omega | simp | (simp; omega)) | (with_reducible refine Ext.trans ?_ (by with_reducible assumption)))))) (HKI.out.ext (by (repeat (first | with_reducible exact Ext.refl _ | with_reducible assumption | ((with_reducible apply Src.ext); with_reducible assumption) | with_reducible refine Ext.alloc ?_ _ | with_reducible refine Ext.drew ?_ | with_reducible refine Ext.drewN ?_ _ | ((with_reducible refine Ext.setCell' ?_ ?_ _); solve | omega | simp | (simp; omega)) | (with_reducible refine Ext.trans ?_ (by with_reducible assumption)))))) HRJ.out HRI.out).mono ?_; rintro e w7 ⟨v7, rfl, hO7, hx7⟩; have hs7 := hx7.size; (try simp at hs7); obtain ⟨A7, c7, rfl, _, _, _, _⟩ := hO7.sl len_encE; rw [HN0.out]; clear hO7))
        go_wp2
        go_ret2
        exact ⟨_, by rw [HM.out.1]; rfl, by rw [HM.out.2]; exact Own.nil _ _, HX01.out.trans (by (repeat (first | with_reducible exact Ext.refl _ | with_reducible assumption | ((with_reducible apply Src.ext); with_reducible assumption) | with_reducible refine Ext.alloc ?_ _ | with_reducible refine Ext.drew ?_ | with_reducible refine Ext.drewN ?_ _ | ((with_reducible refine Ext.setCell' ?_ ?_ _); solve | omega | simp | (simp; omega)) | (with_reducible refine Ext.trans ?_ (by with_reducible assumption)))))⟩
    · have HNE := Lib.hid hsn
      have heq : ((j : Int) == (i : Int)) = false := by
        have : j ≠ i := fun e => hsn (HEE.out e)
        simp; omega
      obtain ⟨l7, hl7⟩ : ∃ l7, l7 = (shE pa pb).length := ⟨_, rfl⟩
      have h7b : ((l7 : Int) == 0) = false := by
        rw [beq_eq_false_iff_ne]
        intro e
        exact hsn (List.length_eq_zero_iff.1 (by omega))
      have HL7 := Lib.hid hl7
      obtain ⟨a0, al, ao⟩ := ring_facts HRJ.out
      obtain ⟨b0, bl, bo⟩ := ring_facts HRI.out
      obtain ⟨o, hoe⟩ : ∃ o, o = edL (normS pa) := ⟨_, rfl⟩
      obtain ⟨q, hqe⟩ : ∃ q, q = edL (normS pb) := ⟨_, rfl⟩
      have hol : o.length ≤ 12 := by rw [hoe, edL_len, normS_len]; exact al
      have hql : q.length ≤ 12 := by rw [hqe, edL_len, normS_len]; exact bl
      have HUN : Hid (mgE pa pb = unTo o q o.length ++ unTo q o q.length) := Lib.hid (by unfold mgE unE; rw [hoe, hqe])
      have HOE := Lib.hid hoe
      have HQE := Lib.hid hqe
      have HAO := Lib.hid ao
      have HBO := Lib.hid bo
      have HEO := Lib.hid fun W hS => s_l17Edges rj.1 rj.2.1 pa W hS a0 (by omega) HAO.out
      have HEQ := Lib.hid fun W hS => s_l17Edges ri.1 ri.2.1 pb W hS b0 (by omega) HBO.out
      rw [← HOE.out] at HEO
      rw [← HQE.out] at HEQ
      clear hsn hl7 hoe hqe ao bo a0 b0 al bl HP5 HEE
      go_wp2
      go_region_held3 (fun w' => w'.cell? ⟨b, off + j, none⟩ = some (.slice rj.1 pa.length rj.2.1) ∧ w'.cell? ⟨b, off + i, none⟩ = some (.slice ri.1 pb.length ri.2.1)) (first | go_keep | exact ⟨(hx7.cell b (off + j) hb).trans hcj, (hx7.cell b (off + i) hb).trans hci⟩) (first | (go_at_call 78; refine (s_l17Shared _ _ _ _ pa pb _ (HKJ.out.ext (by (repeat (first | with_reducible exact Ext.refl _ | with_reducible assumption | ((with_reducible apply Src.ext); with_reducible assumption) | with_reducible refine Ext.alloc ?_ _ | with_reducible refine Ext.drew ?_ | with_reducible refine Ext.drewN ?_ _ | ((with_reducible refine Ext.setCell' ?_ ?_ _); solve | omega | simp | (simp; omega)) | (with_reducible refine Ext.trans ?_ (by with_reducible assumption)))))) (HKI.out.ext (by (repeat (first | with_reducible exact Ext.refl _ | with_reducible assumption | ((with_reducible apply Src.ext); with_reducible assumption) | with_reducible refine Ext.alloc ?_ _ | with_reducible refine Ext.drew ?_ | with_reducible refine Ext.drewN ?_ _ | ((with_reducible refine Ext.setCell' ?_ ?_ _); solve | omega | simp | (simp; omega)) | (with_reducible refine Ext.trans ?_ (by with_reducible assumption)))))) HRJ.out HRI.out).mono ?_; rintro e w7 ⟨v7, rfl, hO7, hx7⟩; have hs7 := hx7.size; (try simp at hs7); obtain ⟨A7, c7, rfl, _, _, _, _⟩ := hO7.sl len_encE; rw [← HL7.out]; clear hO7))
      have hX17 : Ext w1 w7 := by (repeat (first | with_reducible exact Ext.refl _ | with_reducible assumption | ((with_reducible apply Src.ext); with_reducible assumption) | with_reducible refine Ext.alloc ?_ _ | with_reducible refine Ext.drew ?_ | with_reducible refine Ext.drewN ?_ _ | ((with_reducible refine Ext.setCell' ?_ ?_ _); solve | omega | simp | (simp; omega)) | (with_reducible refine Ext.trans ?_ (by with_reducible assumption))))
      have HX17 := Lib.hid hX17
      have dcj := (hX17.cell b (off + j) hb).trans HCJ.out
      have dci := (hX17.cell b (off + i) hb).trans HCI.out
      have DCJ := Lib.hid dcj
      have DCI := Lib.hid dci
      have hb7 : b < w7.heap.size := Nat.lt_of_lt_of_le hb hX17.size
      have hs17 := hX17.size
      clear hX17 hcj hci hx7 dcj dci
      have HLJ := Lib.hid (HKJ.out.ext HX17.out)
      have HLI := Lib.hid (HKI.out.ext HX17.out)
      clear HL7 h7b heq
      go_upto_region 7 with (fail)
      go_cut [10, 11] (fun x y wx => ∃ A2 c2 A1 c1, x = .slice A2 o.length c2 ∧ y = .slice A1 q.length c1 ∧ Hid (SlAt wx 4 encE A2 o) ∧ Hid (SlAt wx 4 encE A1 q) ∧ Hid (∀ p, A2 = some p → w7.heap.size < p.block ∧ p.block < wx.heap.size) ∧ Hid (∀ p, A1 = some p → w7.heap.size < p.block ∧ p.block < wx.heap.size) ∧ Hid (OwE wx w7.heap.size (.slice (some ⟨w7.heap.size, 0, none⟩) 0 0) []) ∧ Ext w7 wx)
      case first =>
        have hm0 : OwE (w7.alloc (.cells #[] 58)) w7.heap.size (.slice (some ⟨w7.heap.size, 0, none⟩) 0 0) ([] : List Ed) := World.ownsRow_made (base := w7.heap.size) (e := 58) (size := 4) w7 #[] 0 (Nat.le_refl _) (Nat.zero_le _) rfl
        have HM0 := Lib.hid hm0
        have HKC : Hid (∀ W, Ext w7 W → W.cell? ⟨b, off + j, none⟩ = some (.slice rj.1 pa.length rj.2.1) ∧ W.cell? ⟨b, off + i, none⟩ = some (.slice ri.1 pb.length ri.2.1)) := Lib.hid fun W hW => ⟨(hW.cell b (off + j) hb7).trans DCJ.out, (hW.cell b (off + i) hb7).trans DCI.out⟩
        have ij0 : (0 : Int) ≤ (j : Int) := by omega
        have ii0 : (0 : Int) ≤ (i : Int) := by omega
        have ij1 : (j : Int) < (rs.length : Int) := by omega
        have ii1 : (i : Int) < (rs.length : Int) := by omega
        have HEX : Hid (∀ v E, (v = .slice rj.1 pa.length rj.2.1 ∧ E = o) ∨ (v = .slice ri.1 pb.length ri.2.1 ∧ E = q) → ∀ W, Ext w7 W → Calls Try.prog 79 #[v] W fun e w' => ∃ u, e = .returned u ∧ OwE w' W.heap.size u E ∧ Ext W w') := Lib.hid fun v E hv W hW => by
          rcases hv with ⟨rfl, rfl⟩ | ⟨rfl, rfl⟩
          · exact HEO.out W (HLJ.out.ext hW)
          · exact HEQ.out W (HLI.out.ext hW)
        clear hm0 DCJ DCI
        go_region_held3 (fun w' => w'.cell? ⟨b, off + j, none⟩ = some (.slice rj.1 pa.length rj.2.1) ∧ w'.cell? ⟨b, off + i, none⟩ = some (.slice ri.1 pb.length ri.2.1)) (first | exact HKC.out _ (by (repeat (first | with_reducible exact Ext.refl _ | with_reducible assumption | ((with_reducible apply Src.ext); with_reducible assumption) | with_reducible refine Ext.alloc ?_ _ | with_reducible refine Ext.drew ?_ | with_reducible refine Ext.drewN ?_ _ | ((with_reducible refine Ext.setCell' ?_ ?_ _); solve | omega | simp | (simp; omega)) | (with_reducible refine Ext.trans ?_ (by with_reducible assumption))))) | go_keep) (first | (go_at_call 79; refine (HEX.out _ _ (by first | exact .inl ⟨rfl, rfl⟩ | exact .inr ⟨rfl, rfl⟩) _ (by (repeat (first | with_reducible exact Ext.refl _ | with_reducible assumption | ((with_reducible apply Src.ext); with_reducible assumption) | with_reducible refine Ext.alloc ?_ _ | with_reducible refine Ext.drew ?_ | with_reducible refine Ext.drewN ?_ _ | ((with_reducible refine Ext.setCell' ?_ ?_ _); solve | omega | simp | (simp; omega)) | (with_reducible refine Ext.trans ?_ (by with_reducible assumption)))))).mono ?_; rintro e wn ⟨vn, rfl, hOn, hxn⟩; have hsn := hxn.size; (try simp at hsn); first | (obtain ⟨A8, c8, rfl, hS8, _, _, hA8⟩ := (show OwE _ _ vn o from hOn).sl len_encE; (try simp at hA8); have HS8 := Lib.hid hS8; have HA8 := Lib.hid hA8; clear hOn hS8 hA8; obtain ⟨w8, rfl⟩ : ∃ x, x = wn := ⟨wn, rfl⟩; have hx8 := hxn; have hs8 := hsn; clear hxn hsn) | (obtain ⟨A9, c9, rfl, hS9, _, _, hA9⟩ := (show OwE _ _ vn q from hOn).sl len_encE; (try simp at hA9); have HS9 := Lib.hid hS9; have HA9 := Lib.hid hA9; clear hOn hS9 hA9; obtain ⟨w9, rfl⟩ : ∃ x, x = wn := ⟨wn, rfl⟩; have hx9 := hxn; have hs9 := hsn; clear hxn hsn)))
        all_goals (go_wp2_with fail; go_meet; exact ⟨A8, c8, A9, c9, rfl, rfl, Lib.hid (HS8.out.ext (by (repeat (first | with_reducible exact Ext.refl _ | with_reducible assumption | ((with_reducible apply Src.ext); with_reducible assumption) | with_reducible refine Ext.alloc ?_ _ | with_reducible refine Ext.drew ?_ | with_reducible refine Ext.drewN ?_ _ | ((with_reducible refine Ext.setCell' ?_ ?_ _); solve | omega | simp | (simp; omega)) | (with_reducible refine Ext.trans ?_ (by with_reducible assumption)))))), Lib.hid (HS9.out.ext (by (repeat (first | with_reducible exact Ext.refl _ | with_reducible assumption | ((with_reducible apply Src.ext); with_reducible assumption) | with_reducible refine Ext.alloc ?_ _ | with_reducible refine Ext.drew ?_ | with_reducible refine Ext.drewN ?_ _ | ((with_reducible refine Ext.setCell' ?_ ?_ _); solve | omega | simp | (simp; omega)) | (with_reducible refine Ext.trans ?_ (by with_reducible assumption)))))), Lib.hid (fun p hp => by have := HA8.out p hp; (try simp); omega), Lib.hid (fun p hp => by have := HA9.out p hp; (try simp); omega), Lib.hid (HM0.out.ext (by (repeat (first | with_reducible exact Ext.refl _ | with_reducible assumption | ((with_reducible apply Src.ext); with_reducible assumption) | with_reducible refine Ext.alloc ?_ _ | with_reducible refine Ext.drew ?_ | with_reducible refine Ext.drewN ?_ _ | ((with_reducible refine Ext.setCell' ?_ ?_ _); solve | omega | simp | (simp; omega)) | (with_reducible refine Ext.trans ?_ (by with_reducible assumption)))))), by (repeat (first | with_reducible exact Ext.refl _ | with_reducible assumption | ((with_reducible apply Src.ext); with_reducible assumption) | with_reducible refine Ext.alloc ?_ _ | with_reducible refine Ext.drew ?_ | with_reducible refine Ext.drewN ?_ _ | ((with_reducible refine Ext.setCell' ?_ ?_ _); solve | omega | simp | (simp; omega)) | (with_reducible refine Ext.trans ?_ (by with_reducible assumption))))⟩)
      case rest =>
      obtain ⟨A2, c2, A1, c1, rfl, rfl, HSO0, HSQ0, HA2, HA1, HM1, hxc⟩ := hcut
      have HXC := Lib.hid hxc
      have hsc := hxc.size
      have HMZ : Hid (OwE wc w7.heap.size (.slice (some ⟨w7.heap.size, 0, none⟩) 0 0) (unTo o q 0)) := Lib.hid (by rw [show unTo o q 0 = [] by simp [unTo]]; exact HM1.out)
      clear hxc HM1
      go_wp2
      go_loopw [9, 12] (fun s i wr => ∃ k : Nat, k ≤ o.length ∧ i = .int .i64 k ∧ Hid (OwE wr w7.heap.size s (unTo o q k)) ∧ Hid (∀ j, s.ownBlock = some j → j = w7.heap.size ∨ wc.heap.size ≤ j) ∧ Hid (SlAt wr 4 encE A2 o) ∧ Hid (SlAt wr 4 encE A1 q) ∧ wc.heap.size ≤ wr.heap.size ∧ Hid (Ext w7 wr)) (fun _ i _ => o.length - (intOf i).toNat)
      case atStart => exact ⟨0, by omega, rfl, HMZ, Lib.hid (fun j hj => by simp [Value.ownBlock] at hj; omega), HSO0, HSQ0, Nat.le_refl _, HXC⟩
      case round =>
        obtain ⟨k, hk, rfl, HSH, HJ, HSO, HSQ, hs3, HX3⟩ := hrel
        have hsw : w7.heap.size ≤ wr.heap.size := HX3.out.size
        have hsl : (unTo o q k).length ≤ 24 := by
          have h1 := unTo_len o q k
          have h2 := unTo_len o q o.length
          try rw [List.length_append]
          omega
        have HSL := Lib.hid hsl
        clear hsl
        by_cases hlt : k < o.length
        · have hkn : k < o.length := hlt
          obtain ⟨b', off', a1, a2, a3, a4, hAe, hb', he, d0, d1, d2, d3⟩ := HSO.out.ed hkn
          have HAE := Lib.hid hAe
          subst hAe
          have HE := Lib.hid he
          clear he
          by_cases hh : hasE q a3 a4 a1 a2 = true
          · have hb1 : bk q (o.getD k edD) = true := by rw [show o.getD k edD = ((a1, a2), (a3, a4)) from HE.out]; exact hh
            have HNO := Lib.hid (unTo_no hkn hb1)
            have hcall : ∀ W, SlAt W 4 encE A1 q → Calls Try.prog 80 #[.slice A1 q.length c1, .agg #[.int .i64 a3, .int .i64 a4, .int .i64 a1, .int .i64 a2]] W fun e w' => e = .returned (.bool true) ∧ Ext W w' := fun W h => as_bool (s_l17Has _ _ _ q _ _ _ _ _ h rfl (by omega)) hh
            have HCC := Lib.hid hcall
            clear hb1 hh hcall hkn
            go_wp2
            (refine wp_region_ext (by kernel_rfl) (by kernel_rfl) ?_; (repeat (go_big_quiet_step ((go_at_call 80; exact Calls_ext (HCC.out _ (HSQ.out.ext (ExtOf.ext _))))))); refine wpQuiet_nil ?_; intro wq hxwq; obtain ⟨hcwq, hfwq⟩ := hxwq.rules; have hswq := hxwq.size; (try simp at hswq))
            have hx37 : Ext wr wq := by (repeat (first | with_reducible exact Ext.refl _ | with_reducible assumption | ((with_reducible apply Src.ext); with_reducible assumption) | with_reducible refine Ext.alloc ?_ _ | with_reducible refine Ext.drew ?_ | with_reducible refine Ext.drewN ?_ _ | ((with_reducible refine Ext.setCell' ?_ ?_ _); solve | omega | simp | (simp; omega)) | (with_reducible refine Ext.trans ?_ (by with_reducible assumption))))
            go_wp2
            go_roundw
            case rel => exact ⟨k + 1, by omega, by go_num, by rw [HNO.out]; exact Lib.hid (HSH.out.ext hx37), HJ, Lib.hid (HSO.out.ext hx37), Lib.hid (HSQ.out.ext hx37), by omega, Lib.hid (HX3.out.trans hx37)⟩
            case measure => simp [intOf]; omega
          · have hh' : hasE q a3 a4 a1 a2 = false := Bool.eq_false_iff.2 hh
            have hb1 : bk q (o.getD k edD) = false := by rw [show o.getD k edD = ((a1, a2), (a3, a4)) from HE.out]; exact hh'
            have HYE := Lib.hid (unTo_yes hkn hb1)
            obtain ⟨ek, hek⟩ : ∃ ek, ek = o.getD k edD := ⟨_, rfl⟩
            rw [← hek] at HYE
            have HEK : Hid (ek = ((a1, a2), (a3, a4))) := Lib.hid (by rw [hek]; exact HE.out)
            have hcall : ∀ W, SlAt W 4 encE A1 q → Calls Try.prog 80 #[.slice A1 q.length c1, .agg #[.int .i64 a3, .int .i64 a4, .int .i64 a1, .int .i64 a2]] W fun e w' => e = .returned (.bool false) ∧ Ext W w' := fun W h => as_bool (s_l17Has _ _ _ q _ _ _ _ _ h rfl (by omega)) hh'
            have HCC := Lib.hid hcall
            clear hek hb1 hh hh' hcall hkn
            go_wp2
            (refine wp_region_ext (by kernel_rfl) (by kernel_rfl) ?_; (repeat (go_big_quiet_step ((go_at_call 80; exact Calls_ext (HCC.out _ (HSQ.out.ext (ExtOf.ext _))))))); refine wpQuiet_nil ?_; intro wq hxwq; obtain ⟨hcwq, hfwq⟩ := hxwq.rules; have hswq := hxwq.size; (try simp at hswq))
            have hx37 : Ext wr wq := by (repeat (first | with_reducible exact Ext.refl _ | with_reducible assumption | ((with_reducible apply Src.ext); with_reducible assumption) | with_reducible refine Ext.alloc ?_ _ | with_reducible refine Ext.drew ?_ | with_reducible refine Ext.drewN ?_ _ | ((with_reducible refine Ext.setCell' ?_ ?_ _); solve | omega | simp | (simp; omega)) | (with_reducible refine Ext.trans ?_ (by with_reducible assumption))))
            have HX37 := Lib.hid hx37
            go_wp2_with (at_builtin; refine wpList_append_near elE len_encE one_encE rfl _ _ rfl rfl (HSH.out.ext (by (repeat (first | with_reducible exact Ext.refl _ | with_reducible assumption | ((with_reducible apply Src.ext); with_reducible assumption) | with_reducible refine Ext.alloc ?_ _ | with_reducible refine Ext.drew ?_ | with_reducible refine Ext.drewN ?_ _ | ((with_reducible refine Ext.setCell' ?_ ?_ _); solve | omega | simp | (simp; omega)) | (with_reducible refine Ext.trans ?_ (by with_reducible assumption)))))) (xs := [ek]) rfl (blk_e1 (by (repeat (first | with_reducible assumption | ((with_reducible apply Blk.new); solve | simp | rfl) | with_reducible apply Blk.drew | with_reducible apply Blk.drewN | ((with_reducible apply Blk.far'); solve | omega | simp | (simp; omega)) | with_reducible apply Blk.set_ | with_reducible apply Blk.alloc | ((with_reducible apply Blk.ext'); with_reducible assumption) | ((with_reducible apply Blk.but'); (with_reducible assumption); solve | omega | (simp; omega))))) HEK.out) (by have := HSL.out; simp only [List.length_singleton]; unfold maxLen; omega) (by have := HSL.out; simp only [List.length_singleton]; omega) (by first | omega | (simp; omega)) ?_)
            intro v' w8 hown hgrow hnear
            have hX38 : Ext wr _ := HX37.out.alloc (.cells #[.int .i64 a1, .int .i64 a2, .int .i64 a3, .int .i64 a4] 58)
            have h8 := hX38.size
            have HV2 : Hid (OwE w8 w7.heap.size v' (unTo o q (k + 1))) := Lib.hid (by rw [HYE.out]; first | exact hown | (rw [← List.append_assoc]; exact hown))
            have HJ2 : Hid (∀ j, v'.ownBlock = some j → j = w7.heap.size ∨ wc.heap.size ≤ j) := Lib.hid fun j hj => by
              rcases hnear with hn | hn
              · exact HJ.out j (hn ▸ hj)
              · have := hn j hj
                exact .inr (by omega)
            have hS2w := (HSO.out.ext hX38).grown hgrow (fun p hp e => by have := HJ.out _ e.symm; have := HA2.out p hp; omega)
            have hS1w := (HSQ.out.ext hX38).grown hgrow (fun p hp e => by have := HJ.out _ e.symm; have := HA1.out p hp; omega)
            have hs8 := hgrow.size
            have hx8 : Ext w7 w8 := (HX3.out.trans hX38).grown hgrow (fun j hj => (HSH.out.row j hj).1)
            have HX8 := Lib.hid hx8
            have HS2w := Lib.hid hS2w
            have HS1w := Lib.hid hS1w
            have hs28 : wc.heap.size ≤ w8.heap.size := by omega
            clear hown hgrow hnear hX38 h8 hs8 hx8 hS2w hS1w
            go_wp2
            go_roundw
            case rel => exact ⟨k + 1, by omega, by go_num, HV2, HJ2, HS2w, HS1w, hs28, HX8⟩
            case measure => simp [intOf]; omega
        · obtain rfl : k = o.length := by omega
          have HSH2 : Hid (OwE wr w7.heap.size u9 (unTo o q o.length ++ unTo q o 0)) := Lib.hid (by rw [show unTo q o 0 = [] by simp [unTo], List.append_nil]; exact HSH.out)
          have HJ2 := HJ
          clear HSH HJ
          go_wp2
          go_loopw [9, 13] (fun s i wr => ∃ k : Nat, k ≤ q.length ∧ i = .int .i64 k ∧ Hid (OwE wr w7.heap.size s (unTo o q o.length ++ unTo q o k)) ∧ Hid (∀ j, s.ownBlock = some j → j = w7.heap.size ∨ wc.heap.size ≤ j) ∧ Hid (SlAt wr 4 encE A2 o) ∧ Hid (SlAt wr 4 encE A1 q) ∧ wc.heap.size ≤ wr.heap.size ∧ Hid (Ext w7 wr)) (fun _ i _ => q.length - (intOf i).toNat)
          case atStart => exact ⟨0, by omega, rfl, HSH2, HJ2, HSO, HSQ, hs3, HX3⟩
          case round =>
            clear HSO HSQ HSH2 HJ2 HX3 hs3
            obtain ⟨k, hk, rfl, HSH, HJ, HSO, HSQ, hs3, HX3⟩ := hrel
            have hsw : w7.heap.size ≤ wr.heap.size := HX3.out.size
            have hsl : (unTo o q o.length ++ unTo q o k).length ≤ 24 := by
              have h1 := unTo_len q o k
              have h2 := unTo_len o q o.length
              try rw [List.length_append]
              omega
            have HSL := Lib.hid hsl
            clear hsl
            by_cases hlt : k < q.length
            · have hkn : k < q.length := hlt
              obtain ⟨b', off', a1, a2, a3, a4, hAe, hb', he, d0, d1, d2, d3⟩ := HSQ.out.ed hkn
              have HAE := Lib.hid hAe
              subst hAe
              have HE := Lib.hid he
              clear he
              by_cases hh : hasE o a3 a4 a1 a2 = true
              · have hb1 : bk o (q.getD k edD) = true := by rw [show q.getD k edD = ((a1, a2), (a3, a4)) from HE.out]; exact hh
                have HNO := Lib.hid (unTo_no hkn hb1)
                have hcall : ∀ W, SlAt W 4 encE A2 o → Calls Try.prog 80 #[.slice A2 o.length c2, .agg #[.int .i64 a3, .int .i64 a4, .int .i64 a1, .int .i64 a2]] W fun e w' => e = .returned (.bool true) ∧ Ext W w' := fun W h => as_bool (s_l17Has _ _ _ o _ _ _ _ _ h rfl (by omega)) hh
                have HCC := Lib.hid hcall
                clear hb1 hh hcall hkn
                go_wp2
                (refine wp_region_ext (by kernel_rfl) (by kernel_rfl) ?_; (repeat (go_big_quiet_step ((go_at_call 80; exact Calls_ext (HCC.out _ (HSO.out.ext (ExtOf.ext _))))))); refine wpQuiet_nil ?_; intro wq hxwq; obtain ⟨hcwq, hfwq⟩ := hxwq.rules; have hswq := hxwq.size; (try simp at hswq))
                have hx37 : Ext wr wq := by (repeat (first | with_reducible exact Ext.refl _ | with_reducible assumption | ((with_reducible apply Src.ext); with_reducible assumption) | with_reducible refine Ext.alloc ?_ _ | with_reducible refine Ext.drew ?_ | with_reducible refine Ext.drewN ?_ _ | ((with_reducible refine Ext.setCell' ?_ ?_ _); solve | omega | simp | (simp; omega)) | (with_reducible refine Ext.trans ?_ (by with_reducible assumption))))
                go_wp2
                go_roundw
                case rel => exact ⟨k + 1, by omega, by go_num, by rw [HNO.out]; exact Lib.hid (HSH.out.ext hx37), HJ, Lib.hid (HSO.out.ext hx37), Lib.hid (HSQ.out.ext hx37), by omega, Lib.hid (HX3.out.trans hx37)⟩
                case measure => simp [intOf]; omega
              · have hh' : hasE o a3 a4 a1 a2 = false := Bool.eq_false_iff.2 hh
                have hb1 : bk o (q.getD k edD) = false := by rw [show q.getD k edD = ((a1, a2), (a3, a4)) from HE.out]; exact hh'
                have HYE := Lib.hid (unTo_yes hkn hb1)
                obtain ⟨ek, hek⟩ : ∃ ek, ek = q.getD k edD := ⟨_, rfl⟩
                rw [← hek] at HYE
                have HEK : Hid (ek = ((a1, a2), (a3, a4))) := Lib.hid (by rw [hek]; exact HE.out)
                have hcall : ∀ W, SlAt W 4 encE A2 o → Calls Try.prog 80 #[.slice A2 o.length c2, .agg #[.int .i64 a3, .int .i64 a4, .int .i64 a1, .int .i64 a2]] W fun e w' => e = .returned (.bool false) ∧ Ext W w' := fun W h => as_bool (s_l17Has _ _ _ o _ _ _ _ _ h rfl (by omega)) hh'
                have HCC := Lib.hid hcall
                clear hek hb1 hh hh' hcall hkn
                go_wp2
                (refine wp_region_ext (by kernel_rfl) (by kernel_rfl) ?_; (repeat (go_big_quiet_step ((go_at_call 80; exact Calls_ext (HCC.out _ (HSO.out.ext (ExtOf.ext _))))))); refine wpQuiet_nil ?_; intro wq hxwq; obtain ⟨hcwq, hfwq⟩ := hxwq.rules; have hswq := hxwq.size; (try simp at hswq))
                have hx37 : Ext wr wq := by (repeat (first | with_reducible exact Ext.refl _ | with_reducible assumption | ((with_reducible apply Src.ext); with_reducible assumption) | with_reducible refine Ext.alloc ?_ _ | with_reducible refine Ext.drew ?_ | with_reducible refine Ext.drewN ?_ _ | ((with_reducible refine Ext.setCell' ?_ ?_ _); solve | omega | simp | (simp; omega)) | (with_reducible refine Ext.trans ?_ (by with_reducible assumption))))
                have HX37 := Lib.hid hx37
                go_wp2_with (at_builtin; refine wpList_append_near elE len_encE one_encE rfl _ _ rfl rfl (HSH.out.ext (by (repeat (first | with_reducible exact Ext.refl _ | with_reducible assumption | ((with_reducible apply Src.ext); with_reducible assumption) | with_reducible refine Ext.alloc ?_ _ | with_reducible refine Ext.drew ?_ | with_reducible refine Ext.drewN ?_ _ | ((with_reducible refine Ext.setCell' ?_ ?_ _); solve | omega | simp | (simp; omega)) | (with_reducible refine Ext.trans ?_ (by with_reducible assumption)))))) (xs := [ek]) rfl (blk_e1 (by (repeat (first | with_reducible assumption | ((with_reducible apply Blk.new); solve | simp | rfl) | with_reducible apply Blk.drew | with_reducible apply Blk.drewN | ((with_reducible apply Blk.far'); solve | omega | simp | (simp; omega)) | with_reducible apply Blk.set_ | with_reducible apply Blk.alloc | ((with_reducible apply Blk.ext'); with_reducible assumption) | ((with_reducible apply Blk.but'); (with_reducible assumption); solve | omega | (simp; omega))))) HEK.out) (by have := HSL.out; simp only [List.length_singleton]; unfold maxLen; omega) (by have := HSL.out; simp only [List.length_singleton]; omega) (by first | omega | (simp; omega)) ?_)
                intro v' w8 hown hgrow hnear
                have hX38 : Ext wr _ := HX37.out.alloc (.cells #[.int .i64 a1, .int .i64 a2, .int .i64 a3, .int .i64 a4] 58)
                have h8 := hX38.size
                have HV2 : Hid (OwE w8 w7.heap.size v' (unTo o q o.length ++ unTo q o (k + 1))) := Lib.hid (by rw [HYE.out]; first | exact hown | (rw [← List.append_assoc]; exact hown))
                have HJ2 : Hid (∀ j, v'.ownBlock = some j → j = w7.heap.size ∨ wc.heap.size ≤ j) := Lib.hid fun j hj => by
                  rcases hnear with hn | hn
                  · exact HJ.out j (hn ▸ hj)
                  · have := hn j hj
                    exact .inr (by omega)
                have hS2w := (HSO.out.ext hX38).grown hgrow (fun p hp e => by have := HJ.out _ e.symm; have := HA2.out p hp; omega)
                have hS1w := (HSQ.out.ext hX38).grown hgrow (fun p hp e => by have := HJ.out _ e.symm; have := HA1.out p hp; omega)
                have hs8 := hgrow.size
                have hx8 : Ext w7 w8 := (HX3.out.trans hX38).grown hgrow (fun j hj => (HSH.out.row j hj).1)
                have HX8 := Lib.hid hx8
                have HS2w := Lib.hid hS2w
                have HS1w := Lib.hid hS1w
                have hs28 : wc.heap.size ≤ w8.heap.size := by omega
                clear hown hgrow hnear hX38 h8 hs8 hx8 hS2w hS1w
                go_wp2
                go_roundw
                case rel => exact ⟨k + 1, by omega, by go_num, HV2, HJ2, HS2w, HS1w, hs28, HX8⟩
                case measure => simp [intOf]; omega
            · obtain rfl : k = q.length := by omega
              have HSE : Hid (OwE wr w7.heap.size u9 (mgE pa pb)) := Lib.hid (by rw [HUN.out]; exact HSH.out)
              obtain ⟨n9, hn9⟩ : ∃ n9, n9 = (mgE pa pb).length := ⟨_, rfl⟩
              obtain ⟨A9, c9, hv9, hS9, _, _, _⟩ := HSE.out.sl len_encE
              rw [← hn9] at hv9
              subst hv9
              have hl9 : n9 ≤ 24 := by rw [hn9]; exact HMA.out
              have HR9 := Lib.hid fun W hW => s_l17Ring A9 n9 c9 (mgE pa pb) W (hS9.ext hW) hn9 hl9
              have HXW := Lib.hid (HX17.out.trans HX3.out)
              clear hS9 hn9 HSE HSH HSO HSQ hlt
              cases hmb : mgB (mgE pa pb) with
              | false =>
                have HM := Lib.hid (HP4.out HNE.out hmb)
                rw [hmb] at HR9
                clear hmb
                go_wp2_with fail
                refine (HR9.out _ (by (repeat (first | with_reducible exact Ext.refl _ | with_reducible assumption | ((with_reducible apply Src.ext); with_reducible assumption) | with_reducible refine Ext.alloc ?_ _ | with_reducible refine Ext.drew ?_ | with_reducible refine Ext.drewN ?_ _ | ((with_reducible refine Ext.setCell' ?_ ?_ _); solve | omega | simp | (simp; omega)) | (with_reducible refine Ext.trans ?_ (by with_reducible assumption)))))).mono ?_
                rintro e w10 ⟨v10, rfl, hO10, hx10⟩
                obtain ⟨A10, c10, rfl, _, _, _, _⟩ := hO10.sl len_encP
                clear hO10
                go_wp2
                go_ret2
                exact ⟨_, by rw [HM.out.1]; rfl, by rw [HM.out.2]; exact Own.nil _ _, HX01.out.trans (HXW.out.trans (by (repeat (first | with_reducible exact Ext.refl _ | with_reducible assumption | ((with_reducible apply Src.ext); with_reducible assumption) | with_reducible refine Ext.alloc ?_ _ | with_reducible refine Ext.drew ?_ | with_reducible refine Ext.drewN ?_ _ | ((with_reducible refine Ext.setCell' ?_ ?_ _); solve | omega | simp | (simp; omega)) | (with_reducible refine Ext.trans ?_ (by with_reducible assumption))))))⟩
              | true =>
                have HM := Lib.hid (HP0.out HNE.out hmb)
                rw [hmb] at HR9
                clear hmb
                go_wp2_with fail
                refine (HR9.out _ (by (repeat (first | with_reducible exact Ext.refl _ | with_reducible assumption | ((with_reducible apply Src.ext); with_reducible assumption) | with_reducible refine Ext.alloc ?_ _ | with_reducible refine Ext.drew ?_ | with_reducible refine Ext.drewN ?_ _ | ((with_reducible refine Ext.setCell' ?_ ?_ _); solve | omega | simp | (simp; omega)) | (with_reducible refine Ext.trans ?_ (by with_reducible assumption)))))).mono ?_
                rintro e w10 ⟨v10, rfl, hO10, hx10⟩
                have HO10 := Lib.hid hO10
                have HX10 : Hid (Ext wr w10) := Lib.hid (by (repeat (first | with_reducible exact Ext.refl _ | with_reducible assumption | ((with_reducible apply Src.ext); with_reducible assumption) | with_reducible refine Ext.alloc ?_ _ | with_reducible refine Ext.drew ?_ | with_reducible refine Ext.drewN ?_ _ | ((with_reducible refine Ext.setCell' ?_ ?_ _); solve | omega | simp | (simp; omega)) | (with_reducible refine Ext.trans ?_ (by with_reducible assumption)))))
                clear hO10
                go_wp2
                go_ret2
                exact ⟨_, by rw [HM.out.1]; rfl, by rw [HM.out.2]; exact HO10.out.less (by have h1 := HX01.out.size; have h2 := HXW.out.size; omega), HX01.out.trans (HXW.out.trans HX10.out)⟩
  · have hCC : maC (psOf rs) a b = abC (psOf rs) a b := by unfold maC; rw [if_neg hz]
    have hPN : maP (psOf rs) a b = [] := maP_no (by rw [hCC]; exact hz)
    obtain ⟨z, hze⟩ : ∃ z, z = abC (psOf rs) a b := ⟨_, rfl⟩
    rw [hPN, hCC, ← hze]
    rw [← hze] at hz
    have HZ : Hid (arC (psOf rs) [a, b] = z) := Lib.hid hze.symm
    have hzz : (z != 0) = true := by simpa using hz
    have hzq : (z == 0) = false := by simpa using hz
    clear hze hCC hPN
    go_enter Try.func26, Try.ntmps26
    go_wp2_with fail
    refine (s_l17Code _ _ rs a b _ (h.ext (by (repeat (first | with_reducible exact Ext.refl _ | with_reducible assumption | ((with_reducible apply Src.ext); with_reducible assumption) | with_reducible refine Ext.alloc ?_ _ | with_reducible refine Ext.drew ?_ | with_reducible refine Ext.drewN ?_ _ | ((with_reducible refine Ext.setCell' ?_ ?_ _); solve | omega | simp | (simp; omega)) | (with_reducible refine Ext.trans ?_ (by with_reducible assumption)))))) (hr.ext (by (repeat (first | with_reducible exact Ext.refl _ | with_reducible assumption | ((with_reducible apply Src.ext); with_reducible assumption) | with_reducible refine Ext.alloc ?_ _ | with_reducible refine Ext.drew ?_ | with_reducible refine Ext.drewN ?_ _ | ((with_reducible refine Ext.setCell' ?_ ?_ _); solve | omega | simp | (simp; omega)) | (with_reducible refine Ext.trans ?_ (by with_reducible assumption)))))) hl).mono ?_
    rintro e w1 ⟨rfl, hx1⟩
    rw [HZ.out]
    go_wp2
    (refine wp_region_ext (by kernel_rfl) (by kernel_rfl) ?_; (repeat (go_big_quiet_step (fail))); refine wpQuiet_nil ?_; intro wq hxwq; obtain ⟨hcwq, hfwq⟩ := hxwq.rules; have hswq := hxwq.size; (try simp at hswq))
    go_wp2
    go_ret2
    exact ⟨_, rfl, Own.nil _ _, by (repeat (first | with_reducible exact Ext.refl _ | with_reducible assumption | ((with_reducible apply Src.ext); with_reducible assumption) | with_reducible refine Ext.alloc ?_ _ | with_reducible refine Ext.drew ?_ | with_reducible refine Ext.drewN ?_ _ | ((with_reducible refine Ext.setCell' ?_ ?_ _); solve | omega | simp | (simp; omega)) | (with_reducible refine Ext.trans ?_ (by with_reducible assumption))))⟩

end Go.Proofs.Yteppjdoggjcdoaa
