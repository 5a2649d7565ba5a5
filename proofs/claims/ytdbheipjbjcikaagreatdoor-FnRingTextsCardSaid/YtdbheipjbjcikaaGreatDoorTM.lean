/- Contracts of rings read, walked over the translation. -/
import Derived.Test.YtdbheipjbjcikaaGreatDoorTL
import Derived.Test.YtdbheipjbjcikaaGreatDoorND
import Derived.Deep.RegionHeld3
import Derived.Deep.DeepCutAuto
import Derived.RegionTactic
import Derived.BigRegion
import Derived.WalkLawsBesides
import Derived.WalkSpells
import Derived.Lib.MinMax
import Derived.Outline
namespace Go.Proofs.YtdbheipjbjcikaaGreatDoor
open Go.RowKit
attribute [local go_sem] ExtOf.cell ExtOf.frozen

open Go.PlainAid
theorem blk_p1 {w : World} {g : Nat} {t : TypeId} {x z : Int} (h : Blk w g t #[.int .i64 x, .int .i64 z]) : SlAt w 2 encP (some ⟨g, 0, none⟩) [(x, z)] := h.sl rfl len_encP
/-- the points that words spell -/
noncomputable def rrPs (L : List (List UInt8)) : List (Int × Int) := L.map fun x => (rdP x).getD (0, 0)
noncomputable def rrOk (L : List (List UInt8)) : Bool := L.all fun x => (rdP x).isSome
theorem rrPs_len (L : List (List UInt8)) : (rrPs L).length = L.length := by simp [rrPs]
theorem rrPs_succ {L : List (List UInt8)} {k : Nat} (hk : k < L.length) {x z : Int} (h : rdP (L.getD k []) = some (x, z)) : rrPs (L.take (k + 1)) = rrPs (L.take k) ++ [(x, z)] := by
  have e : L.getD k [] = L[k] := by simp [List.getD, hk]
  unfold rrPs
  rw [List.take_succ_eq_append_getElem hk, List.map_append, ← e, List.map_singleton, h]
  rfl
theorem sp_weight (c : UInt8) : ∀ l : List UInt8, ((sp c l).map (·.length + 1)).sum = l.length + 1
  | [] => rfl
  | b :: l => by
    have ih := sp_weight c l
    rw [sp]
    split
    · simp only [List.map_cons, List.sum_cons, List.length_nil, List.length_cons, ih]; omega
    · rcases hs : sp c l with _ | ⟨x, r⟩
      · exact absurd hs (sp_ne c l)
      · rw [hs] at ih
        simp only [List.map_cons, List.sum_cons, List.length_cons] at ih ⊢
        omega
theorem itoa_pos (n : Int) : 1 ≤ (Lib.itoa n).length := by
  by_cases h : n < 0
  · rw [itoa_neg h]; simp
  · rw [itoa_nat h]; exact Nat.one_le_iff_ne_zero.2 (fun e => dec_ne _ (List.eq_nil_of_length_eq_zero e))
theorem word_len {x : List UInt8} (h : (rdP x).isSome = true) : 3 ≤ x.length := by
  rcases hr : rdP x with _ | ⟨a, b⟩
  · rw [hr] at h; cases h
  · have e := (rdP_some hr).2
    rw [e]
    unfold ptT
    have h1 := itoa_pos a
    have h2 := itoa_pos b
    rw [List.length_append, List.length_cons]
    omega
theorem rr_few : ∀ {L : List (List UInt8)}, (∀ x ∈ L, (rdP x).isSome = true) → 4 * L.length ≤ (L.map (·.length + 1)).sum
  | [], _ => by simp
  | x :: L, h => by
    have h1 := word_len (h x (List.mem_cons_self ..))
    have h2 := rr_few (L := L) fun y hy => h y (List.mem_cons_of_mem _ hy)
    simp only [List.length_cons, List.map_cons, List.sum_cons]
    omega
theorem rr_small {l : List UInt8} (h : rrOk (sp 32 l) = true) (hl : l.length ≤ 1048576) : (sp 32 l).length ≤ 262145 := by
  have := rr_few (L := sp 32 l) (fun x hx => List.all_eq_true.1 h x hx)
  rw [sp_weight] at this
  omega
theorem rrOk_all {L : List (List UInt8)} (h : ∀ j, j < L.length → (rdP (L.getD j [])).isSome = true) : rrOk L = true := by
  refine List.all_eq_true.2 fun x hx => ?_
  obtain ⟨j, hj, rfl⟩ := List.mem_iff_getElem.1 hx
  have := h j hj
  rwa [show L.getD j [] = L[j] by simp [List.getD, hj]] at this
theorem rrOk_no {L : List (List UInt8)} {j : Nat} (hj : j < L.length) (h : rdP (L.getD j []) = none) : rrOk L = false := by
  refine List.all_eq_false.2 ⟨L[j], List.getElem_mem hj, ?_⟩
  rw [show L.getD j [] = L[j] by simp [List.getD, hj]] at h
  rw [h]
  simp
/-- what ReadRing returns -/
noncomputable def rrL (l : List UInt8) : List (Int × Int) := if rrOk (sp 32 l) = true ∧ ringB (rrPs (sp 32 l)) = true then rrPs (sp 32 l) else []
noncomputable def rrC (l : List UInt8) : Int := if rrOk (sp 32 l) = true ∧ ringB (rrPs (sp 32 l)) = true then 0 else 6
theorem rr_yes {l : List UInt8} (h : rrOk (sp 32 l) = true) (h2 : ringB (rrPs (sp 32 l)) = true) : rrL l = rrPs (sp 32 l) ∧ rrC l = 0 := by unfold rrL rrC; rw [if_pos ⟨h, h2⟩, if_pos ⟨h, h2⟩]; exact ⟨rfl, rfl⟩
theorem rr_no {l : List UInt8} (h : ¬ (rrOk (sp 32 l) = true ∧ ringB (rrPs (sp 32 l)) = true)) : rrL l = [] ∧ rrC l = 6 := by unfold rrL rrC; rw [if_neg h, if_neg h]; exact ⟨rfl, rfl⟩
theorem rrL_len {l : List UInt8} (hl : l.length ≤ 1048576) : (rrL l).length ≤ 262145 := by
  unfold rrL
  split
  · rename_i h
    rw [rrPs_len]
    exact rr_small h.1 hl
  · simp
set_option maxRecDepth 20000 in
set_option maxHeartbeats 6400000 in
theorem s_ReadRing (s : ByteArray) (w : World) (hs : s.size ≤ 1048576) :
    Calls Tryz.prog 21 #[.string s] w fun e w' => ∃ v, e = .returned (.tuple #[v, .int .i64 (rrC s.data.toList)]) ∧ OwP w' w.heap.size v (rrL s.data.toList) ∧ Ext w w' := by
  have hsz := size_list s
  have HS := Lib.hid (s_l01Split s 32 w hs)
  have hg := fun k => sp_getD 32 s.data.toList k
  have hq := sp_len_le 32 s.data.toList
  have HSM := Lib.hid fun h => rr_small (l := s.data.toList) h (by omega)
  have HY := Lib.hid fun h h2 => rr_yes (l := s.data.toList) h h2
  have HNO := Lib.hid fun h => rr_no (l := s.data.toList) h
  generalize rrL s.data.toList = R at *
  generalize rrC s.data.toList = C at *
  obtain ⟨L, hL⟩ : ∃ L, L = sp 32 s.data.toList := ⟨_, rfl⟩
  rw [← hL] at HS hg hq HSM HY HNO
  obtain ⟨n, hn⟩ : ∃ n, n = L.length := ⟨_, rfl⟩
  rw [← hn] at hq
  have hn1 : n ≤ 1048577 := by omega
  have HG : Hid (∀ k, (L.getD k []).length ≤ 1048576) := Lib.hid fun k => by have := hg k; omega
  have HN := Lib.hid hn
  clear hL hn hg hq hsz
  go_enter Tryz.func21, Tryz.ntmps21
  go_wp2_with fail
  refine HS.out.mono ?_
  rintro e w1 ⟨v, rfl, hO, hx1⟩
  obtain ⟨A, c', rfl, hS1, _, _, _⟩ := hO.sl len_encS
  rw [← HN.out]
  clear hO
  have hs1 := hx1.size
  have HV0 := Lib.hid (World.ownsRow_made (base := w1.heap.size) (e := 70) (size := 2) w1 #[] 0 (Nat.le_refl _) (Nat.zero_le _) rfl : OwP _ w1.heap.size _ (rrPs (L.take 0)))
  go_wp2
  go_loopw [5, 6] (fun v i wr => ∃ k : Nat, k ≤ n ∧ i = .int .i64 k ∧ Hid (OwP wr w1.heap.size v (rrPs (L.take k))) ∧ Hid (∀ j, j < k → (rdP (L.getD j [])).isSome = true) ∧ Ext w1 wr) (fun _ i _ => n - (intOf i).toNat)
  case atStart => exact ⟨0, by omega, rfl, HV0, fun j hj => absurd hj (by omega), by (repeat (first | with_reducible exact Ext.refl _ | with_reducible assumption | ((with_reducible apply Src.ext); with_reducible assumption) | with_reducible refine Ext.alloc ?_ _ | with_reducible refine Ext.drew ?_ | with_reducible refine Ext.drewN ?_ _ | ((with_reducible refine Ext.setCell' ?_ ?_ _); solve | omega | simp | (simp; omega)) | (with_reducible refine Ext.trans ?_ (by with_reducible assumption))))⟩
  case round =>
    obtain ⟨k, hk, rfl, HV, HJ, hxr⟩ := hrel
    have hsr := hxr.size
    by_cases hlt : k < n
    · have hkn : k < L.length := by rw [← HN.out]; exact hlt
      obtain ⟨b, off, rfl, hb, d0⟩ := (hS1.ext hxr).st hkn
      have hk1 := HG.out k
      have HRS := Lib.hid fun x z => @rrPs_succ L k hkn x z
      have HRN := Lib.hid fun h => @rrOk_no L k hkn h
      have hlen : (rrPs (L.take k)).length = k := by rw [rrPs_len, List.length_take]; omega
      have HLN := Lib.hid hlen
      clear hlen
      obtain ⟨x, hx⟩ : ∃ x, x = L.getD k [] := ⟨_, rfl⟩
      rw [← hx] at d0 hk1 HRS HRN
      have HX := Lib.hid hx
      have htx : (tx x).size ≤ 1048576 := by rw [tx_size]; omega
      clear hx hk1
      rcases hr : rdP x with _ | ⟨px, pz⟩
      · have HR := Lib.hid fun W => s_ReadPoint_no (t := tx x) (by rw [tx_list]; exact hr) htx W
        obtain ⟨rfl, rfl⟩ := HNO.out (fun h => by rw [HRN.out hr] at h; exact Bool.noConfusion h.1)
        clear hr htx HY HSM HNO
        (go_wp2_with fail; refine (HR.out _).mono ?_; rintro e w2 ⟨rfl, hx2⟩; obtain ⟨hc2, hf2⟩ := hx2.rules; have hs2 := hx2.size; (try simp at hs2))
        go_wp2
        go_ret2
        exact ⟨_, rfl, Own.nil _ _, hx1.trans (hxr.trans (by (repeat (first | with_reducible exact Ext.refl _ | with_reducible assumption | ((with_reducible apply Src.ext); with_reducible assumption) | with_reducible refine Ext.alloc ?_ _ | with_reducible refine Ext.drew ?_ | with_reducible refine Ext.drewN ?_ _ | ((with_reducible refine Ext.setCell' ?_ ?_ _); solve | omega | simp | (simp; omega)) | (with_reducible refine Ext.trans ?_ (by with_reducible assumption))))))⟩
      · have HR := Lib.hid fun W => s_ReadPoint_yes (t := tx x) (by rw [tx_list]; exact hr) htx W
        have HRR := Lib.hid (HRS.out px pz hr)
        have HJ2 : Hid (∀ j, j < k + 1 → (rdP (L.getD j [])).isSome = true) := Lib.hid (fun j hj => by
          rcases Nat.lt_or_ge j k with e | e
          · exact HJ.out j e
          · obtain rfl : j = k := by omega
            rw [← HX.out, hr]; rfl)
        clear hr htx
        (go_wp2_with fail; refine (HR.out _).mono ?_; rintro e w2 ⟨rfl, hx2⟩; obtain ⟨hc2, hf2⟩ := hx2.rules; have hs2 := hx2.size; (try simp at hs2))
        go_wp2_with (at_builtin; refine wpList_append_sl elP len_encP one_encP rfl _ _ rfl rfl (HV.out.ext (by (repeat (first | with_reducible exact Ext.refl _ | with_reducible assumption | ((with_reducible apply Src.ext); with_reducible assumption) | with_reducible refine Ext.alloc ?_ _ | with_reducible refine Ext.drew ?_ | with_reducible refine Ext.drewN ?_ _ | ((with_reducible refine Ext.setCell' ?_ ?_ _); solve | omega | simp | (simp; omega)) | (with_reducible refine Ext.trans ?_ (by with_reducible assumption)))))) (xs := [(px, pz)]) rfl (blk_p1 (by (repeat (first | with_reducible assumption | ((with_reducible apply Blk.new); solve | simp | rfl) | with_reducible apply Blk.drew | with_reducible apply Blk.drewN | ((with_reducible apply Blk.far'); solve | omega | simp | (simp; omega)) | with_reducible apply Blk.set_ | with_reducible apply Blk.alloc | ((with_reducible apply Blk.ext'); with_reducible assumption) | ((with_reducible apply Blk.but'); (with_reducible assumption); solve | omega | (simp; omega)))))) (by rw [HLN.out]; simp; unfold maxLen; omega) (by rw [HLN.out]; simp; omega) (by first | omega | (simp; omega)) ?_)
        intro v' w5 hown hgrow _
        rw [← HRR.out] at hown
        have HV2 := Lib.hid hown
        have hx5 : Ext w1 w5 := by
          refine Ext.grown ?_ hgrow (fun q hq => (HV.out.row q hq).1)
          (repeat (first | with_reducible exact Ext.refl _ | with_reducible assumption | ((with_reducible apply Src.ext); with_reducible assumption) | with_reducible refine Ext.alloc ?_ _ | with_reducible refine Ext.drew ?_ | with_reducible refine Ext.drewN ?_ _ | ((with_reducible refine Ext.setCell' ?_ ?_ _); solve | omega | simp | (simp; omega)) | (with_reducible refine Ext.trans ?_ (by with_reducible assumption))))
        clear hown hgrow
        go_wp2
        go_roundw
        case rel => exact ⟨k + 1, by omega, by go_num, HV2, HJ2, hx5⟩
        case measure => simp [intOf]; omega
    · obtain rfl : k = n := by omega
      have hOK : rrOk L = true := rrOk_all fun j hj => HJ.out j (by rw [HN.out]; exact hj)
      have hT : L.take k = L := List.take_of_length_le (by rw [← HN.out]; exact Nat.le_refl _)
      rw [hT] at HV
      have hsm := HSM.out hOK
      have hlr := rrPs_len L
      obtain ⟨A2, c2, hv, hS2, _, _, _⟩ := HV.out.sl len_encP
      subst hv
      have HLR := Lib.hid (hlr.trans HN.out.symm)
      have HIS := Lib.hid fun W h => s_IsRing A2 c2 (rrPs L) W h (by rw [hlr]; omega)
      by_cases hr : ringB (rrPs L) = true
      · obtain ⟨rfl, rfl⟩ := HY.out hOK hr
        have HI : Hid (∀ W, SlAt W 2 encP A2 (rrPs L) → Calls Tryz.prog 66 #[.slice A2 (rrPs L).length c2] W fun e w' => e = .returned (.bool true) ∧ Ext W w') := Lib.hid fun W h => as_bool (HIS.out W h) hr
        rw [HLR.out] at HI ⊢
        rw [HLR.out] at HV
        clear HIS hr hOK hT hsm hlr HY HNO HSM
        (go_wp2_with fail; refine (HI.out _ (hS2.ext (by (repeat (first | with_reducible exact Ext.refl _ | with_reducible assumption | ((with_reducible apply Src.ext); with_reducible assumption) | with_reducible refine Ext.alloc ?_ _ | with_reducible refine Ext.drew ?_ | with_reducible refine Ext.drewN ?_ _ | ((with_reducible refine Ext.setCell' ?_ ?_ _); solve | omega | simp | (simp; omega)) | (with_reducible refine Ext.trans ?_ (by with_reducible assumption))))))).mono ?_; rintro e w2 ⟨rfl, hx2⟩; obtain ⟨hc2, hf2⟩ := hx2.rules; have hs2 := hx2.size; (try simp at hs2))
        go_wp2
        go_ret2
        exact ⟨_, rfl, (HV.out.ext hx2).less hs1, hx1.trans (hxr.trans hx2)⟩
      · obtain ⟨rfl, rfl⟩ := HNO.out (fun h => hr h.2)
        have HI : Hid (∀ W, SlAt W 2 encP A2 (rrPs L) → Calls Tryz.prog 66 #[.slice A2 (rrPs L).length c2] W fun e w' => e = .returned (.bool false) ∧ Ext W w') := Lib.hid fun W h => as_bool (HIS.out W h) (Bool.eq_false_iff.2 hr)
        rw [HLR.out] at HI ⊢
        clear HIS hr hOK hT hsm hlr HY HNO HSM
        (go_wp2_with fail; refine (HI.out _ (hS2.ext (by (repeat (first | with_reducible exact Ext.refl _ | with_reducible assumption | ((with_reducible apply Src.ext); with_reducible assumption) | with_reducible refine Ext.alloc ?_ _ | with_reducible refine Ext.drew ?_ | with_reducible refine Ext.drewN ?_ _ | ((with_reducible refine Ext.setCell' ?_ ?_ _); solve | omega | simp | (simp; omega)) | (with_reducible refine Ext.trans ?_ (by with_reducible assumption))))))).mono ?_; rintro e w2 ⟨rfl, hx2⟩; obtain ⟨hc2, hf2⟩ := hx2.rules; have hs2 := hx2.size; (try simp at hs2))
        go_wp2
        go_ret2
        exact ⟨_, rfl, Own.nil _ _, hx1.trans (hxr.trans hx2)⟩
set_option maxRecDepth 20000 in
set_option maxHeartbeats 6400000 in
theorem i_ReadRing (s : ByteArray) (w : World) (hs : s.size ≤ 1048576) (hL : Ld w) :
    Calls Tryz.prog 20 #[.string s] w fun e w' => ∃ v, e = .returned (.tuple #[v, .int .i64 (rrC s.data.toList)]) ∧ OwP w' w.heap.size v (rrL s.data.toList) ∧ Ext w w' := by
  have hsz := size_list s
  have HT := Lib.hid hL
  have HS := Lib.hid (i_Split s 32 w hs hL.mx)
  clear hL
  have hg := fun k => sp_getD 32 s.data.toList k
  have hq := sp_len_le 32 s.data.toList
  have HSM := Lib.hid fun h => rr_small (l := s.data.toList) h (by omega)
  have HY := Lib.hid fun h h2 => rr_yes (l := s.data.toList) h h2
  have HNO := Lib.hid fun h => rr_no (l := s.data.toList) h
  generalize rrL s.data.toList = R at *
  generalize rrC s.data.toList = C at *
  obtain ⟨L, hL⟩ : ∃ L, L = sp 32 s.data.toList := ⟨_, rfl⟩
  rw [← hL] at HS hg hq HSM HY HNO
  obtain ⟨n, hn⟩ : ∃ n, n = L.length := ⟨_, rfl⟩
  rw [← hn] at hq
  have hn1 : n ≤ 1048577 := by omega
  have HG : Hid (∀ k, (L.getD k []).length ≤ 1048576) := Lib.hid fun k => by have := hg k; omega
  have HN := Lib.hid hn
  clear hL hn hg hq hsz
  go_enter Tryz.func20, Tryz.ntmps20
  go_wp2_with fail
  refine HS.out.mono ?_
  rintro e w1 ⟨g0, c', rfl, hS1, _, _, hx1⟩
  rw [← HN.out]
  have hs1 := hx1.size
  have HV0 := Lib.hid (Own.nil w1 w1.heap.size : OwP w1 w1.heap.size (.slice none 0 0) (rrPs (L.take 0)))
  go_wp2
  go_loopw [4, 12] (fun v i wr => ∃ k : Nat, k ≤ n ∧ i = .int .i64 k ∧ Hid (OwP wr w1.heap.size v (rrPs (L.take k))) ∧ Hid (∀ j, j < k → (rdP (L.getD j [])).isSome = true) ∧ Ext w1 wr) (fun _ i _ => n - (intOf i).toNat)
  case atStart => exact ⟨0, by omega, rfl, HV0, fun j hj => absurd hj (by omega), by (repeat (first | with_reducible exact Ext.refl _ | with_reducible assumption | ((with_reducible apply Src.ext); with_reducible assumption) | with_reducible refine Ext.alloc ?_ _ | with_reducible refine Ext.drew ?_ | with_reducible refine Ext.drewN ?_ _ | ((with_reducible refine Ext.setCell' ?_ ?_ _); solve | omega | simp | (simp; omega)) | (with_reducible refine Ext.trans ?_ (by with_reducible assumption))))⟩
  case round =>
    obtain ⟨k, hk, rfl, HV, HJ, hxr⟩ := hrel
    have hsr := hxr.size
    by_cases hlt : k < n
    · have hkn : k < L.length := by rw [← HN.out]; exact hlt
      have d0 := SlAt.st' (hS1.ext hxr) hkn
      have hb := World.block_lt_of_cell? _ _ d0
      simp only [Nat.zero_add] at d0
      have hk1 := HG.out k
      have HRS := Lib.hid fun x z => @rrPs_succ L k hkn x z
      have HRN := Lib.hid fun h => @rrOk_no L k hkn h
      have hlen : (rrPs (L.take k)).length = k := by rw [rrPs_len, List.length_take]; omega
      have HLN := Lib.hid hlen
      clear hlen
      obtain ⟨x, hx⟩ : ∃ x, x = L.getD k [] := ⟨_, rfl⟩
      rw [← hx] at d0 hk1 HRS HRN
      have HX := Lib.hid hx
      have htx : (tx x).size ≤ 1048576 := by rw [tx_size]; omega
      clear hx hk1
      have HRP := Lib.hid fun W hW => i_readPoint (tx x) W htx hW
      rw [tx_list] at HRP
      clear htx
      go_wp2_with fail
      refine (HRP.out _ (HT.out.ext (hx1.trans hxr))).mono ?_
      rintro e w2 ⟨⟨px, pz, pb, rfl, hy, hn⟩, hx2⟩
      obtain ⟨hc2, hf2⟩ := hx2.rules
      have hs2 := hx2.size
      (try simp at hs2)
      cases pb with
      | false =>
        have hr := hn rfl
        obtain ⟨rfl, rfl⟩ := HNO.out (fun h => by rw [HRN.out hr] at h; exact Bool.noConfusion h.1)
        clear hr hy hn HY HSM HNO HRP
        go_wp2
        go_ret2
        exact ⟨_, rfl, Own.nil _ _, hx1.trans (hxr.trans (by (repeat (first | with_reducible exact Ext.refl _ | with_reducible assumption | ((with_reducible apply Src.ext); with_reducible assumption) | with_reducible refine Ext.alloc ?_ _ | with_reducible refine Ext.drew ?_ | with_reducible refine Ext.drewN ?_ _ | ((with_reducible refine Ext.setCell' ?_ ?_ _); solve | omega | simp | (simp; omega)) | (with_reducible refine Ext.trans ?_ (by with_reducible assumption))))))⟩
      | true =>
        have hr := hy rfl
        have HRR := Lib.hid (HRS.out px pz hr)
        have HJ2 : Hid (∀ j, j < k + 1 → (rdP (L.getD j [])).isSome = true) := Lib.hid (fun j hj => by
          rcases Nat.lt_or_ge j k with e | e
          · exact HJ.out j e
          · obtain rfl : j = k := by omega
            rw [← HX.out, hr]; rfl)
        clear hr hy hn HRP
        go_wp2_with (at_builtin; refine wpList_append_sl elP len_encP one_encP rfl _ _ rfl rfl (HV.out.ext (by (repeat (first | with_reducible exact Ext.refl _ | with_reducible assumption | ((with_reducible apply Src.ext); with_reducible assumption) | with_reducible refine Ext.alloc ?_ _ | with_reducible refine Ext.drew ?_ | with_reducible refine Ext.drewN ?_ _ | ((with_reducible refine Ext.setCell' ?_ ?_ _); solve | omega | simp | (simp; omega)) | (with_reducible refine Ext.trans ?_ (by with_reducible assumption)))))) (xs := [(px, pz)]) rfl (blk_p1 (by (repeat (first | with_reducible assumption | ((with_reducible apply Blk.new); solve | simp | rfl) | with_reducible apply Blk.drew | with_reducible apply Blk.drewN | ((with_reducible apply Blk.far'); solve | omega | simp | (simp; omega)) | with_reducible apply Blk.set_ | with_reducible apply Blk.alloc | ((with_reducible apply Blk.ext'); with_reducible assumption) | ((with_reducible apply Blk.but'); (with_reducible assumption); solve | omega | (simp; omega)))))) (by rw [HLN.out]; simp; unfold maxLen; omega) (by rw [HLN.out]; simp; omega) (by first | omega | (simp; omega)) ?_)
        intro v' w5 hown hgrow _
        rw [← HRR.out] at hown
        have HV2 := Lib.hid hown
        have hx5 : Ext w1 w5 := by
          refine Ext.grown ?_ hgrow (fun q hq => (HV.out.row q hq).1)
          (repeat (first | with_reducible exact Ext.refl _ | with_reducible assumption | ((with_reducible apply Src.ext); with_reducible assumption) | with_reducible refine Ext.alloc ?_ _ | with_reducible refine Ext.drew ?_ | with_reducible refine Ext.drewN ?_ _ | ((with_reducible refine Ext.setCell' ?_ ?_ _); solve | omega | simp | (simp; omega)) | (with_reducible refine Ext.trans ?_ (by with_reducible assumption))))
        clear hown hgrow
        go_wp2
        go_roundw
        case rel => exact ⟨k + 1, by omega, by go_num, HV2, HJ2, hx5⟩
        case measure => simp [intOf]; omega
    · obtain rfl : k = n := by omega
      have hOK : rrOk L = true := rrOk_all fun j hj => HJ.out j (by rw [HN.out]; exact hj)
      have hT : L.take k = L := List.take_of_length_le (by rw [← HN.out]; exact Nat.le_refl _)
      rw [hT] at HV
      have hsm := HSM.out hOK
      have hlr := rrPs_len L
      obtain ⟨A2, c2, hv, hS2, hcap, _, _⟩ := HV.out.sl len_encP
      subst hv
      have HLR := Lib.hid (hlr.trans HN.out.symm)
      have HIS := Lib.hid fun W h => i_IsRing A2 c2 (rrPs L) W h (by rw [hlr]; omega) hcap
      by_cases hr : ringB (rrPs L) = true
      · obtain ⟨rfl, rfl⟩ := HY.out hOK hr
        have HI : Hid (∀ W, SlAt W 2 encP A2 (rrPs L) → Calls Tryz.prog 23 #[.slice A2 (rrPs L).length c2] W fun e w' => e = .returned (.bool true) ∧ Ext W w') := Lib.hid fun W h => as_bool (HIS.out W h) hr
        rw [HLR.out] at HI ⊢
        rw [HLR.out] at HV
        clear HIS hr hOK hT hsm hlr hcap HY HNO HSM
        (go_wp2_with fail; refine (HI.out _ (hS2.ext (by (repeat (first | with_reducible exact Ext.refl _ | with_reducible assumption | ((with_reducible apply Src.ext); with_reducible assumption) | with_reducible refine Ext.alloc ?_ _ | with_reducible refine Ext.drew ?_ | with_reducible refine Ext.drewN ?_ _ | ((with_reducible refine Ext.setCell' ?_ ?_ _); solve | omega | simp | (simp; omega)) | (with_reducible refine Ext.trans ?_ (by with_reducible assumption))))))).mono ?_; rintro e w2 ⟨rfl, hx2⟩; obtain ⟨hc2, hf2⟩ := hx2.rules; have hs2 := hx2.size; (try simp at hs2))
        go_wp2
        go_ret2
        exact ⟨_, rfl, (HV.out.ext hx2).less hs1, hx1.trans (hxr.trans hx2)⟩
      · obtain ⟨rfl, rfl⟩ := HNO.out (fun h => hr h.2)
        have HI : Hid (∀ W, SlAt W 2 encP A2 (rrPs L) → Calls Tryz.prog 23 #[.slice A2 (rrPs L).length c2] W fun e w' => e = .returned (.bool false) ∧ Ext W w') := Lib.hid fun W h => as_bool (HIS.out W h) (Bool.eq_false_iff.2 hr)
        rw [HLR.out] at HI ⊢
        clear HIS hr hOK hT hsm hlr hcap HY HNO HSM
        (go_wp2_with fail; refine (HI.out _ (hS2.ext (by (repeat (first | with_reducible exact Ext.refl _ | with_reducible assumption | ((with_reducible apply Src.ext); with_reducible assumption) | with_reducible refine Ext.alloc ?_ _ | with_reducible refine Ext.drew ?_ | with_reducible refine Ext.drewN ?_ _ | ((with_reducible refine Ext.setCell' ?_ ?_ _); solve | omega | simp | (simp; omega)) | (with_reducible refine Ext.trans ?_ (by with_reducible assumption))))))).mono ?_; rintro e w2 ⟨rfl, hx2⟩; obtain ⟨hc2, hf2⟩ := hx2.rules; have hs2 := hx2.size; (try simp at hs2))
        go_wp2
        go_ret2
        exact ⟨_, rfl, Own.nil _ _, hx1.trans (hxr.trans hx2)⟩

end Go.Proofs.YtdbheipjbjcikaaGreatDoor
