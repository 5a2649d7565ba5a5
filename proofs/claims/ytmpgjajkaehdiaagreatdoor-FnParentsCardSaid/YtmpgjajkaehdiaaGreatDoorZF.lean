/- Children of a place and what lies inside it, as the specification tells them. -/
import Derived.Test.YtmpgjajkaehdiaaGreatDoorZE
import Derived.Test.YtmpgjajkaehdiaaGreatDoorZT
import Derived.Deep.RegionHeld3
import Derived.Deep.DeepCutAuto
import Derived.RegionTactic
import Derived.BigRegion
import Derived.WalkLawsBesides
import Derived.WalkSpells
import Derived.Lib.MinMax
import Derived.Outline
namespace Go.Proofs.YtmpgjajkaehdiaaGreatDoor
open Go.RowKit
attribute [local go_sem] ExtOf.cell ExtOf.frozen


/-- children of a place in a year -/
noncomputable def chiR (L : List Lk) (x : List UInt8) (y : Int) : List (List UInt8) := if lkC L [x] y = 0 then (plaA L).filter (chiB L x y) else []
/-- what lies inside a place in a year -/
noncomputable def insR (L : List Lk) (x : List UInt8) (y : Int) : List (List UInt8) := if lkC L [x] y = 0 then (plaA L).filter (insB L x y) else []
/-- of the first k places those that p asks for -/
def filTo (P : List (List UInt8)) (p : List UInt8 → Bool) (k : Nat) : List (List UInt8) := (P.take k).filter p
theorem filTo_succ {P : List (List UInt8)} {p : List UInt8 → Bool} {k : Nat} (hk : k < P.length) : filTo P p (k + 1) = if p (P.getD k []) = true then filTo P p k ++ [P.getD k []] else filTo P p k := by
  unfold filTo
  rw [List.take_succ_eq_append_getElem hk, List.filter_append, show P.getD k [] = P[k] by simp [List.getD, hk]]
  by_cases h : p P[k] = true
  · rw [if_pos h]; simp [h]
  · rw [if_neg h]; simp [h]
theorem filTo_len (P : List (List UInt8)) (p : List UInt8 → Bool) (k : Nat) : (filTo P p k).length ≤ k := by
  unfold filTo
  have := List.length_filter_le p (P.take k)
  rw [List.length_take] at this
  omega
theorem filTo_all (P : List (List UInt8)) (p : List UInt8 → Bool) {k : Nat} (hk : P.length ≤ k) : filTo P p k = P.filter p := by
  unfold filTo
  rw [List.take_of_length_le hk]
theorem lks20 {L : List Lk} (h : lksB L = true) : L.length ≤ 20 := (lksB_iff.1 h).1.2
theorem pla_len (L : List Lk) : (plaA L).length ≤ 2 * L.length := by
  have := plaA_len L L.length (Nat.le_refl _)
  rwa [List.take_length] at this
theorem pla_ne {L : List Lk} (h : lksB L = true) {x : List UInt8} (hx : x ∈ plaA L) : x ≠ [] := by
  obtain ⟨l, hl, hc⟩ := plaA_mem.1 hx
  obtain ⟨i, hi, rfl⟩ := List.mem_iff_getElem.1 hl
  have := ((lksB_iff.1 h).1.1 i hi).1
  simp only [List.getD, List.getElem?_eq_getElem hi, Option.getD_some, lkB, Bool.and_eq_true] at this
  rcases hc with rfl | rfl
  · exact smL_ne this.1.1.1
  · exact smL_ne this.1.1.2
theorem smA_ne {x : List UInt8} (h : ([x].all fun x => smL x 1 16) = true) : x ≠ [] := by
  simp at h
  exact smL_ne h
theorem chi_eq {L : List Lk} {x : List UInt8} {y : Int} (h : lkC L [x] y = 0) : sortA ((L.filter fun l => lkHas l y && chiB L x y l.1).map fun l => l.1) = chiR L x y := by
  unfold chiR
  rw [if_pos h]
  exact chi_law L (smA_ne (lkC_zero h).2.1) y
theorem ins_eq {L : List Lk} {x : List UInt8} {y : Int} (h : lkC L [x] y = 0) : sortA ((L.filter fun l => lkHas l y && insB L x y l.1).map fun l => l.1) = insR L x y := by
  unfold insR
  rw [if_pos h]
  exact ins_law L x y
theorem mem_getDE {α : Type} {d : α} {xs : List α} {k : Nat} (hk : k < xs.length) : xs.getD k d ∈ xs := by simp [List.getD, hk]

set_option maxRecDepth 20000 in
set_option maxHeartbeats 12800000 in
theorem s_ChildrenIn (A : Option Addr) (n c : Nat) (L : List Lk) (x : List UInt8) (y : Int) (w : World) (h : SlAt w 4 encK A L) (hn : n = L.length) (hl : L.length ≤ 1048576) (hg : Links L) (hx : x.length ≤ 1048576) :
    Calls Tryz.prog 31 #[.slice A n c, .string (tx x), .int .i64 y] w fun e w' => ∃ v, e = .returned (.tuple #[v, .int .i64 (lkC L [x] y)]) ∧ OwS w' w.heap.size v (chiR L x y) ∧ Ext w w' := by
  have HC := Lib.hid (fun W hW => s_l12Code A n c L x y W hW hn hl hg hx)
  have HS := Lib.hid h
  have HN := Lib.hid hn
  by_cases hz : lkC L [x] y = 0
  · have hR : chiR L x y = (plaA L).filter (chiB L x y) := by unfold chiR; rw [if_pos hz]
    have hlk := (lkC_zero hz).1
    have h20 := lks20 hlk
    have hn20 : n ≤ 20 := by omega
    have hpl := pla_len L
    have HPN : Hid (∀ z ∈ plaA L, z ≠ []) := Lib.hid (fun z hz => pla_ne hlk hz)
    have HLK := Lib.hid (lksB_iff.1 hlk)
    rw [hR, hz]
    rw [hz] at HC
    have HP := Lib.hid (fun W hW => s_l12Places A n c L W hW hn hn20)
    have HV0 : Hid (∀ W g base, Blk W g 9 #[] → base ≤ g → OwS W base (.slice (some ⟨g, 0, none⟩) 0 0) []) := Lib.hid (fun W g' base hB hge => Own.of_blk (xs := []) hB len_encS rfl hge (Nat.zero_le _))
    have HX := Lib.hid (tx_toL x)
    have HXE : Hid (tx x = tx x) := Lib.hid rfl
    clear hz hR hlk h hn hg hx hl
    generalize hpe : plaA L = P at *
    clear hpe
    obtain ⟨sx, hsx⟩ : ∃ sx, sx = tx x := ⟨_, rfl⟩
    rw [← hsx] at HC HX HXE ⊢
    have HSX := Lib.hid hsx
    clear hsx
    obtain ⟨np, hnp⟩ : ∃ np, np = P.length := ⟨_, rfl⟩
    have hnp40 : np ≤ 40 := by omega
    have HNP := Lib.hid hnp
    clear hpl hnp
    go_enter Tryz.func31, Tryz.ntmps31
    (go_wp2_with fail; refine (HC.out _ HS.out).mono ?_; rintro e w1 ⟨rfl, hx1⟩; obtain ⟨hc1, hf1⟩ := hx1.rules; have hs1 := hx1.size; (try simp at hs1))
    have HX1 := Lib.hid (show Ext w w1 by (repeat (first | with_reducible exact Ext.refl _ | with_reducible assumption | ((with_reducible apply Src.ext); with_reducible assumption) | with_reducible refine Ext.alloc ?_ _ | with_reducible refine Ext.drew ?_ | with_reducible refine Ext.drewN ?_ _ | ((with_reducible refine Ext.setCell' ?_ ?_ _); solve | omega | simp | (simp; omega)) | (with_reducible refine Ext.trans ?_ (by with_reducible assumption)))))
    go_wp2_with fail
    refine (HP.out _ (HS.out.ext (by (repeat (first | with_reducible exact Ext.refl _ | with_reducible assumption | ((with_reducible apply Src.ext); with_reducible assumption) | with_reducible refine Ext.alloc ?_ _ | with_reducible refine Ext.drew ?_ | with_reducible refine Ext.drewN ?_ _ | ((with_reducible refine Ext.setCell' ?_ ?_ _); solve | omega | simp | (simp; omega)) | (with_reducible refine Ext.trans ?_ (by with_reducible assumption))))))).mono ?_
    rintro e w2 ⟨vp, rfl, hOp, hx2⟩
    have HX2 : Hid (Ext w w2) := Lib.hid (by (repeat (first | with_reducible exact Ext.refl _ | with_reducible assumption | ((with_reducible apply Src.ext); with_reducible assumption) | with_reducible refine Ext.alloc ?_ _ | with_reducible refine Ext.drew ?_ | with_reducible refine Ext.drewN ?_ _ | ((with_reducible refine Ext.setCell' ?_ ?_ _); solve | omega | simp | (simp; omega)) | (with_reducible refine Ext.trans ?_ (by with_reducible assumption)))))
    have HW2 : Hid (w.heap.size ≤ w1.heap.size) := Lib.hid hs1
    have hB0 : Blk w2 w1.heap.size 9 #[] := by (repeat (first | with_reducible assumption | ((with_reducible apply Blk.new); solve | simp | rfl) | with_reducible apply Blk.drew | with_reducible apply Blk.drewN | ((with_reducible apply Blk.far'); solve | omega | simp | (simp; omega)) | with_reducible apply Blk.set_ | with_reducible apply Blk.alloc | ((with_reducible apply Blk.ext'); with_reducible assumption) | ((with_reducible apply Blk.but'); (with_reducible assumption); solve | omega | (simp; omega))))
    have hO0 := HV0.out w2 w1.heap.size w.heap.size hB0 hs1
    have HO0 := Lib.hid hO0
    obtain ⟨Ap, cp, rfl, hSp, _, _, hrow⟩ := hOp.sl len_encS
    have HNW0 : Hid (∀ q, Ap = some q → Value.ownBlock (.slice (some ⟨w1.heap.size, 0, none⟩) 0 0) ≠ some q.block) := Lib.hid (fun q hq e => by have h1 := (hrow q hq).1; have h2 := own_isE (q := q.block) e; (try simp at h1); omega)
    have HSP := Lib.hid hSp
    rw [← HNP.out]
    clear hB0 hO0 hOp hSp hx1 hx2 hs1 hc1 hf1 hrow
    go_wp2
    go_loopw [9, 11] (fun v i wr => ∃ k : Nat, k ≤ np ∧ i = .int .i64 k ∧ Hid (OwS wr w.heap.size v (filTo P (chiB L x y) k)) ∧ Hid (∀ q, Ap = some q → Value.ownBlock v ≠ some q.block) ∧ Ext w wr ∧ Hid (SlAt wr 1 encS Ap P)) (fun _ i _ => np - (intOf i).toNat)
    case atStart => exact ⟨0, by omega, rfl, Lib.hid HO0.out, HNW0, HX2.out, HSP⟩
    case round =>
      obtain ⟨k, hk, rfl, HV, HNW, hxr, HSR⟩ := hrel
      obtain ⟨w5, rfl⟩ : ∃ x, x = wr := ⟨wr, rfl⟩
      have hsr := hxr.size
      by_cases hlt : k < np
      · have hkp : k < P.length := by rw [← HNP.out]; exact hlt
        have hsu := filTo_succ (p := chiB L x y) hkp
        have hpm := HPN.out _ (mem_getDE (d := ([] : List UInt8)) hkp)
        have hln := filTo_len P (chiB L x y) k
        obtain ⟨b, off, hA, hb, d0⟩ := HSR.out.st hkp
        subst hA
        have HLN : Hid ((filTo P (chiB L x y) k).length ≤ 1000) := Lib.hid (by omega)
        obtain ⟨z, hze⟩ : ∃ z, z = P.getD k [] := ⟨_, rfl⟩
        rw [← hze] at d0 hsu hpm
        have HBL := Lib.hid (fun (W : World) (g : Nat) (hB : Blk W g 9 #[.string (tx z)]) => blk_s1 hB)
        have htz := tx_toL z
        clear hze hkp hln
        have HPA := Lib.hid (fun W hW => s_l12Parent A n c L z y W hW HN.out (by omega))
        have hq : chiB L x y z = ((tx (parT L z y)).toList == sx.toList) := by unfold chiB; rw [tx_toL, HX.out]
        rw [hq] at hsu
        generalize tx (parT L z y) = sp at *
        generalize tx z = sz at *
        clear hq htz hpm
        cases hqq : (sp.toList == sx.toList) with
        | true =>
          rw [hqq, if_pos rfl] at hsu
          have HSU := Lib.hid hsu
          clear hsu
          go_wp2_with fail
          refine (HPA.out _ (HS.out.ext (hxr.trans (by (repeat (first | with_reducible exact Ext.refl _ | with_reducible assumption | ((with_reducible apply Src.ext); with_reducible assumption) | with_reducible refine Ext.alloc ?_ _ | with_reducible refine Ext.drew ?_ | with_reducible refine Ext.drewN ?_ _ | ((with_reducible refine Ext.setCell' ?_ ?_ _); solve | omega | simp | (simp; omega)) | (with_reducible refine Ext.trans ?_ (by with_reducible assumption)))))))).mono ?_
          rintro e w4 ⟨rfl, hx4⟩
          obtain ⟨hc4, hf4⟩ := hx4.rules
          have hs4 := hx4.size
          (try simp at hs4)
          have := (show b < w4.heap.size from by omega)
          have HV1 : Hid (OwS w4 w.heap.size _ _) := Lib.hid (HV.out.ext (by (repeat (first | with_reducible exact Ext.refl _ | with_reducible assumption | ((with_reducible apply Src.ext); with_reducible assumption) | with_reducible refine Ext.alloc ?_ _ | with_reducible refine Ext.drew ?_ | with_reducible refine Ext.drewN ?_ _ | ((with_reducible refine Ext.setCell' ?_ ?_ _); solve | omega | simp | (simp; omega)) | (with_reducible refine Ext.trans ?_ (by with_reducible assumption))))))
          have HSR1 : Hid (SlAt w4 1 encS (some ⟨b, off, none⟩) P) := Lib.hid (HSR.out.ext (by (repeat (first | with_reducible exact Ext.refl _ | with_reducible assumption | ((with_reducible apply Src.ext); with_reducible assumption) | with_reducible refine Ext.alloc ?_ _ | with_reducible refine Ext.drew ?_ | with_reducible refine Ext.drewN ?_ _ | ((with_reducible refine Ext.setCell' ?_ ?_ _); solve | omega | simp | (simp; omega)) | (with_reducible refine Ext.trans ?_ (by with_reducible assumption))))))
          go_wp2_with (at_builtin; refine wpList_append_slA elS len_encS one_encS rfl _ _ rfl rfl (HV1.out.ext (by (repeat (first | with_reducible exact Ext.refl _ | with_reducible assumption | ((with_reducible apply Src.ext); with_reducible assumption) | with_reducible refine Ext.alloc ?_ _ | with_reducible refine Ext.drew ?_ | with_reducible refine Ext.drewN ?_ _ | ((with_reducible refine Ext.setCell' ?_ ?_ _); solve | omega | simp | (simp; omega)) | (with_reducible refine Ext.trans ?_ (by with_reducible assumption)))))) (xs := [z]) rfl (HBL.out _ _ (by (repeat (first | with_reducible assumption | ((with_reducible apply Blk.new); solve | simp | rfl) | with_reducible apply Blk.drew | with_reducible apply Blk.drewN | ((with_reducible apply Blk.far'); solve | omega | simp | (simp; omega)) | with_reducible apply Blk.set_ | with_reducible apply Blk.alloc | ((with_reducible apply Blk.ext'); with_reducible assumption) | ((with_reducible apply Blk.but'); (with_reducible assumption); solve | omega | (simp; omega)))))) (by have := HLN.out; simp; unfold maxLen; omega) (by have := HLN.out; simp; omega) (by first | omega | (simp; omega)) ?_)
          intro v' w6 hown hgrow _ hat
          have HV2 := Lib.hid hown
          have hx6 : Ext w w6 := by
            refine Ext.grown ?_ hgrow (fun q hq => (HV.out.row q hq).1)
            (repeat (first | with_reducible exact Ext.refl _ | with_reducible assumption | ((with_reducible apply Src.ext); with_reducible assumption) | with_reducible refine Ext.alloc ?_ _ | with_reducible refine Ext.drew ?_ | with_reducible refine Ext.drewN ?_ _ | ((with_reducible refine Ext.setCell' ?_ ?_ _); solve | omega | simp | (simp; omega)) | (with_reducible refine Ext.trans ?_ (by with_reducible assumption))))
          have HSR2 : Hid (SlAt w6 1 encS (some ⟨b, off, none⟩) P) := Lib.hid ((HSR1.out.ext (by (repeat (first | with_reducible exact Ext.refl _ | with_reducible assumption | ((with_reducible apply Src.ext); with_reducible assumption) | with_reducible refine Ext.alloc ?_ _ | with_reducible refine Ext.drew ?_ | with_reducible refine Ext.drewN ?_ _ | ((with_reducible refine Ext.setCell' ?_ ?_ _); solve | omega | simp | (simp; omega)) | (with_reducible refine Ext.trans ?_ (by with_reducible assumption)))))).grown hgrow (fun q hq => by injection hq with hq; subst hq; exact fun e => HNW.out _ rfl e.symm))
          have HNW2 : Hid (∀ q, some (⟨b, off, none⟩ : Addr) = some q → Value.ownBlock v' ≠ some q.block) := Lib.hid (fun q hq e => by
            injection hq with hq
            subst hq
            rcases hat with e2 | e2
            · rw [e2] at e; exact HNW.out _ rfl e
            · rw [e2] at e
              injection e with e
              (try simp at e)
              omega)
          clear hown hgrow hat
          go_wp2
          go_roundw
          case rel => exact ⟨k + 1, by omega, by go_num, Lib.hid (by rw [HSU.out]; exact HV2.out), HNW2, by (repeat (first | with_reducible exact Ext.refl _ | with_reducible assumption | ((with_reducible apply Src.ext); with_reducible assumption) | with_reducible refine Ext.alloc ?_ _ | with_reducible refine Ext.drew ?_ | with_reducible refine Ext.drewN ?_ _ | ((with_reducible refine Ext.setCell' ?_ ?_ _); solve | omega | simp | (simp; omega)) | (with_reducible refine Ext.trans ?_ (by with_reducible assumption)))), HSR2⟩
          case measure => simp [intOf]; omega
        | false =>
          rw [hqq, if_neg (by simp)] at hsu
          have HSU := Lib.hid hsu
          clear hsu
          go_wp2_with fail
          refine (HPA.out _ (HS.out.ext (hxr.trans (by (repeat (first | with_reducible exact Ext.refl _ | with_reducible assumption | ((with_reducible apply Src.ext); with_reducible assumption) | with_reducible refine Ext.alloc ?_ _ | with_reducible refine Ext.drew ?_ | with_reducible refine Ext.drewN ?_ _ | ((with_reducible refine Ext.setCell' ?_ ?_ _); solve | omega | simp | (simp; omega)) | (with_reducible refine Ext.trans ?_ (by with_reducible assumption)))))))).mono ?_
          rintro e w4 ⟨rfl, hx4⟩
          go_wp2
          go_roundw
          case rel => exact ⟨k + 1, by omega, by go_num, Lib.hid (by rw [HSU.out]; exact HV.out.ext (by (repeat (first | with_reducible exact Ext.refl _ | with_reducible assumption | ((with_reducible apply Src.ext); with_reducible assumption) | with_reducible refine Ext.alloc ?_ _ | with_reducible refine Ext.drew ?_ | with_reducible refine Ext.drewN ?_ _ | ((with_reducible refine Ext.setCell' ?_ ?_ _); solve | omega | simp | (simp; omega)) | (with_reducible refine Ext.trans ?_ (by with_reducible assumption)))))), HNW, by (repeat (first | with_reducible exact Ext.refl _ | with_reducible assumption | ((with_reducible apply Src.ext); with_reducible assumption) | with_reducible refine Ext.alloc ?_ _ | with_reducible refine Ext.drew ?_ | with_reducible refine Ext.drewN ?_ _ | ((with_reducible refine Ext.setCell' ?_ ?_ _); solve | omega | simp | (simp; omega)) | (with_reducible refine Ext.trans ?_ (by with_reducible assumption)))), Lib.hid (HSR.out.ext (by (repeat (first | with_reducible exact Ext.refl _ | with_reducible assumption | ((with_reducible apply Src.ext); with_reducible assumption) | with_reducible refine Ext.alloc ?_ _ | with_reducible refine Ext.drew ?_ | with_reducible refine Ext.drewN ?_ _ | ((with_reducible refine Ext.setCell' ?_ ?_ _); solve | omega | simp | (simp; omega)) | (with_reducible refine Ext.trans ?_ (by with_reducible assumption))))))⟩
          case measure => simp [intOf]; omega
      · obtain rfl : k = np := by omega
        have HF : Hid (filTo P (chiB L x y) k = P.filter (chiB L x y)) := Lib.hid (filTo_all P _ (by rw [← HNP.out]; exact Nat.le_refl _))
        go_wp2
        go_ret2
        exact ⟨_, rfl, by rw [← HF.out]; exact HV.out, hxr⟩
  · have hR : chiR L x y = [] := by unfold chiR; rw [if_neg hz]
    rw [hR]
    generalize lkC L [x] y = cd at *
    have hcd : (cd != 0) = true := by simpa using hz
    generalize tx x = sx at *
    clear h hn hg hx hl hR
    go_enter Tryz.func31, Tryz.ntmps31
    (go_wp2_with fail; refine (HC.out _ HS.out).mono ?_; rintro e w1 ⟨rfl, hx1⟩; obtain ⟨hc1, hf1⟩ := hx1.rules; have hs1 := hx1.size; (try simp at hs1))
    go_wp2
    go_ret2
    exact ⟨_, rfl, Own.nil _ _, by (repeat (first | with_reducible exact Ext.refl _ | with_reducible assumption | ((with_reducible apply Src.ext); with_reducible assumption) | with_reducible refine Ext.alloc ?_ _ | with_reducible refine Ext.drew ?_ | with_reducible refine Ext.drewN ?_ _ | ((with_reducible refine Ext.setCell' ?_ ?_ _); solve | omega | simp | (simp; omega)) | (with_reducible refine Ext.trans ?_ (by with_reducible assumption))))⟩

set_option maxRecDepth 20000 in
set_option maxHeartbeats 12800000 in
theorem s_InsideIn (A : Option Addr) (n c : Nat) (L : List Lk) (x : List UInt8) (y : Int) (w : World) (h : SlAt w 4 encK A L) (hn : n = L.length) (hl : L.length ≤ 1048576) (hg : Links L) (hx : x.length ≤ 1048576) :
    Calls Tryz.prog 32 #[.slice A n c, .string (tx x), .int .i64 y] w fun e w' => ∃ v, e = .returned (.tuple #[v, .int .i64 (lkC L [x] y)]) ∧ OwS w' w.heap.size v (insR L x y) ∧ Ext w w' := by
  have HC := Lib.hid (fun W hW => s_l12Code A n c L x y W hW hn hl hg hx)
  have HS := Lib.hid h
  have HN := Lib.hid hn
  by_cases hz : lkC L [x] y = 0
  · have hR : insR L x y = (plaA L).filter (insB L x y) := by unfold insR; rw [if_pos hz]
    have hlk := (lkC_zero hz).1
    have h20 := lks20 hlk
    have hn20 : n ≤ 20 := by omega
    have hpl := pla_len L
    have HPN : Hid (∀ z ∈ plaA L, z ≠ []) := Lib.hid (fun z hz => pla_ne hlk hz)
    have HLK := Lib.hid (lksB_iff.1 hlk)
    rw [hR, hz]
    rw [hz] at HC
    have HP := Lib.hid (fun W hW => s_l12Places A n c L W hW hn hn20)
    have HV0 : Hid (∀ W g base, Blk W g 9 #[] → base ≤ g → OwS W base (.slice (some ⟨g, 0, none⟩) 0 0) []) := Lib.hid (fun W g' base hB hge => Own.of_blk (xs := []) hB len_encS rfl hge (Nat.zero_le _))
    have HX := Lib.hid (tx_toL x)
    have HXE : Hid (tx x = tx x) := Lib.hid rfl
    clear hz hR hlk h hn hg hx hl
    generalize hpe : plaA L = P at *
    clear hpe
    obtain ⟨sx, hsx⟩ : ∃ sx, sx = tx x := ⟨_, rfl⟩
    rw [← hsx] at HC HX HXE ⊢
    have HSX := Lib.hid hsx
    clear hsx
    obtain ⟨np, hnp⟩ : ∃ np, np = P.length := ⟨_, rfl⟩
    have hnp40 : np ≤ 40 := by omega
    have HNP := Lib.hid hnp
    clear hpl hnp
    go_enter Tryz.func32, Tryz.ntmps32
    (go_wp2_with fail; refine (HC.out _ HS.out).mono ?_; rintro e w1 ⟨rfl, hx1⟩; obtain ⟨hc1, hf1⟩ := hx1.rules; have hs1 := hx1.size; (try simp at hs1))
    have HX1 := Lib.hid (show Ext w w1 by (repeat (first | with_reducible exact Ext.refl _ | with_reducible assumption | ((with_reducible apply Src.ext); with_reducible assumption) | with_reducible refine Ext.alloc ?_ _ | with_reducible refine Ext.drew ?_ | with_reducible refine Ext.drewN ?_ _ | ((with_reducible refine Ext.setCell' ?_ ?_ _); solve | omega | simp | (simp; omega)) | (with_reducible refine Ext.trans ?_ (by with_reducible assumption)))))
    go_wp2_with fail
    refine (HP.out _ (HS.out.ext (by (repeat (first | with_reducible exact Ext.refl _ | with_reducible assumption | ((with_reducible apply Src.ext); with_reducible assumption) | with_reducible refine Ext.alloc ?_ _ | with_reducible refine Ext.drew ?_ | with_reducible refine Ext.drewN ?_ _ | ((with_reducible refine Ext.setCell' ?_ ?_ _); solve | omega | simp | (simp; omega)) | (with_reducible refine Ext.trans ?_ (by with_reducible assumption))))))).mono ?_
    rintro e w2 ⟨vp, rfl, hOp, hx2⟩
    have HX2 : Hid (Ext w w2) := Lib.hid (by (repeat (first | with_reducible exact Ext.refl _ | with_reducible assumption | ((with_reducible apply Src.ext); with_reducible assumption) | with_reducible refine Ext.alloc ?_ _ | with_reducible refine Ext.drew ?_ | with_reducible refine Ext.drewN ?_ _ | ((with_reducible refine Ext.setCell' ?_ ?_ _); solve | omega | simp | (simp; omega)) | (with_reducible refine Ext.trans ?_ (by with_reducible assumption)))))
    have HW2 : Hid (w.heap.size ≤ w1.heap.size) := Lib.hid hs1
    have hB0 : Blk w2 w1.heap.size 9 #[] := by (repeat (first | with_reducible assumption | ((with_reducible apply Blk.new); solve | simp | rfl) | with_reducible apply Blk.drew | with_reducible apply Blk.drewN | ((with_reducible apply Blk.far'); solve | omega | simp | (simp; omega)) | with_reducible apply Blk.set_ | with_reducible apply Blk.alloc | ((with_reducible apply Blk.ext'); with_reducible assumption) | ((with_reducible apply Blk.but'); (with_reducible assumption); solve | omega | (simp; omega))))
    have hO0 := HV0.out w2 w1.heap.size w.heap.size hB0 hs1
    have HO0 := Lib.hid hO0
    obtain ⟨Ap, cp, rfl, hSp, _, _, hrow⟩ := hOp.sl len_encS
    have HNW0 : Hid (∀ q, Ap = some q → Value.ownBlock (.slice (some ⟨w1.heap.size, 0, none⟩) 0 0) ≠ some q.block) := Lib.hid (fun q hq e => by have h1 := (hrow q hq).1; have h2 := own_isE (q := q.block) e; (try simp at h1); omega)
    have HSP := Lib.hid hSp
    rw [← HNP.out]
    clear hB0 hO0 hOp hSp hx1 hx2 hs1 hc1 hf1 hrow
    go_wp2
    go_loopw [9, 11] (fun v i wr => ∃ k : Nat, k ≤ np ∧ i = .int .i64 k ∧ Hid (OwS wr w.heap.size v (filTo P (insB L x y) k)) ∧ Hid (∀ q, Ap = some q → Value.ownBlock v ≠ some q.block) ∧ Ext w wr ∧ Hid (SlAt wr 1 encS Ap P)) (fun _ i _ => np - (intOf i).toNat)
    case atStart => exact ⟨0, by omega, rfl, Lib.hid HO0.out, HNW0, HX2.out, HSP⟩
    case round =>
      obtain ⟨k, hk, rfl, HV, HNW, hxr, HSR⟩ := hrel
      obtain ⟨w5, rfl⟩ : ∃ x, x = wr := ⟨wr, rfl⟩
      have hsr := hxr.size
      by_cases hlt : k < np
      · have hkp : k < P.length := by rw [← HNP.out]; exact hlt
        have hsu := filTo_succ (p := insB L x y) hkp
        have hpm := HPN.out _ (mem_getDE (d := ([] : List UInt8)) hkp)
        have hln := filTo_len P (insB L x y) k
        obtain ⟨b, off, hA, hb, d0⟩ := HSR.out.st hkp
        subst hA
        have HLN : Hid ((filTo P (insB L x y) k).length ≤ 1000) := Lib.hid (by omega)
        obtain ⟨z, hze⟩ : ∃ z, z = P.getD k [] := ⟨_, rfl⟩
        rw [← hze] at d0 hsu hpm
        have HBL := Lib.hid (fun (W : World) (g : Nat) (hB : Blk W g 9 #[.string (tx z)]) => blk_s1 hB)
        have htz := tx_toL z
        clear hze hkp hln
        have HPA := Lib.hid (fun W hW => s_l12Way A n c L z y W hW HN.out (by omega) (LkP.told HLK.out.1.1) hpm)
        have hway := HLK.out.way z y
        have hq : insB L x y z = (!((tx z).toList == sx.toList) && decide (x ∈ (wayU L z y).1)) := by unfold insB; rw [htz, HX.out]
        rw [hq] at hsu
        have HFD : Hid (∀ W v, OwS W w5.heap.size v (wayU L z y).1 → Calls Tryz.prog 59 #[v, .string sx] W fun e w' => e = .returned (.int .i64 (fdI (wayU L z y).1 x)) ∧ W = w') := Lib.hid (fun W v hO => by
          obtain ⟨Aw, cw, rfl, hSw, _, _, _⟩ := hO.sl len_encS
          rw [HSX.out]
          exact s_l03Find Aw _ cw _ x W hSw rfl (by obtain ⟨_, _, hle⟩ := wayU_ne L z y; omega))
        have HPB : Hid (∀ W, SlAt W 4 encK A L → Calls Tryz.prog 58 #[.slice A n c, .string (tx z), .int .i64 y] W fun e w' => ∃ v, e = .returned (.tuple #[v, .bool true]) ∧ OwS w' W.heap.size v (wayU L z y).1 ∧ Ext W w') := Lib.hid (fun W hW => (HPA.out W hW).mono (by
          rintro e w' ⟨hr, hx⟩
          rcases hr with ⟨e0, _⟩ | ⟨_, v, e0, hO⟩
          · rw [hway] at e0; cases e0
          · exact ⟨v, e0, hO, hx⟩))
        have hfd : decide (0 ≤ fdI (wayU L z y).1 x) = decide (x ∈ (wayU L z y).1) := by
          rw [Bool.eq_iff_iff]; simp only [decide_eq_true_iff]; exact fdI_iff
        rw [← hfd] at hsu
        generalize fdI (wayU L z y).1 x = fd at *
        generalize (wayU L z y).1 = ws at *
        generalize tx z = sz at *
        clear hq htz hpm hway HPA hfd
        cases hqq : (sz.toList == sx.toList) with
        | true =>
          rw [hqq, if_neg (by simp)] at hsu
          have HSU := Lib.hid hsu
          clear hsu
          go_wp2_with fail
          refine (HPB.out _ (HS.out.ext (hxr.trans (by (repeat (first | with_reducible exact Ext.refl _ | with_reducible assumption | ((with_reducible apply Src.ext); with_reducible assumption) | with_reducible refine Ext.alloc ?_ _ | with_reducible refine Ext.drew ?_ | with_reducible refine Ext.drewN ?_ _ | ((with_reducible refine Ext.setCell' ?_ ?_ _); solve | omega | simp | (simp; omega)) | (with_reducible refine Ext.trans ?_ (by with_reducible assumption)))))))).mono ?_
          rintro e w4 ⟨vw, rfl, hOw, hx4⟩
          obtain ⟨hc4, hf4⟩ := hx4.rules
          have hs4 := hx4.size
          (try simp at hs4)
          have := (show b < w4.heap.size from by omega)
          clear hOw
          go_wp2
          go_roundw
          case rel => exact ⟨k + 1, by omega, by go_num, Lib.hid (by rw [HSU.out]; exact HV.out.ext (by (repeat (first | with_reducible exact Ext.refl _ | with_reducible assumption | ((with_reducible apply Src.ext); with_reducible assumption) | with_reducible refine Ext.alloc ?_ _ | with_reducible refine Ext.drew ?_ | with_reducible refine Ext.drewN ?_ _ | ((with_reducible refine Ext.setCell' ?_ ?_ _); solve | omega | simp | (simp; omega)) | (with_reducible refine Ext.trans ?_ (by with_reducible assumption)))))), HNW, by (repeat (first | with_reducible exact Ext.refl _ | with_reducible assumption | ((with_reducible apply Src.ext); with_reducible assumption) | with_reducible refine Ext.alloc ?_ _ | with_reducible refine Ext.drew ?_ | with_reducible refine Ext.drewN ?_ _ | ((with_reducible refine Ext.setCell' ?_ ?_ _); solve | omega | simp | (simp; omega)) | (with_reducible refine Ext.trans ?_ (by with_reducible assumption)))), Lib.hid (HSR.out.ext (by (repeat (first | with_reducible exact Ext.refl _ | with_reducible assumption | ((with_reducible apply Src.ext); with_reducible assumption) | with_reducible refine Ext.alloc ?_ _ | with_reducible refine Ext.drew ?_ | with_reducible refine Ext.drewN ?_ _ | ((with_reducible refine Ext.setCell' ?_ ?_ _); solve | omega | simp | (simp; omega)) | (with_reducible refine Ext.trans ?_ (by with_reducible assumption))))))⟩
          case measure => simp [intOf]; omega
        | false =>
          cases hq3 : decide (0 ≤ fd) with
          | true =>
            rw [hqq, hq3, if_pos (by simp)] at hsu
            have HSU := Lib.hid hsu
            have hge : (0 : Int) ≤ fd := of_decide_eq_true hq3
            clear hsu hq3
            go_wp2_with fail
            refine (HPB.out _ (HS.out.ext (hxr.trans (by (repeat (first | with_reducible exact Ext.refl _ | with_reducible assumption | ((with_reducible apply Src.ext); with_reducible assumption) | with_reducible refine Ext.alloc ?_ _ | with_reducible refine Ext.drew ?_ | with_reducible refine Ext.drewN ?_ _ | ((with_reducible refine Ext.setCell' ?_ ?_ _); solve | omega | simp | (simp; omega)) | (with_reducible refine Ext.trans ?_ (by with_reducible assumption)))))))).mono ?_
            rintro e w4 ⟨vw, rfl, hOw, hx4⟩
            obtain ⟨hc4, hf4⟩ := hx4.rules
            have hs4 := hx4.size
            (try simp at hs4)
            have := (show b < w4.heap.size from by omega)
            have HOW := Lib.hid hOw
            clear hOw
            go_wp2_with fail
            refine (HFD.out _ _ HOW.out).mono ?_
            rintro e w' ⟨rfl, rfl⟩
            have HV1 : Hid (OwS w4 w.heap.size _ _) := Lib.hid (HV.out.ext (by (repeat (first | with_reducible exact Ext.refl _ | with_reducible assumption | ((with_reducible apply Src.ext); with_reducible assumption) | with_reducible refine Ext.alloc ?_ _ | with_reducible refine Ext.drew ?_ | with_reducible refine Ext.drewN ?_ _ | ((with_reducible refine Ext.setCell' ?_ ?_ _); solve | omega | simp | (simp; omega)) | (with_reducible refine Ext.trans ?_ (by with_reducible assumption))))))
            have HSR1 : Hid (SlAt w4 1 encS (some ⟨b, off, none⟩) P) := Lib.hid (HSR.out.ext (by (repeat (first | with_reducible exact Ext.refl _ | with_reducible assumption | ((with_reducible apply Src.ext); with_reducible assumption) | with_reducible refine Ext.alloc ?_ _ | with_reducible refine Ext.drew ?_ | with_reducible refine Ext.drewN ?_ _ | ((with_reducible refine Ext.setCell' ?_ ?_ _); solve | omega | simp | (simp; omega)) | (with_reducible refine Ext.trans ?_ (by with_reducible assumption))))))
            go_wp2_with (at_builtin; refine wpList_append_slA elS len_encS one_encS rfl _ _ rfl rfl (HV1.out.ext (by (repeat (first | with_reducible exact Ext.refl _ | with_reducible assumption | ((with_reducible apply Src.ext); with_reducible assumption) | with_reducible refine Ext.alloc ?_ _ | with_reducible refine Ext.drew ?_ | with_reducible refine Ext.drewN ?_ _ | ((with_reducible refine Ext.setCell' ?_ ?_ _); solve | omega | simp | (simp; omega)) | (with_reducible refine Ext.trans ?_ (by with_reducible assumption)))))) (xs := [z]) rfl (HBL.out _ _ (by (repeat (first | with_reducible assumption | ((with_reducible apply Blk.new); solve | simp | rfl) | with_reducible apply Blk.drew | with_reducible apply Blk.drewN | ((with_reducible apply Blk.far'); solve | omega | simp | (simp; omega)) | with_reducible apply Blk.set_ | with_reducible apply Blk.alloc | ((with_reducible apply Blk.ext'); with_reducible assumption) | ((with_reducible apply Blk.but'); (with_reducible assumption); solve | omega | (simp; omega)))))) (by have := HLN.out; simp; unfold maxLen; omega) (by have := HLN.out; simp; omega) (by first | omega | (simp; omega)) ?_)
            intro v' w6 hown hgrow _ hat
            have HV2 := Lib.hid hown
            have hx6 : Ext w w6 := by
              refine Ext.grown ?_ hgrow (fun q hq => (HV.out.row q hq).1)
              (repeat (first | with_reducible exact Ext.refl _ | with_reducible assumption | ((with_reducible apply Src.ext); with_reducible assumption) | with_reducible refine Ext.alloc ?_ _ | with_reducible refine Ext.drew ?_ | with_reducible refine Ext.drewN ?_ _ | ((with_reducible refine Ext.setCell' ?_ ?_ _); solve | omega | simp | (simp; omega)) | (with_reducible refine Ext.trans ?_ (by with_reducible assumption))))
            have HSR2 : Hid (SlAt w6 1 encS (some ⟨b, off, none⟩) P) := Lib.hid ((HSR1.out.ext (by (repeat (first | with_reducible exact Ext.refl _ | with_reducible assumption | ((with_reducible apply Src.ext); with_reducible assumption) | with_reducible refine Ext.alloc ?_ _ | with_reducible refine Ext.drew ?_ | with_reducible refine Ext.drewN ?_ _ | ((with_reducible refine Ext.setCell' ?_ ?_ _); solve | omega | simp | (simp; omega)) | (with_reducible refine Ext.trans ?_ (by with_reducible assumption)))))).grown hgrow (fun q hq => by injection hq with hq; subst hq; exact fun e => HNW.out _ rfl e.symm))
            have HNW2 : Hid (∀ q, some (⟨b, off, none⟩ : Addr) = some q → Value.ownBlock v' ≠ some q.block) := Lib.hid (fun q hq e => by
              injection hq with hq
              subst hq
              rcases hat with e2 | e2
              · rw [e2] at e; exact HNW.out _ rfl e
              · rw [e2] at e
                injection e with e
                (try simp at e)
                omega)
            clear hown hgrow hat
            go_wp2
            go_roundw
            case rel => exact ⟨k + 1, by omega, by go_num, Lib.hid (by rw [HSU.out]; exact HV2.out), HNW2, by (repeat (first | with_reducible exact Ext.refl _ | with_reducible assumption | ((with_reducible apply Src.ext); with_reducible assumption) | with_reducible refine Ext.alloc ?_ _ | with_reducible refine Ext.drew ?_ | with_reducible refine Ext.drewN ?_ _ | ((with_reducible refine Ext.setCell' ?_ ?_ _); solve | omega | simp | (simp; omega)) | (with_reducible refine Ext.trans ?_ (by with_reducible assumption)))), HSR2⟩
            case measure => simp [intOf]; omega
          | false =>
            rw [hqq, hq3, if_neg (by simp)] at hsu
            have HSU := Lib.hid hsu
            have hge : ¬ (0 : Int) ≤ fd := of_decide_eq_false hq3
            clear hsu hq3
            go_wp2_with fail
            refine (HPB.out _ (HS.out.ext (hxr.trans (by (repeat (first | with_reducible exact Ext.refl _ | with_reducible assumption | ((with_reducible apply Src.ext); with_reducible assumption) | with_reducible refine Ext.alloc ?_ _ | with_reducible refine Ext.drew ?_ | with_reducible refine Ext.drewN ?_ _ | ((with_reducible refine Ext.setCell' ?_ ?_ _); solve | omega | simp | (simp; omega)) | (with_reducible refine Ext.trans ?_ (by with_reducible assumption)))))))).mono ?_
            rintro e w4 ⟨vw, rfl, hOw, hx4⟩
            obtain ⟨hc4, hf4⟩ := hx4.rules
            have hs4 := hx4.size
            (try simp at hs4)
            have := (show b < w4.heap.size from by omega)
            have HOW := Lib.hid hOw
            clear hOw
            go_wp2_with fail
            refine (HFD.out _ _ HOW.out).mono ?_
            rintro e w' ⟨rfl, rfl⟩
            go_wp2
            go_roundw
            case rel => exact ⟨k + 1, by omega, by go_num, Lib.hid (by rw [HSU.out]; exact HV.out.ext (by (repeat (first | with_reducible exact Ext.refl _ | with_reducible assumption | ((with_reducible apply Src.ext); with_reducible assumption) | with_reducible refine Ext.alloc ?_ _ | with_reducible refine Ext.drew ?_ | with_reducible refine Ext.drewN ?_ _ | ((with_reducible refine Ext.setCell' ?_ ?_ _); solve | omega | simp | (simp; omega)) | (with_reducible refine Ext.trans ?_ (by with_reducible assumption)))))), HNW, by (repeat (first | with_reducible exact Ext.refl _ | with_reducible assumption | ((with_reducible apply Src.ext); with_reducible assumption) | with_reducible refine Ext.alloc ?_ _ | with_reducible refine Ext.drew ?_ | with_reducible refine Ext.drewN ?_ _ | ((with_reducible refine Ext.setCell' ?_ ?_ _); solve | omega | simp | (simp; omega)) | (with_reducible refine Ext.trans ?_ (by with_reducible assumption)))), Lib.hid (HSR.out.ext (by (repeat (first | with_reducible exact Ext.refl _ | with_reducible assumption | ((with_reducible apply Src.ext); with_reducible assumption) | with_reducible refine Ext.alloc ?_ _ | with_reducible refine Ext.drew ?_ | with_reducible refine Ext.drewN ?_ _ | ((with_reducible refine Ext.setCell' ?_ ?_ _); solve | omega | simp | (simp; omega)) | (with_reducible refine Ext.trans ?_ (by with_reducible assumption))))))⟩
            case measure => simp [intOf]; omega
      · obtain rfl : k = np := by omega
        have HF : Hid (filTo P (insB L x y) k = P.filter (insB L x y)) := Lib.hid (filTo_all P _ (by rw [← HNP.out]; exact Nat.le_refl _))
        go_wp2
        go_ret2
        exact ⟨_, rfl, by rw [← HF.out]; exact HV.out, hxr⟩
  · have hR : insR L x y = [] := by unfold insR; rw [if_neg hz]
    rw [hR]
    generalize lkC L [x] y = cd at *
    have hcd : (cd != 0) = true := by simpa using hz
    generalize tx x = sx at *
    clear h hn hg hx hl hR
    go_enter Tryz.func32, Tryz.ntmps32
    (go_wp2_with fail; refine (HC.out _ HS.out).mono ?_; rintro e w1 ⟨rfl, hx1⟩; obtain ⟨hc1, hf1⟩ := hx1.rules; have hs1 := hx1.size; (try simp at hs1))
    go_wp2
    go_ret2
    exact ⟨_, rfl, Own.nil _ _, by (repeat (first | with_reducible exact Ext.refl _ | with_reducible assumption | ((with_reducible apply Src.ext); with_reducible assumption) | with_reducible refine Ext.alloc ?_ _ | with_reducible refine Ext.drew ?_ | with_reducible refine Ext.drewN ?_ _ | ((with_reducible refine Ext.setCell' ?_ ?_ _); solve | omega | simp | (simp; omega)) | (with_reducible refine Ext.trans ?_ (by with_reducible assumption))))⟩

end Go.Proofs.YtmpgjajkaehdiaaGreatDoor
