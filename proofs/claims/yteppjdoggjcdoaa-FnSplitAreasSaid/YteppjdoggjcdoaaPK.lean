/- The ring that edges make, as the specification joins it. -/
import Derived.Test.YteppjdoggjcdoaaPJ
import Derived.Deep.RegionHeld3
import Derived.Deep.DeepCutAuto
import Derived.RegionTactic
import Derived.BigRegion
import Derived.WalkLawsBesides
import Derived.WalkSpells
import Derived.Lib.MinMax
import Derived.Outline
namespace Go.Proofs.Yteppjdoggjcdoaa
open Go.RowKit
attribute [local go_sem] ExtOf.cell ExtOf.frozen


open Classical in
/-- the edges make one valid ring -/
noncomputable def mgB (es : List Ed) : Bool := decide (OneR es) && ringB (stP (wkL es es.length))
noncomputable def mgR (es : List Ed) : List (Int × Int) := if mgB es = true then normS (stP (wkL es es.length)) else []
theorem mgB_no {es : List Ed} (h : ¬ OneR es) : mgB es = false := by simp [mgB, h]
theorem mgB_yes {es : List Ed} (h : OneR es) : mgB es = ringB (stP (wkL es es.length)) := by simp [mgB, h]
theorem mgR_no {es : List Ed} (h : mgB es = false) : mgR es = [] := by unfold mgR; rw [if_neg (by rw [h]; exact Bool.false_ne_true)]
theorem mgR_yes {es : List Ed} (h : mgB es = true) : mgR es = normS (stP (wkL es es.length)) := if_pos h
theorem mgR_len (es : List Ed) : (mgR es).length ≤ es.length := by
  unfold mgR
  split
  · rw [normS_len]
    have := stTo_len (wkL es es.length) (wkL es es.length).length
    rw [wkL_len] at this
    unfold stP
    rwa [wkL_len]
  · exact Nat.zero_le _
theorem s_straightN (A : Option Addr) (n c : Nat) (ps : List (Int × Int)) (w : World) (h : SlAt w 2 encP A ps) (hn : n = ps.length) (hl : n ≤ 1000) :
    Calls Try.prog 118 #[.slice A n c] w fun e w' => ∃ v, e = .returned v ∧ OwP w' w.heap.size v (stP ps) ∧ Ext w w' := by
  subst hn; exact s_l17Straight A c ps w h hl
theorem s_IsRingN (A : Option Addr) (n c : Nat) (ps : List (Int × Int)) (w : World) (h : SlAt w 2 encP A ps) (hn : n = ps.length) (hl : n ≤ 1048576) :
    Calls Try.prog 59 #[.slice A n c] w fun e w' => e = .returned (.bool (ringB ps)) ∧ Ext w w' := by
  subst hn; exact s_IsRing A c ps w h hl
theorem s_normalN (A : Option Addr) (n c : Nat) (ps : List (Int × Int)) (w : World) (h : SlAt w 2 encP A ps) (hn : n = ps.length) (h0 : 0 < n) (hl : n ≤ 1000) (ho : oks ps = true) :
    Calls Try.prog 60 #[.slice A n c] w fun e w' => ∃ v, e = .returned v ∧ OwP w' w.heap.size v (normS ps) ∧ Ext w w' := by
  subst hn; exact s_l16Normal A c ps w h h0 hl ho
set_option maxRecDepth 20000 in
set_option maxHeartbeats 25600000 in
theorem s_l17Ring (A : Option Addr) (n c : Nat) (es : List Ed) (w : World) (h : SlAt w 4 encE A es) (hn : n = es.length) (hl : n ≤ 24) :
    Calls Try.prog 81 #[.slice A n c] w fun e w' => ∃ v, e = .returned (.tuple #[v, .bool (mgB es)]) ∧ OwP w' w.heap.size v (mgR es) ∧ Ext w w' := by
  by_cases h0 : n = 0
  · have hno : mgB es = false := mgB_no fun hr => by have := hr.1; omega
    rw [mgR_no hno, hno]
    have hnb : ((n : Int) == 0) = true := by rw [beq_iff_eq]; omega
    clear hno hn
    subst h0
    go_enter Try.func81, Try.ntmps81
    go_wp2
    go_ret2
    exact ⟨_, rfl, Own.nil _ _, by (repeat (first | with_reducible exact Ext.refl _ | with_reducible assumption | ((with_reducible apply Src.ext); with_reducible assumption) | with_reducible refine Ext.alloc ?_ _ | with_reducible refine Ext.drew ?_ | with_reducible refine Ext.drewN ?_ _ | ((with_reducible refine Ext.setCell' ?_ ?_ _); solve | omega | simp | (simp; omega)) | (with_reducible refine Ext.trans ?_ (by with_reducible assumption))))⟩
  · have hnb : ((n : Int) == 0) = false := by rw [beq_eq_false_iff_ne]; omega
    have h0' : 0 < es.length := by omega
    obtain ⟨b, off, a1, a2, a3, a4, rfl, hb, he, d0, d1, d2, d3⟩ := h.ed (k := 0) h0'
    simp only [Nat.zero_mul, Nat.add_zero] at d0 d1 d2 d3
    have he' : es.getD 0 edD = ((a1, a2), (a3, a4)) := he
    have HW0 : Hid (wk es 0 = some (a1, a2)) := Lib.hid (by rw [wk_zero h0', he'])
    have HWY : Hid (Way es 0 (a1, a2)) := Lib.hid ⟨by rw [wk_zero h0', he'], fun j h1 h2 => absurd h1 (by omega)⟩
    have HN := Lib.hid hn
    have HH := Lib.hid h
    have HNO : Hid (¬ OneR es → mgB es = false ∧ mgR es = []) := Lib.hid fun q => ⟨mgB_no q, mgR_no (mgB_no q)⟩
    have hn0 : 0 < n := by omega
    have hn1 : ¬ (n : Int) < 0 := by omega
    clear he he' hn h0 h0' h
    go_enter Try.func81, Try.ntmps81
    go_wp2
    go_loopw [4] (fun v wr => ∃ (k : Nat) (p : Int × Int), k ≤ n ∧ Hid (OwP wr w.heap.size v (wkL es k)) ∧ Hid (∀ q, v.ownBlock = some q → q ≠ w.heap.size + 1) ∧ Blk wr (w.heap.size + 1) 33 #[.int .i64 p.1, .int .i64 p.2] ∧ Hid (Way es k p) ∧ Hid (k = 0 ∨ some p ≠ wk es 0) ∧ Ext w wr) (fun v _ => n - lenV v)
    case atStart => exact ⟨0, (a1, a2), by omega, Lib.hid (Own.ext (enc := encP) (xs := []) (World.ownsRow_made (base := w.heap.size) (e := 33) (size := 2) w #[] 0 (Nat.le_refl _) (Nat.zero_le _) rfl) (by (repeat (first | with_reducible exact Ext.refl _ | with_reducible assumption | ((with_reducible apply Src.ext); with_reducible assumption) | with_reducible refine Ext.alloc ?_ _ | with_reducible refine Ext.drew ?_ | with_reducible refine Ext.drewN ?_ _ | ((with_reducible refine Ext.setCell' ?_ ?_ _); solve | omega | simp | (simp; omega)) | (with_reducible refine Ext.trans ?_ (by with_reducible assumption)))))), Lib.hid (fun q hq => by simp [Value.ownBlock] at hq; omega), by (repeat (first | with_reducible assumption | ((with_reducible apply Blk.new); solve | simp | rfl) | with_reducible apply Blk.drew | with_reducible apply Blk.drewN | ((with_reducible apply Blk.far'); solve | omega | simp | (simp; omega)) | with_reducible apply Blk.set_ | with_reducible apply Blk.alloc | ((with_reducible apply Blk.ext'); with_reducible assumption) | ((with_reducible apply Blk.but'); (with_reducible assumption); solve | omega | (simp; omega)))), HWY, Lib.hid (.inl rfl), by (repeat (first | with_reducible exact Ext.refl _ | with_reducible assumption | ((with_reducible apply Src.ext); with_reducible assumption) | with_reducible refine Ext.alloc ?_ _ | with_reducible refine Ext.drew ?_ | with_reducible refine Ext.drewN ?_ _ | ((with_reducible refine Ext.setCell' ?_ ?_ _); solve | omega | simp | (simp; omega)) | (with_reducible refine Ext.trans ?_ (by with_reducible assumption))))⟩
    case round =>
      rename_i v0 _
      obtain ⟨k, p, hk, HV, HNB, hB, HW, HK, hxr⟩ := hrel
      obtain ⟨w5, rfl⟩ : ∃ x, x = wr := ⟨wr, rfl⟩
      obtain ⟨px, pz⟩ := p
      simp only at hB
      have hsr := hxr.size
      have hlt := hB.lt
      have HB := Lib.hid hB
      have t0 : w5.cell? ⟨w.heap.size + 1, 0, none⟩ = some (.int .i64 px) := hB.cell 0
      have t1 : w5.cell? ⟨w.heap.size + 1, 1, none⟩ = some (.int .i64 pz) := hB.cell 1
      obtain ⟨A5, c5, hv5, -, hc5, -, -⟩ := HV.out.sl len_encP
      rw [wkL_len] at hv5 hc5
      subst hv5
      have HRW := Lib.hid HW.out.row
      clear hB
      go_wp2_with (at_builtin; refine wpList_append_near elP len_encP one_encP rfl _ _ rfl rfl (HV.out.ext (by (repeat (first | with_reducible exact Ext.refl _ | with_reducible assumption | ((with_reducible apply Src.ext); with_reducible assumption) | with_reducible refine Ext.alloc ?_ _ | with_reducible refine Ext.drew ?_ | with_reducible refine Ext.drewN ?_ _ | ((with_reducible refine Ext.setCell' ?_ ?_ _); solve | omega | simp | (simp; omega)) | (with_reducible refine Ext.trans ?_ (by with_reducible assumption)))))) (xs := [(px, pz)]) rfl (blk_pt (by (repeat (first | with_reducible assumption | ((with_reducible apply Blk.new); solve | simp | rfl) | with_reducible apply Blk.drew | with_reducible apply Blk.drewN | ((with_reducible apply Blk.far'); solve | omega | simp | (simp; omega)) | with_reducible apply Blk.set_ | with_reducible apply Blk.alloc | ((with_reducible apply Blk.ext'); with_reducible assumption) | ((with_reducible apply Blk.but'); (with_reducible assumption); solve | omega | (simp; omega)))))) (by rw [wkL_len]; simp; unfold maxLen; omega) (by rw [wkL_len]; simp; omega) (by first | omega | (simp; omega)) ?_)
      intro v' w8 hown hgrow hnear
      have hxa : Ext w5 (w5.alloc (.cells #[.int .i64 px, .int .i64 pz] 33)) := (Ext.refl w5).alloc _
      have hB8 : Blk w8 (w.heap.size + 1) 33 #[.int .i64 px, .int .i64 pz] := blk_keptP hgrow (HB.out.ext hxa) (fun e => HNB.out _ e.symm rfl)
      have hx8 : Ext w w8 := Ext.grown (hxr.trans hxa) hgrow (fun q hq => (HV.out.row q hq).1)
      have HNB8 : Hid (∀ q, v'.ownBlock = some q → q ≠ w.heap.size + 1) := Lib.hid (fun q hq => by
        rcases hnear with hn | hn
        · exact HNB.out q (hn ▸ hq)
        · have h1 := hn q hq
          simp only [World.size_alloc] at h1
          omega)
      rw [← HRW.out] at hown
      have HV8 := Lib.hid hown
      obtain ⟨A8, c8, hv8, hS8, hc8, -, -⟩ := hown.sl len_encP
      rw [wkL_len] at hv8 hc8
      have hr0 : (wkL es (k + 1)).getD 0 (0, 0) = (a1, a2) := by rw [wkL_at es (by omega), HW0.out]; rfl
      have HR0 := Lib.hid hr0
      have HS8 := Lib.hid hS8
      have HB8 := Lib.hid hB8
      have HX8 := Lib.hid hx8
      have hl8 := hB8.lt
      subst hv8
      clear hown hgrow hnear hxa hS8 hB8 hx8 hr0 t0 t1 d0 d1 d2 d3
      go_wp2
      go_loopw [6, 7] (fun x i wr => ∃ j : Nat, j ≤ n ∧ i = .int .i64 j ∧ ((x = .int .i64 (-1) ∧ Hid (∀ t, t < j → (es.getD t edD).1 ≠ (px, pz))) ∨ ∃ t : Nat, t < j ∧ x = .int .i64 t ∧ Hid ((es.getD t edD).1 = (px, pz)) ∧ Hid (∀ s, s < t → (es.getD s edD).1 ≠ (px, pz))) ∧ Ext w8 wr) (fun _ i _ => n - (intOf i).toNat)
      case atStart => exact ⟨0, by omega, rfl, .inl ⟨rfl, Lib.hid fun t ht => absurd ht (by omega)⟩, by (repeat (first | with_reducible exact Ext.refl _ | with_reducible assumption | ((with_reducible apply Src.ext); with_reducible assumption) | with_reducible refine Ext.alloc ?_ _ | with_reducible refine Ext.drew ?_ | with_reducible refine Ext.drewN ?_ _ | ((with_reducible refine Ext.setCell' ?_ ?_ _); solve | omega | simp | (simp; omega)) | (with_reducible refine Ext.trans ?_ (by with_reducible assumption))))⟩
      case round =>
        obtain ⟨j, hj, rfl, HX, hxq⟩ := hrel
        obtain ⟨w9, rfl⟩ : ∃ x, x = wr := ⟨wr, rfl⟩
        have hB9 := HB8.out.ext hxq
        have HB9 := Lib.hid hB9
        have t0 : w9.cell? ⟨w.heap.size + 1, 0, none⟩ = some (.int .i64 px) := hB9.cell 0
        have t1 : w9.cell? ⟨w.heap.size + 1, 1, none⟩ = some (.int .i64 pz) := hB9.cell 1
        have hl9 := hB9.lt
        clear hB9
        by_cases hjl : j < n
        · obtain ⟨b', off', e1, e2, e3, e4, hbe, hbl, he, g0, g1, g2, g3⟩ := (HH.out.ext (HX8.out.trans hxq)).ed (k := j) (by rw [← HN.out]; exact hjl)
          injection hbe with hbe
          injection hbe with hbe1 hbe2
          subst hbe1 hbe2
          have HE : Hid ((es.getD j edD).1 = (e1, e2)) := Lib.hid (by rw [show es.getD j edD = ((e1, e2), (e3, e4)) from he])
          clear he
          by_cases hc : eqP e1 e2 px pz = true
          · have HEQ : Hid ((es.getD j edD).1 = (px, pz)) := Lib.hid (by rw [HE.out]; exact Prod.ext (eqP_iff.1 hc).1 (eqP_iff.1 hc).2)
            rcases HX with ⟨rfl, HM⟩ | ⟨t, htj, rfl, HT, HM⟩
            · go_wp2
              (refine wp_region_ext (by kernel_rfl) (by kernel_rfl) ?_; (repeat (go_big_quiet_step (fail))); refine wpQuiet_nil ?_; intro wq hxwq; obtain ⟨hcwq, hfwq⟩ := hxwq.rules; have hswq := hxwq.size; (try simp at hswq))
              go_wp2
              go_roundw
              case rel => exact ⟨j + 1, by omega, by go_num, .inr ⟨j, by omega, rfl, HEQ, HM⟩, by (repeat (first | with_reducible exact Ext.refl _ | with_reducible assumption | ((with_reducible apply Src.ext); with_reducible assumption) | with_reducible refine Ext.alloc ?_ _ | with_reducible refine Ext.drew ?_ | with_reducible refine Ext.drewN ?_ _ | ((with_reducible refine Ext.setCell' ?_ ?_ _); solve | omega | simp | (simp; omega)) | (with_reducible refine Ext.trans ?_ (by with_reducible assumption))))⟩
              case measure => simp [intOf]; omega
            · have hno : ¬ OneR es := fun hr => by
                have := hr.2.one (i := t) (j := j) (by rw [← HN.out]; omega) (by rw [← HN.out]; omega) (HT.out.trans HEQ.out.symm)
                omega
              have HM12 := Lib.hid (HNO.out hno)
              clear hno HNO
              go_wp2
              (refine wp_region_ext (by kernel_rfl) (by kernel_rfl) ?_; (repeat (go_big_quiet_step (fail))); refine wpQuiet_nil ?_; intro wq hxwq; obtain ⟨hcwq, hfwq⟩ := hxwq.rules; have hswq := hxwq.size; (try simp at hswq))
              go_wp2
              go_ret2
              exact ⟨_, by rw [HM12.out.1]; rfl, by rw [HM12.out.2]; exact Own.nil _ _, HX8.out.trans (by (repeat (first | with_reducible exact Ext.refl _ | with_reducible assumption | ((with_reducible apply Src.ext); with_reducible assumption) | with_reducible refine Ext.alloc ?_ _ | with_reducible refine Ext.drew ?_ | with_reducible refine Ext.drewN ?_ _ | ((with_reducible refine Ext.setCell' ?_ ?_ _); solve | omega | simp | (simp; omega)) | (with_reducible refine Ext.trans ?_ (by with_reducible assumption)))))⟩
          · have hc' : eqP e1 e2 px pz = false := Bool.eq_false_iff.2 hc
            have HNQ : Hid ((es.getD j edD).1 ≠ (px, pz)) := Lib.hid (by rw [HE.out]; exact fun q => hc (by injection q with q1 q2; exact eqP_iff.2 ⟨q1, q2⟩))
            clear hc
            have HX2 : Hid (∀ x : Value, ((x = .int .i64 (-1) ∧ Hid (∀ t, t < j → (es.getD t edD).1 ≠ (px, pz))) ∨ ∃ t : Nat, t < j ∧ x = .int .i64 t ∧ Hid ((es.getD t edD).1 = (px, pz)) ∧ Hid (∀ s, s < t → (es.getD s edD).1 ≠ (px, pz))) → ((x = .int .i64 (-1) ∧ Hid (∀ t, t < j + 1 → (es.getD t edD).1 ≠ (px, pz))) ∨ ∃ t : Nat, t < j + 1 ∧ x = .int .i64 t ∧ Hid ((es.getD t edD).1 = (px, pz)) ∧ Hid (∀ s, s < t → (es.getD s edD).1 ≠ (px, pz)))) := Lib.hid fun x hx => by
              rcases hx with ⟨q, HM⟩ | ⟨t, q1, q2, q3, q4⟩
              · refine .inl ⟨q, Lib.hid fun t ht => ?_⟩
                rcases Nat.lt_or_ge t j with c | c
                · exact HM.out t c
                · rw [show t = j by omega]; exact HNQ.out
              · exact .inr ⟨t, by omega, q2, q3, q4⟩
            have HXX := Lib.hid (HX2.out _ HX)
            clear HX HX2
            go_wp2
            (refine wp_region_ext (by kernel_rfl) (by kernel_rfl) ?_; (repeat (go_big_quiet_step (fail))); refine wpQuiet_nil ?_; intro wq hxwq; obtain ⟨hcwq, hfwq⟩ := hxwq.rules; have hswq := hxwq.size; (try simp at hswq))
            go_wp2
            go_roundw
            case rel => exact ⟨j + 1, by omega, by go_num, HXX.out, by (repeat (first | with_reducible exact Ext.refl _ | with_reducible assumption | ((with_reducible apply Src.ext); with_reducible assumption) | with_reducible refine Ext.alloc ?_ _ | with_reducible refine Ext.drew ?_ | with_reducible refine Ext.drewN ?_ _ | ((with_reducible refine Ext.setCell' ?_ ?_ _); solve | omega | simp | (simp; omega)) | (with_reducible refine Ext.trans ?_ (by with_reducible assumption))))⟩
            case measure => simp [intOf]; omega
        · obtain rfl : j = n := by omega
          rcases HX with ⟨rfl, HM⟩ | ⟨t, htj, rfl, HT, HM⟩
          · have hno : ¬ OneR es := HW.out.stuck (by rw [← HN.out]; exact hk) HK.out (fun q hq => HM.out q (by rw [HN.out]; exact hq))
            have HM12 := Lib.hid (HNO.out hno)
            clear hno HNO
            go_wp2
            go_ret2
            exact ⟨_, by rw [HM12.out.1]; rfl, by rw [HM12.out.2]; exact Own.nil _ _, HX8.out.trans (by (repeat (first | with_reducible exact Ext.refl _ | with_reducible assumption | ((with_reducible apply Src.ext); with_reducible assumption) | with_reducible refine Ext.alloc ?_ _ | with_reducible refine Ext.drew ?_ | with_reducible refine Ext.drewN ?_ _ | ((with_reducible refine Ext.setCell' ?_ ?_ _); solve | omega | simp | (simp; omega)) | (with_reducible refine Ext.trans ?_ (by with_reducible assumption)))))⟩
          · have HTN : Hid (t < es.length) := Lib.hid (by rw [← HN.out]; exact htj)
            by_cases hkn : j ≤ k
            · have hno : ¬ OneR es := HW.out.far (by rw [← HN.out]; exact hkn) (HK.out.resolve_left (by omega)) (by rw [← HN.out]; exact hk)
              have HM12 := Lib.hid (HNO.out hno)
              clear hno HNO
              go_wp2
              go_ret2
              exact ⟨_, by rw [HM12.out.1]; rfl, by rw [HM12.out.2]; exact Own.nil _ _, HX8.out.trans (by (repeat (first | with_reducible exact Ext.refl _ | with_reducible assumption | ((with_reducible apply Src.ext); with_reducible assumption) | with_reducible refine Ext.alloc ?_ _ | with_reducible refine Ext.drew ?_ | with_reducible refine Ext.drewN ?_ _ | ((with_reducible refine Ext.setCell' ?_ ?_ _); solve | omega | simp | (simp; omega)) | (with_reducible refine Ext.trans ?_ (by with_reducible assumption)))))⟩
            · have HW2 := Lib.hid (HW.out.step HK.out HTN.out HT.out HM.out)
              obtain ⟨b', off', e1, e2, e3, e4, hbe, hbl, he, g0, g1, g2, g3⟩ := (HH.out.ext (HX8.out.trans hxq)).ed (k := t) HTN.out
              injection hbe with hbe
              injection hbe with hbe1 hbe2
              subst hbe1 hbe2
              have hek : es.getD t edD = ((e1, e2), (e3, e4)) := he
              rw [show (es.getD t edD).2 = (e3, e4) by rw [hek]] at HW2
              have f0 := HB9.out.frozen 0
              have f1 := HB9.out.frozen 1
              have HEK := Lib.hid hek
              clear he hek
              go_upto_region 17 with (fail)
              have HV9 := Lib.hid (HV8.out.ext hxq)
              have hU : But (w.heap.size + 1) w9 ((w9.setCell ⟨w.heap.size + 1, 0, none⟩ (.int .i64 e3)).setCell ⟨w.heap.size + 1, 1, none⟩ (.int .i64 e4)) := ((But.refl _ _).set_ 0 _).set_ 1 _
              have hVS : OwP ((w9.setCell ⟨w.heap.size + 1, 0, none⟩ (.int .i64 e3)).setCell ⟨w.heap.size + 1, 1, none⟩ (.int .i64 e4)) w.heap.size (.slice A8 (k + 1) c8) (wkL es (k + 1)) := HV9.out.kept hU.grown (by
                rcases hq : (Value.slice A8 (k + 1) c8).ownBlock with _ | q
                · exact .inl rfl
                · exact .inr (fun e => by injection e with e; exact HNB8.out q hq e))
              have hXS : Ext w ((w9.setCell ⟨w.heap.size + 1, 0, none⟩ (.int .i64 e3)).setCell ⟨w.heap.size + 1, 1, none⟩ (.int .i64 e4)) := ((HX8.out.trans hxq).setCell (by show w.heap.size ≤ w.heap.size + 1; omega) _).setCell (by show w.heap.size ≤ w.heap.size + 1; omega) _
              have hBS : Blk ((w9.setCell ⟨w.heap.size + 1, 0, none⟩ (.int .i64 e3)).setCell ⟨w.heap.size + 1, 1, none⟩ (.int .i64 e4)) (w.heap.size + 1) 33 #[.int .i64 e3, .int .i64 e4] := Blk.eq ((HB9.out.set_ 0 _).set_ 1 _) (by rfl)
              obtain ⟨wS, hwS⟩ : ∃ wS, wS = (w9.setCell ⟨w.heap.size + 1, 0, none⟩ (.int .i64 e3)).setCell ⟨w.heap.size + 1, 1, none⟩ (.int .i64 e4) := ⟨_, rfl⟩
              obtain ⟨A7, c7, hv7, hS7, -, -, -⟩ := hVS.sl len_encP
              injection hv7 with hv7 hvl hv8
              clear hvl
              subst hv7 hv8
              obtain ⟨b7, off7, hA7e, hb7, r0, r1⟩ := hS7.pt (k := 0) (by rw [wkL_len]; omega)
              subst hA7e
              rw [HR0.out] at r0 r1
              simp only [Nat.zero_mul, Nat.add_zero] at r0 r1
              rw [← hwS]
              rw [← hwS] at hVS hXS hBS hS7 hb7 r0 r1
              have HVS := Lib.hid hVS
              have HXS := Lib.hid hXS
              have u0 : wS.cell? ⟨w.heap.size + 1, 0, none⟩ = some (.int .i64 e3) := hBS.cell 0
              have u1 : wS.cell? ⟨w.heap.size + 1, 1, none⟩ = some (.int .i64 e4) := hBS.cell 1
              have HBS := Lib.hid hBS
              have HS7 := Lib.hid hS7
              have hsS := hXS.size
              have hlS := hBS.lt
              clear hwS hVS hXS hBS hS7 hU g0 g1 g2 g3 f0 f1 t0 t1
              by_cases hc : eqP e3 e4 a1 a2 = true
              · have hoe : OneR es ↔ k + 1 = j := by rw [HN.out]; exact HW2.out.end_ (by omega) (by rw [← HN.out]; omega) (by rw [HW0.out]; exact congrArg some (Prod.ext (eqP_iff.1 hc).1 (eqP_iff.1 hc).2))
                have HOE := Lib.hid hoe
                clear hoe
                (refine wp_region_ext (by kernel_rfl) (by kernel_rfl) ?_; (repeat (go_big_quiet_step (fail))); refine wpQuiet_nil ?_; intro wq hxwq; obtain ⟨hcwq, hfwq⟩ := hxwq.rules; have hswq := hxwq.size; (try simp at hswq))
                go_wp2_with fail
                refine (s_straightN _ _ _ (wkL es (k + 1)) _ (HS7.out.ext (by (repeat (first | with_reducible exact Ext.refl _ | with_reducible assumption | ((with_reducible apply Src.ext); with_reducible assumption) | with_reducible refine Ext.alloc ?_ _ | with_reducible refine Ext.drew ?_ | with_reducible refine Ext.drewN ?_ _ | ((with_reducible refine Ext.setCell' ?_ ?_ _); solve | omega | simp | (simp; omega)) | (with_reducible refine Ext.trans ?_ (by with_reducible assumption)))))) (wkL_len es (k + 1)).symm (by omega)).mono ?_
                rintro e w10 ⟨v10, rfl, hO10, hx10⟩
                have hX10 : Ext wS w10 := by (repeat (first | with_reducible exact Ext.refl _ | with_reducible assumption | ((with_reducible apply Src.ext); with_reducible assumption) | with_reducible refine Ext.alloc ?_ _ | with_reducible refine Ext.drew ?_ | with_reducible refine Ext.drewN ?_ _ | ((with_reducible refine Ext.setCell' ?_ ?_ _); solve | omega | simp | (simp; omega)) | (with_reducible refine Ext.trans ?_ (by with_reducible assumption))))
                have HX10 := Lib.hid hX10
                have HO10 := Lib.hid hO10
                obtain ⟨A10, c10, hv10, hS10, -, -, -⟩ := hO10.sl len_encP
                obtain ⟨n10, hn10⟩ : ∃ n10, n10 = (stP (wkL es (k + 1))).length := ⟨_, rfl⟩
                rw [← hn10] at hv10
                subst hv10
                have HN10 := Lib.hid hn10
                have hle10 : n10 ≤ 24 := by
                  have h1 := stTo_len (wkL es (k + 1)) (wkL es (k + 1)).length
                  rw [wkL_len] at h1
                  have h2 : n10 = (stTo (wkL es (k + 1)) (wkL es (k + 1)).length).length := hn10
                  rw [wkL_len] at h2
                  omega
                have HS10 := Lib.hid hS10
                clear hO10 hX10 hx10 hS10 hn10
                by_cases hkj : k + 1 = j
                · have hkb : ((k : Int) + 1 != (j : Int)) = false := by rw [bne_eq_false_iff_eq]; omega
                  have hone := HOE.out.2 hkj
                  have hMB : mgB es = ringB (stP (wkL es (k + 1))) := by rw [mgB_yes hone, ← HN.out, ← hkj]
                  have HWK : Hid (stP (wkL es es.length) = stP (wkL es (k + 1))) := Lib.hid (by rw [← HN.out, ← hkj])
                  have HMB := Lib.hid hMB
                  have HIR := Lib.hid fun W hS => s_IsRingN A10 n10 c10 (stP (wkL es (k + 1))) W hS HN10.out (by omega)
                  clear hMB hone hkj
                  cases hr : ringB (stP (wkL es (k + 1))) with
                  | false =>
                    rw [hr] at HMB HIR
                    clear hr
                    go_wp2_with fail
                    refine (HIR.out _ (HS10.out.ext (by (repeat (first | with_reducible exact Ext.refl _ | with_reducible assumption | ((with_reducible apply Src.ext); with_reducible assumption) | with_reducible refine Ext.alloc ?_ _ | with_reducible refine Ext.drew ?_ | with_reducible refine Ext.drewN ?_ _ | ((with_reducible refine Ext.setCell' ?_ ?_ _); solve | omega | simp | (simp; omega)) | (with_reducible refine Ext.trans ?_ (by with_reducible assumption))))))).mono ?_
                    rintro e w11 ⟨rfl, hx11⟩
                    go_wp2
                    go_ret2
                    exact ⟨_, by rw [HMB.out]; rfl, by rw [mgR_no HMB.out]; exact Own.nil _ _, HXS.out.trans (HX10.out.trans (by (repeat (first | with_reducible exact Ext.refl _ | with_reducible assumption | ((with_reducible apply Src.ext); with_reducible assumption) | with_reducible refine Ext.alloc ?_ _ | with_reducible refine Ext.drew ?_ | with_reducible refine Ext.drewN ?_ _ | ((with_reducible refine Ext.setCell' ?_ ?_ _); solve | omega | simp | (simp; omega)) | (with_reducible refine Ext.trans ?_ (by with_reducible assumption))))))⟩
                  | true =>
                    obtain ⟨hr3, _, hok⟩ := ring_facts hr
                    have h3 : 0 < n10 := by rw [HN10.out]; omega
                    have HOK := Lib.hid hok
                    rw [hr] at HMB HIR
                    clear hr hr3 hok
                    go_wp2_with fail
                    refine (HIR.out _ (HS10.out.ext (by (repeat (first | with_reducible exact Ext.refl _ | with_reducible assumption | ((with_reducible apply Src.ext); with_reducible assumption) | with_reducible refine Ext.alloc ?_ _ | with_reducible refine Ext.drew ?_ | with_reducible refine Ext.drewN ?_ _ | ((with_reducible refine Ext.setCell' ?_ ?_ _); solve | omega | simp | (simp; omega)) | (with_reducible refine Ext.trans ?_ (by with_reducible assumption))))))).mono ?_
                    rintro e w11 ⟨rfl, hx11⟩
                    go_wp2_with fail
                    refine (s_normalN _ _ _ (stP (wkL es (k + 1))) _ (HS10.out.ext (by (repeat (first | with_reducible exact Ext.refl _ | with_reducible assumption | ((with_reducible apply Src.ext); with_reducible assumption) | with_reducible refine Ext.alloc ?_ _ | with_reducible refine Ext.drew ?_ | with_reducible refine Ext.drewN ?_ _ | ((with_reducible refine Ext.setCell' ?_ ?_ _); solve | omega | simp | (simp; omega)) | (with_reducible refine Ext.trans ?_ (by with_reducible assumption)))))) HN10.out h3 (by omega) HOK.out).mono ?_
                    rintro e w12 ⟨v12, rfl, hO12, hx12⟩
                    have HO12 := Lib.hid hO12
                    have HX12 : Hid (Ext w10 w12) := Lib.hid (by (repeat (first | with_reducible exact Ext.refl _ | with_reducible assumption | ((with_reducible apply Src.ext); with_reducible assumption) | with_reducible refine Ext.alloc ?_ _ | with_reducible refine Ext.drew ?_ | with_reducible refine Ext.drewN ?_ _ | ((with_reducible refine Ext.setCell' ?_ ?_ _); solve | omega | simp | (simp; omega)) | (with_reducible refine Ext.trans ?_ (by with_reducible assumption)))))
                    clear hO12
                    go_wp2
                    go_ret2
                    exact ⟨_, by rw [HMB.out]; rfl, by rw [mgR_yes HMB.out, HWK.out]; exact HO12.out.less (by have h1 := HXS.out.size; have h2 := HX10.out.size; have h4 := hx11.size; omega), HXS.out.trans (HX10.out.trans HX12.out)⟩
                · have hkb : ((k : Int) + 1 != (j : Int)) = true := by rw [bne_iff_ne]; omega
                  have hno : ¬ OneR es := fun hr => hkj (HOE.out.1 hr)
                  have HM12 := Lib.hid (HNO.out hno)
                  clear hno HNO hkj
                  go_wp2
                  go_ret2
                  exact ⟨_, by rw [HM12.out.1]; rfl, by rw [HM12.out.2]; exact Own.nil _ _, HXS.out.trans (HX10.out.trans (by (repeat (first | with_reducible exact Ext.refl _ | with_reducible assumption | ((with_reducible apply Src.ext); with_reducible assumption) | with_reducible refine Ext.alloc ?_ _ | with_reducible refine Ext.drew ?_ | with_reducible refine Ext.drewN ?_ _ | ((with_reducible refine Ext.setCell' ?_ ?_ _); solve | omega | simp | (simp; omega)) | (with_reducible refine Ext.trans ?_ (by with_reducible assumption))))))⟩
              · have hc' : eqP e3 e4 a1 a2 = false := Bool.eq_false_iff.2 hc
                have hne : some (e3, e4) ≠ wk es 0 := fun e => by
                  rw [HW0.out] at e
                  injection e with e
                  injection e with q1 q2
                  exact hc (eqP_iff.2 ⟨q1, q2⟩)
                have HNE := Lib.hid hne
                clear hc hne
                (refine wp_region_ext (by kernel_rfl) (by kernel_rfl) ?_; (repeat (go_big_quiet_step (fail))); refine wpQuiet_nil ?_; intro wq hxwq; obtain ⟨hcwq, hfwq⟩ := hxwq.rules; have hswq := hxwq.size; (try simp at hswq))
                go_wp2
                go_roundw
                case rel => exact ⟨k + 1, (e3, e4), by omega, Lib.hid (HVS.out.ext (by (repeat (first | with_reducible exact Ext.refl _ | with_reducible assumption | ((with_reducible apply Src.ext); with_reducible assumption) | with_reducible refine Ext.alloc ?_ _ | with_reducible refine Ext.drew ?_ | with_reducible refine Ext.drewN ?_ _ | ((with_reducible refine Ext.setCell' ?_ ?_ _); solve | omega | simp | (simp; omega)) | (with_reducible refine Ext.trans ?_ (by with_reducible assumption)))))), HNB8, HBS.out.ext (by (repeat (first | with_reducible exact Ext.refl _ | with_reducible assumption | ((with_reducible apply Src.ext); with_reducible assumption) | with_reducible refine Ext.alloc ?_ _ | with_reducible refine Ext.drew ?_ | with_reducible refine Ext.drewN ?_ _ | ((with_reducible refine Ext.setCell' ?_ ?_ _); solve | omega | simp | (simp; omega)) | (with_reducible refine Ext.trans ?_ (by with_reducible assumption))))), HW2, Lib.hid (.inr HNE.out), HXS.out.trans (by (repeat (first | with_reducible exact Ext.refl _ | with_reducible assumption | ((with_reducible apply Src.ext); with_reducible assumption) | with_reducible refine Ext.alloc ?_ _ | with_reducible refine Ext.drew ?_ | with_reducible refine Ext.drewN ?_ _ | ((with_reducible refine Ext.setCell' ?_ ?_ _); solve | omega | simp | (simp; omega)) | (with_reducible refine Ext.trans ?_ (by with_reducible assumption)))))⟩
                case measure => simp [lenV]; omega

end Go.Proofs.Yteppjdoggjcdoaa
