/- Lists of links, their codes, children and what lies inside, as the program sees them. -/
import Derived.Test.YtmpgjajkaehdiaaGreatDoorZD
import Derived.Deep.RegionHeld3
import Derived.Deep.DeepCutAuto
import Derived.RegionTactic
import Derived.BigRegion
import Derived.WalkLawsBesides
import Derived.WalkSpells
import Derived.Lib.MinMax
import Derived.Outline
namespace Go.Proofs.YtmpgjajkaehdiaaGreatDoor
open Go.RowKit
attribute [local go_sem] ExtOf.cell ExtOf.frozen

theorem two_any (L : List Lk) (l : Lk) (k : Nat) : ((L.take k).any (twoB l)) = ((L.take k).any fun m => m.1 == l.1 && meetB m.2.2.1 m.2.2.2 l.2.2.1 l.2.2.2) := rfl
set_option maxRecDepth 20000 in
set_option maxHeartbeats 12800000 in
theorem i_AreLinks (A : Option Addr) (n c : Nat) (L : List Lk) (w : World) (h : SlAt w 4 encK A L) (hn : n = L.length) (hl : L.length ≤ 1048576) (hcap : n ≤ c) (hg : Links L) :
    Calls Tryz.prog 20 #[.slice A n c] w fun e w' => e = .returned (.bool (lksB L)) ∧ Ext w w' := by
  have HN := Lib.hid hn
  have hn2 : n ≤ 1048576 := by omega
  have HS := Lib.hid h
  clear hn h
  go_enter Tryz.func20, Tryz.ntmps20
  go_wp2
  go_loopw [11] (fun i wr => ∃ k : Nat, k ≤ n ∧ i = .int .i64 k ∧ Hid (∀ j, j < k → okK L j) ∧ Ext w wr) (fun i _ => n - (intOf i).toNat)
  case atStart => exact ⟨0, by omega, rfl, fun j hj => absurd hj (by omega), by (repeat (first | with_reducible exact Ext.refl _ | with_reducible assumption | ((with_reducible apply Src.ext); with_reducible assumption) | with_reducible refine Ext.alloc ?_ _ | with_reducible refine Ext.drew ?_ | with_reducible refine Ext.drewN ?_ _ | ((with_reducible refine Ext.setCell' ?_ ?_ _); solve | omega | simp | (simp; omega)) | (with_reducible refine Ext.trans ?_ (by with_reducible assumption))))⟩
  case round =>
    obtain ⟨k, hk, rfl, HJ, hxr⟩ := hrel
    obtain ⟨w5, rfl⟩ : ∃ x, x = wr := ⟨wr, rfl⟩
    by_cases hlt : k < n
    · have hkl : k < L.length := by have := HN.out; omega
      obtain ⟨b, off, rfl, hb, d0, d1, d2, d3⟩ := (HS.out.ext hxr).lk hkl
      have hgk := hg k
      obtain ⟨v, hve⟩ : ∃ v, v = L.getD k lkD := ⟨_, rfl⟩
      rw [← hve] at d0 d1 d2 d3 hgk
      have HV := Lib.hid hve
      have HC := Lib.hid (fun W => i_isLink v W hgk.1 hgk.2)
      have HK2 : Hid (∀ W g, Blk W g 57 #[.string (tx v.1), .string (tx v.2.1), .int .i64 v.2.2.1, .int .i64 v.2.2.2] → Ext w W → Calls Tryz.prog 67 #[.slice (some ⟨b, off, none⟩) k c, .func (.func 68) #[] #[.pointer (some ⟨g, 0, none⟩)]] W fun e w' => e = .returned (.bool ((L.take k).any (twoB v))) ∧ Ext W w') := Lib.hid (fun W g hB hx =>
        i_ContainsFuncK (twoB v) _ _ en_AreLinks1 _ k c (L.take k) W ((HS.out.ext hx).take k) (by rw [List.length_take]; omega) (by omega) (fun m _ W' hW' => i_AreLinks1 v m g W' ((hB.ext hW').cell 0) ((hB.ext hW').cell 2) ((hB.ext hW').cell 3)))
      have hres : ∀ q, ((L.take k).any (twoB v)) = q → lkB v = true → (q = true → lksB L = false) ∧ (q = false → okK L k) := fun q hq hq2 => by
        rw [HV.out, two_any] at hq
        rw [HV.out] at hq2
        exact ⟨fun e => lksB_two hkl (by rw [hq]; exact e), fun e => okK_of hkl hq2 (by rw [hq]; exact e)⟩
      have HRES := Lib.hid hres
      have f1 : (0 : Int) ≤ (k : Int) := by omega
      have f2 : (k : Int) ≤ (c : Int) := by omega
      have f3 : (k : Int) ≤ (n : Int) := by omega
      clear hve hgk hres
      cases hq : lkB v with
      | false =>
        have HNO : Hid (lksB L = false) := Lib.hid (lksB_bad hkl (by rw [← HV.out]; exact hq))
        rw [hq] at HC
        generalize tx v.1 = sc at *
        generalize tx v.2.1 = sp at *
        clear hq hkl
        (go_wp2_with fail; refine (HC.out _).mono ?_; rintro e w1 ⟨rfl, hx1⟩; obtain ⟨hc1, hf1⟩ := hx1.rules; have hs1 := hx1.size; (try simp at hs1); have := (show w5.heap.size < w1.heap.size from by omega))
        go_wp2
        go_ret
        exact ⟨ret_bool' HNO.out.symm, by (repeat (first | with_reducible exact Ext.refl _ | with_reducible assumption | ((with_reducible apply Src.ext); with_reducible assumption) | with_reducible refine Ext.alloc ?_ _ | with_reducible refine Ext.drew ?_ | with_reducible refine Ext.drewN ?_ _ | ((with_reducible refine Ext.setCell' ?_ ?_ _); solve | omega | simp | (simp; omega)) | (with_reducible refine Ext.trans ?_ (by with_reducible assumption))))⟩
      | true =>
        have HQ := Lib.hid (HRES.out _ rfl hq)
        rw [hq] at HC
        generalize tx v.1 = sc at *
        generalize tx v.2.1 = sp at *
        clear hq hkl
        cases hq2 : (L.take k).any (twoB v) with
        | true =>
          rw [hq2] at HK2 HQ
          have HNO : Hid (lksB L = false) := Lib.hid (HQ.out.1 rfl)
          clear hq2
          (go_wp2_with fail; refine (HC.out _).mono ?_; rintro e w1 ⟨rfl, hx1⟩; obtain ⟨hc1, hf1⟩ := hx1.rules; have hs1 := hx1.size; (try simp at hs1); have := (show w5.heap.size < w1.heap.size from by omega))
          go_wp2_with fail
          refine (HK2.out _ _ (by (repeat (first | with_reducible assumption | ((with_reducible apply Blk.new); solve | simp | rfl) | with_reducible apply Blk.drew | with_reducible apply Blk.drewN | ((with_reducible apply Blk.far'); solve | omega | simp | (simp; omega)) | with_reducible apply Blk.set_ | with_reducible apply Blk.alloc | ((with_reducible apply Blk.ext'); with_reducible assumption) | ((with_reducible apply Blk.but'); (with_reducible assumption); solve | omega | (simp; omega))))) (by (repeat (first | with_reducible exact Ext.refl _ | with_reducible assumption | ((with_reducible apply Src.ext); with_reducible assumption) | with_reducible refine Ext.alloc ?_ _ | with_reducible refine Ext.drew ?_ | with_reducible refine Ext.drewN ?_ _ | ((with_reducible refine Ext.setCell' ?_ ?_ _); solve | omega | simp | (simp; omega)) | (with_reducible refine Ext.trans ?_ (by with_reducible assumption)))))).mono ?_
          rintro e w2 ⟨rfl, hx2⟩
          go_wp2
          go_ret
          exact ⟨ret_bool' HNO.out.symm, by (repeat (first | with_reducible exact Ext.refl _ | with_reducible assumption | ((with_reducible apply Src.ext); with_reducible assumption) | with_reducible refine Ext.alloc ?_ _ | with_reducible refine Ext.drew ?_ | with_reducible refine Ext.drewN ?_ _ | ((with_reducible refine Ext.setCell' ?_ ?_ _); solve | omega | simp | (simp; omega)) | (with_reducible refine Ext.trans ?_ (by with_reducible assumption))))⟩
        | false =>
          rw [hq2] at HK2 HQ
          have HJ2 := Lib.hid (upTo_succ HJ.out (HQ.out.2 rfl))
          clear hq2
          (go_wp2_with fail; refine (HC.out _).mono ?_; rintro e w1 ⟨rfl, hx1⟩; obtain ⟨hc1, hf1⟩ := hx1.rules; have hs1 := hx1.size; (try simp at hs1); have := (show w5.heap.size < w1.heap.size from by omega))
          go_wp2_with fail
          refine (HK2.out _ _ (by (repeat (first | with_reducible assumption | ((with_reducible apply Blk.new); solve | simp | rfl) | with_reducible apply Blk.drew | with_reducible apply Blk.drewN | ((with_reducible apply Blk.far'); solve | omega | simp | (simp; omega)) | with_reducible apply Blk.set_ | with_reducible apply Blk.alloc | ((with_reducible apply Blk.ext'); with_reducible assumption) | ((with_reducible apply Blk.but'); (with_reducible assumption); solve | omega | (simp; omega))))) (by (repeat (first | with_reducible exact Ext.refl _ | with_reducible assumption | ((with_reducible apply Src.ext); with_reducible assumption) | with_reducible refine Ext.alloc ?_ _ | with_reducible refine Ext.drew ?_ | with_reducible refine Ext.drewN ?_ _ | ((with_reducible refine Ext.setCell' ?_ ?_ _); solve | omega | simp | (simp; omega)) | (with_reducible refine Ext.trans ?_ (by with_reducible assumption)))))).mono ?_
          rintro e w2 ⟨rfl, hx2⟩
          go_wp2
          go_roundw
          case rel => exact ⟨k + 1, by omega, by go_num, HJ2, by (repeat (first | with_reducible exact Ext.refl _ | with_reducible assumption | ((with_reducible apply Src.ext); with_reducible assumption) | with_reducible refine Ext.alloc ?_ _ | with_reducible refine Ext.drew ?_ | with_reducible refine Ext.drewN ?_ _ | ((with_reducible refine Ext.setCell' ?_ ?_ _); solve | omega | simp | (simp; omega)) | (with_reducible refine Ext.trans ?_ (by with_reducible assumption))))⟩
          case measure => simp [intOf]; omega
    · obtain rfl : k = n := by omega
      have HP : Hid (∀ j, j < L.length → okK L j) := Lib.hid fun j hj => HJ.out j (by have := HN.out; omega)
      go_wp2
      go_loopw [29] (fun i wr => ∃ a : Nat, a ≤ k ∧ i = .int .i64 a ∧ Hid (∀ q, q < a → ∀ m, m < k → (lkHas (L.getD m lkD) (L.getD q lkD).2.2.1 && (wayU L (L.getD m lkD).1 (L.getD q lkD).2.2.1).2) = false) ∧ Ext w wr) (fun i _ => k - (intOf i).toNat)
      case atStart => exact ⟨0, by omega, rfl, fun j hj => absurd hj (by omega), by (repeat (first | with_reducible exact Ext.refl _ | with_reducible assumption | ((with_reducible apply Src.ext); with_reducible assumption) | with_reducible refine Ext.alloc ?_ _ | with_reducible refine Ext.drew ?_ | with_reducible refine Ext.drewN ?_ _ | ((with_reducible refine Ext.setCell' ?_ ?_ _); solve | omega | simp | (simp; omega)) | (with_reducible refine Ext.trans ?_ (by with_reducible assumption))))⟩
      case round =>
        obtain ⟨a, ha, rfl, HA, hxa⟩ := hrel
        obtain ⟨w6, rfl⟩ : ∃ x, x = wr := ⟨wr, rfl⟩
        by_cases hak : a < k
        · have hal : a < L.length := by have := HN.out; omega
          obtain ⟨b, off, rfl, hb, d0, d1, d2, d3⟩ := (HS.out.ext hxa).lk hal
          obtain ⟨u, hue⟩ : ∃ u, u = L.getD a lkD := ⟨_, rfl⟩
          rw [← hue] at d0 d1 d2 d3
          have HU := Lib.hid hue
          have hsa := hxa.size
          clear hue
          generalize hsc : tx u.1 = sc at *
          generalize hsp : tx u.2.1 = sp at *
          clear hsc hsp
          go_wp2
          go_loopw [35] (fun i wi => ∃ j : Nat, j ≤ k ∧ i = .int .i64 j ∧ Hid (∀ m, m < j → (lkHas (L.getD m lkD) u.2.2.1 && (wayU L (L.getD m lkD).1 u.2.2.1).2) = false) ∧ Blk wi w6.heap.size 57 #[.string sc, .string sp, .int .i64 u.2.2.1, .int .i64 u.2.2.2] ∧ Ext w6 wi) (fun i _ => k - (intOf i).toNat)
          case atStart => exact ⟨0, by omega, rfl, fun q hq => absurd hq (by omega), Blk.eq (by (repeat (first | with_reducible assumption | ((with_reducible apply Blk.new); solve | simp | rfl) | with_reducible apply Blk.drew | with_reducible apply Blk.drewN | ((with_reducible apply Blk.far'); solve | omega | simp | (simp; omega)) | with_reducible apply Blk.set_ | with_reducible apply Blk.alloc | ((with_reducible apply Blk.ext'); with_reducible assumption) | ((with_reducible apply Blk.but'); (with_reducible assumption); solve | omega | (simp; omega))))) (by rfl), by (repeat (first | with_reducible exact Ext.refl _ | with_reducible assumption | ((with_reducible apply Src.ext); with_reducible assumption) | with_reducible refine Ext.alloc ?_ _ | with_reducible refine Ext.drew ?_ | with_reducible refine Ext.drewN ?_ _ | ((with_reducible refine Ext.setCell' ?_ ?_ _); solve | omega | simp | (simp; omega)) | (with_reducible refine Ext.trans ?_ (by with_reducible assumption))))⟩
          case round =>
            obtain ⟨j, hj, rfl, HO, hB, hxi⟩ := hrel
            obtain ⟨w7, rfl⟩ : ∃ x, x = wr := ⟨wr, rfl⟩
            have hxw := hxa.trans hxi
            have hBl := hB.lt
            have b2 : w7.cell? ⟨w6.heap.size, 2, none⟩ = some (.int .i64 u.2.2.1) := hB.cell 2
            have HB := Lib.hid hB
            clear hB d0 d1 d2 d3 hb
            by_cases hjk : j < k
            · have hjl : j < L.length := by have := HN.out; omega
              obtain ⟨b', off', hA', hb', e0, e1, e2, e3⟩ := (HS.out.ext hxw).lk hjl
              injection hA' with hA'
              injection hA' with hA1 hA2
              subst hA1 hA2
              obtain ⟨v, hve⟩ : ∃ v, v = L.getD j lkD := ⟨_, rfl⟩
              rw [← hve] at e0 e1 e2 e3
              have HV := Lib.hid hve
              have HH := Lib.hid (fun W => i_has v.2.2.1 v.2.2.2 u.2.2.1 W)
              have HCI := Lib.hid (fun W hW => i_isCircle (some ⟨b, off, none⟩) k c L v.1 u.2.2.1 W hW HN.out hn2)
              have hlk : lkHas v u.2.2.1 = inB u.2.2.1 v.2.2.1 v.2.2.2 := rfl
              clear hve
              cases hq : lkHas v u.2.2.1 with
              | false =>
                rw [← hlk, hq] at HH
                have HO2 := Lib.hid (upTo_succ (P := fun m => (lkHas (L.getD m lkD) u.2.2.1 && (wayU L (L.getD m lkD).1 u.2.2.1).2) = false) HO.out (by rw [← HV.out, hq]; rfl))
                generalize tx v.1 = vc at *
                generalize tx v.2.1 = vp at *
                clear hq hlk hjl
                (go_wp2_with fail; refine (HH.out _).mono ?_; rintro e w1 ⟨rfl, hx1⟩; obtain ⟨hc1, hf1⟩ := hx1.rules; have hs1 := hx1.size; (try simp at hs1); have := (show w6.heap.size < w1.heap.size from by omega); have := (show w7.heap.size < w1.heap.size from by omega))
                go_wp2
                go_roundw
                case rel => exact ⟨j + 1, by omega, by go_num, HO2, HB.out.ext (by (repeat (first | with_reducible exact Ext.refl _ | with_reducible assumption | ((with_reducible apply Src.ext); with_reducible assumption) | with_reducible refine Ext.alloc ?_ _ | with_reducible refine Ext.drew ?_ | with_reducible refine Ext.drewN ?_ _ | ((with_reducible refine Ext.setCell' ?_ ?_ _); solve | omega | simp | (simp; omega)) | (with_reducible refine Ext.trans ?_ (by with_reducible assumption))))), by (repeat (first | with_reducible exact Ext.refl _ | with_reducible assumption | ((with_reducible apply Src.ext); with_reducible assumption) | with_reducible refine Ext.alloc ?_ _ | with_reducible refine Ext.drew ?_ | with_reducible refine Ext.drewN ?_ _ | ((with_reducible refine Ext.setCell' ?_ ?_ _); solve | omega | simp | (simp; omega)) | (with_reducible refine Ext.trans ?_ (by with_reducible assumption))))⟩
                case measure => simp [intOf]; omega
              | true =>
                rw [← hlk, hq] at HH
                cases hq2 : (wayU L v.1 u.2.2.1).2 with
                | false =>
                  rw [hq2] at HCI
                  have HO2 := Lib.hid (upTo_succ (P := fun m => (lkHas (L.getD m lkD) u.2.2.1 && (wayU L (L.getD m lkD).1 u.2.2.1).2) = false) HO.out (by rw [← HV.out, hq, hq2]; rfl))
                  generalize tx v.1 = vc at *
                  generalize tx v.2.1 = vp at *
                  clear hq hq2 hlk hjl
                  (go_wp2_with fail; refine (HH.out _).mono ?_; rintro e w1 ⟨rfl, hx1⟩; obtain ⟨hc1, hf1⟩ := hx1.rules; have hs1 := hx1.size; (try simp at hs1); have := (show w6.heap.size < w1.heap.size from by omega); have := (show w7.heap.size < w1.heap.size from by omega))
                  go_wp2_with fail
                  refine (HCI.out _ (HS.out.ext (hxw.trans (by (repeat (first | with_reducible exact Ext.refl _ | with_reducible assumption | ((with_reducible apply Src.ext); with_reducible assumption) | with_reducible refine Ext.alloc ?_ _ | with_reducible refine Ext.drew ?_ | with_reducible refine Ext.drewN ?_ _ | ((with_reducible refine Ext.setCell' ?_ ?_ _); solve | omega | simp | (simp; omega)) | (with_reducible refine Ext.trans ?_ (by with_reducible assumption)))))))).mono ?_
                  rintro e w2 ⟨rfl, hx2⟩
                  go_wp2
                  go_roundw
                  case rel => exact ⟨j + 1, by omega, by go_num, HO2, HB.out.ext (by (repeat (first | with_reducible exact Ext.refl _ | with_reducible assumption | ((with_reducible apply Src.ext); with_reducible assumption) | with_reducible refine Ext.alloc ?_ _ | with_reducible refine Ext.drew ?_ | with_reducible refine Ext.drewN ?_ _ | ((with_reducible refine Ext.setCell' ?_ ?_ _); solve | omega | simp | (simp; omega)) | (with_reducible refine Ext.trans ?_ (by with_reducible assumption))))), by (repeat (first | with_reducible exact Ext.refl _ | with_reducible assumption | ((with_reducible apply Src.ext); with_reducible assumption) | with_reducible refine Ext.alloc ?_ _ | with_reducible refine Ext.drew ?_ | with_reducible refine Ext.drewN ?_ _ | ((with_reducible refine Ext.setCell' ?_ ?_ _); solve | omega | simp | (simp; omega)) | (with_reducible refine Ext.trans ?_ (by with_reducible assumption))))⟩
                  case measure => simp [intOf]; omega
                | true =>
                  rw [hq2] at HCI
                  have HNO : Hid (lksB L = false) := Lib.hid (lksB_cir hal hjl (by rw [← HV.out, ← HU.out]; exact hq2))
                  generalize tx v.1 = vc at *
                  generalize tx v.2.1 = vp at *
                  clear hq hq2 hlk hjl
                  (go_wp2_with fail; refine (HH.out _).mono ?_; rintro e w1 ⟨rfl, hx1⟩; obtain ⟨hc1, hf1⟩ := hx1.rules; have hs1 := hx1.size; (try simp at hs1); have := (show w6.heap.size < w1.heap.size from by omega); have := (show w7.heap.size < w1.heap.size from by omega))
                  go_wp2_with fail
                  refine (HCI.out _ (HS.out.ext (hxw.trans (by (repeat (first | with_reducible exact Ext.refl _ | with_reducible assumption | ((with_reducible apply Src.ext); with_reducible assumption) | with_reducible refine Ext.alloc ?_ _ | with_reducible refine Ext.drew ?_ | with_reducible refine Ext.drewN ?_ _ | ((with_reducible refine Ext.setCell' ?_ ?_ _); solve | omega | simp | (simp; omega)) | (with_reducible refine Ext.trans ?_ (by with_reducible assumption)))))))).mono ?_
                  rintro e w2 ⟨rfl, hx2⟩
                  go_wp2
                  go_ret
                  exact ⟨ret_bool' HNO.out.symm, hxw.trans (by (repeat (first | with_reducible exact Ext.refl _ | with_reducible assumption | ((with_reducible apply Src.ext); with_reducible assumption) | with_reducible refine Ext.alloc ?_ _ | with_reducible refine Ext.drew ?_ | with_reducible refine Ext.drewN ?_ _ | ((with_reducible refine Ext.setCell' ?_ ?_ _); solve | omega | simp | (simp; omega)) | (with_reducible refine Ext.trans ?_ (by with_reducible assumption)))))⟩
            · obtain rfl : j = k := by omega
              have HA2 := Lib.hid (upTo_succ (P := fun q => ∀ m, m < j → (lkHas (L.getD m lkD) (L.getD q lkD).2.2.1 && (wayU L (L.getD m lkD).1 (L.getD q lkD).2.2.1).2) = false) HA.out (by rw [← HU.out]; exact HO.out))
              go_wp2
              go_roundw
              case rel => exact ⟨a + 1, by omega, by go_num, HA2, hxa.trans (by (repeat (first | with_reducible exact Ext.refl _ | with_reducible assumption | ((with_reducible apply Src.ext); with_reducible assumption) | with_reducible refine Ext.alloc ?_ _ | with_reducible refine Ext.drew ?_ | with_reducible refine Ext.drewN ?_ _ | ((with_reducible refine Ext.setCell' ?_ ?_ _); solve | omega | simp | (simp; omega)) | (with_reducible refine Ext.trans ?_ (by with_reducible assumption)))))⟩
              case measure => simp [intOf]; omega
        · obtain rfl : a = k := by omega
          have hres : lksB L = decide ((a : Int) ≤ 20) := by
            by_cases h20 : a ≤ 20
            · rw [decide_eq_true (by omega)]
              exact lksB_yes HP.out (fun i hi m hm => HA.out i (by have := HN.out; omega) m (by have := HN.out; omega)) (by have := HN.out; omega)
            · rw [decide_eq_false (by omega)]
              exact lksB_long (by have := HN.out; omega)
          have HR := Lib.hid hres
          clear hres
          go_wp2
          go_ret
          exact ⟨ret_bool' HR.out.symm, by (repeat (first | with_reducible exact Ext.refl _ | with_reducible assumption | ((with_reducible apply Src.ext); with_reducible assumption) | with_reducible refine Ext.alloc ?_ _ | with_reducible refine Ext.drew ?_ | with_reducible refine Ext.drewN ?_ _ | ((with_reducible refine Ext.setCell' ?_ ?_ _); solve | omega | simp | (simp; omega)) | (with_reducible refine Ext.trans ?_ (by with_reducible assumption))))⟩

theorem as_boolG {P : Program} {f : FuncId} {args : Array Value} {w : World} {b b' : Bool} (h : Calls P f args w fun e w' => e = .returned (.bool b) ∧ w = w') (e : b = b') : Calls P f args w fun e w' => e = .returned (.bool b') ∧ w = w' := e ▸ h
set_option maxHeartbeats 3200000 in
theorem i_linkCode (A A' : Option Addr) (n c m c' : Nat) (L : List Lk) (cs : List (List UInt8)) (y : Int) (w : World) (h : SlAt w 4 encK A L) (hn : n = L.length) (hl : L.length ≤ 1048576) (hcap : n ≤ c) (hg : Links L) (h' : SlAt w 1 encS A' cs) (hm : m = cs.length) (hm2 : m ≤ 1000) (hcs : ∀ k, (cs.getD k []).length ≤ 1048576) :
    Calls Tryz.prog 50 #[.slice A n c, .int .i64 y, .slice A' m c'] w fun e w' => e = .returned (.int .i64 (lkC L cs y)) ∧ Ext w w' := by
  have HA := Lib.hid (fun W hW => i_AreLinks A n c L W hW hn hl hcap hg)
  have HW := Lib.hid (fun W hW => i_areWords A' m c' cs W hW hm (by omega) hcs)
  have HS := Lib.hid h
  have HS' := Lib.hid h'
  clear h h' hn hm hg hcs hl
  cases h1 : lksB L with
  | false =>
    rw [lkC_links h1]
    rw [h1] at HA
    clear h1
    go_enter Tryz.func50, Tryz.ntmps50
    (go_wp2_with fail; refine (HA.out _ HS.out).mono ?_; rintro e w1 ⟨rfl, hx1⟩; obtain ⟨hc1, hf1⟩ := hx1.rules; have hs1 := hx1.size; (try simp at hs1))
    go_wp2
    go_ret
    exact ⟨rfl, by (repeat (first | with_reducible exact Ext.refl _ | with_reducible assumption | ((with_reducible apply Src.ext); with_reducible assumption) | with_reducible refine Ext.alloc ?_ _ | with_reducible refine Ext.drew ?_ | with_reducible refine Ext.drewN ?_ _ | ((with_reducible refine Ext.setCell' ?_ ?_ _); solve | omega | simp | (simp; omega)) | (with_reducible refine Ext.trans ?_ (by with_reducible assumption))))⟩
  | true =>
    rw [h1] at HA
    cases h2 : (cs.all fun x => smL x 1 16) with
    | false =>
      rw [lkC_words h2]
      rw [h2] at HW
      clear h1 h2
      go_enter Tryz.func50, Tryz.ntmps50
      (go_wp2_with fail; refine (HA.out _ HS.out).mono ?_; rintro e w1 ⟨rfl, hx1⟩; obtain ⟨hc1, hf1⟩ := hx1.rules; have hs1 := hx1.size; (try simp at hs1))
      (go_wp2_with fail; refine (HW.out _ (HS'.out.ext (by (repeat (first | with_reducible exact Ext.refl _ | with_reducible assumption | ((with_reducible apply Src.ext); with_reducible assumption) | with_reducible refine Ext.alloc ?_ _ | with_reducible refine Ext.drew ?_ | with_reducible refine Ext.drewN ?_ _ | ((with_reducible refine Ext.setCell' ?_ ?_ _); solve | omega | simp | (simp; omega)) | (with_reducible refine Ext.trans ?_ (by with_reducible assumption))))))).mono ?_; rintro e w2 ⟨rfl, hx2⟩; obtain ⟨hc2, hf2⟩ := hx2.rules; have hs2 := hx2.size; (try simp at hs2))
      go_wp2
      go_ret
      exact ⟨rfl, by (repeat (first | with_reducible exact Ext.refl _ | with_reducible assumption | ((with_reducible apply Src.ext); with_reducible assumption) | with_reducible refine Ext.alloc ?_ _ | with_reducible refine Ext.drew ?_ | with_reducible refine Ext.drewN ?_ _ | ((with_reducible refine Ext.setCell' ?_ ?_ _); solve | omega | simp | (simp; omega)) | (with_reducible refine Ext.trans ?_ (by with_reducible assumption))))⟩
    | true =>
      rw [h2] at HW
      cases h3 : inB y (-3000) 3000 with
      | false =>
        rw [lkC_year h1 h2 h3]
        have HY := Lib.hid (fun W => as_boolG (i_isYear y W) h3)
        clear h1 h2 h3
        go_enter Tryz.func50, Tryz.ntmps50
        (go_wp2_with fail; refine (HA.out _ HS.out).mono ?_; rintro e w1 ⟨rfl, hx1⟩; obtain ⟨hc1, hf1⟩ := hx1.rules; have hs1 := hx1.size; (try simp at hs1))
        (go_wp2_with fail; refine (HW.out _ (HS'.out.ext (by (repeat (first | with_reducible exact Ext.refl _ | with_reducible assumption | ((with_reducible apply Src.ext); with_reducible assumption) | with_reducible refine Ext.alloc ?_ _ | with_reducible refine Ext.drew ?_ | with_reducible refine Ext.drewN ?_ _ | ((with_reducible refine Ext.setCell' ?_ ?_ _); solve | omega | simp | (simp; omega)) | (with_reducible refine Ext.trans ?_ (by with_reducible assumption))))))).mono ?_; rintro e w2 ⟨rfl, hx2⟩; obtain ⟨hc2, hf2⟩ := hx2.rules; have hs2 := hx2.size; (try simp at hs2))
        (go_wp2_with fail; refine (HY.out _).mono ?_; rintro e w' ⟨rfl, rfl⟩)
        go_wp2
        go_ret
        exact ⟨rfl, by (repeat (first | with_reducible exact Ext.refl _ | with_reducible assumption | ((with_reducible apply Src.ext); with_reducible assumption) | with_reducible refine Ext.alloc ?_ _ | with_reducible refine Ext.drew ?_ | with_reducible refine Ext.drewN ?_ _ | ((with_reducible refine Ext.setCell' ?_ ?_ _); solve | omega | simp | (simp; omega)) | (with_reducible refine Ext.trans ?_ (by with_reducible assumption))))⟩
      | true =>
        rw [lkC_ok h1 h2 h3]
        have HY := Lib.hid (fun W => as_boolG (i_isYear y W) h3)
        clear h1 h2 h3
        go_enter Tryz.func50, Tryz.ntmps50
        (go_wp2_with fail; refine (HA.out _ HS.out).mono ?_; rintro e w1 ⟨rfl, hx1⟩; obtain ⟨hc1, hf1⟩ := hx1.rules; have hs1 := hx1.size; (try simp at hs1))
        (go_wp2_with fail; refine (HW.out _ (HS'.out.ext (by (repeat (first | with_reducible exact Ext.refl _ | with_reducible assumption | ((with_reducible apply Src.ext); with_reducible assumption) | with_reducible refine Ext.alloc ?_ _ | with_reducible refine Ext.drew ?_ | with_reducible refine Ext.drewN ?_ _ | ((with_reducible refine Ext.setCell' ?_ ?_ _); solve | omega | simp | (simp; omega)) | (with_reducible refine Ext.trans ?_ (by with_reducible assumption))))))).mono ?_; rintro e w2 ⟨rfl, hx2⟩; obtain ⟨hc2, hf2⟩ := hx2.rules; have hs2 := hx2.size; (try simp at hs2))
        (go_wp2_with fail; refine (HY.out _).mono ?_; rintro e w' ⟨rfl, rfl⟩)
        go_wp2
        go_ret
        exact ⟨rfl, by (repeat (first | with_reducible exact Ext.refl _ | with_reducible assumption | ((with_reducible apply Src.ext); with_reducible assumption) | with_reducible refine Ext.alloc ?_ _ | with_reducible refine Ext.drew ?_ | with_reducible refine Ext.drewN ?_ _ | ((with_reducible refine Ext.setCell' ?_ ?_ _); solve | omega | simp | (simp; omega)) | (with_reducible refine Ext.trans ?_ (by with_reducible assumption))))⟩
end Go.Proofs.YtmpgjajkaehdiaaGreatDoor
