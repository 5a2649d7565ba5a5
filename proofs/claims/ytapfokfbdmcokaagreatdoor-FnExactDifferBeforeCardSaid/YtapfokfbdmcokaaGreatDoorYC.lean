/- Worlds, as the specification sees them. -/
import Derived.Test.YtapfokfbdmcokaaGreatDoorYB
import Derived.Deep.RegionHeld3
import Derived.Deep.DeepCutAuto
import Derived.RegionTactic
import Derived.BigRegion
import Derived.WalkLawsBesides
import Derived.WalkSpells
import Derived.Lib.MinMax
import Derived.Outline
namespace Go.Proofs.YtapfokfbdmcokaaGreatDoor
open Go.RowKit
attribute [local go_sem] ExtOf.cell ExtOf.frozen

set_option maxHeartbeats 3200000 in
theorem s_l11Find (A : Option Addr) (n c : Nat) (ps : List Pl) (x : List UInt8) (w : World) (h : SlAt w 5 encQ A ps) (hn : n = ps.length) (hl : n ≤ 1048576) :
    Calls Tryz.prog 65 #[.slice A n c, .string (tx x)] w fun e w' => e = .returned (.int .i64 (fnxP (psD ps) x)) ∧ w = w' := by
  have HN := Lib.hid hn
  have HX := Lib.hid (tx_toL x)
  clear hn
  go_enter Tryz.func65, Tryz.ntmps65
  go_wp2
  go_loopw [5] (fun i wr => ∃ k : Nat, k ≤ n ∧ i = .int .i64 k ∧ Hid (∀ j, j < k → ((psD ps).getD j pdD).1 ≠ x) ∧ w = wr) (fun i _ => n - (intOf i).toNat)
  case atStart => exact ⟨0, by omega, rfl, fun j hj => absurd hj (by omega), rfl⟩
  case round =>
    obtain ⟨k, hk, rfl, HJ, rfl⟩ := hrel
    by_cases hlt : k < n
    · have hkl : k < ps.length := by have := HN.out; omega
      obtain ⟨b, off, rfl, hb, d0, d1, d2, d3, d4⟩ := h.pl hkl
      have hkd : k < (psD ps).length := by rw [psD_len]; exact hkl
      have hat := psD_at hkl
      have htv := tx_toL (ps.getD k plD).1
      by_cases he : (ps.getD k plD).1 = x
      · have HR := Lib.hid (fnx_some hkd HJ.out (by rw [hat]; exact he)).1
        have heq : ((tx (ps.getD k plD).1).toList == (tx x).toList) = true := by rw [htv, HX.out, he]; simp
        generalize tx (ps.getD k plD).1 = sv at *
        generalize tx x = sx at *
        clear he hkl htv hat hkd d1 d2 d3 d4
        go_wp2
        go_ret
        exact ⟨by rw [HR.out]; rfl, rfl⟩
      · have hne : ((tx (ps.getD k plD).1).toList == (tx x).toList) = false := by rw [htv, HX.out]; simpa using he
        have HJ2 := Lib.hid (upTo1 HJ.out (show ((psD ps).getD k pdD).1 ≠ x by rw [hat]; exact he))
        generalize tx (ps.getD k plD).1 = sv at *
        generalize tx x = sx at *
        clear he hkl htv hat hkd d1 d2 d3 d4
        go_wp2
        go_roundw
        case rel => exact ⟨k + 1, by omega, by go_num, HJ2, by trivial⟩
        case measure => simp [intOf]; omega
    · obtain rfl : k = n := by omega
      have HR := Lib.hid (fnx_none (D := psD ps) (x := x) fun j hj => HJ.out j (by rw [psD_len] at hj; have := HN.out; omega)).1
      go_wp2
      go_ret
      exact ⟨by rw [HR.out]; rfl, rfl⟩
theorem has_none {D : List Pd} {x : List UInt8} {a b : Int} (h : fnxP D x < 0) : hasB D x a b = false := by
  rcases fnx_cases D x with ⟨_, h2, _⟩ | ⟨k, h1, _⟩
  · unfold hasB; rw [h2]
  · rw [h1] at h; omega
theorem has_some {D : List Pd} {x : List UInt8} (h : ¬ fnxP D x < 0) : ∃ k : Nat, fnxP D x = k ∧ k < D.length ∧ ∀ a b, hasB D x a b = lieB a b (D.getD k pdD).2.2.1 (D.getD k pdD).2.2.2.1 := by
  rcases fnx_cases D x with ⟨h1, _⟩ | ⟨k, h1, h2, h3, _⟩
  · rw [h1] at h; omega
  · exact ⟨k, h1, h2, fun a b => by unfold hasB; rw [h3]⟩
theorem all_getDW {L : List Lk} {p : Lk → Bool} : L.all p = true ↔ ∀ j, j < L.length → p (L.getD j lkD) = true := by
  rw [List.all_eq_true]
  constructor
  · intro h j hj
    exact h _ (by simp [List.getD, hj])
  · intro h x hx
    obtain ⟨j, hj, rfl⟩ := List.mem_iff_getElem.1 hx
    simpa [List.getD, hj] using h j hj
theorem all_noW {L : List Lk} {p : Lk → Bool} {j : Nat} (hj : j < L.length) (h : p (L.getD j lkD) = false) : L.all p = false := by
  cases e : L.all p with
  | false => rfl
  | true => rw [all_getDW.1 e j hj] at h; cases h
set_option maxRecDepth 20000 in
set_option maxHeartbeats 12800000 in
theorem s_IsWorld (A A' : Option Addr) (n c m c' : Nat) (ps : List Pl) (L : List Lk) (w : World) (h : SlAt w 5 encQ A ps) (hp : Places w ps) (hn : n = ps.length) (hl : ps.length ≤ 1048576) (h' : SlAt w 4 encK A' L) (hm : m = L.length) (hl' : L.length ≤ 1048576) (hg : Links L) :
    Calls Tryz.prog 70 #[.agg #[.slice A n c, .slice A' m c']] w fun e w' => e = .returned (.bool (wdB (psD ps) L)) ∧ Ext w w' := by
  have H1 := Lib.hid (fun W (hW : Ext w W) => s_IsRegister A n c ps W (h.ext hW) (hp.ext hW) hn hl)
  have H2 := Lib.hid (fun W (hW : Ext w W) => s_AreLinks A' m c' L W (h'.ext hW) hm hl' hg)
  have HF := Lib.hid (fun (x : List UInt8) W (hW : Ext w W) => s_l11Find A n c ps x W (h.ext hW) hn (by omega))
  have HR : Hid (wdB (psD ps) L = (rgB (psD ps) && (lksB L && L.all (wlB (psD ps))))) := Lib.hid rfl
  have HSQ := Lib.hid h
  have HSK := Lib.hid h'
  have HN := Lib.hid hn
  have HM := Lib.hid hm
  have hn2 : n ≤ 1048576 := by omega
  have hm2 : m ≤ 1048576 := by omega
  rw [HR.out]
  generalize rgB (psD ps) = q1 at *
  generalize lksB L = q2 at *
  clear HR h hp hn hl h' hm hl' hg
  cases q1 with
  | false =>
    clear H2 HF
    go_enter Tryz.func70, Tryz.ntmps70
    (go_wp2_with fail; refine (H1.out _ (by (repeat (first | with_reducible exact Ext.refl _ | with_reducible assumption | ((with_reducible apply Src.ext); with_reducible assumption) | with_reducible refine Ext.alloc ?_ _ | with_reducible refine Ext.drew ?_ | with_reducible refine Ext.drewN ?_ _ | ((with_reducible refine Ext.setCell' ?_ ?_ _); solve | omega | simp | (simp; omega)) | (with_reducible refine Ext.trans ?_ (by with_reducible assumption)))))).mono ?_; rintro e w1 ⟨rfl, hx1⟩; obtain ⟨hc1, hf1⟩ := hx1.rules; have hs1 := hx1.size; (try simp at hs1))
    go_wp2
    go_ret
    exact ⟨rfl, by (repeat (first | with_reducible exact Ext.refl _ | with_reducible assumption | ((with_reducible apply Src.ext); with_reducible assumption) | with_reducible refine Ext.alloc ?_ _ | with_reducible refine Ext.drew ?_ | with_reducible refine Ext.drewN ?_ _ | ((with_reducible refine Ext.setCell' ?_ ?_ _); solve | omega | simp | (simp; omega)) | (with_reducible refine Ext.trans ?_ (by with_reducible assumption))))⟩
  | true =>
    cases q2 with
    | false =>
      go_enter Tryz.func70, Tryz.ntmps70
      (go_wp2_with fail; refine (H1.out _ (by (repeat (first | with_reducible exact Ext.refl _ | with_reducible assumption | ((with_reducible apply Src.ext); with_reducible assumption) | with_reducible refine Ext.alloc ?_ _ | with_reducible refine Ext.drew ?_ | with_reducible refine Ext.drewN ?_ _ | ((with_reducible refine Ext.setCell' ?_ ?_ _); solve | omega | simp | (simp; omega)) | (with_reducible refine Ext.trans ?_ (by with_reducible assumption)))))).mono ?_; rintro e w1 ⟨rfl, hx1⟩; obtain ⟨hc1, hf1⟩ := hx1.rules; have hs1 := hx1.size; (try simp at hs1); have := (show w.heap.size < w1.heap.size from by omega))
      (go_wp2_with fail; refine (H2.out _ (by (repeat (first | with_reducible exact Ext.refl _ | with_reducible assumption | ((with_reducible apply Src.ext); with_reducible assumption) | with_reducible refine Ext.alloc ?_ _ | with_reducible refine Ext.drew ?_ | with_reducible refine Ext.drewN ?_ _ | ((with_reducible refine Ext.setCell' ?_ ?_ _); solve | omega | simp | (simp; omega)) | (with_reducible refine Ext.trans ?_ (by with_reducible assumption)))))).mono ?_; rintro e w2 ⟨rfl, hx2⟩; obtain ⟨hc2, hf2⟩ := hx2.rules; have hs2 := hx2.size; (try simp at hs2))
      go_wp2
      go_ret
      exact ⟨rfl, by (repeat (first | with_reducible exact Ext.refl _ | with_reducible assumption | ((with_reducible apply Src.ext); with_reducible assumption) | with_reducible refine Ext.alloc ?_ _ | with_reducible refine Ext.drew ?_ | with_reducible refine Ext.drewN ?_ _ | ((with_reducible refine Ext.setCell' ?_ ?_ _); solve | omega | simp | (simp; omega)) | (with_reducible refine Ext.trans ?_ (by with_reducible assumption))))⟩
    | true =>
      go_enter Tryz.func70, Tryz.ntmps70
      (go_wp2_with fail; refine (H1.out _ (by (repeat (first | with_reducible exact Ext.refl _ | with_reducible assumption | ((with_reducible apply Src.ext); with_reducible assumption) | with_reducible refine Ext.alloc ?_ _ | with_reducible refine Ext.drew ?_ | with_reducible refine Ext.drewN ?_ _ | ((with_reducible refine Ext.setCell' ?_ ?_ _); solve | omega | simp | (simp; omega)) | (with_reducible refine Ext.trans ?_ (by with_reducible assumption)))))).mono ?_; rintro e w1 ⟨rfl, hx1⟩; obtain ⟨hc1, hf1⟩ := hx1.rules; have hs1 := hx1.size; (try simp at hs1); have := (show w.heap.size < w1.heap.size from by omega))
      (go_wp2_with fail; refine (H2.out _ (by (repeat (first | with_reducible exact Ext.refl _ | with_reducible assumption | ((with_reducible apply Src.ext); with_reducible assumption) | with_reducible refine Ext.alloc ?_ _ | with_reducible refine Ext.drew ?_ | with_reducible refine Ext.drewN ?_ _ | ((with_reducible refine Ext.setCell' ?_ ?_ _); solve | omega | simp | (simp; omega)) | (with_reducible refine Ext.trans ?_ (by with_reducible assumption)))))).mono ?_; rintro e w2 ⟨rfl, hx2⟩; obtain ⟨hc2, hf2⟩ := hx2.rules; have hs2 := hx2.size; (try simp at hs2); have := (show w.heap.size < w2.heap.size from by omega))
      go_wp2
      go_loopw [3] (fun i wr => ∃ k : Nat, k ≤ m ∧ i = .int .i64 k ∧ Hid (∀ j, j < k → wlB (psD ps) (L.getD j lkD) = true) ∧ Blk wr w.heap.size 33 #[.slice A n c, .slice A' m c'] ∧ Ext w wr) (fun i _ => m - (intOf i).toNat)
      case atStart => exact ⟨0, by omega, rfl, fun j hj => absurd hj (by omega), Blk.eq (by (repeat (first | with_reducible assumption | ((with_reducible apply Blk.new); solve | simp | rfl) | with_reducible apply Blk.drew | with_reducible apply Blk.drewN | ((with_reducible apply Blk.far'); solve | omega | simp | (simp; omega)) | with_reducible apply Blk.set_ | with_reducible apply Blk.alloc | ((with_reducible apply Blk.ext'); with_reducible assumption) | ((with_reducible apply Blk.but'); (with_reducible assumption); solve | omega | (simp; omega))))) (by rfl), by (repeat (first | with_reducible exact Ext.refl _ | with_reducible assumption | ((with_reducible apply Src.ext); with_reducible assumption) | with_reducible refine Ext.alloc ?_ _ | with_reducible refine Ext.drew ?_ | with_reducible refine Ext.drewN ?_ _ | ((with_reducible refine Ext.setCell' ?_ ?_ _); solve | omega | simp | (simp; omega)) | (with_reducible refine Ext.trans ?_ (by with_reducible assumption))))⟩
      case round =>
        obtain ⟨k, hk, rfl, HJ, hB, hxr⟩ := hrel
        obtain ⟨w5, rfl⟩ : ∃ x, x = wr := ⟨wr, rfl⟩
        have hBl := hB.lt
        have g0 : w5.cell? ⟨w.heap.size, 0, none⟩ = some (.slice A n c) := hB.cell 0
        have g1 : w5.cell? ⟨w.heap.size, 1, none⟩ = some (.slice A' m c') := hB.cell 1
        have HB := Lib.hid hB
        clear hB
        by_cases hlt : k < m
        · have hkl : k < L.length := by have := HM.out; omega
          obtain ⟨b, off, rfl, hb, d0, d1, d2, d3⟩ := (HSK.out.ext hxr).lk hkl
          obtain ⟨v, hve⟩ : ∃ v, v = L.getD k lkD := ⟨_, rfl⟩
          rw [← hve] at d0 d1 d2 d3
          have HV := Lib.hid hve
          have hwl : wlB (psD ps) v = (hasB (psD ps) v.1 v.2.2.1 v.2.2.2 && hasB (psD ps) v.2.1 v.2.2.1 v.2.2.2) := rfl
          have HKL := Lib.hid hkl
          obtain ⟨sc, hsc⟩ : ∃ sc, tx v.1 = sc := ⟨_, rfl⟩
          obtain ⟨sp, hsp⟩ : ∃ sp, tx v.2.1 = sp := ⟨_, rfl⟩
          obtain ⟨u1, hu1⟩ : ∃ u, fnxP (psD ps) v.1 = u := ⟨_, rfl⟩
          obtain ⟨u2, hu2⟩ : ∃ u, fnxP (psD ps) v.2.1 = u := ⟨_, rfl⟩
          have HFF : Hid (∀ (s : ByteArray) (u : Int), (s = sc ∧ u = u1 ∨ s = sp ∧ u = u2) → ∀ W, Ext w W → Calls Tryz.prog 65 #[.slice A n c, .string s] W fun e w' => e = .returned (.int .i64 u) ∧ W = w') := Lib.hid (fun s u hsu W hW => by
            rcases hsu with ⟨rfl, rfl⟩ | ⟨rfl, rfl⟩
            · rw [← hsc, ← hu1]; exact HF.out _ W hW
            · rw [← hsp, ← hu2]; exact HF.out _ W hW)
          rw [hsc] at d0
          rw [hsp] at d1
          clear hve hkl hsc hsp
          have hsw := hxr.size
          by_cases c1 : u1 < 0
          · have HNO : Hid (L.all (wlB (psD ps)) = false) := Lib.hid (all_noW HKL.out (by rw [← HV.out, hwl, has_none (by rw [hu1]; exact c1)]; rfl))
            clear hwl hu1 hu2
            go_wp2
            (refine wp_region_ext (by kernel_rfl) (by kernel_rfl) ?_; (repeat (go_big_quiet_step ((go_at_call 65; exact Calls_same (HFF.out _ _ (by first | exact .inl ⟨rfl, rfl⟩ | exact .inr ⟨rfl, rfl⟩) _ (hxr.trans (Ext.trans (by (repeat (first | with_reducible exact Ext.refl _ | with_reducible assumption | ((with_reducible apply Src.ext); with_reducible assumption) | with_reducible refine Ext.alloc ?_ _ | with_reducible refine Ext.drew ?_ | with_reducible refine Ext.drewN ?_ _ | ((with_reducible refine Ext.setCell' ?_ ?_ _); solve | omega | simp | (simp; omega)) | (with_reducible refine Ext.trans ?_ (by with_reducible assumption))))) (ExtOf.ext _)))))))); refine wpQuiet_nil ?_; intro wq hxwq; obtain ⟨hcwq, hfwq⟩ := hxwq.rules; have hswq := hxwq.size; (try simp at hswq))
            go_wp2
            have z1 := (show w5.heap.size < wq.heap.size from by omega)
            have z2 := (show w.heap.size < wq.heap.size from by omega)
            have hc1 : decide (u1 < 0) = true := decide_eq_true (by omega)
            (refine wp_region_ext (by kernel_rfl) (by kernel_rfl) ?_; (repeat (go_big_quiet_step (fail))); refine wpQuiet_nil ?_; intro wz hxwz; obtain ⟨hcwz, hfwz⟩ := hxwz.rules; have hswz := hxwz.size; (try simp at hswz))
            go_wp2
            go_ret
            exact ⟨ret_bool' HNO.out.symm, by (repeat (first | with_reducible exact Ext.refl _ | with_reducible assumption | ((with_reducible apply Src.ext); with_reducible assumption) | with_reducible refine Ext.alloc ?_ _ | with_reducible refine Ext.drew ?_ | with_reducible refine Ext.drewN ?_ _ | ((with_reducible refine Ext.setCell' ?_ ?_ _); solve | omega | simp | (simp; omega)) | (with_reducible refine Ext.trans ?_ (by with_reducible assumption))))⟩
          · by_cases c2 : u2 < 0
            · have HNO : Hid (L.all (wlB (psD ps)) = false) := Lib.hid (all_noW HKL.out (by rw [← HV.out, hwl, has_none (x := v.2.1) (by rw [hu2]; exact c2), Bool.and_false]))
              clear hwl hu1 hu2
              go_wp2
              (refine wp_region_ext (by kernel_rfl) (by kernel_rfl) ?_; (repeat (go_big_quiet_step ((go_at_call 65; exact Calls_same (HFF.out _ _ (by first | exact .inl ⟨rfl, rfl⟩ | exact .inr ⟨rfl, rfl⟩) _ (hxr.trans (Ext.trans (by (repeat (first | with_reducible exact Ext.refl _ | with_reducible assumption | ((with_reducible apply Src.ext); with_reducible assumption) | with_reducible refine Ext.alloc ?_ _ | with_reducible refine Ext.drew ?_ | with_reducible refine Ext.drewN ?_ _ | ((with_reducible refine Ext.setCell' ?_ ?_ _); solve | omega | simp | (simp; omega)) | (with_reducible refine Ext.trans ?_ (by with_reducible assumption))))) (ExtOf.ext _)))))))); refine wpQuiet_nil ?_; intro wq hxwq; obtain ⟨hcwq, hfwq⟩ := hxwq.rules; have hswq := hxwq.size; (try simp at hswq))
              go_wp2
              have z1 := (show w5.heap.size < wq.heap.size from by omega)
              have z2 := (show w.heap.size < wq.heap.size from by omega)
              have hc1 : decide (u1 < 0) = false := decide_eq_false (by omega)
              have hc2 : decide (u2 < 0) = true := decide_eq_true (by omega)
              (refine wp_region_ext (by kernel_rfl) (by kernel_rfl) ?_; (repeat (go_big_quiet_step (fail))); refine wpQuiet_nil ?_; intro wz hxwz; obtain ⟨hcwz, hfwz⟩ := hxwz.rules; have hswz := hxwz.size; (try simp at hswz))
              go_wp2
              go_ret
              exact ⟨ret_bool' HNO.out.symm, by (repeat (first | with_reducible exact Ext.refl _ | with_reducible assumption | ((with_reducible apply Src.ext); with_reducible assumption) | with_reducible refine Ext.alloc ?_ _ | with_reducible refine Ext.drew ?_ | with_reducible refine Ext.drewN ?_ _ | ((with_reducible refine Ext.setCell' ?_ ?_ _); solve | omega | simp | (simp; omega)) | (with_reducible refine Ext.trans ?_ (by with_reducible assumption))))⟩
            · obtain ⟨k1, e1, hk1, hh1⟩ := has_some (D := psD ps) (x := v.1) (by rw [hu1]; exact c1)
              obtain ⟨k2, e2, hk2, hh2⟩ := has_some (D := psD ps) (x := v.2.1) (by rw [hu2]; exact c2)
              rw [hu1] at e1
              rw [hu2] at e2
              subst e1 e2
              rw [hh1, hh2] at hwl
              rw [psD_len] at hk1 hk2
              rw [psD_at hk1, psD_at hk2] at hwl
              obtain ⟨b9, off9, rfl, hb9, p0, p1, p2, p3, p4⟩ := (HSQ.out.ext hxr).pl hk1
              obtain ⟨q0, q1, q2, q3, q4⟩ := (HSQ.out.ext hxr).pl' hk2
              have hkn1 : k1 < n := by have := HN.out; omega
              have hkn2 : k2 < n := by have := HN.out; omega
              rw [show (pdOf (ps.getD k1 plD)).2.2.1 = (ps.getD k1 plD).2.2.1 from rfl, show (pdOf (ps.getD k1 plD)).2.2.2.1 = (ps.getD k1 plD).2.2.2.1 from rfl, show (pdOf (ps.getD k2 plD)).2.2.1 = (ps.getD k2 plD).2.2.1 from rfl, show (pdOf (ps.getD k2 plD)).2.2.2.1 = (ps.getD k2 plD).2.2.2.1 from rfl] at hwl
              generalize (ps.getD k1 plD).2.2.1 = fa at *
              generalize (ps.getD k1 plD).2.2.2.1 = ta at *
              generalize (ps.getD k2 plD).2.2.1 = fb at *
              generalize (ps.getD k2 plD).2.2.2.1 = tb at *
              generalize v.2.2.1 = va at *
              generalize v.2.2.2 = vb at *
              have hwl2 : wlB (psD ps) v = (decide (max fa fb ≤ va) && decide (vb ≤ min ta tb)) := by
                rw [hwl]
                unfold lieB
                rw [Bool.eq_iff_iff]
                simp only [Bool.and_eq_true, decide_eq_true_iff]
                omega
              clear hwl hu1 hu2 p0 p1 p4 q0 q1 q4 hk1 hk2 hh1 hh2 c1 c2
              by_cases c3 : va < max fa fb
              · have HNO : Hid (L.all (wlB (psD ps)) = false) := Lib.hid (all_noW HKL.out (by rw [← HV.out, hwl2, decide_eq_false (by omega)]; rfl))
                clear hwl2
                go_wp2
                (refine wp_region_ext (by kernel_rfl) (by kernel_rfl) ?_; (repeat (go_big_quiet_step ((go_at_call 65; exact Calls_same (HFF.out _ _ (by first | exact .inl ⟨rfl, rfl⟩ | exact .inr ⟨rfl, rfl⟩) _ (hxr.trans (Ext.trans (by (repeat (first | with_reducible exact Ext.refl _ | with_reducible assumption | ((with_reducible apply Src.ext); with_reducible assumption) | with_reducible refine Ext.alloc ?_ _ | with_reducible refine Ext.drew ?_ | with_reducible refine Ext.drewN ?_ _ | ((with_reducible refine Ext.setCell' ?_ ?_ _); solve | omega | simp | (simp; omega)) | (with_reducible refine Ext.trans ?_ (by with_reducible assumption))))) (ExtOf.ext _)))))))); refine wpQuiet_nil ?_; intro wq hxwq; obtain ⟨hcwq, hfwq⟩ := hxwq.rules; have hswq := hxwq.size; (try simp at hswq))
                go_wp2
                have z1 := (show w5.heap.size < wq.heap.size from by omega)
                have z2 := (show w.heap.size < wq.heap.size from by omega)
                have z3 := (show b9 < wq.heap.size from by omega)
                have hc1 : decide ((k1 : Int) < 0) = false := decide_eq_false (by omega)
                have hc2 : decide ((k2 : Int) < 0) = false := decide_eq_false (by omega)
                have hc3 : decide (va < max fa fb) = true := decide_eq_true (by omega)
                (refine wp_region_ext (by kernel_rfl) (by kernel_rfl) ?_; (repeat (go_big_quiet_step (fail))); refine wpQuiet_nil ?_; intro wz hxwz; obtain ⟨hcwz, hfwz⟩ := hxwz.rules; have hswz := hxwz.size; (try simp at hswz))
                go_wp2
                go_ret
                exact ⟨ret_bool' HNO.out.symm, by (repeat (first | with_reducible exact Ext.refl _ | with_reducible assumption | ((with_reducible apply Src.ext); with_reducible assumption) | with_reducible refine Ext.alloc ?_ _ | with_reducible refine Ext.drew ?_ | with_reducible refine Ext.drewN ?_ _ | ((with_reducible refine Ext.setCell' ?_ ?_ _); solve | omega | simp | (simp; omega)) | (with_reducible refine Ext.trans ?_ (by with_reducible assumption))))⟩
              · by_cases c4 : min ta tb < vb
                · have HNO : Hid (L.all (wlB (psD ps)) = false) := Lib.hid (all_noW HKL.out (by rw [← HV.out, hwl2, decide_eq_false (show ¬ vb ≤ min ta tb by omega), Bool.and_false]))
                  clear hwl2
                  go_wp2
                  (refine wp_region_ext (by kernel_rfl) (by kernel_rfl) ?_; (repeat (go_big_quiet_step ((go_at_call 65; exact Calls_same (HFF.out _ _ (by first | exact .inl ⟨rfl, rfl⟩ | exact .inr ⟨rfl, rfl⟩) _ (hxr.trans (Ext.trans (by (repeat (first | with_reducible exact Ext.refl _ | with_reducible assumption | ((with_reducible apply Src.ext); with_reducible assumption) | with_reducible refine Ext.alloc ?_ _ | with_reducible refine Ext.drew ?_ | with_reducible refine Ext.drewN ?_ _ | ((with_reducible refine Ext.setCell' ?_ ?_ _); solve | omega | simp | (simp; omega)) | (with_reducible refine Ext.trans ?_ (by with_reducible assumption))))) (ExtOf.ext _)))))))); refine wpQuiet_nil ?_; intro wq hxwq; obtain ⟨hcwq, hfwq⟩ := hxwq.rules; have hswq := hxwq.size; (try simp at hswq))
                  go_wp2
                  have z1 := (show w5.heap.size < wq.heap.size from by omega)
                  have z2 := (show w.heap.size < wq.heap.size from by omega)
                  have z3 := (show b9 < wq.heap.size from by omega)
                  have hc1 : decide ((k1 : Int) < 0) = false := decide_eq_false (by omega)
                  have hc2 : decide ((k2 : Int) < 0) = false := decide_eq_false (by omega)
                  have hc3 : decide (va < max fa fb) = false := decide_eq_false (by omega)
                  have hc4 : decide (min ta tb < vb) = true := decide_eq_true (by omega)
                  (refine wp_region_ext (by kernel_rfl) (by kernel_rfl) ?_; (repeat (go_big_quiet_step (fail))); refine wpQuiet_nil ?_; intro wz hxwz; obtain ⟨hcwz, hfwz⟩ := hxwz.rules; have hswz := hxwz.size; (try simp at hswz))
                  go_wp2
                  go_ret
                  exact ⟨ret_bool' HNO.out.symm, by (repeat (first | with_reducible exact Ext.refl _ | with_reducible assumption | ((with_reducible apply Src.ext); with_reducible assumption) | with_reducible refine Ext.alloc ?_ _ | with_reducible refine Ext.drew ?_ | with_reducible refine Ext.drewN ?_ _ | ((with_reducible refine Ext.setCell' ?_ ?_ _); solve | omega | simp | (simp; omega)) | (with_reducible refine Ext.trans ?_ (by with_reducible assumption))))⟩
                · have HJ2 := Lib.hid (upTo1 HJ.out (show wlB (psD ps) (L.getD k lkD) = true by rw [← HV.out, hwl2, decide_eq_true (show max fa fb ≤ va by omega), decide_eq_true (show vb ≤ min ta tb by omega)]; rfl))
                  clear hwl2
                  go_wp2
                  (refine wp_region_ext (by kernel_rfl) (by kernel_rfl) ?_; (repeat (go_big_quiet_step ((go_at_call 65; exact Calls_same (HFF.out _ _ (by first | exact .inl ⟨rfl, rfl⟩ | exact .inr ⟨rfl, rfl⟩) _ (hxr.trans (Ext.trans (by (repeat (first | with_reducible exact Ext.refl _ | with_reducible assumption | ((with_reducible apply Src.ext); with_reducible assumption) | with_reducible refine Ext.alloc ?_ _ | with_reducible refine Ext.drew ?_ | with_reducible refine Ext.drewN ?_ _ | ((with_reducible refine Ext.setCell' ?_ ?_ _); solve | omega | simp | (simp; omega)) | (with_reducible refine Ext.trans ?_ (by with_reducible assumption))))) (ExtOf.ext _)))))))); refine wpQuiet_nil ?_; intro wq hxwq; obtain ⟨hcwq, hfwq⟩ := hxwq.rules; have hswq := hxwq.size; (try simp at hswq))
                  go_wp2
                  have z1 := (show w5.heap.size < wq.heap.size from by omega)
                  have z2 := (show w.heap.size < wq.heap.size from by omega)
                  have z3 := (show b9 < wq.heap.size from by omega)
                  have hc1 : decide ((k1 : Int) < 0) = false := decide_eq_false (by omega)
                  have hc2 : decide ((k2 : Int) < 0) = false := decide_eq_false (by omega)
                  have hc3 : decide (va < max fa fb) = false := decide_eq_false (by omega)
                  have hc4 : decide (min ta tb < vb) = false := decide_eq_false (by omega)
                  (refine wp_region_ext (by kernel_rfl) (by kernel_rfl) ?_; (repeat (go_big_quiet_step (fail))); refine wpQuiet_nil ?_; intro wz hxwz; obtain ⟨hcwz, hfwz⟩ := hxwz.rules; have hswz := hxwz.size; (try simp at hswz))
                  go_wp2
                  go_roundw
                  case rel => exact ⟨k + 1, by omega, by go_num, HJ2, HB.out.ext (by (repeat (first | with_reducible exact Ext.refl _ | with_reducible assumption | ((with_reducible apply Src.ext); with_reducible assumption) | with_reducible refine Ext.alloc ?_ _ | with_reducible refine Ext.drew ?_ | with_reducible refine Ext.drewN ?_ _ | ((with_reducible refine Ext.setCell' ?_ ?_ _); solve | omega | simp | (simp; omega)) | (with_reducible refine Ext.trans ?_ (by with_reducible assumption))))), by (repeat (first | with_reducible exact Ext.refl _ | with_reducible assumption | ((with_reducible apply Src.ext); with_reducible assumption) | with_reducible refine Ext.alloc ?_ _ | with_reducible refine Ext.drew ?_ | with_reducible refine Ext.drewN ?_ _ | ((with_reducible refine Ext.setCell' ?_ ?_ _); solve | omega | simp | (simp; omega)) | (with_reducible refine Ext.trans ?_ (by with_reducible assumption))))⟩
                  case measure => simp [intOf]; omega
        · obtain rfl : k = m := by omega
          have HY : Hid (L.all (wlB (psD ps)) = true) := Lib.hid (all_getDW.2 fun j hj => HJ.out j (by have := HM.out; omega))
          go_wp2
          go_ret
          exact ⟨ret_bool' HY.out.symm, by (repeat (first | with_reducible exact Ext.refl _ | with_reducible assumption | ((with_reducible apply Src.ext); with_reducible assumption) | with_reducible refine Ext.alloc ?_ _ | with_reducible refine Ext.drew ?_ | with_reducible refine Ext.drewN ?_ _ | ((with_reducible refine Ext.setCell' ?_ ?_ _); solve | omega | simp | (simp; omega)) | (with_reducible refine Ext.trans ?_ (by with_reducible assumption))))⟩

end Go.Proofs.YtapfokfbdmcokaaGreatDoor
