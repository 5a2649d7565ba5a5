/- Contracts of the law of IsMap, walked over the translation. -/
import Derived.Test.YthhkmkhilnglkaaML
import Derived.Deep.RegionHeld3
import Derived.Deep.DeepCutAuto
import Derived.RegionTactic
import Derived.BigRegion
import Derived.WalkLawsBesides
import Derived.WalkSpells
import Derived.Lib.MinMax
import Derived.Outline
namespace Go.Proofs.Ythhkmkhilnglkaa
open Go.RowKit
attribute [local go_sem] ExtOf.cell ExtOf.frozen

theorem psOf_at' {rs rs' : List Rg} (h : psOf rs = psOf rs') {k : Nat} (hk : k < rs.length) : (rs'.getD k rgD).2.2 = (rs.getD k rgD).2.2 := by
  have hl : rs.length = rs'.length := by rw [← psOf_len rs, h, psOf_len]
  rw [← psOf_at hk, ← psOf_at (by omega), h]
set_option maxHeartbeats 3200000 in
theorem l_eqSS (A A' : Option Addr) (n c c' : Nat) (rs rs' : List Rg) (w : World) (h : SlAt w 1 encR A rs) (h' : SlAt w 1 encR A' rs') (hr : Rings w rs) (hr' : Rings w rs') (he : psOf rs = psOf rs') (hn : n = rs.length) (hl : n ≤ 1048576) :
    Calls Try.prog 55 #[.slice A n c, .slice A' n c'] w fun e w' => e = .returned (.bool true) ∧ Ext w w' := by
  have hn1 : (((n : Nat) : Int) != (n : Int)) = false := by simp
  have hn' : rs.length = rs'.length := by rw [← psOf_len rs, he, psOf_len]
  have HN := Lib.hid hn
  have HN' := Lib.hid hn'
  have HE := Lib.hid he
  clear hn hn' he
  go_enter Try.func55, Try.ntmps55
  go_wp2
  go_loopw [5] (fun i wr => ∃ k : Nat, k ≤ n ∧ i = .int .i64 k ∧ Ext w wr) (fun i _ => n - (intOf i).toNat)
  case atStart => exact ⟨0, Nat.zero_le _, rfl, by (repeat (first | with_reducible exact Ext.refl _ | with_reducible assumption | ((with_reducible apply Src.ext); with_reducible assumption) | with_reducible refine Ext.alloc ?_ _ | with_reducible refine Ext.drew ?_ | with_reducible refine Ext.drewN ?_ _ | ((with_reducible refine Ext.setCell' ?_ ?_ _); solve | omega | simp | (simp; omega)) | (with_reducible refine Ext.trans ?_ (by with_reducible assumption))))⟩
  case round =>
    obtain ⟨k, hk, rfl, hx⟩ := hrel
    by_cases hlt : k < n
    · have hk1 : k < rs.length := by rw [← HN.out]; exact hlt
      have hk2 : k < rs'.length := by rw [← HN'.out]; exact hk1
      obtain ⟨b, off, rfl, hb, hc⟩ := (h.ext hx).rg hk1
      obtain ⟨b', off', rfl, hb', hc'⟩ := (h'.ext hx).rg hk2
      have hp := psOf_at' HE.out hk1
      have h1 := (hr.ext hx) _ (rg_mem hk1)
      have h2 := (hr'.ext hx) _ (rg_mem hk2)
      obtain ⟨r, hre⟩ : ∃ r, r = rs.getD k rgD := ⟨_, rfl⟩
      obtain ⟨r', hre'⟩ : ∃ r, r = rs'.getD k rgD := ⟨_, rfl⟩
      rw [← hre] at hc hp h1
      rw [← hre'] at hc' hp h2
      rw [hp] at hc' h2
      clear hre hre' hp hk1 hk2
      have H1 := Lib.hid h1
      have H2 := Lib.hid h2
      clear h1 h2
      go_wp2
      (refine wp_region_ext (by kernel_rfl) (by kernel_rfl) ?_; (repeat (go_big_quiet_step ((go_at_call 19; exact Calls_ext (l_eqP _ _ _ _ _ r.2.2 _ (H1.out.1.ext (ExtOf.ext _)) (H2.out.1.ext (ExtOf.ext _)) rfl H1.out.2.2))))); refine wpQuiet_nil ?_; intro wq hxwq; obtain ⟨hcwq, hfwq⟩ := hxwq.rules; have hswq := hxwq.size; (try simp at hswq))
      go_wp2
      go_roundw
      case rel => exact ⟨k + 1, by omega, by go_num, by (repeat (first | with_reducible exact Ext.refl _ | with_reducible assumption | ((with_reducible apply Src.ext); with_reducible assumption) | with_reducible refine Ext.alloc ?_ _ | with_reducible refine Ext.drew ?_ | with_reducible refine Ext.drewN ?_ _ | ((with_reducible refine Ext.setCell' ?_ ?_ _); solve | omega | simp | (simp; omega)) | (with_reducible refine Ext.trans ?_ (by with_reducible assumption))))⟩
      case measure => simp [intOf]; omega
    · go_wp2
      go_ret
      exact ⟨rfl, by (repeat (first | with_reducible exact Ext.refl _ | with_reducible assumption | ((with_reducible apply Src.ext); with_reducible assumption) | with_reducible refine Ext.alloc ?_ _ | with_reducible refine Ext.drew ?_ | with_reducible refine Ext.drewN ?_ _ | ((with_reducible refine Ext.setCell' ?_ ?_ _); solve | omega | simp | (simp; omega)) | (with_reducible refine Ext.trans ?_ (by with_reducible assumption))))⟩
/-- a list of rings among a law's arguments -/
structure ArgR (w : World) (A : Option Addr) (rs : List Rg) : Prop where
  sl : SlAt w 1 encR A rs
  rg : ∀ i, i < rs.length → SlAt w 2 encP (rs.getD i rgD).1 (rs.getD i rgD).2.2
  len : rs.length ≤ 9223372036854775807
  lens : ∀ i, i < rs.length → (rs.getD i rgD).2.2.length ≤ 9223372036854775807
theorem ArgR.ext {w w' : World} {A : Option Addr} {rs : List Rg} (h : ArgR w A rs) (hx : Ext w w') : ArgR w' A rs := ⟨h.sl.ext hx, fun i hi => (h.rg i hi).ext hx, h.len, h.lens⟩
set_option maxHeartbeats 6400000 in
theorem fnExactIsMap_walk (A : Option Addr) (c : Nat) (rs : List Rg) (w : World) (h : ArgR w A rs) :
    Calls Try.prog 10 #[.slice A rs.length c] w fun e w' => e = .returned (.bool true) ∧ Ext w w' := by
  go_enter Try.func10, Try.ntmps10
  go_wp2_with fail
  refine (l_szPointSS _ _ rs 1048576 _ h.sl h.len h.lens (by omega) (by omega)).mono ?_
  rintro e w' ⟨⟨z, rfl, hz1, hz⟩, rfl⟩
  rcases hz with rfl | ⟨hz0, hl, hs, _⟩
  · go_wp2
    go_ret
    exact ⟨rfl, Ext.refl _⟩
  · have HS := Lib.hid hs
    clear hs
    go_wp2_with fail
    refine (l_toPointSS _ _ rs _ h.sl h.rg hl HS.out).mono ?_
    rintro e w1 ⟨q1, cs1, rfl, hq1, hp1, hB1, hc1, hO1, hx1⟩
    have HP1 := Lib.hid hp1
    have HC1 := Lib.hid hc1
    have HQ1 := Lib.hid hq1
    have HO1 := Lib.hid hO1
    clear hp1 hc1 hO1
    go_wp2_with fail
    rw [← hq1]
    refine (s_IsMap _ _ q1 _ (hB1.sl HC1.out len_encR) HO1.out.rings (by omega)).mono ?_
    rintro e w2 ⟨rfl, hx2⟩
    rw [HP1.out, hq1]
    clear hq1
    have hX2 := hx1.trans hx2
    clear hB1
    go_wp2_with fail
    refine (l_toPointSS _ _ rs _ (h.ext hX2).sl (h.ext hX2).rg hl HS.out).mono ?_
    rintro e w3 ⟨q3, cs3, rfl, hq3, hp3, hB3, hc3, hO3, hx3⟩
    have HP3 := Lib.hid hp3
    have HC3 := Lib.hid hc3
    have HQ3 := Lib.hid hq3
    have HO3 := Lib.hid hO3
    clear hp3 hc3 hO3
    go_wp2_with fail
    rw [← hq3]
    refine (i_IsMap _ _ q3 _ (hB3.sl HC3.out len_encR) HO3.out.rings (by omega) (Nat.le_refl _)).mono ?_
    rintro e w4 ⟨rfl, hx4⟩
    rw [HP3.out, hq3]
    clear hq3
    have hX4 := (hX2.trans hx3).trans hx4
    have hB34 := hB3.ext hx4
    have HO34 := Lib.hid (HO3.out.ext hx4)
    generalize mapB (psOf rs) = mb
    have hmb : (mb != mb) = false := by simp
    clear hB3
    go_wp2_with fail
    refine (l_toPointSS _ _ rs _ (h.ext hX4).sl (h.ext hX4).rg hl HS.out).mono ?_
    rintro e w5 ⟨q5, cs5, rfl, hq5, hp5, hB5, hc5, hO5, hx5⟩
    have HP5 := Lib.hid hp5
    have HC5 := Lib.hid hc5
    have HQ5 := Lib.hid hq5
    have HO5 := Lib.hid hO5
    clear hp5 hc5 hO5 hq5
    go_wp2_with fail
    refine (l_eqSS _ _ _ _ _ q3 q5 _ ((hB34.ext hx5).sl HC3.out len_encR) (hB5.sl HC5.out len_encR) (HO34.out.ext hx5).rings HO5.out.rings (by rw [HP3.out, HP5.out]) HQ3.out.symm hl).mono ?_
    rintro e w6 ⟨rfl, hx6⟩
    go_wp2
    go_ret
    exact ⟨rfl, (hX4.trans hx5).trans hx6⟩

end Go.Proofs.Ythhkmkhilnglkaa
