/- Contracts of the law of IsMap, walked over the translation. -/
import Derived.Test.YtabdffponmmhoaaGreatDoorML
import Derived.Deep.RegionHeld3
import Derived.Deep.DeepCutAuto
import Derived.RegionTactic
import Derived.BigRegion
import Derived.WalkLawsBesides
import Derived.WalkSpells
import Derived.Lib.MinMax
import Derived.Outline
namespace Go.Proofs.YtabdffponmmhoaaGreatDoor
open Go.RowKit
attribute [local go_sem] ExtOf.cell ExtOf.frozen

theorem psOf_at' {rs rs' : List Rg} (h : psOf rs = psOf rs') {k : Nat} (hk : k < rs.length) : (rs'.getD k rgD).2.2 = (rs.getD k rgD).2.2 := by
  have hl : rs.length = rs'.length := by rw [← psOf_len rs, h, psOf_len]
  rw [← psOf_at hk, ← psOf_at (by omega), h]
set_option maxHeartbeats 3200000 in
theorem l_eqSS (A A' : Option Addr) (n c c' : Nat) (rs rs' : List Rg) (w : World) (h : SlAt w 1 encR A rs) (h' : SlAt w 1 encR A' rs') (hr : Rings w rs) (hr' : Rings w rs') (he : psOf rs = psOf rs') (hn : n = rs.length) (hl : n ≤ 1048576) :
    Calls Tryz.prog 13 #[.slice A n c, .slice A' n c'] w fun e w' => e = .returned (.bool true) ∧ Ext w w' := by
  have hn1 : (((n : Nat) : Int) != (n : Int)) = false := by simp
  have hn' : rs.length = rs'.length := by rw [← psOf_len rs, he, psOf_len]
  have HN := Lib.hid hn
  have HN' := Lib.hid hn'
  have HE := Lib.hid he
  clear hn hn' he
  go_enter Tryz.func13, Tryz.ntmps13
  go_wp2
  go_loopw [5] (fun i wr => ∃ k : Nat, k ≤ n ∧ i = .int .i64 k ∧ Ext w wr) (fun i _ => n - (intOf i).toNat)
  case atStart => exact ⟨0, Nat.zero_le _, rfl, by (repeat (first | with_reducible exact Ext.refl _ | with_reducible assumption | ((with_reducible apply Src.ext); with_reducible assumption) | with_reducible refine Ext.alloc ?_ _ | with_reducible refine Ext.drew ?_ | with_reducible refine Ext.drewN ?_ _ | ((with_reducible refine Ext.setCell' ?_ ?_ _); solve | omega | simp | (simp; omega)) | (with_reducible refine Ext.trans ?_ (by with_reducible assumption))))⟩
  case round =>
    obtain ⟨k, hk, rfl, hx⟩ := hrel
    by_cases hlt : k < n
    · have hk1 : k < rs.length := by rw [← HN.out]; exact hlt
      have hk2 : k < rs'.length := by rw [← HN'.out]; exact hk1
      obtain ⟨b, off, rfl, hb, hc⟩ := (h.ext hx).rg hk1
      obtain ⟨b', off', rfl, hb', hc'⟩ := (h'.ext hx).rg hk2
      have hp := psOf_at' HE.out hk1
      have h1 := (hr.ext hx) _ (rg_mem hk1)
      have h2 := (hr'.ext hx) _ (rg_mem hk2)
      obtain ⟨r, hre⟩ : ∃ r, r = rs.getD k rgD := ⟨_, rfl⟩
      obtain ⟨r', hre'⟩ : ∃ r, r = rs'.getD k rgD := ⟨_, rfl⟩
      rw [← hre] at hc hp h1
      rw [← hre'] at hc' hp h2
      rw [hp] at hc' h2
      clear hre hre' hp hk1 hk2
      have H1 := Lib.hid h1
      have H2 := Lib.hid h2
      clear h1 h2
      go_wp2
      (refine wp_region_ext (by kernel_rfl) (by kernel_rfl) ?_; (repeat (go_big_quiet_step ((go_at_call 39; exact Calls_ext (l_eqP _ _ _ _ _ r.2.2 _ (H1.out.1.ext (ExtOf.ext _)) (H2.out.1.ext (ExtOf.ext _)) rfl H1.out.2.2))))); refine wpQuiet_nil ?_; intro wq hxwq; obtain ⟨hcwq, hfwq⟩ := hxwq.rules; have hswq := hxwq.size; (try simp at hswq))
      go_wp2
      go_roundw
      case rel => exact ⟨k + 1, by omega, by go_num, by (repeat (first | with_reducible exact Ext.refl _ | with_reducible assumption | ((with_reducible apply Src.ext); with_reducible assumption) | with_reducible refine Ext.alloc ?_ _ | with_reducible refine Ext.drew ?_ | with_reducible refine Ext.drewN ?_ _ | ((with_reducible refine Ext.setCell' ?_ ?_ _); solve | omega | simp | (simp; omega)) | (with_reducible refine Ext.trans ?_ (by with_reducible assumption))))⟩
      case measure => simp [intOf]; omega
    · go_wp2
      go_ret
      exact ⟨rfl, by (repeat (first | with_reducible exact Ext.refl _ | with_reducible assumption | ((with_reducible apply Src.ext); with_reducible assumption) | with_reducible refine Ext.alloc ?_ _ | with_reducible refine Ext.drew ?_ | with_reducible refine Ext.drewN ?_ _ | ((with_reducible refine Ext.setCell' ?_ ?_ _); solve | omega | simp | (simp; omega)) | (with_reducible refine Ext.trans ?_ (by with_reducible assumption))))⟩
/-- a list of rings among a law's arguments -/
structure ArgR (w : World) (A : Option Addr) (rs : List Rg) : Prop where
  sl : SlAt w 1 encR A rs
  rg : ∀ i, i < rs.length → SlAt w 2 encP (rs.getD i rgD).1 (rs.getD i rgD).2.2
  len : rs.length ≤ 9223372036854775807
  lens : ∀ i, i < rs.length → (rs.getD i rgD).2.2.length ≤ 9223372036854775807
theorem ArgR.ext {w w' : World} {A : Option Addr} {rs : List Rg} (h : ArgR w A rs) (hx : Ext w w') : ArgR w' A rs := ⟨h.sl.ext hx, fun i hi => (h.rg i hi).ext hx, h.len, h.lens⟩

end Go.Proofs.YtabdffponmmhoaaGreatDoor
