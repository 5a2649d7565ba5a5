/- Codes over worlds, places of a world, and the codes of places as asked, as the program sees them. Names that are used in a year, and years in which nothing changes, as the program sees them. -/
import Derived.Test.YtbnkiibjhfcffaaGreatDoorYG
import Derived.Test.YtbnkiibjhfcffaaGreatDoorS1
import Derived.Test.YtbnkiibjhfcffaaGreatDoorM2
import Derived.Test.YtbnkiibjhfcffaaGreatDoorIB
import Derived.Deep.RegionHeld3
import Derived.Deep.DeepCutAuto
import Derived.RegionTactic
import Derived.BigRegion
import Derived.WalkLawsBesides
import Derived.WalkSpells
import Derived.Lib.MinMax
import Derived.Outline
namespace Go.Proofs.YtbnkiibjhfcffaaGreatDoor
open Go.RowKit
attribute [local go_sem] ExtOf.cell ExtOf.frozen

/-- a place as a value -/
def plV (p : Pl) : Value := .agg #[.string (tx p.1), .int .i64 p.2.1, .int .i64 p.2.2.1, .int .i64 p.2.2.2.1, .slice p.2.2.2.2.1 p.2.2.2.2.2.2.length p.2.2.2.2.2.1]
section
variable {w : World} {A A' : Option Addr} {n c m c' : Nat} {ps : List Pl} {L : List Lk}
set_option maxHeartbeats 3200000 in
theorem i_worldCode (ok : Bool) (ys : List Int) (A'' : Option Addr) (r c'' : Nat) (h : WIn w A A' n c m c' ps L) (hm : Mx w) (hy : SlAt w 1 encI A'' ys) (hr : r = ys.length) (hrl : r ≤ 1000) :
    Calls Tryz.prog 21 #[.agg #[.slice A n c, .slice A' m c'], .bool ok, .slice A'' r c''] w fun e w' => e = .returned (.int .i64 (wyC (psD ps) L ok ys)) ∧ Ext w w' := by
  have HA := Lib.hid (fun W (hW : WIn W A A' n c m c' ps L) (hM : Mx W) => i_IsWorldW hW hM)
  have HS := Lib.hid (And.intro h hm)
  have HY := Lib.hid (fun W (hW : Ext w W) => i_areWithin A'' r c'' ys (-3000) 3000 W (hy.ext hW) hr (by omega))
  clear h hm hy hr
  cases h1 : wdB (psD ps) L with
  | false =>
    rw [wyC_wd h1]
    rw [h1] at HA
    clear h1
    go_enter Tryz.func21, Tryz.ntmps21
    (go_wp2_with fail; refine (HA.out _ (HS.out.1.ext (by (with_reducible repeat (first | exact Ext.refl _ | assumption | (apply Src.ext; assumption) | refine Ext.alloc ?_ _ | refine Ext.drew ?_ | refine Ext.drewN ?_ _ | (refine Ext.setCell' ?_ ?_ _; solve | omega | simp | (simp; omega)) | refine Ext.trans ?_ (by assumption))))) (HS.out.2.ext (by (with_reducible repeat (first | exact Ext.refl _ | assumption | (apply Src.ext; assumption) | refine Ext.alloc ?_ _ | refine Ext.drew ?_ | refine Ext.drewN ?_ _ | (refine Ext.setCell' ?_ ?_ _; solve | omega | simp | (simp; omega)) | refine Ext.trans ?_ (by assumption)))))).mono ?_; rintro e w1 ⟨rfl, hx1⟩; obtain ⟨hc1, hf1⟩ := hx1.rules; have hs1 := hx1.size; (try simp at hs1))
    go_wp2
    go_ret
    exact ⟨rfl, by (with_reducible repeat (first | exact Ext.refl _ | assumption | (apply Src.ext; assumption) | refine Ext.alloc ?_ _ | refine Ext.drew ?_ | refine Ext.drewN ?_ _ | (refine Ext.setCell' ?_ ?_ _; solve | omega | simp | (simp; omega)) | refine Ext.trans ?_ (by assumption)))⟩
  | true =>
    rw [h1] at HA
    cases h2 : ok with
    | false =>
      rw [wyC_no rfl]
      clear h1 HY
      go_enter Tryz.func21, Tryz.ntmps21
      (go_wp2_with fail; refine (HA.out _ (HS.out.1.ext (by (with_reducible repeat (first | exact Ext.refl _ | assumption | (apply Src.ext; assumption) | refine Ext.alloc ?_ _ | refine Ext.drew ?_ | refine Ext.drewN ?_ _ | (refine Ext.setCell' ?_ ?_ _; solve | omega | simp | (simp; omega)) | refine Ext.trans ?_ (by assumption))))) (HS.out.2.ext (by (with_reducible repeat (first | exact Ext.refl _ | assumption | (apply Src.ext; assumption) | refine Ext.alloc ?_ _ | refine Ext.drew ?_ | refine Ext.drewN ?_ _ | (refine Ext.setCell' ?_ ?_ _; solve | omega | simp | (simp; omega)) | refine Ext.trans ?_ (by assumption)))))).mono ?_; rintro e w1 ⟨rfl, hx1⟩; obtain ⟨hc1, hf1⟩ := hx1.rules; have hs1 := hx1.size; (try simp at hs1))
      go_wp2
      go_ret
      exact ⟨rfl, by (with_reducible repeat (first | exact Ext.refl _ | assumption | (apply Src.ext; assumption) | refine Ext.alloc ?_ _ | refine Ext.drew ?_ | refine Ext.drewN ?_ _ | (refine Ext.setCell' ?_ ?_ _; solve | omega | simp | (simp; omega)) | refine Ext.trans ?_ (by assumption)))⟩
    | true =>
      cases h3 : (ys.all fun y => inB y (-3000) 3000) with
      | false =>
        rw [wyC_year h1 rfl h3]
        rw [h3] at HY
        clear h1 h2 h3
        go_enter Tryz.func21, Tryz.ntmps21
        (go_wp2_with fail; refine (HA.out _ (HS.out.1.ext (by (with_reducible repeat (first | exact Ext.refl _ | assumption | (apply Src.ext; assumption) | refine Ext.alloc ?_ _ | refine Ext.drew ?_ | refine Ext.drewN ?_ _ | (refine Ext.setCell' ?_ ?_ _; solve | omega | simp | (simp; omega)) | refine Ext.trans ?_ (by assumption))))) (HS.out.2.ext (by (with_reducible repeat (first | exact Ext.refl _ | assumption | (apply Src.ext; assumption) | refine Ext.alloc ?_ _ | refine Ext.drew ?_ | refine Ext.drewN ?_ _ | (refine Ext.setCell' ?_ ?_ _; solve | omega | simp | (simp; omega)) | refine Ext.trans ?_ (by assumption)))))).mono ?_; rintro e w1 ⟨rfl, hx1⟩; obtain ⟨hc1, hf1⟩ := hx1.rules; have hs1 := hx1.size; (try simp at hs1))
        (go_wp2_with fail; refine (HY.out _ (by (with_reducible repeat (first | exact Ext.refl _ | assumption | (apply Src.ext; assumption) | refine Ext.alloc ?_ _ | refine Ext.drew ?_ | refine Ext.drewN ?_ _ | (refine Ext.setCell' ?_ ?_ _; solve | omega | simp | (simp; omega)) | refine Ext.trans ?_ (by assumption))))).mono ?_; rintro e w' ⟨rfl, rfl⟩)
        go_wp2
        go_ret
        exact ⟨rfl, by (with_reducible repeat (first | exact Ext.refl _ | assumption | (apply Src.ext; assumption) | refine Ext.alloc ?_ _ | refine Ext.drew ?_ | refine Ext.drewN ?_ _ | (refine Ext.setCell' ?_ ?_ _; solve | omega | simp | (simp; omega)) | refine Ext.trans ?_ (by assumption)))⟩
      | true =>
        rw [wyC_ok h1 rfl h3]
        rw [h3] at HY
        clear h1 h2 h3
        go_enter Tryz.func21, Tryz.ntmps21
        (go_wp2_with fail; refine (HA.out _ (HS.out.1.ext (by (with_reducible repeat (first | exact Ext.refl _ | assumption | (apply Src.ext; assumption) | refine Ext.alloc ?_ _ | refine Ext.drew ?_ | refine Ext.drewN ?_ _ | (refine Ext.setCell' ?_ ?_ _; solve | omega | simp | (simp; omega)) | refine Ext.trans ?_ (by assumption))))) (HS.out.2.ext (by (with_reducible repeat (first | exact Ext.refl _ | assumption | (apply Src.ext; assumption) | refine Ext.alloc ?_ _ | refine Ext.drew ?_ | refine Ext.drewN ?_ _ | (refine Ext.setCell' ?_ ?_ _; solve | omega | simp | (simp; omega)) | refine Ext.trans ?_ (by assumption)))))).mono ?_; rintro e w1 ⟨rfl, hx1⟩; obtain ⟨hc1, hf1⟩ := hx1.rules; have hs1 := hx1.size; (try simp at hs1))
        (go_wp2_with fail; refine (HY.out _ (by (with_reducible repeat (first | exact Ext.refl _ | assumption | (apply Src.ext; assumption) | refine Ext.alloc ?_ _ | refine Ext.drew ?_ | refine Ext.drewN ?_ _ | (refine Ext.setCell' ?_ ?_ _; solve | omega | simp | (simp; omega)) | refine Ext.trans ?_ (by assumption))))).mono ?_; rintro e w' ⟨rfl, rfl⟩)
        go_wp2
        go_ret
        exact ⟨rfl, by (with_reducible repeat (first | exact Ext.refl _ | assumption | (apply Src.ext; assumption) | refine Ext.alloc ?_ _ | refine Ext.drew ?_ | refine Ext.drewN ?_ _ | (refine Ext.setCell' ?_ ?_ _; solve | omega | simp | (simp; omega)) | refine Ext.trans ?_ (by assumption)))⟩
set_option maxHeartbeats 3200000 in
theorem i_hasPlace (x : List UInt8) (h : SlAt w 5 encQ A ps) (hn : n = ps.length) (hl : n ≤ 1048576) (ha : AscP ps) :
    Calls Tryz.prog 39 #[.agg #[.slice A n c, .slice A' m c'], .string (tx x)] w fun e w' => e = .returned (.bool (fndP (psD ps) x).isSome) ∧ Ext w w' := by
  have HF := Lib.hid (fun W hW => i_findPlace A n c ps x W hW hn hl ha)
  have HS := Lib.hid h
  generalize (fndP (psD ps) x).isSome = q at *
  generalize tx x = sx at *
  clear hn h ha
  go_enter Tryz.func39, Tryz.ntmps39
  go_wp2_with fail
  refine (HF.out _ (HS.out.ext (by (with_reducible repeat (first | exact Ext.refl _ | assumption | (apply Src.ext; assumption) | refine Ext.alloc ?_ _ | refine Ext.drew ?_ | refine Ext.drewN ?_ _ | (refine Ext.setCell' ?_ ?_ _; solve | omega | simp | (simp; omega)) | refine Ext.trans ?_ (by assumption)))))).mono ?_
  rintro e w1 ⟨k, _, hkn, rfl, hx1⟩
  go_wp2
  go_ret
  exact ⟨rfl, by (with_reducible repeat (first | exact Ext.refl _ | assumption | (apply Src.ext; assumption) | refine Ext.alloc ?_ _ | refine Ext.drew ?_ | refine Ext.drewN ?_ _ | (refine Ext.setCell' ?_ ?_ _; solve | omega | simp | (simp; omega)) | refine Ext.trans ?_ (by assumption)))⟩
set_option maxHeartbeats 3200000 in
theorem i_parentOf (x : List UInt8) (y : Int) (h : SlAt w 4 encK A' L) (hn : m = L.length) (hl : m ≤ 1048576) :
    Calls Tryz.prog 25 #[.agg #[.slice A n c, .slice A' m c'], .string (tx x), .int .i64 y] w fun e w' => e = .returned (.string (tx (parT L x y))) ∧ Ext w w' := by
  have HP := Lib.hid (fun W hW => i_parentIn A' m c' L x y W hW hn hl)
  have HS := Lib.hid h
  generalize (par L x y).isSome = q at *
  generalize tx (parT L x y) = sp at *
  generalize tx x = sx at *
  clear h hn
  go_enter Tryz.func25, Tryz.ntmps25
  go_wp2_with fail
  refine (HP.out _ (HS.out.ext (by (with_reducible repeat (first | exact Ext.refl _ | assumption | (apply Src.ext; assumption) | refine Ext.alloc ?_ _ | refine Ext.drew ?_ | refine Ext.drewN ?_ _ | (refine Ext.setCell' ?_ ?_ _; solve | omega | simp | (simp; omega)) | refine Ext.trans ?_ (by assumption)))))).mono ?_
  rintro e w1 ⟨rfl, hx1⟩
  go_wp2
  go_ret
  exact ⟨rfl, by (with_reducible repeat (first | exact Ext.refl _ | assumption | (apply Src.ext; assumption) | refine Ext.alloc ?_ _ | refine Ext.drew ?_ | refine Ext.drewN ?_ _ | (refine Ext.setCell' ?_ ?_ _; solve | omega | simp | (simp; omega)) | refine Ext.trans ?_ (by assumption)))⟩
end
theorem blk_s1c {w : World} {g : Nat} {t : TypeId} {l : List UInt8} (h : Blk w g t #[.string (tx l)]) : SlAt w 1 encS (some ⟨g, 0, none⟩) [l] := h.sl rfl len_encS
set_option maxRecDepth 20000 in
set_option maxHeartbeats 6400000 in
theorem i_codesOf (q : Pd → Bool) (g : Nat) (lb : Array Value) (eg : ∀ args w, (callFunc g args).run Tryz.prog w = .ok (.enter g args) w) (A : Option Addr) (n c : Nat) (ps : List Pl) (w : World) (h : SlAt w 5 encQ A ps) (hn : n = ps.length) (hl : n ≤ 1000)
    (hp : ∀ p ∈ ps, ∀ W, Ext w W → Calls Tryz.prog g (#[plV p] ++ lb) W fun e w' => e = .returned (.bool (q (pdOf p))) ∧ Ext W w') :
    Calls Tryz.prog 22 #[.slice A n c, .func (.func g) #[] lb] w fun e w' => ∃ v, e = .returned v ∧ OwS w' w.heap.size v (cdsP q (psD ps)) ∧ Ext w w' := by
  have HP := Lib.hid hp
  have HN := Lib.hid hn
  have HS := Lib.hid h
  have hfin : cdsTo q (psD ps) n = cdsP q (psD ps) := by rw [hn, ← psD_len, cdsTo_all]
  have HFIN := Lib.hid hfin
  clear hp hn h hfin
  go_enter Tryz.func22, Tryz.ntmps22
  go_wp2
  go_loopw [5, 10] (fun v i wr => ∃ k : Nat, k ≤ n ∧ i = .int .i64 k ∧ Hid (OwS wr w.heap.size v (cdsTo q (psD ps) k)) ∧ Ext w wr) (fun _ i _ => n - (intOf i).toNat)
  case atStart => exact ⟨0, by omega, rfl, Lib.hid (Own.nil _ _), by (with_reducible repeat (first | exact Ext.refl _ | assumption | (apply Src.ext; assumption) | refine Ext.alloc ?_ _ | refine Ext.drew ?_ | refine Ext.drewN ?_ _ | (refine Ext.setCell' ?_ ?_ _; solve | omega | simp | (simp; omega)) | refine Ext.trans ?_ (by assumption)))⟩
  case round =>
    obtain ⟨k, hk, rfl, HV, hxr⟩ := hrel
    obtain ⟨w5, rfl⟩ : ∃ x, x = wr := ⟨wr, rfl⟩
    by_cases hlt : k < n
    · have hkr : k < ps.length := by rw [← HN.out]; exact hlt
      obtain ⟨b, off, rfl, hb, d0, d1, d2, d3, d4⟩ := (HS.out.ext hxr).pl hkr
      have hcall := HP.out _ (mem_getD (d := plD) hkr)
      have hsucc := cdsTo_succ (p := q) (D := psD ps) (k := k) (by rw [psD_len]; exact hkr)
      rw [psD_at hkr] at hsucc
      have hln := cdsTo_len q (psD ps) k
      have hpv : plV (ps.getD k plD) = .agg #[.string (tx (ps.getD k plD).1), .int .i64 (ps.getD k plD).2.1, .int .i64 (ps.getD k plD).2.2.1, .int .i64 (ps.getD k plD).2.2.2.1, .slice (ps.getD k plD).2.2.2.2.1 (ps.getD k plD).2.2.2.2.2.2.length (ps.getD k plD).2.2.2.2.2.1] := rfl
      rw [hpv] at hcall
      clear hpv
      cases hq : q (pdOf (ps.getD k plD)) with
      | false =>
        rw [hq] at hsucc hcall
        have HC := Lib.hid hcall
        have HSU : Hid (cdsTo q (psD ps) (k + 1) = cdsTo q (psD ps) k) := Lib.hid (by rw [hsucc]; simp)
        clear hcall hsucc hq hln
        generalize ps.getD k plD = l at *
        generalize tx l.1 = s0 at *
        generalize l.2.1 = s1 at *
        generalize l.2.2.1 = s2 at *
        generalize l.2.2.2.1 = s3 at *
        generalize l.2.2.2.2.1 = s4 at *
        generalize l.2.2.2.2.2.2.length = s5 at *
        generalize l.2.2.2.2.2.1 = s6 at *
        go_wp2_with fail
        refine (HC.out _ (by (with_reducible repeat (first | exact Ext.refl _ | assumption | (apply Src.ext; assumption) | refine Ext.alloc ?_ _ | refine Ext.drew ?_ | refine Ext.drewN ?_ _ | (refine Ext.setCell' ?_ ?_ _; solve | omega | simp | (simp; omega)) | refine Ext.trans ?_ (by assumption))))).mono ?_
        rintro e w2 ⟨rfl, hx2⟩
        go_wp2
        go_roundw
        case rel => exact ⟨k + 1, by omega, by go_num, Lib.hid (by rw [HSU.out]; exact HV.out.ext (by (with_reducible repeat (first | exact Ext.refl _ | assumption | (apply Src.ext; assumption) | refine Ext.alloc ?_ _ | refine Ext.drew ?_ | refine Ext.drewN ?_ _ | (refine Ext.setCell' ?_ ?_ _; solve | omega | simp | (simp; omega)) | refine Ext.trans ?_ (by assumption))))), by (with_reducible repeat (first | exact Ext.refl _ | assumption | (apply Src.ext; assumption) | refine Ext.alloc ?_ _ | refine Ext.drew ?_ | refine Ext.drewN ?_ _ | (refine Ext.setCell' ?_ ?_ _; solve | omega | simp | (simp; omega)) | refine Ext.trans ?_ (by assumption)))⟩
        case measure => simp [intOf]; omega
      | true =>
        rw [hq] at hsucc hcall
        have HC := Lib.hid hcall
        have HSU : Hid (cdsTo q (psD ps) (k + 1) = cdsTo q (psD ps) k ++ [(ps.getD k plD).1]) := Lib.hid (by rw [hsucc]; simp; rfl)
        have HBL := Lib.hid (fun (W : World) (g : Nat) (hB : Blk W g 9 #[.string (tx (ps.getD k plD).1)]) => blk_s1c hB)
        clear hcall hsucc hq
        generalize ps.getD k plD = l at *
        have HLN : Hid ((cdsTo q (psD ps) k).length ≤ 1000) := Lib.hid (by omega)
        generalize tx l.1 = s0 at *
        generalize l.2.1 = s1 at *
        generalize l.2.2.1 = s2 at *
        generalize l.2.2.2.1 = s3 at *
        generalize l.2.2.2.2.1 = s4 at *
        generalize l.2.2.2.2.2.2.length = s5 at *
        generalize l.2.2.2.2.2.1 = s6 at *
        clear hln
        go_wp2_with fail
        refine (HC.out _ (by (with_reducible repeat (first | exact Ext.refl _ | assumption | (apply Src.ext; assumption) | refine Ext.alloc ?_ _ | refine Ext.drew ?_ | refine Ext.drewN ?_ _ | (refine Ext.setCell' ?_ ?_ _; solve | omega | simp | (simp; omega)) | refine Ext.trans ?_ (by assumption))))).mono ?_
        rintro e w2 ⟨rfl, hx2⟩
        obtain ⟨hc2, hf2⟩ := hx2.rules
        have hs2 := hx2.size
        (try simp at hs2)
        have := (show w5.heap.size < w2.heap.size from by omega)
        have hsr := hxr.size
        have HV1 : Hid (OwS w2 w.heap.size _ (cdsTo q (psD ps) k)) := Lib.hid (HV.out.ext (by (with_reducible repeat (first | exact Ext.refl _ | assumption | (apply Src.ext; assumption) | refine Ext.alloc ?_ _ | refine Ext.drew ?_ | refine Ext.drewN ?_ _ | (refine Ext.setCell' ?_ ?_ _; solve | omega | simp | (simp; omega)) | refine Ext.trans ?_ (by assumption)))))
        go_wp2_with (at_builtin; refine wpList_append_sl elS len_encS one_encS rfl _ _ rfl rfl (HV1.out.ext (by (with_reducible repeat (first | exact Ext.refl _ | assumption | (apply Src.ext; assumption) | refine Ext.alloc ?_ _ | refine Ext.drew ?_ | refine Ext.drewN ?_ _ | (refine Ext.setCell' ?_ ?_ _; solve | omega | simp | (simp; omega)) | refine Ext.trans ?_ (by assumption))))) (xs := [l.1]) rfl (HBL.out _ _ (by (with_reducible repeat (first | assumption | (apply Blk.new; solve | simp | with_unfolding_all rfl) | apply Blk.drew | apply Blk.drewN | (apply Blk.far'; solve | omega | simp | (simp; omega)) | apply Blk.set_ | apply Blk.alloc | (apply Blk.ext'; assumption) | (apply Blk.but'; assumption; solve | omega | (simp; omega)))))) (by have := HLN.out; simp; unfold maxLen; omega) (by have := HLN.out; simp; omega) (by first | omega | (simp; omega)) ?_)
        intro v' w6 hown hgrow _
        have HV2 := Lib.hid hown
        have hx6 : Ext w w6 := by
          refine Ext.grown ?_ hgrow (fun q hq => (HV.out.row q hq).1)
          (with_reducible repeat (first | exact Ext.refl _ | assumption | (apply Src.ext; assumption) | refine Ext.alloc ?_ _ | refine Ext.drew ?_ | refine Ext.drewN ?_ _ | (refine Ext.setCell' ?_ ?_ _; solve | omega | simp | (simp; omega)) | refine Ext.trans ?_ (by assumption)))
        clear hown hgrow
        go_wp2
        go_roundw
        case rel => exact ⟨k + 1, by omega, by go_num, Lib.hid (by rw [HSU.out]; exact HV2.out), hx6⟩
        case measure => simp [intOf]; omega
    · obtain rfl : k = n := by omega
      have HO : Hid (OwS w5 w.heap.size _ (cdsP q (psD ps))) := Lib.hid (by rw [← HFIN.out]; exact HV.out)
      go_wp2
      go_ret
      exact ⟨_, rfl, HO.out.ext (by (with_reducible repeat (first | exact Ext.refl _ | assumption | (apply Src.ext; assumption) | refine Ext.alloc ?_ _ | refine Ext.drew ?_ | refine Ext.drewN ?_ _ | (refine Ext.setCell' ?_ ?_ _; solve | omega | simp | (simp; omega)) | refine Ext.trans ?_ (by assumption)))), by (with_reducible repeat (first | exact Ext.refl _ | assumption | (apply Src.ext; assumption) | refine Ext.alloc ?_ _ | refine Ext.drew ?_ | refine Ext.drewN ?_ _ | (refine Ext.setCell' ?_ ?_ _; solve | omega | simp | (simp; omega)) | refine Ext.trans ?_ (by assumption)))⟩
end Go.Proofs.YtbnkiibjhfcffaaGreatDoor
namespace Go.Proofs.YtbnkiibjhfcffaaGreatDoor
open Go.RowKit
attribute [local go_sem] ExtOf.cell ExtOf.frozen

end Go.Proofs.YtbnkiibjhfcffaaGreatDoor
