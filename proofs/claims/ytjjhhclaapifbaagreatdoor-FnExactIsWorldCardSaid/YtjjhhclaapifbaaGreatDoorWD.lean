/- Ways up, as the specification sees them. -/
import Derived.Test.YtjjhhclaapifbaaGreatDoorWC
import Derived.Deep.RegionHeld3
import Derived.Deep.DeepCutAuto
import Derived.RegionTactic
import Derived.BigRegion
import Derived.WalkLawsBesides
import Derived.WalkSpells
import Derived.Lib.MinMax
import Derived.Outline
namespace Go.Proofs.YtjjhhclaapifbaaGreatDoor
open Go.RowKit
attribute [local go_sem] ExtOf.cell ExtOf.frozen

def slLn : Value → Nat
  | .slice _ n _ => n
  | _ => 0
/-- no parent is told by the empty text -/
def Told (L : List Lk) : Prop := ∀ l ∈ L, l.2.1 ≠ []
/-- the loop's state: the way so far and the place that comes next -/
def WayAt (L : List Lk) (x : List UInt8) (y : Int) (ws : List (List UInt8)) (c : List UInt8) : Prop :=
  (c = [] ∧ wayU L x y = (ws, false)) ∨ (c ≠ [] ∧ c ∈ ws ∧ wayU L x y = (ws, true)) ∨ (c ≠ [] ∧ c ∉ ws ∧ ∃ f, way (fun z => par L z y) f (ws ++ [c]) c = wayU L x y ∧ WayIn L y f (ws ++ [c]) c)
theorem WayAt.start {L : List Lk} {x : List UInt8} {y : Int} (hx : x ≠ []) : WayAt L x y [] x :=
  .inr (.inr ⟨hx, by simp, L.length + 1, rfl, WayIn.start L x y⟩)
theorem par_told {L : List Lk} (hT : Told L) {c n : List UInt8} {y : Int} (h : par L c y = some n) : n ≠ [] := by
  unfold par at h
  rcases hl : lkOf L c y with _ | l
  · rw [hl] at h; cases h
  · rw [hl] at h
    injection h with h
    rw [← h]
    exact hT l (lkOf_some hl).1
theorem WayAt.next {L : List Lk} (hT : Told L) {x c : List UInt8} {y : Int} {ws : List (List UInt8)} (h : WayAt L x y ws c) (hc : c ≠ []) (hn : c ∉ ws) : WayAt L x y (ws ++ [c]) (parT L c y) := by
  rcases h with ⟨e, _⟩ | ⟨_, e, _⟩ | ⟨_, _, f, hw, hi⟩
  · exact absurd e hc
  · exact absurd e hn
  · unfold parT
    rcases hp : par L c y with _ | n
    · rw [way_none (p := fun z => par L z y) hp] at hw
      exact .inl ⟨rfl, hw.symm⟩
    · have hne := par_told hT hp
      have hf := (hi.pos par_in (show (fun z => par L z y) c = some n from hp)).1
      by_cases hm : n ∈ ws ++ [c]
      · rw [way_hit hf (show (fun z => par L z y) c = some n from hp) hm] at hw
        exact .inr (.inl ⟨hne, hm, hw.symm⟩)
      · obtain ⟨f, rfl⟩ : ∃ k, f = k + 1 := ⟨f - 1, by omega⟩
        rw [way_on (show (fun z => par L z y) c = some n from hp) hm] at hw
        exact .inr (.inr ⟨hne, hm, f, hw, hi.step par_in hp hm⟩)
theorem WayAt.len {L : List Lk} {x c : List UInt8} {y : Int} {ws : List (List UInt8)} (h : WayAt L x y ws c) (hc : c ≠ []) (hn : c ∉ ws) : ws.length ≤ L.length := by
  rcases h with ⟨e, _⟩ | ⟨_, e, _⟩ | ⟨_, _, f, _, hi⟩
  · exact absurd e hc
  · exact absurd e hn
  · have := hi.len
    rw [List.length_append, List.length_map] at this
    simp at this
    omega
theorem WayAt.end_ {L : List Lk} {x : List UInt8} {y : Int} {ws : List (List UInt8)} (h : WayAt L x y ws []) : wayU L x y = (ws, false) := by
  rcases h with ⟨_, e⟩ | ⟨e, _⟩ | ⟨e, _⟩
  · exact e
  · exact absurd rfl e
  · exact absurd rfl e
theorem WayAt.back {L : List Lk} {x c : List UInt8} {y : Int} {ws : List (List UInt8)} (h : WayAt L x y ws c) (hc : c ≠ []) (hm : c ∈ ws) : wayU L x y = (ws, true) := by
  rcases h with ⟨e, _⟩ | ⟨_, _, e⟩ | ⟨_, e, _⟩
  · exact absurd e hc
  · exact e
  · exact absurd hm e
/-- what the specification hands back for a way up -/
def WayRet (L : List Lk) (x : List UInt8) (y : Int) (base : Nat) (e : Ending) (w' : World) : Prop :=
  ((wayU L x y).2 = true ∧ e = .returned (.tuple #[.slice none 0 0, .bool false])) ∨ ((wayU L x y).2 = false ∧ ∃ v, e = .returned (.tuple #[v, .bool true]) ∧ OwS w' base v (wayU L x y).1)

set_option maxRecDepth 20000 in
set_option maxHeartbeats 12800000 in
theorem s_l12Way (A : Option Addr) (n c : Nat) (L : List Lk) (x : List UInt8) (y : Int) (w : World) (h : SlAt w 4 encK A L) (hn : n = L.length) (hl : n ≤ 1048576) (hT : Told L) (hx : x ≠ []) :
    Calls Tryz.prog 92 #[.slice A n c, .string (tx x), .int .i64 y] w fun e w' => WayRet L x y w.heap.size e w' ∧ Ext w w' := by
  have HN := Lib.hid hn
  have HT := Lib.hid hT
  have HS := Lib.hid h
  have HV0 := Lib.hid (World.ownsRow_made (base := w.heap.size) (e := 9) (size := 1) w #[] 0 (Nat.le_refl _) (Nat.zero_le _) rfl : OwS _ w.heap.size _ [])
  have HW0 := Lib.hid (WayAt.start (L := L) (y := y) hx)
  clear hn hT h hx
  go_enter Tryz.func92, Tryz.ntmps92
  go_wp2
  go_loopw [1, 8] (fun s v wr => ∃ ws d, s = .string (tx d) ∧ Hid (WayAt L x y ws d) ∧ Hid (OwS wr w.heap.size v ws) ∧ Ext w wr) (fun _ v _ => n + 2 - slLn v)
  case atStart => exact ⟨[], x, rfl, HW0, HV0, by (repeat (first | with_reducible exact Ext.refl _ | with_reducible assumption | ((with_reducible apply Src.ext); with_reducible assumption) | with_reducible refine Ext.alloc ?_ _ | with_reducible refine Ext.drew ?_ | with_reducible refine Ext.drewN ?_ _ | ((with_reducible refine Ext.setCell' ?_ ?_ _); solve | omega | simp | (simp; omega)) | (with_reducible refine Ext.trans ?_ (by with_reducible assumption))))⟩
  case round =>
    obtain ⟨ws, d, rfl, HW, HV, hxr⟩ := hrel
    obtain ⟨w5, rfl⟩ : ∃ x, x = wr := ⟨wr, rfl⟩
    have htd := tx_toL d
    have hsr := hxr.size
    obtain ⟨A', c', rfl, hS, hcc, hcm, hrow⟩ := HV.out.sl len_encS
    have HSW := Lib.hid hS
    by_cases hd : d = []
    · have HR := Lib.hid (WayAt.end_ (hd ▸ HW.out))
      have hem : (tx d).toList.isEmpty = true := by rw [htd, hd]; rfl
      generalize tx d = sd at *
      clear hd htd hS hrow
      go_wp2
      go_ret2
      exact ⟨.inr ⟨by rw [HR.out], _, rfl, by rw [HR.out]; exact HV.out⟩, by (repeat (first | with_reducible exact Ext.refl _ | with_reducible assumption | ((with_reducible apply Src.ext); with_reducible assumption) | with_reducible refine Ext.alloc ?_ _ | with_reducible refine Ext.drew ?_ | with_reducible refine Ext.drewN ?_ _ | ((with_reducible refine Ext.setCell' ?_ ?_ _); solve | omega | simp | (simp; omega)) | (with_reducible refine Ext.trans ?_ (by with_reducible assumption))))⟩
    · have hem : (tx d).toList.isEmpty = false := by rw [htd]; cases d with | nil => exact absurd rfl hd | cons a t => rfl
      have hwl := HV.out.1
      have HC := Lib.hid (fun W (hW : SlAt W 1 encS A' ws) hlim => s_l03Find A' ws.length c' ws d W hW rfl hlim)
      by_cases hm : d ∈ ws
      · have HR := Lib.hid (HW.out.back hd hm)
        obtain ⟨r, hr⟩ : ∃ r, r = fdI ws d := ⟨_, rfl⟩
        rw [← hr] at HC
        have hr0 : 0 ≤ r := by rw [hr]; exact fdI_iff.2 hm
        have hdr : decide (0 ≤ r) = true := decide_eq_true hr0
        have hwz : ws.length ≤ 2097152 := by
          obtain ⟨_, _, hle⟩ := wayU_ne L x y
          rw [HR.out] at hle
          have := HN.out
          simp only at hle
          omega
        have HWZ := Lib.hid hwz
        generalize tx d = sd at *
        clear hd htd hS hrow hm hr hwl
        (go_wp2_with fail; refine (HC.out _ (HSW.out.ext (by (repeat (first | with_reducible exact Ext.refl _ | with_reducible assumption | ((with_reducible apply Src.ext); with_reducible assumption) | with_reducible refine Ext.alloc ?_ _ | with_reducible refine Ext.drew ?_ | with_reducible refine Ext.drewN ?_ _ | ((with_reducible refine Ext.setCell' ?_ ?_ _); solve | omega | simp | (simp; omega)) | (with_reducible refine Ext.trans ?_ (by with_reducible assumption)))))) HWZ.out).mono ?_; rintro e w' ⟨rfl, rfl⟩)
        go_wp2
        go_ret2
        exact ⟨.inl ⟨by rw [HR.out], rfl⟩, by (repeat (first | with_reducible exact Ext.refl _ | with_reducible assumption | ((with_reducible apply Src.ext); with_reducible assumption) | with_reducible refine Ext.alloc ?_ _ | with_reducible refine Ext.drew ?_ | with_reducible refine Ext.drewN ?_ _ | ((with_reducible refine Ext.setCell' ?_ ?_ _); solve | omega | simp | (simp; omega)) | (with_reducible refine Ext.trans ?_ (by with_reducible assumption))))⟩
      · have hlen := HW.out.len hd hm
        have hlen2 : ws.length ≤ n := by rw [HN.out]; exact hlen
        have HLE := Lib.hid hlen2
        have HW2 := Lib.hid (HW.out.next HT.out hd hm)
        obtain ⟨r, hr⟩ : ∃ r, r = fdI ws d := ⟨_, rfl⟩
        rw [← hr] at HC
        have hr0 : r < 0 := by rw [hr]; exact Int.lt_of_not_ge fun e => hm (fdI_iff.1 e)
        have hdr : decide (0 ≤ r) = false := decide_eq_false (by omega)
        have HP := Lib.hid (fun W hW => s_l12Parent A n c L d y W hW HN.out hl)
        have HBL := Lib.hid (fun (W : World) (g : Nat) (hB : Blk W g 9 #[.string (tx d)]) => blk_s1 hB)
        clear hd htd hS hrow hm hr hwl hlen
        (go_wp2_with fail; refine (HC.out _ (HSW.out.ext (by (repeat (first | with_reducible exact Ext.refl _ | with_reducible assumption | ((with_reducible apply Src.ext); with_reducible assumption) | with_reducible refine Ext.alloc ?_ _ | with_reducible refine Ext.drew ?_ | with_reducible refine Ext.drewN ?_ _ | ((with_reducible refine Ext.setCell' ?_ ?_ _); solve | omega | simp | (simp; omega)) | (with_reducible refine Ext.trans ?_ (by with_reducible assumption)))))) (Nat.le_trans HLE.out (Nat.le_trans hl (by decide)))).mono ?_; rintro e w' ⟨rfl, rfl⟩)
        go_wp2_with (at_builtin; refine wpList_append_sl elS len_encS one_encS rfl _ _ rfl rfl (HV.out.ext (by (repeat (first | with_reducible exact Ext.refl _ | with_reducible assumption | ((with_reducible apply Src.ext); with_reducible assumption) | with_reducible refine Ext.alloc ?_ _ | with_reducible refine Ext.drew ?_ | with_reducible refine Ext.drewN ?_ _ | ((with_reducible refine Ext.setCell' ?_ ?_ _); solve | omega | simp | (simp; omega)) | (with_reducible refine Ext.trans ?_ (by with_reducible assumption)))))) (xs := [d]) rfl (blk_s1 (by (repeat (first | with_reducible assumption | ((with_reducible apply Blk.new); solve | simp | rfl) | with_reducible apply Blk.drew | with_reducible apply Blk.drewN | ((with_reducible apply Blk.far'); solve | omega | simp | (simp; omega)) | with_reducible apply Blk.set_ | with_reducible apply Blk.alloc | ((with_reducible apply Blk.ext'); with_reducible assumption) | ((with_reducible apply Blk.but'); (with_reducible assumption); solve | omega | (simp; omega)))))) (by have := HLE.out; simp; unfold maxLen; omega) (by have := HLE.out; simp; omega) (by first | omega | (simp; omega)) ?_)
        intro v' w6 hown hgrow _
        have HV2 := Lib.hid hown
        have hsl : slLn v' = ws.length + 1 := by
          obtain ⟨A2, c2, e, _⟩ := hown.sl len_encS
          rw [e]; simp [slLn]
        have HSL := Lib.hid hsl
        clear hsl
        have hx5 : Ext w w6 := by
          refine Ext.grown ?_ hgrow (fun q hq => (HV.out.row q hq).1)
          (repeat (first | with_reducible exact Ext.refl _ | with_reducible assumption | ((with_reducible apply Src.ext); with_reducible assumption) | with_reducible refine Ext.alloc ?_ _ | with_reducible refine Ext.drew ?_ | with_reducible refine Ext.drewN ?_ _ | ((with_reducible refine Ext.setCell' ?_ ?_ _); solve | omega | simp | (simp; omega)) | (with_reducible refine Ext.trans ?_ (by with_reducible assumption))))
        clear hown hgrow
        go_wp2_with fail
        refine (HP.out _ (HS.out.ext (by (repeat (first | with_reducible exact Ext.refl _ | with_reducible assumption | ((with_reducible apply Src.ext); with_reducible assumption) | with_reducible refine Ext.alloc ?_ _ | with_reducible refine Ext.drew ?_ | with_reducible refine Ext.drewN ?_ _ | ((with_reducible refine Ext.setCell' ?_ ?_ _); solve | omega | simp | (simp; omega)) | (with_reducible refine Ext.trans ?_ (by with_reducible assumption))))))).mono ?_
        rintro e w7 ⟨rfl, hx7⟩
        go_wp2
        go_roundw
        case rel => exact ⟨ws ++ [d], parT L d y, rfl, HW2, Lib.hid (HV2.out.ext hx7), by (repeat (first | with_reducible exact Ext.refl _ | with_reducible assumption | ((with_reducible apply Src.ext); with_reducible assumption) | with_reducible refine Ext.alloc ?_ _ | with_reducible refine Ext.drew ?_ | with_reducible refine Ext.drewN ?_ _ | ((with_reducible refine Ext.setCell' ?_ ?_ _); solve | omega | simp | (simp; omega)) | (with_reducible refine Ext.trans ?_ (by with_reducible assumption))))⟩
        case measure => simp only [HSL.out]; simp only [slLn]; omega
end Go.Proofs.YtjjhhclaapifbaaGreatDoor
