/- Ended links, as both tell them. -/
import Derived.Test.YtncccigbiefnkaaGreatDoorH5
import Derived.Test.YtncccigbiefnkaaGreatDoorW2
import Derived.Deep.RegionHeld3
import Derived.Deep.DeepCutAuto
import Derived.RegionTactic
import Derived.BigRegion
import Derived.WalkLawsBesides
import Derived.WalkSpells
import Derived.Lib.MinMax
import Derived.Outline
namespace Go.Proofs.YtncccigbiefnkaaGreatDoor
open Go.RowKit
attribute [local go_sem] ExtOf.cell ExtOf.frozen

theorem cutK_yes {c : List UInt8} {z : Int} {l : Lk} (h : l.1 = c ∨ l.2.1 = c) : cutK c z l = (l.1, l.2.1, l.2.2.1, min l.2.2.2 (z - 1)) := if_pos h
theorem cutK_no {c : List UInt8} {z : Int} {l : Lk} (h : ¬ (l.1 = c ∨ l.2.1 = c)) : cutK c z l = l := if_neg h
theorem tx_eq (a b : List UInt8) : ((tx a).toList == (tx b).toList) = decide (a = b) := by
  rw [tx_toL, tx_toL]
  by_cases e : a = b
  · rw [e]; simp
  · rw [decide_eq_false e]; exact beq_eq_false_iff_ne.2 e

set_option maxRecDepth 20000 in
set_option maxHeartbeats 12800000 in
theorem i_endLinks (A : Option Addr) (n c : Nat) (L : List Lk) (x : List UInt8) (z : Int) (w : World) (h : SlAt w 4 encK A L) (hn : n = L.length) (hl : L.length ≤ 1000) (hz : -100000 ≤ z ∧ z ≤ 100000) :
    Calls Tryz.prog 76 #[.slice A n c, .string (tx x), .int .i64 z] w fun e w' => ∃ v, e = .returned v ∧ OwK w' w.heap.size v (endTo L x z n) ∧ Ext w w' := by
  have HN := Lib.hid hn
  have HS := Lib.hid h
  have hn1 : n ≤ 1000 := by omega
  have hw : IntKind.i64.wrap (z - 1) = z - 1 := IntWalk.i64_in _ (by omega)
  have HTX := Lib.hid (fun a : List UInt8 => tx_eq a x)
  clear h hn hl hz
  generalize tx x = sx at *
  go_enter Tryz.func76, Tryz.ntmps76
  go_wp2
  go_loopw [7, 12] (fun v i wr => ∃ k : Nat, k ≤ n ∧ i = .int .i64 k ∧ Hid (OwK wr w.heap.size v (endTo L x z k)) ∧ Ext w wr) (fun _ i _ => n - (intOf i).toNat)
  case atStart => exact ⟨0, by omega, rfl, Lib.hid (Own.nil _ _), by (repeat (first | with_reducible exact Ext.refl _ | with_reducible assumption | ((with_reducible apply Src.ext); with_reducible assumption) | with_reducible refine Ext.alloc ?_ _ | with_reducible refine Ext.drew ?_ | with_reducible refine Ext.drewN ?_ _ | ((with_reducible refine Ext.setCell' ?_ ?_ _); solve | omega | simp | (simp; omega)) | (with_reducible refine Ext.trans ?_ (by with_reducible assumption))))⟩
  case round =>
    obtain ⟨k, hk, rfl, HV, hxr⟩ := hrel
    obtain ⟨w5, rfl⟩ : ∃ q, q = wr := ⟨wr, rfl⟩
    by_cases hlt : k < n
    · have hkr : k < L.length := by rw [← HN.out]; exact hlt
      obtain ⟨b, off, rfl, hb, d0, d1, d2, d3⟩ := (HS.out.ext hxr).lk hkr
      have hsucc := endTo_succ (c := x) (z := z) hkr
      have HLN : Hid ((endTo L x z k).length ≤ 1000) := Lib.hid (by have := endTo_len L x z k; omega)
      have hsr := hxr.size
      generalize L.getD k lkD = l at *
      obtain ⟨l1, l2, lf, lt⟩ := l
      simp only at d0 d1 d2 d3
      have HSC := Lib.hid hsucc
      have HQ1 := Lib.hid (HTX.out l1)
      have HQ2 := Lib.hid (HTX.out l2)
      obtain ⟨sc, hsc⟩ : ∃ s, s = tx l1 := ⟨_, rfl⟩
      obtain ⟨sp, hsp⟩ : ∃ s, s = tx l2 := ⟨_, rfl⟩
      rw [← hsc] at d0 HQ1
      rw [← hsp] at d1 HQ2
      have HT1 : Hid (tx l1 = sc) := Lib.hid hsc.symm
      have HT2 : Hid (tx l2 = sp) := Lib.hid hsp.symm
      clear hsucc hkr hsc hsp
      by_cases e1 : l1 = x
      · have HCUT : Hid (cutK x z (l1, l2, lf, lt) = (l1, l2, lf, min lt (z - 1))) := Lib.hid (cutK_yes (.inl e1))
        have HBK : Hid (∀ (W : World) (g : Nat) (cs : Array Value), Blk W g 108 cs → cs = #[.string sc, .string sp, .int .i64 lf, .int .i64 (min lt (z - 1))] → SlAt W 4 encK (some ⟨g, 0, none⟩) [(l1, l2, lf, min lt (z - 1))]) := Lib.hid (fun W g cs hB e => by rw [← HT1.out, ← HT2.out] at e; exact blk_k1 hB e)
        by_cases hle : lf ≤ min lt (z - 1)
        · have q1 : (sc.toList == sx.toList) = true := by rw [HQ1.out]; exact decide_eq_true e1
          have HSU : Hid (endTo L x z (k + 1) = endTo L x z k ++ [(l1, l2, lf, min lt (z - 1))]) := Lib.hid (by rw [HSC.out, HCUT.out, if_pos (show lf ≤ min lt (z - 1) from hle)])
          have hle' : decide (lf ≤ min lt (z - 1)) = true := decide_eq_true hle
          clear HCUT HSC HQ1 HQ2 e1
          go_wp2_with (at_builtin; refine wpList_append_sl elK len_encK one_encK rfl _ _ rfl rfl (base := w.heap.size) (ys := endTo L x z k) ?_ (xs := [(l1, l2, lf, min lt (z - 1))]) rfl ?_ ?_ ?_ ?_ ?_)
          · exact HV.out.ext (by (repeat (first | with_reducible exact Ext.refl _ | with_reducible assumption | ((with_reducible apply Src.ext); with_reducible assumption) | with_reducible refine Ext.alloc ?_ _ | with_reducible refine Ext.drew ?_ | with_reducible refine Ext.drewN ?_ _ | ((with_reducible refine Ext.setCell' ?_ ?_ _); solve | omega | simp | (simp; omega)) | (with_reducible refine Ext.trans ?_ (by with_reducible assumption)))))
          · exact HBK.out _ _ _ (by (repeat (first | with_reducible assumption | ((with_reducible apply Blk.new); solve | simp | rfl) | with_reducible apply Blk.drew | with_reducible apply Blk.drewN | ((with_reducible apply Blk.far'); solve | omega | simp | (simp; omega)) | with_reducible apply Blk.set_ | with_reducible apply Blk.alloc | ((with_reducible apply Blk.ext'); with_reducible assumption) | ((with_reducible apply Blk.but'); (with_reducible assumption); solve | omega | (simp; omega))))) (by rfl)
          · have := HLN.out; simp; unfold maxLen; omega
          · have := HLN.out; simp; omega
          · first | omega | (simp; omega)
          intro v' w6 hown hgrow _
          have HV2 := Lib.hid hown
          have hx6 : Ext w w6 := by
            refine Ext.grown ?_ hgrow (fun q hq => (HV.out.row q hq).1)
            (repeat (first | with_reducible exact Ext.refl _ | with_reducible assumption | ((with_reducible apply Src.ext); with_reducible assumption) | with_reducible refine Ext.alloc ?_ _ | with_reducible refine Ext.drew ?_ | with_reducible refine Ext.drewN ?_ _ | ((with_reducible refine Ext.setCell' ?_ ?_ _); solve | omega | simp | (simp; omega)) | (with_reducible refine Ext.trans ?_ (by with_reducible assumption))))
          clear hown hgrow
          go_wp2
          go_roundw
          case rel => exact ⟨k + 1, by omega, by go_num, Lib.hid (by rw [HSU.out]; exact HV2.out), hx6⟩
          case measure => simp [intOf]; omega
        · have q1 : (sc.toList == sx.toList) = true := by rw [HQ1.out]; exact decide_eq_true e1
          have HSU : Hid (endTo L x z (k + 1) = endTo L x z k) := Lib.hid (by rw [HSC.out, HCUT.out, if_neg (show ¬ lf ≤ min lt (z - 1) from hle), List.append_nil])
          have hle' : decide (lf ≤ min lt (z - 1)) = false := decide_eq_false hle
          clear HCUT HSC HQ1 HQ2 e1
          go_wp2
          go_roundw
          case rel => exact ⟨k + 1, by omega, by go_num, Lib.hid (by rw [HSU.out]; exact HV.out.ext (by (repeat (first | with_reducible exact Ext.refl _ | with_reducible assumption | ((with_reducible apply Src.ext); with_reducible assumption) | with_reducible refine Ext.alloc ?_ _ | with_reducible refine Ext.drew ?_ | with_reducible refine Ext.drewN ?_ _ | ((with_reducible refine Ext.setCell' ?_ ?_ _); solve | omega | simp | (simp; omega)) | (with_reducible refine Ext.trans ?_ (by with_reducible assumption)))))), by (repeat (first | with_reducible exact Ext.refl _ | with_reducible assumption | ((with_reducible apply Src.ext); with_reducible assumption) | with_reducible refine Ext.alloc ?_ _ | with_reducible refine Ext.drew ?_ | with_reducible refine Ext.drewN ?_ _ | ((with_reducible refine Ext.setCell' ?_ ?_ _); solve | omega | simp | (simp; omega)) | (with_reducible refine Ext.trans ?_ (by with_reducible assumption))))⟩
          case measure => simp [intOf]; omega
      · by_cases e2 : l2 = x
        · have HCUT : Hid (cutK x z (l1, l2, lf, lt) = (l1, l2, lf, min lt (z - 1))) := Lib.hid (cutK_yes (.inr e2))
          have HBK : Hid (∀ (W : World) (g : Nat) (cs : Array Value), Blk W g 108 cs → cs = #[.string sc, .string sp, .int .i64 lf, .int .i64 (min lt (z - 1))] → SlAt W 4 encK (some ⟨g, 0, none⟩) [(l1, l2, lf, min lt (z - 1))]) := Lib.hid (fun W g cs hB e => by rw [← HT1.out, ← HT2.out] at e; exact blk_k1 hB e)
          by_cases hle : lf ≤ min lt (z - 1)
          · have q1 : (sc.toList == sx.toList) = false := by rw [HQ1.out]; exact decide_eq_false e1
            have q2 : (sp.toList == sx.toList) = true := by rw [HQ2.out]; exact decide_eq_true e2
            have HSU : Hid (endTo L x z (k + 1) = endTo L x z k ++ [(l1, l2, lf, min lt (z - 1))]) := Lib.hid (by rw [HSC.out, HCUT.out, if_pos (show lf ≤ min lt (z - 1) from hle)])
            have hle' : decide (lf ≤ min lt (z - 1)) = true := decide_eq_true hle
            clear HCUT HSC HQ1 HQ2 e1 e2
            go_wp2_with (at_builtin; refine wpList_append_sl elK len_encK one_encK rfl _ _ rfl rfl (base := w.heap.size) (ys := endTo L x z k) ?_ (xs := [(l1, l2, lf, min lt (z - 1))]) rfl ?_ ?_ ?_ ?_ ?_)
            · exact HV.out.ext (by (repeat (first | with_reducible exact Ext.refl _ | with_reducible assumption | ((with_reducible apply Src.ext); with_reducible assumption) | with_reducible refine Ext.alloc ?_ _ | with_reducible refine Ext.drew ?_ | with_reducible refine Ext.drewN ?_ _ | ((with_reducible refine Ext.setCell' ?_ ?_ _); solve | omega | simp | (simp; omega)) | (with_reducible refine Ext.trans ?_ (by with_reducible assumption)))))
            · exact HBK.out _ _ _ (by (repeat (first | with_reducible assumption | ((with_reducible apply Blk.new); solve | simp | rfl) | with_reducible apply Blk.drew | with_reducible apply Blk.drewN | ((with_reducible apply Blk.far'); solve | omega | simp | (simp; omega)) | with_reducible apply Blk.set_ | with_reducible apply Blk.alloc | ((with_reducible apply Blk.ext'); with_reducible assumption) | ((with_reducible apply Blk.but'); (with_reducible assumption); solve | omega | (simp; omega))))) (by rfl)
            · have := HLN.out; simp; unfold maxLen; omega
            · have := HLN.out; simp; omega
            · first | omega | (simp; omega)
            intro v' w6 hown hgrow _
            have HV2 := Lib.hid hown
            have hx6 : Ext w w6 := by
              refine Ext.grown ?_ hgrow (fun q hq => (HV.out.row q hq).1)
              (repeat (first | with_reducible exact Ext.refl _ | with_reducible assumption | ((with_reducible apply Src.ext); with_reducible assumption) | with_reducible refine Ext.alloc ?_ _ | with_reducible refine Ext.drew ?_ | with_reducible refine Ext.drewN ?_ _ | ((with_reducible refine Ext.setCell' ?_ ?_ _); solve | omega | simp | (simp; omega)) | (with_reducible refine Ext.trans ?_ (by with_reducible assumption))))
            clear hown hgrow
            go_wp2
            go_roundw
            case rel => exact ⟨k + 1, by omega, by go_num, Lib.hid (by rw [HSU.out]; exact HV2.out), hx6⟩
            case measure => simp [intOf]; omega
          · have q1 : (sc.toList == sx.toList) = false := by rw [HQ1.out]; exact decide_eq_false e1
            have q2 : (sp.toList == sx.toList) = true := by rw [HQ2.out]; exact decide_eq_true e2
            have HSU : Hid (endTo L x z (k + 1) = endTo L x z k) := Lib.hid (by rw [HSC.out, HCUT.out, if_neg (show ¬ lf ≤ min lt (z - 1) from hle), List.append_nil])
            have hle' : decide (lf ≤ min lt (z - 1)) = false := decide_eq_false hle
            clear HCUT HSC HQ1 HQ2 e1 e2
            go_wp2
            go_roundw
            case rel => exact ⟨k + 1, by omega, by go_num, Lib.hid (by rw [HSU.out]; exact HV.out.ext (by (repeat (first | with_reducible exact Ext.refl _ | with_reducible assumption | ((with_reducible apply Src.ext); with_reducible assumption) | with_reducible refine Ext.alloc ?_ _ | with_reducible refine Ext.drew ?_ | with_reducible refine Ext.drewN ?_ _ | ((with_reducible refine Ext.setCell' ?_ ?_ _); solve | omega | simp | (simp; omega)) | (with_reducible refine Ext.trans ?_ (by with_reducible assumption)))))), by (repeat (first | with_reducible exact Ext.refl _ | with_reducible assumption | ((with_reducible apply Src.ext); with_reducible assumption) | with_reducible refine Ext.alloc ?_ _ | with_reducible refine Ext.drew ?_ | with_reducible refine Ext.drewN ?_ _ | ((with_reducible refine Ext.setCell' ?_ ?_ _); solve | omega | simp | (simp; omega)) | (with_reducible refine Ext.trans ?_ (by with_reducible assumption))))⟩
            case measure => simp [intOf]; omega
        · have HCUT : Hid (cutK x z (l1, l2, lf, lt) = (l1, l2, lf, lt)) := Lib.hid (cutK_no (by rintro (h | h); exact e1 h; exact e2 h))
          have HBK : Hid (∀ (W : World) (g : Nat) (cs : Array Value), Blk W g 108 cs → cs = #[.string sc, .string sp, .int .i64 lf, .int .i64 (lt)] → SlAt W 4 encK (some ⟨g, 0, none⟩) [(l1, l2, lf, lt)]) := Lib.hid (fun W g cs hB e => by rw [← HT1.out, ← HT2.out] at e; exact blk_k1 hB e)
          by_cases hle : lf ≤ lt
          · have q1 : (sc.toList == sx.toList) = false := by rw [HQ1.out]; exact decide_eq_false e1
            have q2 : (sp.toList == sx.toList) = false := by rw [HQ2.out]; exact decide_eq_false e2
            have HSU : Hid (endTo L x z (k + 1) = endTo L x z k ++ [(l1, l2, lf, lt)]) := Lib.hid (by rw [HSC.out, HCUT.out, if_pos (show lf ≤ lt from hle)])
            have hle' : decide (lf ≤ lt) = true := decide_eq_true hle
            clear HCUT HSC HQ1 HQ2 e1 e2
            go_wp2_with (at_builtin; refine wpList_append_sl elK len_encK one_encK rfl _ _ rfl rfl (base := w.heap.size) (ys := endTo L x z k) ?_ (xs := [(l1, l2, lf, lt)]) rfl ?_ ?_ ?_ ?_ ?_)
            · exact HV.out.ext (by (repeat (first | with_reducible exact Ext.refl _ | with_reducible assumption | ((with_reducible apply Src.ext); with_reducible assumption) | with_reducible refine Ext.alloc ?_ _ | with_reducible refine Ext.drew ?_ | with_reducible refine Ext.drewN ?_ _ | ((with_reducible refine Ext.setCell' ?_ ?_ _); solve | omega | simp | (simp; omega)) | (with_reducible refine Ext.trans ?_ (by with_reducible assumption)))))
            · exact HBK.out _ _ _ (by (repeat (first | with_reducible assumption | ((with_reducible apply Blk.new); solve | simp | rfl) | with_reducible apply Blk.drew | with_reducible apply Blk.drewN | ((with_reducible apply Blk.far'); solve | omega | simp | (simp; omega)) | with_reducible apply Blk.set_ | with_reducible apply Blk.alloc | ((with_reducible apply Blk.ext'); with_reducible assumption) | ((with_reducible apply Blk.but'); (with_reducible assumption); solve | omega | (simp; omega))))) (by rfl)
            · have := HLN.out; simp; unfold maxLen; omega
            · have := HLN.out; simp; omega
            · first | omega | (simp; omega)
            intro v' w6 hown hgrow _
            have HV2 := Lib.hid hown
            have hx6 : Ext w w6 := by
              refine Ext.grown ?_ hgrow (fun q hq => (HV.out.row q hq).1)
              (repeat (first | with_reducible exact Ext.refl _ | with_reducible assumption | ((with_reducible apply Src.ext); with_reducible assumption) | with_reducible refine Ext.alloc ?_ _ | with_reducible refine Ext.drew ?_ | with_reducible refine Ext.drewN ?_ _ | ((with_reducible refine Ext.setCell' ?_ ?_ _); solve | omega | simp | (simp; omega)) | (with_reducible refine Ext.trans ?_ (by with_reducible assumption))))
            clear hown hgrow
            go_wp2
            go_roundw
            case rel => exact ⟨k + 1, by omega, by go_num, Lib.hid (by rw [HSU.out]; exact HV2.out), hx6⟩
            case measure => simp [intOf]; omega
          · have q1 : (sc.toList == sx.toList) = false := by rw [HQ1.out]; exact decide_eq_false e1
            have q2 : (sp.toList == sx.toList) = false := by rw [HQ2.out]; exact decide_eq_false e2
            have HSU : Hid (endTo L x z (k + 1) = endTo L x z k) := Lib.hid (by rw [HSC.out, HCUT.out, if_neg (show ¬ lf ≤ lt from hle), List.append_nil])
            have hle' : decide (lf ≤ lt) = false := decide_eq_false hle
            clear HCUT HSC HQ1 HQ2 e1 e2
            go_wp2
            go_roundw
            case rel => exact ⟨k + 1, by omega, by go_num, Lib.hid (by rw [HSU.out]; exact HV.out.ext (by (repeat (first | with_reducible exact Ext.refl _ | with_reducible assumption | ((with_reducible apply Src.ext); with_reducible assumption) | with_reducible refine Ext.alloc ?_ _ | with_reducible refine Ext.drew ?_ | with_reducible refine Ext.drewN ?_ _ | ((with_reducible refine Ext.setCell' ?_ ?_ _); solve | omega | simp | (simp; omega)) | (with_reducible refine Ext.trans ?_ (by with_reducible assumption)))))), by (repeat (first | with_reducible exact Ext.refl _ | with_reducible assumption | ((with_reducible apply Src.ext); with_reducible assumption) | with_reducible refine Ext.alloc ?_ _ | with_reducible refine Ext.drew ?_ | with_reducible refine Ext.drewN ?_ _ | ((with_reducible refine Ext.setCell' ?_ ?_ _); solve | omega | simp | (simp; omega)) | (with_reducible refine Ext.trans ?_ (by with_reducible assumption))))⟩
            case measure => simp [intOf]; omega
    · obtain rfl : k = n := by omega
      go_wp2
      go_ret
      exact ⟨_, rfl, HV.out, by (repeat (first | with_reducible exact Ext.refl _ | with_reducible assumption | ((with_reducible apply Src.ext); with_reducible assumption) | with_reducible refine Ext.alloc ?_ _ | with_reducible refine Ext.drew ?_ | with_reducible refine Ext.drewN ?_ _ | ((with_reducible refine Ext.setCell' ?_ ?_ _); solve | omega | simp | (simp; omega)) | (with_reducible refine Ext.trans ?_ (by with_reducible assumption))))⟩

set_option maxRecDepth 20000 in
set_option maxHeartbeats 12800000 in
theorem s_l12End (A : Option Addr) (n c : Nat) (L : List Lk) (x : List UInt8) (z : Int) (w : World) (h : SlAt w 4 encK A L) (hn : n = L.length) (hl : L.length ≤ 1000) (hz : -100000 ≤ z ∧ z ≤ 100000) :
    Calls Tryz.prog 77 #[.slice A n c, .string (tx x), .int .i64 z] w fun e w' => ∃ v, e = .returned v ∧ OwK w' w.heap.size v (endTo L x z n) ∧ Ext w w' := by
  have HN := Lib.hid hn
  have HS := Lib.hid h
  have hn1 : n ≤ 1000 := by omega
  have hw : IntKind.i64.wrap (z - 1) = z - 1 := IntWalk.i64_in _ (by omega)
  have HTX := Lib.hid (fun a : List UInt8 => tx_eq a x)
  clear h hn hl hz
  generalize tx x = sx at *
  go_enter Tryz.func77, Tryz.ntmps77
  go_wp2
  go_loopw [7, 8] (fun v i wr => ∃ k : Nat, k ≤ n ∧ i = .int .i64 k ∧ Hid (OwK wr w.heap.size v (endTo L x z k)) ∧ Ext w wr) (fun _ i _ => n - (intOf i).toNat)
  case atStart => exact ⟨0, by omega, rfl, Lib.hid (Own.of_blk (xs := []) (by (repeat (first | with_reducible assumption | ((with_reducible apply Blk.new); solve | simp | rfl) | with_reducible apply Blk.drew | with_reducible apply Blk.drewN | ((with_reducible apply Blk.far'); solve | omega | simp | (simp; omega)) | with_reducible apply Blk.set_ | with_reducible apply Blk.alloc | ((with_reducible apply Blk.ext'); with_reducible assumption) | ((with_reducible apply Blk.but'); (with_reducible assumption); solve | omega | (simp; omega))))) len_encK rfl (by first | exact Nat.le_refl _ | (simp; done) | (simp; omega)) (Nat.zero_le _)), by (repeat (first | with_reducible exact Ext.refl _ | with_reducible assumption | ((with_reducible apply Src.ext); with_reducible assumption) | with_reducible refine Ext.alloc ?_ _ | with_reducible refine Ext.drew ?_ | with_reducible refine Ext.drewN ?_ _ | ((with_reducible refine Ext.setCell' ?_ ?_ _); solve | omega | simp | (simp; omega)) | (with_reducible refine Ext.trans ?_ (by with_reducible assumption))))⟩
  case round =>
    obtain ⟨k, hk, rfl, HV, hxr⟩ := hrel
    obtain ⟨w5, rfl⟩ : ∃ q, q = wr := ⟨wr, rfl⟩
    by_cases hlt : k < n
    · have hkr : k < L.length := by rw [← HN.out]; exact hlt
      obtain ⟨b, off, rfl, hb, d0, d1, d2, d3⟩ := (HS.out.ext hxr).lk hkr
      have hsucc := endTo_succ (c := x) (z := z) hkr
      have HLN : Hid ((endTo L x z k).length ≤ 1000) := Lib.hid (by have := endTo_len L x z k; omega)
      have hsr := hxr.size
      generalize L.getD k lkD = l at *
      obtain ⟨l1, l2, lf, lt⟩ := l
      simp only at d0 d1 d2 d3
      have HSC := Lib.hid hsucc
      have HQ1 := Lib.hid (HTX.out l1)
      have HQ2 := Lib.hid (HTX.out l2)
      obtain ⟨sc, hsc⟩ : ∃ s, s = tx l1 := ⟨_, rfl⟩
      obtain ⟨sp, hsp⟩ : ∃ s, s = tx l2 := ⟨_, rfl⟩
      rw [← hsc] at d0 HQ1
      rw [← hsp] at d1 HQ2
      have HT1 : Hid (tx l1 = sc) := Lib.hid hsc.symm
      have HT2 : Hid (tx l2 = sp) := Lib.hid hsp.symm
      clear hsucc hkr hsc hsp
      by_cases e1 : l1 = x
      · have HCUT : Hid (cutK x z (l1, l2, lf, lt) = (l1, l2, lf, min lt (z - 1))) := Lib.hid (cutK_yes (.inl e1))
        have HBK : Hid (∀ (W : World) (g : Nat) (cs : Array Value), Blk W g 108 cs → cs = #[.string sc, .string sp, .int .i64 lf, .int .i64 (min lt (z - 1))] → SlAt W 4 encK (some ⟨g, 0, none⟩) [(l1, l2, lf, min lt (z - 1))]) := Lib.hid (fun W g cs hB e => by rw [← HT1.out, ← HT2.out] at e; exact blk_k1 hB e)
        by_cases hle : lf ≤ min lt (z - 1)
        · have q1 : (sc.toList == sx.toList) = true := by rw [HQ1.out]; exact decide_eq_true e1
          have HSU : Hid (endTo L x z (k + 1) = endTo L x z k ++ [(l1, l2, lf, min lt (z - 1))]) := Lib.hid (by rw [HSC.out, HCUT.out, if_pos (show lf ≤ min lt (z - 1) from hle)])
          have hle' : decide (lf ≤ min lt (z - 1)) = true := decide_eq_true hle
          clear HCUT HSC HQ1 HQ2 e1
          go_wp2_with (at_builtin; refine wpList_append_sl elK len_encK one_encK rfl _ _ rfl rfl (base := w.heap.size) (ys := endTo L x z k) ?_ (xs := [(l1, l2, lf, min lt (z - 1))]) rfl ?_ ?_ ?_ ?_ ?_)
          · exact HV.out.ext (by (repeat (first | with_reducible exact Ext.refl _ | with_reducible assumption | ((with_reducible apply Src.ext); with_reducible assumption) | with_reducible refine Ext.alloc ?_ _ | with_reducible refine Ext.drew ?_ | with_reducible refine Ext.drewN ?_ _ | ((with_reducible refine Ext.setCell' ?_ ?_ _); solve | omega | simp | (simp; omega)) | (with_reducible refine Ext.trans ?_ (by with_reducible assumption)))))
          · exact HBK.out _ _ _ (by (repeat (first | with_reducible assumption | ((with_reducible apply Blk.new); solve | simp | rfl) | with_reducible apply Blk.drew | with_reducible apply Blk.drewN | ((with_reducible apply Blk.far'); solve | omega | simp | (simp; omega)) | with_reducible apply Blk.set_ | with_reducible apply Blk.alloc | ((with_reducible apply Blk.ext'); with_reducible assumption) | ((with_reducible apply Blk.but'); (with_reducible assumption); solve | omega | (simp; omega))))) (by rfl)
          · have := HLN.out; simp; unfold maxLen; omega
          · have := HLN.out; simp; omega
          · first | omega | (simp; omega)
          intro v' w6 hown hgrow _
          have HV2 := Lib.hid hown
          have hx6 : Ext w w6 := by
            refine Ext.grown ?_ hgrow (fun q hq => (HV.out.row q hq).1)
            (repeat (first | with_reducible exact Ext.refl _ | with_reducible assumption | ((with_reducible apply Src.ext); with_reducible assumption) | with_reducible refine Ext.alloc ?_ _ | with_reducible refine Ext.drew ?_ | with_reducible refine Ext.drewN ?_ _ | ((with_reducible refine Ext.setCell' ?_ ?_ _); solve | omega | simp | (simp; omega)) | (with_reducible refine Ext.trans ?_ (by with_reducible assumption))))
          clear hown hgrow
          go_wp2
          go_roundw
          case rel => exact ⟨k + 1, by omega, by go_num, Lib.hid (by rw [HSU.out]; exact HV2.out), hx6⟩
          case measure => simp [intOf]; omega
        · have q1 : (sc.toList == sx.toList) = true := by rw [HQ1.out]; exact decide_eq_true e1
          have HSU : Hid (endTo L x z (k + 1) = endTo L x z k) := Lib.hid (by rw [HSC.out, HCUT.out, if_neg (show ¬ lf ≤ min lt (z - 1) from hle), List.append_nil])
          have hle' : decide (lf ≤ min lt (z - 1)) = false := decide_eq_false hle
          clear HCUT HSC HQ1 HQ2 e1
          go_wp2
          go_roundw
          case rel => exact ⟨k + 1, by omega, by go_num, Lib.hid (by rw [HSU.out]; exact HV.out.ext (by (repeat (first | with_reducible exact Ext.refl _ | with_reducible assumption | ((with_reducible apply Src.ext); with_reducible assumption) | with_reducible refine Ext.alloc ?_ _ | with_reducible refine Ext.drew ?_ | with_reducible refine Ext.drewN ?_ _ | ((with_reducible refine Ext.setCell' ?_ ?_ _); solve | omega | simp | (simp; omega)) | (with_reducible refine Ext.trans ?_ (by with_reducible assumption)))))), by (repeat (first | with_reducible exact Ext.refl _ | with_reducible assumption | ((with_reducible apply Src.ext); with_reducible assumption) | with_reducible refine Ext.alloc ?_ _ | with_reducible refine Ext.drew ?_ | with_reducible refine Ext.drewN ?_ _ | ((with_reducible refine Ext.setCell' ?_ ?_ _); solve | omega | simp | (simp; omega)) | (with_reducible refine Ext.trans ?_ (by with_reducible assumption))))⟩
          case measure => simp [intOf]; omega
      · by_cases e2 : l2 = x
        · have HCUT : Hid (cutK x z (l1, l2, lf, lt) = (l1, l2, lf, min lt (z - 1))) := Lib.hid (cutK_yes (.inr e2))
          have HBK : Hid (∀ (W : World) (g : Nat) (cs : Array Value), Blk W g 108 cs → cs = #[.string sc, .string sp, .int .i64 lf, .int .i64 (min lt (z - 1))] → SlAt W 4 encK (some ⟨g, 0, none⟩) [(l1, l2, lf, min lt (z - 1))]) := Lib.hid (fun W g cs hB e => by rw [← HT1.out, ← HT2.out] at e; exact blk_k1 hB e)
          by_cases hle : lf ≤ min lt (z - 1)
          · have q1 : (sc.toList == sx.toList) = false := by rw [HQ1.out]; exact decide_eq_false e1
            have q2 : (sp.toList == sx.toList) = true := by rw [HQ2.out]; exact decide_eq_true e2
            have HSU : Hid (endTo L x z (k + 1) = endTo L x z k ++ [(l1, l2, lf, min lt (z - 1))]) := Lib.hid (by rw [HSC.out, HCUT.out, if_pos (show lf ≤ min lt (z - 1) from hle)])
            have hle' : decide (lf ≤ min lt (z - 1)) = true := decide_eq_true hle
            clear HCUT HSC HQ1 HQ2 e1 e2
            go_wp2_with (at_builtin; refine wpList_append_sl elK len_encK one_encK rfl _ _ rfl rfl (base := w.heap.size) (ys := endTo L x z k) ?_ (xs := [(l1, l2, lf, min lt (z - 1))]) rfl ?_ ?_ ?_ ?_ ?_)
            · exact HV.out.ext (by (repeat (first | with_reducible exact Ext.refl _ | with_reducible assumption | ((with_reducible apply Src.ext); with_reducible assumption) | with_reducible refine Ext.alloc ?_ _ | with_reducible refine Ext.drew ?_ | with_reducible refine Ext.drewN ?_ _ | ((with_reducible refine Ext.setCell' ?_ ?_ _); solve | omega | simp | (simp; omega)) | (with_reducible refine Ext.trans ?_ (by with_reducible assumption)))))
            · exact HBK.out _ _ _ (by (repeat (first | with_reducible assumption | ((with_reducible apply Blk.new); solve | simp | rfl) | with_reducible apply Blk.drew | with_reducible apply Blk.drewN | ((with_reducible apply Blk.far'); solve | omega | simp | (simp; omega)) | with_reducible apply Blk.set_ | with_reducible apply Blk.alloc | ((with_reducible apply Blk.ext'); with_reducible assumption) | ((with_reducible apply Blk.but'); (with_reducible assumption); solve | omega | (simp; omega))))) (by rfl)
            · have := HLN.out; simp; unfold maxLen; omega
            · have := HLN.out; simp; omega
            · first | omega | (simp; omega)
            intro v' w6 hown hgrow _
            have HV2 := Lib.hid hown
            have hx6 : Ext w w6 := by
              refine Ext.grown ?_ hgrow (fun q hq => (HV.out.row q hq).1)
              (repeat (first | with_reducible exact Ext.refl _ | with_reducible assumption | ((with_reducible apply Src.ext); with_reducible assumption) | with_reducible refine Ext.alloc ?_ _ | with_reducible refine Ext.drew ?_ | with_reducible refine Ext.drewN ?_ _ | ((with_reducible refine Ext.setCell' ?_ ?_ _); solve | omega | simp | (simp; omega)) | (with_reducible refine Ext.trans ?_ (by with_reducible assumption))))
            clear hown hgrow
            go_wp2
            go_roundw
            case rel => exact ⟨k + 1, by omega, by go_num, Lib.hid (by rw [HSU.out]; exact HV2.out), hx6⟩
            case measure => simp [intOf]; omega
          · have q1 : (sc.toList == sx.toList) = false := by rw [HQ1.out]; exact decide_eq_false e1
            have q2 : (sp.toList == sx.toList) = true := by rw [HQ2.out]; exact decide_eq_true e2
            have HSU : Hid (endTo L x z (k + 1) = endTo L x z k) := Lib.hid (by rw [HSC.out, HCUT.out, if_neg (show ¬ lf ≤ min lt (z - 1) from hle), List.append_nil])
            have hle' : decide (lf ≤ min lt (z - 1)) = false := decide_eq_false hle
            clear HCUT HSC HQ1 HQ2 e1 e2
            go_wp2
            go_roundw
            case rel => exact ⟨k + 1, by omega, by go_num, Lib.hid (by rw [HSU.out]; exact HV.out.ext (by (repeat (first | with_reducible exact Ext.refl _ | with_reducible assumption | ((with_reducible apply Src.ext); with_reducible assumption) | with_reducible refine Ext.alloc ?_ _ | with_reducible refine Ext.drew ?_ | with_reducible refine Ext.drewN ?_ _ | ((with_reducible refine Ext.setCell' ?_ ?_ _); solve | omega | simp | (simp; omega)) | (with_reducible refine Ext.trans ?_ (by with_reducible assumption)))))), by (repeat (first | with_reducible exact Ext.refl _ | with_reducible assumption | ((with_reducible apply Src.ext); with_reducible assumption) | with_reducible refine Ext.alloc ?_ _ | with_reducible refine Ext.drew ?_ | with_reducible refine Ext.drewN ?_ _ | ((with_reducible refine Ext.setCell' ?_ ?_ _); solve | omega | simp | (simp; omega)) | (with_reducible refine Ext.trans ?_ (by with_reducible assumption))))⟩
            case measure => simp [intOf]; omega
        · have HCUT : Hid (cutK x z (l1, l2, lf, lt) = (l1, l2, lf, lt)) := Lib.hid (cutK_no (by rintro (h | h); exact e1 h; exact e2 h))
          have HBK : Hid (∀ (W : World) (g : Nat) (cs : Array Value), Blk W g 108 cs → cs = #[.string sc, .string sp, .int .i64 lf, .int .i64 (lt)] → SlAt W 4 encK (some ⟨g, 0, none⟩) [(l1, l2, lf, lt)]) := Lib.hid (fun W g cs hB e => by rw [← HT1.out, ← HT2.out] at e; exact blk_k1 hB e)
          by_cases hle : lf ≤ lt
          · have q1 : (sc.toList == sx.toList) = false := by rw [HQ1.out]; exact decide_eq_false e1
            have q2 : (sp.toList == sx.toList) = false := by rw [HQ2.out]; exact decide_eq_false e2
            have HSU : Hid (endTo L x z (k + 1) = endTo L x z k ++ [(l1, l2, lf, lt)]) := Lib.hid (by rw [HSC.out, HCUT.out, if_pos (show lf ≤ lt from hle)])
            have hle' : decide (lf ≤ lt) = true := decide_eq_true hle
            clear HCUT HSC HQ1 HQ2 e1 e2
            go_wp2_with (at_builtin; refine wpList_append_sl elK len_encK one_encK rfl _ _ rfl rfl (base := w.heap.size) (ys := endTo L x z k) ?_ (xs := [(l1, l2, lf, lt)]) rfl ?_ ?_ ?_ ?_ ?_)
            · exact HV.out.ext (by (repeat (first | with_reducible exact Ext.refl _ | with_reducible assumption | ((with_reducible apply Src.ext); with_reducible assumption) | with_reducible refine Ext.alloc ?_ _ | with_reducible refine Ext.drew ?_ | with_reducible refine Ext.drewN ?_ _ | ((with_reducible refine Ext.setCell' ?_ ?_ _); solve | omega | simp | (simp; omega)) | (with_reducible refine Ext.trans ?_ (by with_reducible assumption)))))
            · exact HBK.out _ _ _ (by (repeat (first | with_reducible assumption | ((with_reducible apply Blk.new); solve | simp | rfl) | with_reducible apply Blk.drew | with_reducible apply Blk.drewN | ((with_reducible apply Blk.far'); solve | omega | simp | (simp; omega)) | with_reducible apply Blk.set_ | with_reducible apply Blk.alloc | ((with_reducible apply Blk.ext'); with_reducible assumption) | ((with_reducible apply Blk.but'); (with_reducible assumption); solve | omega | (simp; omega))))) (by rfl)
            · have := HLN.out; simp; unfold maxLen; omega
            · have := HLN.out; simp; omega
            · first | omega | (simp; omega)
            intro v' w6 hown hgrow _
            have HV2 := Lib.hid hown
            have hx6 : Ext w w6 := by
              refine Ext.grown ?_ hgrow (fun q hq => (HV.out.row q hq).1)
              (repeat (first | with_reducible exact Ext.refl _ | with_reducible assumption | ((with_reducible apply Src.ext); with_reducible assumption) | with_reducible refine Ext.alloc ?_ _ | with_reducible refine Ext.drew ?_ | with_reducible refine Ext.drewN ?_ _ | ((with_reducible refine Ext.setCell' ?_ ?_ _); solve | omega | simp | (simp; omega)) | (with_reducible refine Ext.trans ?_ (by with_reducible assumption))))
            clear hown hgrow
            go_wp2
            go_roundw
            case rel => exact ⟨k + 1, by omega, by go_num, Lib.hid (by rw [HSU.out]; exact HV2.out), hx6⟩
            case measure => simp [intOf]; omega
          · have q1 : (sc.toList == sx.toList) = false := by rw [HQ1.out]; exact decide_eq_false e1
            have q2 : (sp.toList == sx.toList) = false := by rw [HQ2.out]; exact decide_eq_false e2
            have HSU : Hid (endTo L x z (k + 1) = endTo L x z k) := Lib.hid (by rw [HSC.out, HCUT.out, if_neg (show ¬ lf ≤ lt from hle), List.append_nil])
            have hle' : decide (lf ≤ lt) = false := decide_eq_false hle
            clear HCUT HSC HQ1 HQ2 e1 e2
            go_wp2
            go_roundw
            case rel => exact ⟨k + 1, by omega, by go_num, Lib.hid (by rw [HSU.out]; exact HV.out.ext (by (repeat (first | with_reducible exact Ext.refl _ | with_reducible assumption | ((with_reducible apply Src.ext); with_reducible assumption) | with_reducible refine Ext.alloc ?_ _ | with_reducible refine Ext.drew ?_ | with_reducible refine Ext.drewN ?_ _ | ((with_reducible refine Ext.setCell' ?_ ?_ _); solve | omega | simp | (simp; omega)) | (with_reducible refine Ext.trans ?_ (by with_reducible assumption)))))), by (repeat (first | with_reducible exact Ext.refl _ | with_reducible assumption | ((with_reducible apply Src.ext); with_reducible assumption) | with_reducible refine Ext.alloc ?_ _ | with_reducible refine Ext.drew ?_ | with_reducible refine Ext.drewN ?_ _ | ((with_reducible refine Ext.setCell' ?_ ?_ _); solve | omega | simp | (simp; omega)) | (with_reducible refine Ext.trans ?_ (by with_reducible assumption))))⟩
            case measure => simp [intOf]; omega
    · obtain rfl : k = n := by omega
      go_wp2
      go_ret
      exact ⟨_, rfl, HV.out, by (repeat (first | with_reducible exact Ext.refl _ | with_reducible assumption | ((with_reducible apply Src.ext); with_reducible assumption) | with_reducible refine Ext.alloc ?_ _ | with_reducible refine Ext.drew ?_ | with_reducible refine Ext.drewN ?_ _ | ((with_reducible refine Ext.setCell' ?_ ?_ _); solve | omega | simp | (simp; omega)) | (with_reducible refine Ext.trans ?_ (by with_reducible assumption))))⟩

theorem endR_len (L : List Lk) (x : List UInt8) (z : Int) (hl : L.length ≤ 21) : (endR L x z).length ≤ 1000 := by
  unfold endR
  split
  · have := endTo_len L x z L.length
    omega
  · simp

set_option maxHeartbeats 3200000 in
theorem i_EndLinks (A : Option Addr) (n c : Nat) (L : List Lk) (x : List UInt8) (z : Int) (w : World) (h : SlAt w 4 encK A L) (hn : n = L.length) (hl : L.length ≤ 1048576) (hcap : n ≤ c) (hg : Links L) (hx : x.length ≤ 1048576) :
    Calls Tryz.prog 15 #[.slice A n c, .string (tx x), .int .i64 z] w fun e w' => ∃ v, e = .returned (.tuple #[v, .int .i64 (lkC L [x] z)]) ∧ OwK w' w.heap.size v (endR L x z) ∧ Ext w w' := by
  have HC : Hid (∀ W g, Ext w W → Blk W g 9 #[.string (tx x)] → Calls Tryz.prog 65 #[.slice A n c, .int .i64 z, .slice (some ⟨g, 0, none⟩) 1 1] W fun e w' => e = .returned (.int .i64 (lkC L [x] z)) ∧ Ext W w') := Lib.hid (fun W g hW hB => i_linkCode A _ n c 1 1 L [x] z W (h.ext hW) hn hl hcap hg (blk_s1 hB) rfl (by omega) (fun k => by
    rcases k with _ | k
    · exact hx
    · simp [List.getD]))
  by_cases hz : lkC L [x] z = 0
  · obtain ⟨z1, _, z3⟩ := lkC_zero hz
    have h20 : L.length ≤ 20 := (lksB_iff.1 z1).1.2
    have hzb : -100000 ≤ z ∧ z ≤ 100000 := by simp [inB] at z3; omega
    have hR : endR L x z = endTo L x z n := by unfold endR; rw [if_pos hz, hn]
    have HE := Lib.hid (fun W (hW : Ext w W) => i_endLinks A n c L x z W (h.ext hW) hn (by omega) hzb)
    rw [hR, hz]
    rw [hz] at HC
    clear h hn hl hg hx hz z1 z3 h20 hzb hR hcap
    generalize tx x = sx at *
    go_enter Tryz.func15, Tryz.ntmps15
    (go_wp2_with fail; refine (HC.out _ _ (by (repeat (first | with_reducible exact Ext.refl _ | with_reducible assumption | ((with_reducible apply Src.ext); with_reducible assumption) | with_reducible refine Ext.alloc ?_ _ | with_reducible refine Ext.drew ?_ | with_reducible refine Ext.drewN ?_ _ | ((with_reducible refine Ext.setCell' ?_ ?_ _); solve | omega | simp | (simp; omega)) | (with_reducible refine Ext.trans ?_ (by with_reducible assumption))))) (by (repeat (first | with_reducible assumption | ((with_reducible apply Blk.new); solve | simp | rfl) | with_reducible apply Blk.drew | with_reducible apply Blk.drewN | ((with_reducible apply Blk.far'); solve | omega | simp | (simp; omega)) | with_reducible apply Blk.set_ | with_reducible apply Blk.alloc | ((with_reducible apply Blk.ext'); with_reducible assumption) | ((with_reducible apply Blk.but'); (with_reducible assumption); solve | omega | (simp; omega)))))).mono ?_; rintro e w1 ⟨rfl, hx1⟩; obtain ⟨hc1, hf1⟩ := hx1.rules; have hs1 := hx1.size; (try simp at hs1))
    go_wp2_with fail
    refine (HE.out _ (by (repeat (first | with_reducible exact Ext.refl _ | with_reducible assumption | ((with_reducible apply Src.ext); with_reducible assumption) | with_reducible refine Ext.alloc ?_ _ | with_reducible refine Ext.drew ?_ | with_reducible refine Ext.drewN ?_ _ | ((with_reducible refine Ext.setCell' ?_ ?_ _); solve | omega | simp | (simp; omega)) | (with_reducible refine Ext.trans ?_ (by with_reducible assumption)))))).mono ?_
    rintro e w2 ⟨v, rfl, hO, hx2⟩
    have HO := Lib.hid hO
    clear hO
    go_wp2
    go_ret2
    exact ⟨_, rfl, HO.out.less (by have := hx1.size; omega), by (repeat (first | with_reducible exact Ext.refl _ | with_reducible assumption | ((with_reducible apply Src.ext); with_reducible assumption) | with_reducible refine Ext.alloc ?_ _ | with_reducible refine Ext.drew ?_ | with_reducible refine Ext.drewN ?_ _ | ((with_reducible refine Ext.setCell' ?_ ?_ _); solve | omega | simp | (simp; omega)) | (with_reducible refine Ext.trans ?_ (by with_reducible assumption))))⟩
  · have hR : endR L x z = [] := by unfold endR; rw [if_neg hz]
    rw [hR]
    generalize lkC L [x] z = cd at *
    have hcd : (cd != 0) = true := by simpa using hz
    clear h hn hl hg hx hR hcap
    generalize tx x = sx at *
    go_enter Tryz.func15, Tryz.ntmps15
    (go_wp2_with fail; refine (HC.out _ _ (by (repeat (first | with_reducible exact Ext.refl _ | with_reducible assumption | ((with_reducible apply Src.ext); with_reducible assumption) | with_reducible refine Ext.alloc ?_ _ | with_reducible refine Ext.drew ?_ | with_reducible refine Ext.drewN ?_ _ | ((with_reducible refine Ext.setCell' ?_ ?_ _); solve | omega | simp | (simp; omega)) | (with_reducible refine Ext.trans ?_ (by with_reducible assumption))))) (by (repeat (first | with_reducible assumption | ((with_reducible apply Blk.new); solve | simp | rfl) | with_reducible apply Blk.drew | with_reducible apply Blk.drewN | ((with_reducible apply Blk.far'); solve | omega | simp | (simp; omega)) | with_reducible apply Blk.set_ | with_reducible apply Blk.alloc | ((with_reducible apply Blk.ext'); with_reducible assumption) | ((with_reducible apply Blk.but'); (with_reducible assumption); solve | omega | (simp; omega)))))).mono ?_; rintro e w1 ⟨rfl, hx1⟩; obtain ⟨hc1, hf1⟩ := hx1.rules; have hs1 := hx1.size; (try simp at hs1))
    go_wp2
    go_ret2
    exact ⟨_, rfl, Own.nil _ _, by (repeat (first | with_reducible exact Ext.refl _ | with_reducible assumption | ((with_reducible apply Src.ext); with_reducible assumption) | with_reducible refine Ext.alloc ?_ _ | with_reducible refine Ext.drew ?_ | with_reducible refine Ext.drewN ?_ _ | ((with_reducible refine Ext.setCell' ?_ ?_ _); solve | omega | simp | (simp; omega)) | (with_reducible refine Ext.trans ?_ (by with_reducible assumption))))⟩

set_option maxHeartbeats 3200000 in
theorem s_EndLinks (A : Option Addr) (n c : Nat) (L : List Lk) (x : List UInt8) (z : Int) (w : World) (h : SlAt w 4 encK A L) (hn : n = L.length) (hl : L.length ≤ 1048576) (hg : Links L) (hx : x.length ≤ 1048576) :
    Calls Tryz.prog 16 #[.slice A n c, .string (tx x), .int .i64 z] w fun e w' => ∃ v, e = .returned (.tuple #[v, .int .i64 (lkC L [x] z)]) ∧ OwK w' w.heap.size v (endR L x z) ∧ Ext w w' := by
  have HC := Lib.hid (fun W (hW : Ext w W) => s_l12Code A n c L x z W (h.ext hW) hn hl hg hx)
  by_cases hz : lkC L [x] z = 0
  · obtain ⟨z1, _, z3⟩ := lkC_zero hz
    have h20 : L.length ≤ 20 := (lksB_iff.1 z1).1.2
    have hzb : -100000 ≤ z ∧ z ≤ 100000 := by simp [inB] at z3; omega
    have hR : endR L x z = endTo L x z n := by unfold endR; rw [if_pos hz, hn]
    have HE := Lib.hid (fun W (hW : Ext w W) => s_l12End A n c L x z W (h.ext hW) hn (by omega) hzb)
    rw [hR, hz]
    rw [hz] at HC
    clear h hn hl hg hx hz z1 z3 h20 hzb hR
    generalize tx x = sx at *
    go_enter Tryz.func16, Tryz.ntmps16
    (go_wp2_with fail; refine (HC.out _ (by (repeat (first | with_reducible exact Ext.refl _ | with_reducible assumption | ((with_reducible apply Src.ext); with_reducible assumption) | with_reducible refine Ext.alloc ?_ _ | with_reducible refine Ext.drew ?_ | with_reducible refine Ext.drewN ?_ _ | ((with_reducible refine Ext.setCell' ?_ ?_ _); solve | omega | simp | (simp; omega)) | (with_reducible refine Ext.trans ?_ (by with_reducible assumption)))))).mono ?_; rintro e w1 ⟨rfl, hx1⟩; obtain ⟨hc1, hf1⟩ := hx1.rules; have hs1 := hx1.size; (try simp at hs1))
    go_wp2_with fail
    refine (HE.out _ (by (repeat (first | with_reducible exact Ext.refl _ | with_reducible assumption | ((with_reducible apply Src.ext); with_reducible assumption) | with_reducible refine Ext.alloc ?_ _ | with_reducible refine Ext.drew ?_ | with_reducible refine Ext.drewN ?_ _ | ((with_reducible refine Ext.setCell' ?_ ?_ _); solve | omega | simp | (simp; omega)) | (with_reducible refine Ext.trans ?_ (by with_reducible assumption)))))).mono ?_
    rintro e w2 ⟨v, rfl, hO, hx2⟩
    have HO := Lib.hid hO
    clear hO
    go_wp2
    go_ret2
    exact ⟨_, rfl, HO.out.less (by have := hx1.size; omega), by (repeat (first | with_reducible exact Ext.refl _ | with_reducible assumption | ((with_reducible apply Src.ext); with_reducible assumption) | with_reducible refine Ext.alloc ?_ _ | with_reducible refine Ext.drew ?_ | with_reducible refine Ext.drewN ?_ _ | ((with_reducible refine Ext.setCell' ?_ ?_ _); solve | omega | simp | (simp; omega)) | (with_reducible refine Ext.trans ?_ (by with_reducible assumption))))⟩
  · have hR : endR L x z = [] := by unfold endR; rw [if_neg hz]
    rw [hR]
    generalize lkC L [x] z = cd at *
    have hcd : (cd != 0) = true := by simpa using hz
    clear h hn hl hg hx hR
    generalize tx x = sx at *
    go_enter Tryz.func16, Tryz.ntmps16
    (go_wp2_with fail; refine (HC.out _ (by (repeat (first | with_reducible exact Ext.refl _ | with_reducible assumption | ((with_reducible apply Src.ext); with_reducible assumption) | with_reducible refine Ext.alloc ?_ _ | with_reducible refine Ext.drew ?_ | with_reducible refine Ext.drewN ?_ _ | ((with_reducible refine Ext.setCell' ?_ ?_ _); solve | omega | simp | (simp; omega)) | (with_reducible refine Ext.trans ?_ (by with_reducible assumption)))))).mono ?_; rintro e w1 ⟨rfl, hx1⟩; obtain ⟨hc1, hf1⟩ := hx1.rules; have hs1 := hx1.size; (try simp at hs1))
    go_wp2
    go_ret2
    exact ⟨_, rfl, Own.nil _ _, by (repeat (first | with_reducible exact Ext.refl _ | with_reducible assumption | ((with_reducible apply Src.ext); with_reducible assumption) | with_reducible refine Ext.alloc ?_ _ | with_reducible refine Ext.drew ?_ | with_reducible refine Ext.drewN ?_ _ | ((with_reducible refine Ext.setCell' ?_ ?_ _); solve | omega | simp | (simp; omega)) | (with_reducible refine Ext.trans ?_ (by with_reducible assumption))))⟩
end Go.Proofs.YtncccigbiefnkaaGreatDoor
