/- The roots of links in a year, as both tell them. -/
import Derived.Test.YtmpgjajkaehdiaaGreatDoorWM
namespace Go.Proofs.YtmpgjajkaehdiaaGreatDoor
open Go.RowKit
attribute [local go_sem] ExtOf.cell ExtOf.frozen

def rtB (L : List Lk) (y : Int) (l : Lk) : Bool := lkHas l y && !(par L l.2.1 y).isSome
def rtTo (L : List Lk) (y : Int) (k : Nat) : List (List UInt8) := ((L.take k).filter (rtB L y)).map fun l => l.2.1
theorem rtTo_succ {L : List Lk} {y : Int} {k : Nat} (hk : k < L.length) : rtTo L y (k + 1) = if rtB L y (L.getD k lkD) = true then rtTo L y k ++ [(L.getD k lkD).2.1] else rtTo L y k := by
  unfold rtTo
  rw [List.take_succ_eq_append_getElem hk, List.filter_append, List.map_append, show L.getD k lkD = L[k] by simp [List.getD, hk]]
  by_cases h : rtB L y L[k] = true
  · rw [if_pos h]; simp [h]
  · rw [if_neg h]; simp [h]
theorem rtTo_len (L : List Lk) (y : Int) (k : Nat) : (rtTo L y k).length ≤ k := by
  unfold rtTo
  rw [List.length_map]
  have := List.length_filter_le (rtB L y) (L.take k)
  rw [List.length_take] at this
  omega
noncomputable def rootR (L : List Lk) (y : Int) : List (List UInt8) := if lkC L [] y = 0 then sortA ((L.filter (rtB L y)).map fun l => l.2.1) else []
theorem lkC_a (L : List Lk) (y : Int) : lkC L [[97]] y = lkC L [] y := by
  have h1 : (([[97]] : List (List UInt8)).all fun x => smL x 1 16) = true := by decide
  have h2 : (([] : List (List UInt8)).all fun x => smL x 1 16) = true := rfl
  simp only [lkC, h1, h2]
theorem insL_succ (xs : List (List UInt8)) (x : List UInt8) : insL (xs ++ [x]) = insA (insL xs) x := by simp [insL, List.foldl_append]
theorem rtB_ifs {L : List Lk} {y : Int} {l : Lk} {q2 : Bool} (h : (par L l.2.1 y).isSome = q2) : rtB L y l = (lkHas l y && !q2) := by unfold rtB; rw [h]

set_option maxRecDepth 20000 in
set_option maxHeartbeats 12800000 in
theorem i_RootsIn (A : Option Addr) (n c : Nat) (L : List Lk) (y : Int) (w : World) (h : SlAt w 4 encK A L) (hn : n = L.length) (hl : L.length ≤ 1048576) (hcap : n ≤ c) (hg : Links L) :
    Calls Tryz.prog 34 #[.slice A n c, .int .i64 y] w fun e w' => ∃ v, e = .returned (.tuple #[v, .int .i64 (lkC L [] y)]) ∧ OwS w' w.heap.size v (rootR L y) ∧ Ext w w' := by
  have HC := Lib.hid (fun W (hW : Ext w W) => i_linkCode A none n c 0 0 L [] y W (h.ext hW) hn hl hcap hg SlAt.nil rfl (by omega) (fun k => by simp [List.getD]))
  by_cases hz : lkC L [] y = 0
  · have h20 : L.length ≤ 20 := (lksB_iff.1 (lkC_zero hz).1).1.2
    have hR : rootR L y = sortA (rtTo L y n) := by unfold rootR rtTo; rw [if_pos hz, hn, List.take_length]
    have hn20 : n ≤ 20 := by omega
    rw [hR, hz]
    rw [hz] at HC
    have HN := Lib.hid hn
    have HS := Lib.hid h
    have HPI := Lib.hid (fun x W hW => i_parentIn A n c L x y W hW hn (by omega))
    clear hz h20 hR hn h hl hcap hg
    go_enter Tryz.func34, Tryz.ntmps34
    (go_wp2_with fail; refine (HC.out _ (by (repeat (first | with_reducible exact Ext.refl _ | with_reducible assumption | ((with_reducible apply Src.ext); with_reducible assumption) | with_reducible refine Ext.alloc ?_ _ | with_reducible refine Ext.drew ?_ | with_reducible refine Ext.drewN ?_ _ | ((with_reducible refine Ext.setCell' ?_ ?_ _); solve | omega | simp | (simp; omega)) | (with_reducible refine Ext.trans ?_ (by with_reducible assumption)))))).mono ?_; rintro e w8 ⟨rfl, hx8⟩; obtain ⟨hc8, hf8⟩ := hx8.rules; have hs8 := hx8.size; (try simp at hs8))
    clear hc8 hf8
    go_wp2
    go_loopw [7, 20] (fun v i wr => ∃ k : Nat, k ≤ n ∧ i = .int .i64 k ∧ Hid (OwS wr w.heap.size v (rtTo L y k)) ∧ Ext w wr) (fun _ i _ => n - (intOf i).toNat)
    case atStart => exact ⟨0, by omega, rfl, Lib.hid (Own.nil _ _), by (repeat (first | with_reducible exact Ext.refl _ | with_reducible assumption | ((with_reducible apply Src.ext); with_reducible assumption) | with_reducible refine Ext.alloc ?_ _ | with_reducible refine Ext.drew ?_ | with_reducible refine Ext.drewN ?_ _ | ((with_reducible refine Ext.setCell' ?_ ?_ _); solve | omega | simp | (simp; omega)) | (with_reducible refine Ext.trans ?_ (by with_reducible assumption))))⟩
    case round =>
      obtain ⟨k, hk, rfl, HV, hxr⟩ := hrel
      obtain ⟨w5, rfl⟩ : ∃ x, x = wr := ⟨wr, rfl⟩
      by_cases hlt : k < n
      · have hkr : k < L.length := by rw [← HN.out]; exact hlt
        obtain ⟨b, off, rfl, hb, d0, d1, d2, d3⟩ := (HS.out.ext hxr).lk hkr
        have hsucc := rtTo_succ (y := y) hkr
        have hln := rtTo_len L y k
        have HH := Lib.hid (fun W => i_has (L.getD k lkD).2.2.1 (L.getD k lkD).2.2.2 y W)
        have HP := Lib.hid (fun W (hW : Ext w W) => HPI.out (L.getD k lkD).2.1 W (HS.out.ext hW))
        have hlk : lkHas (L.getD k lkD) y = inB y (L.getD k lkD).2.2.1 (L.getD k lkD).2.2.2 := rfl
        cases hq2 : (par L (L.getD k lkD).2.1 y).isSome with
        | true =>
          rw [rtB_ifs hq2] at hsucc
          rw [hq2] at HP
          have HSU : Hid (rtTo L y (k + 1) = rtTo L y k) := Lib.hid (by rw [hsucc]; simp)
          clear hsucc hlk hq2 HH
          generalize L.getD k lkD = l at *
          generalize tx (parT L l.2.1 y) = st at *
          generalize tx l.1 = sc at *
          generalize tx l.2.1 = sp at *
          go_wp2_with fail
          refine (HP.out _ (by (repeat (first | with_reducible exact Ext.refl _ | with_reducible assumption | ((with_reducible apply Src.ext); with_reducible assumption) | with_reducible refine Ext.alloc ?_ _ | with_reducible refine Ext.drew ?_ | with_reducible refine Ext.drewN ?_ _ | ((with_reducible refine Ext.setCell' ?_ ?_ _); solve | omega | simp | (simp; omega)) | (with_reducible refine Ext.trans ?_ (by with_reducible assumption)))))).mono ?_
          rintro e w1 ⟨rfl, hx1⟩
          go_wp2
          go_roundw
          case rel => exact ⟨k + 1, by omega, by go_num, Lib.hid (by rw [HSU.out]; exact HV.out.ext (by (repeat (first | with_reducible exact Ext.refl _ | with_reducible assumption | ((with_reducible apply Src.ext); with_reducible assumption) | with_reducible refine Ext.alloc ?_ _ | with_reducible refine Ext.drew ?_ | with_reducible refine Ext.drewN ?_ _ | ((with_reducible refine Ext.setCell' ?_ ?_ _); solve | omega | simp | (simp; omega)) | (with_reducible refine Ext.trans ?_ (by with_reducible assumption)))))), by (repeat (first | with_reducible exact Ext.refl _ | with_reducible assumption | ((with_reducible apply Src.ext); with_reducible assumption) | with_reducible refine Ext.alloc ?_ _ | with_reducible refine Ext.drew ?_ | with_reducible refine Ext.drewN ?_ _ | ((with_reducible refine Ext.setCell' ?_ ?_ _); solve | omega | simp | (simp; omega)) | (with_reducible refine Ext.trans ?_ (by with_reducible assumption))))⟩
          case measure => simp [intOf]; omega
        | false =>
          rw [rtB_ifs hq2] at hsucc
          rw [hq2] at HP
          cases hq : lkHas (L.getD k lkD) y with
          | false =>
            rw [hq] at hsucc
            rw [← hlk, hq] at HH
            have HSU : Hid (rtTo L y (k + 1) = rtTo L y k) := Lib.hid (by rw [hsucc]; simp)
            clear hsucc hlk hq hq2
            generalize L.getD k lkD = l at *
            generalize tx (parT L l.2.1 y) = st at *
            generalize tx l.1 = sc at *
            generalize tx l.2.1 = sp at *
            go_wp2_with fail
            refine (HP.out _ (by (repeat (first | with_reducible exact Ext.refl _ | with_reducible assumption | ((with_reducible apply Src.ext); with_reducible assumption) | with_reducible refine Ext.alloc ?_ _ | with_reducible refine Ext.drew ?_ | with_reducible refine Ext.drewN ?_ _ | ((with_reducible refine Ext.setCell' ?_ ?_ _); solve | omega | simp | (simp; omega)) | (with_reducible refine Ext.trans ?_ (by with_reducible assumption)))))).mono ?_
            rintro e w1 ⟨rfl, hx1⟩
            obtain ⟨hc1, hf1⟩ := hx1.rules
            have hs1 := hx1.size
            (try simp at hs1)
            have := (show w5.heap.size < w1.heap.size from by omega)
            go_wp2_with fail
            refine (HH.out _).mono ?_
            rintro e w2 ⟨rfl, hx2⟩
            go_wp2
            go_roundw
            case rel => exact ⟨k + 1, by omega, by go_num, Lib.hid (by rw [HSU.out]; exact HV.out.ext (by (repeat (first | with_reducible exact Ext.refl _ | with_reducible assumption | ((with_reducible apply Src.ext); with_reducible assumption) | with_reducible refine Ext.alloc ?_ _ | with_reducible refine Ext.drew ?_ | with_reducible refine Ext.drewN ?_ _ | ((with_reducible refine Ext.setCell' ?_ ?_ _); solve | omega | simp | (simp; omega)) | (with_reducible refine Ext.trans ?_ (by with_reducible assumption)))))), by (repeat (first | with_reducible exact Ext.refl _ | with_reducible assumption | ((with_reducible apply Src.ext); with_reducible assumption) | with_reducible refine Ext.alloc ?_ _ | with_reducible refine Ext.drew ?_ | with_reducible refine Ext.drewN ?_ _ | ((with_reducible refine Ext.setCell' ?_ ?_ _); solve | omega | simp | (simp; omega)) | (with_reducible refine Ext.trans ?_ (by with_reducible assumption))))⟩
            case measure => simp [intOf]; omega
          | true =>
            rw [hq] at hsucc
            rw [← hlk, hq] at HH
            have HSU : Hid (rtTo L y (k + 1) = rtTo L y k ++ [(L.getD k lkD).2.1]) := Lib.hid (by rw [hsucc]; simp)
            have HBL := Lib.hid (fun (W : World) (g : Nat) (hB : Blk W g 9 #[.string (tx (L.getD k lkD).2.1)]) => blk_s1 hB)
            clear hsucc hlk hq hq2
            generalize L.getD k lkD = l at *
            have HLN : Hid ((rtTo L y k).length ≤ 1000) := Lib.hid (by omega)
            generalize tx (parT L l.2.1 y) = st at *
            generalize tx l.1 = sc at *
            generalize tx l.2.1 = sp at *
            clear hln
            go_wp2_with fail
            refine (HP.out _ (by (repeat (first | with_reducible exact Ext.refl _ | with_reducible assumption | ((with_reducible apply Src.ext); with_reducible assumption) | with_reducible refine Ext.alloc ?_ _ | with_reducible refine Ext.drew ?_ | with_reducible refine Ext.drewN ?_ _ | ((with_reducible refine Ext.setCell' ?_ ?_ _); solve | omega | simp | (simp; omega)) | (with_reducible refine Ext.trans ?_ (by with_reducible assumption)))))).mono ?_
            rintro e w1 ⟨rfl, hx1⟩
            obtain ⟨hc1, hf1⟩ := hx1.rules
            have hs1 := hx1.size
            (try simp at hs1)
            have := (show w5.heap.size < w1.heap.size from by omega)
            go_wp2_with fail
            refine (HH.out _).mono ?_
            rintro e w2 ⟨rfl, hx2⟩
            obtain ⟨hc2, hf2⟩ := hx2.rules
            have hs2 := hx2.size
            (try simp at hs2)
            have := (show w5.heap.size < w2.heap.size from by omega)
            have hsr := hxr.size
            have HV1 : Hid (OwS w2 w.heap.size _ (rtTo L y k)) := Lib.hid (HV.out.ext (by (repeat (first | with_reducible exact Ext.refl _ | with_reducible assumption | ((with_reducible apply Src.ext); with_reducible assumption) | with_reducible refine Ext.alloc ?_ _ | with_reducible refine Ext.drew ?_ | with_reducible refine Ext.drewN ?_ _ | ((with_reducible refine Ext.setCell' ?_ ?_ _); solve | omega | simp | (simp; omega)) | (with_reducible refine Ext.trans ?_ (by with_reducible assumption))))))
            go_wp2_with (at_builtin; refine wpList_append_sl elS len_encS one_encS rfl _ _ rfl rfl (HV1.out.ext (by (repeat (first | with_reducible exact Ext.refl _ | with_reducible assumption | ((with_reducible apply Src.ext); with_reducible assumption) | with_reducible refine Ext.alloc ?_ _ | with_reducible refine Ext.drew ?_ | with_reducible refine Ext.drewN ?_ _ | ((with_reducible refine Ext.setCell' ?_ ?_ _); solve | omega | simp | (simp; omega)) | (with_reducible refine Ext.trans ?_ (by with_reducible assumption)))))) (xs := [l.2.1]) rfl (HBL.out _ _ (by (repeat (first | with_reducible assumption | ((with_reducible apply Blk.new); solve | simp | rfl) | with_reducible apply Blk.drew | with_reducible apply Blk.drewN | ((with_reducible apply Blk.far'); solve | omega | simp | (simp; omega)) | with_reducible apply Blk.set_ | with_reducible apply Blk.alloc | ((with_reducible apply Blk.ext'); with_reducible assumption) | ((with_reducible apply Blk.but'); (with_reducible assumption); solve | omega | (simp; omega)))))) (by have := HLN.out; simp; unfold maxLen; omega) (by have := HLN.out; simp; omega) (by first | omega | (simp; omega)) ?_)
            intro v' w6 hown hgrow _
            have HV2 := Lib.hid hown
            have hx6 : Ext w w6 := by
              refine Ext.grown ?_ hgrow (fun q hq => (HV.out.row q hq).1)
              (repeat (first | with_reducible exact Ext.refl _ | with_reducible assumption | ((with_reducible apply Src.ext); with_reducible assumption) | with_reducible refine Ext.alloc ?_ _ | with_reducible refine Ext.drew ?_ | with_reducible refine Ext.drewN ?_ _ | ((with_reducible refine Ext.setCell' ?_ ?_ _); solve | omega | simp | (simp; omega)) | (with_reducible refine Ext.trans ?_ (by with_reducible assumption))))
            clear hown hgrow
            go_wp2
            go_roundw
            case rel => exact ⟨k + 1, by omega, by go_num, Lib.hid (by rw [HSU.out]; exact HV2.out), hx6⟩
            case measure => simp [intOf]; omega
      · obtain rfl : k = n := by omega
        have hln := rtTo_len L y k
        have HCS := Lib.hid (i_sorted _ _ _ _ HV.out (by omega))
        go_wp2_with fail
        refine HCS.out.mono ?_
        rintro e w1 ⟨v', rfl, hO, hg⟩
        have HO := Lib.hid hO
        have hx1 : Ext w w1 := hxr.grown hg (fun q hq => (HV.out.row q hq).1)
        clear hg hO
        go_wp2
        go_ret2
        exact ⟨_, rfl, HO.out, hx1⟩
  · have hR : rootR L y = [] := by unfold rootR; rw [if_neg hz]
    rw [hR]
    generalize lkC L [] y = cd at *
    have hcd : (cd != 0) = true := by simpa using hz
    clear h hn hg hl hR hcap
    go_enter Tryz.func34, Tryz.ntmps34
    (go_wp2_with fail; refine (HC.out _ (by (repeat (first | with_reducible exact Ext.refl _ | with_reducible assumption | ((with_reducible apply Src.ext); with_reducible assumption) | with_reducible refine Ext.alloc ?_ _ | with_reducible refine Ext.drew ?_ | with_reducible refine Ext.drewN ?_ _ | ((with_reducible refine Ext.setCell' ?_ ?_ _); solve | omega | simp | (simp; omega)) | (with_reducible refine Ext.trans ?_ (by with_reducible assumption)))))).mono ?_; rintro e w1 ⟨rfl, hx1⟩; obtain ⟨hc1, hf1⟩ := hx1.rules; have hs1 := hx1.size; (try simp at hs1))
    go_wp2
    go_ret2
    exact ⟨_, rfl, Own.nil _ _, by (repeat (first | with_reducible exact Ext.refl _ | with_reducible assumption | ((with_reducible apply Src.ext); with_reducible assumption) | with_reducible refine Ext.alloc ?_ _ | with_reducible refine Ext.drew ?_ | with_reducible refine Ext.drewN ?_ _ | ((with_reducible refine Ext.setCell' ?_ ?_ _); solve | omega | simp | (simp; omega)) | (with_reducible refine Ext.trans ?_ (by with_reducible assumption))))⟩
end Go.Proofs.YtmpgjajkaehdiaaGreatDoor
