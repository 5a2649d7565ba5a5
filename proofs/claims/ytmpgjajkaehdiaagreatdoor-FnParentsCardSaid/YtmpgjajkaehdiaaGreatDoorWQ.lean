/- The roots of links in a year, as the specification tells them. -/
import Derived.Test.YtmpgjajkaehdiaaGreatDoorWO
namespace Go.Proofs.YtmpgjajkaehdiaaGreatDoor
open Go.RowKit
attribute [local go_sem] ExtOf.cell ExtOf.frozen

theorem insF_mem : ∀ {l o : List Tx} {z : Tx}, z ∈ l.foldl insA o ↔ z ∈ o ∨ z ∈ l
  | [], o, z => by simp
  | x :: l, o, z => by
    rw [List.foldl_cons, insF_mem, insA_mem, List.mem_cons]
    constructor
    · rintro ((h | h) | h)
      · exact .inr (.inl h)
      · exact .inl h
      · exact .inr (.inr h)
    · rintro (h | h | h)
      · exact .inl (.inr h)
      · exact .inl (.inl h)
      · exact .inr h
theorem insF_alf : ∀ {l o : List Tx}, Alf o → Alf (l.foldl insA o)
  | [], o, h => h
  | x :: l, o, h => by rw [List.foldl_cons]; exact insF_alf (insA_alf h)
theorem insL_sort (l : List Tx) : insL l = sortA l := (sortA_eq (insF_alf List.Pairwise.nil) (fun x => by rw [insF_mem]; simp)).symm
theorem insL_len (l : List Tx) : (insL l).length ≤ l.length := by
  have hs : ∀ (l o : List Tx), (l.foldl insA o).length ≤ o.length + l.length := by
    intro l
    induction l with
    | nil => intro o; simp
    | cons x l ih =>
      intro o
      rw [List.foldl_cons, List.length_cons]
      have h1 := ih (insA o x)
      have h2 := insA_len o x
      omega
  have := hs l []
  simpa [insL] using this
theorem par_emp {L : List Lk} {x : List UInt8} {y : Int} (hT : Told L) : (tx (parT L x y)).toList.isEmpty = !(par L x y).isSome := by
  rw [tx_toL]
  cases hp : (par L x y).isSome with
  | false => rw [parT_no hp]; rfl
  | true => simpa using parT_yes hT hp

set_option maxRecDepth 20000 in
set_option maxHeartbeats 12800000 in
theorem s_RootsIn (A : Option Addr) (n c : Nat) (L : List Lk) (y : Int) (w : World) (h : SlAt w 4 encK A L) (hn : n = L.length) (hl : L.length ≤ 1048576) (hg : Links L) :
    Calls Tryz.prog 35 #[.slice A n c, .int .i64 y] w fun e w' => ∃ v, e = .returned (.tuple #[v, .int .i64 (lkC L [] y)]) ∧ OwS w' w.heap.size v (rootR L y) ∧ Ext w w' := by
  have HC : Hid (∀ W, Ext w W → Calls Tryz.prog 56 #[.slice A n c, .string (tx [97]), .int .i64 y] W fun e w' => e = .returned (.int .i64 (lkC L [] y)) ∧ Ext W w') := Lib.hid (fun W hW => by
    have := s_l12Code A n c L [97] y W (h.ext hW) hn hl hg (by simp)
    rw [lkC_a] at this
    exact this)
  by_cases hz : lkC L [] y = 0
  · have h20 : L.length ≤ 20 := (lksB_iff.1 (lkC_zero hz).1).1.2
    have hT : Told L := LkP.told (lksB_iff.1 (lkC_zero hz).1).1.1
    have hR : rootR L y = insL (rtTo L y n) := by rw [insL_sort]; unfold rootR rtTo; rw [if_pos hz, hn, List.take_length]
    have hn20 : n ≤ 20 := by omega
    rw [hR, hz]
    rw [hz] at HC
    have HN := Lib.hid hn
    have HS := Lib.hid h
    have HPI := Lib.hid (fun x W hW => s_l12Parent A n c L x y W hW hn (by omega))
    have HPE := Lib.hid (fun x => par_emp (x := x) (y := y) hT)
    have HV0 : Hid (∀ W g, Blk W g 9 #[] → w.heap.size ≤ g → OwS W w.heap.size (.slice (some ⟨g, 0, none⟩) 0 0) []) := Lib.hid (fun W g' hB hge => Own.of_blk (xs := []) hB len_encS rfl hge (Nat.zero_le _))
    clear hz h20 hR hn h hl hg hT
    go_enter Tryz.func35, Tryz.ntmps35
    (go_wp2_with fail; refine (HC.out _ (by (repeat (first | with_reducible exact Ext.refl _ | with_reducible assumption | ((with_reducible apply Src.ext); with_reducible assumption) | with_reducible refine Ext.alloc ?_ _ | with_reducible refine Ext.drew ?_ | with_reducible refine Ext.drewN ?_ _ | ((with_reducible refine Ext.setCell' ?_ ?_ _); solve | omega | simp | (simp; omega)) | (with_reducible refine Ext.trans ?_ (by with_reducible assumption)))))).mono ?_; rintro e w8 ⟨rfl, hx8⟩; obtain ⟨hc8, hf8⟩ := hx8.rules; have hs8 := hx8.size; (try simp at hs8))
    clear hc8 hf8
    go_wp2
    go_loopw [7, 8] (fun v i wr => ∃ k : Nat, k ≤ n ∧ i = .int .i64 k ∧ Hid (OwS wr w.heap.size v (insL (rtTo L y k))) ∧ Hid (v ≠ .slice none 0 0) ∧ Ext w wr) (fun _ i _ => n - (intOf i).toNat)
    case atStart => exact ⟨0, by omega, rfl, Lib.hid (HV0.out _ _ (by (repeat (first | with_reducible assumption | ((with_reducible apply Blk.new); solve | simp | rfl) | with_reducible apply Blk.drew | with_reducible apply Blk.drewN | ((with_reducible apply Blk.far'); solve | omega | simp | (simp; omega)) | with_reducible apply Blk.set_ | with_reducible apply Blk.alloc | ((with_reducible apply Blk.ext'); with_reducible assumption) | ((with_reducible apply Blk.but'); (with_reducible assumption); solve | omega | (simp; omega))))) (by omega)), Lib.hid (by simp), by (repeat (first | with_reducible exact Ext.refl _ | with_reducible assumption | ((with_reducible apply Src.ext); with_reducible assumption) | with_reducible refine Ext.alloc ?_ _ | with_reducible refine Ext.drew ?_ | with_reducible refine Ext.drewN ?_ _ | ((with_reducible refine Ext.setCell' ?_ ?_ _); solve | omega | simp | (simp; omega)) | (with_reducible refine Ext.trans ?_ (by with_reducible assumption))))⟩
    case round =>
      obtain ⟨k, hk, rfl, HV, HNE, hxr⟩ := hrel
      obtain ⟨w5, rfl⟩ : ∃ x, x = wr := ⟨wr, rfl⟩
      have hsz := hxr.size
      by_cases hlt : k < n
      · have hkr : k < L.length := by rw [← HN.out]; exact hlt
        obtain ⟨b, off, rfl, hb, d0, d1, d2, d3⟩ := (HS.out.ext hxr).lk hkr
        have hsucc := rtTo_succ (y := y) hkr
        have hln := rtTo_len L y k
        have hln2 := insL_len (rtTo L y k)
        have HP := Lib.hid (fun W (hW : Ext w W) => HPI.out (L.getD k lkD).2.1 W (HS.out.ext hW))
        have HIN := Lib.hid (fun W => l01In_any y (L.getD k lkD).2.2.1 (L.getD k lkD).2.2.2 W)
        have hlk : lkHas (L.getD k lkD) y = inB y (L.getD k lkD).2.2.1 (L.getD k lkD).2.2.2 := rfl
        have hpe := HPE.out (L.getD k lkD).2.1
        cases hq : lkHas (L.getD k lkD) y with
        | false =>
          rw [show rtB L y (L.getD k lkD) = false by unfold rtB; rw [hq]; rfl] at hsucc
          rw [← hlk, hq] at HIN
          have HSU : Hid (rtTo L y (k + 1) = rtTo L y k) := Lib.hid (by rw [hsucc]; simp)
          clear hsucc hlk hq HP hpe
          generalize L.getD k lkD = l at *
          generalize tx l.1 = sc at *
          generalize tx l.2.1 = sp at *
          (go_wp2_with fail; refine (HIN.out _).mono ?_; rintro e w' ⟨rfl, rfl⟩)
          go_wp2
          go_roundw
          case rel => exact ⟨k + 1, by omega, by go_num, Lib.hid (by rw [HSU.out]; exact HV.out.ext (by (repeat (first | with_reducible exact Ext.refl _ | with_reducible assumption | ((with_reducible apply Src.ext); with_reducible assumption) | with_reducible refine Ext.alloc ?_ _ | with_reducible refine Ext.drew ?_ | with_reducible refine Ext.drewN ?_ _ | ((with_reducible refine Ext.setCell' ?_ ?_ _); solve | omega | simp | (simp; omega)) | (with_reducible refine Ext.trans ?_ (by with_reducible assumption)))))), HNE, by (repeat (first | with_reducible exact Ext.refl _ | with_reducible assumption | ((with_reducible apply Src.ext); with_reducible assumption) | with_reducible refine Ext.alloc ?_ _ | with_reducible refine Ext.drew ?_ | with_reducible refine Ext.drewN ?_ _ | ((with_reducible refine Ext.setCell' ?_ ?_ _); solve | omega | simp | (simp; omega)) | (with_reducible refine Ext.trans ?_ (by with_reducible assumption))))⟩
          case measure => simp [intOf]; omega
        | true =>
          rw [← hlk, hq] at HIN
          cases hq2 : (par L (L.getD k lkD).2.1 y).isSome with
          | true =>
            rw [show rtB L y (L.getD k lkD) = false by rw [rtB_ifs hq2, hq]; rfl] at hsucc
            rw [hq2] at hpe
            have HSU : Hid (rtTo L y (k + 1) = rtTo L y k) := Lib.hid (by rw [hsucc]; simp)
            clear hsucc hlk hq hq2
            generalize L.getD k lkD = l at *
            generalize tx (parT L l.2.1 y) = st at *
            generalize tx l.1 = sc at *
            generalize tx l.2.1 = sp at *
            have he : st.toList.isEmpty = false := by rw [hpe]; rfl
            clear hpe
            (go_wp2_with fail; refine (HIN.out _).mono ?_; rintro e w' ⟨rfl, rfl⟩)
            go_wp2_with fail
            refine (HP.out _ (by (repeat (first | with_reducible exact Ext.refl _ | with_reducible assumption | ((with_reducible apply Src.ext); with_reducible assumption) | with_reducible refine Ext.alloc ?_ _ | with_reducible refine Ext.drew ?_ | with_reducible refine Ext.drewN ?_ _ | ((with_reducible refine Ext.setCell' ?_ ?_ _); solve | omega | simp | (simp; omega)) | (with_reducible refine Ext.trans ?_ (by with_reducible assumption)))))).mono ?_
            rintro e w1 ⟨rfl, hx1⟩
            go_wp2
            go_roundw
            case rel => exact ⟨k + 1, by omega, by go_num, Lib.hid (by rw [HSU.out]; exact HV.out.ext (by (repeat (first | with_reducible exact Ext.refl _ | with_reducible assumption | ((with_reducible apply Src.ext); with_reducible assumption) | with_reducible refine Ext.alloc ?_ _ | with_reducible refine Ext.drew ?_ | with_reducible refine Ext.drewN ?_ _ | ((with_reducible refine Ext.setCell' ?_ ?_ _); solve | omega | simp | (simp; omega)) | (with_reducible refine Ext.trans ?_ (by with_reducible assumption)))))), HNE, by (repeat (first | with_reducible exact Ext.refl _ | with_reducible assumption | ((with_reducible apply Src.ext); with_reducible assumption) | with_reducible refine Ext.alloc ?_ _ | with_reducible refine Ext.drew ?_ | with_reducible refine Ext.drewN ?_ _ | ((with_reducible refine Ext.setCell' ?_ ?_ _); solve | omega | simp | (simp; omega)) | (with_reducible refine Ext.trans ?_ (by with_reducible assumption))))⟩
            case measure => simp [intOf]; omega
          | false =>
            rw [show rtB L y (L.getD k lkD) = true by rw [rtB_ifs hq2, hq]; rfl, if_pos rfl] at hsucc
            rw [hq2] at hpe
            have HSU : Hid (insL (rtTo L y (k + 1)) = insA (insL (rtTo L y k)) (L.getD k lkD).2.1) := Lib.hid (by rw [hsucc, insL_succ])
            have HI := Lib.hid (fun W v xs (hW : Ext w5 W) hO hne hlen => s_l08Insert w.heap.size v xs (L.getD k lkD).2.1 W hO hne (Nat.le_trans hsz hW.size) hlen)
            have HLN : Hid ((insL (rtTo L y k)).length ≤ 1000) := Lib.hid (by omega)
            clear hsucc hlk hq hq2 hln hln2
            generalize L.getD k lkD = l at *
            generalize tx (parT L l.2.1 y) = st at *
            generalize tx l.1 = sc at *
            generalize tx l.2.1 = sp at *
            have he : st.toList.isEmpty = true := by rw [hpe]; rfl
            clear hpe
            (go_wp2_with fail; refine (HIN.out _).mono ?_; rintro e w' ⟨rfl, rfl⟩)
            go_wp2_with fail
            refine (HP.out _ (by (repeat (first | with_reducible exact Ext.refl _ | with_reducible assumption | ((with_reducible apply Src.ext); with_reducible assumption) | with_reducible refine Ext.alloc ?_ _ | with_reducible refine Ext.drew ?_ | with_reducible refine Ext.drewN ?_ _ | ((with_reducible refine Ext.setCell' ?_ ?_ _); solve | omega | simp | (simp; omega)) | (with_reducible refine Ext.trans ?_ (by with_reducible assumption)))))).mono ?_
            rintro e w1 ⟨rfl, hx1⟩
            obtain ⟨hc1, hf1⟩ := hx1.rules
            have hs1 := hx1.size
            (try simp at hs1)
            have := (show w5.heap.size < w1.heap.size from by omega)
            go_wp2_with fail
            refine (HI.out _ _ _ (by (repeat (first | with_reducible exact Ext.refl _ | with_reducible assumption | ((with_reducible apply Src.ext); with_reducible assumption) | with_reducible refine Ext.alloc ?_ _ | with_reducible refine Ext.drew ?_ | with_reducible refine Ext.drewN ?_ _ | ((with_reducible refine Ext.setCell' ?_ ?_ _); solve | omega | simp | (simp; omega)) | (with_reducible refine Ext.trans ?_ (by with_reducible assumption))))) (HV.out.ext (by (repeat (first | with_reducible exact Ext.refl _ | with_reducible assumption | ((with_reducible apply Src.ext); with_reducible assumption) | with_reducible refine Ext.alloc ?_ _ | with_reducible refine Ext.drew ?_ | with_reducible refine Ext.drewN ?_ _ | ((with_reducible refine Ext.setCell' ?_ ?_ _); solve | omega | simp | (simp; omega)) | (with_reducible refine Ext.trans ?_ (by with_reducible assumption)))))) HNE.out HLN.out).mono ?_
            rintro e w2 ⟨v2, rfl, hne2, hO2, hx2⟩
            have HN2 := Lib.hid hne2
            have HO2 := Lib.hid hO2
            clear hne2 hO2
            go_wp2
            go_roundw
            case rel => exact ⟨k + 1, by omega, by go_num, Lib.hid (by rw [HSU.out]; exact HO2.out), HN2, by (repeat (first | with_reducible exact Ext.refl _ | with_reducible assumption | ((with_reducible apply Src.ext); with_reducible assumption) | with_reducible refine Ext.alloc ?_ _ | with_reducible refine Ext.drew ?_ | with_reducible refine Ext.drewN ?_ _ | ((with_reducible refine Ext.setCell' ?_ ?_ _); solve | omega | simp | (simp; omega)) | (with_reducible refine Ext.trans ?_ (by with_reducible assumption))))⟩
            case measure => simp [intOf]; omega
      · obtain rfl : k = n := by omega
        go_wp2
        go_ret2
        exact ⟨_, rfl, HV.out, by (repeat (first | with_reducible exact Ext.refl _ | with_reducible assumption | ((with_reducible apply Src.ext); with_reducible assumption) | with_reducible refine Ext.alloc ?_ _ | with_reducible refine Ext.drew ?_ | with_reducible refine Ext.drewN ?_ _ | ((with_reducible refine Ext.setCell' ?_ ?_ _); solve | omega | simp | (simp; omega)) | (with_reducible refine Ext.trans ?_ (by with_reducible assumption))))⟩
  · have hR : rootR L y = [] := by unfold rootR; rw [if_neg hz]
    rw [hR]
    generalize lkC L [] y = cd at *
    have hcd : (cd != 0) = true := by simpa using hz
    clear h hn hg hl hR
    go_enter Tryz.func35, Tryz.ntmps35
    (go_wp2_with fail; refine (HC.out _ (by (repeat (first | with_reducible exact Ext.refl _ | with_reducible assumption | ((with_reducible apply Src.ext); with_reducible assumption) | with_reducible refine Ext.alloc ?_ _ | with_reducible refine Ext.drew ?_ | with_reducible refine Ext.drewN ?_ _ | ((with_reducible refine Ext.setCell' ?_ ?_ _); solve | omega | simp | (simp; omega)) | (with_reducible refine Ext.trans ?_ (by with_reducible assumption)))))).mono ?_; rintro e w1 ⟨rfl, hx1⟩; obtain ⟨hc1, hf1⟩ := hx1.rules; have hs1 := hx1.size; (try simp at hs1))
    go_wp2
    go_ret2
    exact ⟨_, rfl, Own.nil _ _, by (repeat (first | with_reducible exact Ext.refl _ | with_reducible assumption | ((with_reducible apply Src.ext); with_reducible assumption) | with_reducible refine Ext.alloc ?_ _ | with_reducible refine Ext.drew ?_ | with_reducible refine Ext.drewN ?_ _ | ((with_reducible refine Ext.setCell' ?_ ?_ _); solve | omega | simp | (simp; omega)) | (with_reducible refine Ext.trans ?_ (by with_reducible assumption))))⟩
end Go.Proofs.YtmpgjajkaehdiaaGreatDoor
