/- Contracts of points read, walked over the translation. -/
import Derived.Test.YtdbheipjbjcikaaGreatDoorTG
import Derived.Test.YtdbheipjbjcikaaGreatDoorI
import Derived.Deep.RegionHeld3
import Derived.Deep.DeepCutAuto
import Derived.RegionTactic
import Derived.BigRegion
import Derived.WalkLawsBesides
import Derived.WalkSpells
import Derived.Lib.MinMax
import Derived.Outline
namespace Go.Proofs.YtdbheipjbjcikaaGreatDoor
open Go.RowKit
attribute [local go_sem] ExtOf.cell ExtOf.frozen

open Go.PlainAid
/-- a variable of an interface's type -/
def IfaceAt (g : Nat) (w : World) : Prop := ∃ ev, w.cell? ⟨g, 0, none⟩ = some ev ∧ (ev = .nilIface ∨ ∃ te pe, ev = .iface te pe)
theorem IfaceAt.ext {g : Nat} {w w' : World} (h : IfaceAt g w) (hx : Ext w w') : IfaceAt g w' := by
  obtain ⟨m, hm, h2⟩ := h
  exact ⟨m, (hx.cell _ _ (World.block_lt_of_cell? _ _ hm)).trans hm, h2⟩
/-- what the reading of numbers takes of the world -/
structure Ld (w : World) : Prop where
  tab : Tab w
  mx : Mx w
  es : IfaceAt 1 w
  er : IfaceAt 2 w
theorem Ld.ext {w w' : World} (h : Ld w) (hx : Ext w w') : Ld w' := ⟨h.tab.ext hx, h.mx.ext hx, h.es.ext hx, h.er.ext hx⟩
/-- a numeral, read by the library -/
structure RdJ (s : ByteArray) (v : Int) (b : Bool) : Prop where
  lo : -9223372036854775808 ≤ v
  hi : v ≤ 9223372036854775807
  yes : b = true → s.data.toList = Lib.itoa v
  no : b = false → ∀ n : Int, Num n → s.data.toList ≠ Lib.itoa n
def RdJE (s : ByteArray) (e : Ending) : Prop := ∃ (v : Int) (b : Bool), e = .returned (.tuple #[.int .i64 v, .bool b]) ∧ RdJ s v b
set_option maxRecDepth 20000 in
set_option maxHeartbeats 3200000 in
theorem i_readNumber (s : ByteArray) (w : World) (hs : s.size ≤ 1048576) (h : Ld w) :
    Calls Tryz.prog 60 #[.string s] w fun e w' => RdJE s e ∧ Ext w w' := by
  have HT := Lib.hid h
  clear h
  rcases hp : Lib.parseIntB 64 s.data.toList with v | _ | _
  · have hb := Lib.parseIntB_bounds hp
    have h0 : -9223372036854775808 ≤ v := by have := hb.1; simp at this; omega
    have h1 : v ≤ 9223372036854775807 := by have := hb.2; simp at this; omega
    have HP := Lib.hid fun W => Tryz.strconv_ParseInt_10_at64_ok s (by omega) v hp W
    have HI : Hid (∀ n, Num n → s.data.toList = Lib.itoa n → n = v) := Lib.hid fun n hn e => by
      rw [e, parse_itoa hn] at hp
      injection hp
    have HD := Lib.hid fun W => i_decimal v W h0 h1
    clear hb hp
    go_enter Tryz.func60, Tryz.ntmps60
    go_wp2_with fail
    refine (HP.out _).mono ?_
    rintro e w1 ⟨rfl, hw1⟩
    have hx1 : Ext w w1 := by
      rcases hw1 with rfl | ⟨t, rfl⟩
      · exact Ext.refl _
      · exact Go.Joins.below_bytesWorld _ _ _ _ (Nat.le_refl _)
    clear hw1
    go_wp2_with fail
    refine (HD.out _ (HT.out.tab.ext hx1)).mono ?_
    rintro e w2 ⟨rfl, hx2⟩
    go_wp2
    go_ret2
    refine ⟨⟨v, (tx (Lib.itoa v)).toList == s.toList, rfl, h0, h1, fun h => ?_, fun h n hn e => ?_⟩, hx1.trans hx2⟩
    · rw [← same_text.1 h, tx_list]
    · obtain rfl := HI.out n hn e
      rw [same_text.2 (by rw [← eq_tx e])] at h
      cases h
  · have HI : Hid (∀ n, Num n → s.data.toList ≠ Lib.itoa n) := Lib.hid fun n hn e => by
      rw [e, parse_itoa hn] at hp
      cases hp
    obtain ⟨ev, hev, hif⟩ := HT.out.es
    have HP := Lib.hid (Tryz.strconv_ParseInt_10_at64_syntax s (by omega) hp ev w hev hif)
    clear hev hif hp
    go_enter Tryz.func60, Tryz.ntmps60
    go_wp2_with fail
    refine HP.out.mono ?_
    rintro e w1 ⟨N, rfl, _, _, hx1⟩
    have hx1' : Ext w w1 := hx1
    go_wp2
    go_ret2
    exact ⟨⟨0, false, rfl, by omega, by omega, fun h => (by cases h), fun _ => HI.out⟩, hx1'⟩
  · have HI : Hid (∀ n, Num n → s.data.toList ≠ Lib.itoa n) := Lib.hid fun n hn e => by
      rw [e, parse_itoa hn] at hp
      cases hp
    obtain ⟨ev, hev, hif⟩ := HT.out.er
    have HP := Lib.hid (Tryz.strconv_ParseInt_10_at64_range s (by omega) hp ev w hev hif)
    have hsat : Lib.intSat 64 s.data.toList = -9223372036854775808 ∨ Lib.intSat 64 s.data.toList = 9223372036854775807 := by
      unfold Lib.intSat
      split
      · left; rfl
      · right; rfl
    generalize Lib.intSat 64 s.data.toList = q at *
    have hq0 : -9223372036854775808 ≤ q := by omega
    have hq1 : q ≤ 9223372036854775807 := by omega
    clear hev hif hp hsat
    go_enter Tryz.func60, Tryz.ntmps60
    go_wp2_with fail
    refine HP.out.mono ?_
    rintro e w1 ⟨N, rfl, _, _, hx1⟩
    have hx1' : Ext w w1 := hx1
    go_wp2
    go_ret2
    exact ⟨⟨q, false, rfl, hq0, hq1, fun h => (by cases h), fun _ => HI.out⟩, hx1'⟩
open Classical in
/-- the point that a text spells -/
noncomputable def rdP (l : List UInt8) : Option (Int × Int) := if h : ∃ p : Int × Int, okP p.1 p.2 = true ∧ l = ptT p.1 p.2 then some h.choose else none
noncomputable def rdX (l : List UInt8) : Int := ((rdP l).getD (0, 0)).1
noncomputable def rdZ (l : List UInt8) : Int := ((rdP l).getD (0, 0)).2
noncomputable def rdC (l : List UInt8) : Int := if (rdP l).isSome then 0 else 6
theorem rdP_yes {l : List UInt8} {x z : Int} (h : okP x z = true) (e : l = ptT x z) : rdP l = some (x, z) := by
  have hx : ∃ p : Int × Int, okP p.1 p.2 = true ∧ l = ptT p.1 p.2 := ⟨(x, z), h, e⟩
  unfold rdP
  rw [dif_pos hx]
  have h2 := ptT_inj (hx.choose_spec.2.symm.trans e)
  rw [← h2.1, ← h2.2]
theorem rdP_no {l : List UInt8} (h : ∀ x z, okP x z = true → l ≠ ptT x z) : rdP l = none := by
  unfold rdP
  rw [dif_neg]
  rintro ⟨p, h1, h2⟩
  exact h _ _ h1 h2
def RdPE (l : List UInt8) (e : Ending) : Prop := ∃ (x z : Int) (b : Bool), e = .returned (.tuple #[.agg #[.int .i64 x, .int .i64 z], .bool b]) ∧ (b = true → rdP l = some (x, z)) ∧ (b = false → rdP l = none)
/-- both parts of a text hold numbers -/
theorem cut_facts {l : List UInt8} {v1 v2 : Int} {b1 b2 : Bool} (h1 : RdJ (tx (Lib.cut l [58]).1) v1 b1) (h2 : RdJ (tx (Lib.cut l [58]).2.1) v2 b2) :
    ((b1 = true ∧ b2 = true ∧ okP v1 v2 = true) → rdP l = some (v1, v2)) ∧ (¬ (b1 = true ∧ b2 = true ∧ okP v1 v2 = true) → rdP l = none) := by
  constructor
  · rintro ⟨e1, e2, ho⟩
    have y1 := h1.yes e1
    have y2 := h2.yes e2
    rw [tx_list] at y1 y2
    have hf : (Lib.cut l [58]).2.2 = true := by
      cases hf : (Lib.cut l [58]).2.2 with
      | true => rfl
      | false =>
        rw [cut_no hf] at y2
        by_cases hn : v2 < 0
        · rw [itoa_neg hn] at y2; cases y2
        · rw [itoa_nat hn] at y2; exact absurd y2.symm (dec_ne _)
    refine rdP_yes ho ?_
    rw [cut_yes hf, y1, y2]; rfl
  · intro hn
    refine rdP_no fun x z ho e => hn ?_
    obtain ⟨hx, hz⟩ := okP_num ho
    rw [e, cut_ptT] at h1 h2
    have e1 : b1 = true := by
      cases b1 with
      | true => rfl
      | false => exact absurd (tx_list _) (h1.no rfl x hx)
    have e2 : b2 = true := by
      cases b2 with
      | true => rfl
      | false => exact absurd (tx_list _) (h2.no rfl z hz)
    have i1 := itoa_inj ((tx_list _).symm.trans (h1.yes e1))
    have i2 := itoa_inj ((tx_list _).symm.trans (h2.yes e2))
    refine ⟨e1, e2, ?_⟩
    rw [← i1, ← i2]
    exact ho
set_option maxRecDepth 20000 in
set_option maxHeartbeats 6400000 in
theorem i_readPoint (s : ByteArray) (w : World) (hs : s.size ≤ 1048576) (h : Ld w) :
    Calls Tryz.prog 71 #[.string s] w fun e w' => RdPE s.data.toList e ∧ Ext w w' := by
  have HT := Lib.hid h
  obtain ⟨m, hm⟩ := h.mx
  have hsl := size_list s
  obtain ⟨c1, c2⟩ := cut_size (c := 58) s.data.toList
  have HF := Lib.hid fun v1 v2 b1 b2 => @cut_facts s.data.toList v1 v2 b1 b2
  have HC := Lib.hid fun W (hW : Ext w W) => Tryz.strings_Cut s ⟨#[58]⟩ m W (by omega) ((hW.cell _ _ (World.block_lt_of_cell? _ _ hm)).trans hm)
  have HN : Hid ((Lib.cut s.data.toList (⟨#[58]⟩ : ByteArray).data.toList) = Lib.cut s.data.toList [58]) := Lib.hid rfl
  rw [HN.out] at HC
  obtain ⟨p, hp⟩ : ∃ p, p = Lib.cut s.data.toList [58] := ⟨_, rfl⟩
  rw [← hp] at HF HC c1 c2
  obtain ⟨p1, p2, p3⟩ := p
  have H1 : Hid (∀ W, Ld W → Calls Tryz.prog 60 #[.string (tx p1)] W fun e w' => RdJE (tx p1) e ∧ Ext W w') := Lib.hid fun W hW => i_readNumber (tx p1) W (by rw [tx_size]; simp only at c1; omega) hW
  have H2 : Hid (∀ W, Ld W → Calls Tryz.prog 60 #[.string (tx p2)] W fun e w' => RdJE (tx p2) e ∧ Ext W w') := Lib.hid fun W hW => i_readNumber (tx p2) W (by rw [tx_size]; simp only at c2; omega) hW
  clear hp c1 c2 hsl h hm HN
  go_enter Tryz.func71, Tryz.ntmps71
  go_wp2_with fail
  refine (HC.out _ (by (repeat (first | with_reducible exact Ext.refl _ | with_reducible assumption | ((with_reducible apply Src.ext); with_reducible assumption) | with_reducible refine Ext.alloc ?_ _ | with_reducible refine Ext.drew ?_ | with_reducible refine Ext.drewN ?_ _ | ((with_reducible refine Ext.setCell' ?_ ?_ _); solve | omega | simp | (simp; omega)) | (with_reducible refine Ext.trans ?_ (by with_reducible assumption)))))).mono ?_
  rintro e w1 ⟨rfl, n, rfl⟩
  go_wp2_with fail
  refine (H1.out _ (HT.out.ext (by (repeat (first | with_reducible exact Ext.refl _ | with_reducible assumption | ((with_reducible apply Src.ext); with_reducible assumption) | with_reducible refine Ext.alloc ?_ _ | with_reducible refine Ext.drew ?_ | with_reducible refine Ext.drewN ?_ _ | ((with_reducible refine Ext.setCell' ?_ ?_ _); solve | omega | simp | (simp; omega)) | (with_reducible refine Ext.trans ?_ (by with_reducible assumption))))))).mono ?_
  rintro e w2 ⟨⟨v1, b1, rfl, hr1⟩, hx2⟩
  have HR1 := Lib.hid hr1
  obtain ⟨hc2, hf2⟩ := hx2.rules
  have hs2 := hx2.size
  (try simp at hs2)
  have := (show w.heap.size < w2.heap.size from by omega)
  clear hr1
  go_wp2_with fail
  refine (H2.out _ (HT.out.ext (by (repeat (first | with_reducible exact Ext.refl _ | with_reducible assumption | ((with_reducible apply Src.ext); with_reducible assumption) | with_reducible refine Ext.alloc ?_ _ | with_reducible refine Ext.drew ?_ | with_reducible refine Ext.drewN ?_ _ | ((with_reducible refine Ext.setCell' ?_ ?_ _); solve | omega | simp | (simp; omega)) | (with_reducible refine Ext.trans ?_ (by with_reducible assumption))))))).mono ?_
  rintro e w3 ⟨⟨v2, b2, rfl, hr2⟩, hx3⟩
  obtain ⟨hc3, hf3⟩ := hx3.rules
  have hs3 := hx3.size
  (try simp at hs3)
  have := (show w.heap.size < w3.heap.size from by omega)
  obtain ⟨f1, f2⟩ := HF.out v1 v2 b1 b2 HR1.out hr2
  have F1 := Lib.hid f1
  have F2 := Lib.hid f2
  clear hr2 f1 f2 HF HC H1 H2
  cases b1 with
  | true =>
    cases b2 with
    | true =>
      have HO : Hid (∀ W, Calls Tryz.prog 111 #[.agg #[.int .i64 v1, .int .i64 v2]] W fun e w' => e = .returned (.bool (okP v1 v2)) ∧ Ext W w') := Lib.hid (i_IsPoint v1 v2)
      cases ho : okP v1 v2 with
      | true =>
        rw [ho] at HO
        have F := Lib.hid (F1.out ⟨rfl, rfl, ho⟩)
        clear F1 F2 ho
        go_wp2
        go_region_with (first | (go_at_call 111; refine (HO.out _).mono ?_; rintro e w7 ⟨rfl, hx7⟩; obtain ⟨hc7, hf7⟩ := hx7.rules; have hs7 := hx7.size; (try simp at hs7); have hl7 : ∀ n, n < _ → n < w7.heap.size := fun n h => Nat.lt_of_lt_of_le h hx7.size))
        all_goals go_wp2
        all_goals refine ret_pts1 (b0 := w.heap.size) (t := 70) (v := .tuple #[.agg #[.int .i64 v1, .int .i64 v2], .bool true]) (Blk.eq (by (repeat (first | with_reducible assumption | ((with_reducible apply Blk.new); solve | simp | rfl) | with_reducible apply Blk.drew | with_reducible apply Blk.drewN | ((with_reducible apply Blk.far'); solve | omega | simp | (simp; omega)) | with_reducible apply Blk.set_ | with_reducible apply Blk.alloc | ((with_reducible apply Blk.ext'); with_reducible assumption) | ((with_reducible apply Blk.but'); (with_reducible assumption); solve | omega | (simp; omega))))) (by rfl)) rfl (by intro W' r0 r1; simp [results, Tryz.results71, go_sem, r0, r1]) ?_
        all_goals exact ⟨⟨v1, v2, true, rfl, fun _ => F.out, fun h => (by cases h)⟩, by (repeat (first | with_reducible exact Ext.refl _ | with_reducible assumption | ((with_reducible apply Src.ext); with_reducible assumption) | with_reducible refine Ext.alloc ?_ _ | with_reducible refine Ext.drew ?_ | with_reducible refine Ext.drewN ?_ _ | ((with_reducible refine Ext.setCell' ?_ ?_ _); solve | omega | simp | (simp; omega)) | (with_reducible refine Ext.trans ?_ (by with_reducible assumption))))⟩
      | false =>
        rw [ho] at HO
        have F := Lib.hid (F2.out (fun h => by rw [ho] at h; exact Bool.noConfusion h.2.2))
        clear F1 F2 ho
        go_wp2
        go_region_with (first | (go_at_call 111; refine (HO.out _).mono ?_; rintro e w7 ⟨rfl, hx7⟩; obtain ⟨hc7, hf7⟩ := hx7.rules; have hs7 := hx7.size; (try simp at hs7); have hl7 : ∀ n, n < _ → n < w7.heap.size := fun n h => Nat.lt_of_lt_of_le h hx7.size))
        all_goals go_wp2
        all_goals refine ret_pts1 (b0 := w.heap.size) (t := 70) (v := .tuple #[.agg #[.int .i64 v1, .int .i64 v2], .bool false]) (Blk.eq (by (repeat (first | with_reducible assumption | ((with_reducible apply Blk.new); solve | simp | rfl) | with_reducible apply Blk.drew | with_reducible apply Blk.drewN | ((with_reducible apply Blk.far'); solve | omega | simp | (simp; omega)) | with_reducible apply Blk.set_ | with_reducible apply Blk.alloc | ((with_reducible apply Blk.ext'); with_reducible assumption) | ((with_reducible apply Blk.but'); (with_reducible assumption); solve | omega | (simp; omega))))) (by rfl)) rfl (by intro W' r0 r1; simp [results, Tryz.results71, go_sem, r0, r1]) ?_
        all_goals exact ⟨⟨v1, v2, false, rfl, fun h => (by cases h), fun _ => F.out⟩, by (repeat (first | with_reducible exact Ext.refl _ | with_reducible assumption | ((with_reducible apply Src.ext); with_reducible assumption) | with_reducible refine Ext.alloc ?_ _ | with_reducible refine Ext.drew ?_ | with_reducible refine Ext.drewN ?_ _ | ((with_reducible refine Ext.setCell' ?_ ?_ _); solve | omega | simp | (simp; omega)) | (with_reducible refine Ext.trans ?_ (by with_reducible assumption))))⟩
    | false =>
      have F := Lib.hid (F2.out (fun h => by exact Bool.noConfusion h.2.1))
      clear F1 F2
      go_wp2
      (first | go_region_with fail | fail)
      all_goals go_wp2
      all_goals refine ret_pts1 (b0 := w.heap.size) (t := 70) (v := .tuple #[.agg #[.int .i64 v1, .int .i64 v2], .bool false]) (Blk.eq (by (repeat (first | with_reducible assumption | ((with_reducible apply Blk.new); solve | simp | rfl) | with_reducible apply Blk.drew | with_reducible apply Blk.drewN | ((with_reducible apply Blk.far'); solve | omega | simp | (simp; omega)) | with_reducible apply Blk.set_ | with_reducible apply Blk.alloc | ((with_reducible apply Blk.ext'); with_reducible assumption) | ((with_reducible apply Blk.but'); (with_reducible assumption); solve | omega | (simp; omega))))) (by rfl)) rfl (by intro W' r0 r1; simp [results, Tryz.results71, go_sem, r0, r1]) ?_
      all_goals exact ⟨⟨v1, v2, false, rfl, fun h => (by cases h), fun _ => F.out⟩, by (repeat (first | with_reducible exact Ext.refl _ | with_reducible assumption | ((with_reducible apply Src.ext); with_reducible assumption) | with_reducible refine Ext.alloc ?_ _ | with_reducible refine Ext.drew ?_ | with_reducible refine Ext.drewN ?_ _ | ((with_reducible refine Ext.setCell' ?_ ?_ _); solve | omega | simp | (simp; omega)) | (with_reducible refine Ext.trans ?_ (by with_reducible assumption))))⟩
  | false =>
    have F := Lib.hid (F2.out (fun h => by exact Bool.noConfusion h.1))
    clear F1 F2
    cases b2 with
    | true =>
      go_wp2
      (first | go_region_with fail | fail)
      all_goals go_wp2
      all_goals refine ret_pts1 (b0 := w.heap.size) (t := 70) (v := .tuple #[.agg #[.int .i64 v1, .int .i64 v2], .bool false]) (Blk.eq (by (repeat (first | with_reducible assumption | ((with_reducible apply Blk.new); solve | simp | rfl) | with_reducible apply Blk.drew | with_reducible apply Blk.drewN | ((with_reducible apply Blk.far'); solve | omega | simp | (simp; omega)) | with_reducible apply Blk.set_ | with_reducible apply Blk.alloc | ((with_reducible apply Blk.ext'); with_reducible assumption) | ((with_reducible apply Blk.but'); (with_reducible assumption); solve | omega | (simp; omega))))) (by rfl)) rfl (by intro W' r0 r1; simp [results, Tryz.results71, go_sem, r0, r1]) ?_
      all_goals exact ⟨⟨v1, v2, false, rfl, fun h => (by cases h), fun _ => F.out⟩, by (repeat (first | with_reducible exact Ext.refl _ | with_reducible assumption | ((with_reducible apply Src.ext); with_reducible assumption) | with_reducible refine Ext.alloc ?_ _ | with_reducible refine Ext.drew ?_ | with_reducible refine Ext.drewN ?_ _ | ((with_reducible refine Ext.setCell' ?_ ?_ _); solve | omega | simp | (simp; omega)) | (with_reducible refine Ext.trans ?_ (by with_reducible assumption))))⟩
    | false =>
      go_wp2
      (first | go_region_with fail | fail)
      all_goals go_wp2
      all_goals refine ret_pts1 (b0 := w.heap.size) (t := 70) (v := .tuple #[.agg #[.int .i64 v1, .int .i64 v2], .bool false]) (Blk.eq (by (repeat (first | with_reducible assumption | ((with_reducible apply Blk.new); solve | simp | rfl) | with_reducible apply Blk.drew | with_reducible apply Blk.drewN | ((with_reducible apply Blk.far'); solve | omega | simp | (simp; omega)) | with_reducible apply Blk.set_ | with_reducible apply Blk.alloc | ((with_reducible apply Blk.ext'); with_reducible assumption) | ((with_reducible apply Blk.but'); (with_reducible assumption); solve | omega | (simp; omega))))) (by rfl)) rfl (by intro W' r0 r1; simp [results, Tryz.results71, go_sem, r0, r1]) ?_
      all_goals exact ⟨⟨v1, v2, false, rfl, fun h => (by cases h), fun _ => F.out⟩, by (repeat (first | with_reducible exact Ext.refl _ | with_reducible assumption | ((with_reducible apply Src.ext); with_reducible assumption) | with_reducible refine Ext.alloc ?_ _ | with_reducible refine Ext.drew ?_ | with_reducible refine Ext.drewN ?_ _ | ((with_reducible refine Ext.setCell' ?_ ?_ _); solve | omega | simp | (simp; omega)) | (with_reducible refine Ext.trans ?_ (by with_reducible assumption))))⟩

end Go.Proofs.YtdbheipjbjcikaaGreatDoor
