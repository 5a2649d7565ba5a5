/- Contracts of points read, walked over the translation. Reading a point: the specification and the law, walked over the translation. -/
import Derived.Test.YtabdffponmmhoaaGreatDoorT2
import Derived.Test.YtabdffponmmhoaaGreatDoorG0
import Derived.Deep.RegionHeld3
import Derived.Deep.DeepCutAuto
import Derived.RegionTactic
import Derived.BigRegion
import Derived.WalkLawsBesides
import Derived.WalkSpells
import Derived.Lib.MinMax
import Derived.Outline
namespace Go.Proofs.YtabdffponmmhoaaGreatDoor
open Go.RowKit
attribute [local go_sem] ExtOf.cell ExtOf.frozen

open Go.PlainAid
/-- a variable of an interface's type -/
def IfaceAt (g : Nat) (w : World) : Prop := ∃ ev, w.cell? ⟨g, 0, none⟩ = some ev ∧ (ev = .nilIface ∨ ∃ te pe, ev = .iface te pe)
theorem IfaceAt.ext {g : Nat} {w w' : World} (h : IfaceAt g w) (hx : Ext w w') : IfaceAt g w' := by
  obtain ⟨m, hm, h2⟩ := h
  exact ⟨m, (hx.cell _ _ (World.block_lt_of_cell? _ _ hm)).trans hm, h2⟩
/-- what the reading of numbers takes of the world -/
structure Ld (w : World) : Prop where
  tab : Tab w
  mx : Mx w
  es : IfaceAt 1 w
  er : IfaceAt 2 w
theorem Ld.ext {w w' : World} (h : Ld w) (hx : Ext w w') : Ld w' := ⟨h.tab.ext hx, h.mx.ext hx, h.es.ext hx, h.er.ext hx⟩
/-- a numeral, read by the library -/
structure RdJ (s : ByteArray) (v : Int) (b : Bool) : Prop where
  lo : -9223372036854775808 ≤ v
  hi : v ≤ 9223372036854775807
  yes : b = true → s.data.toList = Lib.itoa v
  no : b = false → ∀ n : Int, Num n → s.data.toList ≠ Lib.itoa n
def RdJE (s : ByteArray) (e : Ending) : Prop := ∃ (v : Int) (b : Bool), e = .returned (.tuple #[.int .i64 v, .bool b]) ∧ RdJ s v b
set_option maxRecDepth 20000 in
set_option maxHeartbeats 3200000 in
theorem i_readNumber (s : ByteArray) (w : World) (hs : s.size ≤ 1048576) (h : Ld w) :
    Calls Tryz.prog 51 #[.string s] w fun e w' => RdJE s e ∧ Ext w w' := by
  have HT := Lib.hid h
  clear h
  rcases hp : Lib.parseIntB 64 s.data.toList with v | _ | _
  · have hb := Lib.parseIntB_bounds hp
    have h0 : -9223372036854775808 ≤ v := by have := hb.1; simp at this; omega
    have h1 : v ≤ 9223372036854775807 := by have := hb.2; simp at this; omega
    have HP := Lib.hid fun W => Tryz.strconv_ParseInt_10_at64_ok s (by omega) v hp W
    have HI : Hid (∀ n, Num n → s.data.toList = Lib.itoa n → n = v) := Lib.hid fun n hn e => by
      rw [e, parse_itoa hn] at hp
      injection hp
    have HD := Lib.hid fun W => i_decimal v W h0 h1
    clear hb hp
    go_enter Tryz.func51, Tryz.ntmps51
    go_wp2_with fail
    refine (HP.out _).mono ?_
    rintro e w1 ⟨rfl, hw1⟩
    have hx1 : Ext w w1 := by
      rcases hw1 with rfl | ⟨t, rfl⟩
      · exact Ext.refl _
      · exact Go.Joins.below_bytesWorld _ _ _ _ (Nat.le_refl _)
    clear hw1
    go_wp2_with fail
    refine (HD.out _ (HT.out.tab.ext hx1)).mono ?_
    rintro e w2 ⟨rfl, hx2⟩
    go_wp2
    go_ret2
    refine ⟨⟨v, (tx (Lib.itoa v)).toList == s.toList, rfl, h0, h1, fun h => ?_, fun h n hn e => ?_⟩, hx1.trans hx2⟩
    · rw [← same_text.1 h, tx_list]
    · obtain rfl := HI.out n hn e
      rw [same_text.2 (by rw [← eq_tx e])] at h
      cases h
  · have HI : Hid (∀ n, Num n → s.data.toList ≠ Lib.itoa n) := Lib.hid fun n hn e => by
      rw [e, parse_itoa hn] at hp
      cases hp
    obtain ⟨ev, hev, hif⟩ := HT.out.es
    have HP := Lib.hid (Tryz.strconv_ParseInt_10_at64_syntax s (by omega) hp ev w hev hif)
    clear hev hif hp
    go_enter Tryz.func51, Tryz.ntmps51
    go_wp2_with fail
    refine HP.out.mono ?_
    rintro e w1 ⟨N, rfl, _, _, hx1⟩
    have hx1' : Ext w w1 := hx1
    go_wp2
    go_ret2
    exact ⟨⟨0, false, rfl, by omega, by omega, fun h => (by cases h), fun _ => HI.out⟩, hx1'⟩
  · have HI : Hid (∀ n, Num n → s.data.toList ≠ Lib.itoa n) := Lib.hid fun n hn e => by
      rw [e, parse_itoa hn] at hp
      cases hp
    obtain ⟨ev, hev, hif⟩ := HT.out.er
    have HP := Lib.hid (Tryz.strconv_ParseInt_10_at64_range s (by omega) hp ev w hev hif)
    have hsat : Lib.intSat 64 s.data.toList = -9223372036854775808 ∨ Lib.intSat 64 s.data.toList = 9223372036854775807 := by
      unfold Lib.intSat
      split
      · left; rfl
      · right; rfl
    generalize Lib.intSat 64 s.data.toList = q at *
    have hq0 : -9223372036854775808 ≤ q := by omega
    have hq1 : q ≤ 9223372036854775807 := by omega
    clear hev hif hp hsat
    go_enter Tryz.func51, Tryz.ntmps51
    go_wp2_with fail
    refine HP.out.mono ?_
    rintro e w1 ⟨N, rfl, _, _, hx1⟩
    have hx1' : Ext w w1 := hx1
    go_wp2
    go_ret2
    exact ⟨⟨q, false, rfl, hq0, hq1, fun h => (by cases h), fun _ => HI.out⟩, hx1'⟩
open Classical in
/-- the point that a text spells -/
noncomputable def rdP (l : List UInt8) : Option (Int × Int) := if h : ∃ p : Int × Int, okP p.1 p.2 = true ∧ l = ptT p.1 p.2 then some h.choose else none
noncomputable def rdX (l : List UInt8) : Int := ((rdP l).getD (0, 0)).1
noncomputable def rdZ (l : List UInt8) : Int := ((rdP l).getD (0, 0)).2
noncomputable def rdC (l : List UInt8) : Int := if (rdP l).isSome then 0 else 6
theorem rdP_yes {l : List UInt8} {x z : Int} (h : okP x z = true) (e : l = ptT x z) : rdP l = some (x, z) := by
  have hx : ∃ p : Int × Int, okP p.1 p.2 = true ∧ l = ptT p.1 p.2 := ⟨(x, z), h, e⟩
  unfold rdP
  rw [dif_pos hx]
  have h2 := ptT_inj (hx.choose_spec.2.symm.trans e)
  rw [← h2.1, ← h2.2]
theorem rdP_no {l : List UInt8} (h : ∀ x z, okP x z = true → l ≠ ptT x z) : rdP l = none := by
  unfold rdP
  rw [dif_neg]
  rintro ⟨p, h1, h2⟩
  exact h _ _ h1 h2
def RdPE (l : List UInt8) (e : Ending) : Prop := ∃ (x z : Int) (b : Bool), e = .returned (.tuple #[.agg #[.int .i64 x, .int .i64 z], .bool b]) ∧ (b = true → rdP l = some (x, z)) ∧ (b = false → rdP l = none)
/-- both parts of a text hold numbers -/
theorem cut_facts {l : List UInt8} {v1 v2 : Int} {b1 b2 : Bool} (h1 : RdJ (tx (Lib.cut l [58]).1) v1 b1) (h2 : RdJ (tx (Lib.cut l [58]).2.1) v2 b2) :
    ((b1 = true ∧ b2 = true ∧ okP v1 v2 = true) → rdP l = some (v1, v2)) ∧ (¬ (b1 = true ∧ b2 = true ∧ okP v1 v2 = true) → rdP l = none) := by
  constructor
  · rintro ⟨e1, e2, ho⟩
    have y1 := h1.yes e1
    have y2 := h2.yes e2
    rw [tx_list] at y1 y2
    have hf : (Lib.cut l [58]).2.2 = true := by
      cases hf : (Lib.cut l [58]).2.2 with
      | true => rfl
      | false =>
        rw [cut_no hf] at y2
        by_cases hn : v2 < 0
        · rw [itoa_neg hn] at y2; cases y2
        · rw [itoa_nat hn] at y2; exact absurd y2.symm (dec_ne _)
    refine rdP_yes ho ?_
    rw [cut_yes hf, y1, y2]; rfl
  · intro hn
    refine rdP_no fun x z ho e => hn ?_
    obtain ⟨hx, hz⟩ := okP_num ho
    rw [e, cut_ptT] at h1 h2
    have e1 : b1 = true := by
      cases b1 with
      | true => rfl
      | false => exact absurd (tx_list _) (h1.no rfl x hx)
    have e2 : b2 = true := by
      cases b2 with
      | true => rfl
      | false => exact absurd (tx_list _) (h2.no rfl z hz)
    have i1 := itoa_inj ((tx_list _).symm.trans (h1.yes e1))
    have i2 := itoa_inj ((tx_list _).symm.trans (h2.yes e2))
    refine ⟨e1, e2, ?_⟩
    rw [← i1, ← i2]
    exact ho

end Go.Proofs.YtabdffponmmhoaaGreatDoor
namespace Go.Proofs.YtabdffponmmhoaaGreatDoor
open Go.RowKit
attribute [local go_sem] ExtOf.cell ExtOf.frozen

open Go.PlainAid
theorem sp_one {c : UInt8} : ∀ {l p : List UInt8}, sp c l = [p] → l = p
  | [], p, h => by simp only [sp, List.cons.injEq, and_true] at h; exact h
  | b :: l, p, h => by
    rw [sp] at h
    by_cases hb : b = c
    · rw [if_pos hb] at h
      exact absurd (List.cons.inj h).2 (sp_ne c l)
    · rw [if_neg hb] at h
      rcases hs : sp c l with _ | ⟨x, r⟩
      · exact absurd hs (sp_ne c l)
      · rw [hs] at h
        simp only [List.cons.injEq] at h
        rw [← h.1, sp_one (l := l) (p := x) (by rw [hs, h.2])]
theorem sp_pair {c : UInt8} : ∀ {l p q : List UInt8}, sp c l = [p, q] → l = p ++ c :: q
  | [], p, q, h => by simp [sp] at h
  | b :: l, p, q, h => by
    rw [sp] at h
    by_cases hb : b = c
    · rw [if_pos hb] at h
      simp only [List.cons.injEq] at h
      rw [← h.1, hb, sp_one h.2]
      rfl
    · rw [if_neg hb] at h
      rcases hs : sp c l with _ | ⟨x, r⟩
      · exact absurd hs (sp_ne c l)
      · rw [hs] at h
        simp only [List.cons.injEq] at h
        rw [← h.1, List.cons_append, ← sp_pair (l := l) (p := x) (q := q) (by rw [hs, h.2])]
theorem l_eqPoint_same (x z : Int) (w : World) : Calls Tryz.prog 76 #[.agg #[.int .i64 x, .int .i64 z], .agg #[.int .i64 x, .int .i64 z]] w fun e w' => e = .returned (.bool true) ∧ Ext w w' := by
  have := l_eqPoint x z x z w
  rwa [show eqP x z x z = true by simp [eqP]] at this
/-- both parts of a text hold numbers -/
theorem two_facts {l p q : List UInt8} {v1 v2 : Int} {b1 b2 : Bool} (hl : sp 58 l = [p, q]) (h1 : RdI (tx p) v1 b1) (h2 : RdI (tx q) v2 b2) :
    ((b1 = true ∧ b2 = true ∧ okP v1 v2 = true) → l = ptT v1 v2) ∧ (¬ (b1 = true ∧ b2 = true ∧ okP v1 v2 = true) → rdP l = none) := by
  constructor
  · rintro ⟨e1, e2, ho⟩
    have y1 := h1.yes e1
    have y2 := h2.yes e2
    rw [tx_list] at y1 y2
    rw [sp_pair hl, y1, y2]; rfl
  · intro hn
    refine rdP_no fun x z ho e => hn ?_
    have hb : (-9999999999999 ≤ x ∧ x ≤ 9999999999999) ∧ -9999999999999 ≤ z ∧ z ≤ 9999999999999 := by
      have := ho
      simp [okP, inB] at this
      omega
    rw [e, sp_ptT] at hl
    simp only [List.cons.injEq, and_true] at hl
    rw [← hl.1] at h1
    rw [← hl.2] at h2
    have e1 : b1 = true := by
      cases b1 with
      | true => rfl
      | false => exact absurd (tx_list _) (h1.no rfl x hb.1.1 hb.1.2)
    have e2 : b2 = true := by
      cases b2 with
      | true => rfl
      | false => exact absurd (tx_list _) (h2.no rfl z hb.2.1 hb.2.2)
    have i1 := itoa_inj ((tx_list _).symm.trans (h1.yes e1))
    have i2 := itoa_inj ((tx_list _).symm.trans (h2.yes e2))
    refine ⟨e1, e2, ?_⟩
    rw [← i1, ← i2]
    exact ho

end Go.Proofs.YtabdffponmmhoaaGreatDoor
