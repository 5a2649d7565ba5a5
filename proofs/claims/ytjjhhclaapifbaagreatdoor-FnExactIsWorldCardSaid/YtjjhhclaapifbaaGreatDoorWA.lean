/- Spans, names and links: what they are, and the specification's words for them. -/
import Derived.Test.YtjjhhclaapifbaaGreatDoorTS
import Derived.Test.YtjjhhclaapifbaaGreatDoorTB
import Derived.Test.YtjjhhclaapifbaaGreatDoorHA
import Derived.Deep.RegionHeld3
import Derived.Deep.DeepCutAuto
import Derived.RegionTactic
import Derived.BigRegion
import Derived.WalkLawsBesides
import Derived.WalkSpells
import Derived.Lib.MinMax
import Derived.Outline
namespace Go.Proofs.YtjjhhclaapifbaaGreatDoor
open Go.RowKit
attribute [local go_sem] ExtOf.cell ExtOf.frozen

theorem upTo1 {P : Nat → Prop} {k : Nat} (h : ∀ j, j < k → P j) (hk : P k) : ∀ j, j < k + 1 → P j := fun j hj => by
  rcases Nat.lt_or_ge j k with e | e
  · exact h j e
  · have : j = k := by omega
    exact this ▸ hk
theorem tx_toL (l : List UInt8) : (tx l).toList = l := by rw [ByteArray.toList_eq, tx_list]
/-- a span of years -/
def spB (a b : Int) : Bool := inB a (-3000) 3000 && inB b (-3000) 3000 && decide (a ≤ b)
theorem spB_iff {a b : Int} : spB a b = true ↔ -3000 ≤ a ∧ a ≤ b ∧ b ≤ 3000 := by simp [spB, inB]; omega

set_option maxHeartbeats 3200000 in
theorem s_l02Year (x : Int) (w : World) : Calls Tryz.prog 80 #[.int .i64 x] w fun e w' => e = .returned (.bool (inB x (-3000) 3000)) ∧ w = w' := by
  go_enter Tryz.func80, Tryz.ntmps80
  go_wp2_with (first | (go_at_call 123; refine (l01In_any _ _ _ _).mono ?_; rintro e w' ⟨rfl, rfl⟩))
  go_ret
  exact ⟨rfl, rfl⟩
set_option maxHeartbeats 3200000 in
theorem s_IsSpan (a b : Int) (w : World) : Calls Tryz.prog 164 #[.agg #[.int .i64 a, .int .i64 b]] w fun e w' => e = .returned (.bool (spB a b)) ∧ Ext w w' := by
  go_enter Tryz.func164, Tryz.ntmps164
  go_wp2_with (first | (go_at_call 80; refine (s_l02Year _ _).mono ?_; rintro e w' ⟨rfl, rfl⟩))
  all_goals go_ret
  all_goals refine ⟨ret_bool' ?_, by (repeat (first | with_reducible exact Ext.refl _ | with_reducible assumption | ((with_reducible apply Src.ext); with_reducible assumption) | with_reducible refine Ext.alloc ?_ _ | with_reducible refine Ext.drew ?_ | with_reducible refine Ext.drewN ?_ _ | ((with_reducible refine Ext.setCell' ?_ ?_ _); solve | omega | simp | (simp; omega)) | (with_reducible refine Ext.trans ?_ (by with_reducible assumption))))⟩
  all_goals (try simp only [Bool.not_eq_true', Bool.not_eq_false'] at *)
  all_goals (simp [spB, *])
set_option maxHeartbeats 3200000 in
theorem s_l02Meet (a b c d : Int) (w : World) : Calls Tryz.prog 112 #[.agg #[.int .i64 a, .int .i64 b], .agg #[.int .i64 c, .int .i64 d]] w fun e w' => e = .returned (.bool (meetB a b c d)) ∧ Ext w w' := by
  go_enter Tryz.func112, Tryz.ntmps112
  go_wp2
  all_goals go_ret
  all_goals refine ⟨ret_bool' ?_, by (repeat (first | with_reducible exact Ext.refl _ | with_reducible assumption | ((with_reducible apply Src.ext); with_reducible assumption) | with_reducible refine Ext.alloc ?_ _ | with_reducible refine Ext.drew ?_ | with_reducible refine Ext.drewN ?_ _ | ((with_reducible refine Ext.setCell' ?_ ?_ _); solve | omega | simp | (simp; omega)) | (with_reducible refine Ext.trans ?_ (by with_reducible assumption))))⟩
  all_goals (try simp only [Bool.not_eq_true', Bool.not_eq_false'] at *)
  all_goals (first | (simp [meetB, *]; done) | (simp [meetB]; omega))

/-- a name: text, language, status, first year, last year -/
abbrev Nm := List UInt8 × List UInt8 × Int × Int × Int
def nmD : Nm := ([], [], 0, 0, 0)
def encN (n : Nm) : List Value := [.string (tx n.1), .string (tx n.2.1), .int .i64 n.2.2.1, .int .i64 n.2.2.2.1, .int .i64 n.2.2.2.2]
theorem len_encN : ∀ n, (encN n).length = 5 := fun _ => rfl
theorem one_encN : ∀ p, ∀ u ∈ encN p, u.oneCell' = true := by
  intro p u hu
  simp [encN] at hu
  rcases hu with rfl | rfl | rfl | rfl | rfl <;> rfl
/-- no text of a name is long -/
def GoodN (n : Nm) : Prop := n.1.length ≤ 1048576 ∧ n.2.1.length ≤ 1048576
def nmB (n : Nm) : Bool := phB n.1 && smL n.2.1 2 3 && inB n.2.2.1 0 2 && spB n.2.2.2.1 n.2.2.2.2
def clB (a b : Nm) : Bool := decide (a.2.2.1 = 0) && decide (b.2.2.1 = 0) && (a.2.1 == b.2.1) && meetB a.2.2.2.1 a.2.2.2.2 b.2.2.2.1 b.2.2.2.2
def okN (L : List Nm) (j : Nat) : Bool := nmB (L.getD j nmD) && (List.range j).all fun q => !clB (L.getD j nmD) (L.getD q nmD)
def nsB (L : List Nm) : Bool := ((List.range L.length).all fun j => okN L j) && decide (L.length ≤ 12)
theorem okN_iff {L : List Nm} {j : Nat} : okN L j = true ↔ nmB (L.getD j nmD) = true ∧ ∀ q, q < j → clB (L.getD j nmD) (L.getD q nmD) = false := by
  simp [okN]
theorem nsB_iff {L : List Nm} : nsB L = true ↔ (∀ j, j < L.length → okN L j = true) ∧ L.length ≤ 12 := by
  simp [nsB]
theorem nsB_no {L : List Nm} {j : Nat} (hj : j < L.length) (h : okN L j = false) : nsB L = false := by
  cases e : nsB L with
  | false => rfl
  | true => rw [(nsB_iff.1 e).1 j hj] at h; cases h
theorem okN_no {L : List Nm} {j : Nat} (h : nmB (L.getD j nmD) = false) : okN L j = false := by unfold okN; rw [h, Bool.false_and]
theorem okN_cl {L : List Nm} {j q : Nat} (hq : q < j) (h : clB (L.getD j nmD) (L.getD q nmD) = true) : okN L j = false := by
  cases e : okN L j with
  | false => rfl
  | true => rw [(okN_iff.1 e).2 q hq] at h; cases h
theorem SlAt.nm {w : World} {A : Option Addr} {ns : List Nm} (h : SlAt w 5 encN A ns) {k : Nat} (hk : k < ns.length) :
    ∃ b off, A = some ⟨b, off, none⟩ ∧ b < w.heap.size ∧ w.cell? ⟨b, off + k * 5, none⟩ = some (.string (tx (ns.getD k nmD).1)) ∧
      w.cell? ⟨b, off + k * 5 + 1, none⟩ = some (.string (tx (ns.getD k nmD).2.1)) ∧ w.cell? ⟨b, off + k * 5 + 2, none⟩ = some (.int .i64 (ns.getD k nmD).2.2.1) ∧
      w.cell? ⟨b, off + k * 5 + 3, none⟩ = some (.int .i64 (ns.getD k nmD).2.2.2.1) ∧ w.cell? ⟨b, off + k * 5 + 4, none⟩ = some (.int .i64 (ns.getD k nmD).2.2.2.2) := by
  obtain ⟨b, off, e, hb, hc⟩ := h (by omega)
  have hg : ns[k]? = some (ns.getD k nmD) := by simp [List.getD, hk]
  exact ⟨b, off, e, hb, by simpa using hc k _ hg 0 _ rfl, hc k _ hg 1 _ rfl, hc k _ hg 2 _ rfl, hc k _ hg 3 _ rfl, hc k _ hg 4 _ rfl⟩
theorem SlAt.nm' {w : World} {b off : Nat} {ns : List Nm} (h : SlAt w 5 encN (some ⟨b, off, none⟩) ns) {k : Nat} (hk : k < ns.length) :
    w.cell? ⟨b, off + k * 5, none⟩ = some (.string (tx (ns.getD k nmD).1)) ∧
      w.cell? ⟨b, off + k * 5 + 1, none⟩ = some (.string (tx (ns.getD k nmD).2.1)) ∧ w.cell? ⟨b, off + k * 5 + 2, none⟩ = some (.int .i64 (ns.getD k nmD).2.2.1) ∧
      w.cell? ⟨b, off + k * 5 + 3, none⟩ = some (.int .i64 (ns.getD k nmD).2.2.2.1) ∧ w.cell? ⟨b, off + k * 5 + 4, none⟩ = some (.int .i64 (ns.getD k nmD).2.2.2.2) := by
  obtain ⟨b', off', e, _, h0⟩ := h.nm hk
  injection e with e
  injection e with e1 e2
  subst e1 e2
  exact h0

set_option maxHeartbeats 3200000 in
theorem s_IsName (t l : ByteArray) (s a b : Int) (w : World) (h1 : t.size ≤ 1048576) (h2 : l.size ≤ 1048576) :
    Calls Tryz.prog 192 #[.agg #[.string t, .string l, .int .i64 s, .int .i64 a, .int .i64 b]] w fun e w' => e = .returned (.bool (phB t.data.toList && smL l.data.toList 2 3 && inB s 0 2 && spB a b)) ∧ Ext w w' := by
  go_enter Tryz.func192, Tryz.ntmps192
  go_wp2_with (first | (go_at_call 123; refine (l01In_any _ _ _ _).mono ?_; rintro e w' ⟨rfl, rfl⟩) | (go_at_call 224; refine (s_IsPhrase _ _ (by omega)).mono ?_; rintro e w1 ⟨rfl, hx1⟩; obtain ⟨hc1, hf1⟩ := hx1.rules; have hs1 := hx1.size; (try simp at hs1); have := (show w.heap.size < w1.heap.size from by omega)) | (go_at_call 141; refine (s_l09Language _ _ (by omega)).mono ?_; rintro e w2 ⟨rfl, hx2⟩; obtain ⟨hc2, hf2⟩ := hx2.rules; have hs2 := hx2.size; (try simp at hs2); have := (show w.heap.size < w2.heap.size from by omega)) | (go_at_call 164; refine (s_IsSpan _ _ _).mono ?_; rintro e w3 ⟨rfl, hx3⟩; obtain ⟨hc3, hf3⟩ := hx3.rules; have hs3 := hx3.size; (try simp at hs3); have := (show w.heap.size < w3.heap.size from by omega)))
  all_goals go_ret
  all_goals refine ⟨ret_bool' ?_, by (repeat (first | with_reducible exact Ext.refl _ | with_reducible assumption | ((with_reducible apply Src.ext); with_reducible assumption) | with_reducible refine Ext.alloc ?_ _ | with_reducible refine Ext.drew ?_ | with_reducible refine Ext.drewN ?_ _ | ((with_reducible refine Ext.setCell' ?_ ?_ _); solve | omega | simp | (simp; omega)) | (with_reducible refine Ext.trans ?_ (by with_reducible assumption))))⟩
  all_goals (try simp only [Bool.not_eq_true', Bool.not_eq_false'] at *)
  all_goals (try simp [*])
end Go.Proofs.YtjjhhclaapifbaaGreatDoor
