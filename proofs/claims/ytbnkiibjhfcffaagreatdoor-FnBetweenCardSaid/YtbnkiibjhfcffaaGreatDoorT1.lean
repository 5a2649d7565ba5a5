/- Contracts of changes, walked over the translation. The law of IsChange, walked over the translation. Contracts of ChangeText, walked over the translation. Plain laws of numbers as texts: a numeral, read back; a text cut at a byte. Contracts of numbers read, walked over the translation. Contracts of points read, walked over the translation. Reading a point: the specification and the law, walked over the translation. Plain laws of texts that are joined and split again; of the text of a change. Contracts of changes read, walked over the translation. Reading a change, walked over the translation: plain laws, the specification. -/
import Derived.Test.YtbnkiibjhfcffaaGreatDoorGT
import Derived.Deep.RegionHeld3
import Derived.Deep.DeepCutAuto
import Derived.RegionTactic
import Derived.BigRegion
import Derived.WalkLawsBesides
import Derived.WalkSpells
import Derived.Lib.MinMax
import Derived.Outline
import Derived.Lib.ParseIntBCases
import Derived.Lib.IndexMore
import Derived.Test.YtbnkiibjhfcffaaGreatDoorG0
namespace Go.Proofs.YtbnkiibjhfcffaaGreatDoor
open Go.RowKit
attribute [local go_sem] ExtOf.cell ExtOf.frozen

end Go.Proofs.YtbnkiibjhfcffaaGreatDoor

namespace Go.Proofs.YtbnkiibjhfcffaaGreatDoor
open Go.RowKit
attribute [local go_sem] ExtOf.cell ExtOf.frozen

end Go.Proofs.YtbnkiibjhfcffaaGreatDoor

namespace Go.Proofs.YtbnkiibjhfcffaaGreatDoor
open Go.RowKit
attribute [local go_sem] ExtOf.cell ExtOf.frozen

end Go.Proofs.YtbnkiibjhfcffaaGreatDoor

namespace Go.Proofs.YtbnkiibjhfcffaaGreatDoor
open Go.Lib (decDigits itoa parseUintM parseUintB parseIntB NumEnd cut index)

theorem sp_free {c : UInt8} : ∀ {l : List UInt8}, c ∉ l → sp c l = [l]
  | [], _ => rfl
  | b :: l, h => by
    simp only [List.mem_cons, not_or] at h
    rw [sp, if_neg (fun e => h.1 e.symm), sp_free h.2]
theorem sp_cut {c : UInt8} : ∀ {a : List UInt8} (b : List UInt8), c ∉ a → sp c (a ++ c :: b) = a :: sp c b
  | [], b, _ => by rw [List.nil_append, sp, if_pos rfl]
  | x :: a, b, h => by
    simp only [List.mem_cons, not_or] at h
    rw [List.cons_append, sp, if_neg (fun e => h.1 e.symm), sp_cut b h.2]
end Go.Proofs.YtbnkiibjhfcffaaGreatDoor

namespace Go.Proofs.YtbnkiibjhfcffaaGreatDoor
open Go.RowKit
attribute [local go_sem] ExtOf.cell ExtOf.frozen

open Go.PlainAid
/-- a numeral without a sign, read -/
structure RdN (s : ByteArray) (v : Nat) (b : Bool) : Prop where
  le : v ≤ 9999999999999
  yes : b = true → s.data.toList = Lib.decDigits v
  no : b = false → ∀ n : Nat, n ≤ 9999999999999 → s.data.toList ≠ Lib.decDigits n
/-- a numeral, read -/
structure RdI (s : ByteArray) (v : Int) (b : Bool) : Prop where
  lo : -9999999999999 ≤ v
  hi : v ≤ 9999999999999
  yes : b = true → s.data.toList = Lib.itoa v
  no : b = false → ∀ n : Int, -9999999999999 ≤ n → n ≤ 9999999999999 → s.data.toList ≠ Lib.itoa n
end Go.Proofs.YtbnkiibjhfcffaaGreatDoor

namespace Go.Proofs.YtbnkiibjhfcffaaGreatDoor
open Go.RowKit
attribute [local go_sem] ExtOf.cell ExtOf.frozen

open Go.PlainAid
/-- a variable of an interface's type -/
def IfaceAt (g : Nat) (w : World) : Prop := ∃ ev, w.cell? ⟨g, 0, none⟩ = some ev ∧ (ev = .nilIface ∨ ∃ te pe, ev = .iface te pe)
theorem IfaceAt.ext {g : Nat} {w w' : World} (h : IfaceAt g w) (hx : Ext w w') : IfaceAt g w' := by
  obtain ⟨m, hm, h2⟩ := h
  exact ⟨m, (hx.cell _ _ (World.block_lt_of_cell? _ _ hm)).trans hm, h2⟩
/-- a numeral, read by the library -/
structure RdJ (s : ByteArray) (v : Int) (b : Bool) : Prop where
  lo : -9223372036854775808 ≤ v
  hi : v ≤ 9223372036854775807
  yes : b = true → s.data.toList = Lib.itoa v
  no : b = false → ∀ n : Int, Num n → s.data.toList ≠ Lib.itoa n
end Go.Proofs.YtbnkiibjhfcffaaGreatDoor

namespace Go.Proofs.YtbnkiibjhfcffaaGreatDoor
open Go.RowKit
attribute [local go_sem] ExtOf.cell ExtOf.frozen

open Go.PlainAid
end Go.Proofs.YtbnkiibjhfcffaaGreatDoor

namespace Go.Proofs.YtbnkiibjhfcffaaGreatDoor

theorem jn_two (x y : List UInt8) (r : List (List UInt8)) (c : UInt8) : jn (x :: y :: r) [c] = x ++ c :: jn (y :: r) [c] := by
  show Lib.join (x :: y :: r) [c] = x ++ c :: Lib.join (y :: r) [c]
  rw [Lib.join_cons, Lib.join_cons]
  unfold Lib.joinTail
  simp
/-- words without the byte between them: joined, then split: the words -/
theorem sp_jn {c : UInt8} : ∀ {L : List (List UInt8)}, L ≠ [] → (∀ x ∈ L, c ∉ x) → sp c (jn L [c]) = L
  | [], h, _ => absurd rfl h
  | [x], _, h => by
    rw [show jn [x] [c] = x from Lib.join_one x [c]]
    exact sp_free (h x (List.mem_singleton.2 rfl))
  | x :: y :: r, _, h => by
    rw [jn_two, sp_cut _ (h x (List.mem_cons_self ..)), sp_jn (by simp) fun z hz => h z (List.mem_cons_of_mem _ hz)]
/-- a change's six fields -/
structure Chg where
  y : Int
  k : Int
  co : ByteArray
  ot : ByteArray
  la : ByteArray
  te : ByteArray
end Go.Proofs.YtbnkiibjhfcffaaGreatDoor

namespace Go.Proofs.YtbnkiibjhfcffaaGreatDoor
open Go.RowKit
attribute [local go_sem] ExtOf.cell ExtOf.frozen

open Go.PlainAid
end Go.Proofs.YtbnkiibjhfcffaaGreatDoor

namespace Go.Proofs.YtbnkiibjhfcffaaGreatDoor
open Go.RowKit
attribute [local go_sem] ExtOf.cell ExtOf.frozen

open Go.PlainAid
end Go.Proofs.YtbnkiibjhfcffaaGreatDoor
