/- Contracts of numbers and points as texts, walked over the translation. -/
import Derived.Test.YtjjhhclaapifbaaGreatDoorSh
import Derived.Test.YtjjhhclaapifbaaGreatDoorG0
import Derived.Deep.RegionHeld3
import Derived.Deep.DeepCutAuto
import Derived.RegionTactic
import Derived.BigRegion
import Derived.WalkLawsBesides
import Derived.WalkSpells
import Derived.Lib.MinMax
import Derived.Lib.SmallJoins
import Derived.Lib.ItoaLen
import Derived.Outline
namespace Go.Proofs.YtjjhhclaapifbaaGreatDoor
open Go.RowKit
attribute [local go_sem] ExtOf.cell ExtOf.frozen

/-- a text as bytes -/
def tx (l : List UInt8) : ByteArray := ⟨l.toArray⟩
theorem tx_add (a b : List UInt8) : tx a ++ tx b = tx (a ++ b) := by
  unfold tx
  ext1
  simp
theorem tx_size (l : List UInt8) : (tx l).size = l.length := by simp [tx, ByteArray.size]
/-- two texts may be joined -/
def Fit (a b : ByteArray) : Prop := (a.size + b.size > 9223372036854775807) = False
theorem fit_of {a b : List UInt8} (h : a.length + b.length ≤ 9223372036854775807) : Fit (tx a) (tx b) := by
  unfold Fit
  rw [tx_size, tx_size]
  exact eq_false (by omega)
theorem dec_len {n : Nat} (h : n ≤ 9223372036854775808) : (Lib.decDigits n).length ≤ 20 := by rw [Lib.decDigits_length]; exact Lib.nDigits_le20 n (by omega)
/-- the table of powers of ten is laid -/
abbrev Tab (w : World) : Prop := Lib.TabIs Tryz.prog w "internal/strconv.uint64pow10" .u64 Lib.pow10Tab
theorem ext_grow (w : World) (k : Nat) (os : Array Obj) : Ext w (Sort.grow (w.drewN k) os) :=
  ⟨rfl, rfl, rfl, by simp [Sort.grow, World.drewN], fun b hb => by
    show (w.heap ++ os)[b]? = w.heap[b]?
    rw [Array.getElem?_append_left hb]⟩
/-- a literal of one byte, made a text -/
theorem conv_one {W : World} {g : Nat} {z : Int} {x : UInt8} (hz : z = (x.toNat : Int)) (hc : W.cell? ⟨g, 0, none⟩ = some (.int .u8 z)) :
    (convert 143 9 (.slice (some ⟨g, 0, none⟩) 1 1)).run Tryz.prog W = .ok (.string (tx [x])) W := by
  subst hz
  refine run_convert_bytes_back (P := Tryz.prog) W _ _ _ ⟨g, 0, none⟩ 1 [x] Tryz.underlying143 Tryz.underlying5 Tryz.underlying9 fun j hj => ?_
  have : j = 0 := by simp at hj; omega
  subst this
  exact hc
theorem dig_nat {k : Nat} (h : k < 10) : 48 + (k : Int) = ((UInt8.ofNat (48 + k)).toNat : Int) := by
  rw [UInt8.toNat_ofNat']
  omega
theorem itoa_neg {n : Int} (h : n < 0) : Lib.itoa n = 45 :: Lib.decDigits n.natAbs := by unfold Lib.itoa; rw [if_pos h]
theorem itoa_nat {n : Int} (h : ¬ n < 0) : Lib.itoa n = Lib.decDigits n.natAbs := by
  unfold Lib.itoa
  rw [if_neg h]
  congr 1
  omega
theorem tx_cons (c : UInt8) (l : List UInt8) : (⟨#[c]⟩ : ByteArray) ++ tx l = tx (c :: l) := tx_add [c] l
/-- numbers that the texts of this set hold -/
def Num (n : Int) : Prop := -1000000000000000 ≤ n ∧ n ≤ 1000000000000000
theorem itoa_len {n : Int} (h : Num n) : (Lib.itoa n).length ≤ 21 := by unfold Num at h; exact Lib.itoa_length_le n (by omega) (by omega)
/-- the text of a point -/
def ptT (x z : Int) : List UInt8 := Lib.itoa x ++ 58 :: Lib.itoa z
theorem ptT_tx (x z : Int) : tx (Lib.itoa x) ++ (⟨#[58]⟩ : ByteArray) ++ tx (Lib.itoa z) = tx (ptT x z) := by
  rw [show (⟨#[58]⟩ : ByteArray) = tx [58] from rfl, tx_add, tx_add]
  unfold ptT
  rw [List.append_assoc]; rfl
theorem ptT_len {x z : Int} (hx : Num x) (hz : Num z) : (ptT x z).length ≤ 43 := by
  have h1 := itoa_len hx
  have h2 := itoa_len hz
  unfold ptT
  rw [List.length_append, List.length_cons]
  omega
theorem okP_num {x z : Int} (h : okP x z = true) : Num x ∧ Num z := by
  simp [okP, inB] at h
  unfold Num
  omega
/-- what PointText returns -/
def ptR (x z : Int) : List UInt8 := if okP x z = true then ptT x z else []
def ptC (x z : Int) : Int := if okP x z = true then 0 else 1

end Go.Proofs.YtjjhhclaapifbaaGreatDoor
