/- Contracts of the what every law over a list of points uses: its copy, its size, equality, walked over the translation. -/
import Derived.Test.YtjjhhclaapifbaaDoorC
import Derived.WalkLawsBesides
import Derived.WalkSpells
import Derived.Lib.MinMax
import Derived.Outline
namespace Go.Proofs.YtjjhhclaapifbaaDoor
open Go.RowKit
attribute [local go_sem] ExtOf.cell ExtOf.frozen



theorem len_encP : ∀ p, (encP p).length = 2 := fun _ => rfl
theorem ret_bool {a b : Bool} (h : a = b) : Ending.returned (.bool a) = .returned (.bool b) := by rw [h]
def eqPs (ps qs : List (Int × Int)) : Bool := decide (ps = qs)
theorem eqPs_false {ps qs : List (Int × Int)} {k : Nat} {h1 : k < ps.length} {h2 : k < qs.length} (h : (!eqP ps[k].1 ps[k].2 qs[k].1 qs[k].2) = true) : eqPs ps qs = false := by
  unfold eqPs
  rw [decide_eq_false_iff_not]
  rintro rfl
  simp [eqP] at h
theorem eqPs_len {ps qs : List (Int × Int)} (h : ¬ ps.length = qs.length) : eqPs ps qs = false := by
  unfold eqPs
  rw [decide_eq_false_iff_not]
  rintro rfl
  exact h rfl
theorem eqPs_succ {ps qs : List (Int × Int)} {k : Nat} {h1 : k < ps.length} {h2 : k < qs.length} (h : ps.take k = qs.take k) (he : (!eqP ps[k].1 ps[k].2 qs[k].1 qs[k].2) = false) : ps.take (k + 1) = qs.take (k + 1) := by
  have e : ps[k] = qs[k] := by simpa [eqP, Prod.ext_iff] using he
  rw [List.take_succ_eq_append_getElem h1, List.take_succ_eq_append_getElem h2, h, e]
theorem eqPs_end {ps qs : List (Int × Int)} {k : Nat} (h1 : ps.length ≤ k) (hn : ps.length = qs.length) (h : ps.take k = qs.take k) : eqPs ps qs = true := by
  rw [List.take_of_length_le h1, List.take_of_length_le (by omega)] at h
  simp [eqPs, h]
/-- what is left of a size -/
def szR (left n : Int) : Int := if left - n < 0 then -1 else left - n

end Go.Proofs.YtjjhhclaapifbaaDoor
