/- From a row's listed variables to what the reading of numbers takes of the world. -/
import Derived.Test.YtabdffponmmhoaaGreatDoorKT
import Derived.Test.YtabdffponmmhoaaGreatDoorKS
import Derived.Test.YtabdffponmmhoaaGreatDoorT3
import Derived.LaidLaws
namespace Go.Proofs.YtabdffponmmhoaaGreatDoor
open Go.RowKit
theorem iface_of_laid {P : Program} {W : World} {L : List (String × DataW Unit)} {name nm : String} {d : DataW Unit} {g : Nat} {t : TypeId} {ms : Array (String × TypeId)}
    (h : laidMet P L W) (hm : (name, .iface nm d) ∈ L) (hg : P.globalNamed name = some g) (ht : (P.globals[g]?).map (·.type) = some t) (hi : P.underlying t = some (.interface ms)) : IfaceAt g W := by
  obtain ⟨ps, hv, _⟩ := h
  obtain ⟨rest, qs, g', t', cs, fuel, p, q, hg', ht', hvar, hd, _, _⟩ := laid_at hv hm
  obtain rfl := Option.some.inj (hg.symm.trans hg')
  obtain rfl := Option.some.inj (ht.symm.trans ht')
  obtain ⟨_, u, v, hc, _, _⟩ := iface_of_trod hi hd
  obtain rfl : cs = #[.iface u v] := by cases cs; simpa using hc
  exact ⟨.iface u v, by simpa using World.var?_cell hg hvar 0, .inr ⟨u, v, rfl⟩⟩
theorem Ld.of_row {W : World} {L : List (String × DataW Unit)} (h : W.ShapedOpen Tryz.prog) (hl : laidMet Tryz.prog L W) (hm : ("internal/strconv.uint64pow10", (Rows.laid_internal_strconv_uint64pow10 : DataW Unit)) ∈ L)
    (h1 : ("strconv.ErrSyntax", (Rows.laid_strconv_ErrSyntax : DataW Unit)) ∈ L) (h2 : ("strconv.ErrRange", (Rows.laid_strconv_ErrRange : DataW Unit)) ∈ L) : Ld W :=
  ⟨tab_of_laid hl hm, mx_of_shaped h,
    iface_of_laid hl h1 (by kernel_rfl) (t := 107) (by kernel_rfl) Tryz.underlying107,
    iface_of_laid hl h2 (by kernel_rfl) (t := 107) (by kernel_rfl) Tryz.underlying107⟩
end Go.Proofs.YtabdffponmmhoaaGreatDoor
