/- From a row's listed variables to what a walk takes of them. -/
import Derived.Test.YtabdffponmmhoaaGreatDoorK
import Derived.Test.YtabdffponmmhoaaGreatDoorGT
import Derived.Lib.LaidTab
import Derived.LaidMore
import Derived.Lay
import Derived.Stop.Joined
namespace Go.Proofs.YtabdffponmmhoaaGreatDoor
open Go.RowKit
theorem laid_at {P : Program} {W : World} {name : String} {d : DataW Unit} : ∀ {L : List (String × DataW Unit)} {ps : List MemPlace}, DataW.LaidVars P W L ps → (name, d) ∈ L →
    ∃ rest qs, DataW.LaidVars P W ((name, d) :: rest) qs
  | [], _, _, hm => by cases hm
  | x :: rest, ps, h, hm => by
    rcases List.mem_cons.1 hm with e | e
    · subst e; exact ⟨rest, ps, h⟩
    · obtain ⟨g, t, cs, fuel, p, q, _, _, _, _, hq, _⟩ := h
      exact laid_at hq e
theorem tab_of_laid {W : World} {L : List (String × DataW Unit)} (h : laidMet Tryz.prog L W) (hm : ("internal/strconv.uint64pow10", (Rows.laid_internal_strconv_uint64pow10 : DataW Unit)) ∈ L) : Tab W := by
  obtain ⟨ps, hv, _⟩ := h
  obtain ⟨rest, qs, g, t, cs, fuel, p, q, hg, ht, hvar, hd, _, _⟩ := laid_at hv hm
  obtain rfl := Option.some.inj ((show Tryz.prog.globalNamed "internal/strconv.uint64pow10" = some 3 by kernel_rfl).symm.trans hg)
  obtain rfl := Option.some.inj ((show (Tryz.prog.globals[3]?).map (·.type) = some 222 by kernel_rfl).symm.trans ht)
  unfold Tab Lib.TabIs
  have hd' : DataW.trod (fun _ => ()) Tryz.prog W 0 (fun _ => true) false fuel 222 cs.toList = some (Lib.tabData .u64 Lib.pow10Tab, p) := by
    rw [show (Lib.tabData .u64 Lib.pow10Tab : DataW Unit) = Rows.laid_internal_strconv_uint64pow10 by kernel_rfl]
    exact hd
  rw [hvar, ← Lib.cells_of_tab Tryz.underlying222 Tryz.underlying175 (by kernel_rfl) (by kernel_rfl) hd']
end Go.Proofs.YtabdffponmmhoaaGreatDoor
