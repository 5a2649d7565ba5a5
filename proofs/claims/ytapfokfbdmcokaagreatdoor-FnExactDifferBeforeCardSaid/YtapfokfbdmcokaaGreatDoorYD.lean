/- A world handed to a function, in one word. -/
import Derived.Test.YtapfokfbdmcokaaGreatDoorYC
import Derived.Test.YtapfokfbdmcokaaGreatDoorZW
namespace Go.Proofs.YtapfokfbdmcokaaGreatDoor
open Go.RowKit
/-- a world handed to a function: its places and links read as they are told -/
structure WIn (w : World) (A A' : Option Addr) (n c m c' : Nat) (ps : List Pl) (L : List Lk) : Prop where
  sq : SlAt w 5 encQ A ps
  pl : Places w ps
  hn : n = ps.length
  hl : ps.length ≤ 1048576
  sk : SlAt w 4 encK A' L
  hm : m = L.length
  hl' : L.length ≤ 1048576
  cap : m ≤ c'
  lg : Links L
theorem WIn.ext {w w' : World} {A A' : Option Addr} {n c m c' : Nat} {ps : List Pl} {L : List Lk} (h : WIn w A A' n c m c' ps L) (hx : Ext w w') : WIn w' A A' n c m c' ps L :=
  ⟨h.sq.ext hx, h.pl.ext hx, h.hn, h.hl, h.sk.ext hx, h.hm, h.hl', h.cap, h.lg⟩
theorem WdAt.win {w : World} {lo hi b1 b2 n m : Nat} {ps : List Pl} {L : List Lk} (h : WdAt w lo hi ps L b1 b2) (hn : n = ps.length) (hl : n ≤ 1048576) (hm : m = L.length) (hl' : m ≤ 1048576) (hg : Links L) : WIn w (some ⟨b1, 0, none⟩) (some ⟨b2, 0, none⟩) n n m m ps L :=
  ⟨h.sq, h.pl, hn, by omega, h.sk, hm, by omega, Nat.le_refl _, hg⟩
section
variable {w : World} {A A' : Option Addr} {n c m c' : Nat} {ps : List Pl} {L : List Lk}
theorem i_IsWorldW (h : WIn w A A' n c m c' ps L) (hm : Mx w) : Calls Tryz.prog 74 #[.agg #[.slice A n c, .slice A' m c']] w fun e w' => e = .returned (.bool (wdB (psD ps) L)) ∧ Ext w w' :=
  i_IsWorld A A' n c m c' ps L w h.sq h.pl h.hn h.hl h.sk h.hm h.hl' h.cap h.lg hm
theorem s_IsWorldW (h : WIn w A A' n c m c' ps L) : Calls Tryz.prog 70 #[.agg #[.slice A n c, .slice A' m c']] w fun e w' => e = .returned (.bool (wdB (psD ps) L)) ∧ Ext w w' :=
  s_IsWorld A A' n c m c' ps L w h.sq h.pl h.hn h.hl h.sk h.hm h.hl' h.lg
end
end Go.Proofs.YtapfokfbdmcokaaGreatDoor
