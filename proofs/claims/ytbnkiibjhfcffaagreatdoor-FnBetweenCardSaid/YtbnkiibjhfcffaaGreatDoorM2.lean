/- Contracts of the laws over lists of places, walked over the translation. Contracts of the laws over worlds, walked over the translation. A world handed to a function, in one word. -/
import Derived.Test.YtbnkiibjhfcffaaGreatDoorZA
import Derived.Test.YtbnkiibjhfcffaaGreatDoorGV
import Derived.Test.YtbnkiibjhfcffaaGreatDoorM1
import Derived.Test.YtbnkiibjhfcffaaGreatDoorK1
import Derived.Deep.RegionHeld3
import Derived.Deep.DeepCutAuto
import Derived.RegionTactic
import Derived.BigRegion
import Derived.WalkLawsBesides
import Derived.WalkSpells
import Derived.Lib.MinMax
import Derived.Outline
import Derived.Test.YtbnkiibjhfcffaaGreatDoorW1
namespace Go.Proofs.YtbnkiibjhfcffaaGreatDoor
open Go.RowKit
attribute [local go_sem] ExtOf.cell ExtOf.frozen

theorem getD_snoc {α : Type} {xs : List α} {x d : α} {k : Nat} (hk : k < xs.length + 1) : (xs ++ [x]).getD k d = if k < xs.length then xs.getD k d else x := by
  split
  · rename_i h
    simp [List.getD, List.getElem?_append_left h]
  · obtain rfl : k = xs.length := by omega
    simp [List.getD]
/-- nothing of a place is long -/
def GoodQ (p : Pl) : Prop := p.1.length ≤ 1048576 ∧ p.2.2.2.2.2.2.length ≤ 1048576 ∧ Names p.2.2.2.2.2.2
/-- places whose names lie in blocks of the call's own, one behind the other -/
def blkQ (v : Pl) : Nat := match v.2.2.2.2.1 with
  | some q => q.block
  | none => 0
def PlOwn (w : World) (base : Nat) (vs : List Pl) : Prop := ∀ k, k < vs.length → ∃ g cs, (vs.getD k plD).2.2.2.2.1 = some ⟨g, 0, none⟩ ∧ (vs.getD k plD).2.2.2.2.2.1 = (vs.getD k plD).2.2.2.2.2.2.length ∧ base < g ∧ Blk w g 87 cs ∧
  cs.toList = (vs.getD k plD).2.2.2.2.2.2.flatMap encN ∧ (∀ j, j < k → blkQ (vs.getD j plD) < g) ∧ GoodQ (vs.getD k plD)
theorem PlOwn.mono {w w' : World} {base : Nat} {vs : List Pl} (h : PlOwn w base vs) (hb : ∀ g t cs, base < g → Blk w g t cs → Blk w' g t cs) : PlOwn w' base vs := fun k hk => by
  obtain ⟨g, cs, a, a', b, c, d⟩ := h k hk
  exact ⟨g, cs, a, a', b, hb g _ cs b c, d⟩
theorem PlOwn.ext {w w' : World} {base : Nat} {vs : List Pl} (h : PlOwn w base vs) (hx : Ext w w') : PlOwn w' base vs := h.mono fun _ _ _ _ hB => hB.ext hx
theorem PlOwn.snoc {w : World} {base g : Nat} {cs : Array Value} {vs : List Pl} {v : Pl} (h : PlOwn w base vs) (hg : base < g) (hv : v.2.2.2.2.1 = some ⟨g, 0, none⟩) (hv2 : v.2.2.2.2.2.1 = v.2.2.2.2.2.2.length) (hB : Blk w g 87 cs) (hcs : cs.toList = v.2.2.2.2.2.2.flatMap encN) (hlt : ∀ j, j < vs.length → blkQ (vs.getD j plD) < g)
    (hG : GoodQ v) : PlOwn w base (vs ++ [v]) := fun k hk => by
  rw [List.length_append, List.length_singleton] at hk
  rw [getD_snoc hk]
  split
  · rename_i hkl
    obtain ⟨g', cs', a, a', b, c, d, e, f⟩ := h k hkl
    exact ⟨g', cs', a, a', b, c, d, fun j hj => by rw [getD_snoc (by omega), if_pos (by omega)]; exact e j hj, f⟩
  · obtain rfl : k = vs.length := by omega
    exact ⟨g, cs, hv, hv2, hg, hB, hcs, fun j hj => by rw [getD_snoc (by omega), if_pos hj]; exact hlt j hj, hG⟩
theorem PlOwn.places {w : World} {base : Nat} {vs : List Pl} (h : PlOwn w base vs) : Places w vs := fun v hv => by
  obtain ⟨k, hk, rfl⟩ := List.mem_iff_getElem.1 hv
  obtain ⟨g, cs, a, a', b, c, d, e, f⟩ := h k hk
  have hge : vs.getD k plD = vs[k] := by simp [List.getD, hk]
  rw [hge] at a a' d f
  refine ⟨?_, ?_, f⟩
  · rw [a]; exact c.sl d len_encN
  · rw [a']; exact Nat.le_refl _
/-- the first elements of a row of places have been written -/
def FillQ (n : Nat) (vs : List Pl) (cs : Array Value) : Prop := cs.size = n * 5 ∧ ∀ j, j < vs.length * 5 → cs[j]? = (vs.flatMap encQ)[j]?
theorem FillQ.step {n : Nat} {vs : List Pl} {cs : Array Value} {v : Pl} (h : FillQ n vs cs) (hl : vs.length < n) :
    FillQ n (vs ++ [v]) (((((cs.setIfInBounds (vs.length * 5) (.string (tx v.1))).setIfInBounds (vs.length * 5 + 1) (.int .i64 v.2.1)).setIfInBounds (vs.length * 5 + 2) (.int .i64 v.2.2.1)).setIfInBounds (vs.length * 5 + 3) (.int .i64 v.2.2.2.1)).setIfInBounds (vs.length * 5 + 4) (.slice v.2.2.2.2.1 v.2.2.2.2.2.2.length v.2.2.2.2.2.1)) := by
  have hs := h.1
  have hlen := flatMap_len len_encQ vs
  refine ⟨by simpa using h.1, fun j hj => ?_⟩
  rw [List.flatMap_append]
  by_cases e : j < vs.length * 5
  · rw [Array.getElem?_setIfInBounds_ne (by omega), Array.getElem?_setIfInBounds_ne (by omega), Array.getElem?_setIfInBounds_ne (by omega), Array.getElem?_setIfInBounds_ne (by omega), Array.getElem?_setIfInBounds_ne (by omega), List.getElem?_append_left (by omega)]
    exact h.2 j e
  · rw [List.length_append, List.length_singleton] at hj
    rw [List.getElem?_append_right (by omega), hlen]
    obtain ⟨i, rfl⟩ : ∃ i, j = vs.length * 5 + i := ⟨j - vs.length * 5, by omega⟩
    rw [show vs.length * 5 + i - vs.length * 5 = i by omega]
    rcases (show i = 0 ∨ i = 1 ∨ i = 2 ∨ i = 3 ∨ i = 4 by omega) with rfl | rfl | rfl | rfl | rfl
    · rw [Array.getElem?_setIfInBounds_ne (by omega), Array.getElem?_setIfInBounds_ne (by omega), Array.getElem?_setIfInBounds_ne (by omega), Array.getElem?_setIfInBounds_ne (by omega), Nat.add_zero, Array.getElem?_setIfInBounds_self_of_lt (by omega)]; rfl
    · rw [Array.getElem?_setIfInBounds_ne (by omega), Array.getElem?_setIfInBounds_ne (by omega), Array.getElem?_setIfInBounds_ne (by omega), Array.getElem?_setIfInBounds_self_of_lt (by simp; omega)]; rfl
    · rw [Array.getElem?_setIfInBounds_ne (by omega), Array.getElem?_setIfInBounds_ne (by omega), Array.getElem?_setIfInBounds_self_of_lt (by simp; omega)]; rfl
    · rw [Array.getElem?_setIfInBounds_ne (by omega), Array.getElem?_setIfInBounds_self_of_lt (by simp; omega)]; rfl
    · rw [Array.getElem?_setIfInBounds_self_of_lt (by simp; omega)]; rfl
theorem FillQ.done {vs : List Pl} {cs : Array Value} (h : FillQ vs.length vs cs) : cs.toList = vs.flatMap encQ := by
  apply List.ext_getElem?
  intro j
  rcases Nat.lt_or_ge j (vs.length * 5) with hj | hj
  · rw [Array.getElem?_toList]; exact h.2 j hj
  · rw [List.getElem?_eq_none (by rw [Array.length_toList, h.1]; exact hj), List.getElem?_eq_none (by rw [flatMap_len len_encQ]; exact hj)]
/-- the names' slices in a row of places -/
def KeepQ (vs : List Pl) (cs : Array Value) : Prop := cs.size = vs.length * 5 ∧ ∀ q, q < vs.length → cs[q * 5 + 4]? = some (.slice (vs.getD q plD).2.2.2.2.1 (vs.getD q plD).2.2.2.2.2.2.length (vs.getD q plD).2.2.2.2.2.1)
theorem KeepQ.start {vs : List Pl} {cs : Array Value} (h : cs.toList = vs.flatMap encQ) : KeepQ vs cs := by
  refine ⟨?_, fun q hq => ?_⟩
  · rw [← Array.length_toList, h, flatMap_len len_encQ]
  · rw [← Array.getElem?_toList, h]
    exact flatMap_at (enc := encQ) (sz := 5) len_encQ vs q _ 4 _ (by simp [List.getD, hq]) rfl
theorem KeepQ.step {vs : List Pl} {cs : Array Value} {j i : Nat} {u : Value} (h : KeepQ vs cs) (hi : i < 4) : KeepQ vs (cs.setIfInBounds (j * 5 + i) u) := by
  refine ⟨by simpa using h.1, fun q hq => ?_⟩
  rw [Array.getElem?_setIfInBounds_ne (by omega)]
  exact h.2 q hq
end Go.Proofs.YtbnkiibjhfcffaaGreatDoor

namespace Go.Proofs.YtbnkiibjhfcffaaGreatDoor
open Go.RowKit
attribute [local go_sem] ExtOf.cell ExtOf.frozen

/-- a world that a call has made, between two bounds of memory -/
structure WdAt (w : World) (lo hi : Nat) (ps : List Pl) (L : List Lk) (b1 b2 : Nat) : Prop where
  flo : lo ≤ b1
  fmid : b1 < b2
  fhi : b2 < hi
  ftop : hi ≤ w.heap.size
  pb : ∃ cs, Blk w b1 51 cs ∧ cs.toList = ps.flatMap encQ
  own : PlOwn w b1 ps
  nm : ∀ j, j < ps.length → blkQ (ps.getD j plD) < b2
  lb : ∃ cs, Blk w b2 80 cs ∧ cs.toList = L.flatMap encK
section
variable {w w' : World} {lo hi b1 b2 : Nat} {ps : List Pl} {L : List Lk}
theorem WdAt.ext (h : WdAt w lo hi ps L b1 b2) (hx : Ext w w') : WdAt w' lo hi ps L b1 b2 :=
  ⟨h.flo, h.fmid, h.fhi, Nat.le_trans h.ftop hx.size, by obtain ⟨cs, a, b⟩ := h.pb; exact ⟨cs, a.ext hx, b⟩, h.own.ext hx, h.nm, by obtain ⟨cs, a, b⟩ := h.lb; exact ⟨cs, a.ext hx, b⟩⟩
theorem WdAt.sq (h : WdAt w lo hi ps L b1 b2) : SlAt w 5 encQ (some ⟨b1, 0, none⟩) ps := by obtain ⟨cs, a, b⟩ := h.pb; exact a.sl b len_encQ
theorem WdAt.sk (h : WdAt w lo hi ps L b1 b2) : SlAt w 4 encK (some ⟨b2, 0, none⟩) L := by obtain ⟨cs, a, b⟩ := h.lb; exact a.sl b len_encK
theorem WdAt.pl (h : WdAt w lo hi ps L b1 b2) : Places w ps := h.own.places
end
end Go.Proofs.YtbnkiibjhfcffaaGreatDoor

namespace Go.Proofs.YtbnkiibjhfcffaaGreatDoor
open Go.RowKit
/-- a world handed to a function: its places and links read as they are told -/
structure WIn (w : World) (A A' : Option Addr) (n c m c' : Nat) (ps : List Pl) (L : List Lk) : Prop where
  sq : SlAt w 5 encQ A ps
  pl : Places w ps
  hn : n = ps.length
  hl : ps.length ≤ 1048576
  sk : SlAt w 4 encK A' L
  hm : m = L.length
  hl' : L.length ≤ 1048576
  cap : m ≤ c'
  lg : Links L
theorem WIn.ext {w w' : World} {A A' : Option Addr} {n c m c' : Nat} {ps : List Pl} {L : List Lk} (h : WIn w A A' n c m c' ps L) (hx : Ext w w') : WIn w' A A' n c m c' ps L :=
  ⟨h.sq.ext hx, h.pl.ext hx, h.hn, h.hl, h.sk.ext hx, h.hm, h.hl', h.cap, h.lg⟩
theorem WdAt.win {w : World} {lo hi b1 b2 n m : Nat} {ps : List Pl} {L : List Lk} (h : WdAt w lo hi ps L b1 b2) (hn : n = ps.length) (hl : n ≤ 1048576) (hm : m = L.length) (hl' : m ≤ 1048576) (hg : Links L) : WIn w (some ⟨b1, 0, none⟩) (some ⟨b2, 0, none⟩) n n m m ps L :=
  ⟨h.sq, h.pl, hn, by omega, h.sk, hm, by omega, Nat.le_refl _, hg⟩
section
variable {w : World} {A A' : Option Addr} {n c m c' : Nat} {ps : List Pl} {L : List Lk}
theorem i_IsWorldW (h : WIn w A A' n c m c' ps L) (hm : Mx w) : Calls Tryz.prog 49 #[.agg #[.slice A n c, .slice A' m c']] w fun e w' => e = .returned (.bool (wdB (psD ps) L)) ∧ Ext w w' :=
  i_IsWorld A A' n c m c' ps L w h.sq h.pl h.hn h.hl h.sk h.hm h.hl' h.cap h.lg hm
theorem s_IsWorldW (h : WIn w A A' n c m c' ps L) : Calls Tryz.prog 53 #[.agg #[.slice A n c, .slice A' m c']] w fun e w' => e = .returned (.bool (wdB (psD ps) L)) ∧ Ext w w' :=
  s_IsWorld A A' n c m c' ps L w h.sq h.pl h.hn h.hl h.sk h.hm h.hl' h.lg
end
end Go.Proofs.YtbnkiibjhfcffaaGreatDoor
