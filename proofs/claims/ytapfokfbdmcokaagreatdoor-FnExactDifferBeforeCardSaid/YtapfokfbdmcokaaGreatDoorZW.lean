/- Contracts of the laws over worlds, walked over the translation. -/
import Derived.Test.YtapfokfbdmcokaaGreatDoorZP
import Derived.Deep.RegionHeld3
import Derived.Deep.DeepCutAuto
import Derived.RegionTactic
import Derived.BigRegion
import Derived.WalkLawsBesides
import Derived.WalkSpells
import Derived.Lib.MinMax
import Derived.Outline
namespace Go.Proofs.YtapfokfbdmcokaaGreatDoor
open Go.RowKit
attribute [local go_sem] ExtOf.cell ExtOf.frozen

/-- nothing of a world is long -/
def GoodW (ps : List Pl) (L : List Lk) : Prop := ps.length ≤ 1048576 ∧ (∀ i, i < ps.length → GoodQ (ps.getD i plD)) ∧ L.length ≤ 1048576 ∧ Links L
def SzW (ps : List Pl) (L : List Lk) (z : Int) : Prop := z ≤ 1048576 ∧ (z = -1 ∨ (0 ≤ z ∧ GoodW ps L))
set_option maxHeartbeats 3200000 in
theorem l_szWorld (A A' : Option Addr) (c c' : Nat) (ps : List Pl) (L : List Lk) (left : Int) (w : World) (h : ArgQ w A ps) (h' : ArgK w A' L) (h0 : 0 ≤ left) (h1 : left ≤ 1048576) :
    Calls Tryz.prog 12 #[.agg #[.slice A ps.length c, .slice A' L.length c'], .int .i64 left] w fun e w' => (∃ z : Int, e = .returned (.int .i64 z) ∧ SzW ps L z) ∧ Ext w w' := by
  have HC := Lib.hid (fun W hx => l_szPlaceS A c ps left W ((h.ext hx).sl) h.len (h.ext hx).pl h0 h1)
  have HD := Lib.hid (fun W hx z hz0 hz1 => l_szLinkS A' L.length c' L z W ((h'.ext hx).sl) rfl h'.len h'.can hz0 hz1)
  clear h h'
  go_enter Tryz.func12, Tryz.ntmps12
  go_wp2_with fail
  refine (HC.out _ (by (repeat (first | with_reducible exact Ext.refl _ | with_reducible assumption | ((with_reducible apply Src.ext); with_reducible assumption) | with_reducible refine Ext.alloc ?_ _ | with_reducible refine Ext.drew ?_ | with_reducible refine Ext.drewN ?_ _ | ((with_reducible refine Ext.setCell' ?_ ?_ _); solve | omega | simp | (simp; omega)) | (with_reducible refine Ext.trans ?_ (by with_reducible assumption)))))).mono ?_
  rintro e w1 ⟨⟨z, rfl, hz1, hzz⟩, hx1⟩
  obtain ⟨hc1, hf1⟩ := hx1.rules
  have hs1 := hx1.size
  (try simp at hs1)
  have := (show w.heap.size < w1.heap.size from by omega)
  rcases hzz with rfl | ⟨hz0, hl, hL⟩
  · go_wp2
    go_ret
    exact ⟨⟨-1, rfl, by omega, .inl rfl⟩, by (repeat (first | with_reducible exact Ext.refl _ | with_reducible assumption | ((with_reducible apply Src.ext); with_reducible assumption) | with_reducible refine Ext.alloc ?_ _ | with_reducible refine Ext.drew ?_ | with_reducible refine Ext.drewN ?_ _ | ((with_reducible refine Ext.setCell' ?_ ?_ _); solve | omega | simp | (simp; omega)) | (with_reducible refine Ext.trans ?_ (by with_reducible assumption))))⟩
  · have HL := Lib.hid hL
    clear hL
    go_wp2_with fail
    refine (HD.out _ (by (repeat (first | with_reducible exact Ext.refl _ | with_reducible assumption | ((with_reducible apply Src.ext); with_reducible assumption) | with_reducible refine Ext.alloc ?_ _ | with_reducible refine Ext.drew ?_ | with_reducible refine Ext.drewN ?_ _ | ((with_reducible refine Ext.setCell' ?_ ?_ _); solve | omega | simp | (simp; omega)) | (with_reducible refine Ext.trans ?_ (by with_reducible assumption))))) z hz0 hz1).mono ?_
    rintro e w2 ⟨⟨z2, rfl, hz2, hzz⟩, hx2⟩
    rcases hzz with rfl | ⟨hz3, hl3, hL3⟩
    · go_wp2
      go_ret
      exact ⟨⟨-1, rfl, by omega, .inl rfl⟩, by (repeat (first | with_reducible exact Ext.refl _ | with_reducible assumption | ((with_reducible apply Src.ext); with_reducible assumption) | with_reducible refine Ext.alloc ?_ _ | with_reducible refine Ext.drew ?_ | with_reducible refine Ext.drewN ?_ _ | ((with_reducible refine Ext.setCell' ?_ ?_ _); solve | omega | simp | (simp; omega)) | (with_reducible refine Ext.trans ?_ (by with_reducible assumption))))⟩
    · have HL3 := Lib.hid hL3
      clear hL3
      go_wp2
      go_ret
      exact ⟨⟨z2, rfl, hz2, .inr ⟨hz3, hl, HL.out, hl3, HL3.out⟩⟩, by (repeat (first | with_reducible exact Ext.refl _ | with_reducible assumption | ((with_reducible apply Src.ext); with_reducible assumption) | with_reducible refine Ext.alloc ?_ _ | with_reducible refine Ext.drew ?_ | with_reducible refine Ext.drewN ?_ _ | ((with_reducible refine Ext.setCell' ?_ ?_ _); solve | omega | simp | (simp; omega)) | (with_reducible refine Ext.trans ?_ (by with_reducible assumption))))⟩
/-- a world that a call has made, between two bounds of memory -/
structure WdAt (w : World) (lo hi : Nat) (ps : List Pl) (L : List Lk) (b1 b2 : Nat) : Prop where
  flo : lo ≤ b1
  fmid : b1 < b2
  fhi : b2 < hi
  ftop : hi ≤ w.heap.size
  pb : ∃ cs, Blk w b1 78 cs ∧ cs.toList = ps.flatMap encQ
  own : PlOwn w b1 ps
  nm : ∀ j, j < ps.length → blkQ (ps.getD j plD) < b2
  lb : ∃ cs, Blk w b2 114 cs ∧ cs.toList = L.flatMap encK
section
variable {w w' : World} {lo hi b1 b2 : Nat} {ps : List Pl} {L : List Lk}
theorem WdAt.ext (h : WdAt w lo hi ps L b1 b2) (hx : Ext w w') : WdAt w' lo hi ps L b1 b2 :=
  ⟨h.flo, h.fmid, h.fhi, Nat.le_trans h.ftop hx.size, by obtain ⟨cs, a, b⟩ := h.pb; exact ⟨cs, a.ext hx, b⟩, h.own.ext hx, h.nm, by obtain ⟨cs, a, b⟩ := h.lb; exact ⟨cs, a.ext hx, b⟩⟩
theorem WdAt.sq (h : WdAt w lo hi ps L b1 b2) : SlAt w 5 encQ (some ⟨b1, 0, none⟩) ps := by obtain ⟨cs, a, b⟩ := h.pb; exact a.sl b len_encQ
theorem WdAt.sk (h : WdAt w lo hi ps L b1 b2) : SlAt w 4 encK (some ⟨b2, 0, none⟩) L := by obtain ⟨cs, a, b⟩ := h.lb; exact a.sl b len_encK
theorem WdAt.pl (h : WdAt w lo hi ps L b1 b2) : Places w ps := h.own.places
end
set_option maxHeartbeats 6400000 in
theorem l_toWorld (A A' : Option Addr) (c c' : Nat) (ps : List Pl) (L : List Lk) (w : World) (h : ArgQ w A ps) (h' : ArgK w A' L) (hg : GoodW ps L) :
    Calls Tryz.prog 14 #[.agg #[.slice A ps.length c, .slice A' L.length c']] w fun e w' => ∃ (ps' : List Pl) (b1 b2 : Nat), e = .returned (.agg #[.slice (some ⟨b1, 0, none⟩) ps.length ps.length, .slice (some ⟨b2, 0, none⟩) L.length L.length]) ∧ ps'.length = ps.length ∧ psD ps' = psD ps ∧ WdAt w' w.heap.size w'.heap.size ps' L b1 b2 ∧ Ext w w' := by
  have HC := Lib.hid (fun W hx => l_toPlaceS A c ps W ((h.ext hx).sl) (h.ext hx).pl hg.1 hg.2.1)
  have HD := Lib.hid (fun W hx => l_toLinkS A' L.length c' L W ((h'.ext hx).sl) rfl hg.2.2.1)
  clear h h' hg
  go_enter Tryz.func14, Tryz.ntmps14
  go_wp2_with fail
  refine (HC.out _ (by (repeat (first | with_reducible exact Ext.refl _ | with_reducible assumption | ((with_reducible apply Src.ext); with_reducible assumption) | with_reducible refine Ext.alloc ?_ _ | with_reducible refine Ext.drew ?_ | with_reducible refine Ext.drewN ?_ _ | ((with_reducible refine Ext.setCell' ?_ ?_ _); solve | omega | simp | (simp; omega)) | (with_reducible refine Ext.trans ?_ (by with_reducible assumption)))))).mono ?_
  rintro e w1 ⟨q, cs1, rfl, hq, hp, hB1, hcs1, hO1, hx1⟩
  obtain ⟨hc1, hf1⟩ := hx1.rules
  have hs1 := hx1.size
  have hlt1 := hB1.lt
  (try simp at hs1 hlt1)
  have HQ := Lib.hid hq
  have HP := Lib.hid hp
  have HB1 := Lib.hid hB1
  have HCS1 := Lib.hid hcs1
  have HO1 := Lib.hid hO1
  have := (show w.heap.size < w1.heap.size from by omega)
  have := (show w.heap.size + 1 < w1.heap.size from by omega)
  have := (show w.heap.size + 1 + 1 < w1.heap.size from by omega)
  clear hq hp hB1 hcs1 hO1
  go_wp2_with fail
  refine (HD.out _ (by (repeat (first | with_reducible exact Ext.refl _ | with_reducible assumption | ((with_reducible apply Src.ext); with_reducible assumption) | with_reducible refine Ext.alloc ?_ _ | with_reducible refine Ext.drew ?_ | with_reducible refine Ext.drewN ?_ _ | ((with_reducible refine Ext.setCell' ?_ ?_ _); solve | omega | simp | (simp; omega)) | (with_reducible refine Ext.trans ?_ (by with_reducible assumption)))))).mono ?_
  rintro e w2 ⟨cs2, rfl, hB2, hcs2, hx2⟩
  obtain ⟨hc2, hf2⟩ := hx2.rules
  have hs2 := hx2.size
  have hlt2 := hB2.lt
  (try simp at hs2 hlt2)
  have HB2 := Lib.hid hB2
  have HCS2 := Lib.hid hcs2
  have := (show w.heap.size < w2.heap.size from by omega)
  have := (show w.heap.size + 1 < w2.heap.size from by omega)
  have := (show w.heap.size + 1 + 1 < w2.heap.size from by omega)
  clear hB2 hcs2
  go_wp2
  refine ret_pts1 (b0 := w.heap.size + 1) (t := 33) (v := .agg #[.slice (some ⟨w.heap.size + 1 + 1 + 1, 0, none⟩) ps.length ps.length, .slice (some ⟨w1.heap.size, 0, none⟩) L.length L.length]) (Blk.eq (by (repeat (first | with_reducible assumption | ((with_reducible apply Blk.new); solve | simp | rfl) | with_reducible apply Blk.drew | with_reducible apply Blk.drewN | ((with_reducible apply Blk.far'); solve | omega | simp | (simp; omega)) | with_reducible apply Blk.set_ | with_reducible apply Blk.alloc | ((with_reducible apply Blk.ext'); with_reducible assumption) | ((with_reducible apply Blk.but'); (with_reducible assumption); solve | omega | (simp; omega))))) (by rfl)) rfl (by intro W' r0 r1; simp [results, Tryz.results14, go_sem, r0, r1]) ⟨q, w.heap.size + 1 + 1 + 1, w1.heap.size, rfl, HQ.out, HP.out, ?_, ?_⟩
  · have hne : ∀ g, w.heap.size + 1 + 1 + 1 ≤ g → ¬ g = w.heap.size + 1 ∧ ¬ g = w.heap.size + 1 + 1 := fun g h => by omega
    have hb1 := HB1.out
    have ho1 := HO1.out
    have hb2 := HB2.out
    simp only [World.size_alloc, World.size_setCell] at hb1 ho1 hb2
    have hlt2' := hb2.lt
    refine ⟨by omega, by omega, by simp only [World.size_setCell]; omega, Nat.le_refl _, ⟨cs1, by (repeat (first | with_reducible assumption | ((with_reducible apply Blk.new); solve | simp | rfl) | with_reducible apply Blk.drew | with_reducible apply Blk.drewN | ((with_reducible apply Blk.far'); solve | omega | simp | (simp; omega)) | with_reducible apply Blk.set_ | with_reducible apply Blk.alloc | ((with_reducible apply Blk.ext'); with_reducible assumption) | ((with_reducible apply Blk.but'); (with_reducible assumption); solve | omega | (simp; omega)))), HCS1.out⟩, ho1.mono fun g t cs hg hB => ?_, fun j hj => (ho1.blk_lt hj).1, ⟨cs2, by (repeat (first | with_reducible assumption | ((with_reducible apply Blk.new); solve | simp | rfl) | with_reducible apply Blk.drew | with_reducible apply Blk.drewN | ((with_reducible apply Blk.far'); solve | omega | simp | (simp; omega)) | with_reducible apply Blk.set_ | with_reducible apply Blk.alloc | ((with_reducible apply Blk.ext'); with_reducible assumption) | ((with_reducible apply Blk.but'); (with_reducible assumption); solve | omega | (simp; omega)))), HCS2.out⟩⟩
    have hgn := hne g (by omega)
    have hg1 := hgn.1
    have hg2 := hgn.2
    (repeat (first | with_reducible assumption | ((with_reducible apply Blk.new); solve | simp | rfl) | with_reducible apply Blk.drew | with_reducible apply Blk.drewN | ((with_reducible apply Blk.far'); solve | omega | simp | (simp; omega)) | with_reducible apply Blk.set_ | with_reducible apply Blk.alloc | ((with_reducible apply Blk.ext'); with_reducible assumption) | ((with_reducible apply Blk.but'); (with_reducible assumption); solve | omega | (simp; omega))))
  · (repeat (first | with_reducible exact Ext.refl _ | with_reducible assumption | ((with_reducible apply Src.ext); with_reducible assumption) | with_reducible refine Ext.alloc ?_ _ | with_reducible refine Ext.drew ?_ | with_reducible refine Ext.drewN ?_ _ | ((with_reducible refine Ext.setCell' ?_ ?_ _); solve | omega | simp | (simp; omega)) | (with_reducible refine Ext.trans ?_ (by with_reducible assumption))))
set_option maxHeartbeats 3200000 in
theorem l_eqWorld {w : World} {lo hi lo' hi' b1 b2 d1 d2 : Nat} {ps ps' : List Pl} {L : List Lk} (h : WdAt w lo hi ps L b1 b2) (h' : WdAt w lo' hi' ps' L d1 d2) (he : psD ps = psD ps') (n m c1 c2 c3 c4 : Nat) (hn : n = ps.length) (hm : m = L.length) (hl : n ≤ 1048576) (hl' : m ≤ 1048576) :
    Calls Tryz.prog 17 #[.agg #[.slice (some ⟨b1, 0, none⟩) n c1, .slice (some ⟨b2, 0, none⟩) m c2], .agg #[.slice (some ⟨d1, 0, none⟩) n c3, .slice (some ⟨d2, 0, none⟩) m c4]] w fun e w' => e = .returned (.bool true) ∧ Ext w w' := by
  have HC := Lib.hid (fun W hx => l_eqPlaceS _ _ n c1 c3 ps ps' W (h.ext hx).sq (h'.ext hx).sq (h.ext hx).pl (h'.ext hx).pl he hn hl)
  have HD := Lib.hid (fun W hx => l_eqLinkS _ _ m c2 c4 L W (h.ext hx).sk (h'.ext hx).sk hm hl')
  clear h h' he hn hm hl hl'
  go_enter Tryz.func17, Tryz.ntmps17
  go_wp2_with fail
  refine (HC.out _ (by (repeat (first | with_reducible exact Ext.refl _ | with_reducible assumption | ((with_reducible apply Src.ext); with_reducible assumption) | with_reducible refine Ext.alloc ?_ _ | with_reducible refine Ext.drew ?_ | with_reducible refine Ext.drewN ?_ _ | ((with_reducible refine Ext.setCell' ?_ ?_ _); solve | omega | simp | (simp; omega)) | (with_reducible refine Ext.trans ?_ (by with_reducible assumption)))))).mono ?_
  rintro e w1 ⟨rfl, hx1⟩
  have B0 : Blk w1 w.heap.size 33 #[.slice (some ⟨b1, 0, none⟩) n c1, .slice (some ⟨b2, 0, none⟩) m c2] := by (repeat (first | with_reducible assumption | ((with_reducible apply Blk.new); solve | simp | rfl) | with_reducible apply Blk.drew | with_reducible apply Blk.drewN | ((with_reducible apply Blk.far'); solve | omega | simp | (simp; omega)) | with_reducible apply Blk.set_ | with_reducible apply Blk.alloc | ((with_reducible apply Blk.ext'); with_reducible assumption) | ((with_reducible apply Blk.but'); (with_reducible assumption); solve | omega | (simp; omega))))
  have B1 : Blk w1 (w.heap.size + 1) 33 #[.slice (some ⟨d1, 0, none⟩) n c3, .slice (some ⟨d2, 0, none⟩) m c4] := by (repeat (first | with_reducible assumption | ((with_reducible apply Blk.new); solve | simp | rfl) | with_reducible apply Blk.drew | with_reducible apply Blk.drewN | ((with_reducible apply Blk.far'); solve | omega | simp | (simp; omega)) | with_reducible apply Blk.set_ | with_reducible apply Blk.alloc | ((with_reducible apply Blk.ext'); with_reducible assumption) | ((with_reducible apply Blk.but'); (with_reducible assumption); solve | omega | (simp; omega))))
  have e0 : w1.cell? ⟨w.heap.size, 1, none⟩ = some (.slice (some ⟨b2, 0, none⟩) m c2) := B0.cell 1
  have e1 : w1.cell? ⟨w.heap.size + 1, 1, none⟩ = some (.slice (some ⟨d2, 0, none⟩) m c4) := B1.cell 1
  clear B0 B1
  go_wp2_with fail
  refine (HD.out _ (by (repeat (first | with_reducible exact Ext.refl _ | with_reducible assumption | ((with_reducible apply Src.ext); with_reducible assumption) | with_reducible refine Ext.alloc ?_ _ | with_reducible refine Ext.drew ?_ | with_reducible refine Ext.drewN ?_ _ | ((with_reducible refine Ext.setCell' ?_ ?_ _); solve | omega | simp | (simp; omega)) | (with_reducible refine Ext.trans ?_ (by with_reducible assumption)))))).mono ?_
  rintro e w2 ⟨rfl, hx2⟩
  go_wp2
  go_ret
  exact ⟨rfl, by (repeat (first | with_reducible exact Ext.refl _ | with_reducible assumption | ((with_reducible apply Src.ext); with_reducible assumption) | with_reducible refine Ext.alloc ?_ _ | with_reducible refine Ext.drew ?_ | with_reducible refine Ext.drewN ?_ _ | ((with_reducible refine Ext.setCell' ?_ ?_ _); solve | omega | simp | (simp; omega)) | (with_reducible refine Ext.trans ?_ (by with_reducible assumption))))⟩
set_option maxHeartbeats 3200000 in
theorem l_markWorld {w : World} {lo hi b1 b2 : Nat} {ps : List Pl} {L : List Lk} (h : WdAt w lo hi ps L b1 b2) (n m c1 c2 : Nat) (hn : n = ps.length) (hm : m = L.length) (hl : n ≤ 1048576) (hl' : m ≤ 1048576) :
    Calls Tryz.prog 18 #[.agg #[.slice (some ⟨b1, 0, none⟩) n c1, .slice (some ⟨b2, 0, none⟩) m c2], .int .i64 1] w fun e w' => ∃ z : Nat, e = .returned (.int .i64 z) ∧ 0 < z ∧ z ≤ 100000000000000 ∧ Btw lo hi w w' := by
  obtain ⟨cs1, hB1, hcs1⟩ := h.pb
  obtain ⟨cs2, hB2, hcs2⟩ := h.lb
  have hlo := h.flo
  have hmid := h.fmid
  have hhi := h.fhi
  have htop := h.ftop
  have HC := Lib.hid (fun W hx => l_markPlaceS lo b2 b1 n c1 1 ps cs1 W (hB1.ext hx) hcs1 (h.own.ext hx) hn hl (by omega) (by omega) hlo hmid h.nm)
  have hsz2 : cs2.size = m * 4 := by rw [← Array.length_toList, hcs2, flatMap_len len_encK, hm]
  have HD := Lib.hid (fun W hB z hz0 hz1 => l_markLinkS b2 m c2 z cs2 W hB hsz2 hl' hz0 hz1)
  have HB2 := Lib.hid hB2
  have HLM := Lib.hid hl'
  clear h hn hm hB1 hcs1 hB2 hcs2 hsz2
  go_enter Tryz.func18, Tryz.ntmps18
  go_wp2_with fail
  refine (HC.out _ (by (repeat (first | with_reducible exact Ext.refl _ | with_reducible assumption | ((with_reducible apply Src.ext); with_reducible assumption) | with_reducible refine Ext.alloc ?_ _ | with_reducible refine Ext.drew ?_ | with_reducible refine Ext.drewN ?_ _ | ((with_reducible refine Ext.setCell' ?_ ?_ _); solve | omega | simp | (simp; omega)) | (with_reducible refine Ext.trans ?_ (by with_reducible assumption)))))).mono ?_
  rintro e w1 ⟨z, rfl, hz0, hz1, hb1⟩
  have hs1 := hb1.size
  (try simp at hs1)
  have B0 : Blk w1 w.heap.size 33 #[.slice (some ⟨b1, 0, none⟩) n c1, .slice (some ⟨b2, 0, none⟩) m c2] := Blk.btw (by (repeat (first | with_reducible assumption | ((with_reducible apply Blk.new); solve | simp | rfl) | with_reducible apply Blk.drew | with_reducible apply Blk.drewN | ((with_reducible apply Blk.far'); solve | omega | simp | (simp; omega)) | with_reducible apply Blk.set_ | with_reducible apply Blk.alloc | ((with_reducible apply Blk.ext'); with_reducible assumption) | ((with_reducible apply Blk.but'); (with_reducible assumption); solve | omega | (simp; omega))))) hb1 (.inr (by omega))
  have B2 : Blk w1 b2 114 cs2 := Blk.btw (Blk.ext HB2.out (by (repeat (first | with_reducible exact Ext.refl _ | with_reducible assumption | ((with_reducible apply Src.ext); with_reducible assumption) | with_reducible refine Ext.alloc ?_ _ | with_reducible refine Ext.drew ?_ | with_reducible refine Ext.drewN ?_ _ | ((with_reducible refine Ext.setCell' ?_ ?_ _); solve | omega | simp | (simp; omega)) | (with_reducible refine Ext.trans ?_ (by with_reducible assumption)))))) hb1 (.inr (Nat.le_refl _))
  have e0 : w1.cell? ⟨w.heap.size, 1, none⟩ = some (.slice (some ⟨b2, 0, none⟩) m c2) := B0.cell 1
  have HM1 : Hid (Btw lo hi w w1) := Lib.hid ((Btw.of (by (repeat (first | with_reducible exact Ext.refl _ | with_reducible assumption | ((with_reducible apply Src.ext); with_reducible assumption) | with_reducible refine Ext.alloc ?_ _ | with_reducible refine Ext.drew ?_ | with_reducible refine Ext.drewN ?_ _ | ((with_reducible refine Ext.setCell' ?_ ?_ _); solve | omega | simp | (simp; omega)) | (with_reducible refine Ext.trans ?_ (by with_reducible assumption)))))).trans ⟨hb1.os, hb1.tape, hb1.output, hb1.size, fun k hk hc => hb1.block k hk (by omega)⟩)
  have HB := Lib.hid B2
  clear B0 B2 hb1
  go_wp2_with fail
  refine (HD.out _ HB.out z hz0 (by omega)).mono ?_
  rintro e w2 ⟨rfl, _, hu2⟩
  have HM2 := Lib.hid (HM1.out.grown hu2.grown (by omega) hhi)
  clear hu2
  go_wp2
  go_ret
  exact ⟨_, rfl, by omega, Nat.le_trans (Nat.add_le_add hz1 (Nat.mul_le_mul_left 4 HLM.out)) (by decide), HM2.out⟩
end Go.Proofs.YtapfokfbdmcokaaGreatDoor
