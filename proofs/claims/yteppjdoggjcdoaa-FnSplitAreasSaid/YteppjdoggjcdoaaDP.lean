/- Draws of maps: l17Draw, l17Index and the draws over maps, walked over the translation. -/
import Derived.Test.YteppjdoggjcdoaaDN
import Derived.Test.YteppjdoggjcdoaaPJ
import Derived.Deep.RegionHeld3
import Derived.Deep.DeepCutAuto
import Derived.RegionTactic
import Derived.BigRegion
import Derived.WalkLawsBesides
import Derived.WalkSpells
import Derived.Lib.MinMax
import Derived.Outline
namespace Go.Proofs.Yteppjdoggjcdoaa
open Go.RowKit
attribute [local go_sem] ExtOf.cell ExtOf.frozen


set_option maxRecDepth 20000 in
set_option maxHeartbeats 25600000 in
theorem s_l17Draw {a : World} {A : Option Addr} {c : Nat} {bs : List Int} {g : Nat} (w : World) (h : Src a A c bs g w) :
    Calls Try.prog 95 #[.pointer (some ⟨g, 0, none⟩)] w fun e w' => ∃ A' c' rs, e = .returned (.slice A' rs.length c') ∧ SlAt w' 1 encR A' rs ∧ rs.length ≤ c' ∧ rs.length ≤ 7 ∧ NewR w.heap.size w' rs ∧ (∀ q, A' = some q → w.heap.size ≤ q.block) ∧ Src a A c bs g w' ∧ But g w w' := by
  have hlt := h.lt
  have how := h.own
  have hasz := h.ext.size
  have hbase : w.heap.size ≤ w.heap.size := Nat.le_refl _
  go_enter Try.func95, Try.ntmps95
  go_wp2_with fail
  refine (s_l17Good (a := a) (A := A) (c := c) (bs := bs) _ h).mono ?_
  rintro e w1 ⟨v1, rs, rfl, hO1, hl1, hN1, hA1, hS1, hu1⟩
  have hg1 := hS1.lt
  (go_wp2_with fail; refine (s_l01Next (a := a) (A := A) (c := c) (bs := bs) _ _ (by (repeat (first | with_reducible assumption | with_reducible refine Src.alloc ?_ _ | with_reducible refine Src.drew ?_ | with_reducible refine Src.drewN ?_ _ | ((with_reducible refine Src.far ?_ ?_ ?_ _); (solve | omega | (simp; omega) | simp); (solve | omega | (simp; omega) | simp)) | ((with_reducible apply Src.on'); with_reducible assumption)))) (by omega)).mono ?_; rintro e w2 ⟨x2, rfl, hb2, hS2, hu2⟩; obtain ⟨hc2, hf2⟩ := hu2.rules; have hs2 := hu2.size; (try simp at hs2); have := (show g < w2.heap.size from by omega))
  have HV := Lib.hid (hO1.but hu2 hlt)
  have HN := Lib.hid (hN1.but hu2 hlt)
  have HA := Lib.hid hA1
  have HS := Lib.hid hS2
  have HU := Lib.hid (hu1.trans hu2)
  have hsw := (hu1.trans hu2).size
  have HVL : Hid (∀ q, v1.ownBlock = some q → q < w2.heap.size) := Lib.hid fun q hq => (HV.out.row q hq).2
  clear hO1 hN1 hA1 hS1 hu1 hu2 hc2 hf2 h
  by_cases h0 : x2 = 0
  · subst h0
    go_wp2_with fail
    refine (s_l16Draw (a := a) (A := A) (c := c) (bs := bs) _ hS2).mono ?_
    rintro e w3 ⟨A', c', ps, rfl, hS3, hc3, hl3, hA3, hSr3, hu3⟩
    obtain ⟨b3, off3, hA3e, hb3, -, -⟩ := hS3.pt (k := 0) (by omega)
    have HQR : Hid (∀ q, A' = some q → w2.heap.size ≤ q.block ∧ q.block < w3.heap.size) := Lib.hid fun q hq => ⟨hA3 q hq, by rw [hA3e] at hq; injection hq with hq; rw [← hq]; exact hb3⟩
    have HSR := Lib.hid hS3
    have HCR := Lib.hid hc3
    have HLR : Hid (ps.length ≤ 12) := Lib.hid (by omega)
    have HV := Lib.hid (HV.out.but hu3 hlt)
    have HN := Lib.hid (HN.out.but hu3 hlt)
    have HS := Lib.hid hSr3
    have HU := Lib.hid (HU.out.trans hu3)
    have hs23 := hu3.size
    have hgl3 := hSr3.lt
    clear hA3e hS3 hc3 hl3 hA3 hSr3 hu3 hS2 hb3
    go_wp2_with (at_builtin; refine wpList_append_near elR len_encR one_encR rfl _ _ rfl rfl (HV.out.ext (by (repeat (first | with_reducible exact Ext.refl _ | with_reducible assumption | ((with_reducible apply Src.ext); with_reducible assumption) | with_reducible refine Ext.alloc ?_ _ | with_reducible refine Ext.drew ?_ | with_reducible refine Ext.drewN ?_ _ | ((with_reducible refine Ext.setCell' ?_ ?_ _); solve | omega | simp | (simp; omega)) | (with_reducible refine Ext.trans ?_ (by with_reducible assumption)))))) (xs := [(A', c', ps)]) rfl (blk_r1 (by (repeat (first | with_reducible assumption | ((with_reducible apply Blk.new); solve | simp | rfl) | with_reducible apply Blk.drew | with_reducible apply Blk.drewN | ((with_reducible apply Blk.far'); solve | omega | simp | (simp; omega)) | with_reducible apply Blk.set_ | with_reducible apply Blk.alloc | ((with_reducible apply Blk.ext'); with_reducible assumption) | ((with_reducible apply Blk.but'); (with_reducible assumption); solve | omega | (simp; omega))))) rfl) (by have := hl1; simp; unfold maxLen; omega) (by have := hl1; simp; omega) (by first | omega | (simp; omega)) ?_)
    intro v' w8 hown hgrow hnear
    have hX8 : Ext w3 (w3.alloc (.cells #[.slice A' ps.length c'] 24)) := (Ext.refl w3).alloc _
    have hN8 := HN.out.ext hX8
    have hr8 : ∀ q : Addr, ((A', c', ps) : Rg).1 = some q → w2.heap.size ≤ q.block ∧ q.block < (w3.alloc (.cells #[.slice A' ps.length c'] 24)).heap.size := fun q hq => by
      have := HQR.out q hq
      refine ⟨this.1, ?_⟩
      simp only [World.size_alloc]
      omega
    have hAv := Away.snoc (w := w2) HA.out hN8 hr8 HVL.out (.inl rfl)
    have hAv' := Away.snoc (w := w2) HA.out hN8 hr8 HVL.out hnear
    have HN9 := Lib.hid ((hN8.snoc (r := (A', c', ps)) (HSR.out.ext hX8) HCR.out HLR.out (fun q hq => by have := hr8 q hq; have h0 := hbase; omega)).grown hgrow hAv.row)
    have HA9 := Lib.hid hAv'
    have HS9 : Hid (Src a A c bs g w8) := Lib.hid ((HS.out.on hX8).grownR hgrow (fun q hq => by have := (HV.out.row q hq).1; omega))
    have HU9 : Hid (But g w w8) := Lib.hid ((HU.out.trans (But.of hX8)).grownR hgrow (fun q hq => (HV.out.row q hq).1))
    have HV9 := Lib.hid hown
    clear hown hgrow hnear hX8 hN8 hr8 hAv hAv'
    obtain ⟨A8, c8, rfl, hS8, hc8, _, hA8⟩ := HV9.out.sl len_encR
    have HS8 := Lib.hid hS8
    have HA8 := Lib.hid hA8
    clear hS8 hA8
    go_wp2
    go_ret
    exact ⟨A8, c8, _, rfl, HS8.out, hc8, by simp; omega, HN9.out, fun q hq => (HA8.out q hq).1, HS9.out, HU9.out⟩
  · have hb0 : (x2 == 0) = false := beq_eq_false_iff_ne.2 h0
    by_cases h1 : x2 = 1
    · subst h1
      clear hS2
      go_wp2
      go_loopw [3, 4] (fun v i wr => ∃ (x : Int) (rs : List Rg), i = .int .i64 x ∧ rs.length ≤ 7 ∧ Hid (OwR wr w.heap.size v rs) ∧ Hid (NewR w.heap.size wr rs) ∧ Hid (Away v rs) ∧ Hid (Src a A c bs g wr) ∧ Hid (But g w wr)) (fun v _ _ => 8 - lenV v)
      case atStart => exact ⟨0, rs, rfl, by omega, HV, HN, HA, HS, HU⟩
      case round =>
        clear HV HN HA HS HU HVL
        obtain ⟨x, rs, rfl, hrl, HV, HN, HA, HS, HU⟩ := hrel
        obtain ⟨w5, rfl⟩ : ∃ x, x = wr := ⟨wr, rfl⟩
        obtain ⟨A5, c5, hv5, _, _, _, _⟩ := HV.out.sl len_encR
        obtain ⟨n5, hn5⟩ : ∃ n5, n5 = rs.length := ⟨_, rfl⟩
        rw [← hn5] at hv5
        subst hv5
        have HN5 := Lib.hid hn5
        have hn7 : n5 ≤ 7 := by omega
        have hS5 := HS.out
        have hg5 := hS5.lt
        clear hn5 hrl
        (go_wp2_with fail; refine (s_l01Next (a := a) (A := A) (c := c) (bs := bs) _ _ (by (repeat (first | with_reducible assumption | with_reducible refine Src.alloc ?_ _ | with_reducible refine Src.drew ?_ | with_reducible refine Src.drewN ?_ _ | ((with_reducible refine Src.far ?_ ?_ ?_ _); (solve | omega | (simp; omega) | simp); (solve | omega | (simp; omega) | simp)) | ((with_reducible apply Src.on'); with_reducible assumption)))) (by omega)).mono ?_; rintro e w3 ⟨x3, rfl, hb3, hS3, hu3⟩; obtain ⟨hc3, hf3⟩ := hu3.rules; have hs3 := hu3.size; (try simp at hs3); have := (show g < w3.heap.size from by omega))
        have HV := Lib.hid (HV.out.but hu3 hlt)
        have HN := Lib.hid (HN.out.but hu3 hlt)
        have HS := Lib.hid hS3
        have HU := Lib.hid (HU.out.trans hu3)
        have hs03 := HU.out.size
        have HVL : Hid (∀ q, (Value.slice A5 n5 c5).ownBlock = some q → q < w3.heap.size) := Lib.hid fun q hq => (HV.out.row q hq).2
        have hw6 : IntKind.i64.wrap (6 + x3) = 6 + x3 := IntWalk.i64_in _ (by omega)
        clear hS5 hu3 hS3 hc3 hf3
        by_cases hc : (n5 : Int) < 6 + x3
        · have hcd : decide ((n5 : Int) < 6 + x3) = true := decide_eq_true hc
          have hn6 : n5 ≤ 6 := by omega
          obtain ⟨u0, hu0⟩ : ∃ u0, IntKind.i64.wrap (10 * x) = u0 := ⟨_, rfl⟩
          obtain ⟨u1, hu1⟩ : ∃ u1, IntKind.i64.wrap (100 + u0) = u1 := ⟨_, rfl⟩
          obtain ⟨u2, hu2⟩ : ∃ u2, IntKind.i64.wrap (101 + u0) = u2 := ⟨_, rfl⟩
          go_wp2_with fail
          refine (s_l17Points _ 6 6 [u1, 0, u2, 0, u1, 1] _ (Blk.sl (cs := #[.int .i64 u1, .int .i64 0, .int .i64 u2, .int .i64 0, .int .i64 u1, .int .i64 1]) (by (repeat (first | with_reducible assumption | ((with_reducible apply Blk.new); solve | simp | rfl) | with_reducible apply Blk.drew | with_reducible apply Blk.drewN | ((with_reducible apply Blk.far'); solve | omega | simp | (simp; omega)) | with_reducible apply Blk.set_ | with_reducible apply Blk.alloc | ((with_reducible apply Blk.ext'); with_reducible assumption) | ((with_reducible apply Blk.but'); (with_reducible assumption); solve | omega | (simp; omega))))) (by rfl) len_encI) rfl (by omega)).mono ?_
          rintro e w4 ⟨v4, ps, rfl, hO4, hpl, hx4⟩
          obtain ⟨A', c', rfl, hS4, hc4, _, hA4⟩ := hO4.sl len_encP
          have hX34 : Ext w3 w4 := by (repeat (first | with_reducible exact Ext.refl _ | with_reducible assumption | ((with_reducible apply Src.ext); with_reducible assumption) | with_reducible refine Ext.alloc ?_ _ | with_reducible refine Ext.drew ?_ | with_reducible refine Ext.drewN ?_ _ | ((with_reducible refine Ext.setCell' ?_ ?_ _); solve | omega | simp | (simp; omega)) | (with_reducible refine Ext.trans ?_ (by with_reducible assumption))))
          have HQR : Hid (∀ q, A' = some q → w3.heap.size ≤ q.block ∧ q.block < w4.heap.size) := Lib.hid fun q hq => by
            have := hA4 q hq
            simp only [World.size_alloc] at this
            omega
          have HSR := Lib.hid hS4
          have HCR := Lib.hid hc4
          have HLR : Hid (ps.length ≤ 12) := Lib.hid (by omega)
          have HV := Lib.hid (HV.out.ext hX34)
          have HN := Lib.hid (HN.out.ext hX34)
          have HS := Lib.hid (HS.out.on hX34)
          have HU := Lib.hid (HU.out.trans (But.of hX34))
          have hs34 := hX34.size
          have hgl4 := HS.out.lt
          have hbase : w.heap.size ≤ w3.heap.size := hs03
          clear hO4 hS4 hc4 hA4 hx4 hX34
          go_wp2_with (at_builtin; refine wpList_append_near elR len_encR one_encR rfl _ _ rfl rfl (HV.out.ext (by (repeat (first | with_reducible exact Ext.refl _ | with_reducible assumption | ((with_reducible apply Src.ext); with_reducible assumption) | with_reducible refine Ext.alloc ?_ _ | with_reducible refine Ext.drew ?_ | with_reducible refine Ext.drewN ?_ _ | ((with_reducible refine Ext.setCell' ?_ ?_ _); solve | omega | simp | (simp; omega)) | (with_reducible refine Ext.trans ?_ (by with_reducible assumption)))))) (xs := [(A', c', ps)]) rfl (blk_r1 (by (repeat (first | with_reducible assumption | ((with_reducible apply Blk.new); solve | simp | rfl) | with_reducible apply Blk.drew | with_reducible apply Blk.drewN | ((with_reducible apply Blk.far'); solve | omega | simp | (simp; omega)) | with_reducible apply Blk.set_ | with_reducible apply Blk.alloc | ((with_reducible apply Blk.ext'); with_reducible assumption) | ((with_reducible apply Blk.but'); (with_reducible assumption); solve | omega | (simp; omega))))) rfl) (by have := HN5.out; simp; unfold maxLen; omega) (by have := HN5.out; simp; omega) (by first | omega | (simp; omega)) ?_)
          intro v' w8 hown hgrow hnear
          have hX8 : Ext w4 (w4.alloc (.cells #[.slice A' ps.length c'] 24)) := (Ext.refl w4).alloc _
          have hN8 := HN.out.ext hX8
          have hr8 : ∀ q : Addr, ((A', c', ps) : Rg).1 = some q → w3.heap.size ≤ q.block ∧ q.block < (w4.alloc (.cells #[.slice A' ps.length c'] 24)).heap.size := fun q hq => by
            have := HQR.out q hq
            refine ⟨this.1, ?_⟩
            simp only [World.size_alloc]
            omega
          have hAv := Away.snoc (w := w3) HA.out hN8 hr8 HVL.out (.inl rfl)
          have hAv' := Away.snoc (w := w3) HA.out hN8 hr8 HVL.out hnear
          have HN9 := Lib.hid ((hN8.snoc (r := (A', c', ps)) (HSR.out.ext hX8) HCR.out HLR.out (fun q hq => by have := hr8 q hq; have h0 := hbase; omega)).grown hgrow hAv.row)
          have HA9 := Lib.hid hAv'
          have HS9 : Hid (Src a A c bs g w8) := Lib.hid ((HS.out.on hX8).grownR hgrow (fun q hq => by have := (HV.out.row q hq).1; omega))
          have HU9 : Hid (But g w w8) := Lib.hid ((HU.out.trans (But.of hX8)).grownR hgrow (fun q hq => (HV.out.row q hq).1))
          have HV9 := Lib.hid hown
          clear hown hgrow hnear hX8 hN8 hr8 hAv hAv'
          obtain ⟨A8, c8, hv8, _, _, _, _⟩ := HV9.out.sl len_encR
          have HN8 : Hid ((rs ++ [(A', c', ps)]).length = n5 + 1) := Lib.hid (by rw [List.length_append, ← HN5.out]; rfl)
          rw [HN8.out] at hv8
          subst hv8
          go_wp2
          go_roundw
          case rel => exact ⟨_, rs ++ [(A', c', ps)], rfl, by rw [HN8.out]; omega, HV9, HN9, HA9, HS9, HU9⟩
          case measure => simp [lenV]; omega
        · have hcd : decide ((n5 : Int) < 6 + x3) = false := decide_eq_false hc
          obtain ⟨_, _, e9, hS9, hc9, _, hA9⟩ := HV.out.sl len_encR
          injection e9 with e9 e10 e11
          subst e9 e11
          have HS9 := Lib.hid hS9
          have HC9 := Lib.hid hc9
          have HA9 := Lib.hid hA9
          clear e10 hS9 hc9 hA9
          go_wp2
          go_ret
          exact ⟨A5, c5, rs, by rw [HN5.out]; rfl, HS9.out, HC9.out, by have := HN5.out; omega, HN.out, fun q hq => (HA9.out q hq).1, HS.out, HU.out⟩
    · have hb1 : (x2 == 1) = false := beq_eq_false_iff_ne.2 h1
      obtain ⟨A8, c8, rfl, hS8, hc8, _, hA8⟩ := HV.out.sl len_encR
      have HS8 := Lib.hid hS8
      have HA8 := Lib.hid hA8
      clear hS8 hA8
      go_wp2
      go_ret
      exact ⟨A8, c8, rs, rfl, HS8.out, hc8, by omega, HN.out, fun q hq => (HA8.out q hq).1, HS.out, HU.out⟩

set_option maxHeartbeats 6400000 in
theorem s_l17Index {a : World} {A : Option Addr} {c : Nat} {bs : List Int} {g : Nat} (L : Option Addr) (n d : Nat) (w : World) (h : Src a A c bs g w) (hn : n ≤ 1000) :
    Calls Try.prog 103 #[.pointer (some ⟨g, 0, none⟩), .slice L n d] w fun e w' => ∃ x : Int, e = .returned (.int .i64 x) ∧ Src a A c bs g w' ∧ But g w w' := by
  have hlt := h.lt
  have how := h.own
  have hasz := h.ext.size
  have hw0 : IntKind.i64.wrap ((n : Int) + 1) = (n : Int) + 1 := IntWalk.i64_in _ (by omega)
  go_enter Try.func103, Try.ntmps103
  (go_wp2_with fail; refine (s_l01Next (a := a) (A := A) (c := c) (bs := bs) _ _ (by (repeat (first | with_reducible assumption | with_reducible refine Src.alloc ?_ _ | with_reducible refine Src.drew ?_ | with_reducible refine Src.drewN ?_ _ | ((with_reducible refine Src.far ?_ ?_ ?_ _); (solve | omega | (simp; omega) | simp); (solve | omega | (simp; omega) | simp)) | ((with_reducible apply Src.on'); with_reducible assumption)))) (by omega)).mono ?_; rintro e w1 ⟨x1, rfl, hb1, hS1, hu1⟩; obtain ⟨hc1, hf1⟩ := hu1.rules; have hs1 := hu1.size; (try simp at hs1); have := (show g < w1.heap.size from by omega))
  (go_wp2_with fail; refine (s_l01Next (a := a) (A := A) (c := c) (bs := bs) _ _ (by (repeat (first | with_reducible assumption | with_reducible refine Src.alloc ?_ _ | with_reducible refine Src.drew ?_ | with_reducible refine Src.drewN ?_ _ | ((with_reducible refine Src.far ?_ ?_ ?_ _); (solve | omega | (simp; omega) | simp); (solve | omega | (simp; omega) | simp)) | ((with_reducible apply Src.on'); with_reducible assumption)))) (by omega)).mono ?_; rintro e w2 ⟨x2, rfl, hb2, hS2, hu2⟩; obtain ⟨hc2, hf2⟩ := hu2.rules; have hs2 := hu2.size; (try simp at hs2); have := (show g < w2.heap.size from by omega))
  (go_wp2_with fail; refine (s_l01Next (a := a) (A := A) (c := c) (bs := bs) _ _ (by (repeat (first | with_reducible assumption | with_reducible refine Src.alloc ?_ _ | with_reducible refine Src.drew ?_ | with_reducible refine Src.drewN ?_ _ | ((with_reducible refine Src.far ?_ ?_ ?_ _); (solve | omega | (simp; omega) | simp); (solve | omega | (simp; omega) | simp)) | ((with_reducible apply Src.on'); with_reducible assumption)))) (by omega)).mono ?_; rintro e w3 ⟨x3, rfl, hb3, hS3, hu3⟩; obtain ⟨hc3, hf3⟩ := hu3.rules; have hs3 := hu3.size; (try simp at hs3); have := (show g < w3.heap.size from by omega))
  go_wp2
  go_ret
  exact ⟨_, rfl, by (repeat (first | with_reducible assumption | with_reducible refine Src.alloc ?_ _ | with_reducible refine Src.drew ?_ | with_reducible refine Src.drewN ?_ _ | ((with_reducible refine Src.far ?_ ?_ ?_ _); (solve | omega | (simp; omega) | simp); (solve | omega | (simp; omega) | simp)) | ((with_reducible apply Src.on'); with_reducible assumption))), by (repeat (first | with_reducible exact But.refl _ _ | with_reducible assumption | with_reducible refine But.alloc ?_ _ | with_reducible refine But.drew ?_ | with_reducible refine But.drewN ?_ _ | with_reducible refine But.set_ ?_ _ _ | ((with_reducible refine But.new ?_ ?_ _); solve | omega | simp | (simp; omega)) | (with_reducible refine But.trans ?_ (by with_reducible assumption)) | (with_reducible refine But.trans ?_ (But.of (by with_reducible assumption)))))⟩

set_option maxHeartbeats 6400000 in
theorem s_DrawSharedEdges (A : Option Addr) (c : Nat) (bs : List Int) (w : World) (h : SlAt w 1 encB A bs) (hb : ∀ b ∈ bs, 0 ≤ b ∧ b ≤ 255) (hl : bs.length ≤ 4096) :
    Calls Try.prog 102 #[.slice A bs.length c] w fun e w' => ∃ (A' : Option Addr) (c' : Nat) (rs : List Rg) (x0 x1 : Int), e = .returned (.tuple #[.slice A' rs.length c', .int .i64 x0, .int .i64 x1]) ∧ SlAt w' 1 encR A' rs ∧ Rings w' rs ∧ rs.length ≤ c' ∧ rs.length ≤ 7 ∧ Ext w w' := by
  have HB := Lib.hid hb
  clear hb
  go_enter Try.func102, Try.ntmps102
  go_wp2_with fail
  refine (s_l01From _ _ bs _ (h.ext (by (repeat (first | with_reducible exact Ext.refl _ | with_reducible assumption | ((with_reducible apply Src.ext); with_reducible assumption) | with_reducible refine Ext.alloc ?_ _ | with_reducible refine Ext.drew ?_ | with_reducible refine Ext.drewN ?_ _ | ((with_reducible refine Ext.setCell' ?_ ?_ _); solve | omega | simp | (simp; omega)) | (with_reducible refine Ext.trans ?_ (by with_reducible assumption)))))) HB.out hl).mono ?_
  rintro e w0 ⟨g, rfl, hS0⟩
  obtain ⟨hg, hgl⟩ := src_facts hS0
  go_wp2_with fail
  refine (s_l17Draw (a := w) (A := A) (c := c) (bs := bs) _ hS0).mono ?_
  rintro e w1 ⟨A', c', rs, rfl, hR1, hc1, hl1, hN1, hA1, hS1, hu1⟩
  have hne : ∀ q, A' = some q → ¬ q.block = g := fun q hq => by have := hA1 q hq; omega
  have hrl : rs.length ≤ 1000 := by omega
  have HN1 := Lib.hid hN1
  have HNE := Lib.hid hne
  clear hN1 hA1 hu1 hS0 hne
  go_wp2_with fail
  refine (s_l17Index (a := w) (A := A) (c := c) (bs := bs) A' rs.length c' _ hS1 hrl).mono ?_
  rintro e w2 ⟨x0, rfl, hS2, hu2⟩
  have hR2 := hR1.butG hu2 HNE.out
  have HN2 := Lib.hid (HN1.out.but hu2 hgl)
  clear hu2
  go_wp2_with fail
  refine (s_l17Index (a := w) (A := A) (c := c) (bs := bs) A' rs.length c' _ hS2 hrl).mono ?_
  rintro e w3 ⟨x1, rfl, hS3, hu3⟩
  have hR3 := hR2.butG hu3 HNE.out
  have HN3 := Lib.hid (HN2.out.but hu3 hgl)
  clear hu3
  have HX := Lib.hid hS3.ext
  go_wp2
  go_ret3
  exact ⟨A', c', rs, x0, x1, rfl, hR3, HN3.out.rings, hc1, hl1, HX.out⟩

set_option maxHeartbeats 6400000 in
theorem s_DrawMergeAreas (A : Option Addr) (c : Nat) (bs : List Int) (w : World) (h : SlAt w 1 encB A bs) (hb : ∀ b ∈ bs, 0 ≤ b ∧ b ≤ 255) (hl : bs.length ≤ 4096) :
    Calls Try.prog 45 #[.slice A bs.length c] w fun e w' => ∃ (A' : Option Addr) (c' : Nat) (rs : List Rg) (x0 x1 : Int), e = .returned (.tuple #[.slice A' rs.length c', .int .i64 x0, .int .i64 x1]) ∧ SlAt w' 1 encR A' rs ∧ Rings w' rs ∧ rs.length ≤ c' ∧ rs.length ≤ 7 ∧ Ext w w' := by
  have HB := Lib.hid hb
  clear hb
  go_enter Try.func45, Try.ntmps45
  go_wp2_with fail
  refine (s_DrawSharedEdges _ _ bs _ (h.ext (by (repeat (first | with_reducible exact Ext.refl _ | with_reducible assumption | ((with_reducible apply Src.ext); with_reducible assumption) | with_reducible refine Ext.alloc ?_ _ | with_reducible refine Ext.drew ?_ | with_reducible refine Ext.drewN ?_ _ | ((with_reducible refine Ext.setCell' ?_ ?_ _); solve | omega | simp | (simp; omega)) | (with_reducible refine Ext.trans ?_ (by with_reducible assumption)))))) HB.out hl).mono ?_
  rintro e w1 ⟨A', c', rs, x0, x1, rfl, hS1, hR1, hc1, hl1, hx1⟩
  go_wp2
  go_ret3
  exact ⟨A', c', rs, x0, x1, rfl, hS1, hR1, hc1, hl1, by (repeat (first | with_reducible exact Ext.refl _ | with_reducible assumption | ((with_reducible apply Src.ext); with_reducible assumption) | with_reducible refine Ext.alloc ?_ _ | with_reducible refine Ext.drew ?_ | with_reducible refine Ext.drewN ?_ _ | ((with_reducible refine Ext.setCell' ?_ ?_ _); solve | omega | simp | (simp; omega)) | (with_reducible refine Ext.trans ?_ (by with_reducible assumption))))⟩

set_option maxHeartbeats 6400000 in
theorem s_DrawNeighboursOf (A : Option Addr) (c : Nat) (bs : List Int) (w : World) (h : SlAt w 1 encB A bs) (hb : ∀ b ∈ bs, 0 ≤ b ∧ b ≤ 255) (hl : bs.length ≤ 4096) :
    Calls Try.prog 48 #[.slice A bs.length c] w fun e w' => ∃ (A' : Option Addr) (c' : Nat) (rs : List Rg) (x0 : Int), e = .returned (.tuple #[.slice A' rs.length c', .int .i64 x0]) ∧ SlAt w' 1 encR A' rs ∧ Rings w' rs ∧ rs.length ≤ c' ∧ rs.length ≤ 7 ∧ Ext w w' := by
  have HB := Lib.hid hb
  clear hb
  go_enter Try.func48, Try.ntmps48
  go_wp2_with fail
  refine (s_l01From _ _ bs _ (h.ext (by (repeat (first | with_reducible exact Ext.refl _ | with_reducible assumption | ((with_reducible apply Src.ext); with_reducible assumption) | with_reducible refine Ext.alloc ?_ _ | with_reducible refine Ext.drew ?_ | with_reducible refine Ext.drewN ?_ _ | ((with_reducible refine Ext.setCell' ?_ ?_ _); solve | omega | simp | (simp; omega)) | (with_reducible refine Ext.trans ?_ (by with_reducible assumption)))))) HB.out hl).mono ?_
  rintro e w0 ⟨g, rfl, hS0⟩
  obtain ⟨hg, hgl⟩ := src_facts hS0
  go_wp2_with fail
  refine (s_l17Draw (a := w) (A := A) (c := c) (bs := bs) _ hS0).mono ?_
  rintro e w1 ⟨A', c', rs, rfl, hR1, hc1, hl1, hN1, hA1, hS1, hu1⟩
  have hne : ∀ q, A' = some q → ¬ q.block = g := fun q hq => by have := hA1 q hq; omega
  have hrl : rs.length ≤ 1000 := by omega
  have HN1 := Lib.hid hN1
  have HNE := Lib.hid hne
  clear hN1 hA1 hu1 hS0 hne
  go_wp2_with fail
  refine (s_l17Index (a := w) (A := A) (c := c) (bs := bs) A' rs.length c' _ hS1 hrl).mono ?_
  rintro e w2 ⟨x0, rfl, hS2, hu2⟩
  have hR2 := hR1.butG hu2 HNE.out
  have HN2 := Lib.hid (HN1.out.but hu2 hgl)
  clear hu2
  have HX := Lib.hid hS2.ext
  go_wp2
  go_ret2
  exact ⟨A', c', rs, x0, rfl, hR2, HN2.out.rings, hc1, hl1, HX.out⟩

set_option maxHeartbeats 6400000 in
theorem s_DrawOuterBoundary (A : Option Addr) (c : Nat) (bs : List Int) (w : World) (h : SlAt w 1 encB A bs) (hb : ∀ b ∈ bs, 0 ≤ b ∧ b ≤ 255) (hl : bs.length ≤ 4096) :
    Calls Try.prog 40 #[.slice A bs.length c] w fun e w' => ∃ (A' : Option Addr) (c' : Nat) (rs : List Rg), e = .returned (.slice A' rs.length c') ∧ SlAt w' 1 encR A' rs ∧ Rings w' rs ∧ rs.length ≤ c' ∧ rs.length ≤ 7 ∧ Ext w w' := by
  have HB := Lib.hid hb
  clear hb
  go_enter Try.func40, Try.ntmps40
  go_wp2_with fail
  refine (s_l01From _ _ bs _ (h.ext (by (repeat (first | with_reducible exact Ext.refl _ | with_reducible assumption | ((with_reducible apply Src.ext); with_reducible assumption) | with_reducible refine Ext.alloc ?_ _ | with_reducible refine Ext.drew ?_ | with_reducible refine Ext.drewN ?_ _ | ((with_reducible refine Ext.setCell' ?_ ?_ _); solve | omega | simp | (simp; omega)) | (with_reducible refine Ext.trans ?_ (by with_reducible assumption)))))) HB.out hl).mono ?_
  rintro e w0 ⟨g, rfl, hS0⟩
  obtain ⟨hg, hgl⟩ := src_facts hS0
  go_wp2_with fail
  refine (s_l17Draw (a := w) (A := A) (c := c) (bs := bs) _ hS0).mono ?_
  rintro e w1 ⟨A', c', rs, rfl, hR1, hc1, hl1, hN1, hA1, hS1, hu1⟩
  have hne : ∀ q, A' = some q → ¬ q.block = g := fun q hq => by have := hA1 q hq; omega
  have hrl : rs.length ≤ 1000 := by omega
  have HN1 := Lib.hid hN1
  have HNE := Lib.hid hne
  clear hN1 hA1 hu1 hS0 hne
  have HX := Lib.hid hS1.ext
  go_wp2
  go_ret
  exact ⟨A', c', rs, rfl, hR1, HN1.out.rings, hc1, hl1, HX.out⟩

end Go.Proofs.Yteppjdoggjcdoaa
