/- Contracts of the draws: lists of points, walked over the translation. -/
import Derived.Test.YtconoaphenahnaaAP
import Derived.Test.YtconoaphenahnaaM
import Derived.Deep.RegionHeld3
import Derived.Deep.DeepCutAuto
import Derived.RegionTactic
import Derived.BigRegion
import Derived.WalkLawsBesides
import Derived.WalkSpells
import Derived.Lib.MinMax
import Derived.Outline
namespace Go.Proofs.Ytconoaphenahnaa
open Go.RowKit
attribute [local go_sem] ExtOf.cell ExtOf.frozen








theorem madeCells_at (z : Array Value) (m i : Nat) (h : i < m) : (madeCells z m)[i]? = some z[i % z.size]! := by
  simp [madeCells, h]
theorem made_sl {w : World} {b n : Nat} {t : TypeId} (h : Blk w b t (madeCells #[.int .i64 0, .int .i64 0] (n * 2))) : SlAt w 2 encP (some ⟨b, 0, none⟩) (List.replicate n ((0 : Int), (0 : Int))) := fun _ => by
  refine ⟨b, 0, rfl, h.lt, fun i x hi j u hj => ?_⟩
  have hx : x = (0, 0) := List.eq_of_mem_replicate (List.mem_of_getElem? hi)
  have hin : i < n := by have := (List.getElem?_eq_some_iff.1 hi).1; simpa using this
  subst hx
  rw [h.cell]
  match j, hj with
  | 0, hj =>
    simp [encP] at hj
    subst hj
    rw [madeCells_at _ _ _ (by omega)]
    have e : (0 + i * 2 + 0) % 2 = 0 := by omega
    show some (#[Value.int .i64 0, Value.int .i64 0][(0 + i * 2 + 0) % 2]!) = _
    rw [e]; rfl
  | 1, hj =>
    simp [encP] at hj
    subst hj
    rw [madeCells_at _ _ _ (by omega)]
    have e : (0 + i * 2 + 1) % 2 = 1 := by omega
    show some (#[Value.int .i64 0, Value.int .i64 0][(0 + i * 2 + 1) % 2]!) = _
    rw [e]; rfl
theorem OwnP.add {w : World} {base : Nat} {v : Value} {ps : List (Int × Int)} {p : Int × Int} (h : w.ownsRow base 25 2 v (ps.length + 1) (ps.flatMap encP ++ [.int .i64 p.1, .int .i64 p.2])) : OwnP w base v (ps ++ [p]) := by
  unfold OwnP
  simpa [encP, List.flatMap_append] using h
set_option maxHeartbeats 6400000 in
theorem s_DrawBoxOf (A : Option Addr) (c : Nat) (bs : List Int) (w : World) (h : SlAt w 1 encB A bs) (hb : ∀ b ∈ bs, 0 ≤ b ∧ b ≤ 255) (hl : bs.length ≤ 4096) :
    Calls Try.prog 39 #[.slice A bs.length c] w fun e w' => ∃ (B : Option Addr) (d : Nat) (ps : List (Int × Int)), e = .returned (.slice B ps.length d) ∧ SlAt w' 2 encP B ps ∧ ps.length ≤ 61 ∧ ps.length ≤ d ∧ (∀ q, B = some q → w.heap.size ≤ q.block) ∧ Ext w w' := by
  obtain ⟨i0, hi, hz0, hz1, hz2⟩ := info_parts info_pt
  have HB := Lib.hid hb
  clear hb
  go_enter Try.func39, Try.ntmps39
  go_wp2_with fail
  refine (s_l01From _ _ bs _ (h.ext (by (repeat (first | with_reducible exact Ext.refl _ | with_reducible assumption | ((with_reducible apply Src.ext); with_reducible assumption) | with_reducible refine Ext.alloc ?_ _ | with_reducible refine Ext.drew ?_ | with_reducible refine Ext.drewN ?_ _ | ((with_reducible refine Ext.setCell' ?_ ?_ _); solve | omega | simp | (simp; omega)) | (with_reducible refine Ext.trans ?_ (by with_reducible assumption)))))) HB.out hl).mono ?_
  rintro e w0 ⟨g, rfl, hS0⟩
  obtain ⟨hg, hgl⟩ := src_facts hS0
  have hw00 := hS0.ext.size
  (go_wp2_with fail; refine (s_l01Next (a := w) (A := A) (c := c) (bs := bs) _ _ (by (repeat (first | with_reducible assumption | with_reducible refine Src.alloc ?_ _ | with_reducible refine Src.drew ?_ | with_reducible refine Src.drewN ?_ _ | ((with_reducible refine Src.far ?_ ?_ ?_ _); (solve | omega | (simp; omega) | simp); (solve | omega | (simp; omega) | simp)) | ((with_reducible apply Src.on'); with_reducible assumption)))) (by omega)).mono ?_; rintro e w1 ⟨x1, rfl, hb1, hS1, hu1⟩; obtain ⟨hc1, hf1⟩ := hu1.rules; have hs1 := hu1.size; (try simp at hs1); have := (show g < w1.heap.size from by omega))
  obtain ⟨m, rfl⟩ := Int.eq_ofNat_of_zero_le hb1.1
  have HO1 := Lib.hid (OwnP.but (World.ownsRow_made (base := w0.heap.size) (e := 25) (size := 2) w0 #[] 0 (Nat.le_refl _) (by simp) (by simp)) hu1 (by omega) : OwnP w1 w0.heap.size (.slice (some ⟨w0.heap.size, 0, none⟩) 0 0) [])
  have HS1 := Lib.hid hS1
  clear hc1 hf1 hS0
  go_wp2
  go_loopw [4, 5] (fun v n wr => ∃ (k : Nat) (ps : List (Int × Int)), n = .int .i64 k ∧ k + ps.length ≤ 6 ∧ Hid (OwnP wr w0.heap.size v ps) ∧ Hid (Src w A c bs g wr) ∧ w0.heap.size ≤ wr.heap.size) (fun _ n _ => (intOf n).toNat)
  case atStart => exact ⟨m, [], rfl, by simp; omega, HO1, HS1, by omega⟩
  case round =>
    obtain ⟨k, ps, rfl, hk, hO, hS, hw0⟩ := hrel
    have hSz := hS.out.lt
    by_cases h0 : k = 0
    · subst h0
      (go_wp2_with fail; refine (s_l01Next (a := w) (A := A) (c := c) (bs := bs) _ _ (by have := hS.out; (repeat (first | with_reducible assumption | with_reducible refine Src.alloc ?_ _ | with_reducible refine Src.drew ?_ | with_reducible refine Src.drewN ?_ _ | ((with_reducible refine Src.far ?_ ?_ ?_ _); (solve | omega | (simp; omega) | simp); (solve | omega | (simp; omega) | simp)) | ((with_reducible apply Src.on'); with_reducible assumption)))) (by omega)).mono ?_; rintro e w5 ⟨x5, rfl, hb5, hS5, hu5⟩; obtain ⟨hc5, hf5⟩ := hu5.rules; have hs5 := hu5.size; (try simp at hs5); have := (show g < w5.heap.size from by omega))
      have hO5 := Lib.hid (hO.out.but hu5 (by omega))
      by_cases hq : x5 = 0
      · subst hq
        (go_wp2_with fail; refine (s_l01Next (a := w) (A := A) (c := c) (bs := bs) _ _ (by (repeat (first | with_reducible assumption | with_reducible refine Src.alloc ?_ _ | with_reducible refine Src.drew ?_ | with_reducible refine Src.drewN ?_ _ | ((with_reducible refine Src.far ?_ ?_ ?_ _); (solve | omega | (simp; omega) | simp); (solve | omega | (simp; omega) | simp)) | ((with_reducible apply Src.on'); with_reducible assumption)))) (by omega)).mono ?_; rintro e w6 ⟨x6, rfl, hb6, hS6, hu6⟩; obtain ⟨hc6, hf6⟩ := hu6.rules; have hs6 := hu6.size; (try simp at hs6); have := (show g < w6.heap.size from by omega))
        obtain ⟨q, rfl⟩ := Int.eq_ofNat_of_zero_le hb6.1
        have hmk : ∀ u : World, (Instr.makeSlice 41 (.int .i64 (60 + (q : Int))) (.int .i64 (60 + (q : Int)))).run Try.prog u =
            .ok (.slice (some ⟨u.heap.size, 0, none⟩) (60 + q) (60 + q)) (u.alloc (.cells (madeCells #[.int .i64 0, .int .i64 0] ((60 + q) * 2)) 25)) := fun u => by
          have h := run_make (P := Try.prog) u 41 25 i0 (.agg #[.int .i64 0, .int .i64 0]) Try.underlying41 hi hz0 .i64 .i64 ((60 + q : Nat) : Int) ((60 + q : Nat) : Int) (by omega) (Int.le_refl _) (by rw [hz2]; omega) (by omega)
          have e : (60 + (q : Int)).toNat = 60 + q := by omega
          simpa [hz1, Value.cells, e] using h
        go_wp2
        go_ret
        exact ⟨some ⟨w6.heap.size, 0, none⟩, 60 + q, List.replicate (60 + q) (0, 0), by simp, made_sl (by (repeat (first | with_reducible assumption | ((with_reducible apply Blk.new); solve | simp | rfl) | with_reducible apply Blk.drew | with_reducible apply Blk.drewN | ((with_reducible apply Blk.far'); solve | omega | simp | (simp; omega)) | with_reducible apply Blk.set_ | with_reducible apply Blk.alloc | ((with_reducible apply Blk.ext'); with_reducible assumption) | ((with_reducible apply Blk.but'); (with_reducible assumption); solve | omega | (simp; omega))))), by simp; omega, by simp, (fun q e => by injection e with e; subst e; have h6 := hS6.ext.size; simpa using h6), by (repeat (first | with_reducible exact Ext.refl _ | with_reducible assumption | ((with_reducible apply Src.ext); with_reducible assumption) | with_reducible refine Ext.alloc ?_ _ | with_reducible refine Ext.drew ?_ | with_reducible refine Ext.drewN ?_ _ | ((with_reducible refine Ext.setCell' ?_ ?_ _); solve | omega | simp | (simp; omega)) | (with_reducible refine Ext.trans ?_ (by with_reducible assumption))))⟩
      · have hqb : (x5 == 0) = false := beq_eq_false_iff_ne.2 hq
        obtain ⟨B, d, rfl, hSl, hd, hbq⟩ := hO5.out.sl
        go_wp2
        go_ret
        exact ⟨B, d, ps, rfl, hSl, by omega, hd, fun q e => Nat.le_trans hw00 (hbq q e), by (repeat (first | with_reducible exact Ext.refl _ | with_reducible assumption | ((with_reducible apply Src.ext); with_reducible assumption) | with_reducible refine Ext.alloc ?_ _ | with_reducible refine Ext.drew ?_ | with_reducible refine Ext.drewN ?_ _ | ((with_reducible refine Ext.setCell' ?_ ?_ _); solve | omega | simp | (simp; omega)) | (with_reducible refine Ext.trans ?_ (by with_reducible assumption))))⟩
    · obtain ⟨k, rfl⟩ : ∃ q, k = q + 1 := ⟨k - 1, by omega⟩
      have hkz : (0 : Int) < ((k + 1 : Nat) : Int) := by omega
      (go_wp2_with fail; refine (s_l15Draw (a := w) (A := A) (c := c) (bs := bs) _ (by have := hS.out; (repeat (first | with_reducible assumption | with_reducible refine Src.alloc ?_ _ | with_reducible refine Src.drew ?_ | with_reducible refine Src.drewN ?_ _ | ((with_reducible refine Src.far ?_ ?_ ?_ _); (solve | omega | (simp; omega) | simp); (solve | omega | (simp; omega) | simp)) | ((with_reducible apply Src.on'); with_reducible assumption))))).mono ?_; rintro e w2 ⟨x2, rfl, hb2, hS2, hu2⟩; obtain ⟨hc2, hf2⟩ := hu2.rules; have hs2 := hu2.size; (try simp at hs2); have := (show g < w2.heap.size from by omega))
      have hO2 := Lib.hid (hO.out.but hu2 (by omega))
      have HS2 := Lib.hid hS2
      go_wp2_with (first
        | (at_builtin; refine wpList_append_own _ rfl _ _ 41 rfl w0.heap.size 25 i0 (.agg #[.int .i64 0, .int .i64 0]) 2 16 Try.underlying41 hi hz0 hz1 hz2 rfl (by decide) _ _ _ rfl (World.ownsRow.alloc hO2.out _) ⟨w2.heap.size, 0, none⟩ 1 1 [.int .i64 x2.1, .int .i64 x2.2] rfl rfl ?c1 ?c2 ?c3 ?c4 ?c5 ?_))
      case c1 =>
        intro j u hj
        match j, hj with
        | 0, hj => simp at hj; subst hj; simp [Addr.add]
        | 1, hj => simp at hj; subst hj; simp [Addr.add]
      case c2 => intro u hu; simp at hu; rcases hu with rfl | rfl <;> rfl
      case c3 => unfold maxLen; omega
      case c4 => omega
      case c5 => simp; omega
      · intro v' w3 hown' hgrow _
        have HO3 := Lib.hid (OwnP.add hown')
        have HS3 := Lib.hid (Src.grown (HS2.out.alloc _) hgrow (fun q hq => Nat.lt_of_lt_of_le hgl (World.ownsRow.lt hO2.out q hq).1))
        have hsz3 : w0.heap.size ≤ w3.heap.size := by have := hgrow.size; simp at this; omega
        clear hown' hgrow
        go_wp2
        go_roundw
        case rel => exact ⟨k, ps ++ [x2], congrArg (Value.int .i64) (by omega), by simp; omega, HO3, HS3, hsz3⟩
        case measure => first | (simp [intOf]; done) | (simp [intOf]; omega)

set_option maxHeartbeats 6400000 in
theorem s_DrawNearestPoint (A : Option Addr) (c : Nat) (bs : List Int) (w : World) (h : SlAt w 1 encB A bs) (hb : ∀ b ∈ bs, 0 ≤ b ∧ b ≤ 255) (hl : bs.length ≤ 4096) :
    Calls Try.prog 40 #[.slice A bs.length c] w fun e w' => ∃ (B : Option Addr) (d : Nat) (ps : List (Int × Int)) (p : Int × Int), e = .returned (.tuple #[.slice B ps.length d, .agg #[.int .i64 p.1, .int .i64 p.2]]) ∧ SlAt w' 2 encP B ps ∧ ps.length ≤ 61 ∧ ps.length ≤ d ∧ Ext w w' := by
  have HB := Lib.hid hb
  clear hb
  go_enter Try.func40, Try.ntmps40
  go_wp2_with fail
  refine (s_l01From _ _ bs _ (h.ext (by (repeat (first | with_reducible exact Ext.refl _ | with_reducible assumption | ((with_reducible apply Src.ext); with_reducible assumption) | with_reducible refine Ext.alloc ?_ _ | with_reducible refine Ext.drew ?_ | with_reducible refine Ext.drewN ?_ _ | ((with_reducible refine Ext.setCell' ?_ ?_ _); solve | omega | simp | (simp; omega)) | (with_reducible refine Ext.trans ?_ (by with_reducible assumption)))))) HB.out hl).mono ?_
  rintro e w0 ⟨g, rfl, hS0⟩
  obtain ⟨hg, hgl⟩ := src_facts hS0
  have hx0 := hS0.ext
  have B0 : Blk w0 w.heap.size 25 #[.int .i64 0, .int .i64 0] := Blk.eq (by (repeat (first | with_reducible assumption | ((with_reducible apply Blk.new); solve | simp | rfl) | with_reducible apply Blk.drew | with_reducible apply Blk.drewN | ((with_reducible apply Blk.far'); solve | omega | simp | (simp; omega)) | with_reducible apply Blk.set_ | with_reducible apply Blk.alloc | ((with_reducible apply Blk.ext'); with_reducible assumption) | ((with_reducible apply Blk.but'); (with_reducible assumption); solve | omega | (simp; omega))))) (by rfl)
  have hSw : Src w A c bs g w0 := hS0.base (by (repeat (first | with_reducible exact Ext.refl _ | with_reducible assumption | ((with_reducible apply Src.ext); with_reducible assumption) | with_reducible refine Ext.alloc ?_ _ | with_reducible refine Ext.drew ?_ | with_reducible refine Ext.drewN ?_ _ | ((with_reducible refine Ext.setCell' ?_ ?_ _); solve | omega | simp | (simp; omega)) | (with_reducible refine Ext.trans ?_ (by with_reducible assumption))))) h
  clear hS0
  have hxw : Ext w w0 := hSw.ext
  go_wp2_with fail
  refine (s_DrawBoxOf _ _ bs _ (h.ext hxw) HB.out hl).mono ?_
  rintro e w1 ⟨B, d, ps, rfl, hSl, hps, hd, hq, hx1⟩
  have B1 := B0.ext hx1
  have hSv := hSw.on hx1
  have hs1x := hx1.size
  simp at hg
  have hne : ¬ w.heap.size = g := by omega
  (go_wp2_with fail; refine (s_l15Draw (a := w) (A := A) (c := c) (bs := bs) _ (by (repeat (first | with_reducible assumption | with_reducible refine Src.alloc ?_ _ | with_reducible refine Src.drew ?_ | with_reducible refine Src.drewN ?_ _ | ((with_reducible refine Src.far ?_ ?_ ?_ _); (solve | omega | (simp; omega) | simp); (solve | omega | (simp; omega) | simp)) | ((with_reducible apply Src.on'); with_reducible assumption))))).mono ?_; rintro e w2 ⟨x2, rfl, hb2, hS2, hu2⟩; obtain ⟨hc2, hf2⟩ := hu2.rules; have hs2 := hu2.size; (try simp at hs2); have := (show g < w2.heap.size from by omega))
  have hSl2 := hSl.but hu2 (fun q e => by have := hq q e; omega)
  have B2 : Blk w2 w.heap.size 25 #[.int .i64 0, .int .i64 0] := B1.but' hu2 hne
  have f20 := B2.frozen 0
  have f21 := B2.frozen 1
  have c20 : w2.cell? ⟨w.heap.size, 0, none⟩ = some (.int .i64 0) := B2.cell 0
  have c21 : w2.cell? ⟨w.heap.size, 1, none⟩ = some (.int .i64 0) := B2.cell 1
  go_wp2
  refine ret_pts1 (b0 := w.heap.size) (t := 25) (v := .tuple #[.slice B ps.length d, .agg #[.int .i64 x2.1, .int .i64 x2.2]]) (Blk.eq (by (repeat (first | with_reducible assumption | ((with_reducible apply Blk.new); solve | simp | rfl) | with_reducible apply Blk.drew | with_reducible apply Blk.drewN | ((with_reducible apply Blk.far'); solve | omega | simp | (simp; omega)) | with_reducible apply Blk.set_ | with_reducible apply Blk.alloc | ((with_reducible apply Blk.ext'); with_reducible assumption) | ((with_reducible apply Blk.but'); (with_reducible assumption); solve | omega | (simp; omega))))) (by rfl)) rfl (by intro W' r0 r1; simp [results, Try.results40, go_sem, r0, r1]) ⟨B, d, ps, x2, rfl, hSl2.but (g := w.heap.size) (by (repeat (first | with_reducible exact But.refl _ _ | with_reducible assumption | with_reducible refine But.alloc ?_ _ | with_reducible refine But.drew ?_ | with_reducible refine But.drewN ?_ _ | with_reducible refine But.set_ ?_ _ _ | ((with_reducible refine But.new ?_ ?_ _); solve | omega | simp | (simp; omega)) | (with_reducible refine But.trans ?_ (by with_reducible assumption)) | (with_reducible refine But.trans ?_ (But.of (by with_reducible assumption)))))) (fun q e => by have := hq q e; omega), hps, hd, by (repeat (first | with_reducible exact Ext.refl _ | with_reducible assumption | ((with_reducible apply Src.ext); with_reducible assumption) | with_reducible refine Ext.alloc ?_ _ | with_reducible refine Ext.drew ?_ | with_reducible refine Ext.drewN ?_ _ | ((with_reducible refine Ext.setCell' ?_ ?_ _); solve | omega | simp | (simp; omega)) | (with_reducible refine Ext.trans ?_ (by with_reducible assumption))))⟩
end Go.Proofs.Ytconoaphenahnaa
