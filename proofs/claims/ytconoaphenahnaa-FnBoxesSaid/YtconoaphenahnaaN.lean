/- Contracts of the boxes and nearest points, walked over the translation. -/
import Derived.Test.YtconoaphenahnaaM
import Derived.RegionTactic
import Derived.BigRegion
import Derived.WalkLawsBesides
import Derived.WalkSpells
import Derived.Lib.MinMax
import Derived.Outline
namespace Go.Proofs.Ytconoaphenahnaa
open Go.RowKit
attribute [local go_sem] ExtOf.cell ExtOf.frozen




def ptsC (ps : List (Int × Int)) : Int := if oks ps then (if 60 < ps.length then 3 else if ps.length = 0 then 4 else 0) else 1
theorem i_pointsCode (A : Option Addr) (c : Nat) (ps : List (Int × Int)) (w : World) (h : SlAt w 2 encP A ps) (hl : ps.length ≤ 1048576) :
    Calls Try.prog 60 #[.slice A ps.length c] w fun e w' => e = .returned (.int .i64 (ptsC ps)) ∧ Ext w w' := by
  have har := i_arePoints A c ps w h hl
  rw [show (ps.all fun p => okP p.1 p.2) = oks ps from rfl] at har
  have HA := Lib.hid har
  clear har h
  go_enter Try.func60, Try.ntmps60
  go_wp2_with (first | (go_at_call 49; refine (HA.out).mono ?_; rintro e w1 ⟨rfl, hx1⟩; obtain ⟨hc1, hf1⟩ := hx1.rules; have hs1 := hx1.size; (try simp at hs1)))
  all_goals go_ret
  all_goals refine ⟨ret_int ?_, by (repeat (first | with_reducible exact Ext.refl _ | with_reducible assumption | ((with_reducible apply Src.ext); with_reducible assumption) | with_reducible refine Ext.alloc ?_ _ | with_reducible refine Ext.drew ?_ | with_reducible refine Ext.drewN ?_ _ | ((with_reducible refine Ext.setCell' ?_ ?_ _); solve | omega | simp | (simp; omega)) | (with_reducible refine Ext.trans ?_ (by with_reducible assumption))))⟩
  all_goals (unfold ptsC; simp_all; try omega)
theorem s_l15List (A : Option Addr) (c : Nat) (ps : List (Int × Int)) (w : World) (h : SlAt w 2 encP A ps) (hl : ps.length ≤ 1048576) :
    Calls Try.prog 59 #[.slice A ps.length c] w fun e w' => e = .returned (.int .i64 (ptsC ps)) ∧ Ext w w' := by
  have har := s_arePoints A c ps w h hl
  rw [show (ps.all fun p => okP p.1 p.2) = oks ps from rfl] at har
  have HA := Lib.hid har
  clear har h
  go_enter Try.func59, Try.ntmps59
  go_wp2_with (first | (go_at_call 47; refine (HA.out).mono ?_; rintro e w1 ⟨rfl, hx1⟩; obtain ⟨hc1, hf1⟩ := hx1.rules; have hs1 := hx1.size; (try simp at hs1)))
  all_goals go_ret
  all_goals refine ⟨ret_int ?_, by (repeat (first | with_reducible exact Ext.refl _ | with_reducible assumption | ((with_reducible apply Src.ext); with_reducible assumption) | with_reducible refine Ext.alloc ?_ _ | with_reducible refine Ext.drew ?_ | with_reducible refine Ext.drewN ?_ _ | ((with_reducible refine Ext.setCell' ?_ ?_ _); solve | omega | simp | (simp; omega)) | (with_reducible refine Ext.trans ?_ (by with_reducible assumption))))⟩
  all_goals (unfold ptsC; simp_all; try omega)
theorem fold_succ {f : Int × Int → Int × Int → Int × Int} {ps : List (Int × Int)} {k : Nat} {x z : Int} {a : Int × Int} (hk : k < ps.length) (h : Hid ((x, z) = (ps.take k).foldl f a)) : Hid (f (x, z) ps[k] = (ps.take (k + 1)).foldl f a) := by
  show _ = _
  rw [List.take_succ_eq_append_getElem hk, List.foldl_append, ← h.out]
  rfl
theorem fold_end {f : Int × Int → Int × Int → Int × Int} {ps : List (Int × Int)} {k : Nat} {x z : Int} {a : Int × Int} (hk : ps.length ≤ k) (h : Hid ((x, z) = (ps.take k).foldl f a)) : ps.foldl f a = (x, z) := by
  have := h.out
  rw [List.take_of_length_le hk] at this
  exact this.symm
theorem fold_start {f : Int × Int → Int × Int → Int × Int} {ps : List (Int × Int)} (h0 : 0 < ps.length) : Hid ((ps[0].1, ps[0].2) = (ps.take 0).foldl f (ps.headD (0, 0))) := by
  show _ = _
  cases ps with
  | nil => simp at h0
  | cons p ps => rfl
def lo (a p : Int × Int) : Int × Int := (min a.1 p.1, min a.2 p.2)
def hi (a p : Int × Int) : Int × Int := (max a.1 p.1, max a.2 p.2)
def boxLo (ps : List (Int × Int)) : Int × Int := ps.foldl lo (ps.headD (0, 0))
def boxHi (ps : List (Int × Int)) : Int × Int := ps.foldl hi (ps.headD (0, 0))
set_option maxHeartbeats 1600000 in
theorem i_boxOf (A : Option Addr) (c : Nat) (ps : List (Int × Int)) (w : World) (h : SlAt w 2 encP A ps) (hl : ps.length ≤ 60) (h0 : 0 < ps.length) :
    Calls Try.prog 61 #[.slice A ps.length c] w fun e w' => e = .returned (.tuple #[.agg #[.int .i64 (boxLo ps).1, .int .i64 (boxLo ps).2], .agg #[.int .i64 (boxHi ps).1, .int .i64 (boxHi ps).2]]) ∧ Ext w w' := by
  obtain ⟨b, off, rfl, hb, c0, c1⟩ := h.pt h0
  simp only [Nat.zero_mul, Nat.add_zero] at c0 c1
  (have := (show b < w.heap.size + 1 from by omega); have := (show b < w.heap.size + 1 + 1 from by omega); have := (show b < w.heap.size + 1 + 1 + 1 from by omega); have := (show b < w.heap.size + 1 + 1 + 1 + 1 from by omega); have := (show b < w.heap.size + 1 + 1 + 1 + 1 + 1 from by omega))
  go_enter Try.func61, Try.ntmps61
  go_wp2
  go_region
  · go_wp2
    go_loopw [16] (fun i wr => ∃ (k : Nat) (lx lz hx hz : Int), k ≤ ps.length ∧ i = .int .i64 k ∧ Hid ((lx, lz) = (ps.take k).foldl lo (ps.headD (0, 0))) ∧ Hid ((hx, hz) = (ps.take k).foldl hi (ps.headD (0, 0))) ∧
      Blk wr (w.heap.size + 1 + 1) 25 #[.int .i64 lx, .int .i64 lz] ∧ Blk wr (w.heap.size + 1 + 1 + 1) 25 #[.int .i64 hx, .int .i64 hz] ∧ Blk wr (w.heap.size) 25 #[.int .i64 0, .int .i64 0] ∧ Blk wr (w.heap.size + 1) 25 #[.int .i64 0, .int .i64 0] ∧ Ext w wr) (fun i _ => ps.length - (intOf i).toNat)
    case atStart => exact ⟨0, ps[0].1, ps[0].2, ps[0].1, ps[0].2, Nat.zero_le _, rfl, fold_start h0, fold_start h0, Blk.eq (by (repeat (first | with_reducible assumption | ((with_reducible apply Blk.new); solve | simp | rfl) | with_reducible apply Blk.drew | with_reducible apply Blk.drewN | ((with_reducible apply Blk.far'); solve | omega | simp | (simp; omega)) | with_reducible apply Blk.set_ | with_reducible apply Blk.alloc | ((with_reducible apply Blk.ext'); with_reducible assumption) | ((with_reducible apply Blk.but'); (with_reducible assumption); solve | omega | (simp; omega))))) (by rfl), Blk.eq (by (repeat (first | with_reducible assumption | ((with_reducible apply Blk.new); solve | simp | rfl) | with_reducible apply Blk.drew | with_reducible apply Blk.drewN | ((with_reducible apply Blk.far'); solve | omega | simp | (simp; omega)) | with_reducible apply Blk.set_ | with_reducible apply Blk.alloc | ((with_reducible apply Blk.ext'); with_reducible assumption) | ((with_reducible apply Blk.but'); (with_reducible assumption); solve | omega | (simp; omega))))) (by rfl), Blk.eq (by (repeat (first | with_reducible assumption | ((with_reducible apply Blk.new); solve | simp | rfl) | with_reducible apply Blk.drew | with_reducible apply Blk.drewN | ((with_reducible apply Blk.far'); solve | omega | simp | (simp; omega)) | with_reducible apply Blk.set_ | with_reducible apply Blk.alloc | ((with_reducible apply Blk.ext'); with_reducible assumption) | ((with_reducible apply Blk.but'); (with_reducible assumption); solve | omega | (simp; omega))))) (by rfl), Blk.eq (by (repeat (first | with_reducible assumption | ((with_reducible apply Blk.new); solve | simp | rfl) | with_reducible apply Blk.drew | with_reducible apply Blk.drewN | ((with_reducible apply Blk.far'); solve | omega | simp | (simp; omega)) | with_reducible apply Blk.set_ | with_reducible apply Blk.alloc | ((with_reducible apply Blk.ext'); with_reducible assumption) | ((with_reducible apply Blk.but'); (with_reducible assumption); solve | omega | (simp; omega))))) (by rfl), by (repeat (first | with_reducible exact Ext.refl _ | with_reducible assumption | ((with_reducible apply Src.ext); with_reducible assumption) | with_reducible refine Ext.alloc ?_ _ | with_reducible refine Ext.drew ?_ | with_reducible refine Ext.drewN ?_ _ | ((with_reducible refine Ext.setCell' ?_ ?_ _); solve | omega | simp | (simp; omega)) | (with_reducible refine Ext.trans ?_ (by with_reducible assumption))))⟩
    case round =>
      obtain ⟨k, lx, lz, hx, hz, hk, rfl, HL, HH, bL, bH, b0, b1, hxw⟩ := hrel
      have l0 : wr.cell? ⟨w.heap.size + 1 + 1, 0, none⟩ = some (.int .i64 lx) := bL.cell 0
      have l1 : wr.cell? ⟨w.heap.size + 1 + 1, 1, none⟩ = some (.int .i64 lz) := bL.cell 1
      have g0 : wr.cell? ⟨w.heap.size + 1 + 1 + 1, 0, none⟩ = some (.int .i64 hx) := bH.cell 0
      have g1 : wr.cell? ⟨w.heap.size + 1 + 1 + 1, 1, none⟩ = some (.int .i64 hz) := bH.cell 1
      have lf0 := bL.frozen 0
      have lf1 := bL.frozen 1
      have gf0 := bH.frozen 0
      have gf1 := bH.frozen 1
      have s1 := bL.lt
      have s2 := bH.lt
      by_cases hlt : k < ps.length
      · obtain ⟨d0, d1⟩ := (h.ext hxw).pt' hlt
        have hbr := (show b < wr.heap.size from by have := hxw.size; omega)
        go_wp2
        go_roundw
        case rel => exact ⟨k + 1, _, _, _, _, by omega, by go_num, fold_succ hlt HL, fold_succ hlt HH, Blk.eq (by (repeat (first | with_reducible assumption | ((with_reducible apply Blk.new); solve | simp | rfl) | with_reducible apply Blk.drew | with_reducible apply Blk.drewN | ((with_reducible apply Blk.far'); solve | omega | simp | (simp; omega)) | with_reducible apply Blk.set_ | with_reducible apply Blk.alloc | ((with_reducible apply Blk.ext'); with_reducible assumption) | ((with_reducible apply Blk.but'); (with_reducible assumption); solve | omega | (simp; omega))))) (by rfl), Blk.eq (by (repeat (first | with_reducible assumption | ((with_reducible apply Blk.new); solve | simp | rfl) | with_reducible apply Blk.drew | with_reducible apply Blk.drewN | ((with_reducible apply Blk.far'); solve | omega | simp | (simp; omega)) | with_reducible apply Blk.set_ | with_reducible apply Blk.alloc | ((with_reducible apply Blk.ext'); with_reducible assumption) | ((with_reducible apply Blk.but'); (with_reducible assumption); solve | omega | (simp; omega))))) (by rfl), Blk.eq (by (repeat (first | with_reducible assumption | ((with_reducible apply Blk.new); solve | simp | rfl) | with_reducible apply Blk.drew | with_reducible apply Blk.drewN | ((with_reducible apply Blk.far'); solve | omega | simp | (simp; omega)) | with_reducible apply Blk.set_ | with_reducible apply Blk.alloc | ((with_reducible apply Blk.ext'); with_reducible assumption) | ((with_reducible apply Blk.but'); (with_reducible assumption); solve | omega | (simp; omega))))) (by rfl), Blk.eq (by (repeat (first | with_reducible assumption | ((with_reducible apply Blk.new); solve | simp | rfl) | with_reducible apply Blk.drew | with_reducible apply Blk.drewN | ((with_reducible apply Blk.far'); solve | omega | simp | (simp; omega)) | with_reducible apply Blk.set_ | with_reducible apply Blk.alloc | ((with_reducible apply Blk.ext'); with_reducible assumption) | ((with_reducible apply Blk.but'); (with_reducible assumption); solve | omega | (simp; omega))))) (by rfl), by (repeat (first | with_reducible exact Ext.refl _ | with_reducible assumption | ((with_reducible apply Src.ext); with_reducible assumption) | with_reducible refine Ext.alloc ?_ _ | with_reducible refine Ext.drew ?_ | with_reducible refine Ext.drewN ?_ _ | ((with_reducible refine Ext.setCell' ?_ ?_ _); solve | omega | simp | (simp; omega)) | (with_reducible refine Ext.trans ?_ (by with_reducible assumption))))⟩
        case measure => simp [intOf]; omega
      · have r0 : wr.cell? ⟨w.heap.size, 0, none⟩ = some (.int .i64 0) := b0.cell 0
        have r1 : wr.cell? ⟨w.heap.size, 1, none⟩ = some (.int .i64 0) := b0.cell 1
        have q0 : wr.cell? ⟨w.heap.size + 1, 0, none⟩ = some (.int .i64 0) := b1.cell 0
        have q1 : wr.cell? ⟨w.heap.size + 1, 1, none⟩ = some (.int .i64 0) := b1.cell 1
        have rf0 := b0.frozen 0
        have rf1 := b0.frozen 1
        have qf0 := b1.frozen 0
        have qf1 := b1.frozen 1
        go_wp2
        go_region
        all_goals go_wp2
        all_goals refine bodyPost_ret (v := .tuple #[.agg #[.int .i64 lx, .int .i64 lz], .agg #[.int .i64 hx, .int .i64 hz]]) (by simp [results, Try.results61, go_sem, r0, r1, q0, q1]) rfl ⟨?_, by (repeat (first | with_reducible exact Ext.refl _ | with_reducible assumption | ((with_reducible apply Src.ext); with_reducible assumption) | with_reducible refine Ext.alloc ?_ _ | with_reducible refine Ext.drew ?_ | with_reducible refine Ext.drewN ?_ _ | ((with_reducible refine Ext.setCell' ?_ ?_ _); solve | omega | simp | (simp; omega)) | (with_reducible refine Ext.trans ?_ (by with_reducible assumption))))⟩
        all_goals (unfold boxLo boxHi; rw [fold_end (by omega) HL, fold_end (by omega) HH])
  · go_wp2
    go_loopw [16] (fun i wr => ∃ (k : Nat) (lx lz hx hz : Int), k ≤ ps.length ∧ i = .int .i64 k ∧ Hid ((lx, lz) = (ps.take k).foldl lo (ps.headD (0, 0))) ∧ Hid ((hx, hz) = (ps.take k).foldl hi (ps.headD (0, 0))) ∧
      Blk wr (w.heap.size + 1 + 1 + 1) 25 #[.int .i64 lx, .int .i64 lz] ∧ Blk wr (w.heap.size + 1 + 1) 25 #[.int .i64 hx, .int .i64 hz] ∧ Blk wr (w.heap.size) 25 #[.int .i64 0, .int .i64 0] ∧ Blk wr (w.heap.size + 1) 25 #[.int .i64 0, .int .i64 0] ∧ Ext w wr) (fun i _ => ps.length - (intOf i).toNat)
    case atStart => exact ⟨0, ps[0].1, ps[0].2, ps[0].1, ps[0].2, Nat.zero_le _, rfl, fold_start h0, fold_start h0, Blk.eq (by (repeat (first | with_reducible assumption | ((with_reducible apply Blk.new); solve | simp | rfl) | with_reducible apply Blk.drew | with_reducible apply Blk.drewN | ((with_reducible apply Blk.far'); solve | omega | simp | (simp; omega)) | with_reducible apply Blk.set_ | with_reducible apply Blk.alloc | ((with_reducible apply Blk.ext'); with_reducible assumption) | ((with_reducible apply Blk.but'); (with_reducible assumption); solve | omega | (simp; omega))))) (by rfl), Blk.eq (by (repeat (first | with_reducible assumption | ((with_reducible apply Blk.new); solve | simp | rfl) | with_reducible apply Blk.drew | with_reducible apply Blk.drewN | ((with_reducible apply Blk.far'); solve | omega | simp | (simp; omega)) | with_reducible apply Blk.set_ | with_reducible apply Blk.alloc | ((with_reducible apply Blk.ext'); with_reducible assumption) | ((with_reducible apply Blk.but'); (with_reducible assumption); solve | omega | (simp; omega))))) (by rfl), Blk.eq (by (repeat (first | with_reducible assumption | ((with_reducible apply Blk.new); solve | simp | rfl) | with_reducible apply Blk.drew | with_reducible apply Blk.drewN | ((with_reducible apply Blk.far'); solve | omega | simp | (simp; omega)) | with_reducible apply Blk.set_ | with_reducible apply Blk.alloc | ((with_reducible apply Blk.ext'); with_reducible assumption) | ((with_reducible apply Blk.but'); (with_reducible assumption); solve | omega | (simp; omega))))) (by rfl), Blk.eq (by (repeat (first | with_reducible assumption | ((with_reducible apply Blk.new); solve | simp | rfl) | with_reducible apply Blk.drew | with_reducible apply Blk.drewN | ((with_reducible apply Blk.far'); solve | omega | simp | (simp; omega)) | with_reducible apply Blk.set_ | with_reducible apply Blk.alloc | ((with_reducible apply Blk.ext'); with_reducible assumption) | ((with_reducible apply Blk.but'); (with_reducible assumption); solve | omega | (simp; omega))))) (by rfl), by (repeat (first | with_reducible exact Ext.refl _ | with_reducible assumption | ((with_reducible apply Src.ext); with_reducible assumption) | with_reducible refine Ext.alloc ?_ _ | with_reducible refine Ext.drew ?_ | with_reducible refine Ext.drewN ?_ _ | ((with_reducible refine Ext.setCell' ?_ ?_ _); solve | omega | simp | (simp; omega)) | (with_reducible refine Ext.trans ?_ (by with_reducible assumption))))⟩
    case round =>
      obtain ⟨k, lx, lz, hx, hz, hk, rfl, HL, HH, bL, bH, b0, b1, hxw⟩ := hrel
      have l0 : wr.cell? ⟨w.heap.size + 1 + 1 + 1, 0, none⟩ = some (.int .i64 lx) := bL.cell 0
      have l1 : wr.cell? ⟨w.heap.size + 1 + 1 + 1, 1, none⟩ = some (.int .i64 lz) := bL.cell 1
      have g0 : wr.cell? ⟨w.heap.size + 1 + 1, 0, none⟩ = some (.int .i64 hx) := bH.cell 0
      have g1 : wr.cell? ⟨w.heap.size + 1 + 1, 1, none⟩ = some (.int .i64 hz) := bH.cell 1
      have lf0 := bL.frozen 0
      have lf1 := bL.frozen 1
      have gf0 := bH.frozen 0
      have gf1 := bH.frozen 1
      have s1 := bL.lt
      have s2 := bH.lt
      by_cases hlt : k < ps.length
      · obtain ⟨d0, d1⟩ := (h.ext hxw).pt' hlt
        have hbr := (show b < wr.heap.size from by have := hxw.size; omega)
        go_wp2
        go_roundw
        case rel => exact ⟨k + 1, _, _, _, _, by omega, by go_num, fold_succ hlt HL, fold_succ hlt HH, Blk.eq (by (repeat (first | with_reducible assumption | ((with_reducible apply Blk.new); solve | simp | rfl) | with_reducible apply Blk.drew | with_reducible apply Blk.drewN | ((with_reducible apply Blk.far'); solve | omega | simp | (simp; omega)) | with_reducible apply Blk.set_ | with_reducible apply Blk.alloc | ((with_reducible apply Blk.ext'); with_reducible assumption) | ((with_reducible apply Blk.but'); (with_reducible assumption); solve | omega | (simp; omega))))) (by rfl), Blk.eq (by (repeat (first | with_reducible assumption | ((with_reducible apply Blk.new); solve | simp | rfl) | with_reducible apply Blk.drew | with_reducible apply Blk.drewN | ((with_reducible apply Blk.far'); solve | omega | simp | (simp; omega)) | with_reducible apply Blk.set_ | with_reducible apply Blk.alloc | ((with_reducible apply Blk.ext'); with_reducible assumption) | ((with_reducible apply Blk.but'); (with_reducible assumption); solve | omega | (simp; omega))))) (by rfl), Blk.eq (by (repeat (first | with_reducible assumption | ((with_reducible apply Blk.new); solve | simp | rfl) | with_reducible apply Blk.drew | with_reducible apply Blk.drewN | ((with_reducible apply Blk.far'); solve | omega | simp | (simp; omega)) | with_reducible apply Blk.set_ | with_reducible apply Blk.alloc | ((with_reducible apply Blk.ext'); with_reducible assumption) | ((with_reducible apply Blk.but'); (with_reducible assumption); solve | omega | (simp; omega))))) (by rfl), Blk.eq (by (repeat (first | with_reducible assumption | ((with_reducible apply Blk.new); solve | simp | rfl) | with_reducible apply Blk.drew | with_reducible apply Blk.drewN | ((with_reducible apply Blk.far'); solve | omega | simp | (simp; omega)) | with_reducible apply Blk.set_ | with_reducible apply Blk.alloc | ((with_reducible apply Blk.ext'); with_reducible assumption) | ((with_reducible apply Blk.but'); (with_reducible assumption); solve | omega | (simp; omega))))) (by rfl), by (repeat (first | with_reducible exact Ext.refl _ | with_reducible assumption | ((with_reducible apply Src.ext); with_reducible assumption) | with_reducible refine Ext.alloc ?_ _ | with_reducible refine Ext.drew ?_ | with_reducible refine Ext.drewN ?_ _ | ((with_reducible refine Ext.setCell' ?_ ?_ _); solve | omega | simp | (simp; omega)) | (with_reducible refine Ext.trans ?_ (by with_reducible assumption))))⟩
        case measure => simp [intOf]; omega
      · have r0 : wr.cell? ⟨w.heap.size, 0, none⟩ = some (.int .i64 0) := b0.cell 0
        have r1 : wr.cell? ⟨w.heap.size, 1, none⟩ = some (.int .i64 0) := b0.cell 1
        have q0 : wr.cell? ⟨w.heap.size + 1, 0, none⟩ = some (.int .i64 0) := b1.cell 0
        have q1 : wr.cell? ⟨w.heap.size + 1, 1, none⟩ = some (.int .i64 0) := b1.cell 1
        have rf0 := b0.frozen 0
        have rf1 := b0.frozen 1
        have qf0 := b1.frozen 0
        have qf1 := b1.frozen 1
        go_wp2
        go_region
        all_goals go_wp2
        all_goals refine bodyPost_ret (v := .tuple #[.agg #[.int .i64 lx, .int .i64 lz], .agg #[.int .i64 hx, .int .i64 hz]]) (by simp [results, Try.results61, go_sem, r0, r1, q0, q1]) rfl ⟨?_, by (repeat (first | with_reducible exact Ext.refl _ | with_reducible assumption | ((with_reducible apply Src.ext); with_reducible assumption) | with_reducible refine Ext.alloc ?_ _ | with_reducible refine Ext.drew ?_ | with_reducible refine Ext.drewN ?_ _ | ((with_reducible refine Ext.setCell' ?_ ?_ _); solve | omega | simp | (simp; omega)) | (with_reducible refine Ext.trans ?_ (by with_reducible assumption))))⟩
        all_goals (unfold boxLo boxHi; rw [fold_end (by omega) HL, fold_end (by omega) HH])
end Go.Proofs.Ytconoaphenahnaa
