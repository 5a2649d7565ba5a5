/- Words and codes of places that are drawn. -/
import Derived.Test.YtmpgjajkaehdiaaGreatDoorWI
namespace Go.Proofs.YtmpgjajkaehdiaaGreatDoor
open Go.RowKit

set_option maxRecDepth 20000 in
set_option maxHeartbeats 6400000 in
theorem s_l01DrawWord {a : World} {A : Option Addr} {c : Nat} {bs : List Int} {g : Nat} (w : World) (h : Src a A c bs g w) :
    Calls Tryz.prog 112 #[.pointer (some ⟨g, 0, none⟩)] w fun e w' => ∃ t : List UInt8, e = .returned (.string (tx t)) ∧ t.length ≤ 17 ∧ Src a A c bs g w' ∧ But g w w' := by
  have hlt := h.lt
  have how := h.own
  have hasz := h.ext.size
  go_enter Tryz.func112, Tryz.ntmps112
  (go_wp2_with fail; refine (s_l01Next (a := a) (A := A) (c := c) (bs := bs) _ _ (by (repeat (first | with_reducible assumption | with_reducible refine Src.alloc ?_ _ | with_reducible refine Src.drew ?_ | with_reducible refine Src.drewN ?_ _ | ((with_reducible refine Src.far ?_ ?_ ?_ _); (solve | omega | (simp; omega) | simp); (solve | omega | (simp; omega) | simp)) | ((with_reducible apply Src.on'); with_reducible assumption)))) (by omega)).mono ?_; rintro e w1 ⟨x1, rfl, hb1, hS1, hu1⟩; obtain ⟨hc1, hf1⟩ := hu1.rules; have hs1 := hu1.size; (try simp at hs1); have := (show g < w1.heap.size from by omega))
  by_cases q0 : x1 = 0
  · subst q0
    (go_wp2_with fail; refine (s_l01Next (a := a) (A := A) (c := c) (bs := bs) _ _ (by (repeat (first | with_reducible assumption | with_reducible refine Src.alloc ?_ _ | with_reducible refine Src.drew ?_ | with_reducible refine Src.drewN ?_ _ | ((with_reducible refine Src.far ?_ ?_ ?_ _); (solve | omega | (simp; omega) | simp); (solve | omega | (simp; omega) | simp)) | ((with_reducible apply Src.on'); with_reducible assumption)))) (by omega)).mono ?_; rintro e w3 ⟨x3, rfl, hb3, hS3, hu3⟩; obtain ⟨hc3, hf3⟩ := hu3.rules; have hs3 := hu3.size; (try simp at hs3); have := (show g < w3.heap.size from by omega); have := (show w1.heap.size < w3.heap.size from by omega))
    obtain ⟨j, rfl⟩ := Int.eq_ofNat_of_zero_le hb3.1
    have hj : j < 6 := by omega
    have hP : Blk w3 w1.heap.size 9 #[.string (tx []), .string (tx [70, 111, 114, 100]), .string (tx [97, 49]), .string (tx [97, 98, 99, 100, 101, 102, 103, 104, 105, 106, 107, 108, 109, 110, 111, 112]), .string (tx [97, 98, 99, 100, 101, 102, 103, 104, 105, 106, 107, 108, 109, 110, 111, 112, 113]), .string (tx [97, 32, 98])] := Blk.eq (by (repeat (first | with_reducible assumption | ((with_reducible apply Blk.new); solve | simp | rfl) | with_reducible apply Blk.drew | with_reducible apply Blk.drewN | ((with_reducible apply Blk.far'); solve | omega | simp | (simp; omega)) | with_reducible apply Blk.set_ | with_reducible apply Blk.alloc | ((with_reducible apply Blk.ext'); with_reducible assumption) | ((with_reducible apply Blk.but'); (with_reducible assumption); solve | omega | (simp; omega))))) (by rfl)
    have hcell : ∃ t : List UInt8, t.length ≤ 17 ∧ w3.cell? ⟨w1.heap.size, j, none⟩ = some (.string (tx t)) := by
      rcases (show j = 0 ∨ j = 1 ∨ j = 2 ∨ j = 3 ∨ j = 4 ∨ j = 5 by omega) with rfl | rfl | rfl | rfl | rfl | rfl
      · exact ⟨_, by decide, hP.cell 0⟩
      · exact ⟨_, by decide, hP.cell 1⟩
      · exact ⟨_, by decide, hP.cell 2⟩
      · exact ⟨_, by decide, hP.cell 3⟩
      · exact ⟨_, by decide, hP.cell 4⟩
      · exact ⟨_, by decide, hP.cell 5⟩
    obtain ⟨t, ht, hcell⟩ := hcell
    clear hP
    have HF := Lib.hid hS3
    go_wp2
    go_ret
    exact ⟨t, rfl, ht, HF.out, by (repeat (first | with_reducible exact But.refl _ _ | with_reducible assumption | with_reducible refine But.alloc ?_ _ | with_reducible refine But.drew ?_ | with_reducible refine But.drewN ?_ _ | with_reducible refine But.set_ ?_ _ _ | ((with_reducible refine But.new ?_ ?_ _); solve | omega | simp | (simp; omega)) | (with_reducible refine But.trans ?_ (by with_reducible assumption)) | (with_reducible refine But.trans ?_ (But.of (by with_reducible assumption)))))⟩
  · have e0 : (x1 == 0) = false := beq_eq_false_iff_ne.2 q0
    (go_wp2_with fail; refine (s_l01Good (a := a) (A := A) (c := c) (bs := bs) _ (by (repeat (first | with_reducible assumption | with_reducible refine Src.alloc ?_ _ | with_reducible refine Src.drew ?_ | with_reducible refine Src.drewN ?_ _ | ((with_reducible refine Src.far ?_ ?_ ?_ _); (solve | omega | (simp; omega) | simp); (solve | omega | (simp; omega) | simp)) | ((with_reducible apply Src.on'); with_reducible assumption))))).mono ?_; rintro e w2 ⟨x2, rfl, hb2, hS2, hu2⟩; obtain ⟨hc2, hf2⟩ := hu2.rules; have hs2 := hu2.size; (try simp at hs2); have := (show g < w2.heap.size from by omega))
    go_wp2
    go_ret
    exact ⟨x2, rfl, by omega, by (repeat (first | with_reducible assumption | with_reducible refine Src.alloc ?_ _ | with_reducible refine Src.drew ?_ | with_reducible refine Src.drewN ?_ _ | ((with_reducible refine Src.far ?_ ?_ ?_ _); (solve | omega | (simp; omega) | simp); (solve | omega | (simp; omega) | simp)) | ((with_reducible apply Src.on'); with_reducible assumption))), by (repeat (first | with_reducible exact But.refl _ _ | with_reducible assumption | with_reducible refine But.alloc ?_ _ | with_reducible refine But.drew ?_ | with_reducible refine But.drewN ?_ _ | with_reducible refine But.set_ ?_ _ _ | ((with_reducible refine But.new ?_ ?_ _); solve | omega | simp | (simp; omega)) | (with_reducible refine But.trans ?_ (by with_reducible assumption)) | (with_reducible refine But.trans ?_ (But.of (by with_reducible assumption)))))⟩

set_option maxRecDepth 20000 in
set_option maxHeartbeats 6400000 in
theorem s_l12DrawCode {a : World} {A : Option Addr} {c : Nat} {bs : List Int} {g : Nat} (w : World) (h : Src a A c bs g w) :
    Calls Tryz.prog 49 #[.pointer (some ⟨g, 0, none⟩)] w fun e w' => ∃ t : List UInt8, e = .returned (.string (tx t)) ∧ t.length ≤ 4 ∧ Src a A c bs g w' ∧ But g w w' := by
  have hlt := h.lt
  have how := h.own
  have hasz := h.ext.size
  go_enter Tryz.func49, Tryz.ntmps49
  (go_wp2_with fail; refine (s_l01Next (a := a) (A := A) (c := c) (bs := bs) _ _ (by (repeat (first | with_reducible assumption | with_reducible refine Src.alloc ?_ _ | with_reducible refine Src.drew ?_ | with_reducible refine Src.drewN ?_ _ | ((with_reducible refine Src.far ?_ ?_ ?_ _); (solve | omega | (simp; omega) | simp); (solve | omega | (simp; omega) | simp)) | ((with_reducible apply Src.on'); with_reducible assumption)))) (by omega)).mono ?_; rintro e w3 ⟨x3, rfl, hb3, hS3, hu3⟩; obtain ⟨hc3, hf3⟩ := hu3.rules; have hs3 := hu3.size; (try simp at hs3); have := (show g < w3.heap.size from by omega); have := (show w.heap.size < w3.heap.size from by omega))
  obtain ⟨j, rfl⟩ := Int.eq_ofNat_of_zero_le hb3.1
  have hj : j < 11 := by omega
  have hP : Blk w3 w.heap.size 9 #[.string (tx [97, 115, 104]), .string (tx [98, 114, 105, 103]), .string (tx [99, 111, 114, 107]), .string (tx [100, 101, 118, 97]), .string (tx [101, 108, 121]), .string (tx [102, 105, 102, 101]), .string (tx [103, 97, 116, 101]), .string (tx [104, 117, 108, 108]), .string (tx [122, 101, 100]), .string (tx []), .string (tx [69, 108, 121])] := Blk.eq (by (repeat (first | with_reducible assumption | ((with_reducible apply Blk.new); solve | simp | rfl) | with_reducible apply Blk.drew | with_reducible apply Blk.drewN | ((with_reducible apply Blk.far'); solve | omega | simp | (simp; omega)) | with_reducible apply Blk.set_ | with_reducible apply Blk.alloc | ((with_reducible apply Blk.ext'); with_reducible assumption) | ((with_reducible apply Blk.but'); (with_reducible assumption); solve | omega | (simp; omega))))) (by rfl)
  have hcell : ∃ t : List UInt8, t.length ≤ 4 ∧ w3.cell? ⟨w.heap.size, j, none⟩ = some (.string (tx t)) := by
    rcases (show j = 0 ∨ j = 1 ∨ j = 2 ∨ j = 3 ∨ j = 4 ∨ j = 5 ∨ j = 6 ∨ j = 7 ∨ j = 8 ∨ j = 9 ∨ j = 10 by omega) with rfl | rfl | rfl | rfl | rfl | rfl | rfl | rfl | rfl | rfl | rfl
    · exact ⟨_, by decide, hP.cell 0⟩
    · exact ⟨_, by decide, hP.cell 1⟩
    · exact ⟨_, by decide, hP.cell 2⟩
    · exact ⟨_, by decide, hP.cell 3⟩
    · exact ⟨_, by decide, hP.cell 4⟩
    · exact ⟨_, by decide, hP.cell 5⟩
    · exact ⟨_, by decide, hP.cell 6⟩
    · exact ⟨_, by decide, hP.cell 7⟩
    · exact ⟨_, by decide, hP.cell 8⟩
    · exact ⟨_, by decide, hP.cell 9⟩
    · exact ⟨_, by decide, hP.cell 10⟩
  obtain ⟨t, ht, hcell⟩ := hcell
  clear hP
  have HF := Lib.hid hS3
  go_wp2
  go_ret
  exact ⟨t, rfl, ht, HF.out, by (repeat (first | with_reducible exact But.refl _ _ | with_reducible assumption | with_reducible refine But.alloc ?_ _ | with_reducible refine But.drew ?_ | with_reducible refine But.drewN ?_ _ | with_reducible refine But.set_ ?_ _ _ | ((with_reducible refine But.new ?_ ?_ _); solve | omega | simp | (simp; omega)) | (with_reducible refine But.trans ?_ (by with_reducible assumption)) | (with_reducible refine But.trans ?_ (But.of (by with_reducible assumption)))))⟩
end Go.Proofs.YtmpgjajkaehdiaaGreatDoor
