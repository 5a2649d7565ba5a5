/- Phrases that are drawn, rarely other texts. -/
import Derived.Test.YtabdffponmmhoaaGreatDoorWJ
import Derived.Test.YtabdffponmmhoaaGreatDoorTJ
namespace Go.Proofs.YtabdffponmmhoaaGreatDoor
open Go.RowKit

set_option maxRecDepth 20000 in
set_option maxHeartbeats 6400000 in
theorem s_l01DrawPhrase {a : World} {A : Option Addr} {c : Nat} {bs : List Int} {g : Nat} (w : World) (h : Src a A c bs g w) :
    Calls Tryz.prog 108 #[.pointer (some ⟨g, 0, none⟩)] w fun e w' => ∃ t : List UInt8, e = .returned (.string (tx t)) ∧ t.length ≤ 40 ∧ Src a A c bs g w' ∧ But g w w' := by
  have hlt := h.lt
  have how := h.own
  have hasz := h.ext.size
  go_enter Tryz.func108, Tryz.ntmps108
  (go_wp2_with fail; refine (s_l01GoodPhrase (a := a) (A := A) (c := c) (bs := bs) _ (by (repeat (first | with_reducible assumption | with_reducible refine Src.alloc ?_ _ | with_reducible refine Src.drew ?_ | with_reducible refine Src.drewN ?_ _ | ((with_reducible refine Src.far ?_ ?_ ?_ _); (solve | omega | (simp; omega) | simp); (solve | omega | (simp; omega) | simp)) | ((with_reducible apply Src.on'); with_reducible assumption))))).mono ?_; rintro e w1 ⟨x1, rfl, hb1, hS1, hu1⟩; obtain ⟨hc1, hf1⟩ := hu1.rules; have hs1 := hu1.size; (try simp at hs1); have := (show g < w1.heap.size from by omega))
  (go_wp2_with fail; refine (s_l01Next (a := a) (A := A) (c := c) (bs := bs) _ _ (by (repeat (first | with_reducible assumption | with_reducible refine Src.alloc ?_ _ | with_reducible refine Src.drew ?_ | with_reducible refine Src.drewN ?_ _ | ((with_reducible refine Src.far ?_ ?_ ?_ _); (solve | omega | (simp; omega) | simp); (solve | omega | (simp; omega) | simp)) | ((with_reducible apply Src.on'); with_reducible assumption)))) (by omega)).mono ?_; rintro e w2 ⟨x2, rfl, hb2, hS2, hu2⟩; obtain ⟨hc2, hf2⟩ := hu2.rules; have hs2 := hu2.size; (try simp at hs2); have := (show g < w2.heap.size from by omega))
  have hsz : (tx x1).size ≤ 39 := by rw [tx_size]; exact hb1.2
  have hl1 : x1.length ≤ 40 := by omega
  clear hb1
  by_cases q0 : x2 = 0
  · subst q0
    (go_wp2_with fail; refine (s_l01Damage (a := a) (A := A) (c := c) (bs := bs) _ _ (by (repeat (first | with_reducible assumption | with_reducible refine Src.alloc ?_ _ | with_reducible refine Src.drew ?_ | with_reducible refine Src.drewN ?_ _ | ((with_reducible refine Src.far ?_ ?_ ?_ _); (solve | omega | (simp; omega) | simp); (solve | omega | (simp; omega) | simp)) | ((with_reducible apply Src.on'); with_reducible assumption)))) (by omega)).mono ?_; rintro e w3 ⟨x3, rfl, hb3, hS3, hu3⟩; obtain ⟨hc3, hf3⟩ := hu3.rules; have hs3 := hu3.size; (try simp at hs3); have := (show g < w3.heap.size from by omega))
    go_wp2
    go_ret
    exact ⟨x3.data.toList, by rw [tx_self]; rfl, by rw [size_list]; omega, by (repeat (first | with_reducible assumption | with_reducible refine Src.alloc ?_ _ | with_reducible refine Src.drew ?_ | with_reducible refine Src.drewN ?_ _ | ((with_reducible refine Src.far ?_ ?_ ?_ _); (solve | omega | (simp; omega) | simp); (solve | omega | (simp; omega) | simp)) | ((with_reducible apply Src.on'); with_reducible assumption))), by (repeat (first | with_reducible exact But.refl _ _ | with_reducible assumption | with_reducible refine But.alloc ?_ _ | with_reducible refine But.drew ?_ | with_reducible refine But.drewN ?_ _ | with_reducible refine But.set_ ?_ _ _ | ((with_reducible refine But.new ?_ ?_ _); solve | omega | simp | (simp; omega)) | (with_reducible refine But.trans ?_ (by with_reducible assumption)) | (with_reducible refine But.trans ?_ (But.of (by with_reducible assumption)))))⟩
  · have e0 : (x2 == 0) = false := beq_eq_false_iff_ne.2 q0
    by_cases q1 : x2 = 1
    · subst q1
      (go_wp2_with fail; refine (s_l01Next (a := a) (A := A) (c := c) (bs := bs) _ _ (by (repeat (first | with_reducible assumption | with_reducible refine Src.alloc ?_ _ | with_reducible refine Src.drew ?_ | with_reducible refine Src.drewN ?_ _ | ((with_reducible refine Src.far ?_ ?_ ?_ _); (solve | omega | (simp; omega) | simp); (solve | omega | (simp; omega) | simp)) | ((with_reducible apply Src.on'); with_reducible assumption)))) (by omega)).mono ?_; rintro e w3 ⟨x3, rfl, hb3, hS3, hu3⟩; obtain ⟨hc3, hf3⟩ := hu3.rules; have hs3 := hu3.size; (try simp at hs3); have := (show g < w3.heap.size from by omega); have := (show w2.heap.size < w3.heap.size from by omega))
      obtain ⟨j, rfl⟩ := Int.eq_ofNat_of_zero_le hb3.1
      have hj : j < 5 := by omega
      have hP : Blk w3 w2.heap.size 9 #[.string (tx []), .string (tx [97, 32, 32, 98]), .string (tx [32, 97]), .string (tx [97, 32, 98, 32, 99, 32, 100, 32, 101, 32, 102, 32, 103, 32, 104]), .string (tx [97, 32, 98, 32, 99, 32, 100, 32, 101, 32, 102, 32, 103, 32, 104, 32, 105])] := Blk.eq (by (repeat (first | with_reducible assumption | ((with_reducible apply Blk.new); solve | simp | rfl) | with_reducible apply Blk.drew | with_reducible apply Blk.drewN | ((with_reducible apply Blk.far'); solve | omega | simp | (simp; omega)) | with_reducible apply Blk.set_ | with_reducible apply Blk.alloc | ((with_reducible apply Blk.ext'); with_reducible assumption) | ((with_reducible apply Blk.but'); (with_reducible assumption); solve | omega | (simp; omega))))) (by rfl)
      have hcell : ∃ t : List UInt8, t.length ≤ 40 ∧ w3.cell? ⟨w2.heap.size, j, none⟩ = some (.string (tx t)) := by
        rcases (show j = 0 ∨ j = 1 ∨ j = 2 ∨ j = 3 ∨ j = 4 by omega) with rfl | rfl | rfl | rfl | rfl
        · exact ⟨_, by decide, hP.cell 0⟩
        · exact ⟨_, by decide, hP.cell 1⟩
        · exact ⟨_, by decide, hP.cell 2⟩
        · exact ⟨_, by decide, hP.cell 3⟩
        · exact ⟨_, by decide, hP.cell 4⟩
      obtain ⟨t, ht, hcell⟩ := hcell
      clear hP
      have HF := Lib.hid hS3
      go_wp2
      go_ret
      exact ⟨t, rfl, ht, HF.out, by (repeat (first | with_reducible exact But.refl _ _ | with_reducible assumption | with_reducible refine But.alloc ?_ _ | with_reducible refine But.drew ?_ | with_reducible refine But.drewN ?_ _ | with_reducible refine But.set_ ?_ _ _ | ((with_reducible refine But.new ?_ ?_ _); solve | omega | simp | (simp; omega)) | (with_reducible refine But.trans ?_ (by with_reducible assumption)) | (with_reducible refine But.trans ?_ (But.of (by with_reducible assumption)))))⟩
    · have e1 : (x2 == 1) = false := beq_eq_false_iff_ne.2 q1
      go_wp2
      go_ret
      exact ⟨x1, rfl, hl1, by (repeat (first | with_reducible assumption | with_reducible refine Src.alloc ?_ _ | with_reducible refine Src.drew ?_ | with_reducible refine Src.drewN ?_ _ | ((with_reducible refine Src.far ?_ ?_ ?_ _); (solve | omega | (simp; omega) | simp); (solve | omega | (simp; omega) | simp)) | ((with_reducible apply Src.on'); with_reducible assumption))), by (repeat (first | with_reducible exact But.refl _ _ | with_reducible assumption | with_reducible refine But.alloc ?_ _ | with_reducible refine But.drew ?_ | with_reducible refine But.drewN ?_ _ | with_reducible refine But.set_ ?_ _ _ | ((with_reducible refine But.new ?_ ?_ _); solve | omega | simp | (simp; omega)) | (with_reducible refine But.trans ?_ (by with_reducible assumption)) | (with_reducible refine But.trans ?_ (But.of (by with_reducible assumption)))))⟩

end Go.Proofs.YtabdffponmmhoaaGreatDoor
