/- Phrases that are drawn. -/
import Derived.Test.YtabdffponmmhoaaGreatDoorW4
import Derived.Test.YtabdffponmmhoaaGreatDoorT4
import Derived.Test.YtabdffponmmhoaaGreatDoorW5
namespace Go.Proofs.YtabdffponmmhoaaGreatDoor
open Go.RowKit

theorem jn_len12 : ∀ {L : List (List UInt8)}, (∀ x ∈ L, x.length ≤ 12) → (jn L [32]).length ≤ 13 * L.length
  | [], _ => by simp [Lib.join_nil]
  | [x], h => by
    rw [show jn [x] [32] = x from Lib.join_one x [32]]
    have := h x (List.mem_cons_self ..)
    simp; omega
  | x :: y :: r, h => by
    have ih := jn_len12 (L := y :: r) fun z hz => h z (List.mem_cons_of_mem _ hz)
    have := h x (List.mem_cons_self ..)
    rw [jn_two]
    simp only [List.length_append, List.length_cons] at *
    omega
theorem smL_free {x : List UInt8} {hi : Int} (h : smL x 1 hi = true) : (32 : UInt8) ∉ x := by
  intro hm
  simp only [smL, Bool.and_eq_true] at h
  have := List.all_eq_true.1 h.2 32 hm
  revert this; decide
/-- how a phrase that is drawn stands while k words are wanted -/
def PhAt (L : List (List UInt8)) (k : Nat) : Prop := (∀ x ∈ L, smL x 1 16 = true ∧ x.length ≤ 12) ∧ L.length + k ≤ 3 ∧ 1 ≤ L.length + k
theorem PhAt.step {L : List (List UInt8)} {k : Nat} {x : List UInt8} (h : PhAt L (k + 1)) (hx : smL x 1 16 = true ∧ x.length ≤ 12) : PhAt (L ++ [x]) k := by
  obtain ⟨h1, h2, h3⟩ := h
  refine ⟨fun z hz => ?_, by simp; omega, by simp; omega⟩
  rcases List.mem_append.1 hz with e | e
  · exact h1 z e
  · rw [List.mem_singleton] at e
    rw [e]; exact hx
theorem PhAt.done {L : List (List UInt8)} (h : PhAt L 0) : phB (jn L [32]) = true ∧ (jn L [32]).length ≤ 39 := by
  obtain ⟨h1, h2, h3⟩ := h
  have hl := jn_len12 (L := L) fun x hx => (h1 x hx).2
  refine ⟨?_, by omega⟩
  unfold phB
  rw [sp_jn (by intro e; rw [e] at h3; simp at h3) fun x hx => smL_free (h1 x hx).1, Bool.and_eq_true]
  exact ⟨by simp; omega, List.all_eq_true.2 fun x hx => (h1 x hx).1⟩

set_option maxRecDepth 20000 in
set_option maxHeartbeats 6400000 in
theorem s_l01GoodPhrase {a : World} {A : Option Addr} {c : Nat} {bs : List Int} {g : Nat} (w : World) (h : Src a A c bs g w) :
    Calls Tryz.prog 103 #[.pointer (some ⟨g, 0, none⟩)] w fun e w' => ∃ t : List UInt8, e = .returned (.string (tx t)) ∧ (phB t = true ∧ t.length ≤ 39) ∧ Src a A c bs g w' ∧ But g w w' := by
  have hlt := h.lt
  have how := h.own
  have hasz := h.ext.size
  have nb : ¬ w.heap.size = g := by omega
  have HV0 : Hid (OwS (w.alloc (.cells #[] 9)) w.heap.size (.slice (some ⟨w.heap.size, 0, none⟩) 0 0) []) := Lib.hid (World.ownsRow_made (base := w.heap.size) (e := 9) (size := 1) w #[] 0 (Nat.le_refl _) (Nat.zero_le _) rfl)
  go_enter Tryz.func103, Tryz.ntmps103
  (go_wp2_with fail; refine (s_l01Next (a := a) (A := A) (c := c) (bs := bs) _ _ (by (repeat (first | with_reducible assumption | with_reducible refine Src.alloc ?_ _ | with_reducible refine Src.drew ?_ | with_reducible refine Src.drewN ?_ _ | ((with_reducible refine Src.far ?_ ?_ ?_ _); (solve | omega | (simp; omega) | simp); (solve | omega | (simp; omega) | simp)) | ((with_reducible apply Src.on'); with_reducible assumption)))) (by omega)).mono ?_; rintro e w1 ⟨x1, rfl, hb1, hS1, hu1⟩; obtain ⟨hc1, hf1⟩ := hu1.rules; have hs1 := hu1.size; (try simp at hs1); have := (show w.heap.size < w1.heap.size from by omega))
  obtain ⟨m, rfl⟩ := Int.eq_ofNat_of_zero_le hb1.1
  have hm3 : m ≤ 2 := by omega
  have HV1 := Lib.hid (HV0.out.but hu1 hlt)
  have HS1 := Lib.hid hS1
  have HU1 : Hid (But g w w1) := Lib.hid (by (repeat (first | with_reducible exact But.refl _ _ | with_reducible assumption | with_reducible refine But.alloc ?_ _ | with_reducible refine But.drew ?_ | with_reducible refine But.drewN ?_ _ | with_reducible refine But.set_ ?_ _ _ | ((with_reducible refine But.new ?_ ?_ _); solve | omega | simp | (simp; omega)) | (with_reducible refine But.trans ?_ (by with_reducible assumption)) | (with_reducible refine But.trans ?_ (But.of (by with_reducible assumption))))))
  go_wp2
  go_loopw [3, 4] (fun v i wr => ∃ (L : List (List UInt8)) (k : Nat), i = .int .i64 k ∧ k ≤ 3 ∧ Hid (PhAt L k) ∧ Hid (OwS wr w.heap.size v L) ∧ Hid (Src a A c bs g wr) ∧ Hid (But g w wr) ∧ w.heap.size < wr.heap.size) (fun _ i _ => (intOf i).toNat)
  case atStart => exact ⟨[], m + 1, by go_num, by omega, Lib.hid ⟨fun x hx => (by cases hx), (by simp; omega), (by simp)⟩, HV1, HS1, HU1, by omega⟩
  case round =>
    obtain ⟨L, k, rfl, hk3, HL, HV, HSr, HU, hwl⟩ := hrel
    by_cases hk0 : 0 < k
    · obtain ⟨q, rfl⟩ : ∃ q, k = q + 1 := ⟨k - 1, by omega⟩
      have hLl := HL.out.2.1
      (go_wp2_with fail; refine (s_l01Good (a := a) (A := A) (c := c) (bs := bs) _ HSr.out).mono ?_; rintro e w2 ⟨x2, rfl, hb2, hS2, hu2⟩; obtain ⟨hc2, hf2⟩ := hu2.rules; have hs2 := hu2.size; (try simp at hs2); have := (show w.heap.size < w2.heap.size from by omega))
      have HV2 := Lib.hid (HV.out.but hu2 hlt)
      have HL2 := Lib.hid (HL.out.step hb2)
      have HU2 := Lib.hid (HU.out.trans hu2)
      have HS2 := Lib.hid hS2
      clear hb2
      go_wp2_with (at_builtin; refine wpList_append_sl elS len_encS one_encS rfl _ _ rfl rfl (HV2.out.ext (by (repeat (first | with_reducible exact Ext.refl _ | with_reducible assumption | ((with_reducible apply Src.ext); with_reducible assumption) | with_reducible refine Ext.alloc ?_ _ | with_reducible refine Ext.drew ?_ | with_reducible refine Ext.drewN ?_ _ | ((with_reducible refine Ext.setCell' ?_ ?_ _); solve | omega | simp | (simp; omega)) | (with_reducible refine Ext.trans ?_ (by with_reducible assumption)))))) (xs := [x2]) rfl (blk_s1 (by (repeat (first | with_reducible assumption | ((with_reducible apply Blk.new); solve | simp | rfl) | with_reducible apply Blk.drew | with_reducible apply Blk.drewN | ((with_reducible apply Blk.far'); solve | omega | simp | (simp; omega)) | with_reducible apply Blk.set_ | with_reducible apply Blk.alloc | ((with_reducible apply Blk.ext'); with_reducible assumption) | ((with_reducible apply Blk.but'); (with_reducible assumption); solve | omega | (simp; omega)))))) (by simp; unfold maxLen; omega) (by simp; omega) (by first | omega | (simp; omega)) ?_)
      intro v' w5 hown hgrow _
      have HV5 := Lib.hid hown
      have HS5 : Hid (Src a A c bs g w5) := Lib.hid (Src.grownR (HS2.out.alloc _) hgrow (fun q hq => Nat.lt_of_lt_of_le hlt (HV2.out.row q hq).1))
      have HU5 : Hid (But g w w5) := Lib.hid (But.grownR (HU2.out.alloc _) hgrow (fun q hq => (HV2.out.row q hq).1))
      have hs5 := HU5.out.size
      have hs6 : w2.heap.size ≤ w5.heap.size := by
        have := hgrow.size
        simp at this
        omega
      clear hown hgrow
      go_wp2
      go_roundw
      case rel => exact ⟨L ++ [x2], q, by go_num, by omega, HL2, HV5, HS5, HU5, by omega⟩
      case measure => simp [intOf]
    · obtain rfl : k = 0 := by omega
      obtain ⟨hph, hjl⟩ := HL.out.done
      have hlen := HL.out.2.1
      have hwords := HL.out.1
      obtain ⟨A', c', rfl, hSl, _, _, _⟩ := HV.out.sl len_encS
      have HC := Lib.hid (s_l01Words A' L.length c' L wr hSl rfl (by omega) (fun k => by
        have := jn_len12 (L := L.take k) fun x hx => (hwords x (List.mem_of_mem_take hx)).2
        rw [List.length_take] at this
        omega) (fun k => by
        rcases Nat.lt_or_ge k L.length with e | e
        · have := (hwords (L.getD k []) (by simp [List.getD, e])).2
          omega
        · rw [List.getD_eq_getElem?_getD, List.getElem?_eq_none e]; simp))
      have HPH := Lib.hid (And.intro hph hjl)
      clear hph hjl hwords hSl
      go_wp2_with fail
      refine HC.out.mono ?_
      rintro e w7 ⟨rfl, hx7⟩
      go_wp2
      go_ret
      exact ⟨_, rfl, HPH.out, HSr.out.on hx7, HU.out.trans (But.of hx7)⟩
end Go.Proofs.YtabdffponmmhoaaGreatDoor
