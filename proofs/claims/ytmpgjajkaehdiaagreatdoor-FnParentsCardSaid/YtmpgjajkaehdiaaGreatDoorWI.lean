/- Words that are drawn. -/
import Derived.Test.YtmpgjajkaehdiaaGreatDoorGW
import Derived.Test.YtmpgjajkaehdiaaGreatDoorG0
import Derived.Deep.RegionHeld3
import Derived.Deep.DeepCutAuto
import Derived.RegionTactic
import Derived.BigRegion
import Derived.WalkLawsBesides
import Derived.WalkSpells
import Derived.Lib.MinMax
import Derived.Outline
namespace Go.Proofs.YtmpgjajkaehdiaaGreatDoor
open Go.RowKit

theorem SlAt.butN {α : Type} {enc : α → List Value} {sz g b off : Nat} {w w' : World} {xs : List α} (h : SlAt w sz enc (some ⟨b, off, none⟩) xs) (hm : But g w w') (ha : ¬ b = g) : SlAt w' sz enc (some ⟨b, off, none⟩) xs := fun hn => by
  obtain ⟨b', off', e, hb, hc⟩ := h hn
  injection e with e
  injection e with e1 e2
  subst e1 e2
  refine ⟨b, off, rfl, Nat.lt_of_lt_of_le hb hm.size, fun i x hi j u hj => ?_⟩
  exact (World.cell?_of_block (a := ⟨b, off + i * sz + j, none⟩) (hm.block b hb ha)).trans (hc i x hi j u hj)
def partsT : List (List UInt8) := [[97, 115, 104], [102, 111, 114, 100], [116, 111, 110], [98, 121], [107, 105, 114, 107], [104, 97, 114], [119, 105, 99, 107], [101, 108, 121], [111, 115], [108, 111], [98, 114, 105, 103], [109, 97], [114, 105], [110, 97], [115, 116], [97, 101]]
theorem parts_ok : ∀ j, j < 16 → (partsT.getD j []).all lowB = true ∧ 1 ≤ (partsT.getD j []).length ∧ (partsT.getD j []).length ≤ 4 := by decide
/-- how a word that is drawn stands while k parts are wanted -/
def WdAt (t : List UInt8) (k : Nat) : Prop := t.all lowB = true ∧ t.length + 4 * k ≤ 12 ∧ (1 ≤ t.length ∨ 1 ≤ k)
theorem WdAt.step {t p : List UInt8} {k : Nat} (h : WdAt t (k + 1)) (hp : p.all lowB = true ∧ 1 ≤ p.length ∧ p.length ≤ 4) : WdAt (t ++ p) k := by
  obtain ⟨h1, h2, _⟩ := h
  refine ⟨by rw [List.all_append, h1, hp.1]; rfl, by rw [List.length_append]; omega, by rw [List.length_append]; omega⟩

set_option maxRecDepth 20000 in
set_option maxHeartbeats 6400000 in
theorem s_l01Good {a : World} {A : Option Addr} {c : Nat} {bs : List Int} {g : Nat} (w : World) (h : Src a A c bs g w) :
    Calls Tryz.prog 125 #[.pointer (some ⟨g, 0, none⟩)] w fun e w' => ∃ t : List UInt8, e = .returned (.string (tx t)) ∧ (smL t 1 16 = true ∧ t.length ≤ 12) ∧ Src a A c bs g w' ∧ But g w w' := by
  have hlt := h.lt
  have how := h.own
  have hasz := h.ext.size
  have nb : ¬ w.heap.size = g := by omega
  go_enter Tryz.func125, Tryz.ntmps125
  (go_wp2_with fail; refine (s_l01Next (a := a) (A := A) (c := c) (bs := bs) _ _ (by (repeat (first | with_reducible assumption | with_reducible refine Src.alloc ?_ _ | with_reducible refine Src.drew ?_ | with_reducible refine Src.drewN ?_ _ | ((with_reducible refine Src.far ?_ ?_ ?_ _); (solve | omega | (simp; omega) | simp); (solve | omega | (simp; omega) | simp)) | ((with_reducible apply Src.on'); with_reducible assumption)))) (by omega)).mono ?_; rintro e w1 ⟨x1, rfl, hb1, hS1, hu1⟩; obtain ⟨hc1, hf1⟩ := hu1.rules; have hs1 := hu1.size; (try simp at hs1); have := (show w.heap.size < w1.heap.size from by omega))
  obtain ⟨m, rfl⟩ := Int.eq_ofNat_of_zero_le hb1.1
  have hm3 : m ≤ 2 := by omega
  have hP : Blk w1 w.heap.size 9 #[.string (tx [97, 115, 104]), .string (tx [102, 111, 114, 100]), .string (tx [116, 111, 110]), .string (tx [98, 121]), .string (tx [107, 105, 114, 107]), .string (tx [104, 97, 114]), .string (tx [119, 105, 99, 107]), .string (tx [101, 108, 121]), .string (tx [111, 115]), .string (tx [108, 111]), .string (tx [98, 114, 105, 103]), .string (tx [109, 97]), .string (tx [114, 105]), .string (tx [110, 97]), .string (tx [115, 116]), .string (tx [97, 101])] := Blk.eq (by (repeat (first | with_reducible assumption | ((with_reducible apply Blk.new); solve | simp | rfl) | with_reducible apply Blk.drew | with_reducible apply Blk.drewN | ((with_reducible apply Blk.far'); solve | omega | simp | (simp; omega)) | with_reducible apply Blk.set_ | with_reducible apply Blk.alloc | ((with_reducible apply Blk.ext'); with_reducible assumption) | ((with_reducible apply Blk.but'); (with_reducible assumption); solve | omega | (simp; omega))))) (by rfl)
  have HP1 : Hid (SlAt w1 1 encS (some ⟨w.heap.size, 0, none⟩) partsT) := Lib.hid (hP.sl rfl len_encS)
  have HS1 := Lib.hid hS1
  have HU1 : Hid (But g w w1) := Lib.hid (by (repeat (first | with_reducible exact But.refl _ _ | with_reducible assumption | with_reducible refine But.alloc ?_ _ | with_reducible refine But.drew ?_ | with_reducible refine But.drewN ?_ _ | with_reducible refine But.set_ ?_ _ _ | ((with_reducible refine But.new ?_ ?_ _); solve | omega | simp | (simp; omega)) | (with_reducible refine But.trans ?_ (by with_reducible assumption)) | (with_reducible refine But.trans ?_ (But.of (by with_reducible assumption))))))
  clear hP
  go_wp2
  go_loopw [4, 5] (fun s i wr => ∃ (t : List UInt8) (k : Nat), s = .string (tx t) ∧ i = .int .i64 k ∧ k ≤ 3 ∧ Hid (WdAt t k) ∧ Hid (Src a A c bs g wr) ∧ Hid (But g w wr) ∧ Hid (SlAt wr 1 encS (some ⟨w.heap.size, 0, none⟩) partsT) ∧ w.heap.size < wr.heap.size) (fun _ i _ => (intOf i).toNat)
  case atStart => exact ⟨[], m + 1, rfl, by go_num, by omega, Lib.hid ⟨rfl, by simp; omega, by omega⟩, HS1, HU1, HP1, by omega⟩
  case round =>
    obtain ⟨t, k, rfl, rfl, hk3, HT, HSr, HU, HP, hwl⟩ := hrel
    by_cases hk0 : 0 < k
    · obtain ⟨q, rfl⟩ : ∃ q, k = q + 1 := ⟨k - 1, by omega⟩
      (go_wp2_with fail; refine (s_l01Next (a := a) (A := A) (c := c) (bs := bs) _ _ HSr.out (by omega)).mono ?_; rintro e w2 ⟨x2, rfl, hb2, hS2, hu2⟩; obtain ⟨hc2, hf2⟩ := hu2.rules; have hs2 := hu2.size; (try simp at hs2); have := (show w.heap.size < w2.heap.size from by omega))
      obtain ⟨j, rfl⟩ := Int.eq_ofNat_of_zero_le hb2.1
      have hj : j < 16 := by omega
      have HP2 := Lib.hid (HP.out.butN hu2 nb)
      have hcell := HP.out.st' (k := j) hj
      have hpo := parts_ok j hj
      have HT2 := Lib.hid (HT.out.step hpo)
      have hlt1 := HT.out.2.1
      have hps := hpo.2.2
      have HU2 := Lib.hid (HU.out.trans hu2)
      have HS2 := Lib.hid hS2
      obtain ⟨p, hp⟩ : ∃ p, p = partsT.getD j [] := ⟨_, rfl⟩
      rw [← hp] at hcell HT2 hps
      simp only [Nat.zero_add] at hcell
      have hfit : ((tx t).size + (tx p).size > 9223372036854775807) = False := eq_false (by rw [tx_size, tx_size]; omega)
      have HADD := Lib.hid (tx_add t p)
      clear hp hpo hps hlt1
      generalize tx t = st at *
      generalize tx p = sp at *
      go_wp2
      go_roundw
      case rel => exact ⟨t ++ p, q, by rw [HADD.out], by go_num, by omega, HT2, HS2, HU2, HP2, by omega⟩
      case measure => simp [intOf]
    · obtain rfl : k = 0 := by omega
      go_wp2
      go_ret
      refine ⟨t, rfl, ⟨?_, by have := HT.out.2.1; omega⟩, HSr.out, HU.out⟩
      obtain ⟨h1, h2, h3⟩ := HT.out
      unfold smL
      rw [h1]
      simp [inB]
      omega
end Go.Proofs.YtmpgjajkaehdiaaGreatDoor
