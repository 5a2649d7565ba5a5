/- A place's parent and its way up, as both tell them. A link added, as the specification does it. A link added, as both do it. The roots of links in a year, as both tell them. -/
import Derived.Test.YtlnliajnipniaaaGreatDoorS1
namespace Go.Proofs.YtlnliajnipniaaaGreatDoor
open Go.RowKit
attribute [local go_sem] ExtOf.cell ExtOf.frozen
theorem elK : ElT Tryz.prog 25 108 4 48 := ElT.mk' (z := .agg #[.string .empty, .string .empty, .int .i64 0, .int .i64 0]) Tryz.underlying25 (by kernel_rfl) rfl (by omega)
abbrev OwK (w : World) (base : Nat) (v : Value) (xs : List Lk) : Prop := Own encK 4 108 w base v xs
theorem blk_k1 {w : World} {g : Nat} {t : TypeId} {l : Lk} {cs : Array Value} (h : Blk w g t cs) (e : cs = #[.string (tx l.1), .string (tx l.2.1), .int .i64 l.2.2.1, .int .i64 l.2.2.2]) : SlAt w 4 encK (some ⟨g, 0, none⟩) [l] := by
 subst e; exact h.sl rfl len_encK
theorem eval_ln {α : Type} {v : Value} {A : Option Addr} {n c : Nat} {xs : List α} (hv : v = .slice A n c) (e : xs.length = n) : v = .slice A xs.length c := by rw [hv, e]
theorem own_is {g n q : Nat} (hq : (Value.slice (some ⟨g, 0, none⟩) n n).ownBlock = some q) : q = g := by
 cases hq; rfl
theorem blk_kept {w w' : World} {row : Option Nat} {g : Nat} {t : TypeId} {cs : Array Value} (hg : w.grownBy w' row) (hB : Blk w g t cs) (hne : some g ≠ row) : Blk w' g t cs := (hg.block g hB.lt hne).trans hB
theorem kept_of {w w' : World} {b n : Nat} (hg : w.grownBy w' (Value.slice (some ⟨b, 0, none⟩) n n).ownBlock) : ∀ g t cs, Blk w g t cs → ¬ g = b → Blk w' g t cs := fun _ _ _ hB hne => blk_kept hg hB fun e => hne (own_is e.symm)
def AddRet (L : List Lk) (l : Lk) (base : Nat) (e : Ending) (w' : World) : Prop :=
 (∃ n : Int, ¬ n = 0 ∧ e = .returned (.tuple #[.slice none 0 0, .int .i64 n])) ∨ (lksB (L ++ [l]) = true ∧ ∃ v, e = .returned (.tuple #[v, .int .i64 0]) ∧ OwK w' base v (L ++ [l]))
theorem Links.snoc {L : List Lk} {l : Lk} (h : Links L) (h1 : l.1.length ≤ 1048576) (h2 : l.2.1.length ≤ 1048576) : Links (L ++ [l]) := fun j => by
 rcases Nat.lt_or_ge j L.length with c | c
 ·have : (L ++ [l]).getD j lkD = L.getD j lkD := by simp [List.getD, List.getElem?_append_left c]
  rw [this]; exact h j
 ·rcases Nat.lt_or_ge j (L.length + 1) with d | d
  ·obtain rfl : j = L.length := by omega
   have : (L ++ [l]).getD L.length lkD = l := by simp [List.getD]
   rw [this]; exact ⟨h1, h2⟩
  ·have : (L ++ [l]).getD j lkD = lkD := by rw [List.getD, List.getElem?_eq_none (by simp; omega)]; rfl
   rw [this]; exact ⟨by simp [lkD], by simp [lkD]⟩
set_option maxRecDepth 20000 in
set_option maxHeartbeats 12800000 in
theorem s_AddLink (A : Option Addr) (n c : Nat) (L : List Lk) (l : Lk) (w : World) (h : SlAt w 4 encK A L) (hn : n = L.length) (hl : L.length ≤ 1000000) (hg : Links L) (h1 : l.1.length ≤ 1048576) (h2 : l.2.1.length ≤ 1048576) :
  Calls Tryz.prog 109 #[.slice A n c, .agg #[.string (tx l.1), .string (tx l.2.1), .int .i64 l.2.2.1, .int .i64 l.2.2.2]] w fun e w' => AddRet L l w.heap.size e w' ∧ Ext w w' := by
 have HS := hI h
 have HN := hI hn
 have HC1 := hI (fun W hW => s_AreLinks A n c L W hW hn (by omega) hg)
 have HC2 : Hid (∀ W, Calls Tryz.prog 133 #[.agg #[.string (tx l.1), .string (tx l.2.1), .int .i64 l.2.2.1, .int .i64 l.2.2.2]] W fun e w' => e = .returned (.bool (lkB l)) ∧ Ext W w') := hI (fun W => by
  have := s_l12Is (tx l.1) (tx l.2.1) l.2.2.1 l.2.2.2 W (by rw [tx_size]; exact h1) (by rw [tx_size]; exact h2)
  rw [smB_tx, smB_tx, tx_toL, tx_toL] at this
  exact this)
 have HC3 := hI (fun W (A6 : Option Addr) (n6 c6 : Nat) hW hn6 => s_AreLinks A6 n6 c6 (L ++ [l]) W hW hn6 (by simp; omega) (hg.snoc h1 h2))
 have HSL : Hid (∀ W g t cs, Blk W g t cs → cs = #[.string (tx l.1), .string (tx l.2.1), .int .i64 l.2.2.1, .int .i64 l.2.2.2] → SlAt W 4 encK (some ⟨g, 0, none⟩) [l]) := hI (fun W g t cs hB e => blk_k1 hB e)
 have HLN : Hid (L.length ≤ 1000000) := hI hl
 generalize tx l.1 = sc at *
 generalize tx l.2.1 = sp at *
 generalize l.2.2.1 = va at *
 generalize l.2.2.2 = vb at *
 generalize hq1 : lksB L = q1 at *
 generalize hq2 : lkB l = q2 at *
 clear h hn hg hl h1 h2 hq1 hq2
 cases q1 with
 | false =>
  go_enter Tryz.func109, Tryz.ntmps109
  (go_wp2_with fail; refine (HC1.out _ (HS.out.ext (xA xR))).mono ?_; rintro e w1 ⟨rfl, hx1⟩; obtain ⟨hc1, hf1, hs1⟩ := hx1.all; (try simp at hs1); have := (show w.heap.size < w1.heap.size from by omega))
  go_wp2
  go_ret2
  exact ⟨.inl ⟨1, by decide, rfl⟩, xT (xA xR) hx1⟩
 | true =>
  cases q2 with
  | false =>
   go_enter Tryz.func109, Tryz.ntmps109
   (go_wp2_with fail; refine (HC1.out _ (HS.out.ext (xA xR))).mono ?_; rintro e w1 ⟨rfl, hx1⟩; obtain ⟨hc1, hf1, hs1⟩ := hx1.all; (try simp at hs1); have := (show w.heap.size < w1.heap.size from by omega))
   (go_wp2_with fail; refine (HC2.out _).mono ?_; rintro e w2 ⟨rfl, hx2⟩; obtain ⟨hc2, hf2, hs2⟩ := hx2.all; (try simp at hs2); have := (show w.heap.size < w2.heap.size from by omega))
   go_wp2
   go_ret2
   exact ⟨.inl ⟨1, by decide, rfl⟩, xT (xT (xA xR) hx1) hx2⟩
  | true =>
   go_enter Tryz.func109, Tryz.ntmps109
   (go_wp2_with fail; refine (HC1.out _ (HS.out.ext (xA xR))).mono ?_; rintro e w1 ⟨rfl, hx1⟩; obtain ⟨hc1, hf1, hs1⟩ := hx1.all; (try simp at hs1); have := (show w.heap.size < w1.heap.size from by omega))
   (go_wp2_with fail; refine (HC2.out _).mono ?_; rintro e w2 ⟨rfl, hx2⟩; obtain ⟨hc2, hf2, hs2⟩ := hx2.all; (try simp at hs2); have := (show w.heap.size < w2.heap.size from by omega))
   have HX2 : Hid (Ext w w2) := hI (xT (xT (xA xR) hx1) hx2)
   have hB0 : Blk w2 w.heap.size 108 #[.string sc, .string sp, .int .i64 va, .int .i64 vb] := Blk.eq (bE hx2 (bE hx1 (bN (by omega)))) (by rfl)
   have hgw := hB0.lt
   have HS2 := hI (HS.out.ext HX2.out)
   have HK : Hid (∀ W, Ext w2 W → W.cell? ⟨w.heap.size, 0, none⟩ = some (.string sc) ∧ W.cell? ⟨w.heap.size, 1, none⟩ = some (.string sp) ∧ W.cell? ⟨w.heap.size, 2, none⟩ = some (.int .i64 va) ∧ W.cell? ⟨w.heap.size, 3, none⟩ = some (.int .i64 vb)) := hI (fun W hW => ⟨(hB0.ext hW).cell 0, (hB0.ext hW).cell 1, (hB0.ext hW).cell 2, (hB0.ext hW).cell 3⟩)
   have HO5 : Hid (∀ W g, Blk W g 108 #[] → w2.heap.size ≤ g → OwK W w2.heap.size (.slice (some ⟨g, 0, none⟩) 0 0) []) := hI (fun W g hB hge => Own.of_blk (xs := []) hB len_encK rfl hge (Nat.zero_le _))
   clear hB0
   go_wp2
   go_region_held3 (fun w' => w'.cell? ⟨w.heap.size, 0, none⟩ = some (.string sc) ∧ w'.cell? ⟨w.heap.size, 1, none⟩ = some (.string sp) ∧ w'.cell? ⟨w.heap.size, 2, none⟩ = some (.int .i64 va) ∧ w'.cell? ⟨w.heap.size, 3, none⟩ = some (.int .i64 vb)) (first | exact HK.out _ (by with_reducible first|exact hx5|exact hx6|exact xD xR|exact xA hx5|exact xD (xA xR)|exact xD (xA (xA xR))) | go_keep) (first | (refine step_append_sl elK len_encK one_encK rfl _ _ rfl rfl (HO5.out _ _ (by with_reducible first|exact bD (bN (by omega))|exact bD (bA (bN (by omega)))|exact bD (bN (by first|omega|simp))) (by first | exact Nat.le_refl _ | (simp; done) | (simp; omega))) (xs := L) (eval_ln rfl HN.out.symm) (HS2.out.ext (by with_reducible first|exact xD (xA xR)|exact xD (xA (xA xR)))) (by have := HLN.out; unfold maxLen; simp only [List.length_nil]; omega) (by have := HLN.out; simp only [List.length_nil]; omega) (by first | (simp; done) | (simp; omega)) ?_; intro v5 w5 hO5 hg5 _; have hb5 := kept_of hg5; have hx5 : Ext w2 w5 := Ext.grown (by with_reducible first|exact xD (xA xR)|exact xD (xA (xA xR))) hg5 (fun q hq => by rw [own_is hq]; first | exact Nat.le_refl _ | (simp; done) | (simp; omega))) | (refine step_append_sl elK len_encK one_encK rfl _ _ rfl rfl (hO5.ext (by with_reducible first|exact xR|exact xA xR)) (xs := [l]) rfl (HSL.out _ _ _ _ (by first | exact hb5 _ _ _ (by with_reducible first|exact bD (bA (bN (by omega)))|exact bD (bN (by first|omega|simp))) (by first | omega | (simp; done) | (simp; omega)) | exact Blk.new rfl) (by rfl)) (by have := HLN.out; unfold maxLen; simp; omega) (by have := HLN.out; simp; omega) (by have := hx5.size; first | omega | (simp; omega)) ?_; intro v6 w6 hO6 hg6 _; have hx6 : Ext w2 w6 := Ext.grown (by with_reducible first|exact hx5|exact xA hx5) hg6 (fun q hq => (hO5.row q hq).1)))
   all_goals
    have hO7 : OwK w6 w2.heap.size v6 (L ++ [l]) := hO6
    have HX6 := hI (HX2.out.trans hx6)
    have hs6 := hx6.size
    obtain ⟨A6, c6, rfl, hS6, hc6, hm6, hr6⟩ := hO7.sl len_encK
    obtain ⟨n6, hn6⟩ : ∃ n6, n6 = (L ++ [l]).length := ⟨_, rfl⟩
    rw [← hn6] at hO7 ⊢
    have HS6 := hI hS6
    have HO7 := hI hO7
    have HN6 := hI hn6
    have HW2 : Hid (w.heap.size ≤ w2.heap.size) := hI HX2.out.size
    clear hO7 hO6 hS6 hn6 hr6 hx6 hg6 hO5 hg5 hx5 hb5 hc6 hm6
    generalize hq3 : lksB (L ++ [l]) = q3 at HC3
    have HQ3 := hI hq3
    clear hq3
    cases q3 with
    | false =>
     go_wp2_with fail
     refine (HC3.out _ A6 n6 c6 HS6.out HN6.out).mono ?_
     rintro e w8 ⟨rfl, hx8⟩
     go_wp2
     go_ret2
     exact ⟨.inl ⟨5, by decide, rfl⟩, HX6.out.trans hx8⟩
    | true =>
     go_wp2_with fail
     refine (HC3.out _ A6 n6 c6 HS6.out HN6.out).mono ?_
     rintro e w8 ⟨rfl, hx8⟩
     go_wp2
     go_ret2
     exact ⟨.inr ⟨HQ3.out, _, rfl, (HO7.out.less HW2.out).ext hx8⟩, HX6.out.trans hx8⟩
end Go.Proofs.YtlnliajnipniaaaGreatDoor
