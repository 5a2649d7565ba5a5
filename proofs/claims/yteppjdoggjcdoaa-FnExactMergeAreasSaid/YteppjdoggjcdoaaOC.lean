/- Contracts of marks in lists of rings, walked over the translation. -/
import Derived.Test.YteppjdoggjcdoaaOB
import Derived.Deep.RegionHeld3
import Derived.Deep.DeepCutAuto
import Derived.RegionTactic
import Derived.BigRegion
import Derived.WalkLawsBesides
import Derived.WalkSpells
import Derived.Lib.MinMax
import Derived.Outline
namespace Go.Proofs.Yteppjdoggjcdoaa
open Go.RowKit
attribute [local go_sem] ExtOf.cell ExtOf.frozen

/-- w' is w with new blocks behind; of the old ones only those between lo and hi may have turned -/
structure Mid (lo hi : Nat) (w w' : World) : Prop where
  os : w'.os = w.os
  tape : w'.tape = w.tape
  output : w'.output = w.output
  size : w.heap.size ≤ w'.heap.size
  block : ∀ k, k < w.heap.size → (k ≤ lo ∨ hi ≤ k) → w'.heap[k]? = w.heap[k]?
theorem Mid.refl (lo hi : Nat) (w : World) : Mid lo hi w w := ⟨rfl, rfl, rfl, Nat.le_refl _, fun _ _ _ => rfl⟩
theorem Mid.grown {lo hi g : Nat} {a w w' : World} (h : Mid lo hi a w) (hg : w.grownBy w' (some g)) (h1 : lo < g) (h2 : g < hi) : Mid lo hi a w' :=
  ⟨hg.os.trans h.os, hg.tape.trans h.tape, hg.output.trans h.output, Nat.le_trans h.size hg.size, fun k hk hc => (hg.block k (Nat.lt_of_lt_of_le hk h.size) (fun e => by injection e with e; omega)).trans (h.block k hk hc)⟩
theorem Mid.ext {lo hi : Nat} {a w w' : World} (h : Mid lo hi w w') (hx : Ext a w) (hl : a.heap.size ≤ lo + 1) : Ext a w' :=
  ⟨h.os.trans hx.os, h.tape.trans hx.tape, h.output.trans hx.output, Nat.le_trans hx.size h.size, fun k hk => (h.block k (Nat.lt_of_lt_of_le hk hx.size) (.inl (by omega))).trans (hx.block k hk)⟩
theorem SlAt.mid {α : Type} {enc : α → List Value} {sz lo hi : Nat} {w w' : World} {A : Option Addr} {xs : List α} (h : SlAt w sz enc A xs) (hm : Mid lo hi w w') (ha : ∀ q, A = some q → q.block ≤ lo ∨ hi ≤ q.block) : SlAt w' sz enc A xs := fun hn => by
  obtain ⟨b, off, e, hb, hc⟩ := h hn
  refine ⟨b, off, e, Nat.lt_of_lt_of_le hb hm.size, fun i x hi j u hj => ?_⟩
  exact (World.cell?_of_block (a := ⟨b, off + i * sz + j, none⟩) (hm.block b hb (ha _ e))).trans (hc i x hi j u hj)
theorem Own.mid {α : Type} {enc : α → List Value} {sz lo hi base : Nat} {t : TypeId} {w w' : World} {v : Value} {xs : List α} (h : Own enc sz t w base v xs) (hm : Mid lo hi w w') (hb : hi ≤ base) : Own enc sz t w' base v xs := by
  refine ⟨h.1, ?_⟩
  rcases h.2 with hn | ⟨g, cap, cur, rfl, hbb, hgg, rest⟩
  · exact .inl hn
  · refine .inr ⟨g, cap, cur, rfl, hbb, ?_, rest⟩
    rw [hm.block g (Array.getElem?_eq_some_iff.1 hgg).1 (.inr (by omega))]
    exact hgg
theorem sumL_le {rs : List Rg} {k m : Nat} (h : k ≤ m) : sumL rs k ≤ sumL rs m := by
  induction m with
  | zero => rw [show k = 0 by omega]; exact Int.le_refl _
  | succ m ih =>
    rcases Nat.lt_or_ge k (m + 1) with c | c
    · have := ih (by omega)
      unfold sumL at *
      rw [tot]
      omega
    · rw [show k = m + 1 by omega]; exact Int.le_refl _
theorem sumL_nonneg (rs : List Rg) (k : Nat) : 0 ≤ sumL rs k := by
  have := sumL_le (rs := rs) (Nat.zero_le k)
  simpa [sumL, tot] using this
set_option maxHeartbeats 6400000 in
theorem l_markSS (base hi : Nat) (off n c : Nat) (rs : List Rg) (k : Int) (w : World) (h : SlAt w 1 encR (some ⟨base, off, none⟩) rs) (hO : RgOwn w base rs) (hn : n = rs.length) (hl : rs.length ≤ 1048576) (hs : sumL rs rs.length ≤ 1048576) (hk : 0 ≤ k) (hk' : k ≤ 1000000000) (hhi : ∀ j, j < rs.length → blkOf (rs.getD j rgD) < hi) :
    Calls Try.prog 31 #[.slice (some ⟨base, off, none⟩) n c, .int .i64 k] w fun e w' => e = .returned (.int .i64 (k + 2 * sumL rs rs.length)) ∧ Mid base hi w w' := by
  subst hn
  have HO := Lib.hid hO
  have HS := Lib.hid hs
  have HHI := Lib.hid hhi
  clear hO hs hhi
  go_enter Try.func31, Try.ntmps31
  go_wp2
  go_loopw [1, 5] (fun m i wr => ∃ j : Nat, j ≤ rs.length ∧ i = .int .i64 j ∧ m = .int .i64 (k + 2 * sumL rs j) ∧ Hid (∀ q, j ≤ q → q < rs.length → ∃ g cs, (rs.getD q rgD).1 = some ⟨g, 0, none⟩ ∧ (rs.getD q rgD).2.1 = (rs.getD q rgD).2.2.length ∧ base < g ∧ g < hi ∧ Blk wr g 33 cs ∧ cs.toList = (rs.getD q rgD).2.2.flatMap encP) ∧ Mid base hi w wr) (fun _ i _ => rs.length - (intOf i).toNat)
  case atStart =>
    refine ⟨0, Nat.zero_le _, rfl, by simp [sumL, tot], Lib.hid (fun q _ hq => ?_), Mid.refl _ _ _⟩
    obtain ⟨g, cs, e, hg, hB, hcs, _⟩ := HO.out q hq
    have hgh := HHI.out q hq
    rw [e] at hgh
    exact ⟨g, cs, by rw [e], by rw [e], hg, hgh, hB, hcs⟩
  case round =>
    obtain ⟨j, hj, rfl, rfl, HR, HM⟩ := hrel
    by_cases hlt : j < rs.length
    · obtain ⟨b, o, e, hbb, hcell⟩ := (h.mid HM (fun q hq => by injection hq with hq; subst hq; exact .inl (Nat.le_refl _))).rg hlt
      injection e with e
      injection e with e1 e2
      subst e1 e2
      obtain ⟨g, cs, eg, ecap, hg, hgw, hB, hcs⟩ := HR.out j (Nat.le_refl _) hlt
      have hOj := HO.out j hlt
      have hsl := sumL_le (rs := rs) (show j ≤ rs.length by omega)
      have hsn := sumL_nonneg rs j
      have hsl1 : sumL rs j ≤ 1048576 := by have := HS.out; omega
      have hsu : sumL rs (j + 1) = sumL rs j + ((rs.getD j rgD).2.2.length : Int) := by unfold sumL; rw [tot]
      have hlen : (rs.getD j rgD).2.2.length ≤ 1048576 := by
        obtain ⟨_, _, _, _, _, _, _, hx⟩ := hOj
        exact hx
      have hOw : OwP wr 0 (.slice (rs.getD j rgD).1 (rs.getD j rgD).2.2.length (rs.getD j rgD).2.1) (rs.getD j rgD).2.2 := by
        rw [eg, ecap]
        exact Own.of_blk hB len_encP hcs (Nat.zero_le _) (by unfold maxLen; omega)
      have HNX : Hid (∀ w', wr.grownBy w' (some g) → (∀ q, j + 1 ≤ q → q < rs.length → ∃ g cs, (rs.getD q rgD).1 = some ⟨g, 0, none⟩ ∧ (rs.getD q rgD).2.1 = (rs.getD q rgD).2.2.length ∧ base < g ∧ g < hi ∧ Blk w' g 33 cs ∧ cs.toList = (rs.getD q rgD).2.2.flatMap encP)) := Lib.hid (fun w' hgr q hq hql => by
        obtain ⟨g', cs', a1, a2, a3, a4, a5, a6⟩ := HR.out q (by omega) hql
        refine ⟨g', cs', a1, a2, a3, a4, ?_, a6⟩
        obtain ⟨g2, cs2, b1, b2, b3, b4, b5, b6⟩ := HO.out q hql
        have hg2 : g2 = g' := by
          rw [b1] at a1
          injection a1 with a1
          injection a1
        have hlt2 := b5 j (by omega)
        unfold blkOf at hlt2
        rw [eg] at hlt2
        simp only at hlt2
        exact (hgr.block g' a5.lt (fun e => by injection e with e; omega)).trans a5)
      have HEG : Hid ((Value.slice (rs.getD j rgD).1 (rs.getD j rgD).2.2.length (rs.getD j rgD).2.1).ownBlock = some g) := Lib.hid (by rw [eg]; rfl)
      obtain ⟨r, hre⟩ : ∃ r, r = rs.getD j rgD := ⟨_, rfl⟩
      rw [← hre] at hcell hOw hsu HEG hlen
      have HSU := Lib.hid hsu
      have HOW := Lib.hid hOw
      clear hre hOw hsu hOj hB hcs eg ecap
      go_wp2_with fail
      refine (l_markPointS _ _ r.2.2 _ _ HOW.out hlen (by omega) (by omega)).mono ?_
      rintro e w1 ⟨rfl, hO1, hg1⟩
      rw [HEG.out] at hg1
      have HN2 := Lib.hid (HNX.out w1 hg1)
      have HM2 := HM.grown hg1 hg hgw
      clear hg1 hO1
      go_wp2
      go_roundw
      case rel => exact ⟨j + 1, by omega, by go_num, by rw [HSU.out]; congr 1; omega, HN2, HM2⟩
      case measure => simp [intOf]; omega
    · obtain rfl : j = rs.length := by omega
      go_wp2
      go_ret
      exact ⟨rfl, HM⟩

end Go.Proofs.Yteppjdoggjcdoaa
