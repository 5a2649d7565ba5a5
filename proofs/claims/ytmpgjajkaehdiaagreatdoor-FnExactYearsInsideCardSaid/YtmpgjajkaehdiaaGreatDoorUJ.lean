/- YearsInside as the program tells it. -/
import Derived.Test.YtmpgjajkaehdiaaGreatDoorUI
import Derived.Test.YtmpgjajkaehdiaaGreatDoorUC
import Derived.Test.YtmpgjajkaehdiaaGreatDoorZG
import Derived.Deep.RegionHeld3
import Derived.Deep.DeepCutAuto
import Derived.RegionTactic
import Derived.BigRegion
import Derived.WalkLawsBesides
import Derived.WalkSpells
import Derived.Lib.MinMax
import Derived.Outline
namespace Go.Proofs.YtmpgjajkaehdiaaGreatDoor
open Go.RowKit
attribute [local go_sem] ExtOf.cell ExtOf.frozen

theorem i_limited (base : Nat) (v : Value) (S : List Sn) (w : World) (h : OwSn w base v S) (hl : S.length ≤ 1000000) :
    Calls Tryz.prog 54 #[v] w fun e w' => ((12 < S.length ∧ e = .returned (.tuple #[.slice none 0 0, .int .i64 3])) ∨ (¬ 12 < S.length ∧ e = .returned (.tuple #[v, .int .i64 0]))) ∧ w' = w := by
  obtain ⟨A, c, rfl, _⟩ := h.sl len_encSn
  clear h
  obtain ⟨n, hn⟩ : ∃ n, n = S.length := ⟨_, rfl⟩
  rw [← hn] at hl ⊢
  clear hn
  by_cases h12 : 12 < n
  · have h1 : decide ((n : Int) > 12) = true := decide_eq_true (by omega)
    have H := Lib.hid h12
    go_enter Tryz.func54, Tryz.ntmps54
    go_wp2
    go_ret2
    exact ⟨.inl ⟨H.out, rfl⟩, rfl⟩
  · have h1 : decide ((n : Int) > 12) = false := decide_eq_false (by omega)
    have H := Lib.hid h12
    go_enter Tryz.func54, Tryz.ntmps54
    go_wp2
    go_ret2
    exact ⟨.inr ⟨by have := H.out; omega, rfl⟩, rfl⟩
theorem yiS_in {L : List Lk} (h : lksB L = true) (a b : List UInt8) (k : Nat) (hk : k ≤ (chY L).length - 1) : ∀ s ∈ yiS L a b k, -10000 ≤ s.1 ∧ s.1 ≤ 10000 ∧ -10000 ≤ s.2 ∧ s.2 ≤ 10000 := by
  intro s hs
  obtain ⟨i, hi, _, rfl⟩ := spTo_mem.1 hs
  have h1 := chL_in h _ (chY_of (L := L) (j := i) (by omega))
  have h2 := chL_in h _ (chY_of (L := L) (j := i + 1) (by omega))
  simp only
  omega
theorem yiS_len (L : List Lk) (a b : List UInt8) (k : Nat) : (yiS L a b k).length ≤ k := spTo_len _ _ _
theorem yiS_no {L : List Lk} {a b : List UInt8} {k : Nat} (h : insY L a b ((chY L).getD k 0) = false) : yiS L a b (k + 1) = yiS L a b k := by
  unfold yiS
  rw [spTo_succ, if_neg (by rw [h]; exact Bool.false_ne_true), List.append_nil]
theorem yiS_yes {L : List Lk} {a b : List UInt8} {k : Nat} (h : insY L a b ((chY L).getD k 0) = true) : yiS L a b (k + 1) = yiS L a b k ++ [((chY L).getD k 0, (chY L).getD (k + 1) 0 - 1)] := by
  unfold yiS
  rw [spTo_succ, if_pos h]
end Go.Proofs.YtmpgjajkaehdiaaGreatDoor
