/- Contracts of rings as texts and their law, walked over the translation. -/
import Derived.Test.YtjjhhclaapifbaaGreatDoorTA
import Derived.Test.YtjjhhclaapifbaaGreatDoorG0
import Derived.Lib.Join
import Derived.Deep.RegionHeld3
import Derived.Deep.DeepCutAuto
import Derived.RegionTactic
import Derived.BigRegion
import Derived.WalkLawsBesides
import Derived.WalkSpells
import Derived.Lib.MinMax
import Derived.Outline
namespace Go.Proofs.YtjjhhclaapifbaaGreatDoor
open Go.RowKit
attribute [local go_sem] ExtOf.cell ExtOf.frozen

/-- a text among texts -/
def encS (l : List UInt8) : List Value := [.string (tx l)]
theorem len_encS : ∀ x, (encS x).length = 1 := fun _ => rfl
theorem one_encS : ∀ p, ∀ u ∈ encS p, u.oneCell' = true := by
  intro p u hu
  simp [encS] at hu
  subst hu; rfl
theorem elS : ElT Tryz.prog 35 9 1 16 := ElT.mk' (z := .string .empty) Tryz.underlying35 (by kernel_rfl) rfl (by omega)
abbrev OwS (w : World) (base : Nat) (v : Value) (xs : List (List UInt8)) : Prop := Own encS 1 9 w base v xs
theorem blk_s1 {w : World} {g : Nat} {t : TypeId} {l : List UInt8} (h : Blk w g t #[.string (tx l)]) : SlAt w 1 encS (some ⟨g, 0, none⟩) [l] := h.sl rfl len_encS
theorem SlAt.st {w : World} {A : Option Addr} {xs : List (List UInt8)} (h : SlAt w 1 encS A xs) {k : Nat} (hk : k < xs.length) :
    ∃ b off, A = some ⟨b, off, none⟩ ∧ b < w.heap.size ∧ w.cell? ⟨b, off + k, none⟩ = some (.string (tx (xs.getD k []))) := by
  obtain ⟨b, off, e, hb, hc⟩ := h (by omega)
  have hg : xs[k]? = some (xs.getD k []) := by simp [List.getD, hk]
  exact ⟨b, off, e, hb, by simpa using hc k _ hg 0 _ rfl⟩
theorem SlAt.st' {w : World} {b off : Nat} {xs : List (List UInt8)} (h : SlAt w 1 encS (some ⟨b, off, none⟩) xs) {k : Nat} (hk : k < xs.length) :
    w.cell? ⟨b, off + k, none⟩ = some (.string (tx (xs.getD k []))) := by
  obtain ⟨b', off', e, _, hc⟩ := h.st hk
  injection e with e
  injection e with e1 e2
  subst e1 e2
  exact hc
theorem tx_list (l : List UInt8) : (tx l).data.toList = l := by simp [tx]
/-- words, with something between them -/
abbrev jn (L : List (List UInt8)) (sep : List UInt8) : List UInt8 := Lib.join L sep
theorem jn_snoc (L : List (List UInt8)) (x sep : List UInt8) (h : L ≠ []) : jn (L ++ [x]) sep = jn L sep ++ sep ++ x := by
  rcases L with _ | ⟨y, L⟩
  · exact absurd rfl h
  · show Lib.join (y :: (L ++ [x])) sep = Lib.join (y :: L) sep ++ sep ++ x
    rw [Lib.join_cons, Lib.join_cons]
    unfold Lib.joinTail
    simp
theorem jn_take {L : List (List UInt8)} {k : Nat} (hk : k < L.length) (sep : List UInt8) : jn (L.take (k + 1)) sep = if k = 0 then L.getD 0 [] else jn (L.take k) sep ++ sep ++ L.getD k [] := by
  rw [List.take_succ_eq_append_getElem hk]
  have e : L.getD k [] = L[k] := by simp [List.getD, hk]
  split
  · rename_i h0
    subst h0
    rw [e]
    simp [Lib.join_one]
  · have hne : L.take k ≠ [] := fun e' => by
      have h' : (L.take k).length = 0 := by rw [e']; rfl
      rw [List.length_take] at h'
      omega
    rw [jn_snoc _ _ _ hne, e]
theorem jn_len {L : List (List UInt8)} {sep : List UInt8} {m : Nat} (h : ∀ x ∈ L, x.length ≤ m) : (jn L sep).length ≤ (sep.length + m) * L.length := by
  rcases L with _ | ⟨y, L⟩
  · simp [Lib.join_nil]
  · rw [Lib.join_length]
    have hs : ∀ M : List (List UInt8), (∀ x ∈ M, x.length ≤ m) → Lib.lens M ≤ m * M.length := fun M => by
      induction M with
      | nil => intro _; simp [Lib.lens]
      | cons x M ih =>
        intro hM
        have := ih fun x hx => hM x (by simp [hx])
        have := hM x (by simp)
        simp [Lib.lens, Nat.mul_succ] at *
        omega
    have := hs (y :: L) h
    simp only [List.length_cons] at *
    rw [Nat.add_mul, Nat.mul_succ]
    omega
/-- the texts of the first k points -/
def ptL (ps : List (Int × Int)) (k : Nat) : List (List UInt8) := (ps.take k).map fun p => ptT p.1 p.2
theorem ptL_succ {ps : List (Int × Int)} {k : Nat} (hk : k < ps.length) : ptL ps (k + 1) = ptL ps k ++ [ptT (ps.getD k (0, 0)).1 (ps.getD k (0, 0)).2] := by
  unfold ptL
  rw [List.take_succ_eq_append_getElem hk, List.map_append, show ps.getD k (0, 0) = ps[k] by simp [List.getD, hk]]; rfl
theorem ptL_len (ps : List (Int × Int)) (k : Nat) (h : k ≤ ps.length) : (ptL ps k).length = k := by simp [ptL]; omega
/-- the text of a ring -/
def rgT (ps : List (Int × Int)) : List UInt8 := jn (ptL ps ps.length) [32]
theorem oks_num {ps : List (Int × Int)} (h : oks ps = true) {k : Nat} (hk : k < ps.length) : Num (ps.getD k (0, 0)).1 ∧ Num (ps.getD k (0, 0)).2 := by
  have := List.all_eq_true.1 h (ps.getD k (0, 0)) (by simp [List.getD, hk])
  exact okP_num this
theorem ptL_small {ps : List (Int × Int)} (h : oks ps = true) : ∀ x ∈ ptL ps ps.length, x.length ≤ 43 := by
  intro x hx
  unfold ptL at hx
  rw [List.take_length, List.mem_map] at hx
  obtain ⟨p, hp, rfl⟩ := hx
  have := okP_num (List.all_eq_true.1 h p hp)
  exact ptT_len this.1 this.2
/-- what RingText returns -/
noncomputable def rgR (ps : List (Int × Int)) : List UInt8 := if ringB ps = true then rgT ps else []

end Go.Proofs.YtjjhhclaapifbaaGreatDoor
