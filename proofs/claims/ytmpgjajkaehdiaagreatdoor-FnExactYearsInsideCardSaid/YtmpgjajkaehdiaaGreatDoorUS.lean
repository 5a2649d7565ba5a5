/- Rows of spans that the call owns: their cells, their last span grown in place. -/
import Derived.Test.YtmpgjajkaehdiaaGreatDoorHP
import Derived.Test.YtmpgjajkaehdiaaGreatDoorIB
namespace Go.Proofs.YtmpgjajkaehdiaaGreatDoor
open Go.RowKit

/-- a span as two cells -/
def encSn (s : Sn) : List Value := [.int .i64 s.1, .int .i64 s.2]
theorem len_encSn : ∀ s, (encSn s).length = 2 := fun _ => rfl
theorem one_encSn : ∀ s, ∀ u ∈ encSn s, u.oneCell' = true := by
  intro s u hu
  simp [encSn] at hu
  rcases hu with rfl | rfl <;> rfl
theorem elSn : ElT Tryz.prog 27 55 2 16 := ElT.mk' (z := .agg #[.int .i64 0, .int .i64 0]) Tryz.underlying27 (by kernel_rfl) rfl (by omega)
abbrev OwSn (w : World) (base : Nat) (v : Value) (xs : List Sn) : Prop := Own encSn 2 55 w base v xs
theorem blk_sn1 {w : World} {g : Nat} {t : TypeId} {s : Sn} {cs : Array Value} (h : Blk w g t cs) (e : cs = #[.int .i64 s.1, .int .i64 s.2]) : SlAt w 2 encSn (some ⟨g, 0, none⟩) [s] := by
  subst e; exact h.sl rfl len_encSn
theorem SlAt.sn {w : World} {A : Option Addr} {S : List Sn} (h : SlAt w 2 encSn A S) {k : Nat} (hk : k < S.length) :
    ∃ b off, A = some ⟨b, off, none⟩ ∧ b < w.heap.size ∧ w.cell? ⟨b, off + k * 2, none⟩ = some (.int .i64 (S.getD k (0, 0)).1) ∧ w.cell? ⟨b, off + k * 2 + 1, none⟩ = some (.int .i64 (S.getD k (0, 0)).2) := by
  obtain ⟨b, off, e, hb, hc⟩ := h (by omega)
  have hg : S[k]? = some (S.getD k (0, 0)) := by simp [List.getD, hk]
  exact ⟨b, off, e, hb, by simpa using hc k _ hg 0 _ rfl, hc k _ hg 1 _ rfl⟩
theorem getD_snoc {α : Type} (o : List α) (s d : α) : (o ++ [s]).getD o.length d = s := by simp [List.getD]
theorem flat_snoc {o : List Sn} {s : Sn} {y : Int} : ((o ++ [s]).flatMap encSn).set (o.length * 2 + 1) (.int .i64 y) = (o ++ [(s.1, y)]).flatMap encSn := by
  have hl : (o.flatMap encSn).length = o.length * 2 := flatMap_len len_encSn o
  rw [List.flatMap_append, List.flatMap_append, List.set_append_right _ _ (by omega), hl]
  simp [encSn]
/-- the last span of an owned row: where it lies -/
theorem OwSn.last {w : World} {base : Nat} {v : Value} {o : List Sn} {s : Sn} (h : OwSn w base v (o ++ [s])) :
    ∃ g cap, v = .slice (some ⟨g, 0, none⟩) (o.length + 1) cap ∧ base ≤ g ∧ g < w.heap.size ∧ w.cell? ⟨g, o.length * 2, none⟩ = some (.int .i64 s.1) ∧ w.cell? ⟨g, o.length * 2 + 1, none⟩ = some (.int .i64 s.2) ∧ w.frozen? ⟨g, o.length * 2 + 1, none⟩ = false := by
  obtain ⟨g, cap, cur, rfl, hb, hB, hn, hm, hs, ht⟩ := h.open_ (by simp)
  have hlt : g < w.heap.size := hB.lt
  obtain ⟨A, c, e, hS, _⟩ := h.sl len_encSn
  injection e with e1 e2 e3
  subst e1 e3
  obtain ⟨b, off, e, _, h1, h2⟩ := hS.sn (k := o.length) (by simp)
  injection e with e
  injection e with e4 e5
  subst e4 e5
  rw [getD_snoc] at h1 h2
  refine ⟨g, cap, by simp, hb, hlt, by simpa using h1, by simpa using h2, ?_⟩
  have h' := h
  unfold OwSn Own at h'
  exact World.ownsRow.frozenAt (by simpa using h') _
theorem OwSn.at_ {w : World} {base g n cap : Nat} {o : List Sn} {s : Sn} (h : OwSn w base (.slice (some ⟨g, 0, none⟩) n cap) (o ++ [s])) :
    n = o.length + 1 ∧ base ≤ g ∧ g < w.heap.size ∧ w.cell? ⟨g, o.length * 2, none⟩ = some (.int .i64 s.1) ∧ w.cell? ⟨g, o.length * 2 + 1, none⟩ = some (.int .i64 s.2) ∧ w.frozen? ⟨g, o.length * 2 + 1, none⟩ = false := by
  obtain ⟨g', cap', e, r⟩ := h.last
  injection e with e1 e2 e3
  injection e1 with e1
  injection e1 with e1
  subst e1
  exact ⟨e2, r⟩
/-- the last span grown in place -/
theorem OwSn.grow {w : World} {base g cap : Nat} {o : List Sn} {s : Sn} (h : OwSn w base (.slice (some ⟨g, 0, none⟩) (o.length + 1) cap) (o ++ [s])) (y : Int) :
    OwSn (w.setCell ⟨g, o.length * 2 + 1, none⟩ (.int .i64 y)) base (.slice (some ⟨g, 0, none⟩) (o.length + 1) cap) (o ++ [(s.1, y)]) ∧ w.grownBy (w.setCell ⟨g, o.length * 2 + 1, none⟩ (.int .i64 y)) (some g) := by
  unfold OwSn Own at *
  simp only [List.length_append, List.length_cons, List.length_nil] at *
  obtain ⟨a, b⟩ := World.ownsRow.stored h (o.length * 2 + 1) (.int .i64 y)
  rw [flat_snoc] at a
  exact ⟨a, b⟩
/-- what the specification tells so far -/
def yrK (L : List Lk) (a b : List UInt8) (k : Nat) : List Sn := (yrTo (insY L a b) k).foldl joinS []
theorem yrK_no {L : List Lk} {a b : List UInt8} {k : Nat} (h : insY L a b (-3000 + (k : Int)) = false) : yrK L a b (k + 1) = yrK L a b k := by
  unfold yrK
  rw [yrTo_succ, if_neg (by rw [h]; exact Bool.false_ne_true), List.append_nil]
theorem yrK_yes {L : List Lk} {a b : List UInt8} {k : Nat} (h : insY L a b (-3000 + (k : Int)) = true) : yrK L a b (k + 1) = joinS (yrK L a b k) (-3000 + (k : Int), -3000 + (k : Int)) := by
  unfold yrK
  rw [yrTo_succ, if_pos h, List.foldl_append]; rfl
theorem joinS_mem {out : List Sn} {s t : Sn} (h : t ∈ joinS out s) : t ∈ out ∨ t.2 = s.2 ∨ ∃ u ∈ out, t = (u.1, max u.2 s.2) := by
  rcases List.eq_nil_or_concat out with rfl | ⟨o, u, rfl⟩
  · rw [joinS_nil, List.mem_singleton] at h
    rw [h]; exact .inr (.inl rfl)
  · rw [List.concat_eq_append] at *
    rw [joinS_snoc] at h
    split at h
    · rcases List.mem_append.1 h with e | e
      · exact .inl (List.mem_append_left _ e)
      · exact .inr (.inr ⟨u, List.mem_append_right _ (List.mem_singleton.2 rfl), List.mem_singleton.1 e⟩)
    · rcases List.mem_append.1 h with e | e
      · exact .inl e
      · rw [List.mem_singleton.1 e]; exact .inr (.inl rfl)
theorem yrK_lt (L : List Lk) (a b : List UInt8) : ∀ k, ∀ t ∈ yrK L a b k, t.2 < -3000 + (k : Int)
  | 0, t, ht => by cases ht
  | k + 1, t, ht => by
    cases h : insY L a b (-3000 + (k : Int)) with
    | false =>
      rw [yrK_no h] at ht
      have := yrK_lt L a b k t ht
      omega
    | true =>
      rw [yrK_yes h] at ht
      rcases joinS_mem ht with e | e | ⟨u, hu, rfl⟩
      · have := yrK_lt L a b k t e
        omega
      · rw [e]; simp only; omega
      · have := yrK_lt L a b k u hu
        simp only; omega
theorem joinS_len (out : List Sn) (s : Sn) : (joinS out s).length ≤ out.length + 1 := by
  rcases List.eq_nil_or_concat out with rfl | ⟨o, u, rfl⟩
  · rw [joinS_nil]; exact Nat.le_refl _
  · rw [List.concat_eq_append, joinS_snoc]
    split <;> simp
theorem yrK_len (L : List Lk) (a b : List UInt8) : ∀ k, (yrK L a b k).length ≤ k
  | 0 => Nat.le_refl _
  | k + 1 => by
    have := yrK_len L a b k
    cases h : insY L a b (-3000 + (k : Int)) with
    | false => rw [yrK_no h]; omega
    | true =>
      rw [yrK_yes h]
      have := joinS_len (yrK L a b k) (-3000 + (k : Int), -3000 + (k : Int))
      omega
/-- the year hangs on to the last span -/
theorem yrK_on {L : List Lk} {a b : List UInt8} {k : Nat} {o : List Sn} {s : Sn} (h : insY L a b (-3000 + (k : Int)) = true) (e : yrK L a b k = o ++ [s]) (hs : s.2 = -3000 + (k : Int) - 1) : yrK L a b (k + 1) = o ++ [(s.1, -3000 + (k : Int))] := by
  rw [yrK_yes h, e, joinS_snoc, if_pos (by simp only; omega)]
  simp only
  rw [show max s.2 (-3000 + (k : Int)) = -3000 + (k : Int) by omega]
/-- the year stands by itself -/
theorem yrK_new {L : List Lk} {a b : List UInt8} {k : Nat} {o : List Sn} {s : Sn} (h : insY L a b (-3000 + (k : Int)) = true) (e : yrK L a b k = o ++ [s]) (hs : s.2 ≠ -3000 + (k : Int) - 1) : yrK L a b (k + 1) = yrK L a b k ++ [(-3000 + (k : Int), -3000 + (k : Int))] := by
  have := yrK_lt L a b k s (by rw [e]; exact List.mem_append_right _ (List.mem_singleton.2 rfl))
  rw [yrK_yes h, e, joinS_snoc, if_neg (by simp only; omega)]
theorem yrK_first {L : List Lk} {a b : List UInt8} {k : Nat} (h : insY L a b (-3000 + (k : Int)) = true) (e : yrK L a b k = []) : yrK L a b (k + 1) = [(-3000 + (k : Int), -3000 + (k : Int))] := by
  rw [yrK_yes h, e, joinS_nil]
end Go.Proofs.YtmpgjajkaehdiaaGreatDoor
