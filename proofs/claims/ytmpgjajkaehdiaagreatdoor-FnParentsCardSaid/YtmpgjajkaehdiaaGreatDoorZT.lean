/- An append that also tells where the row lies behind it: no program in sight. -/
import Derived.Test.YtmpgjajkaehdiaaGreatDoorG0
import Derived.Maps.AppendAt
namespace Go.Proofs.YtmpgjajkaehdiaaGreatDoor
open Go.RowKit
section
variable {α : Type} {enc : α → List Value} {sz by_ : Nat} {ts te : TypeId} {P : Program}
theorem run_append_slA (H : ElT P ts te sz by_) (ty : TypeId) (hk : ∀ x, (enc x).length = sz) (h1 : ∀ x, ∀ u ∈ enc x, u.oneCell' = true) {w : World} {base : Nat} {v : Value} {ys : List α} (hown : Own enc sz te w base v ys)
    {A : Option Addr} {c : Nat} {xs : List α} (hsl : SlAt w sz enc A xs) (h63 : ys.length + xs.length ≤ maxLen) (hbytes : (ys.length + xs.length) * by_ ≤ 140737488355328) (hbase : base ≤ w.heap.size) :
    ∃ v' w', (Builtin.append_ #[ts, ts] ty #[v, .slice A xs.length c]).run P w = .ok v' w' ∧ Own enc sz te w' base v' (ys ++ xs) ∧ w.grownBy w' v.ownBlock ∧ (v' = .slice none 0 0 ↔ v = .slice none 0 0 ∧ xs = []) ∧ (v'.ownBlock = v.ownBlock ∨ v'.ownBlock = some w.heap.size) := by
  obtain ⟨hu, ⟨i, z, hi, hz, hs, hb, hzs⟩, h0⟩ := H
  have hfl := flatMap_len hk xs
  have hone : ∀ u ∈ xs.flatMap enc, u.oneCell' = true := fun u hu => by
    obtain ⟨x, _, hx⟩ := List.mem_flatMap.1 hu
    exact h1 x u hx
  have hnil : xs.length = 0 ↔ xs = [] := List.length_eq_zero_iff
  rcases A with _ | ad
  · have hx0 : xs = [] := by
      rcases xs with _ | ⟨x, xs⟩
      · rfl
      · obtain ⟨_, _, e, _⟩ := hsl (by simp); cases e
    subst hx0
    refine ⟨v, w, ?_, by simpa using hown, World.grownBy.refl w _, by simp, .inl rfl⟩
    rcases hown.2 with ⟨rfl, hl0⟩ | ⟨g, cap, cur, rfl, _, _, hnc, _⟩
    · simp [Builtin.append_, run_underlying hu, sizeOf, typeInfo, hi, Builtin.lenOf, Builtin.firstCells]
    · simp [Builtin.append_, run_underlying hu, sizeOf, typeInfo, hi, Builtin.lenOf, Builtin.firstCells, hnc, storeCells]
  · have hcells : ∀ j u, (xs.flatMap enc)[j]? = some u → w.cell? (ad.add j) = some u := fun j u hj => by
      have hj' : j < xs.length * sz := by rw [← hfl]; exact (List.getElem?_eq_some_iff.1 hj).1
      have hx0 : 0 < xs.length := by
        rcases Nat.eq_zero_or_pos xs.length with e | e
        · rw [e] at hj'; omega
        · exact e
      obtain ⟨b, off, e, _, hc⟩ := hsl hx0
      injection e with e
      subst e
      have hq : j / sz < xs.length := Nat.div_lt_of_lt_mul (by rw [Nat.mul_comm]; exact hj')
      have hm : j % sz < sz := Nat.mod_lt _ h0
      have hdm : j / sz * sz + j % sz = j := by rw [Nat.mul_comm]; exact Nat.div_add_mod j sz
      have hlen : j % sz < (enc xs[j / sz]).length := by rw [hk]; exact hm
      have ha := flatMap_at hk xs (j / sz) xs[j / sz] (j % sz) _ (List.getElem?_eq_getElem hq) (List.getElem?_eq_getElem hlen)
      rw [hdm, hj] at ha
      have hcc := hc (j / sz) xs[j / sz] (List.getElem?_eq_getElem hq) (j % sz) _ (List.getElem?_eq_getElem hlen)
      rw [Nat.add_assoc, hdm] at hcc
      injection ha with ha
      rw [ha, ← hcc]
      unfold Addr.add
      split
      · rename_i hz; subst hz; rfl
      · rfl
    obtain ⟨v', w', a1, a2, a3, a4, a5⟩ := run_append_own_at w base ts ty te i z sz by_ hu hi hz hs hb hzs h0 v ys.length (ys.flatMap enc) hown ad xs.length c (xs.flatMap enc) hfl hcells hone h63 hbytes hbase
    exact ⟨v', w', a1, Own.add a2, a3, by rw [a4, hnil], a5⟩
theorem wpList_append_slA (H : ElT P ts te sz by_) (hk : ∀ x, (enc x).length = sz) (h1 : ∀ x, ∀ u ∈ enc x, u.oneCell' = true) {w : World} {ops : Array Oper} {rest : List Oper} {o : Oper} {a : Act} {Q : Exit → Act → World → Prop} (hgd : o.guard = none) (s x : Operand)
    (ho : o.op = .call { callee := .builtin .append, args := #[s, x], argTypes := #[ts, ts] }) {base : Nat} {v : Value} {ys : List α} (hs : a.eval s = v) (hown : Own enc sz te w base v ys)
    {A : Option Addr} {c : Nat} {xs : List α} (hx : a.eval x = .slice A xs.length c) (hsl : SlAt w sz enc A xs) (h63 : ys.length + xs.length ≤ maxLen) (hbytes : (ys.length + xs.length) * by_ ≤ 140737488355328) (hbase : base ≤ w.heap.size)
    (h : ∀ v' w', Own enc sz te w' base v' (ys ++ xs) → w.grownBy w' v.ownBlock → (v' = .slice none 0 0 ↔ v = .slice none 0 0 ∧ xs = []) → (v'.ownBlock = v.ownBlock ∨ v'.ownBlock = some w.heap.size) → wpList P ops Q rest (a.put o.dst v') w') : wpList P ops Q (o :: rest) a w := by
  obtain ⟨v', w', a1, a2, a3, a4, a5⟩ := run_append_slA H o.type hk h1 hown (c := c) hsl h63 hbytes hbase
  exact wpList_run w hgd s x ts ts ho _ _ hs hx v' w' a1 (h v' w' a2 a3 a4 a5)
end
end Go.Proofs.YtmpgjajkaehdiaaGreatDoor
