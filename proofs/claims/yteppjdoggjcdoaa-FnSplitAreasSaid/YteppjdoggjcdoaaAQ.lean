/- Lists of any elements that a call itself gathers by append, in words of SlAt: no program in sight. -/
import Derived.Test.Yteppjdoggjcdoaa0
import Derived.Laws.AppendOwn
import Derived.Laws.OwnMore
import Derived.Lib.AppendZeros
namespace Go.Proofs.Yteppjdoggjcdoaa
open Go.RowKit

/-- the slice value v owns the elements xs, in a row from base on -/
def Own {α : Type} (enc : α → List Value) (sz : Nat) (t : TypeId) (w : World) (base : Nat) (v : Value) (xs : List α) : Prop := w.ownsRow base t sz v xs.length (xs.flatMap enc)
section
variable {α : Type} {enc : α → List Value} {sz : Nat} {t : TypeId} {w w' : World} {base : Nat} {v : Value} {xs ys : List α}
theorem Own.nil (w : World) (base : Nat) : Own enc sz t w base (.slice none 0 0) [] := World.ownsRow_nil w base _ _
theorem Own.sl (hk : ∀ x, (enc x).length = sz) (h : Own enc sz t w base v xs) : ∃ A c, v = .slice A xs.length c ∧ SlAt w sz enc A xs ∧ xs.length ≤ c ∧ c ≤ maxLen ∧ ∀ q, A = some q → base ≤ q.block ∧ q.block < w.heap.size := by
  obtain ⟨hl, h | ⟨g, cap, cur, hv, hb, hcell, hn, hm, hs, ht⟩⟩ := h
  · have : xs = [] := List.length_eq_zero_iff.1 h.2
    subst this
    exact ⟨none, 0, h.1, SlAt.nil, Nat.le_refl _, Nat.zero_le _, fun q e => by cases e⟩
  · refine ⟨some ⟨g, 0, none⟩, cap, hv, fun _ => ⟨g, 0, rfl, (Array.getElem?_eq_some_iff.1 hcell).1, fun i x hi j u hj => ?_⟩, hn, hm, fun q e => by injection e with e; subst e; exact ⟨hb, (Array.getElem?_eq_some_iff.1 hcell).1⟩⟩
    have hfm := flatMap_at (enc := enc) (sz := sz) hk xs i x j u hi hj
    rw [← ht] at hfm
    rw [cell_of_row w g _ cur _ (0, 0) hcell, ← Array.getElem?_toList, Nat.zero_add]
    rw [List.getElem?_take] at hfm
    split at hfm
    · exact hfm
    · cases hfm
theorem Own.row (h : Own enc sz t w base v xs) : ∀ k, v.ownBlock = some k → base ≤ k ∧ k < w.heap.size := World.ownsRow.lt h
theorem Own.alloc (h : Own enc sz t w base v xs) (o : Obj) : Own enc sz t (w.alloc o) base v xs := World.ownsRow.alloc h o
theorem Own.kept {row : Option Nat} (h : Own enc sz t w base v xs) (hg : w.grownBy w' row) (hne : v.ownBlock = none ∨ v.ownBlock ≠ row) : Own enc sz t w' base v xs := World.ownsRow.kept h hg hne
theorem Ext.grown0 (hx : Ext w w') : w.grownBy w' none := ⟨hx.os, hx.tape, hx.output, hx.size, fun k hk _ => hx.block k hk⟩
theorem Own.ext (h : Own enc sz t w base v xs) (hx : Ext w w') : Own enc sz t w' base v xs :=
  h.kept hx.grown0 (by
    rcases hv : v.ownBlock with _ | k
    · exact .inl rfl
    · exact .inr (by simp))
theorem Own.ext' (hx : Ext w w') (h : Own enc sz t w base v xs) : Own enc sz t w' base v xs := h.ext hx
theorem Own.less {base' : Nat} (h : Own enc sz t w base v xs) (hb : base' ≤ base) : Own enc sz t w base' v xs :=
  ⟨h.1, h.2.imp id fun ⟨g, cap, cur, hv, hbb, rest⟩ => ⟨g, cap, cur, hv, Nat.le_trans hb hbb, rest⟩⟩
theorem Own.add (h : w.ownsRow base t sz v (xs.length + ys.length) (xs.flatMap enc ++ ys.flatMap enc)) : Own enc sz t w base v (xs ++ ys) := by
  unfold Own
  rw [List.length_append, List.flatMap_append]
  exact h
/-- a whole block -/
theorem Own.of_blk {g : Nat} {cs : Array Value} (h : Blk w g t cs) (hk : ∀ x, (enc x).length = sz) (hcs : cs.toList = xs.flatMap enc) (hb : base ≤ g) (hm : xs.length ≤ maxLen) : Own enc sz t w base (.slice (some ⟨g, 0, none⟩) xs.length xs.length) xs := by
  have hfl := flatMap_len hk xs
  refine ⟨hfl, .inr ⟨g, xs.length, cs, rfl, hb, h, Nat.le_refl _, hm, ?_, ?_⟩⟩
  · rw [← Array.length_toList, hcs, hfl]
  · rw [hcs, ← hfl, List.take_length]
/-- the row's own block -/
theorem Own.open_ (h : Own enc sz t w base v xs) (h0 : 0 < xs.length) : ∃ (g cap : Nat) (cur : Array Value), v = .slice (some ⟨g, 0, none⟩) xs.length cap ∧ base ≤ g ∧ Blk w g t cur ∧ xs.length ≤ cap ∧ cap ≤ maxLen ∧ cur.size = cap * sz ∧ cur.toList.take (xs.length * sz) = xs.flatMap enc := by
  rcases h.2 with ⟨_, e⟩ | ⟨g, cap, cur, a, b, c, d, e, f, k⟩
  · omega
  · exact ⟨g, cap, cur, a, b, c, d, e, f, k⟩
theorem SlAt.grown {A : Option Addr} {row : Option Nat} (h : SlAt w sz enc A xs) (hg : w.grownBy w' row) (hne : ∀ q, A = some q → some q.block ≠ row) : SlAt w' sz enc A xs := fun hn => by
  obtain ⟨b, off, e, hb, hc⟩ := h hn
  refine ⟨b, off, e, Nat.lt_of_lt_of_le hb hg.size, fun i x hi j u hj => ?_⟩
  exact (World.cell?_of_block (a := ⟨b, off + i * sz + j, none⟩) (hg.block b hb (hne _ e))).trans (hc i x hi j u hj)
theorem SlAt.drop {A : Option Addr} (h : SlAt w sz enc A xs) (k : Nat) (hk : k < xs.length) : ∃ b off, A = some ⟨b, off, none⟩ ∧ b < w.heap.size ∧ SlAt w sz enc (some ⟨b, off + k * sz, none⟩) (xs.drop k) := by
  obtain ⟨b, off, e, hb, hc⟩ := h (by omega)
  refine ⟨b, off, e, hb, fun _ => ⟨b, off + k * sz, rfl, hb, fun i x hi j u hj => ?_⟩⟩
  rw [List.getElem?_drop] at hi
  have := hc (k + i) x hi j u hj
  rw [Nat.add_mul] at this
  rw [← this]
  congr 2
  omega
end
theorem World.grownBy.ext {a w w' : World} {row : Option Nat} (hg : w.grownBy w' row) (hx : Ext a w) (hr : ∀ k, row = some k → a.heap.size ≤ k) : Ext a w' := hx.grown hg hr

/-- what is asked of the types of a slice and of its elements -/
structure ElT (P : Program) (ts te : TypeId) (sz by_ : Nat) : Prop where
  under : P.underlying ts = some (.slice te)
  info : ∃ i z, P.info? te = some i ∧ i.zero = some z ∧ i.size = sz ∧ i.bytes = by_ ∧ z.cells.size = sz
  pos : 0 < sz
theorem ElT.mk' {P : Program} {ts te : TypeId} {z : Value} {sz by_ : Nat} (hu : P.underlying ts = some (.slice te)) (h : (P.info? te).map (fun i => (i.zero, i.size, i.bytes)) = some (some z, sz, by_)) (hz : z.cells.size = sz) (h0 : 0 < sz) : ElT P ts te sz by_ := by
  obtain ⟨i, a, b, c, d⟩ := info_parts h
  exact ⟨hu, ⟨i, z, a, b, c, d, hz⟩, h0⟩
theorem wpList_run {P : Program} (w : World) {ops : Array Oper} {rest : List Oper} {o : Oper} {a : Act} {Q : Exit → Act → World → Prop} (hgd : o.guard = none) (s x : Operand) (t tn : TypeId)
    (ho : o.op = .call { callee := .builtin .append, args := #[s, x], argTypes := #[t, tn] }) (vs vx : Value) (hs : a.eval s = vs) (hx : a.eval x = vx)
    (v' : Value) (w' : World) (hr : (Builtin.append_ #[t, tn] o.type #[vs, vx]).run P w = .ok v' w') (h : wpList P ops Q rest (a.put o.dst v') w') : wpList P ops Q (o :: rest) a w :=
  Lib.wpList_append_run w hgd s x t tn ho vs vx hs hx v' w' hr h
section
variable {α : Type} {enc : α → List Value} {sz by_ : Nat} {ts te : TypeId} {P : Program}
/-- append of what reads as a list, onto a row of the call's own -/
theorem run_append_sl (H : ElT P ts te sz by_) (ty : TypeId) (hk : ∀ x, (enc x).length = sz) (h1 : ∀ x, ∀ u ∈ enc x, u.oneCell' = true) {w : World} {base : Nat} {v : Value} {ys : List α} (hown : Own enc sz te w base v ys)
    {A : Option Addr} {c : Nat} {xs : List α} (hsl : SlAt w sz enc A xs) (h63 : ys.length + xs.length ≤ maxLen) (hbytes : (ys.length + xs.length) * by_ ≤ 140737488355328) (hbase : base ≤ w.heap.size) :
    ∃ v' w', (Builtin.append_ #[ts, ts] ty #[v, .slice A xs.length c]).run P w = .ok v' w' ∧ Own enc sz te w' base v' (ys ++ xs) ∧ w.grownBy w' v.ownBlock ∧ (v' = .slice none 0 0 ↔ v = .slice none 0 0 ∧ xs = []) := by
  obtain ⟨hu, ⟨i, z, hi, hz, hs, hb, hzs⟩, h0⟩ := H
  have hfl := flatMap_len hk xs
  have hone : ∀ u ∈ xs.flatMap enc, u.oneCell' = true := fun u hu => by
    obtain ⟨x, _, hx⟩ := List.mem_flatMap.1 hu
    exact h1 x u hx
  have hnil : xs.length = 0 ↔ xs = [] := List.length_eq_zero_iff
  rcases A with _ | ad
  · have hx0 : xs = [] := by
      rcases xs with _ | ⟨x, xs⟩
      · rfl
      · obtain ⟨_, _, e, _⟩ := hsl (by simp); cases e
    subst hx0
    refine ⟨v, w, ?_, by simpa using hown, World.grownBy.refl w _, by simp⟩
    rcases hown.2 with ⟨rfl, hl0⟩ | ⟨g, cap, cur, rfl, _, _, hnc, _⟩
    · simp [Builtin.append_, run_underlying hu, sizeOf, typeInfo, hi, Builtin.lenOf, Builtin.firstCells]
    · simp [Builtin.append_, run_underlying hu, sizeOf, typeInfo, hi, Builtin.lenOf, Builtin.firstCells, hnc, storeCells]
  · have hcells : ∀ j u, (xs.flatMap enc)[j]? = some u → w.cell? (ad.add j) = some u := fun j u hj => by
      have hj' : j < xs.length * sz := by rw [← hfl]; exact (List.getElem?_eq_some_iff.1 hj).1
      have hx0 : 0 < xs.length := by
        rcases Nat.eq_zero_or_pos xs.length with e | e
        · rw [e] at hj'; omega
        · exact e
      obtain ⟨b, off, e, _, hc⟩ := hsl hx0
      injection e with e
      subst e
      have hq : j / sz < xs.length := Nat.div_lt_of_lt_mul (by rw [Nat.mul_comm]; exact hj')
      have hm : j % sz < sz := Nat.mod_lt _ h0
      have hdm : j / sz * sz + j % sz = j := by rw [Nat.mul_comm]; exact Nat.div_add_mod j sz
      have hlen : j % sz < (enc xs[j / sz]).length := by rw [hk]; exact hm
      have ha := flatMap_at hk xs (j / sz) xs[j / sz] (j % sz) _ (List.getElem?_eq_getElem hq) (List.getElem?_eq_getElem hlen)
      rw [hdm, hj] at ha
      have hcc := hc (j / sz) xs[j / sz] (List.getElem?_eq_getElem hq) (j % sz) _ (List.getElem?_eq_getElem hlen)
      rw [Nat.add_assoc, hdm] at hcc
      injection ha with ha
      rw [ha, ← hcc]
      unfold Addr.add
      split
      · rename_i hz; subst hz; rfl
      · rfl
    obtain ⟨v', w', a1, a2, a3, a4⟩ := run_append_own w base ts ty te i z sz by_ hu hi hz hs hb hzs h0 v ys.length (ys.flatMap enc) hown ad xs.length c (xs.flatMap enc) hfl hcells hone h63 hbytes hbase
    exact ⟨v', w', a1, Own.add a2, a3, by rw [a4, hnil]⟩
theorem wpList_append_sl (H : ElT P ts te sz by_) (hk : ∀ x, (enc x).length = sz) (h1 : ∀ x, ∀ u ∈ enc x, u.oneCell' = true) {w : World} {ops : Array Oper} {rest : List Oper} {o : Oper} {a : Act} {Q : Exit → Act → World → Prop} (hgd : o.guard = none) (s x : Operand)
    (ho : o.op = .call { callee := .builtin .append, args := #[s, x], argTypes := #[ts, ts] }) {base : Nat} {v : Value} {ys : List α} (hs : a.eval s = v) (hown : Own enc sz te w base v ys)
    {A : Option Addr} {c : Nat} {xs : List α} (hx : a.eval x = .slice A xs.length c) (hsl : SlAt w sz enc A xs) (h63 : ys.length + xs.length ≤ maxLen) (hbytes : (ys.length + xs.length) * by_ ≤ 140737488355328) (hbase : base ≤ w.heap.size)
    (h : ∀ v' w', Own enc sz te w' base v' (ys ++ xs) → w.grownBy w' v.ownBlock → (v' = .slice none 0 0 ↔ v = .slice none 0 0 ∧ xs = []) → wpList P ops Q rest (a.put o.dst v') w') : wpList P ops Q (o :: rest) a w := by
  obtain ⟨v', w', a1, a2, a3, a4⟩ := run_append_sl H o.type hk h1 hown (c := c) hsl h63 hbytes hbase
  exact wpList_run w hgd s x ts ts ho _ _ hs hx v' w' a1 (h v' w' a2 a3 a4)
theorem wp_append_sl (H : ElT P ts te sz by_) (hk : ∀ x, (enc x).length = sz) (h1 : ∀ x, ∀ u ∈ enc x, u.oneCell' = true) {w : World} {o : Oper} {a : Act} {K : Act → World → Prop} {Q : Exit → Act → World → Prop} (s x : Operand)
    (ho : o.op = .call { callee := .builtin .append, args := #[s, x], argTypes := #[ts, ts] }) {base : Nat} {v : Value} {ys : List α} (hs : a.eval s = v) (hown : Own enc sz te w base v ys)
    {A : Option Addr} {c : Nat} {xs : List α} (hx : a.eval x = .slice A xs.length c) (hsl : SlAt w sz enc A xs) (h63 : ys.length + xs.length ≤ maxLen) (hbytes : (ys.length + xs.length) * by_ ≤ 140737488355328) (hbase : base ≤ w.heap.size)
    (h : ∀ v' w', Own enc sz te w' base v' (ys ++ xs) → w.grownBy w' v.ownBlock → (v' = .slice none 0 0 ↔ v = .slice none 0 0 ∧ xs = []) → K (a.put o.dst v') w') : o.wp P a w K Q := by
  obtain ⟨v', w', a1, a2, a3, a4⟩ := run_append_sl H o.type hk h1 hown (c := c) hsl h63 hbytes hbase
  exact Lib.wp_append_run w s x ts ts ho _ _ hs hx v' w' a1 (h v' w' a2 a3 a4)
/-- at a step of a region that draws its order -/
theorem step_append_sl (H : ElT P ts te sz by_) (hk : ∀ x, (enc x).length = sz) (h1 : ∀ x, ∀ u ∈ enc x, u.oneCell' = true) {w : World} {ops : Array Oper} {o : Oper} {a : Act} {K : Act → World → Prop} {Q : Exit → Act → World → Prop} {E : Prop} (hgd : o.guard = none) (s x : Operand)
    (ho : o.op = .call { callee := .builtin .append, args := #[s, x], argTypes := #[ts, ts] }) {base : Nat} {v : Value} {ys : List α} (hs : a.eval s = v) (hown : Own enc sz te w base v ys)
    {A : Option Addr} {c : Nat} {xs : List α} (hx : a.eval x = .slice A xs.length c) (hsl : SlAt w sz enc A xs) (h63 : ys.length + xs.length ≤ maxLen) (hbytes : (ys.length + xs.length) * by_ ≤ 140737488355328) (hbase : base ≤ w.heap.size)
    (h : ∀ v' w', Own enc sz te w' base v' (ys ++ xs) → w.grownBy w' v.ownBlock → (v' = .slice none 0 0 ↔ v = .slice none 0 0 ∧ xs = []) → K (a.put o.dst v') w') :
    if Region.wanted o (yielded ops a.tmps) = true then Oper.wp P o a w K Q else E := by
  have hw : Region.wanted o (yielded ops a.tmps) = true := by simp [Region.wanted, hgd]
  rw [if_pos hw]
  exact wp_append_sl H hk h1 s x ho hs hown hx hsl h63 hbytes hbase h
/-- append(nil, make([]T, n)...) -/
theorem run_append_zeros (H : ElT P ts te sz by_) {tn : TypeId} {kn : IntKind} (htn : P.underlying tn = some (.int kn)) (ty : TypeId) (w : World) (k : IntKind) (n : Nat) (h0 : 0 < n) (h63 : (n : Int) ≤ 9223372036854775807) (h48 : n * by_ ≤ 281474976710656) :
    ∃ c cs, (Builtin.append_ #[ts, tn] ty #[.slice none 0 0, .int k n]).run P w = .ok (.slice (some ⟨w.heap.size, 0, none⟩) n c) (w.drew.alloc (.cells cs te)) ∧ cs.size = c * sz ∧ n ≤ c ∧ (n ≤ maxLen → c ≤ maxLen) := by
  obtain ⟨hu, ⟨i, z, hi, hz, hs, hb, hzs⟩, hp⟩ := H
  have hge := grownCap_ge w n 0 te
  refine ⟨_, _, Lib.run_append_nil_zeros w ts tn ty te i z k kn hu htn hi hz n h0 (by omega) h63 (by rw [hb]; exact h48), ?_, hge, fun hm => grownCap_le_maxLen w n 0 te hm⟩
  rw [Array.size_append, size_zeroCells, size_zeroCells, hzs, ← Nat.add_mul]
  congr 1
  omega
theorem wpList_zeros (H : ElT P ts te sz by_) {tn : TypeId} {kn : IntKind} (htn : P.underlying tn = some (.int kn)) {w : World} {ops : Array Oper} {rest : List Oper} {o : Oper} {a : Act} {Q : Exit → Act → World → Prop} (hgd : o.guard = none) (s x : Operand)
    (ho : o.op = .call { callee := .builtin .append, args := #[s, x], argTypes := #[ts, tn] }) (hs : a.eval s = .slice none 0 0) {k : IntKind} {n : Nat} (hx : a.eval x = .int k n) (h0 : 0 < n) (h63 : n ≤ 1048576) (hby : by_ ≤ 1024)
    (h : ∀ c cs, cs.size = c * sz → n ≤ c → Hid (c ≤ maxLen) → wpList P ops Q rest (a.put o.dst (.slice (some ⟨w.heap.size, 0, none⟩) n c)) (w.drew.alloc (.cells cs te))) : wpList P ops Q (o :: rest) a w := by
  have hb : n * by_ ≤ 281474976710656 := Nat.le_trans (Nat.mul_le_mul h63 hby) (by omega)
  obtain ⟨c, cs, hr, h1, h2, h3⟩ := run_append_zeros H htn o.type w k n h0 (by omega) hb
  exact wpList_run w hgd s x ts tn ho _ _ hs hx _ _ hr (h c cs h1 h2 (Lib.hid (h3 (by unfold maxLen; omega))))
end
end Go.Proofs.Yteppjdoggjcdoaa
