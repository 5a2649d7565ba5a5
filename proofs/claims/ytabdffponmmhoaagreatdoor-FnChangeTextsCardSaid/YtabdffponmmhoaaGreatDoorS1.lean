/- Codes, sorted lists of places, children and what lies inside, as the specification sees them. An append that also tells where the row lies behind it: no program in sight. Children of a place and what lies inside it, as the specification tells them. Children of a place and what lies inside it, as the program tells them. -/
import Derived.Test.YtabdffponmmhoaaGreatDoorZS
import Derived.Test.YtabdffponmmhoaaGreatDoorGU
import Derived.Deep.RegionHeld3
import Derived.Deep.DeepCutAuto
import Derived.RegionTactic
import Derived.BigRegion
import Derived.WalkLawsBesides
import Derived.WalkSpells
import Derived.Lib.MinMax
import Derived.Outline
import Derived.Test.YtabdffponmmhoaaGreatDoorG0
import Derived.Maps.AppendAt
import Derived.Test.YtabdffponmmhoaaGreatDoorI1
namespace Go.Proofs.YtabdffponmmhoaaGreatDoor
open Go.RowKit
attribute [local go_sem] ExtOf.cell ExtOf.frozen

theorem as_boolZ {P : Program} {f : FuncId} {args : Array Value} {w : World} {b b' : Bool} (h : Calls P f args w fun e w' => e = .returned (.bool b) ∧ w = w') (e : b = b') : Calls P f args w fun e w' => e = .returned (.bool b') ∧ w = w' := e ▸ h
theorem own_nw {g n q : Nat} (hq : (Value.slice (some ⟨g, 0, none⟩) n n).ownBlock = some q) : g ≤ q := by
  cases hq; exact Nat.le_refl _
theorem SlAt.none_ {α : Type} {enc : α → List Value} {sz : Nat} {w : World} {A : Option Addr} {xs : List α} (h : xs = []) : SlAt w sz enc A xs := fun hn => by subst h; exact absurd hn (by simp)
theorem SlAt.takeE {α : Type} {enc : α → List Value} {sz : Nat} {w : World} {A : Option Addr} {xs : List α} (h : SlAt w sz enc A xs) (k : Nat) : SlAt w sz enc A (xs.take k) := fun hn => by
  obtain ⟨b, off, e, hb, hc⟩ := h (by rw [List.length_take] at hn; omega)
  refine ⟨b, off, e, hb, fun i x hi j u hj => hc i x ?_ j u hj⟩
  rw [List.getElem?_take] at hi
  split at hi
  · exact hi
  · cases hi
theorem eval_lnE {α : Type} {v : Value} {A : Option Addr} {n c : Nat} {xs : List α} (hv : v = .slice A n c) (e : xs.length = n) : v = .slice A xs.length c := by rw [hv, e]

-- GEN
/-- the memory has not shrunk below n -/
def UpE (n : Nat) (w : World) : Prop := n ≤ w.heap.size
theorem own_isE {g n q : Nat} (hq : (Value.slice (some ⟨g, 0, none⟩) n n).ownBlock = some q) : q = g := by
  cases hq; rfl
theorem blk_keptE {w w' : World} {row : Option Nat} {g : Nat} {t : TypeId} {cs : Array Value} (hg : w.grownBy w' row) (hB : Blk w g t cs) (hne : some g ≠ row) : Blk w' g t cs := (hg.block g hB.lt hne).trans hB
theorem kept_ofE {w w' : World} {b n : Nat} (hg : w.grownBy w' (Value.slice (some ⟨b, 0, none⟩) n n).ownBlock) : ∀ g t cs, Blk w g t cs → ¬ g = b → Blk w' g t cs := fun _ _ _ hB hne => blk_keptE hg hB fun e => hne (own_isE e.symm)
theorem plaA_take (L : List Lk) (k : Nat) (hk : k < L.length) : plaA (L.take (k + 1)) = insA (insA (plaA (L.take k)) (L.getD k lkD).1) (L.getD k lkD).2.1 := by
  unfold plaA
  rw [List.take_succ_eq_append_getElem hk, List.foldl_append, show L.getD k lkD = L[k] by simp [List.getD, hk]]
  rfl
theorem insA_len (l : List (List UInt8)) (x : List UInt8) : (insA l x).length ≤ l.length + 1 := by
  induction l with
  | nil => simp [insA]
  | cons a l ih =>
    unfold insA
    split
    · simp only [List.length_cons]; omega
    · split
      · simp
      · simp
theorem plaA_len (L : List Lk) : ∀ k, k ≤ L.length → (plaA (L.take k)).length ≤ 2 * k
  | 0, _ => by simp [plaA]
  | k + 1, h => by
    have := plaA_len L k (by omega)
    rw [plaA_take L k (by omega)]
    have h1 := insA_len (insA (plaA (L.take k)) (L.getD k lkD).1) (L.getD k lkD).2.1
    have h2 := insA_len (plaA (L.take k)) (L.getD k lkD).1
    omega

end Go.Proofs.YtabdffponmmhoaaGreatDoor
namespace Go.Proofs.YtabdffponmmhoaaGreatDoor
open Go.RowKit
section
variable {α : Type} {enc : α → List Value} {sz by_ : Nat} {ts te : TypeId} {P : Program}
theorem run_append_slA (H : ElT P ts te sz by_) (ty : TypeId) (hk : ∀ x, (enc x).length = sz) (h1 : ∀ x, ∀ u ∈ enc x, u.oneCell' = true) {w : World} {base : Nat} {v : Value} {ys : List α} (hown : Own enc sz te w base v ys)
    {A : Option Addr} {c : Nat} {xs : List α} (hsl : SlAt w sz enc A xs) (h63 : ys.length + xs.length ≤ maxLen) (hbytes : (ys.length + xs.length) * by_ ≤ 140737488355328) (hbase : base ≤ w.heap.size) :
    ∃ v' w', (Builtin.append_ #[ts, ts] ty #[v, .slice A xs.length c]).run P w = .ok v' w' ∧ Own enc sz te w' base v' (ys ++ xs) ∧ w.grownBy w' v.ownBlock ∧ (v' = .slice none 0 0 ↔ v = .slice none 0 0 ∧ xs = []) ∧ (v'.ownBlock = v.ownBlock ∨ v'.ownBlock = some w.heap.size) := by
  obtain ⟨hu, ⟨i, z, hi, hz, hs, hb, hzs⟩, h0⟩ := H
  have hfl := flatMap_len hk xs
  have hone : ∀ u ∈ xs.flatMap enc, u.oneCell' = true := fun u hu => by
    obtain ⟨x, _, hx⟩ := List.mem_flatMap.1 hu
    exact h1 x u hx
  have hnil : xs.length = 0 ↔ xs = [] := List.length_eq_zero_iff
  rcases A with _ | ad
  · have hx0 : xs = [] := by
      rcases xs with _ | ⟨x, xs⟩
      · rfl
      · obtain ⟨_, _, e, _⟩ := hsl (by simp); cases e
    subst hx0
    refine ⟨v, w, ?_, by simpa using hown, World.grownBy.refl w _, by simp, .inl rfl⟩
    rcases hown.2 with ⟨rfl, hl0⟩ | ⟨g, cap, cur, rfl, _, _, hnc, _⟩
    · simp [Builtin.append_, run_underlying hu, sizeOf, typeInfo, hi, Builtin.lenOf, Builtin.firstCells]
    · simp [Builtin.append_, run_underlying hu, sizeOf, typeInfo, hi, Builtin.lenOf, Builtin.firstCells, hnc, storeCells]
  · have hcells : ∀ j u, (xs.flatMap enc)[j]? = some u → w.cell? (ad.add j) = some u := fun j u hj => by
      have hj' : j < xs.length * sz := by rw [← hfl]; exact (List.getElem?_eq_some_iff.1 hj).1
      have hx0 : 0 < xs.length := by
        rcases Nat.eq_zero_or_pos xs.length with e | e
        · rw [e] at hj'; omega
        · exact e
      obtain ⟨b, off, e, _, hc⟩ := hsl hx0
      injection e with e
      subst e
      have hq : j / sz < xs.length := Nat.div_lt_of_lt_mul (by rw [Nat.mul_comm]; exact hj')
      have hm : j % sz < sz := Nat.mod_lt _ h0
      have hdm : j / sz * sz + j % sz = j := by rw [Nat.mul_comm]; exact Nat.div_add_mod j sz
      have hlen : j % sz < (enc xs[j / sz]).length := by rw [hk]; exact hm
      have ha := flatMap_at hk xs (j / sz) xs[j / sz] (j % sz) _ (List.getElem?_eq_getElem hq) (List.getElem?_eq_getElem hlen)
      rw [hdm, hj] at ha
      have hcc := hc (j / sz) xs[j / sz] (List.getElem?_eq_getElem hq) (j % sz) _ (List.getElem?_eq_getElem hlen)
      rw [Nat.add_assoc, hdm] at hcc
      injection ha with ha
      rw [ha, ← hcc]
      unfold Addr.add
      split
      · rename_i hz; subst hz; rfl
      · rfl
    obtain ⟨v', w', a1, a2, a3, a4, a5⟩ := run_append_own_at w base ts ty te i z sz by_ hu hi hz hs hb hzs h0 v ys.length (ys.flatMap enc) hown ad xs.length c (xs.flatMap enc) hfl hcells hone h63 hbytes hbase
    exact ⟨v', w', a1, Own.add a2, a3, by rw [a4, hnil], a5⟩
theorem wpList_append_slA (H : ElT P ts te sz by_) (hk : ∀ x, (enc x).length = sz) (h1 : ∀ x, ∀ u ∈ enc x, u.oneCell' = true) {w : World} {ops : Array Oper} {rest : List Oper} {o : Oper} {a : Act} {Q : Exit → Act → World → Prop} (hgd : o.guard = none) (s x : Operand)
    (ho : o.op = .call { callee := .builtin .append, args := #[s, x], argTypes := #[ts, ts] }) {base : Nat} {v : Value} {ys : List α} (hs : a.eval s = v) (hown : Own enc sz te w base v ys)
    {A : Option Addr} {c : Nat} {xs : List α} (hx : a.eval x = .slice A xs.length c) (hsl : SlAt w sz enc A xs) (h63 : ys.length + xs.length ≤ maxLen) (hbytes : (ys.length + xs.length) * by_ ≤ 140737488355328) (hbase : base ≤ w.heap.size)
    (h : ∀ v' w', Own enc sz te w' base v' (ys ++ xs) → w.grownBy w' v.ownBlock → (v' = .slice none 0 0 ↔ v = .slice none 0 0 ∧ xs = []) → (v'.ownBlock = v.ownBlock ∨ v'.ownBlock = some w.heap.size) → wpList P ops Q rest (a.put o.dst v') w') : wpList P ops Q (o :: rest) a w := by
  obtain ⟨v', w', a1, a2, a3, a4, a5⟩ := run_append_slA H o.type hk h1 hown (c := c) hsl h63 hbytes hbase
  exact wpList_run w hgd s x ts ts ho _ _ hs hx v' w' a1 (h v' w' a2 a3 a4 a5)
end
end Go.Proofs.YtabdffponmmhoaaGreatDoor
namespace Go.Proofs.YtabdffponmmhoaaGreatDoor
open Go.RowKit
attribute [local go_sem] ExtOf.cell ExtOf.frozen


/-- children of a place in a year -/
noncomputable def chiR (L : List Lk) (x : List UInt8) (y : Int) : List (List UInt8) := if lkC L [x] y = 0 then (plaA L).filter (chiB L x y) else []
/-- what lies inside a place in a year -/
noncomputable def insR (L : List Lk) (x : List UInt8) (y : Int) : List (List UInt8) := if lkC L [x] y = 0 then (plaA L).filter (insB L x y) else []
/-- of the first k places those that p asks for -/
def filTo (P : List (List UInt8)) (p : List UInt8 → Bool) (k : Nat) : List (List UInt8) := (P.take k).filter p
theorem filTo_succ {P : List (List UInt8)} {p : List UInt8 → Bool} {k : Nat} (hk : k < P.length) : filTo P p (k + 1) = if p (P.getD k []) = true then filTo P p k ++ [P.getD k []] else filTo P p k := by
  unfold filTo
  rw [List.take_succ_eq_append_getElem hk, List.filter_append, show P.getD k [] = P[k] by simp [List.getD, hk]]
  by_cases h : p P[k] = true
  · rw [if_pos h]; simp [h]
  · rw [if_neg h]; simp [h]
theorem filTo_len (P : List (List UInt8)) (p : List UInt8 → Bool) (k : Nat) : (filTo P p k).length ≤ k := by
  unfold filTo
  have := List.length_filter_le p (P.take k)
  rw [List.length_take] at this
  omega
theorem filTo_all (P : List (List UInt8)) (p : List UInt8 → Bool) {k : Nat} (hk : P.length ≤ k) : filTo P p k = P.filter p := by
  unfold filTo
  rw [List.take_of_length_le hk]
theorem lks20 {L : List Lk} (h : lksB L = true) : L.length ≤ 20 := (lksB_iff.1 h).1.2
theorem pla_len (L : List Lk) : (plaA L).length ≤ 2 * L.length := by
  have := plaA_len L L.length (Nat.le_refl _)
  rwa [List.take_length] at this
theorem pla_ne {L : List Lk} (h : lksB L = true) {x : List UInt8} (hx : x ∈ plaA L) : x ≠ [] := by
  obtain ⟨l, hl, hc⟩ := plaA_mem.1 hx
  obtain ⟨i, hi, rfl⟩ := List.mem_iff_getElem.1 hl
  have := ((lksB_iff.1 h).1.1 i hi).1
  simp only [List.getD, List.getElem?_eq_getElem hi, Option.getD_some, lkB, Bool.and_eq_true] at this
  rcases hc with rfl | rfl
  · exact smL_ne this.1.1.1
  · exact smL_ne this.1.1.2
theorem smA_ne {x : List UInt8} (h : ([x].all fun x => smL x 1 16) = true) : x ≠ [] := by
  simp at h
  exact smL_ne h
theorem chi_eq {L : List Lk} {x : List UInt8} {y : Int} (h : lkC L [x] y = 0) : sortA ((L.filter fun l => lkHas l y && chiB L x y l.1).map fun l => l.1) = chiR L x y := by
  unfold chiR
  rw [if_pos h]
  exact chi_law L (smA_ne (lkC_zero h).2.1) y
theorem ins_eq {L : List Lk} {x : List UInt8} {y : Int} (h : lkC L [x] y = 0) : sortA ((L.filter fun l => lkHas l y && insB L x y l.1).map fun l => l.1) = insR L x y := by
  unfold insR
  rw [if_pos h]
  exact ins_law L x y
theorem mem_getDE {α : Type} {d : α} {xs : List α} {k : Nat} (hk : k < xs.length) : xs.getD k d ∈ xs := by simp [List.getD, hk]


end Go.Proofs.YtabdffponmmhoaaGreatDoor
namespace Go.Proofs.YtabdffponmmhoaaGreatDoor
open Go.RowKit
attribute [local go_sem] ExtOf.cell ExtOf.frozen



end Go.Proofs.YtabdffponmmhoaaGreatDoor
