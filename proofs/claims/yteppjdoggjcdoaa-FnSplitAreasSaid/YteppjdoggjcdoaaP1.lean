/- Plain laws of shared edges: no ring shares an edge with itself. An append onto one of several rows that a call gathers side by side: it stays in its block or begins a new one. No program in sight. Contracts of the laws on lists of int64, walked over the translation. Contracts of shared edges, walked over the translation. Contracts of neighbours and of shared edges, walked over the translation. -/
import Derived.Test.YteppjdoggjcdoaaOB
import Derived.Test.YteppjdoggjcdoaaAQ
import Derived.Test.YteppjdoggjcdoaaEG
import Derived.Test.YteppjdoggjcdoaaI
import Derived.Deep.RegionHeld3
import Derived.Deep.DeepCutAuto
import Derived.RegionTactic
import Derived.BigRegion
import Derived.WalkLawsBesides
import Derived.WalkSpells
import Derived.Lib.MinMax
import Derived.Outline
namespace Go.Proofs.Yteppjdoggjcdoaa
open Go.RowKit

/-- whether the edge turned round is among others -/
def bk (q : List Ed) (e : Ed) : Bool := hasE q e.2.1 e.2.2 e.1.1 e.1.2
/-- the edges of the first k that are shared, and those that are not -/
def shTo (o q : List Ed) (k : Nat) : List Ed := (o.take k).filter (bk q)
def unTo (o q : List Ed) (k : Nat) : List Ed := (o.take k).filter fun e => !bk q e
theorem shTo_yes {o q : List Ed} {k : Nat} (hk : k < o.length) (h : bk q (o.getD k edD) = true) : shTo o q (k + 1) = shTo o q k ++ [o.getD k edD] := by
  unfold shTo
  rw [List.take_succ_eq_append_getElem hk, List.filter_append]
  have e : o.getD k edD = o[k] := by simp [List.getD, hk]
  rw [e] at h ⊢
  simp [h]
theorem shTo_no {o q : List Ed} {k : Nat} (hk : k < o.length) (h : bk q (o.getD k edD) = false) : shTo o q (k + 1) = shTo o q k := by
  unfold shTo
  rw [List.take_succ_eq_append_getElem hk, List.filter_append]
  have e : o.getD k edD = o[k] := by simp [List.getD, hk]
  rw [e] at h
  simp [h]
theorem unTo_yes {o q : List Ed} {k : Nat} (hk : k < o.length) (h : bk q (o.getD k edD) = false) : unTo o q (k + 1) = unTo o q k ++ [o.getD k edD] := by
  unfold unTo
  rw [List.take_succ_eq_append_getElem hk, List.filter_append]
  have e : o.getD k edD = o[k] := by simp [List.getD, hk]
  rw [e] at h ⊢
  simp [h]
theorem unTo_no {o q : List Ed} {k : Nat} (hk : k < o.length) (h : bk q (o.getD k edD) = true) : unTo o q (k + 1) = unTo o q k := by
  unfold unTo
  rw [List.take_succ_eq_append_getElem hk, List.filter_append]
  have e : o.getD k edD = o[k] := by simp [List.getD, hk]
  rw [e] at h
  simp [h]
theorem shTo_len (o q : List Ed) (k : Nat) : (shTo o q k).length ≤ k := by
  unfold shTo
  exact Nat.le_trans (List.length_filter_le _ _) (by rw [List.length_take]; omega)
theorem unTo_len (o q : List Ed) (k : Nat) : (unTo o q k).length ≤ k := by
  unfold unTo
  exact Nat.le_trans (List.length_filter_le _ _) (by rw [List.length_take]; omega)
/-- the edges of a ring that are shared with another one, and its others -/
def shE (pa pb : List (Int × Int)) : List Ed := shTo (edL (normS pa)) (edL (normS pb)) (edL (normS pa)).length
def unE (pa pb : List (Int × Int)) : List Ed := unTo (edL (normS pa)) (edL (normS pb)) (edL (normS pa)).length
theorem shE_len (pa pb : List (Int × Int)) : (shE pa pb).length ≤ pa.length := by
  have := shTo_len (edL (normS pa)) (edL (normS pb)) (edL (normS pa)).length
  rw [edL_len, normS_len] at this
  unfold shE
  rwa [edL_len, normS_len]
theorem unE_len (pa pb : List (Int × Int)) : (unE pa pb).length ≤ pa.length := by
  have := unTo_len (edL (normS pa)) (edL (normS pb)) (edL (normS pa)).length
  rw [edL_len, normS_len] at this
  unfold unE
  rwa [edL_len, normS_len]

theorem Diff.rot {o : List (Int × Int)} (h : Diff o) {f : Nat} (hf : f < o.length) : Diff (o.drop f ++ o.take f) := by
  intro i j hi hj e
  have hl : (o.drop f ++ o.take f).length = o.length := by rw [List.length_append, List.length_drop, List.length_take]; omega
  rw [hl] at hi hj
  unfold atP at e
  rw [rot_getD hf hi, rot_getD hf hj] at e
  have := h _ _ (by split <;> omega) (by split <;> omega) e
  split at this <;> split at this <;> omega
theorem RingP.diffN {ps : List (Int × Int)} (h : RingP ps) : Diff (normS ps) := by
  rw [← norm_same h]
  have h0 : 0 < ps.length := by have := h.1; omega
  unfold normI
  have hm : minTo (outI ps) ps.length < (outI ps).length := minTo_lt (by rw [outI_len]; exact h0) (by rw [outI_len]; exact Nat.le_refl _)
  refine Diff.rot ?_ hm
  unfold outI
  split
  · exact h.diff.rev
  · exact h.diff
theorem ptxz_at (o : List (Int × Int)) (k : Nat) : (ptx o (k : Int), ptz o (k : Int)) = atP o (k % o.length) := ptxz_nat o k
theorem ed_back {o : List (Int × Int)} (hd : Diff o) (h3 : 3 ≤ o.length) {i j : Nat} (hi : i < o.length) (hj : j < o.length) : edAt o j ≠ flipEd (edAt o i) := by
  intro e
  rw [edAt_eq hi, edAt_eq hj] at e
  unfold flipEd at e
  rw [Prod.mk.injEq, ptxz_at, ptxz_at, ptxz_at, ptxz_at] at e
  have hm : ∀ k, k % o.length < o.length := fun k => Nat.mod_lt _ (by omega)
  have e1 := hd _ _ (hm _) (hm _) e.1
  have e2 := hd _ _ (hm _) (hm _) e.2
  rw [Nat.mod_eq_of_lt hj] at e1
  rw [Nat.mod_eq_of_lt hi] at e2
  rcases Nat.lt_or_ge (i + 1) o.length with c | c
  · rw [Nat.mod_eq_of_lt c] at e1
    rcases Nat.lt_or_ge (j + 1) o.length with c' | c'
    · rw [Nat.mod_eq_of_lt c'] at e2; omega
    · rw [show j + 1 = o.length by omega, Nat.mod_self] at e2; omega
  · rw [show i + 1 = o.length by omega, Nat.mod_self] at e1
    rw [Nat.mod_eq_of_lt (by omega)] at e2; omega
theorem eqEd_eq {e f : Ed} : eqEd e.1.1 e.1.2 e.2.1 e.2.2 f.1.1 f.1.2 f.2.1 f.2.2 = true ↔ e = f := by
  unfold eqEd
  rw [Bool.and_eq_true, eqP_iff, eqP_iff]
  obtain ⟨⟨a, b⟩, c, d⟩ := e
  obtain ⟨⟨p, q⟩, r, s⟩ := f
  simp only [Prod.mk.injEq]
theorem hasE_iff {q : List Ed} {e : Ed} : hasE q e.1.1 e.1.2 e.2.1 e.2.2 = true ↔ e ∈ q := by
  unfold hasE
  rw [List.any_eq_true]
  constructor
  · rintro ⟨x, hx, h⟩
    rw [eqEd_eq] at h
    exact h ▸ hx
  · exact fun h => ⟨e, h, eqEd_eq.2 rfl⟩
theorem bk_iff {q : List Ed} {e : Ed} : bk q e = true ↔ flipEd e ∈ q := hasE_iff (e := flipEd e)
theorem mem_edL' {o : List (Int × Int)} {e : Ed} : e ∈ edL o ↔ ∃ i, i < o.length ∧ edAt o i = e := by
  unfold edL edTo
  simp
theorem shE_mem {pa pb : List (Int × Int)} {e : Ed} : e ∈ shE pa pb ↔ e ∈ edL (normS pa) ∧ flipEd e ∈ edL (normS pb) := by
  unfold shE shTo
  rw [List.take_length, List.mem_filter, bk_iff]
theorem unE_mem {pa pb : List (Int × Int)} {e : Ed} : e ∈ unE pa pb ↔ e ∈ edL (normS pa) ∧ ¬ flipEd e ∈ edL (normS pb) := by
  unfold unE unTo
  rw [List.take_length, List.mem_filter, Bool.not_eq_true', ← Bool.not_eq_true, bk_iff]
/-- no ring shares an edge with itself -/
theorem shE_self {ps : List (Int × Int)} (h : ringB ps = true) : shE ps ps = [] := by
  rw [List.eq_nil_iff_forall_not_mem]
  intro e he
  have hr := ringB_iff.1 h
  rw [shE_mem, mem_edL', mem_edL'] at he
  obtain ⟨⟨i, hi, ei⟩, j, hj, ej⟩ := he
  exact ed_back hr.diffN (by rw [normS_len]; exact hr.1) hi hj (by rw [ej, ei])
/-- shared edges go both ways -/
theorem shE_comm {pa pb : List (Int × Int)} (h : shE pa pb ≠ []) : shE pb pa ≠ [] := by
  obtain ⟨e, he⟩ := List.exists_mem_of_ne_nil _ h
  rw [shE_mem] at he
  intro e0
  have : flipEd e ∈ shE pb pa := by
    rw [shE_mem]
    exact ⟨he.2, by unfold flipEd; exact he.1⟩
  rw [e0] at this
  simp at this
end Go.Proofs.Yteppjdoggjcdoaa
namespace Go.Proofs.Yteppjdoggjcdoaa
open Go.RowKit

theorem SlAt.cells {α : Type} {enc : α → List Value} {sz : Nat} {w : World} {xs : List α} {ad : Addr} (hk : ∀ x, (enc x).length = sz) (h0 : 0 < sz) (hsl : SlAt w sz enc (some ad) xs) : ∀ j u, (xs.flatMap enc)[j]? = some u → w.cell? (ad.add j) = some u := fun j u hj => by
  have hfl := flatMap_len hk xs
  have hj' : j < xs.length * sz := by rw [← hfl]; exact (List.getElem?_eq_some_iff.1 hj).1
  have hx0 : 0 < xs.length := by
    rcases Nat.eq_zero_or_pos xs.length with e | e
    · rw [e] at hj'; omega
    · exact e
  obtain ⟨b, off, e, _, hc⟩ := hsl hx0
  injection e with e
  subst e
  have hq : j / sz < xs.length := Nat.div_lt_of_lt_mul (by rw [Nat.mul_comm]; exact hj')
  have hm : j % sz < sz := Nat.mod_lt _ h0
  have hdm : j / sz * sz + j % sz = j := by rw [Nat.mul_comm]; exact Nat.div_add_mod j sz
  have hlen : j % sz < (enc xs[j / sz]).length := by rw [hk]; exact hm
  have ha := flatMap_at hk xs (j / sz) xs[j / sz] (j % sz) _ (List.getElem?_eq_getElem hq) (List.getElem?_eq_getElem hlen)
  rw [hdm, hj] at ha
  have hcc := hc (j / sz) xs[j / sz] (List.getElem?_eq_getElem hq) (j % sz) _ (List.getElem?_eq_getElem hlen)
  rw [Nat.add_assoc, hdm] at hcc
  injection ha with ha
  rw [ha, ← hcc]
  unfold Addr.add
  split
  · rename_i hz; subst hz; rfl
  · rfl
/-- v stays where u was, or is newer than w -/
def Near (w : World) (u v : Value) : Prop := v.ownBlock = u.ownBlock ∨ ∀ k, v.ownBlock = some k → w.heap.size ≤ k
section
variable {α : Type} {enc : α → List Value} {sz by_ : Nat} {ts te : TypeId} {P : Program}
theorem run_append_near (H : ElT P ts te sz by_) (ty : TypeId) (hk : ∀ x, (enc x).length = sz) (h1 : ∀ x, ∀ u ∈ enc x, u.oneCell' = true) {w : World} {base : Nat} {v : Value} {ys : List α} (hown : Own enc sz te w base v ys)
    {A : Option Addr} {c : Nat} {xs : List α} (hsl : SlAt w sz enc A xs) (h63 : ys.length + xs.length ≤ maxLen) (hbytes : (ys.length + xs.length) * by_ ≤ 140737488355328) (hbase : base ≤ w.heap.size) :
    ∃ v' w', (Builtin.append_ #[ts, ts] ty #[v, .slice A xs.length c]).run P w = .ok v' w' ∧ Own enc sz te w' base v' (ys ++ xs) ∧ w.grownBy w' v.ownBlock ∧ Near w v v' := by
  obtain ⟨v', w', r1, o1, g1, _⟩ := run_append_sl H ty hk h1 hown (c := c) hsl h63 hbytes hbase
  refine ⟨v', w', r1, o1, g1, ?_⟩
  have hH := H
  obtain ⟨hu, ⟨i, z, hi, hz, hs, hb, hzs⟩, h0⟩ := hH
  have hfl := flatMap_len hk xs
  have hone : ∀ u ∈ xs.flatMap enc, u.oneCell' = true := fun u hu => by
    obtain ⟨x, _, hx⟩ := List.mem_flatMap.1 hu
    exact h1 x u hx
  rcases hown.2 with ⟨rfl, hl0⟩ | ⟨g, cap, cur, hv, hbb, hg, hnc, hcm, hcs, htake⟩
  · have hy : ys = [] := List.length_eq_zero_iff.1 hl0
    subst hy
    obtain ⟨v'', w'', r2, o2, _, _⟩ := run_append_sl H ty hk h1 (Own.nil w w.heap.size : Own enc sz te w w.heap.size (.slice none 0 0) ([] : List α)) (c := c) hsl h63 hbytes (Nat.le_refl _)
    rw [r1] at r2
    injection r2 with e1 e2
    subst e1
    exact .inr fun k hk => (o2.row k hk).1
  · subst hv
    rcases A with _ | ad
    · have hx0 : xs = [] := by
        rcases xs with _ | ⟨x, xs⟩
        · rfl
        · obtain ⟨_, _, e, _⟩ := hsl (by simp); cases e
      subst hx0
      have r2 : (Builtin.append_ #[ts, ts] ty #[.slice (some ⟨g, 0, none⟩) ys.length cap, .slice none ([] : List α).length c]).run P w = .ok (.slice (some ⟨g, 0, none⟩) ys.length cap) w := by
        simp [Builtin.append_, run_underlying hu, sizeOf, typeInfo, hi, Builtin.lenOf, Builtin.firstCells, hnc, storeCells]
      rw [r1] at r2
      injection r2 with e1 e2
      subst e1
      exact .inl rfl
    · have hcells := SlAt.cells hk h0 hsl
      by_cases hroom : ys.length + xs.length ≤ cap
      · obtain ⟨w'', r2, _⟩ := run_append_fits w base ts ty te i sz hu hi hs g ys.length cap (ys.flatMap enc) hown ad xs.length c (xs.flatMap enc) hfl hcells hone hroom
        rw [r1] at r2
        injection r2 with e1 e2
        subst e1
        exact .inl rfl
      · have holds : ∀ j u, (ys.flatMap enc)[j]? = some u → w.cell? ((⟨g, 0, none⟩ : Addr).add j) = some u := World.ownsRow.cells hown (g := g) rfl
        have hsmall : ys.length + xs.length ≤ 9223372036854775807 := by simp only [maxLen] at h63; omega
        have r2 := run_append_grow (P := P) w ts ty te i z hu hi hz ⟨g, 0, none⟩ ys.length cap (ys.flatMap enc) (by rw [hs]; exact hown.1) holds ad xs.length c (xs.flatMap enc) (by rw [hs]; exact hfl) hcells (by omega) (by omega) (growslice_fits (by omega) (by rw [hb]; exact hbytes))
        rw [r1] at r2
        injection r2 with e1 e2
        subst e1
        refine .inr fun k hk => ?_
        simp [Value.ownBlock] at hk
        omega
theorem wpList_append_near (H : ElT P ts te sz by_) (hk : ∀ x, (enc x).length = sz) (h1 : ∀ x, ∀ u ∈ enc x, u.oneCell' = true) {w : World} {ops : Array Oper} {rest : List Oper} {o : Oper} {a : Act} {Q : Exit → Act → World → Prop} (hgd : o.guard = none) (s x : Operand)
    (ho : o.op = .call { callee := .builtin .append, args := #[s, x], argTypes := #[ts, ts] }) {base : Nat} {v : Value} {ys : List α} (hs : a.eval s = v) (hown : Own enc sz te w base v ys)
    {A : Option Addr} {c : Nat} {xs : List α} (hx : a.eval x = .slice A xs.length c) (hsl : SlAt w sz enc A xs) (h63 : ys.length + xs.length ≤ maxLen) (hbytes : (ys.length + xs.length) * by_ ≤ 140737488355328) (hbase : base ≤ w.heap.size)
    (h : ∀ v' w', Own enc sz te w' base v' (ys ++ xs) → w.grownBy w' v.ownBlock → Near w v v' → wpList P ops Q rest (a.put o.dst v') w') : wpList P ops Q (o :: rest) a w := by
  obtain ⟨v', w', a1, a2, a3, a4⟩ := run_append_near H o.type hk h1 hown (c := c) hsl h63 hbytes hbase
  exact wpList_run w hgd s x ts ts ho _ _ hs hx v' w' a1 (h v' w' a2 a3 a4)
end
/-- two rows lie apart -/
def Apt (u v : Value) : Prop := ∀ k, u.ownBlock = some k → v.ownBlock ≠ some k
theorem Apt.symm {u v : Value} (h : Apt u v) : Apt v u := fun k hk e => h k e hk
theorem Apt.nil_ {v : Value} : Apt (.slice none 0 0) v := fun k hk => by simp [Value.ownBlock] at hk
theorem Apt.ne {u v : Value} (h : Apt u v) : v.ownBlock = none ∨ v.ownBlock ≠ u.ownBlock := by
  rcases hv : v.ownBlock with _ | k
  · exact .inl rfl
  · exact .inr fun e => h k e.symm hv
theorem Apt.near {w : World} {u v v' : Value} (h : Apt u v) (hu : ∀ k, u.ownBlock = some k → k < w.heap.size) (hn : Near w v v') : Apt u v' := fun k hk e => by
  rcases hn with hn | hn
  · exact h k hk (hn ▸ e)
  · have := hn k e
    have := hu k hk
    omega
end Go.Proofs.Yteppjdoggjcdoaa
namespace Go.Proofs.Yteppjdoggjcdoaa
open Go.RowKit
attribute [local go_sem] ExtOf.cell ExtOf.frozen

theorem len_encI : ∀ x, (encI x).length = 1 := fun _ => rfl
theorem one_encI : ∀ p, ∀ u ∈ encI p, u.oneCell' = true := by
  intro p u hu
  simp [encI] at hu
  subst hu; rfl
theorem elI : ElT Try.prog 65 2 1 8 := ElT.mk' (z := .int .i64 0) Try.underlying65 (by kernel_rfl) rfl (by omega)
abbrev OwI (w : World) (base : Nat) (v : Value) (xs : List Int) : Prop := Own encI 1 2 w base v xs
theorem blk_i1 {w : World} {g : Nat} {t : TypeId} {x : Int} (h : Blk w g t #[.int .i64 x]) : SlAt w 1 encI (some ⟨g, 0, none⟩) [x] := h.sl rfl len_encI
theorem blk_i2 {w : World} {g : Nat} {t : TypeId} {x y : Int} (h : Blk w g t #[.int .i64 x, .int .i64 y]) : SlAt w 1 encI (some ⟨g, 0, none⟩) [x, y] := h.sl rfl len_encI
theorem SlAt.it {w : World} {A : Option Addr} {xs : List Int} (h : SlAt w 1 encI A xs) {k : Nat} (hk : k < xs.length) :
    ∃ b off, A = some ⟨b, off, none⟩ ∧ b < w.heap.size ∧ w.cell? ⟨b, off + k, none⟩ = some (.int .i64 (xs.getD k 0)) := by
  obtain ⟨b, off, e, hb, hc⟩ := h (by omega)
  have hg : xs[k]? = some (xs.getD k 0) := by simp [List.getD, hk]
  exact ⟨b, off, e, hb, by simpa using hc k _ hg 0 _ rfl⟩
theorem SlAt.it' {w : World} {b off : Nat} {xs : List Int} (h : SlAt w 1 encI (some ⟨b, off, none⟩) xs) {k : Nat} (hk : k < xs.length) :
    w.cell? ⟨b, off + k, none⟩ = some (.int .i64 (xs.getD k 0)) := by
  obtain ⟨b', off', e, _, hc⟩ := h.it hk
  injection e with e
  injection e with e1 e2
  subst e1 e2
  exact hc
/-- marks in a list of int64 -/
def marksI (k : Int) (n : Nat) : List Int := (List.range n).map fun i : Nat => k + (i : Int)
theorem marksI_len (k : Int) (n : Nat) : (marksI k n).length = n := by simp [marksI]
theorem marksI_at (k : Int) {n i : Nat} (hi : i < n) : (marksI k n).getD i 0 = k + (i : Int) := by simp [marksI, List.getD, hi]
def MarkI (k : Int) (j sz : Nat) (cs : Array Value) : Prop := cs.size = sz ∧ ∀ q, q < j → cs[q]? = some (.int .i64 (k + (q : Int)))
theorem MarkI.step {k : Int} {j sz : Nat} {cs : Array Value} (h : MarkI k j sz cs) (hs : j < sz) : MarkI k (j + 1) sz (cs.setIfInBounds j (.int .i64 (k + (j : Int)))) := by
  have hz := h.1
  refine ⟨by simpa using h.1, fun q hq => ?_⟩
  by_cases e : q = j
  · subst e
    rw [Array.getElem?_setIfInBounds_self_of_lt (by omega)]
  · rw [Array.getElem?_setIfInBounds_ne (by omega)]
    exact h.2 q (by omega)
theorem MarkI.done {k : Int} {n sz : Nat} {cs : Array Value} (h : MarkI k n sz cs) (hs : n ≤ sz) : cs.toList.take (n * 1) = (marksI k n).flatMap encI := by
  have hz := h.1
  rw [Nat.mul_one]
  apply List.ext_getElem?
  intro i
  rcases Nat.lt_or_ge i n with hi | hi
  · rw [List.getElem?_take_of_lt hi, Array.getElem?_toList, h.2 i hi]
    have hg : (marksI k n)[i]? = some (k + (i : Int)) := by simp [marksI, hi]
    have h0 := flatMap_at (enc := encI) (sz := 1) len_encI (marksI k n) i _ 0 _ hg rfl
    rw [Nat.mul_one, Nat.add_zero] at h0
    rw [h0]
  · have hle : (cs.toList.take n).length ≤ i := by simp; omega
    rw [List.getElem?_eq_none hle, List.getElem?_eq_none (by rw [flatMap_len len_encI, marksI_len]; omega)]
set_option maxHeartbeats 1600000 in
theorem i_areWithin (A : Option Addr) (n c : Nat) (xs : List Int) (lo hi : Int) (w : World) (h : SlAt w 1 encI A xs) (hn : n = xs.length) (hl : n ≤ 1048576) :
    Calls Try.prog 120 #[.slice A n c, .int .i64 lo, .int .i64 hi] w fun e w' => e = .returned (.bool (xs.all fun x => inB x lo hi)) ∧ w = w' := by
  have HN := Lib.hid hn
  clear hn
  go_enter Try.func120, Try.ntmps120
  go_wp2
  go_loop [11] (fun i => ∃ k : Nat, k ≤ n ∧ i = .int .i64 k ∧ Hid (∀ j, j < k → inB (xs.getD j 0) lo hi = true)) (fun i => n - (intOf i).toNat)
  case atStart => exact ⟨0, Nat.zero_le _, rfl, fun j hj => absurd hj (by omega)⟩
  case round =>
    obtain ⟨k, hk, rfl, HJ⟩ := hrel
    by_cases hlt : k < n
    · have hkn : k < xs.length := by rw [← HN.out]; exact hlt
      obtain ⟨b, off, rfl, hb, d0⟩ := h.it hkn
      obtain ⟨x, hx⟩ : ∃ x, x = xs.getD k 0 := ⟨_, rfl⟩
      rw [← hx] at d0
      have HX := Lib.hid hx
      clear hx
      cases hb : inB x lo hi with
      | true =>
        have hcall : ∀ W, Calls Try.prog 89 #[.int .i64 x, .int .i64 lo, .int .i64 hi] W fun e w' => e = .returned (.bool true) ∧ W = w' := fun W => by have := within_any x lo hi W; rwa [hb] at this
        have HC := Lib.hid hcall
        have HB := Lib.hid hb
        clear hcall hb
        go_wp2_with fail
        refine (HC.out _).mono ?_
        rintro e w' ⟨rfl, rfl⟩
        go_wp2
        go_round
        case rel =>
          refine ⟨k + 1, by omega, by go_num, fun j hj => ?_⟩
          rcases Nat.lt_or_ge j k with c | c
          · exact HJ.out j c
          · obtain rfl : j = k := by omega
            rw [← HX.out]; exact HB.out
        case measure => simp [intOf]; omega
      | false =>
        have hcall : ∀ W, Calls Try.prog 89 #[.int .i64 x, .int .i64 lo, .int .i64 hi] W fun e w' => e = .returned (.bool false) ∧ W = w' := fun W => by have := within_any x lo hi W; rwa [hb] at this
        have HC := Lib.hid hcall
        have HB := Lib.hid hb
        clear hcall hb
        go_wp2_with fail
        refine (HC.out _).mono ?_
        rintro e w' ⟨rfl, rfl⟩
        go_wp2
        go_ret
        refine ⟨ret_bool (Eq.symm ?_), rfl⟩
        rw [List.all_eq_false]
        exact ⟨xs.getD k 0, by simp [List.getD, hkn], by rw [← HX.out, HB.out]; simp⟩
    · obtain rfl : k = n := by omega
      go_wp2
      go_ret
      refine ⟨ret_bool (Eq.symm ?_), rfl⟩
      rw [List.all_eq_true]
      intro x hx
      obtain ⟨j, hj, rfl⟩ := List.mem_iff_getElem.1 hx
      have := HJ.out j (by rw [HN.out]; exact hj)
      simpa [List.getD, hj] using this
end Go.Proofs.Yteppjdoggjcdoaa
namespace Go.Proofs.Yteppjdoggjcdoaa
open Go.RowKit
attribute [local go_sem] ExtOf.cell ExtOf.frozen

/-- the code of a map and of indices of its rings -/
noncomputable def arC (L : List (List (Int × Int))) (xs : List Int) : Int := if mapB L = true then (if (xs.all fun x => inB x 0 ((L.length : Int) - 1)) = true then 0 else 2) else 1
theorem i_lengthR (A : Option Addr) (n c : Nat) (w : World) (_hn : n ≤ 140737488351232) : Calls Try.prog 121 #[.slice A n c] w fun e w' => e = .returned (.int .i64 n) ∧ w = w' := by
  go_enter Try.func121, Try.ntmps121
  go_wp2
  go_ret
  exact ⟨rfl, rfl⟩
theorem as_bool0 {P : Program} {f : FuncId} {args : Array Value} {w : World} {b b' : Bool} (h : Calls P f args w fun e w' => e = .returned (.bool b) ∧ w = w') (e : b = b') : Calls P f args w fun e w' => e = .returned (.bool b') ∧ w = w' := e ▸ h
set_option maxHeartbeats 1600000 in
theorem i_areaCode (A Ai : Option Addr) (c n ci : Nat) (rs : List Rg) (xs : List Int) (w : World) (h : SlAt w 1 encR A rs) (hr : Rings w rs) (hl : rs.length ≤ 1048576) (hc : rs.length ≤ c) (hi : SlAt w 1 encI Ai xs) (hn : n = xs.length) (hn2 : n ≤ 10) :
    Calls Try.prog 83 #[.slice A rs.length c, .slice Ai n ci] w fun e w' => e = .returned (.int .i64 (arC (psOf rs) xs)) ∧ Ext w w' := by
  by_cases hm : mapB (psOf rs) = true
  · have hcall : Calls Try.prog 44 #[.slice A rs.length c] w fun e w' => e = .returned (.bool true) ∧ Ext w w' := as_bool (i_IsMap _ _ rs _ h hr hl hc) hm
    have HC := Lib.hid hcall
    have hw : IntKind.i64.wrap ((rs.length : Int) - 1) = (rs.length : Int) - 1 := IntWalk.i64_in _ (by omega)
    cases hx : (xs.all fun x => inB x 0 ((rs.length : Int) - 1)) with
    | true =>
      have hv : arC (psOf rs) xs = 0 := by unfold arC; rw [if_pos hm, psOf_len, if_pos hx]
      have hw2 : ∀ W, SlAt W 1 encI Ai xs → Calls Try.prog 120 #[.slice Ai n ci, .int .i64 0, .int .i64 ((rs.length : Int) - 1)] W fun e w' => e = .returned (.bool true) ∧ W = w' := fun W h => as_bool0 (i_areWithin _ _ _ xs _ _ _ h hn (by omega)) hx
      have HW := Lib.hid hw2
      have HN := Lib.hid hn
      rw [hv]
      clear hcall hm hx hv hw2 hn
      go_enter Try.func83, Try.ntmps83
      (go_wp2_with fail; refine (HC.out).mono ?_; rintro e w1 ⟨rfl, hx1⟩; obtain ⟨hc1, hf1⟩ := hx1.rules; have hs1 := hx1.size; (try simp at hs1))
      (go_wp2_with fail; refine (i_lengthR _ _ _ _ (by omega)).mono ?_; rintro e w' ⟨rfl, rfl⟩)
      go_wp2_with fail
      refine (HW.out _ (hi.ext (by (repeat (first | with_reducible exact Ext.refl _ | with_reducible assumption | ((with_reducible apply Src.ext); with_reducible assumption) | with_reducible refine Ext.alloc ?_ _ | with_reducible refine Ext.drew ?_ | with_reducible refine Ext.drewN ?_ _ | ((with_reducible refine Ext.setCell' ?_ ?_ _); solve | omega | simp | (simp; omega)) | (with_reducible refine Ext.trans ?_ (by with_reducible assumption))))))).mono ?_
      rintro e w2 ⟨rfl, rfl⟩
      go_wp2
      go_ret
      exact ⟨rfl, by (repeat (first | with_reducible exact Ext.refl _ | with_reducible assumption | ((with_reducible apply Src.ext); with_reducible assumption) | with_reducible refine Ext.alloc ?_ _ | with_reducible refine Ext.drew ?_ | with_reducible refine Ext.drewN ?_ _ | ((with_reducible refine Ext.setCell' ?_ ?_ _); solve | omega | simp | (simp; omega)) | (with_reducible refine Ext.trans ?_ (by with_reducible assumption))))⟩
    | false =>
      have hv : arC (psOf rs) xs = 2 := by unfold arC; rw [if_pos hm, psOf_len, if_neg (by rw [hx]; simp)]
      have hw2 : ∀ W, SlAt W 1 encI Ai xs → Calls Try.prog 120 #[.slice Ai n ci, .int .i64 0, .int .i64 ((rs.length : Int) - 1)] W fun e w' => e = .returned (.bool false) ∧ W = w' := fun W h => as_bool0 (i_areWithin _ _ _ xs _ _ _ h hn (by omega)) hx
      have HW := Lib.hid hw2
      have HN := Lib.hid hn
      rw [hv]
      clear hcall hm hx hv hw2 hn
      go_enter Try.func83, Try.ntmps83
      (go_wp2_with fail; refine (HC.out).mono ?_; rintro e w1 ⟨rfl, hx1⟩; obtain ⟨hc1, hf1⟩ := hx1.rules; have hs1 := hx1.size; (try simp at hs1))
      (go_wp2_with fail; refine (i_lengthR _ _ _ _ (by omega)).mono ?_; rintro e w' ⟨rfl, rfl⟩)
      go_wp2_with fail
      refine (HW.out _ (hi.ext (by (repeat (first | with_reducible exact Ext.refl _ | with_reducible assumption | ((with_reducible apply Src.ext); with_reducible assumption) | with_reducible refine Ext.alloc ?_ _ | with_reducible refine Ext.drew ?_ | with_reducible refine Ext.drewN ?_ _ | ((with_reducible refine Ext.setCell' ?_ ?_ _); solve | omega | simp | (simp; omega)) | (with_reducible refine Ext.trans ?_ (by with_reducible assumption))))))).mono ?_
      rintro e w2 ⟨rfl, rfl⟩
      go_wp2
      go_ret
      exact ⟨rfl, by (repeat (first | with_reducible exact Ext.refl _ | with_reducible assumption | ((with_reducible apply Src.ext); with_reducible assumption) | with_reducible refine Ext.alloc ?_ _ | with_reducible refine Ext.drew ?_ | with_reducible refine Ext.drewN ?_ _ | ((with_reducible refine Ext.setCell' ?_ ?_ _); solve | omega | simp | (simp; omega)) | (with_reducible refine Ext.trans ?_ (by with_reducible assumption))))⟩
  · have hm' : mapB (psOf rs) = false := Bool.eq_false_iff.2 hm
    have hv : arC (psOf rs) xs = 1 := by unfold arC; rw [if_neg hm]
    rw [hv]
    have hcall : Calls Try.prog 44 #[.slice A rs.length c] w fun e w' => e = .returned (.bool false) ∧ Ext w w' := as_bool (i_IsMap _ _ rs _ h hr hl hc) hm'
    have HC := Lib.hid hcall
    clear hm hm' hcall hv hn
    go_enter Try.func83, Try.ntmps83
    (go_wp2_with fail; refine (HC.out).mono ?_; rintro e w1 ⟨rfl, hx1⟩; obtain ⟨hc1, hf1⟩ := hx1.rules; have hs1 := hx1.size; (try simp at hs1))
    go_wp2
    go_ret
    exact ⟨rfl, by (repeat (first | with_reducible exact Ext.refl _ | with_reducible assumption | ((with_reducible apply Src.ext); with_reducible assumption) | with_reducible refine Ext.alloc ?_ _ | with_reducible refine Ext.drew ?_ | with_reducible refine Ext.drewN ?_ _ | ((with_reducible refine Ext.setCell' ?_ ?_ _); solve | omega | simp | (simp; omega)) | (with_reducible refine Ext.trans ?_ (by with_reducible assumption))))⟩
set_option maxHeartbeats 1600000 in
theorem s_l17Code (A : Option Addr) (c : Nat) (rs : List Rg) (a b : Int) (w : World) (h : SlAt w 1 encR A rs) (hr : Rings w rs) (hl : rs.length ≤ 1048576) :
    Calls Try.prog 77 #[.slice A rs.length c, .int .i64 a, .int .i64 b] w fun e w' => e = .returned (.int .i64 (arC (psOf rs) [a, b])) ∧ Ext w w' := by
  by_cases hm : mapB (psOf rs) = true
  · have hcall : Calls Try.prog 93 #[.slice A rs.length c] w fun e w' => e = .returned (.bool true) ∧ Ext w w' := as_bool (s_IsMap _ _ rs _ h hr hl) hm
    have HC := Lib.hid hcall
    have hw : IntKind.i64.wrap ((rs.length : Int) - 1) = (rs.length : Int) - 1 := IntWalk.i64_in _ (by omega)
    have hv : arC (psOf rs) [a, b] = if (inB a 0 ((rs.length : Int) - 1) && inB b 0 ((rs.length : Int) - 1)) = true then 0 else 2 := by unfold arC; rw [if_pos hm, psOf_len]; simp
    rw [hv]
    clear hcall hm hv
    cases ha : inB a 0 ((rs.length : Int) - 1) with
    | true =>
      cases hb : inB b 0 ((rs.length : Int) - 1) with
      | true =>
        have HA : Hid (∀ W, Calls Try.prog 110 #[.int .i64 a, .int .i64 0, .int .i64 ((rs.length : Int) - 1)] W fun e w' => e = .returned (.bool true) ∧ W = w') := Lib.hid fun W => as_bool0 (l01In_any _ _ _ _) ha
        have HB : Hid (∀ W, Calls Try.prog 110 #[.int .i64 b, .int .i64 0, .int .i64 ((rs.length : Int) - 1)] W fun e w' => e = .returned (.bool true) ∧ W = w') := Lib.hid fun W => as_bool0 (l01In_any _ _ _ _) hb
        clear ha hb
        go_enter Try.func77, Try.ntmps77
        (go_wp2_with fail; refine (HC.out).mono ?_; rintro e w1 ⟨rfl, hx1⟩; obtain ⟨hc1, hf1⟩ := hx1.rules; have hs1 := hx1.size; (try simp at hs1))
        (go_wp2_with fail; refine (HA.out _).mono ?_; rintro e w' ⟨rfl, rfl⟩)
        (go_wp2_with fail; refine (HB.out _).mono ?_; rintro e w' ⟨rfl, rfl⟩)
        go_wp2
        go_ret
        exact ⟨rfl, by (repeat (first | with_reducible exact Ext.refl _ | with_reducible assumption | ((with_reducible apply Src.ext); with_reducible assumption) | with_reducible refine Ext.alloc ?_ _ | with_reducible refine Ext.drew ?_ | with_reducible refine Ext.drewN ?_ _ | ((with_reducible refine Ext.setCell' ?_ ?_ _); solve | omega | simp | (simp; omega)) | (with_reducible refine Ext.trans ?_ (by with_reducible assumption))))⟩
      | false =>
        have HA : Hid (∀ W, Calls Try.prog 110 #[.int .i64 a, .int .i64 0, .int .i64 ((rs.length : Int) - 1)] W fun e w' => e = .returned (.bool true) ∧ W = w') := Lib.hid fun W => as_bool0 (l01In_any _ _ _ _) ha
        have HB : Hid (∀ W, Calls Try.prog 110 #[.int .i64 b, .int .i64 0, .int .i64 ((rs.length : Int) - 1)] W fun e w' => e = .returned (.bool false) ∧ W = w') := Lib.hid fun W => as_bool0 (l01In_any _ _ _ _) hb
        clear ha hb
        go_enter Try.func77, Try.ntmps77
        (go_wp2_with fail; refine (HC.out).mono ?_; rintro e w1 ⟨rfl, hx1⟩; obtain ⟨hc1, hf1⟩ := hx1.rules; have hs1 := hx1.size; (try simp at hs1))
        (go_wp2_with fail; refine (HA.out _).mono ?_; rintro e w' ⟨rfl, rfl⟩)
        (go_wp2_with fail; refine (HB.out _).mono ?_; rintro e w' ⟨rfl, rfl⟩)
        go_wp2
        go_ret
        exact ⟨rfl, by (repeat (first | with_reducible exact Ext.refl _ | with_reducible assumption | ((with_reducible apply Src.ext); with_reducible assumption) | with_reducible refine Ext.alloc ?_ _ | with_reducible refine Ext.drew ?_ | with_reducible refine Ext.drewN ?_ _ | ((with_reducible refine Ext.setCell' ?_ ?_ _); solve | omega | simp | (simp; omega)) | (with_reducible refine Ext.trans ?_ (by with_reducible assumption))))⟩
    | false =>
      have HA : Hid (∀ W, Calls Try.prog 110 #[.int .i64 a, .int .i64 0, .int .i64 ((rs.length : Int) - 1)] W fun e w' => e = .returned (.bool false) ∧ W = w') := Lib.hid fun W => as_bool0 (l01In_any _ _ _ _) ha
      clear ha
      go_enter Try.func77, Try.ntmps77
      (go_wp2_with fail; refine (HC.out).mono ?_; rintro e w1 ⟨rfl, hx1⟩; obtain ⟨hc1, hf1⟩ := hx1.rules; have hs1 := hx1.size; (try simp at hs1))
      (go_wp2_with fail; refine (HA.out _).mono ?_; rintro e w' ⟨rfl, rfl⟩)
      go_wp2
      go_ret
      exact ⟨rfl, by (repeat (first | with_reducible exact Ext.refl _ | with_reducible assumption | ((with_reducible apply Src.ext); with_reducible assumption) | with_reducible refine Ext.alloc ?_ _ | with_reducible refine Ext.drew ?_ | with_reducible refine Ext.drewN ?_ _ | ((with_reducible refine Ext.setCell' ?_ ?_ _); solve | omega | simp | (simp; omega)) | (with_reducible refine Ext.trans ?_ (by with_reducible assumption))))⟩
  · have hm' : mapB (psOf rs) = false := Bool.eq_false_iff.2 hm
    have hv : arC (psOf rs) [a, b] = 1 := by unfold arC; rw [if_neg hm]
    rw [hv]
    have hcall : Calls Try.prog 93 #[.slice A rs.length c] w fun e w' => e = .returned (.bool false) ∧ Ext w w' := as_bool (s_IsMap _ _ rs _ h hr hl) hm'
    have HC := Lib.hid hcall
    clear hm hm' hcall hv
    go_enter Try.func77, Try.ntmps77
    (go_wp2_with fail; refine (HC.out).mono ?_; rintro e w1 ⟨rfl, hx1⟩; obtain ⟨hc1, hf1⟩ := hx1.rules; have hs1 := hx1.size; (try simp at hs1))
    go_wp2
    go_ret
    exact ⟨rfl, by (repeat (first | with_reducible exact Ext.refl _ | with_reducible assumption | ((with_reducible apply Src.ext); with_reducible assumption) | with_reducible refine Ext.alloc ?_ _ | with_reducible refine Ext.drew ?_ | with_reducible refine Ext.drewN ?_ _ | ((with_reducible refine Ext.setCell' ?_ ?_ _); solve | omega | simp | (simp; omega)) | (with_reducible refine Ext.trans ?_ (by with_reducible assumption))))⟩
set_option maxRecDepth 20000 in
set_option maxHeartbeats 12800000 in
theorem i_parted (A A' : Option Addr) (c c' : Nat) (pa pb : List (Int × Int)) (w : World) (h : SlAt w 2 encP A pa) (h' : SlAt w 2 encP A' pb) (hra : ringB pa = true) (hrb : ringB pb = true) :
    Calls Try.prog 84 #[.slice A pa.length c, .slice A' pb.length c'] w fun e w' => ∃ v u, e = .returned (.tuple #[v, u]) ∧ OwE w' w.heap.size v (shE pa pb) ∧ OwE w' w.heap.size u (unE pa pb) ∧ Apt v u ∧ Ext w w' := by
  obtain ⟨a0, al, ao⟩ := ring_facts hra
  obtain ⟨b0, bl, bo⟩ := ring_facts hrb
  obtain ⟨o, hoe⟩ : ∃ o, o = edL (normS pa) := ⟨_, rfl⟩
  obtain ⟨q, hqe⟩ : ∃ q, q = edL (normS pb) := ⟨_, rfl⟩
  have hon : o.length = pa.length := by rw [hoe, edL_len, normS_len]
  have hqn : q.length = pb.length := by rw [hqe, edL_len, normS_len]
  have HNA : Hid (edL (normI pa) = o) := Lib.hid (by rw [norm_same (ringB_iff.1 hra), hoe])
  have HNB : Hid (edL (normI pb) = q) := Lib.hid (by rw [norm_same (ringB_iff.1 hrb), hqe])
  rw [show shE pa pb = shTo o q o.length by unfold shE; rw [hoe, hqe], show unE pa pb = unTo o q o.length by unfold unE; rw [hoe, hqe]]
  have HAO := Lib.hid ao
  have HBO := Lib.hid bo
  have HON := Lib.hid hon
  have HQN := Lib.hid hqn
  clear hra hrb ao bo hoe hqe hon hqn
  go_enter Try.func84, Try.ntmps84
  go_wp2_with fail
  refine (i_edgesOf _ _ pb _ h' b0 (by omega) HBO.out).mono ?_
  rintro e w1 ⟨v1, rfl, hO1, hx1⟩
  have hs1 := hx1.size
  rw [HNB.out] at hO1
  obtain ⟨A1, c1, rfl, hS1, _, _, _⟩ := hO1.sl len_encE
  clear hO1
  go_wp2_with fail
  refine (i_edgesOf _ _ pa _ (h.ext hx1) a0 (by omega) HAO.out).mono ?_
  rintro e w2 ⟨v2, rfl, hO2, hx2⟩
  have hs2 := hx2.size
  rw [HNA.out] at hO2
  obtain ⟨A2, c2, rfl, hS2, _, _, _⟩ := hO2.sl len_encE
  have hS12 := hS1.ext hx2
  have hX2 := hx1.trans hx2
  have HX2 := Lib.hid hX2
  clear hO2 hS1 hX2
  have hol : o.length ≤ 12 := by rw [HON.out]; exact al
  have hql : q.length ≤ 12 := by rw [HQN.out]; exact bl
  have HO0 : Hid (∀ W, OwE W w2.heap.size (.slice none 0 0) (shTo o q 0)) := Lib.hid fun W => Own.nil _ _
  have HU0 : Hid (∀ W, OwE W w2.heap.size (.slice none 0 0) (unTo o q 0)) := Lib.hid fun W => Own.nil _ _
  go_wp2
  go_loopw [7, 8, 16] (fun s u i wr => ∃ k : Nat, k ≤ o.length ∧ i = .int .i64 k ∧ Hid (OwE wr w2.heap.size s (shTo o q k)) ∧ Hid (OwE wr w2.heap.size u (unTo o q k)) ∧ Hid (Apt s u) ∧ Ext w2 wr) (fun _ _ i _ => o.length - (intOf i).toNat)
  case atStart => exact ⟨0, by omega, rfl, HO0.out _, HU0.out _, Apt.nil_, by (repeat (first | with_reducible exact Ext.refl _ | with_reducible assumption | ((with_reducible apply Src.ext); with_reducible assumption) | with_reducible refine Ext.alloc ?_ _ | with_reducible refine Ext.drew ?_ | with_reducible refine Ext.drewN ?_ _ | ((with_reducible refine Ext.setCell' ?_ ?_ _); solve | omega | simp | (simp; omega)) | (with_reducible refine Ext.trans ?_ (by with_reducible assumption))))⟩
  case round =>
    rename_i s u _ _ _
    obtain ⟨k, hk, rfl, HSH, HUN, HAP, hx3⟩ := hrel
    have hs3 := hx3.size
    have hsl := shTo_len o q k
    have hul := unTo_len o q k
    have HSL := Lib.hid hsl
    have HUL := Lib.hid hul
    clear hsl hul
    by_cases hlt : k < o.length
    · have hkn : k < o.length := hlt
      obtain ⟨b, off, a1, a2, a3, a4, rfl, hb, he, d0, d1, d2, d3⟩ := (hS2.ext hx3).ed hkn
      have HE := Lib.hid he
      clear he
      by_cases hh : hasE q a3 a4 a1 a2 = true
      · skip
        have hb1 : bk q (o.getD k edD) = true := by rw [show o.getD k edD = ((a1, a2), (a3, a4)) from HE.out]; exact hh
        have HYE := Lib.hid (shTo_yes hkn hb1)
        have HNO := Lib.hid (unTo_no hkn hb1)
        obtain ⟨ek, hek⟩ : ∃ ek, ek = o.getD k edD := ⟨_, rfl⟩
        rw [← hek] at HYE
        have HEK : Hid (ek = ((a1, a2), (a3, a4))) := Lib.hid (by rw [hek]; exact HE.out)
        clear hek hb1
        have hcall : ∀ W, SlAt W 4 encE A1 q → Calls Try.prog 96 #[.slice A1 q.length c1, .agg #[.int .i64 a3, .int .i64 a4, .int .i64 a1, .int .i64 a2]] W fun e w' => e = .returned (.bool true) ∧ Ext W w' := fun W h => as_bool (i_ContainsE _ _ _ q _ _ _ _ _ h rfl (by omega)) hh
        have HCC := Lib.hid hcall
        clear hh  hcall hkn
        go_wp2_with fail
        refine (i_back _ _ _ _ _).mono ?_
        rintro e w6 ⟨rfl, hx6⟩
        go_wp2_with fail
        refine (HCC.out _ (hS12.ext (hx3.trans (by (repeat (first | with_reducible exact Ext.refl _ | with_reducible assumption | ((with_reducible apply Src.ext); with_reducible assumption) | with_reducible refine Ext.alloc ?_ _ | with_reducible refine Ext.drew ?_ | with_reducible refine Ext.drewN ?_ _ | ((with_reducible refine Ext.setCell' ?_ ?_ _); solve | omega | simp | (simp; omega)) | (with_reducible refine Ext.trans ?_ (by with_reducible assumption)))))))).mono ?_
        rintro e w7 ⟨rfl, hx7⟩
        have B9 : Blk w7 wr.heap.size 58 #[.int .i64 a1, .int .i64 a2, .int .i64 a3, .int .i64 a4] := by (repeat (first | with_reducible assumption | ((with_reducible apply Blk.new); solve | simp | rfl) | with_reducible apply Blk.drew | with_reducible apply Blk.drewN | ((with_reducible apply Blk.far'); solve | omega | simp | (simp; omega)) | with_reducible apply Blk.set_ | with_reducible apply Blk.alloc | ((with_reducible apply Blk.ext'); with_reducible assumption) | ((with_reducible apply Blk.but'); (with_reducible assumption); solve | omega | (simp; omega))))
        have z0 : w7.cell? ⟨wr.heap.size, 0, none⟩ = some (.int .i64 a1) := B9.cell 0
        have z1 : w7.cell? ⟨wr.heap.size, 1, none⟩ = some (.int .i64 a2) := B9.cell 1
        have z2 : w7.cell? ⟨wr.heap.size, 2, none⟩ = some (.int .i64 a3) := B9.cell 2
        have z3 : w7.cell? ⟨wr.heap.size, 3, none⟩ = some (.int .i64 a4) := B9.cell 3
        have hs6 := hx6.size
        have hs7 := hx7.size
        simp at hs6
        clear B9
        have hx37 : Ext wr w7 := by (repeat (first | with_reducible exact Ext.refl _ | with_reducible assumption | ((with_reducible apply Src.ext); with_reducible assumption) | with_reducible refine Ext.alloc ?_ _ | with_reducible refine Ext.drew ?_ | with_reducible refine Ext.drewN ?_ _ | ((with_reducible refine Ext.setCell' ?_ ?_ _); solve | omega | simp | (simp; omega)) | (with_reducible refine Ext.trans ?_ (by with_reducible assumption))))
        have HX37 := Lib.hid hx37
        go_wp2_with (at_builtin; refine wpList_append_near elE len_encE one_encE rfl _ _ rfl rfl (HSH.out.ext (by (repeat (first | with_reducible exact Ext.refl _ | with_reducible assumption | ((with_reducible apply Src.ext); with_reducible assumption) | with_reducible refine Ext.alloc ?_ _ | with_reducible refine Ext.drew ?_ | with_reducible refine Ext.drewN ?_ _ | ((with_reducible refine Ext.setCell' ?_ ?_ _); solve | omega | simp | (simp; omega)) | (with_reducible refine Ext.trans ?_ (by with_reducible assumption)))))) (xs := [ek]) rfl (blk_e1 (by (repeat (first | with_reducible assumption | ((with_reducible apply Blk.new); solve | simp | rfl) | with_reducible apply Blk.drew | with_reducible apply Blk.drewN | ((with_reducible apply Blk.far'); solve | omega | simp | (simp; omega)) | with_reducible apply Blk.set_ | with_reducible apply Blk.alloc | ((with_reducible apply Blk.ext'); with_reducible assumption) | ((with_reducible apply Blk.but'); (with_reducible assumption); solve | omega | (simp; omega))))) HEK.out) (by have := HSL.out; have := HUL.out; simp; unfold maxLen; omega) (by have := HSL.out; have := HUL.out; simp; omega) (by first | omega | (simp; omega)) ?_)
        intro v' w8 hown hgrow hnear
        have HX38 : Hid (Ext wr (w7.alloc (.cells #[.int .i64 a1, .int .i64 a2, .int .i64 a3, .int .i64 a4] 58))) := Lib.hid (HX37.out.alloc _)
        have hother := (HUN.out.ext HX38.out).kept hgrow HAP.out.ne
        have happ := (HAP.out.symm.near (fun j hj => Nat.lt_of_lt_of_le (HUN.out.row j hj).2 HX38.out.size) hnear).symm
        rw [← HYE.out] at hown
        rw [← HNO.out] at hother
        have HV2 := Lib.hid hown
        have HO2 := Lib.hid hother
        have HAP2 := Lib.hid (happ)
        have hx8 : Ext w2 w8 := by
          refine Ext.grown (hx3.trans HX38.out) hgrow (fun q hq => (HSH.out.row q hq).1)
        clear hown hgrow hnear hother happ
        go_wp2
        go_roundw
        case rel => exact ⟨k + 1, by omega, by go_num, HV2, HO2, HAP2, hx8⟩
        case measure => simp [intOf]; omega
      · have hh' : hasE q a3 a4 a1 a2 = false := Bool.eq_false_iff.2 hh
        have hb1 : bk q (o.getD k edD) = false := by rw [show o.getD k edD = ((a1, a2), (a3, a4)) from HE.out]; exact hh'
        have HYE := Lib.hid (unTo_yes hkn hb1)
        have HNO := Lib.hid (shTo_no hkn hb1)
        obtain ⟨ek, hek⟩ : ∃ ek, ek = o.getD k edD := ⟨_, rfl⟩
        rw [← hek] at HYE
        have HEK : Hid (ek = ((a1, a2), (a3, a4))) := Lib.hid (by rw [hek]; exact HE.out)
        clear hek hb1
        have hcall : ∀ W, SlAt W 4 encE A1 q → Calls Try.prog 96 #[.slice A1 q.length c1, .agg #[.int .i64 a3, .int .i64 a4, .int .i64 a1, .int .i64 a2]] W fun e w' => e = .returned (.bool false) ∧ Ext W w' := fun W h => as_bool (i_ContainsE _ _ _ q _ _ _ _ _ h rfl (by omega)) hh'
        have HCC := Lib.hid hcall
        clear hh hh' hcall hkn
        go_wp2_with fail
        refine (i_back _ _ _ _ _).mono ?_
        rintro e w6 ⟨rfl, hx6⟩
        go_wp2_with fail
        refine (HCC.out _ (hS12.ext (hx3.trans (by (repeat (first | with_reducible exact Ext.refl _ | with_reducible assumption | ((with_reducible apply Src.ext); with_reducible assumption) | with_reducible refine Ext.alloc ?_ _ | with_reducible refine Ext.drew ?_ | with_reducible refine Ext.drewN ?_ _ | ((with_reducible refine Ext.setCell' ?_ ?_ _); solve | omega | simp | (simp; omega)) | (with_reducible refine Ext.trans ?_ (by with_reducible assumption)))))))).mono ?_
        rintro e w7 ⟨rfl, hx7⟩
        have B9 : Blk w7 wr.heap.size 58 #[.int .i64 a1, .int .i64 a2, .int .i64 a3, .int .i64 a4] := by (repeat (first | with_reducible assumption | ((with_reducible apply Blk.new); solve | simp | rfl) | with_reducible apply Blk.drew | with_reducible apply Blk.drewN | ((with_reducible apply Blk.far'); solve | omega | simp | (simp; omega)) | with_reducible apply Blk.set_ | with_reducible apply Blk.alloc | ((with_reducible apply Blk.ext'); with_reducible assumption) | ((with_reducible apply Blk.but'); (with_reducible assumption); solve | omega | (simp; omega))))
        have z0 : w7.cell? ⟨wr.heap.size, 0, none⟩ = some (.int .i64 a1) := B9.cell 0
        have z1 : w7.cell? ⟨wr.heap.size, 1, none⟩ = some (.int .i64 a2) := B9.cell 1
        have z2 : w7.cell? ⟨wr.heap.size, 2, none⟩ = some (.int .i64 a3) := B9.cell 2
        have z3 : w7.cell? ⟨wr.heap.size, 3, none⟩ = some (.int .i64 a4) := B9.cell 3
        have hs6 := hx6.size
        have hs7 := hx7.size
        simp at hs6
        clear B9
        have hx37 : Ext wr w7 := by (repeat (first | with_reducible exact Ext.refl _ | with_reducible assumption | ((with_reducible apply Src.ext); with_reducible assumption) | with_reducible refine Ext.alloc ?_ _ | with_reducible refine Ext.drew ?_ | with_reducible refine Ext.drewN ?_ _ | ((with_reducible refine Ext.setCell' ?_ ?_ _); solve | omega | simp | (simp; omega)) | (with_reducible refine Ext.trans ?_ (by with_reducible assumption))))
        have HX37 := Lib.hid hx37
        go_wp2_with (at_builtin; refine wpList_append_near elE len_encE one_encE rfl _ _ rfl rfl (HUN.out.ext (by (repeat (first | with_reducible exact Ext.refl _ | with_reducible assumption | ((with_reducible apply Src.ext); with_reducible assumption) | with_reducible refine Ext.alloc ?_ _ | with_reducible refine Ext.drew ?_ | with_reducible refine Ext.drewN ?_ _ | ((with_reducible refine Ext.setCell' ?_ ?_ _); solve | omega | simp | (simp; omega)) | (with_reducible refine Ext.trans ?_ (by with_reducible assumption)))))) (xs := [ek]) rfl (blk_e1 (by (repeat (first | with_reducible assumption | ((with_reducible apply Blk.new); solve | simp | rfl) | with_reducible apply Blk.drew | with_reducible apply Blk.drewN | ((with_reducible apply Blk.far'); solve | omega | simp | (simp; omega)) | with_reducible apply Blk.set_ | with_reducible apply Blk.alloc | ((with_reducible apply Blk.ext'); with_reducible assumption) | ((with_reducible apply Blk.but'); (with_reducible assumption); solve | omega | (simp; omega))))) HEK.out) (by have := HSL.out; have := HUL.out; simp; unfold maxLen; omega) (by have := HSL.out; have := HUL.out; simp; omega) (by first | omega | (simp; omega)) ?_)
        intro v' w8 hown hgrow hnear
        have HX38 : Hid (Ext wr (w7.alloc (.cells #[.int .i64 a1, .int .i64 a2, .int .i64 a3, .int .i64 a4] 58))) := Lib.hid (HX37.out.alloc _)
        have hother := (HSH.out.ext HX38.out).kept hgrow HAP.out.symm.ne
        have happ := (HAP.out.symm.symm.near (fun j hj => Nat.lt_of_lt_of_le (HSH.out.row j hj).2 HX38.out.size) hnear).symm
        rw [← HYE.out] at hown
        rw [← HNO.out] at hother
        have HV2 := Lib.hid hown
        have HO2 := Lib.hid hother
        have HAP2 := Lib.hid (happ.symm)
        have hx8 : Ext w2 w8 := by
          refine Ext.grown (hx3.trans HX38.out) hgrow (fun q hq => (HUN.out.row q hq).1)
        clear hown hgrow hnear hother happ
        go_wp2
        go_roundw
        case rel => exact ⟨k + 1, by omega, by go_num, HO2, HV2, HAP2, hx8⟩
        case measure => simp [intOf]; omega
    · obtain rfl : k = o.length := by omega
      go_wp2
      go_ret2
      exact ⟨_, _, rfl, HSH.out.less HX2.out.size, HUN.out.less HX2.out.size, HAP.out, HX2.out.trans hx3⟩

set_option maxRecDepth 20000 in
set_option maxHeartbeats 12800000 in
theorem s_l17Shared (A A' : Option Addr) (c c' : Nat) (pa pb : List (Int × Int)) (w : World) (h : SlAt w 2 encP A pa) (h' : SlAt w 2 encP A' pb) (hra : ringB pa = true) (hrb : ringB pb = true) :
    Calls Try.prog 78 #[.slice A pa.length c, .slice A' pb.length c'] w fun e w' => ∃ v, e = .returned v ∧ OwE w' w.heap.size v (shE pa pb) ∧ Ext w w' := by
  obtain ⟨a0, al, ao⟩ := ring_facts hra
  obtain ⟨b0, bl, bo⟩ := ring_facts hrb
  obtain ⟨o, hoe⟩ : ∃ o, o = edL (normS pa) := ⟨_, rfl⟩
  obtain ⟨q, hqe⟩ : ∃ q, q = edL (normS pb) := ⟨_, rfl⟩
  have hon : o.length = pa.length := by rw [hoe, edL_len, normS_len]
  have hqn : q.length = pb.length := by rw [hqe, edL_len, normS_len]
  rw [show shE pa pb = shTo o q o.length by unfold shE; rw [hoe, hqe]]
  have HAO := Lib.hid ao
  have HBO := Lib.hid bo
  have HOE := Lib.hid hoe
  have HQE := Lib.hid hqe
  have HON := Lib.hid hon
  have HQN := Lib.hid hqn
  clear hra hrb ao bo hoe hqe hon hqn
  go_enter Try.func78, Try.ntmps78
  go_wp2_with fail
  refine (s_l17Edges _ _ pa _ (h.ext (by (repeat (first | with_reducible exact Ext.refl _ | with_reducible assumption | ((with_reducible apply Src.ext); with_reducible assumption) | with_reducible refine Ext.alloc ?_ _ | with_reducible refine Ext.drew ?_ | with_reducible refine Ext.drewN ?_ _ | ((with_reducible refine Ext.setCell' ?_ ?_ _); solve | omega | simp | (simp; omega)) | (with_reducible refine Ext.trans ?_ (by with_reducible assumption)))))) a0 (by omega) HAO.out).mono ?_
  rintro e w1 ⟨v1, rfl, hO1, hx1⟩
  have hs1 := hx1.size
  (try simp at hs1)
  rw [← HOE.out] at hO1
  obtain ⟨A2, c2, rfl, hS2, _, _, hA2⟩ := hO1.sl len_encE
  (try simp at hA2)
  have hm0 : OwE (w.alloc (.cells #[] 58)) w.heap.size (.slice (some ⟨w.heap.size, 0, none⟩) 0 0) (shTo o q 0) := World.ownsRow_made (base := w.heap.size) (e := 58) (size := 4) w #[] 0 (Nat.le_refl _) (Nat.zero_le _) rfl
  have HM0 := Lib.hid (hm0.ext hx1)
  clear hm0
  have hX1 : Ext w w1 := by (repeat (first | with_reducible exact Ext.refl _ | with_reducible assumption | ((with_reducible apply Src.ext); with_reducible assumption) | with_reducible refine Ext.alloc ?_ _ | with_reducible refine Ext.drew ?_ | with_reducible refine Ext.drewN ?_ _ | ((with_reducible refine Ext.setCell' ?_ ?_ _); solve | omega | simp | (simp; omega)) | (with_reducible refine Ext.trans ?_ (by with_reducible assumption))))
  clear hO1
  go_wp2_with fail
  refine (s_l17Edges _ _ pb _ (h'.ext (by (repeat (first | with_reducible exact Ext.refl _ | with_reducible assumption | ((with_reducible apply Src.ext); with_reducible assumption) | with_reducible refine Ext.alloc ?_ _ | with_reducible refine Ext.drew ?_ | with_reducible refine Ext.drewN ?_ _ | ((with_reducible refine Ext.setCell' ?_ ?_ _); solve | omega | simp | (simp; omega)) | (with_reducible refine Ext.trans ?_ (by with_reducible assumption)))))) b0 (by omega) HBO.out).mono ?_
  rintro e w2 ⟨v2, rfl, hO2, hx2⟩
  have hs2 := hx2.size
  rw [← HQE.out] at hO2
  obtain ⟨A1, c1, rfl, hS12, _, _, hA1⟩ := hO2.sl len_encE
  have HSQ0 := Lib.hid hS12
  have HSO0 := Lib.hid (hS2.ext hx2)
  have HX2 : Hid (Ext w w2) := Lib.hid (hX1.trans hx2)
  have HM1 := Lib.hid (HM0.out.ext hx2)
  have HA1 : Hid (∀ p, A1 = some p → w.heap.size < p.block ∧ p.block < w2.heap.size) := Lib.hid fun p hp => by have := hA1 p hp; omega
  have HA2 : Hid (∀ p, A2 = some p → w.heap.size < p.block ∧ p.block < w2.heap.size) := Lib.hid fun p hp => by have := hA2 p hp; omega
  clear hO2 hS2 HM0 hX1 hS12 hA1 hA2 hx1 hx2
  have hol : o.length ≤ 12 := by rw [HON.out]; exact al
  have hql : q.length ≤ 12 := by rw [HQN.out]; exact bl
  go_wp2
  go_loopw [5, 8] (fun s i wr => ∃ k : Nat, k ≤ o.length ∧ i = .int .i64 k ∧ Hid (OwE wr w.heap.size s (shTo o q k)) ∧ Hid (∀ j, s.ownBlock = some j → j = w.heap.size ∨ w2.heap.size ≤ j) ∧ Hid (SlAt wr 4 encE A2 o) ∧ Hid (SlAt wr 4 encE A1 q) ∧ w2.heap.size ≤ wr.heap.size ∧ Hid (Ext w wr)) (fun _ i _ => o.length - (intOf i).toNat)
  case atStart => exact ⟨0, by omega, rfl, HM1, Lib.hid (fun j hj => by simp [Value.ownBlock] at hj; omega), HSO0, HSQ0, Nat.le_refl _, HX2⟩
  case round =>
    rename_i s _ _
    obtain ⟨k, hk, rfl, HSH, HJ, HSO, HSQ, hs3, HX3⟩ := hrel
    have hsw : w.heap.size ≤ wr.heap.size := HX3.out.size
    have hsl := shTo_len o q k
    have HSL := Lib.hid hsl
    clear hsl
    by_cases hlt : k < o.length
    · have hkn : k < o.length := hlt
      obtain ⟨b, off, a1, a2, a3, a4, rfl, hb, he, d0, d1, d2, d3⟩ := HSO.out.ed hkn
      have HE := Lib.hid he
      clear he
      by_cases hh : hasE q a3 a4 a1 a2 = true
      · skip
        have hb1 : bk q (o.getD k edD) = true := by rw [show o.getD k edD = ((a1, a2), (a3, a4)) from HE.out]; exact hh
        have HYE := Lib.hid (shTo_yes hkn hb1)
        obtain ⟨ek, hek⟩ : ∃ ek, ek = o.getD k edD := ⟨_, rfl⟩
        rw [← hek] at HYE
        have HEK : Hid (ek = ((a1, a2), (a3, a4))) := Lib.hid (by rw [hek]; exact HE.out)
        have hcall : ∀ W, SlAt W 4 encE A1 q → Calls Try.prog 80 #[.slice A1 q.length c1, .agg #[.int .i64 a3, .int .i64 a4, .int .i64 a1, .int .i64 a2]] W fun e w' => e = .returned (.bool true) ∧ Ext W w' := fun W h => as_bool (s_l17Has _ _ _ q _ _ _ _ _ h rfl (by omega)) hh
        have HCC := Lib.hid hcall
        clear hek hb1 hh hcall hkn
        go_wp2
        (refine wp_region_ext (by kernel_rfl) (by kernel_rfl) ?_; (repeat (go_big_quiet_step ((go_at_call 80; exact Calls_ext (HCC.out _ (HSQ.out.ext (ExtOf.ext _))))))); refine wpQuiet_nil ?_; intro wq hxwq; obtain ⟨hcwq, hfwq⟩ := hxwq.rules; have hswq := hxwq.size; (try simp at hswq))
        have hx37 : Ext wr wq := by (repeat (first | with_reducible exact Ext.refl _ | with_reducible assumption | ((with_reducible apply Src.ext); with_reducible assumption) | with_reducible refine Ext.alloc ?_ _ | with_reducible refine Ext.drew ?_ | with_reducible refine Ext.drewN ?_ _ | ((with_reducible refine Ext.setCell' ?_ ?_ _); solve | omega | simp | (simp; omega)) | (with_reducible refine Ext.trans ?_ (by with_reducible assumption))))
        have HX37 := Lib.hid hx37
        go_wp2_with (at_builtin; refine wpList_append_near elE len_encE one_encE rfl _ _ rfl rfl (HSH.out.ext (by (repeat (first | with_reducible exact Ext.refl _ | with_reducible assumption | ((with_reducible apply Src.ext); with_reducible assumption) | with_reducible refine Ext.alloc ?_ _ | with_reducible refine Ext.drew ?_ | with_reducible refine Ext.drewN ?_ _ | ((with_reducible refine Ext.setCell' ?_ ?_ _); solve | omega | simp | (simp; omega)) | (with_reducible refine Ext.trans ?_ (by with_reducible assumption)))))) (xs := [ek]) rfl (blk_e1 (by (repeat (first | with_reducible assumption | ((with_reducible apply Blk.new); solve | simp | rfl) | with_reducible apply Blk.drew | with_reducible apply Blk.drewN | ((with_reducible apply Blk.far'); solve | omega | simp | (simp; omega)) | with_reducible apply Blk.set_ | with_reducible apply Blk.alloc | ((with_reducible apply Blk.ext'); with_reducible assumption) | ((with_reducible apply Blk.but'); (with_reducible assumption); solve | omega | (simp; omega))))) HEK.out) (by have := HSL.out; simp; unfold maxLen; omega) (by have := HSL.out; simp; omega) (by first | omega | (simp; omega)) ?_)
        intro v' w8 hown hgrow hnear
        have hX38 : Ext wr _ := HX37.out.alloc (.cells #[.int .i64 a1, .int .i64 a2, .int .i64 a3, .int .i64 a4] 58)
        have h8 := hX38.size
        rw [← HYE.out] at hown
        have HV2 := Lib.hid hown
        have HJ2 : Hid (∀ j, v'.ownBlock = some j → j = w.heap.size ∨ w2.heap.size ≤ j) := Lib.hid fun j hj => by
          rcases hnear with hn | hn
          · exact HJ.out j (hn ▸ hj)
          · have := hn j hj
            exact .inr (by omega)
        have hS2w := (HSO.out.ext hX38).grown hgrow (fun p hp e => by have := HJ.out _ e.symm; have := HA2.out p hp; omega)
        have hS1w := (HSQ.out.ext hX38).grown hgrow (fun p hp e => by have := HJ.out _ e.symm; have := HA1.out p hp; omega)
        have hs8 := hgrow.size
        have hx8 : Ext w w8 := (HX3.out.trans hX38).grown hgrow (fun j hj => (HSH.out.row j hj).1)
        have HX8 := Lib.hid hx8
        have HS2w := Lib.hid hS2w
        have HS1w := Lib.hid hS1w
        have hs28 : w2.heap.size ≤ w8.heap.size := by omega
        clear hown hgrow hnear hX38 h8 hs8 hx8 hS2w hS1w
        go_wp2
        go_roundw
        case rel => exact ⟨k + 1, by omega, by go_num, HV2, HJ2, HS2w, HS1w, hs28, HX8⟩
        case measure => simp [intOf]; omega
      · have hh' : hasE q a3 a4 a1 a2 = false := Bool.eq_false_iff.2 hh
        have hb1 : bk q (o.getD k edD) = false := by rw [show o.getD k edD = ((a1, a2), (a3, a4)) from HE.out]; exact hh'
        have HNO := Lib.hid (shTo_no hkn hb1)
        have hcall : ∀ W, SlAt W 4 encE A1 q → Calls Try.prog 80 #[.slice A1 q.length c1, .agg #[.int .i64 a3, .int .i64 a4, .int .i64 a1, .int .i64 a2]] W fun e w' => e = .returned (.bool false) ∧ Ext W w' := fun W h => as_bool (s_l17Has _ _ _ q _ _ _ _ _ h rfl (by omega)) hh'
        have HCC := Lib.hid hcall
        clear hb1 hh hh' hcall hkn
        go_wp2
        (refine wp_region_ext (by kernel_rfl) (by kernel_rfl) ?_; (repeat (go_big_quiet_step ((go_at_call 80; exact Calls_ext (HCC.out _ (HSQ.out.ext (ExtOf.ext _))))))); refine wpQuiet_nil ?_; intro wq hxwq; obtain ⟨hcwq, hfwq⟩ := hxwq.rules; have hswq := hxwq.size; (try simp at hswq))
        have hx37 : Ext wr wq := by (repeat (first | with_reducible exact Ext.refl _ | with_reducible assumption | ((with_reducible apply Src.ext); with_reducible assumption) | with_reducible refine Ext.alloc ?_ _ | with_reducible refine Ext.drew ?_ | with_reducible refine Ext.drewN ?_ _ | ((with_reducible refine Ext.setCell' ?_ ?_ _); solve | omega | simp | (simp; omega)) | (with_reducible refine Ext.trans ?_ (by with_reducible assumption))))
        go_wp2
        go_roundw
        case rel => exact ⟨k + 1, by omega, by go_num, by rw [HNO.out]; exact Lib.hid (HSH.out.ext hx37), HJ, Lib.hid (HSO.out.ext hx37), Lib.hid (HSQ.out.ext hx37), by omega, Lib.hid (HX3.out.trans hx37)⟩
        case measure => simp [intOf]; omega
    · obtain rfl : k = o.length := by omega
      go_wp2
      go_ret
      exact ⟨_, rfl, HSH.out, HX3.out⟩

end Go.Proofs.Yteppjdoggjcdoaa
namespace Go.Proofs.Yteppjdoggjcdoaa
open Go.RowKit
attribute [local go_sem] ExtOf.cell ExtOf.frozen

theorem arC_zero {L : List (List (Int × Int))} {xs : List Int} : arC L xs = 0 ↔ mapB L = true ∧ ∀ x ∈ xs, 0 ≤ x ∧ x < L.length := by
  unfold arC
  constructor
  · intro h
    split at h
    · rename_i hm
      split at h
      · rename_i ha
        refine ⟨hm, fun x hx => ?_⟩
        have := List.all_eq_true.1 ha x hx
        simp [inB] at this
        omega
      · omega
    · omega
  · rintro ⟨hm, ha⟩
    rw [if_pos hm, if_pos]
    rw [List.all_eq_true]
    intro x hx
    have := ha x hx
    simp [inB]
    omega
theorem arC_le (L : List (List (Int × Int))) (xs : List Int) : 0 ≤ arC L xs ∧ arC L xs ≤ 2 := by
  unfold arC
  split
  · split <;> omega
  · omega
theorem arC_two (L : List (List (Int × Int))) (a : Int) : arC L [a, a] = arC L [a] := by
  unfold arC
  simp
noncomputable def nbC (L : List (List (Int × Int))) (a : Int) : Int := arC L [a]
noncomputable def abC (L : List (List (Int × Int))) (a b : Int) : Int := arC L [a, b]
/-- the neighbours among the first k rings -/
def nbB (pa pb : List (Int × Int)) : Bool := decide (0 < (shE pa pb).length)
def nbTo (L : List (List (Int × Int))) (pa : List (Int × Int)) (k : Nat) : List Int := ((List.range k).filter fun i => nbB pa (L.getD i [])).map fun i : Nat => (i : Int)
theorem nbTo_yes {L : List (List (Int × Int))} {pa : List (Int × Int)} {k : Nat} (h : nbB pa (L.getD k []) = true) : nbTo L pa (k + 1) = nbTo L pa k ++ [(k : Int)] := by
  unfold nbTo
  rw [List.range_succ, List.filter_append, List.map_append]
  simp only [List.filter_cons, h, if_true, List.filter_nil, List.map_cons, List.map_nil]
theorem nbTo_no {L : List (List (Int × Int))} {pa : List (Int × Int)} {k : Nat} (h : nbB pa (L.getD k []) = false) : nbTo L pa (k + 1) = nbTo L pa k := by
  unfold nbTo
  rw [List.range_succ, List.filter_append, List.map_append]
  simp only [List.filter_cons, h, Bool.false_eq_true, if_false, List.filter_nil, List.map_nil, List.append_nil]
theorem nbTo_len (L : List (List (Int × Int))) (pa : List (Int × Int)) (k : Nat) : (nbTo L pa k).length ≤ k := by
  unfold nbTo
  rw [List.length_map]
  exact Nat.le_trans (List.length_filter_le _ _) (by simp)
noncomputable def nbP (L : List (List (Int × Int))) (a : Int) : List Int := if nbC L a = 0 then nbTo L (L.getD a.toNat []) L.length else []
noncomputable def seP (L : List (List (Int × Int))) (a b : Int) : List Ed := if abC L a b = 0 then shE (L.getD a.toNat []) (L.getD b.toNat []) else []
theorem nbP_len (L : List (List (Int × Int))) (a : Int) : (nbP L a).length ≤ 72 := by
  unfold nbP
  split
  · rename_i h
    have := (mapB_iff.1 (arC_zero.1 h).1).1
    exact Nat.le_trans (nbTo_len _ _ _) (by omega)
  · simp
theorem map_ring {L : List (List (Int × Int))} (h : mapB L = true) {k : Nat} (hk : k < L.length) : ringB (L.getD k []) = true := (mapB_iff.1 h).2.1 k hk
theorem seP_len (L : List (List (Int × Int))) (a b : Int) : (seP L a b).length ≤ 72 := by
  unfold seP
  split
  · rename_i h
    obtain ⟨hm, hx⟩ := arC_zero.1 h
    have ha := hx a (by simp)
    have := (ring_facts (map_ring hm (k := a.toNat) (by omega))).2.1
    exact Nat.le_trans (shE_len _ _) (by omega)
  · simp

set_option maxRecDepth 20000 in
set_option maxHeartbeats 12800000 in
theorem i_NeighboursOf (A : Option Addr) (c : Nat) (rs : List Rg) (a : Int) (w : World) (h : SlAt w 1 encR A rs) (hr : Rings w rs) (hl : rs.length ≤ 1048576) (hc : rs.length ≤ c) :
    Calls Try.prog 49 #[.slice A rs.length c, .int .i64 a] w fun e w' => ∃ v, e = .returned (.tuple #[v, .int .i64 (nbC (psOf rs) a)]) ∧ OwI w' w.heap.size v (nbP (psOf rs) a) ∧ Ext w w' := by
  by_cases hz : nbC (psOf rs) a = 0
  · obtain ⟨hm, hin⟩ := arC_zero.1 hz
    have ha := hin a (by simp)
    rw [psOf_len] at ha
    obtain ⟨j, rfl⟩ : ∃ j : Nat, a = (j : Int) := ⟨a.toNat, by omega⟩
    have hj : j < rs.length := by omega
    have hLj : (psOf rs).getD j [] = (rs.getD j rgD).2.2 := psOf_at hj
    obtain ⟨pa, hpa⟩ : ∃ pa, pa = (rs.getD j rgD).2.2 := ⟨_, rfl⟩
    have h6 := (mapB_iff.1 hm).1
    rw [psOf_len] at h6
    have hrj : ringB pa = true := by rw [hpa, ← hLj]; exact map_ring hm (by rw [psOf_len]; exact hj)
    rw [show nbP (psOf rs) (j : Int) = nbTo (psOf rs) pa rs.length by unfold nbP; rw [if_pos hz, psOf_len, Int.toNat_natCast, hLj, hpa], hz]
    have HZ := Lib.hid hz
    have HM := Lib.hid hm
    have HRJ := Lib.hid hrj
    have HPA := Lib.hid hpa
    clear hz hm hin hrj hLj hpa
    go_enter Try.func49, Try.ntmps49
    go_wp2_with fail
    refine (i_areaCode _ _ _ 1 _ rs [(j : Int)] _ (h.ext (by (repeat (first | with_reducible exact Ext.refl _ | with_reducible assumption | ((with_reducible apply Src.ext); with_reducible assumption) | with_reducible refine Ext.alloc ?_ _ | with_reducible refine Ext.drew ?_ | with_reducible refine Ext.drewN ?_ _ | ((with_reducible refine Ext.setCell' ?_ ?_ _); solve | omega | simp | (simp; omega)) | (with_reducible refine Ext.trans ?_ (by with_reducible assumption)))))) (hr.ext (by (repeat (first | with_reducible exact Ext.refl _ | with_reducible assumption | ((with_reducible apply Src.ext); with_reducible assumption) | with_reducible refine Ext.alloc ?_ _ | with_reducible refine Ext.drew ?_ | with_reducible refine Ext.drewN ?_ _ | ((with_reducible refine Ext.setCell' ?_ ?_ _); solve | omega | simp | (simp; omega)) | (with_reducible refine Ext.trans ?_ (by with_reducible assumption)))))) hl hc (blk_i1 (by (repeat (first | with_reducible assumption | ((with_reducible apply Blk.new); solve | simp | rfl) | with_reducible apply Blk.drew | with_reducible apply Blk.drewN | ((with_reducible apply Blk.far'); solve | omega | simp | (simp; omega)) | with_reducible apply Blk.set_ | with_reducible apply Blk.alloc | ((with_reducible apply Blk.ext'); with_reducible assumption) | ((with_reducible apply Blk.but'); (with_reducible assumption); solve | omega | (simp; omega)))))) rfl (by omega)).mono ?_
    rintro e w1 ⟨rfl, hx1⟩
    rw [show arC (psOf rs) [(j : Int)] = 0 from HZ.out]
    have hs1 := hx1.size
    (try simp at hs1)
    have HV0 := Lib.hid (Own.nil w1 w1.heap.size : OwI w1 w1.heap.size (.slice none 0 0) (nbTo (psOf rs) pa 0))
    have hx01 : Ext w w1 := by (repeat (first | with_reducible exact Ext.refl _ | with_reducible assumption | ((with_reducible apply Src.ext); with_reducible assumption) | with_reducible refine Ext.alloc ?_ _ | with_reducible refine Ext.drew ?_ | with_reducible refine Ext.drewN ?_ _ | ((with_reducible refine Ext.setCell' ?_ ?_ _); solve | omega | simp | (simp; omega)) | (with_reducible refine Ext.trans ?_ (by with_reducible assumption))))
    go_wp2
    go_loopw [7, 21] (fun v i wr => ∃ k : Nat, k ≤ rs.length ∧ i = .int .i64 k ∧ Hid (OwI wr w1.heap.size v (nbTo (psOf rs) pa k)) ∧ Ext w1 wr) (fun _ i _ => rs.length - (intOf i).toNat)
    case atStart => exact ⟨0, by omega, rfl, HV0, by (repeat (first | with_reducible exact Ext.refl _ | with_reducible assumption | ((with_reducible apply Src.ext); with_reducible assumption) | with_reducible refine Ext.alloc ?_ _ | with_reducible refine Ext.drew ?_ | with_reducible refine Ext.drewN ?_ _ | ((with_reducible refine Ext.setCell' ?_ ?_ _); solve | omega | simp | (simp; omega)) | (with_reducible refine Ext.trans ?_ (by with_reducible assumption))))⟩
    case round =>
      obtain ⟨k, hk, rfl, HV, hxr⟩ := hrel
      have hsr := hxr.size
      have hnl := nbTo_len (psOf rs) pa k
      have HNL := Lib.hid hnl
      clear hnl
      by_cases hlt : k < rs.length
      · obtain ⟨b, off, rfl, hb, hcell⟩ := ((h.ext hx01).ext hxr).rg hlt
        have hcj := SlAt.rg' ((h.ext hx01).ext hxr) hj
        have hrk := ((hr.ext hx01).ext hxr) _ (rg_mem hlt)
        have hrkj := ((hr.ext hx01).ext hxr) _ (rg_mem hj)
        have hLk : (psOf rs).getD k [] = (rs.getD k rgD).2.2 := psOf_at hlt
        have hring : ringB (rs.getD k rgD).2.2 = true := by rw [← hLk]; exact map_ring HM.out (by rw [psOf_len]; exact hlt)
        obtain ⟨r, hre⟩ : ∃ r, r = rs.getD k rgD := ⟨_, rfl⟩
        obtain ⟨rj, hrje⟩ : ∃ r, r = rs.getD j rgD := ⟨_, rfl⟩
        have hpj : pa = rj.2.2 := by rw [HPA.out, hrje]
        rw [← hre] at hcell hrk hLk hring
        rw [← hrje, ← hpj] at hcj hrkj
        have HK := Lib.hid hrk.1
        have HKJ := Lib.hid hrkj.1
        have HRK := Lib.hid hring
        clear hre hrje hpj hrk hrkj hring
        go_wp2_with fail
        refine (i_parted _ _ _ _ pa r.2.2 _ HKJ.out HK.out HRJ.out HRK.out).mono ?_
        rintro e w2 ⟨v2, u2, rfl, hO2, _, _, hx2⟩
        have hs2 := hx2.size
        obtain ⟨A2, c2, rfl, hS2, _, _, _⟩ := hO2.sl len_encE
        obtain ⟨n2, hn⟩ : ∃ n, n = (shE pa r.2.2).length := ⟨_, rfl⟩
        rw [← hn]
        have hn12 : n2 ≤ 1048576 := by have := shE_len pa r.2.2; have := (ring_facts HRJ.out).2.1; omega
        clear hO2 hS2
        cases hnb : nbB pa ((psOf rs).getD k []) with
        | true =>
          have HYE := Lib.hid (nbTo_yes hnb)
          have hn2 : 0 < n2 := by
            unfold nbB at hnb
            rw [hLk] at hnb
            have := of_decide_eq_true hnb
            omega
          clear hnb hLk hn
          go_wp2_with (at_builtin; refine wpList_append_sl elI len_encI one_encI rfl _ _ rfl rfl (HV.out.ext (by (repeat (first | with_reducible exact Ext.refl _ | with_reducible assumption | ((with_reducible apply Src.ext); with_reducible assumption) | with_reducible refine Ext.alloc ?_ _ | with_reducible refine Ext.drew ?_ | with_reducible refine Ext.drewN ?_ _ | ((with_reducible refine Ext.setCell' ?_ ?_ _); solve | omega | simp | (simp; omega)) | (with_reducible refine Ext.trans ?_ (by with_reducible assumption)))))) (xs := [(k : Int)]) rfl (blk_i1 (by (repeat (first | with_reducible assumption | ((with_reducible apply Blk.new); solve | simp | rfl) | with_reducible apply Blk.drew | with_reducible apply Blk.drewN | ((with_reducible apply Blk.far'); solve | omega | simp | (simp; omega)) | with_reducible apply Blk.set_ | with_reducible apply Blk.alloc | ((with_reducible apply Blk.ext'); with_reducible assumption) | ((with_reducible apply Blk.but'); (with_reducible assumption); solve | omega | (simp; omega)))))) (by have := HNL.out; simp; unfold maxLen; omega) (by have := HNL.out; simp; omega) (by first | omega | (simp; omega)) ?_)
          intro v' w5 hown hgrow _
          rw [← HYE.out] at hown
          have HV2 := Lib.hid hown
          have hx5 : Ext w1 w5 := by
            refine Ext.grown ?_ hgrow (fun q hq => (HV.out.row q hq).1)
            (repeat (first | with_reducible exact Ext.refl _ | with_reducible assumption | ((with_reducible apply Src.ext); with_reducible assumption) | with_reducible refine Ext.alloc ?_ _ | with_reducible refine Ext.drew ?_ | with_reducible refine Ext.drewN ?_ _ | ((with_reducible refine Ext.setCell' ?_ ?_ _); solve | omega | simp | (simp; omega)) | (with_reducible refine Ext.trans ?_ (by with_reducible assumption))))
          clear hown hgrow
          go_wp2
          go_roundw
          case rel => exact ⟨k + 1, by omega, by go_num, HV2, hx5⟩
          case measure => simp [intOf]; omega
        | false =>
          have HYE := Lib.hid (nbTo_no hnb)
          have hn2 : n2 = 0 := by
            unfold nbB at hnb
            rw [hLk] at hnb
            have := of_decide_eq_false hnb
            omega
          clear hnb hLk hn
          subst hn2
          go_wp2
          go_roundw
          case rel => exact ⟨k + 1, by omega, by go_num, by rw [HYE.out]; exact Lib.hid (HV.out.ext (by (repeat (first | with_reducible exact Ext.refl _ | with_reducible assumption | ((with_reducible apply Src.ext); with_reducible assumption) | with_reducible refine Ext.alloc ?_ _ | with_reducible refine Ext.drew ?_ | with_reducible refine Ext.drewN ?_ _ | ((with_reducible refine Ext.setCell' ?_ ?_ _); solve | omega | simp | (simp; omega)) | (with_reducible refine Ext.trans ?_ (by with_reducible assumption)))))), by (repeat (first | with_reducible exact Ext.refl _ | with_reducible assumption | ((with_reducible apply Src.ext); with_reducible assumption) | with_reducible refine Ext.alloc ?_ _ | with_reducible refine Ext.drew ?_ | with_reducible refine Ext.drewN ?_ _ | ((with_reducible refine Ext.setCell' ?_ ?_ _); solve | omega | simp | (simp; omega)) | (with_reducible refine Ext.trans ?_ (by with_reducible assumption))))⟩
          case measure => simp [intOf]; omega
      · obtain rfl : k = rs.length := by omega
        go_wp2
        go_ret2
        exact ⟨_, rfl, HV.out.less hx01.size, hx01.trans hxr⟩
  · have hle := arC_le (psOf rs) [a]
    obtain ⟨z, hze⟩ : ∃ z, z = nbC (psOf rs) a := ⟨_, rfl⟩
    rw [show nbP (psOf rs) a = [] by unfold nbP; rw [if_neg hz]]
    rw [← hze] at hz ⊢
    have HZ : Hid (arC (psOf rs) [a] = z) := Lib.hid hze.symm
    have hzz : (z != 0) = true := by simpa using hz
    clear hze hle
    go_enter Try.func49, Try.ntmps49
    go_wp2_with fail
    refine (i_areaCode _ _ _ 1 _ rs [a] _ (h.ext (by (repeat (first | with_reducible exact Ext.refl _ | with_reducible assumption | ((with_reducible apply Src.ext); with_reducible assumption) | with_reducible refine Ext.alloc ?_ _ | with_reducible refine Ext.drew ?_ | with_reducible refine Ext.drewN ?_ _ | ((with_reducible refine Ext.setCell' ?_ ?_ _); solve | omega | simp | (simp; omega)) | (with_reducible refine Ext.trans ?_ (by with_reducible assumption)))))) (hr.ext (by (repeat (first | with_reducible exact Ext.refl _ | with_reducible assumption | ((with_reducible apply Src.ext); with_reducible assumption) | with_reducible refine Ext.alloc ?_ _ | with_reducible refine Ext.drew ?_ | with_reducible refine Ext.drewN ?_ _ | ((with_reducible refine Ext.setCell' ?_ ?_ _); solve | omega | simp | (simp; omega)) | (with_reducible refine Ext.trans ?_ (by with_reducible assumption)))))) hl hc (blk_i1 (by (repeat (first | with_reducible assumption | ((with_reducible apply Blk.new); solve | simp | rfl) | with_reducible apply Blk.drew | with_reducible apply Blk.drewN | ((with_reducible apply Blk.far'); solve | omega | simp | (simp; omega)) | with_reducible apply Blk.set_ | with_reducible apply Blk.alloc | ((with_reducible apply Blk.ext'); with_reducible assumption) | ((with_reducible apply Blk.but'); (with_reducible assumption); solve | omega | (simp; omega)))))) rfl (by omega)).mono ?_
    rintro e w1 ⟨rfl, hx1⟩
    rw [HZ.out]
    go_wp2
    go_ret2
    exact ⟨_, rfl, Own.nil _ _, by (repeat (first | with_reducible exact Ext.refl _ | with_reducible assumption | ((with_reducible apply Src.ext); with_reducible assumption) | with_reducible refine Ext.alloc ?_ _ | with_reducible refine Ext.drew ?_ | with_reducible refine Ext.drewN ?_ _ | ((with_reducible refine Ext.setCell' ?_ ?_ _); solve | omega | simp | (simp; omega)) | (with_reducible refine Ext.trans ?_ (by with_reducible assumption))))⟩

set_option maxRecDepth 20000 in
set_option maxHeartbeats 12800000 in
theorem s_NeighboursOf (A : Option Addr) (c : Nat) (rs : List Rg) (a : Int) (w : World) (h : SlAt w 1 encR A rs) (hr : Rings w rs) (hl : rs.length ≤ 1048576) :
    Calls Try.prog 50 #[.slice A rs.length c, .int .i64 a] w fun e w' => ∃ v, e = .returned (.tuple #[v, .int .i64 (nbC (psOf rs) a)]) ∧ OwI w' w.heap.size v (nbP (psOf rs) a) ∧ Ext w w' := by
  by_cases hz : nbC (psOf rs) a = 0
  · obtain ⟨hm, hin⟩ := arC_zero.1 hz
    have ha := hin a (by simp)
    rw [psOf_len] at ha
    obtain ⟨j, rfl⟩ : ∃ j : Nat, a = (j : Int) := ⟨a.toNat, by omega⟩
    have hj : j < rs.length := by omega
    have hLj : (psOf rs).getD j [] = (rs.getD j rgD).2.2 := psOf_at hj
    obtain ⟨pa, hpa⟩ : ∃ pa, pa = (rs.getD j rgD).2.2 := ⟨_, rfl⟩
    have h6 := (mapB_iff.1 hm).1
    rw [psOf_len] at h6
    have hrj : ringB pa = true := by rw [hpa, ← hLj]; exact map_ring hm (by rw [psOf_len]; exact hj)
    have hself : nbB pa ((psOf rs).getD j []) = false := by unfold nbB; rw [hLj, ← hpa, shE_self hrj]; rfl
    rw [show nbP (psOf rs) (j : Int) = nbTo (psOf rs) pa rs.length by unfold nbP; rw [if_pos hz, psOf_len, Int.toNat_natCast, hLj, hpa], hz]
    have HZ := Lib.hid hz
    have HM := Lib.hid hm
    have HRJ := Lib.hid hrj
    have HPA := Lib.hid hpa
    have HSELF := Lib.hid hself
    clear hz hm hin hrj hLj hpa hself
    go_enter Try.func50, Try.ntmps50
    go_wp2_with fail
    refine (s_l17Code _ _ rs (j : Int) (j : Int) _ (h.ext (by (repeat (first | with_reducible exact Ext.refl _ | with_reducible assumption | ((with_reducible apply Src.ext); with_reducible assumption) | with_reducible refine Ext.alloc ?_ _ | with_reducible refine Ext.drew ?_ | with_reducible refine Ext.drewN ?_ _ | ((with_reducible refine Ext.setCell' ?_ ?_ _); solve | omega | simp | (simp; omega)) | (with_reducible refine Ext.trans ?_ (by with_reducible assumption)))))) (hr.ext (by (repeat (first | with_reducible exact Ext.refl _ | with_reducible assumption | ((with_reducible apply Src.ext); with_reducible assumption) | with_reducible refine Ext.alloc ?_ _ | with_reducible refine Ext.drew ?_ | with_reducible refine Ext.drewN ?_ _ | ((with_reducible refine Ext.setCell' ?_ ?_ _); solve | omega | simp | (simp; omega)) | (with_reducible refine Ext.trans ?_ (by with_reducible assumption)))))) hl).mono ?_
    rintro e w1 ⟨rfl, hx1⟩
    rw [show arC (psOf rs) [(j : Int), (j : Int)] = 0 from (arC_two _ _).trans HZ.out]
    have hs1 := hx1.size
    (try simp at hs1)
    have HV0 := Lib.hid (World.ownsRow_made (base := w1.heap.size) (e := 2) (size := 1) w1 #[] 0 (Nat.le_refl _) (Nat.zero_le _) rfl : OwI _ w1.heap.size _ (nbTo (psOf rs) pa 0))
    have hx01 : Ext w w1 := by (repeat (first | with_reducible exact Ext.refl _ | with_reducible assumption | ((with_reducible apply Src.ext); with_reducible assumption) | with_reducible refine Ext.alloc ?_ _ | with_reducible refine Ext.drew ?_ | with_reducible refine Ext.drewN ?_ _ | ((with_reducible refine Ext.setCell' ?_ ?_ _); solve | omega | simp | (simp; omega)) | (with_reducible refine Ext.trans ?_ (by with_reducible assumption))))
    go_wp2
    go_loopw [7, 8] (fun v i wr => ∃ k : Nat, k ≤ rs.length ∧ i = .int .i64 k ∧ Hid (OwI wr w1.heap.size v (nbTo (psOf rs) pa k)) ∧ Ext w1 wr) (fun _ i _ => rs.length - (intOf i).toNat)
    case atStart => exact ⟨0, by omega, rfl, HV0, by (repeat (first | with_reducible exact Ext.refl _ | with_reducible assumption | ((with_reducible apply Src.ext); with_reducible assumption) | with_reducible refine Ext.alloc ?_ _ | with_reducible refine Ext.drew ?_ | with_reducible refine Ext.drewN ?_ _ | ((with_reducible refine Ext.setCell' ?_ ?_ _); solve | omega | simp | (simp; omega)) | (with_reducible refine Ext.trans ?_ (by with_reducible assumption))))⟩
    case round =>
      obtain ⟨k, hk, rfl, HV, hxr⟩ := hrel
      have hsr := hxr.size
      have hnl := nbTo_len (psOf rs) pa k
      have HNL := Lib.hid hnl
      clear hnl
      by_cases hlt : k < rs.length
      · by_cases hkj : k = j
        · have hne : ((k : Int) != (j : Int)) = false := by simp [hkj]
          have HNO : Hid (nbTo (psOf rs) pa (k + 1) = nbTo (psOf rs) pa k) := Lib.hid (nbTo_no (by rw [hkj]; exact HSELF.out))
          go_wp2
          (refine wp_region_ext (by kernel_rfl) (by kernel_rfl) ?_; (repeat (go_big_quiet_step (fail))); refine wpQuiet_nil ?_; intro wq hxwq; obtain ⟨hcwq, hfwq⟩ := hxwq.rules; have hswq := hxwq.size; (try simp at hswq))
          go_wp2
          go_roundw
          case rel => exact ⟨k + 1, by omega, by go_num, by rw [HNO.out]; exact Lib.hid (HV.out.ext (by (repeat (first | with_reducible exact Ext.refl _ | with_reducible assumption | ((with_reducible apply Src.ext); with_reducible assumption) | with_reducible refine Ext.alloc ?_ _ | with_reducible refine Ext.drew ?_ | with_reducible refine Ext.drewN ?_ _ | ((with_reducible refine Ext.setCell' ?_ ?_ _); solve | omega | simp | (simp; omega)) | (with_reducible refine Ext.trans ?_ (by with_reducible assumption)))))), by (repeat (first | with_reducible exact Ext.refl _ | with_reducible assumption | ((with_reducible apply Src.ext); with_reducible assumption) | with_reducible refine Ext.alloc ?_ _ | with_reducible refine Ext.drew ?_ | with_reducible refine Ext.drewN ?_ _ | ((with_reducible refine Ext.setCell' ?_ ?_ _); solve | omega | simp | (simp; omega)) | (with_reducible refine Ext.trans ?_ (by with_reducible assumption))))⟩
          case measure => simp [intOf]; omega
        · have hne : ((k : Int) != (j : Int)) = true := by simp; omega
          obtain ⟨b, off, rfl, hb, hcell⟩ := ((h.ext hx01).ext hxr).rg hlt
          have hcj := SlAt.rg' ((h.ext hx01).ext hxr) hj
          have hrk := ((hr.ext hx01).ext hxr) _ (rg_mem hlt)
          have hrkj := ((hr.ext hx01).ext hxr) _ (rg_mem hj)
          have hLk : (psOf rs).getD k [] = (rs.getD k rgD).2.2 := psOf_at hlt
          have hring : ringB (rs.getD k rgD).2.2 = true := by rw [← hLk]; exact map_ring HM.out (by rw [psOf_len]; exact hlt)
          obtain ⟨r, hre⟩ : ∃ r, r = rs.getD k rgD := ⟨_, rfl⟩
          obtain ⟨rj, hrje⟩ : ∃ r, r = rs.getD j rgD := ⟨_, rfl⟩
          have hpj : pa = rj.2.2 := by rw [HPA.out, hrje]
          rw [← hre] at hcell hrk hLk hring
          rw [← hrje, ← hpj] at hcj hrkj
          have HK := Lib.hid hrk.1
          have HKJ := Lib.hid hrkj.1
          have HRK := Lib.hid hring
          have HLK := Lib.hid hLk
          obtain ⟨n2, hn⟩ : ∃ n, n = (shE pa r.2.2).length := ⟨_, rfl⟩
          have hn12 : n2 ≤ 1048576 := by have := shE_len pa r.2.2; have := (ring_facts HRJ.out).2.1; omega
          have HN := Lib.hid hn
          clear hre hrje hpj hrk hrkj hring hLk hn
          have HNB : Hid (nbB pa ((psOf rs).getD k []) = decide (0 < n2)) := Lib.hid (by unfold nbB; rw [HLK.out, ← HN.out])
          rcases Nat.eq_zero_or_pos n2 with hn2 | hn2
          · have HNO : Hid (nbTo (psOf rs) pa (k + 1) = nbTo (psOf rs) pa k) := Lib.hid (nbTo_no (by rw [HNB.out]; simp; omega))
            clear HNB
            subst hn2
            go_wp2
            go_region_held3 (fun w' => w'.cell? ⟨b, off + k, none⟩ = some (.slice r.1 r.2.2.length r.2.1) ∧ w'.cell? ⟨b, off + j, none⟩ = some (.slice rj.1 pa.length rj.2.1)) (first | go_keep | exact ⟨(hx7.cell b (off + k) hb).trans hcell, (hx7.cell b (off + j) hb).trans hcj⟩) (first | (go_at_call 78; refine (s_l17Shared _ _ _ _ pa r.2.2 _ (HKJ.out.ext (by (repeat (first | with_reducible exact Ext.refl _ | with_reducible assumption | ((with_reducible apply Src.ext); with_reducible assumption) | with_reducible refine Ext.alloc ?_ _ | with_reducible refine Ext.drew ?_ | with_reducible refine Ext.drewN ?_ _ | ((with_reducible refine Ext.setCell' ?_ ?_ _); solve | omega | simp | (simp; omega)) | (with_reducible refine Ext.trans ?_ (by with_reducible assumption)))))) (HK.out.ext (by (repeat (first | with_reducible exact Ext.refl _ | with_reducible assumption | ((with_reducible apply Src.ext); with_reducible assumption) | with_reducible refine Ext.alloc ?_ _ | with_reducible refine Ext.drew ?_ | with_reducible refine Ext.drewN ?_ _ | ((with_reducible refine Ext.setCell' ?_ ?_ _); solve | omega | simp | (simp; omega)) | (with_reducible refine Ext.trans ?_ (by with_reducible assumption)))))) HRJ.out HRK.out).mono ?_; rintro e w7 ⟨v7, rfl, hO7, hx7⟩; obtain ⟨A7, c7, rfl, hS7, _, _, _⟩ := hO7.sl len_encE; rw [← HN.out]; clear hO7 hS7; have hs7 := hx7.size; (try simp at hs7)))
            go_wp2
            go_roundw
            case rel => exact ⟨k + 1, by omega, by go_num, by rw [HNO.out]; exact Lib.hid (HV.out.ext (by (repeat (first | with_reducible exact Ext.refl _ | with_reducible assumption | ((with_reducible apply Src.ext); with_reducible assumption) | with_reducible refine Ext.alloc ?_ _ | with_reducible refine Ext.drew ?_ | with_reducible refine Ext.drewN ?_ _ | ((with_reducible refine Ext.setCell' ?_ ?_ _); solve | omega | simp | (simp; omega)) | (with_reducible refine Ext.trans ?_ (by with_reducible assumption)))))), by (repeat (first | with_reducible exact Ext.refl _ | with_reducible assumption | ((with_reducible apply Src.ext); with_reducible assumption) | with_reducible refine Ext.alloc ?_ _ | with_reducible refine Ext.drew ?_ | with_reducible refine Ext.drewN ?_ _ | ((with_reducible refine Ext.setCell' ?_ ?_ _); solve | omega | simp | (simp; omega)) | (with_reducible refine Ext.trans ?_ (by with_reducible assumption))))⟩
            case measure => simp [intOf]; omega
          · have HYE : Hid (nbTo (psOf rs) pa (k + 1) = nbTo (psOf rs) pa k ++ [(k : Int)]) := Lib.hid (nbTo_yes (by rw [HNB.out]; simp; omega))
            clear HNB
            go_wp2
            go_region_held3 (fun w' => w'.cell? ⟨b, off + k, none⟩ = some (.slice r.1 r.2.2.length r.2.1) ∧ w'.cell? ⟨b, off + j, none⟩ = some (.slice rj.1 pa.length rj.2.1)) (first | go_keep | exact ⟨(hx7.cell b (off + k) hb).trans hcell, (hx7.cell b (off + j) hb).trans hcj⟩) (first | (go_at_call 78; refine (s_l17Shared _ _ _ _ pa r.2.2 _ (HKJ.out.ext (by (repeat (first | with_reducible exact Ext.refl _ | with_reducible assumption | ((with_reducible apply Src.ext); with_reducible assumption) | with_reducible refine Ext.alloc ?_ _ | with_reducible refine Ext.drew ?_ | with_reducible refine Ext.drewN ?_ _ | ((with_reducible refine Ext.setCell' ?_ ?_ _); solve | omega | simp | (simp; omega)) | (with_reducible refine Ext.trans ?_ (by with_reducible assumption)))))) (HK.out.ext (by (repeat (first | with_reducible exact Ext.refl _ | with_reducible assumption | ((with_reducible apply Src.ext); with_reducible assumption) | with_reducible refine Ext.alloc ?_ _ | with_reducible refine Ext.drew ?_ | with_reducible refine Ext.drewN ?_ _ | ((with_reducible refine Ext.setCell' ?_ ?_ _); solve | omega | simp | (simp; omega)) | (with_reducible refine Ext.trans ?_ (by with_reducible assumption)))))) HRJ.out HRK.out).mono ?_; rintro e w7 ⟨v7, rfl, hO7, hx7⟩; obtain ⟨A7, c7, rfl, hS7, _, _, _⟩ := hO7.sl len_encE; rw [← HN.out]; clear hO7 hS7; have hs7 := hx7.size; (try simp at hs7)))
            go_wp2_with (at_builtin; refine wpList_append_sl elI len_encI one_encI rfl _ _ rfl rfl (HV.out.ext (by (repeat (first | with_reducible exact Ext.refl _ | with_reducible assumption | ((with_reducible apply Src.ext); with_reducible assumption) | with_reducible refine Ext.alloc ?_ _ | with_reducible refine Ext.drew ?_ | with_reducible refine Ext.drewN ?_ _ | ((with_reducible refine Ext.setCell' ?_ ?_ _); solve | omega | simp | (simp; omega)) | (with_reducible refine Ext.trans ?_ (by with_reducible assumption)))))) (xs := [(k : Int)]) rfl (blk_i1 (by (repeat (first | with_reducible assumption | ((with_reducible apply Blk.new); solve | simp | rfl) | with_reducible apply Blk.drew | with_reducible apply Blk.drewN | ((with_reducible apply Blk.far'); solve | omega | simp | (simp; omega)) | with_reducible apply Blk.set_ | with_reducible apply Blk.alloc | ((with_reducible apply Blk.ext'); with_reducible assumption) | ((with_reducible apply Blk.but'); (with_reducible assumption); solve | omega | (simp; omega)))))) (by have := HNL.out; simp; unfold maxLen; omega) (by have := HNL.out; simp; omega) (by first | omega | (simp; omega)) ?_)
            intro v' w5 hown hgrow _
            rw [← HYE.out] at hown
            have HV2 := Lib.hid hown
            have hx5 : Ext w1 w5 := by
              refine Ext.grown ?_ hgrow (fun q hq => (HV.out.row q hq).1)
              (repeat (first | with_reducible exact Ext.refl _ | with_reducible assumption | ((with_reducible apply Src.ext); with_reducible assumption) | with_reducible refine Ext.alloc ?_ _ | with_reducible refine Ext.drew ?_ | with_reducible refine Ext.drewN ?_ _ | ((with_reducible refine Ext.setCell' ?_ ?_ _); solve | omega | simp | (simp; omega)) | (with_reducible refine Ext.trans ?_ (by with_reducible assumption))))
            clear hown hgrow
            go_wp2
            go_roundw
            case rel => exact ⟨k + 1, by omega, by go_num, HV2, hx5⟩
            case measure => simp [intOf]; omega
      · obtain rfl : k = rs.length := by omega
        go_wp2
        go_ret2
        exact ⟨_, rfl, HV.out.less hx01.size, hx01.trans hxr⟩
  · have hle := arC_le (psOf rs) [a]
    obtain ⟨z, hze⟩ : ∃ z, z = nbC (psOf rs) a := ⟨_, rfl⟩
    rw [show nbP (psOf rs) a = [] by unfold nbP; rw [if_neg hz]]
    rw [← hze] at hz ⊢
    have HZ : Hid (arC (psOf rs) [a, a] = z) := Lib.hid ((arC_two _ _).trans hze.symm)
    have hzz : (z != 0) = true := by simpa using hz
    clear hze hle
    go_enter Try.func50, Try.ntmps50
    go_wp2_with fail
    refine (s_l17Code _ _ rs a a _ (h.ext (by (repeat (first | with_reducible exact Ext.refl _ | with_reducible assumption | ((with_reducible apply Src.ext); with_reducible assumption) | with_reducible refine Ext.alloc ?_ _ | with_reducible refine Ext.drew ?_ | with_reducible refine Ext.drewN ?_ _ | ((with_reducible refine Ext.setCell' ?_ ?_ _); solve | omega | simp | (simp; omega)) | (with_reducible refine Ext.trans ?_ (by with_reducible assumption)))))) (hr.ext (by (repeat (first | with_reducible exact Ext.refl _ | with_reducible assumption | ((with_reducible apply Src.ext); with_reducible assumption) | with_reducible refine Ext.alloc ?_ _ | with_reducible refine Ext.drew ?_ | with_reducible refine Ext.drewN ?_ _ | ((with_reducible refine Ext.setCell' ?_ ?_ _); solve | omega | simp | (simp; omega)) | (with_reducible refine Ext.trans ?_ (by with_reducible assumption)))))) hl).mono ?_
    rintro e w1 ⟨rfl, hx1⟩
    rw [HZ.out]
    go_wp2
    go_ret2
    exact ⟨_, rfl, Own.nil _ _, by (repeat (first | with_reducible exact Ext.refl _ | with_reducible assumption | ((with_reducible apply Src.ext); with_reducible assumption) | with_reducible refine Ext.alloc ?_ _ | with_reducible refine Ext.drew ?_ | with_reducible refine Ext.drewN ?_ _ | ((with_reducible refine Ext.setCell' ?_ ?_ _); solve | omega | simp | (simp; omega)) | (with_reducible refine Ext.trans ?_ (by with_reducible assumption))))⟩

set_option maxRecDepth 20000 in
set_option maxHeartbeats 12800000 in
theorem i_SharedEdges (A : Option Addr) (c : Nat) (rs : List Rg) (a b : Int) (w : World) (h : SlAt w 1 encR A rs) (hr : Rings w rs) (hl : rs.length ≤ 1048576) (hc : rs.length ≤ c) :
    Calls Try.prog 46 #[.slice A rs.length c, .int .i64 a, .int .i64 b] w fun e w' => ∃ v, e = .returned (.tuple #[v, .int .i64 (abC (psOf rs) a b)]) ∧ OwE w' w.heap.size v (seP (psOf rs) a b) ∧ Ext w w' := by
  by_cases hz : abC (psOf rs) a b = 0
  · obtain ⟨hm, hin⟩ := arC_zero.1 hz
    have ha := hin a (by simp)
    have hb := hin b (by simp)
    rw [psOf_len] at ha hb
    obtain ⟨j, rfl⟩ : ∃ j : Nat, a = (j : Int) := ⟨a.toNat, by omega⟩
    obtain ⟨i, rfl⟩ : ∃ j : Nat, b = (j : Int) := ⟨b.toNat, by omega⟩
    have hj : j < rs.length := by omega
    have hi : i < rs.length := by omega
    have hLj : (psOf rs).getD j [] = (rs.getD j rgD).2.2 := psOf_at hj
    have hLi : (psOf rs).getD i [] = (rs.getD i rgD).2.2 := psOf_at hi
    obtain ⟨pa, hpa⟩ : ∃ pa, pa = (rs.getD j rgD).2.2 := ⟨_, rfl⟩
    obtain ⟨pb, hpb⟩ : ∃ pa, pa = (rs.getD i rgD).2.2 := ⟨_, rfl⟩
    have hrj : ringB pa = true := by rw [hpa, ← hLj]; exact map_ring hm (by rw [psOf_len]; exact hj)
    have hri : ringB pb = true := by rw [hpb, ← hLi]; exact map_ring hm (by rw [psOf_len]; exact hi)
    rw [show seP (psOf rs) (j : Int) (i : Int) = shE pa pb by unfold seP; rw [if_pos hz, Int.toNat_natCast, Int.toNat_natCast, hLj, hLi, hpa, hpb], hz]
    have HZ := Lib.hid hz
    have HRJ := Lib.hid hrj
    have HRI := Lib.hid hri
    have HPA := Lib.hid hpa
    have HPB := Lib.hid hpb
    clear hz hm hin hrj hri hLj hLi hpa hpb ha hb
    go_enter Try.func46, Try.ntmps46
    go_wp2_with fail
    refine (i_areaCode _ _ _ 2 _ rs [(j : Int), (i : Int)] _ (h.ext (by (repeat (first | with_reducible exact Ext.refl _ | with_reducible assumption | ((with_reducible apply Src.ext); with_reducible assumption) | with_reducible refine Ext.alloc ?_ _ | with_reducible refine Ext.drew ?_ | with_reducible refine Ext.drewN ?_ _ | ((with_reducible refine Ext.setCell' ?_ ?_ _); solve | omega | simp | (simp; omega)) | (with_reducible refine Ext.trans ?_ (by with_reducible assumption)))))) (hr.ext (by (repeat (first | with_reducible exact Ext.refl _ | with_reducible assumption | ((with_reducible apply Src.ext); with_reducible assumption) | with_reducible refine Ext.alloc ?_ _ | with_reducible refine Ext.drew ?_ | with_reducible refine Ext.drewN ?_ _ | ((with_reducible refine Ext.setCell' ?_ ?_ _); solve | omega | simp | (simp; omega)) | (with_reducible refine Ext.trans ?_ (by with_reducible assumption)))))) hl hc (blk_i2 (by (repeat (first | with_reducible assumption | ((with_reducible apply Blk.new); solve | simp | rfl) | with_reducible apply Blk.drew | with_reducible apply Blk.drewN | ((with_reducible apply Blk.far'); solve | omega | simp | (simp; omega)) | with_reducible apply Blk.set_ | with_reducible apply Blk.alloc | ((with_reducible apply Blk.ext'); with_reducible assumption) | ((with_reducible apply Blk.but'); (with_reducible assumption); solve | omega | (simp; omega)))))) rfl (by omega)).mono ?_
    rintro e w1 ⟨rfl, hx1⟩
    rw [show arC (psOf rs) [(j : Int), (i : Int)] = 0 from HZ.out]
    have hx01 : Ext w w1 := by (repeat (first | with_reducible exact Ext.refl _ | with_reducible assumption | ((with_reducible apply Src.ext); with_reducible assumption) | with_reducible refine Ext.alloc ?_ _ | with_reducible refine Ext.drew ?_ | with_reducible refine Ext.drewN ?_ _ | ((with_reducible refine Ext.setCell' ?_ ?_ _); solve | omega | simp | (simp; omega)) | (with_reducible refine Ext.trans ?_ (by with_reducible assumption))))
    have hs1 := hx01.size
    obtain ⟨b, off, rfl, hb, hcj⟩ := (h.ext hx01).rg hj
    have hci := SlAt.rg' (h.ext hx01) hi
    have hrki := (hr.ext hx01) _ (rg_mem hi)
    have hrkj := (hr.ext hx01) _ (rg_mem hj)
    obtain ⟨ri, hrie⟩ : ∃ r, r = rs.getD i rgD := ⟨_, rfl⟩
    obtain ⟨rj, hrje⟩ : ∃ r, r = rs.getD j rgD := ⟨_, rfl⟩
    have hpj : pa = rj.2.2 := by rw [HPA.out, hrje]
    have hpi : pb = ri.2.2 := by rw [HPB.out, hrie]
    rw [← hrie, ← hpi] at hci hrki
    rw [← hrje, ← hpj] at hcj hrkj
    have HKI := Lib.hid hrki.1
    have HKJ := Lib.hid hrkj.1
    clear hrie hrje hpj hpi hrki hrkj hx1
    go_wp2
    go_region_held3 (fun w' => w'.cell? ⟨b, off + j, none⟩ = some (.slice rj.1 pa.length rj.2.1) ∧ w'.cell? ⟨b, off + i, none⟩ = some (.slice ri.1 pb.length ri.2.1)) (first | go_keep | exact ⟨(hx7.cell b (off + j) hb).trans hcj, (hx7.cell b (off + i) hb).trans hci⟩) (first | (go_at_call 84; refine (i_parted _ _ _ _ pa pb _ (HKJ.out.ext (by (repeat (first | with_reducible exact Ext.refl _ | with_reducible assumption | ((with_reducible apply Src.ext); with_reducible assumption) | with_reducible refine Ext.alloc ?_ _ | with_reducible refine Ext.drew ?_ | with_reducible refine Ext.drewN ?_ _ | ((with_reducible refine Ext.setCell' ?_ ?_ _); solve | omega | simp | (simp; omega)) | (with_reducible refine Ext.trans ?_ (by with_reducible assumption)))))) (HKI.out.ext (by (repeat (first | with_reducible exact Ext.refl _ | with_reducible assumption | ((with_reducible apply Src.ext); with_reducible assumption) | with_reducible refine Ext.alloc ?_ _ | with_reducible refine Ext.drew ?_ | with_reducible refine Ext.drewN ?_ _ | ((with_reducible refine Ext.setCell' ?_ ?_ _); solve | omega | simp | (simp; omega)) | (with_reducible refine Ext.trans ?_ (by with_reducible assumption)))))) HRJ.out HRI.out).mono ?_; rintro e w7 ⟨v7, u7, rfl, hO7, _, _, hx7⟩; have hs7 := hx7.size; (try simp at hs7)))
    have HV := Lib.hid hO7
    clear hO7
    go_wp2
    go_ret2
    exact ⟨_, rfl, HV.out.less (Ext.size (by (repeat (first | with_reducible exact Ext.refl _ | with_reducible assumption | ((with_reducible apply Src.ext); with_reducible assumption) | with_reducible refine Ext.alloc ?_ _ | with_reducible refine Ext.drew ?_ | with_reducible refine Ext.drewN ?_ _ | ((with_reducible refine Ext.setCell' ?_ ?_ _); solve | omega | simp | (simp; omega)) | (with_reducible refine Ext.trans ?_ (by with_reducible assumption)))))), by (repeat (first | with_reducible exact Ext.refl _ | with_reducible assumption | ((with_reducible apply Src.ext); with_reducible assumption) | with_reducible refine Ext.alloc ?_ _ | with_reducible refine Ext.drew ?_ | with_reducible refine Ext.drewN ?_ _ | ((with_reducible refine Ext.setCell' ?_ ?_ _); solve | omega | simp | (simp; omega)) | (with_reducible refine Ext.trans ?_ (by with_reducible assumption))))⟩
  · have hle := arC_le (psOf rs) [a, b]
    obtain ⟨z, hze⟩ : ∃ z, z = abC (psOf rs) a b := ⟨_, rfl⟩
    rw [show seP (psOf rs) a b = [] by unfold seP; rw [if_neg hz]]
    rw [← hze] at hz ⊢
    have HZ : Hid (arC (psOf rs) [a, b] = z) := Lib.hid hze.symm
    have hzz : (z != 0) = true := by simpa using hz
    clear hze hle
    go_enter Try.func46, Try.ntmps46
    go_wp2_with fail
    refine (i_areaCode _ _ _ 2 _ rs [a, b] _ (h.ext (by (repeat (first | with_reducible exact Ext.refl _ | with_reducible assumption | ((with_reducible apply Src.ext); with_reducible assumption) | with_reducible refine Ext.alloc ?_ _ | with_reducible refine Ext.drew ?_ | with_reducible refine Ext.drewN ?_ _ | ((with_reducible refine Ext.setCell' ?_ ?_ _); solve | omega | simp | (simp; omega)) | (with_reducible refine Ext.trans ?_ (by with_reducible assumption)))))) (hr.ext (by (repeat (first | with_reducible exact Ext.refl _ | with_reducible assumption | ((with_reducible apply Src.ext); with_reducible assumption) | with_reducible refine Ext.alloc ?_ _ | with_reducible refine Ext.drew ?_ | with_reducible refine Ext.drewN ?_ _ | ((with_reducible refine Ext.setCell' ?_ ?_ _); solve | omega | simp | (simp; omega)) | (with_reducible refine Ext.trans ?_ (by with_reducible assumption)))))) hl hc (blk_i2 (by (repeat (first | with_reducible assumption | ((with_reducible apply Blk.new); solve | simp | rfl) | with_reducible apply Blk.drew | with_reducible apply Blk.drewN | ((with_reducible apply Blk.far'); solve | omega | simp | (simp; omega)) | with_reducible apply Blk.set_ | with_reducible apply Blk.alloc | ((with_reducible apply Blk.ext'); with_reducible assumption) | ((with_reducible apply Blk.but'); (with_reducible assumption); solve | omega | (simp; omega)))))) rfl (by omega)).mono ?_
    rintro e w1 ⟨rfl, hx1⟩
    rw [HZ.out]
    go_wp2
    go_ret2
    exact ⟨_, rfl, Own.nil _ _, by (repeat (first | with_reducible exact Ext.refl _ | with_reducible assumption | ((with_reducible apply Src.ext); with_reducible assumption) | with_reducible refine Ext.alloc ?_ _ | with_reducible refine Ext.drew ?_ | with_reducible refine Ext.drewN ?_ _ | ((with_reducible refine Ext.setCell' ?_ ?_ _); solve | omega | simp | (simp; omega)) | (with_reducible refine Ext.trans ?_ (by with_reducible assumption))))⟩

set_option maxRecDepth 20000 in
set_option maxHeartbeats 12800000 in
theorem s_SharedEdges (A : Option Addr) (c : Nat) (rs : List Rg) (a b : Int) (w : World) (h : SlAt w 1 encR A rs) (hr : Rings w rs) (hl : rs.length ≤ 1048576) :
    Calls Try.prog 47 #[.slice A rs.length c, .int .i64 a, .int .i64 b] w fun e w' => ∃ v, e = .returned (.tuple #[v, .int .i64 (abC (psOf rs) a b)]) ∧ OwE w' w.heap.size v (seP (psOf rs) a b) ∧ Ext w w' := by
  by_cases hz : abC (psOf rs) a b = 0
  · obtain ⟨hm, hin⟩ := arC_zero.1 hz
    have ha := hin a (by simp)
    have hb := hin b (by simp)
    rw [psOf_len] at ha hb
    obtain ⟨j, rfl⟩ : ∃ j : Nat, a = (j : Int) := ⟨a.toNat, by omega⟩
    obtain ⟨i, rfl⟩ : ∃ j : Nat, b = (j : Int) := ⟨b.toNat, by omega⟩
    have hj : j < rs.length := by omega
    have hi : i < rs.length := by omega
    have hLj : (psOf rs).getD j [] = (rs.getD j rgD).2.2 := psOf_at hj
    have hLi : (psOf rs).getD i [] = (rs.getD i rgD).2.2 := psOf_at hi
    obtain ⟨pa, hpa⟩ : ∃ pa, pa = (rs.getD j rgD).2.2 := ⟨_, rfl⟩
    obtain ⟨pb, hpb⟩ : ∃ pa, pa = (rs.getD i rgD).2.2 := ⟨_, rfl⟩
    have hrj : ringB pa = true := by rw [hpa, ← hLj]; exact map_ring hm (by rw [psOf_len]; exact hj)
    have hri : ringB pb = true := by rw [hpb, ← hLi]; exact map_ring hm (by rw [psOf_len]; exact hi)
    rw [show seP (psOf rs) (j : Int) (i : Int) = shE pa pb by unfold seP; rw [if_pos hz, Int.toNat_natCast, Int.toNat_natCast, hLj, hLi, hpa, hpb], hz]
    have HZ := Lib.hid hz
    have HRJ := Lib.hid hrj
    have HRI := Lib.hid hri
    have HPA := Lib.hid hpa
    have HPB := Lib.hid hpb
    clear hz hm hin hrj hri hLj hLi hpa hpb ha hb
    go_enter Try.func47, Try.ntmps47
    go_wp2_with fail
    refine (s_l17Code _ _ rs (j : Int) (i : Int) _ (h.ext (by (repeat (first | with_reducible exact Ext.refl _ | with_reducible assumption | ((with_reducible apply Src.ext); with_reducible assumption) | with_reducible refine Ext.alloc ?_ _ | with_reducible refine Ext.drew ?_ | with_reducible refine Ext.drewN ?_ _ | ((with_reducible refine Ext.setCell' ?_ ?_ _); solve | omega | simp | (simp; omega)) | (with_reducible refine Ext.trans ?_ (by with_reducible assumption)))))) (hr.ext (by (repeat (first | with_reducible exact Ext.refl _ | with_reducible assumption | ((with_reducible apply Src.ext); with_reducible assumption) | with_reducible refine Ext.alloc ?_ _ | with_reducible refine Ext.drew ?_ | with_reducible refine Ext.drewN ?_ _ | ((with_reducible refine Ext.setCell' ?_ ?_ _); solve | omega | simp | (simp; omega)) | (with_reducible refine Ext.trans ?_ (by with_reducible assumption)))))) hl).mono ?_
    rintro e w1 ⟨rfl, hx1⟩
    rw [show arC (psOf rs) [(j : Int), (i : Int)] = 0 from HZ.out]
    have hx01 : Ext w w1 := by (repeat (first | with_reducible exact Ext.refl _ | with_reducible assumption | ((with_reducible apply Src.ext); with_reducible assumption) | with_reducible refine Ext.alloc ?_ _ | with_reducible refine Ext.drew ?_ | with_reducible refine Ext.drewN ?_ _ | ((with_reducible refine Ext.setCell' ?_ ?_ _); solve | omega | simp | (simp; omega)) | (with_reducible refine Ext.trans ?_ (by with_reducible assumption))))
    have hs1 := hx01.size
    obtain ⟨b, off, rfl, hb, hcj⟩ := (h.ext hx01).rg hj
    have hci := SlAt.rg' (h.ext hx01) hi
    have hrki := (hr.ext hx01) _ (rg_mem hi)
    have hrkj := (hr.ext hx01) _ (rg_mem hj)
    obtain ⟨ri, hrie⟩ : ∃ r, r = rs.getD i rgD := ⟨_, rfl⟩
    obtain ⟨rj, hrje⟩ : ∃ r, r = rs.getD j rgD := ⟨_, rfl⟩
    have hpj : pa = rj.2.2 := by rw [HPA.out, hrje]
    have hpi : pb = ri.2.2 := by rw [HPB.out, hrie]
    rw [← hrie, ← hpi] at hci hrki
    rw [← hrje, ← hpj] at hcj hrkj
    have HKI := Lib.hid hrki.1
    have HKJ := Lib.hid hrkj.1
    clear hrie hrje hpj hpi hrki hrkj hx1
    by_cases hji : j = i
    · have heq : ((j : Int) == (i : Int)) = true := by simp [hji]
      have hnil : shE pa pb = [] := by
        have : pb = pa := by rw [HPA.out, HPB.out, hji]
        rw [this]; exact shE_self HRJ.out
      have HV0 := Lib.hid (World.ownsRow_made (base := w.heap.size) (e := 58) (size := 4) w1 #[] 0 hs1 (Nat.zero_le _) rfl : OwE _ w.heap.size _ ([] : List Ed))
      have HNIL := Lib.hid hnil
      clear hnil
      go_wp2
      go_ret2
      exact ⟨_, rfl, by rw [HNIL.out]; exact HV0.out, by (repeat (first | with_reducible exact Ext.refl _ | with_reducible assumption | ((with_reducible apply Src.ext); with_reducible assumption) | with_reducible refine Ext.alloc ?_ _ | with_reducible refine Ext.drew ?_ | with_reducible refine Ext.drewN ?_ _ | ((with_reducible refine Ext.setCell' ?_ ?_ _); solve | omega | simp | (simp; omega)) | (with_reducible refine Ext.trans ?_ (by with_reducible assumption))))⟩
    · have hne : ((j : Int) == (i : Int)) = false := by simp; omega
      go_wp2
      go_region_held3 (fun w' => w'.cell? ⟨b, off + j, none⟩ = some (.slice rj.1 pa.length rj.2.1) ∧ w'.cell? ⟨b, off + i, none⟩ = some (.slice ri.1 pb.length ri.2.1)) (first | go_keep | exact ⟨(hx7.cell b (off + j) hb).trans hcj, (hx7.cell b (off + i) hb).trans hci⟩) (first | (go_at_call 78; refine (s_l17Shared _ _ _ _ pa pb _ (HKJ.out.ext (by (repeat (first | with_reducible exact Ext.refl _ | with_reducible assumption | ((with_reducible apply Src.ext); with_reducible assumption) | with_reducible refine Ext.alloc ?_ _ | with_reducible refine Ext.drew ?_ | with_reducible refine Ext.drewN ?_ _ | ((with_reducible refine Ext.setCell' ?_ ?_ _); solve | omega | simp | (simp; omega)) | (with_reducible refine Ext.trans ?_ (by with_reducible assumption)))))) (HKI.out.ext (by (repeat (first | with_reducible exact Ext.refl _ | with_reducible assumption | ((with_reducible apply Src.ext); with_reducible assumption) | with_reducible refine Ext.alloc ?_ _ | with_reducible refine Ext.drew ?_ | with_reducible refine Ext.drewN ?_ _ | ((with_reducible refine Ext.setCell' ?_ ?_ _); solve | omega | simp | (simp; omega)) | (with_reducible refine Ext.trans ?_ (by with_reducible assumption)))))) HRJ.out HRI.out).mono ?_; rintro e w7 ⟨v7, rfl, hO7, hx7⟩; have hs7 := hx7.size; (try simp at hs7)))
      have HV := Lib.hid hO7
      clear hO7
      go_wp2
      go_ret2
      exact ⟨_, rfl, HV.out.less (Ext.size (by (repeat (first | with_reducible exact Ext.refl _ | with_reducible assumption | ((with_reducible apply Src.ext); with_reducible assumption) | with_reducible refine Ext.alloc ?_ _ | with_reducible refine Ext.drew ?_ | with_reducible refine Ext.drewN ?_ _ | ((with_reducible refine Ext.setCell' ?_ ?_ _); solve | omega | simp | (simp; omega)) | (with_reducible refine Ext.trans ?_ (by with_reducible assumption)))))), by (repeat (first | with_reducible exact Ext.refl _ | with_reducible assumption | ((with_reducible apply Src.ext); with_reducible assumption) | with_reducible refine Ext.alloc ?_ _ | with_reducible refine Ext.drew ?_ | with_reducible refine Ext.drewN ?_ _ | ((with_reducible refine Ext.setCell' ?_ ?_ _); solve | omega | simp | (simp; omega)) | (with_reducible refine Ext.trans ?_ (by with_reducible assumption))))⟩
  · have hle := arC_le (psOf rs) [a, b]
    obtain ⟨z, hze⟩ : ∃ z, z = abC (psOf rs) a b := ⟨_, rfl⟩
    rw [show seP (psOf rs) a b = [] by unfold seP; rw [if_neg hz]]
    rw [← hze] at hz ⊢
    have HZ : Hid (arC (psOf rs) [a, b] = z) := Lib.hid hze.symm
    have hzz : (z != 0) = true := by simpa using hz
    clear hze hle
    go_enter Try.func47, Try.ntmps47
    go_wp2_with fail
    refine (s_l17Code _ _ rs a b _ (h.ext (by (repeat (first | with_reducible exact Ext.refl _ | with_reducible assumption | ((with_reducible apply Src.ext); with_reducible assumption) | with_reducible refine Ext.alloc ?_ _ | with_reducible refine Ext.drew ?_ | with_reducible refine Ext.drewN ?_ _ | ((with_reducible refine Ext.setCell' ?_ ?_ _); solve | omega | simp | (simp; omega)) | (with_reducible refine Ext.trans ?_ (by with_reducible assumption)))))) (hr.ext (by (repeat (first | with_reducible exact Ext.refl _ | with_reducible assumption | ((with_reducible apply Src.ext); with_reducible assumption) | with_reducible refine Ext.alloc ?_ _ | with_reducible refine Ext.drew ?_ | with_reducible refine Ext.drewN ?_ _ | ((with_reducible refine Ext.setCell' ?_ ?_ _); solve | omega | simp | (simp; omega)) | (with_reducible refine Ext.trans ?_ (by with_reducible assumption)))))) hl).mono ?_
    rintro e w1 ⟨rfl, hx1⟩
    rw [HZ.out]
    go_wp2
    go_ret2
    exact ⟨_, rfl, Own.nil _ _, by (repeat (first | with_reducible exact Ext.refl _ | with_reducible assumption | ((with_reducible apply Src.ext); with_reducible assumption) | with_reducible refine Ext.alloc ?_ _ | with_reducible refine Ext.drew ?_ | with_reducible refine Ext.drewN ?_ _ | ((with_reducible refine Ext.setCell' ?_ ?_ _); solve | omega | simp | (simp; omega)) | (with_reducible refine Ext.trans ?_ (by with_reducible assumption))))⟩

end Go.Proofs.Yteppjdoggjcdoaa
