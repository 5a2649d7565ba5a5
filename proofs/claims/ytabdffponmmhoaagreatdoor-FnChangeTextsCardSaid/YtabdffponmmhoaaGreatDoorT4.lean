/- Plain laws of texts that are joined and split again; of the text of a change. Contracts of changes read, walked over the translation. Reading a change, walked over the translation: plain laws, the specification. -/
import Derived.Test.YtabdffponmmhoaaGreatDoorT1
import Derived.Test.YtabdffponmmhoaaGreatDoorT3
import Derived.Deep.RegionHeld3
import Derived.Deep.DeepCutAuto
import Derived.RegionTactic
import Derived.BigRegion
import Derived.WalkLawsBesides
import Derived.WalkSpells
import Derived.Lib.MinMax
import Derived.Outline
namespace Go.Proofs.YtabdffponmmhoaaGreatDoor

theorem jn_two (x y : List UInt8) (r : List (List UInt8)) (c : UInt8) : jn (x :: y :: r) [c] = x ++ c :: jn (y :: r) [c] := by
  show Lib.join (x :: y :: r) [c] = x ++ c :: Lib.join (y :: r) [c]
  rw [Lib.join_cons, Lib.join_cons]
  unfold Lib.joinTail
  simp
/-- words without the byte between them: joined, then split: the words -/
theorem sp_jn {c : UInt8} : ∀ {L : List (List UInt8)}, L ≠ [] → (∀ x ∈ L, c ∉ x) → sp c (jn L [c]) = L
  | [], h, _ => absurd rfl h
  | [x], _, h => by
    rw [show jn [x] [c] = x from Lib.join_one x [c]]
    exact sp_free (h x (List.mem_singleton.2 rfl))
  | x :: y :: r, _, h => by
    rw [jn_two, sp_cut _ (h x (List.mem_cons_self ..)), sp_jn (by simp) fun z hz => h z (List.mem_cons_of_mem _ hz)]
/-- split, then joined: the text -/
theorem jn_sp (c : UInt8) : ∀ l : List UInt8, jn (sp c l) [c] = l
  | [] => Lib.join_one [] [c]
  | b :: l => by
    have ih := jn_sp c l
    rw [sp]
    rcases hs : sp c l with _ | ⟨x, r⟩
    · exact absurd hs (sp_ne c l)
    · rw [hs] at ih
      by_cases hb : b = c
      · rw [if_pos hb, jn_two, ih, hb]; rfl
      · rw [if_neg hb]
        show jn ((b :: x) :: r) [c] = b :: l
        rw [← ih]
        show Lib.join ((b :: x) :: r) [c] = b :: Lib.join (x :: r) [c]
        rw [Lib.join_cons, Lib.join_cons]
        rfl
theorem sp_bytes {c b : UInt8} {l : List UInt8} (h : b ∈ l) : b = c ∨ ∃ x ∈ sp c l, b ∈ x := by
  induction l with
  | nil => cases h
  | cons a l ih =>
    rw [sp]
    by_cases ha : a = c
    · rw [if_pos ha]
      rcases List.mem_cons.1 h with e | e
      · exact .inl (e.trans ha)
      · rcases ih e with e | ⟨x, hx, hb⟩
        · exact .inl e
        · exact .inr ⟨x, List.mem_cons_of_mem _ hx, hb⟩
    · rw [if_neg ha]
      rcases hs : sp c l with _ | ⟨x, r⟩
      · exact absurd hs (sp_ne c l)
      · rcases List.mem_cons.1 h with e | e
        · exact .inr ⟨a :: x, List.mem_cons_self .., by rw [e]; exact List.mem_cons_self ..⟩
        · rcases ih e with e | ⟨y, hy, hb⟩
          · exact .inl e
          · rw [hs] at hy
            rcases List.mem_cons.1 hy with rfl | hy
            · exact .inr ⟨a :: y, List.mem_cons_self .., List.mem_cons_of_mem _ hb⟩
            · exact .inr ⟨y, List.mem_cons_of_mem _ hy, hb⟩
theorem sm_free {l : List UInt8} {lo hi : Int} {b : UInt8} (h : smL l lo hi = true) (hl : lowB b = false) : b ∉ l := fun hb => by
  unfold smL at h
  rw [Bool.and_eq_true] at h
  have := List.all_eq_true.1 h.2 b hb
  rw [hl] at this
  cases this
theorem ph_free {l : List UInt8} {b : UInt8} (h : phB l = true) (hb : b ≠ 32) (hl : lowB b = false) : b ∉ l := fun hm => by
  unfold phB at h
  rw [Bool.and_eq_true] at h
  rcases sp_bytes (c := 32) hm with e | ⟨x, hx, hbx⟩
  · exact hb e
  · exact sm_free (List.all_eq_true.1 h.2 x hx) hl hbx
/-- "." read as nothing -/
def frB (s : ByteArray) : ByteArray := if s.data.toList = [46] then ⟨#[]⟩ else s
theorem fr_dt {s : ByteArray} (h : s.data.toList ≠ [46]) : frB (dtB s) = s := by
  unfold dtB
  rw [ByteArray.toList_eq]
  rcases hs : s.data.toList with _ | ⟨a, r⟩
  · simp only [List.isEmpty_nil, if_true]
    unfold frB
    rw [if_pos rfl]
    exact (eq_tx hs).symm ▸ rfl
  · simp only [List.isEmpty_cons, Bool.false_eq_true, if_false]
    unfold frB
    rw [if_neg h]
theorem dt_free {s : ByteArray} {b : UInt8} (h : b ∉ s.data.toList) (hb : b ≠ 46) : b ∉ (dtB s).data.toList := by
  unfold dtB
  split
  · simpa using hb
  · exact h
theorem chB_free {b : UInt8} {y k : Int} {co ot la te : ByteArray} (hl : lowB b = false) (hb : b ≠ 32) (h : chB y k co ot la te = true) :
    b ∉ co.data.toList ∧ b ∉ ot.data.toList ∧ b ∉ la.data.toList ∧ b ∉ te.data.toList := by
  unfold chB at h
  simp only [Bool.and_eq_true] at h
  obtain ⟨_, _, hco, hot, hlt⟩ := h
  have emp : ∀ s : ByteArray, s.toList.isEmpty = true → b ∉ s.data.toList := fun s e => by
    rw [ByteArray.toList_eq] at e
    rw [List.isEmpty_iff.1 e]
    simp
  refine ⟨?_, ?_, ?_⟩
  · rw [smB_list] at hco
    exact sm_free hco hl
  · split at hot
    · rw [Bool.and_eq_true, smB_list] at hot
      exact sm_free hot.1 hl
    · exact emp _ hot
  · split at hlt
    · rw [Bool.and_eq_true] at hlt
      exact ⟨sm_free hlt.1 hl, ph_free hlt.2 hb hl⟩
    · rw [Bool.and_eq_true] at hlt
      exact ⟨emp _ hlt.1, emp _ hlt.2⟩
theorem sp_chT {y k : Int} {co ot la te : ByteArray} (h : chB y k co ot la te = true) : sp 47 (chT y k co ot la te) = chL y k co ot la te := by
  obtain ⟨h1, h2, h3, h4⟩ := chB_free (b := 47) (by decide) (by decide) h
  refine sp_jn (by simp [chL]) fun x hx => ?_
  simp only [chL, List.mem_cons, List.not_mem_nil, or_false] at hx
  rcases hx with rfl | rfl | rfl | rfl | rfl | rfl
  · exact itoa_free (by decide) (by decide)
  · exact itoa_free (by decide) (by decide)
  · exact h1
  · exact dt_free h2 (by decide)
  · exact dt_free h3 (by decide)
  · exact dt_free h4 (by decide)
theorem data_inj {a b : ByteArray} (h : a.data.toList = b.data.toList) : a = b := by rw [eq_tx h]; rfl
/-- valid changes of one text are one -/
theorem chT_inj {y k : Int} {co ot la te : ByteArray} {y' k' : Int} {co' ot' la' te' : ByteArray} (h : chB y k co ot la te = true) (h' : chB y' k' co' ot' la' te' = true) (e : chT y k co ot la te = chT y' k' co' ot' la' te') :
    y = y' ∧ k = k' ∧ co = co' ∧ ot = ot' ∧ la = la' ∧ te = te' := by
  have e2 := (sp_chT h).symm.trans ((congrArg (sp 47) e).trans (sp_chT h'))
  simp only [chL, List.cons.injEq, and_true] at e2
  obtain ⟨a1, a2, a3, a4, a5, a6⟩ := e2
  obtain ⟨_, n1, n2, n3⟩ := chB_free (b := 46) (by decide) (by decide) h
  obtain ⟨_, m1, m2, m3⟩ := chB_free (b := 46) (by decide) (by decide) h'
  have dot : ∀ s : ByteArray, (46 : UInt8) ∉ s.data.toList → s.data.toList ≠ [46] := fun s hs e => hs (by rw [e]; exact List.mem_singleton.2 rfl)
  refine ⟨itoa_inj a1, itoa_inj a2, data_inj a3, ?_, ?_, ?_⟩
  · rw [← fr_dt (dot _ n1), data_inj a4, fr_dt (dot _ m1)]
  · rw [← fr_dt (dot _ n2), data_inj a5, fr_dt (dot _ m2)]
  · rw [← fr_dt (dot _ n3), data_inj a6, fr_dt (dot _ m3)]
/-- a change's six fields -/
structure Chg where
  y : Int
  k : Int
  co : ByteArray
  ot : ByteArray
  la : ByteArray
  te : ByteArray
open Classical in
/-- the change that a text spells -/
noncomputable def rdCh (l : List UInt8) : Option Chg := if h : ∃ p : Chg, chB p.y p.k p.co p.ot p.la p.te = true ∧ l = chT p.y p.k p.co p.ot p.la p.te then some h.choose else none
theorem rdCh_yes {l : List UInt8} {p : Chg} (h : chB p.y p.k p.co p.ot p.la p.te = true) (e : l = chT p.y p.k p.co p.ot p.la p.te) : rdCh l = some p := by
  have hx : ∃ p : Chg, chB p.y p.k p.co p.ot p.la p.te = true ∧ l = chT p.y p.k p.co p.ot p.la p.te := ⟨p, h, e⟩
  unfold rdCh
  rw [dif_pos hx]
  obtain ⟨e1, e2, e3, e4, e5, e6⟩ := chT_inj hx.choose_spec.1 h (hx.choose_spec.2.symm.trans e)
  generalize hx.choose = q at *
  cases p
  cases q
  simp only at e1 e2 e3 e4 e5 e6
  subst e1 e2 e3 e4 e5 e6
  rfl
theorem rdCh_no {l : List UInt8} (h : ∀ p : Chg, chB p.y p.k p.co p.ot p.la p.te = true → l ≠ chT p.y p.k p.co p.ot p.la p.te) : rdCh l = none := by
  unfold rdCh
  rw [dif_neg]
  rintro ⟨p, h1, h2⟩
  exact h p h1 h2
end Go.Proofs.YtabdffponmmhoaaGreatDoor
namespace Go.Proofs.YtabdffponmmhoaaGreatDoor
open Go.RowKit
attribute [local go_sem] ExtOf.cell ExtOf.frozen

open Go.PlainAid
theorem chg_parts {l : List UInt8} {L : List (List UInt8)} (hL : sp 47 l = L) {p : Chg} (h : chB p.y p.k p.co p.ot p.la p.te = true) (e : l = chT p.y p.k p.co p.ot p.la p.te) : L = chL p.y p.k p.co p.ot p.la p.te := by
  rw [← hL, e, sp_chT h]
theorem frB_tx {s : ByteArray} {q : List UInt8} (h : (46 : UInt8) ∉ s.data.toList) (e : q = (dtB s).data.toList) : frB (tx q) = s := by
  rw [e, tx_data, fr_dt (fun e => h (by rw [e]; exact List.mem_singleton.2 rfl))]
theorem chB_year {y k : Int} {co ot la te : ByteArray} (h : chB y k co ot la te = true) : -9999 ≤ y ∧ y ≤ 9999 := by
  unfold chB at h
  rw [Bool.and_eq_true] at h
  have h1 := h.1
  simp [inB] at h1
  omega
theorem chg_none {l p0 p1 p2 p3 p4 p5 : List UInt8} {v k : Int} (hL : sp 47 l = [p0, p1, p2, p3, p4, p5]) (hv : ∀ y, -9999 ≤ y → y ≤ 9999 → p0 = Lib.itoa y → v = y) (hk : ∀ y, 0 ≤ y → y ≤ 3 → p1 = Lib.itoa y → k = y)
    (hn : ¬ (chB v k (tx p2) (frB (tx p3)) (frB (tx p4)) (frB (tx p5)) = true ∧ l = chT v k (tx p2) (frB (tx p3)) (frB (tx p4)) (frB (tx p5)))) : rdCh l = none := by
  refine rdCh_no fun p hp e => hn ?_
  have hpt := chg_parts hL hp e
  simp only [chL, List.cons.injEq, and_true] at hpt
  obtain ⟨a1, a2, a3, a4, a5, a6⟩ := hpt
  obtain ⟨_, n1, n2⟩ := chB_facts hp
  obtain ⟨y0, y1⟩ := chB_year hp
  obtain ⟨_, m1, m2, m3⟩ := chB_free (b := 46) (by decide) (by decide) hp
  rw [hv _ y0 y1 a1, hk _ n1 n2 a2, ← eq_tx a3.symm, frB_tx m1 a4, frB_tx m2 a5, frB_tx m3 a6]
  exact ⟨hp, e⟩
theorem chg_none0 {l p0 p1 p2 p3 p4 p5 : List UInt8} (hL : sp 47 l = [p0, p1, p2, p3, p4, p5]) (hv : ∀ y, -9999 ≤ y → y ≤ 9999 → p0 ≠ Lib.itoa y) : rdCh l = none :=
  rdCh_no fun p hp e => by
    have hpt := chg_parts hL hp e
    simp only [chL, List.cons.injEq, and_true] at hpt
    exact hv _ (chB_year hp).1 (chB_year hp).2 hpt.1
theorem chg_none1 {l p0 p1 p2 p3 p4 p5 : List UInt8} (hL : sp 47 l = [p0, p1, p2, p3, p4, p5]) (hv : ∀ y, 0 ≤ y → y ≤ 3 → p1 ≠ Lib.itoa y) : rdCh l = none :=
  rdCh_no fun p hp e => by
    have hpt := chg_parts hL hp e
    simp only [chL, List.cons.injEq, and_true] at hpt
    exact hv _ (chB_facts hp).2.1 (chB_facts hp).2.2 hpt.2.1
theorem chg_none6 {l : List UInt8} (h : (sp 47 l).length ≠ 6) : rdCh l = none :=
  rdCh_no fun p hp e => h (by rw [e, sp_chT hp]; rfl)
theorem s_l13Read (s : ByteArray) (w : World) : Calls Tryz.prog 56 #[.string s] w fun e w' => e = .returned (.string (frB s)) ∧ Ext w w' := by
  by_cases h : s.data.toList = [46]
  · rw [show frB s = ⟨#[]⟩ by unfold frB; rw [if_pos h]]
    obtain rfl : s = ⟨#[46]⟩ := eq_tx h
    go_enter Tryz.func56, Tryz.ntmps56
    go_wp2
    go_ret
    exact ⟨rfl, by (repeat (first | with_reducible exact Ext.refl _ | with_reducible assumption | ((with_reducible apply Src.ext); with_reducible assumption) | with_reducible refine Ext.alloc ?_ _ | with_reducible refine Ext.drew ?_ | with_reducible refine Ext.drewN ?_ _ | ((with_reducible refine Ext.setCell' ?_ ?_ _); solve | omega | simp | (simp; omega)) | (with_reducible refine Ext.trans ?_ (by with_reducible assumption))))⟩
  · rw [show frB s = s by unfold frB; rw [if_neg h]]
    have hne : (s.toList == [46]) = false := by rw [ByteArray.toList_eq]; exact beq_eq_false_iff_ne.2 h
    go_enter Tryz.func56, Tryz.ntmps56
    go_wp2
    go_ret
    exact ⟨rfl, by (repeat (first | with_reducible exact Ext.refl _ | with_reducible assumption | ((with_reducible apply Src.ext); with_reducible assumption) | with_reducible refine Ext.alloc ?_ _ | with_reducible refine Ext.drew ?_ | with_reducible refine Ext.drewN ?_ _ | ((with_reducible refine Ext.setCell' ?_ ?_ _); solve | omega | simp | (simp; omega)) | (with_reducible refine Ext.trans ?_ (by with_reducible assumption))))⟩
theorem i_fromDot (s : ByteArray) (w : World) : Calls Tryz.prog 52 #[.string s] w fun e w' => e = .returned (.string (frB s)) ∧ Ext w w' := by
  by_cases h : s.data.toList = [46]
  · rw [show frB s = ⟨#[]⟩ by unfold frB; rw [if_pos h]]
    obtain rfl : s = ⟨#[46]⟩ := eq_tx h
    go_enter Tryz.func52, Tryz.ntmps52
    go_wp2
    go_ret
    exact ⟨rfl, by (repeat (first | with_reducible exact Ext.refl _ | with_reducible assumption | ((with_reducible apply Src.ext); with_reducible assumption) | with_reducible refine Ext.alloc ?_ _ | with_reducible refine Ext.drew ?_ | with_reducible refine Ext.drewN ?_ _ | ((with_reducible refine Ext.setCell' ?_ ?_ _); solve | omega | simp | (simp; omega)) | (with_reducible refine Ext.trans ?_ (by with_reducible assumption))))⟩
  · rw [show frB s = s by unfold frB; rw [if_neg h]]
    have hne : (s.toList == [46]) = false := by rw [ByteArray.toList_eq]; exact beq_eq_false_iff_ne.2 h
    go_enter Tryz.func52, Tryz.ntmps52
    go_wp2
    go_ret
    exact ⟨rfl, by (repeat (first | with_reducible exact Ext.refl _ | with_reducible assumption | ((with_reducible apply Src.ext); with_reducible assumption) | with_reducible refine Ext.alloc ?_ _ | with_reducible refine Ext.drew ?_ | with_reducible refine Ext.drewN ?_ _ | ((with_reducible refine Ext.setCell' ?_ ?_ _); solve | omega | simp | (simp; omega)) | (with_reducible refine Ext.trans ?_ (by with_reducible assumption))))⟩

end Go.Proofs.YtabdffponmmhoaaGreatDoor
namespace Go.Proofs.YtabdffponmmhoaaGreatDoor
open Go.RowKit
attribute [local go_sem] ExtOf.cell ExtOf.frozen

open Go.PlainAid
/-- six fields in a block -/
theorem ret_chg {P : Program} {fn : Func} {R : Ending → World → Prop} {a : Act} {W : World} {b0 : Nat} {t : TypeId} {x0 x1 x2 x3 x4 x5 v : Value} (h0 : Blk W b0 t #[x0, x1, x2, x3, x4, x5]) (hd : a.defers = [])
    (hres : ∀ W' : World, W'.cell? ⟨b0, 0, none⟩ = some x0 → W'.cell? ⟨b0, 1, none⟩ = some x1 → W'.cell? ⟨b0, 2, none⟩ = some x2 → W'.cell? ⟨b0, 3, none⟩ = some x3 → W'.cell? ⟨b0, 4, none⟩ = some x4 → W'.cell? ⟨b0, 5, none⟩ = some x5 → (results fn a.tmps).run P W' = .ok v W') (hR : R (.returned v) W) : bodyPost P fn R .ret a W :=
  bodyPost_ret (hres W (h0.cell 0) (h0.cell 1) (h0.cell 2) (h0.cell 3) (h0.cell 4) (h0.cell 5)) hd hR
theorem six_s {l p0 p1 p2 p3 p4 p5 : List UInt8} {v : Int} {k : Nat} {b1 b2 : Bool} (hL : sp 47 l = [p0, p1, p2, p3, p4, p5]) (h1 : RdI (tx p0) v b1) (h2 : RdN (tx p1) k b2)
    (hn : ¬ (b1 = true ∧ b2 = true ∧ chB v k (tx p2) (frB (tx p3)) (frB (tx p4)) (frB (tx p5)) = true ∧ l = chT v k (tx p2) (frB (tx p3)) (frB (tx p4)) (frB (tx p5)))) : rdCh l = none := by
  cases b1 with
  | false => exact chg_none0 hL fun y a b e => h1.no rfl y (by omega) (by omega) (by rw [tx_list]; exact e)
  | true =>
    cases b2 with
    | false => exact chg_none1 hL fun y a b e => h2.no rfl y.natAbs (by omega) (by rw [tx_list, e, itoa_nat (by omega)])
    | true =>
      refine chg_none hL (fun y a b e => ?_) (fun y a b e => ?_) fun h => hn ⟨rfl, rfl, h⟩
      · have := h1.yes rfl
        rw [tx_list, e] at this
        exact (itoa_inj this).symm
      · have := h2.yes rfl
        rw [tx_list, e] at this
        refine (itoa_inj (this.trans ?_)).symm
        rw [itoa_nat (by omega)]
        congr 1
theorem six_i {l p0 p1 p2 p3 p4 p5 : List UInt8} {v k : Int} {b1 b2 : Bool} (hL : sp 47 l = [p0, p1, p2, p3, p4, p5]) (h1 : RdJ (tx p0) v b1) (h2 : RdJ (tx p1) k b2)
    (hn : ¬ (chB v k (tx p2) (frB (tx p3)) (frB (tx p4)) (frB (tx p5)) = true ∧ l = chT v k (tx p2) (frB (tx p3)) (frB (tx p4)) (frB (tx p5)))) : rdCh l = none := by
  cases b1 with
  | false => exact chg_none0 hL fun y a b e => h1.no rfl y (by unfold Num; omega) (by rw [tx_list]; exact e)
  | true =>
    cases b2 with
    | false => exact chg_none1 hL fun y a b e => h2.no rfl y (by unfold Num; omega) (by rw [tx_list, e])
    | true =>
      refine chg_none hL (fun y a b e => ?_) (fun y a b e => ?_) hn
      · have := h1.yes rfl
        rw [tx_list, e] at this
        exact (itoa_inj this).symm
      · have := h2.yes rfl
        rw [tx_list, e] at this
        exact (itoa_inj this).symm
/-- no change -/
def chg0 : Chg := ⟨0, 0, ⟨#[]⟩, ⟨#[]⟩, ⟨#[]⟩, ⟨#[]⟩⟩
/-- the change that a text spells, or none; and the code -/
noncomputable def rcR (l : List UInt8) : Chg := (rdCh l).getD chg0
noncomputable def rcC (l : List UInt8) : Int := if (rdCh l).isSome then 0 else 6
theorem frB_size {s : ByteArray} {m : Nat} (h : s.size ≤ m) : (frB s).size ≤ m := by
  unfold frB
  split
  · exact Nat.zero_le _
  · exact h

set_option maxRecDepth 20000 in
set_option maxHeartbeats 12800000 in
theorem s_ReadChange (s : ByteArray) (w : World) (hs : s.size ≤ 1048576) :
    Calls Tryz.prog 25 #[.string s] w fun e w' => e = .returned (.tuple #[.agg #[.int .i64 (rcR s.data.toList).y, .int .i64 (rcR s.data.toList).k, .string (rcR s.data.toList).co, .string (rcR s.data.toList).ot, .string (rcR s.data.toList).la, .string (rcR s.data.toList).te], .int .i64 (rcC s.data.toList)]) ∧ Ext w w' := by
  have hsz := size_list s
  have HS := Lib.hid fun W => s_l01Split s 47 W hs
  have hg := fun k => sp_getD 47 s.data.toList k
  have hq := sp_len_le 47 s.data.toList
  have HX : Hid (∀ r, rdCh s.data.toList = r → (rcR s.data.toList).y = (r.getD chg0).y ∧ (rcR s.data.toList).k = (r.getD chg0).k ∧ (rcR s.data.toList).co = (r.getD chg0).co ∧ (rcR s.data.toList).ot = (r.getD chg0).ot ∧ (rcR s.data.toList).la = (r.getD chg0).la ∧ (rcR s.data.toList).te = (r.getD chg0).te ∧ rcC s.data.toList = if r.isSome then 0 else 6) := Lib.hid fun r hr => by unfold rcR rcC; rw [hr]; exact ⟨rfl, rfl, rfl, rfl, rfl, rfl, rfl⟩
  generalize (rcR s.data.toList).y = qy at *
  generalize (rcR s.data.toList).k = qk at *
  generalize (rcR s.data.toList).co = q2 at *
  generalize (rcR s.data.toList).ot = q3 at *
  generalize (rcR s.data.toList).la = q4 at *
  generalize (rcR s.data.toList).te = q5 at *
  generalize rcC s.data.toList = qc at *
  obtain ⟨l, hl⟩ : ∃ l, l = s.data.toList := ⟨_, rfl⟩
  have HLL := Lib.hid hl
  rw [← hl] at HS hg hq HX hsz
  obtain ⟨L, hL⟩ : ∃ L, L = sp 47 l := ⟨_, rfl⟩
  rw [← hL] at HS hg hq
  have HG : Hid (∀ k, (L.getD k []).length ≤ 1048576) := Lib.hid fun k => by have := hg k; omega
  have HLS := Lib.hid hL
  by_cases h6 : L.length = 6
  · obtain ⟨p0, p1, p2, p3, p4, p5, rfl⟩ : ∃ p0 p1 p2 p3 p4 p5, L = [p0, p1, p2, p3, p4, p5] := by
      match L, h6 with
      | [p0, p1, p2, p3, p4, p5], _ => exact ⟨p0, p1, p2, p3, p4, p5, rfl⟩
    have z0 : (tx p0).size ≤ 1048576 := by rw [tx_size]; exact HG.out 0
    have z1 : (tx p1).size ≤ 1048576 := by rw [tx_size]; exact HG.out 1
    have z2 : (tx p2).size ≤ 1048576 := by rw [tx_size]; exact HG.out 2
    have z3 : (tx p3).size ≤ 1048576 := by rw [tx_size]; exact HG.out 3
    have z4 : (tx p4).size ≤ 1048576 := by rw [tx_size]; exact HG.out 4
    have z5 : (tx p5).size ≤ 1048576 := by rw [tx_size]; exact HG.out 5
    have H1 := Lib.hid fun W => s_l01Signed (tx p0) W z0
    have H2 := Lib.hid fun W => s_l01Value (tx p1) W z1
    have H3 := Lib.hid (s_l13Read (tx p3))
    have H4 := Lib.hid (s_l13Read (tx p4))
    have H5 := Lib.hid (s_l13Read (tx p5))
    have HF := Lib.hid fun v (k : Nat) b1 b2 => @six_s l p0 p1 p2 p3 p4 p5 v k b1 b2 hL.symm
    have HI := Lib.hid fun (v k : Int) W => s_IsChange v k (tx p2) (frB (tx p3)) (frB (tx p4)) (frB (tx p5)) W z2 (frB_size z3) (frB_size z4) (frB_size z5)
    have HT := Lib.hid fun (v k : Int) W a b c => s_l13Text v k (tx p2) (frB (tx p3)) (frB (tx p4)) (frB (tx p5)) W a b c z2 (frB_size z3) (frB_size z4) (frB_size z5)
    generalize frB (tx p3) = f3 at *
    generalize frB (tx p4) = f4 at *
    generalize frB (tx p5) = f5 at *
    clear hl hg hq hL h6 z0 z1 z2 z3 z4 z5 HG HLS hsz
    go_enter Tryz.func25, Tryz.ntmps25
    go_wp2_with fail
    refine (HS.out _).mono ?_
    rintro e w1 ⟨v, rfl, hO, hx1⟩
    obtain ⟨A, c', rfl, hS1, _, _, _⟩ := hO.sl len_encS
    obtain ⟨g, off, rfl, hgl, d0⟩ := hS1.st (k := 0) (by simp)
    clear hO HS
    have d1 := SlAt.st' hS1 (k := 1) (by simp)
    have d2 := SlAt.st' hS1 (k := 2) (by simp)
    have d3 := SlAt.st' hS1 (k := 3) (by simp)
    have d4 := SlAt.st' hS1 (k := 4) (by simp)
    have d5 := SlAt.st' hS1 (k := 5) (by simp)
    simp at d0 d1 d2 d3 d4 d5
    obtain ⟨hc1, hf1⟩ := hx1.rules
    have hs1 := hx1.size
    (try simp at hs1)
    clear hS1
    simp only [List.length_cons, List.length_nil]
    have := (show w.heap.size < w1.heap.size from by omega)
    go_wp2_with fail
    refine (H1.out _).mono ?_
    rintro e w2 ⟨⟨v, b1, rfl, hr1⟩, hx2⟩
    have HR1 := Lib.hid hr1
    clear hr1
    obtain ⟨hc2, hf2⟩ := hx2.rules
    have hs2 := hx2.size
    (try simp at hs2)
    have := (show w.heap.size < w2.heap.size from by omega)
    have := (show g < w2.heap.size from by omega)
    go_wp2_with fail
    refine (H2.out _).mono ?_
    rintro e w3 ⟨⟨k, b2, rfl, hr2⟩, hx3⟩
    have HN := Lib.hid (HF.out v k b1 b2 HR1.out hr2)
    clear hr2 HF
    obtain ⟨hc3, hf3⟩ := hx3.rules
    have hs3 := hx3.size
    (try simp at hs3)
    have := (show w.heap.size < w3.heap.size from by omega)
    have := (show g < w3.heap.size from by omega)
    have HK : Hid (∀ W, Ext w1 W → W.cell? ⟨g, off + 2, none⟩ = some (.string (tx p2)) ∧ W.cell? ⟨g, off + 3, none⟩ = some (.string (tx p3)) ∧ W.cell? ⟨g, off + 4, none⟩ = some (.string (tx p4)) ∧ W.cell? ⟨g, off + 5, none⟩ = some (.string (tx p5))) := Lib.hid fun W hx => ⟨(hx.cell _ _ hgl).trans d2, (hx.cell _ _ hgl).trans d3, (hx.cell _ _ hgl).trans d4, (hx.cell _ _ hgl).trans d5⟩
    go_upto_region 6 with (fail)
    go_cut [9] (fun p wx => ∃ b9 : Nat, p = .pointer (some ⟨b9, 0, none⟩) ∧ Blk wx b9 47 #[.int .i64 v, .int .i64 k, .string (tx p2), .string f3, .string f4, .string f5] ∧ Ext w3 wx)
    case first =>
      go_region_held3 (fun w' => w'.cell? ⟨g, off + 2, none⟩ = some (.string (tx p2)) ∧ w'.cell? ⟨g, off + 3, none⟩ = some (.string (tx p3)) ∧ w'.cell? ⟨g, off + 4, none⟩ = some (.string (tx p4)) ∧ w'.cell? ⟨g, off + 5, none⟩ = some (.string (tx p5))) (first | exact HK.out _ (by (repeat (first | with_reducible exact Ext.refl _ | with_reducible assumption | ((with_reducible apply Src.ext); with_reducible assumption) | with_reducible refine Ext.alloc ?_ _ | with_reducible refine Ext.drew ?_ | with_reducible refine Ext.drewN ?_ _ | ((with_reducible refine Ext.setCell' ?_ ?_ _); solve | omega | simp | (simp; omega)) | (with_reducible refine Ext.trans ?_ (by with_reducible assumption))))) | go_keep) (first | ((go_at_call 56; refine (H3.out _).mono ?_; rintro e wa ⟨rfl, hxa⟩; obtain ⟨hca, hfa⟩ := hxa.rules; have hsa := hxa.size; (try simp at hsa); (try have := (show w3.heap.size < wa.heap.size from by omega)))) | ((go_at_call 56; refine (H4.out _).mono ?_; rintro e wb ⟨rfl, hxb⟩; obtain ⟨hcb, hfb⟩ := hxb.rules; have hsb := hxb.size; (try simp at hsb); (try have := (show w3.heap.size < wb.heap.size from by omega)); (try have := (show wa.heap.size < wb.heap.size from by omega)))) | ((go_at_call 56; refine (H5.out _).mono ?_; rintro e wd ⟨rfl, hxd⟩; obtain ⟨hcd, hfd⟩ := hxd.rules; have hsd := hxd.size; (try simp at hsd); (try have := (show w3.heap.size < wd.heap.size from by omega)); (try have := (show wa.heap.size < wd.heap.size from by omega)); (try have := (show wb.heap.size < wd.heap.size from by omega)))))
      all_goals (go_wp2_with fail; go_meet; exact ⟨_, rfl, Blk.eq (by (repeat (first | with_reducible assumption | ((with_reducible apply Blk.new); solve | simp | rfl) | with_reducible apply Blk.drew | with_reducible apply Blk.drewN | ((with_reducible apply Blk.far'); solve | omega | simp | (simp; omega)) | with_reducible apply Blk.set_ | with_reducible apply Blk.alloc | ((with_reducible apply Blk.ext'); with_reducible assumption) | ((with_reducible apply Blk.but'); (with_reducible assumption); solve | omega | (simp; omega))))) (by rfl), by (repeat (first | with_reducible exact Ext.refl _ | with_reducible assumption | ((with_reducible apply Src.ext); with_reducible assumption) | with_reducible refine Ext.alloc ?_ _ | with_reducible refine Ext.drew ?_ | with_reducible refine Ext.drewN ?_ _ | ((with_reducible refine Ext.setCell' ?_ ?_ _); solve | omega | simp | (simp; omega)) | (with_reducible refine Ext.trans ?_ (by with_reducible assumption))))⟩)
    case rest =>
    obtain ⟨b9, rfl, hB9, hxc⟩ := hcut
    have e0 : wc.cell? ⟨b9, 0, none⟩ = some (.int .i64 v) := hB9.cell 0
    have e1 : wc.cell? ⟨b9, 1, none⟩ = some (.int .i64 k) := hB9.cell 1
    have e2 : wc.cell? ⟨b9, 2, none⟩ = some (.string (tx p2)) := hB9.cell 2
    have e3 : wc.cell? ⟨b9, 3, none⟩ = some (.string f3) := hB9.cell 3
    have e4 : wc.cell? ⟨b9, 4, none⟩ = some (.string f4) := hB9.cell 4
    have e5 : wc.cell? ⟨b9, 5, none⟩ = some (.string f5) := hB9.cell 5
    have z9 := hB9.lt
    obtain ⟨hcc, hfc⟩ := hxc.rules
    have hsc := hxc.size
    have := (show w.heap.size < wc.heap.size from by omega)
    have HIv := Lib.hid (HI.out v k)
    have HTv := Lib.hid (HT.out v k)
    clear HI HT H1 H2 H3 H4 H5
    cases b1 with
    | false =>
      have HNO := Lib.hid (HN.out (fun h => by cases h.1))
      have HQ := Lib.hid (HX.out _ HNO.out)
      clear HX HN
      go_wp2
      refine ret_chg (b0 := w.heap.size) (t := 47) (v := .tuple #[.agg #[.int .i64 0, .int .i64 0, .string ⟨#[]⟩, .string ⟨#[]⟩, .string ⟨#[]⟩, .string ⟨#[]⟩], .int .i64 6]) (Blk.eq (by (repeat (first | with_reducible assumption | ((with_reducible apply Blk.new); solve | simp | rfl) | with_reducible apply Blk.drew | with_reducible apply Blk.drewN | ((with_reducible apply Blk.far'); solve | omega | simp | (simp; omega)) | with_reducible apply Blk.set_ | with_reducible apply Blk.alloc | ((with_reducible apply Blk.ext'); with_reducible assumption) | ((with_reducible apply Blk.but'); (with_reducible assumption); solve | omega | (simp; omega))))) (by rfl)) rfl (by intro W' r0 r1 r2 r3 r4 r5; simp [results, Tryz.results25, go_sem, r0, r1, r2, r3, r4, r5]) ?_
      obtain ⟨g1, g2, g3, g4, g5, g6, g7⟩ := HQ.out
      exact ⟨by rw [g1, g2, g3, g4, g5, g6, g7]; rfl, by (repeat (first | with_reducible exact Ext.refl _ | with_reducible assumption | ((with_reducible apply Src.ext); with_reducible assumption) | with_reducible refine Ext.alloc ?_ _ | with_reducible refine Ext.drew ?_ | with_reducible refine Ext.drewN ?_ _ | ((with_reducible refine Ext.setCell' ?_ ?_ _); solve | omega | simp | (simp; omega)) | (with_reducible refine Ext.trans ?_ (by with_reducible assumption))))⟩
    | true =>
      cases b2 with
      | false =>
        have HNO := Lib.hid (HN.out (fun h => by cases h.2.1))
        have HQ := Lib.hid (HX.out _ HNO.out)
        clear HX HN
        go_wp2
        refine ret_chg (b0 := w.heap.size) (t := 47) (v := .tuple #[.agg #[.int .i64 0, .int .i64 0, .string ⟨#[]⟩, .string ⟨#[]⟩, .string ⟨#[]⟩, .string ⟨#[]⟩], .int .i64 6]) (Blk.eq (by (repeat (first | with_reducible assumption | ((with_reducible apply Blk.new); solve | simp | rfl) | with_reducible apply Blk.drew | with_reducible apply Blk.drewN | ((with_reducible apply Blk.far'); solve | omega | simp | (simp; omega)) | with_reducible apply Blk.set_ | with_reducible apply Blk.alloc | ((with_reducible apply Blk.ext'); with_reducible assumption) | ((with_reducible apply Blk.but'); (with_reducible assumption); solve | omega | (simp; omega))))) (by rfl)) rfl (by intro W' r0 r1 r2 r3 r4 r5; simp [results, Tryz.results25, go_sem, r0, r1, r2, r3, r4, r5]) ?_
        obtain ⟨g1, g2, g3, g4, g5, g6, g7⟩ := HQ.out
        exact ⟨by rw [g1, g2, g3, g4, g5, g6, g7]; rfl, by (repeat (first | with_reducible exact Ext.refl _ | with_reducible assumption | ((with_reducible apply Src.ext); with_reducible assumption) | with_reducible refine Ext.alloc ?_ _ | with_reducible refine Ext.drew ?_ | with_reducible refine Ext.drewN ?_ _ | ((with_reducible refine Ext.setCell' ?_ ?_ _); solve | omega | simp | (simp; omega)) | (with_reducible refine Ext.trans ?_ (by with_reducible assumption))))⟩
      | true =>
        cases hb : chB v k (tx p2) f3 f4 f5 with
        | false =>
          rw [hb] at HIv
          have HNO := Lib.hid (HN.out (fun h => by obtain ⟨_, _, h, _⟩ := h; rw [hb] at h; cases h))
          have HQ := Lib.hid (HX.out _ HNO.out)
          clear HX HN
          clear hb
          go_wp2_with fail
          refine (HIv.out _).mono ?_
          rintro e w5 ⟨rfl, hx5⟩
          obtain ⟨hc5, hf5⟩ := hx5.rules
          have hs5 := hx5.size
          (try simp at hs5)
          have := (show w.heap.size < w5.heap.size from by omega)
          go_wp2
          refine ret_chg (b0 := w.heap.size) (t := 47) (v := .tuple #[.agg #[.int .i64 0, .int .i64 0, .string ⟨#[]⟩, .string ⟨#[]⟩, .string ⟨#[]⟩, .string ⟨#[]⟩], .int .i64 6]) (Blk.eq (by (repeat (first | with_reducible assumption | ((with_reducible apply Blk.new); solve | simp | rfl) | with_reducible apply Blk.drew | with_reducible apply Blk.drewN | ((with_reducible apply Blk.far'); solve | omega | simp | (simp; omega)) | with_reducible apply Blk.set_ | with_reducible apply Blk.alloc | ((with_reducible apply Blk.ext'); with_reducible assumption) | ((with_reducible apply Blk.but'); (with_reducible assumption); solve | omega | (simp; omega))))) (by rfl)) rfl (by intro W' r0 r1 r2 r3 r4 r5; simp [results, Tryz.results25, go_sem, r0, r1, r2, r3, r4, r5]) ?_
          obtain ⟨g1, g2, g3, g4, g5, g6, g7⟩ := HQ.out
          exact ⟨by rw [g1, g2, g3, g4, g5, g6, g7]; rfl, by (repeat (first | with_reducible exact Ext.refl _ | with_reducible assumption | ((with_reducible apply Src.ext); with_reducible assumption) | with_reducible refine Ext.alloc ?_ _ | with_reducible refine Ext.drew ?_ | with_reducible refine Ext.drewN ?_ _ | ((with_reducible refine Ext.setCell' ?_ ?_ _); solve | omega | simp | (simp; omega)) | (with_reducible refine Ext.trans ?_ (by with_reducible assumption))))⟩
        | true =>
          rw [hb] at HIv
          obtain ⟨n1, n2, n3⟩ := chB_facts hb
          by_cases hst : l = chT v k (tx p2) f3 f4 f5
          · have HY := Lib.hid (rdCh_yes (p := ⟨v, k, tx p2, f3, f4, f5⟩) hb hst)
            have hst2 : ((tx (chT v k (tx p2) f3 f4 f5)).toList == s.toList) = true := same_text.2 (eq_tx (HLL.out.symm.trans hst)).symm
            have HQ := Lib.hid (HX.out _ HY.out)
            have HTT := Lib.hid fun W => HTv.out W n1 n2 n3
            generalize chT v k (tx p2) f3 f4 f5 = tt at *
            clear hst HX HN HY hb
            go_wp2_with fail
            refine (HIv.out _).mono ?_
            rintro e w5 ⟨rfl, hx5⟩
            obtain ⟨hc5, hf5⟩ := hx5.rules
            have hs5 := hx5.size
            (try simp at hs5)
            have := (show w.heap.size < w5.heap.size from by omega)
            have := (show b9 < w5.heap.size from by omega)
            go_wp2_with fail
            refine (HTT.out _).mono ?_
            rintro e w6 ⟨rfl, hx6⟩
            obtain ⟨hc6, hf6⟩ := hx6.rules
            have hs6 := hx6.size
            (try simp at hs6)
            have := (show w.heap.size < w6.heap.size from by omega)
            have := (show b9 < w6.heap.size from by omega)
            go_wp2
            refine ret_chg (b0 := w.heap.size) (t := 47) (v := .tuple #[.agg #[.int .i64 v, .int .i64 k, .string (tx p2), .string f3, .string f4, .string f5], .int .i64 0]) (Blk.eq (by (repeat (first | with_reducible assumption | ((with_reducible apply Blk.new); solve | simp | rfl) | with_reducible apply Blk.drew | with_reducible apply Blk.drewN | ((with_reducible apply Blk.far'); solve | omega | simp | (simp; omega)) | with_reducible apply Blk.set_ | with_reducible apply Blk.alloc | ((with_reducible apply Blk.ext'); with_reducible assumption) | ((with_reducible apply Blk.but'); (with_reducible assumption); solve | omega | (simp; omega))))) (by rfl)) rfl (by intro W' r0 r1 r2 r3 r4 r5; simp [results, Tryz.results25, go_sem, r0, r1, r2, r3, r4, r5]) ?_
            obtain ⟨g1, g2, g3, g4, g5, g6, g7⟩ := HQ.out
            exact ⟨by rw [g1, g2, g3, g4, g5, g6, g7]; rfl, by (repeat (first | with_reducible exact Ext.refl _ | with_reducible assumption | ((with_reducible apply Src.ext); with_reducible assumption) | with_reducible refine Ext.alloc ?_ _ | with_reducible refine Ext.drew ?_ | with_reducible refine Ext.drewN ?_ _ | ((with_reducible refine Ext.setCell' ?_ ?_ _); solve | omega | simp | (simp; omega)) | (with_reducible refine Ext.trans ?_ (by with_reducible assumption))))⟩
          · have HNO := Lib.hid (HN.out (fun h => hst h.2.2.2))
            have hst2 : ((tx (chT v k (tx p2) f3 f4 f5)).toList == s.toList) = false := Bool.eq_false_iff.2 fun h => hst (HLL.out.trans (by rw [← same_text.1 h, tx_list]))
            have HQ := Lib.hid (HX.out _ HNO.out)
            have HTT := Lib.hid fun W => HTv.out W n1 n2 n3
            generalize chT v k (tx p2) f3 f4 f5 = tt at *
            clear hst HX HN hb
            go_wp2_with fail
            refine (HIv.out _).mono ?_
            rintro e w5 ⟨rfl, hx5⟩
            obtain ⟨hc5, hf5⟩ := hx5.rules
            have hs5 := hx5.size
            (try simp at hs5)
            have := (show w.heap.size < w5.heap.size from by omega)
            have := (show b9 < w5.heap.size from by omega)
            go_wp2_with fail
            refine (HTT.out _).mono ?_
            rintro e w6 ⟨rfl, hx6⟩
            obtain ⟨hc6, hf6⟩ := hx6.rules
            have hs6 := hx6.size
            (try simp at hs6)
            have := (show w.heap.size < w6.heap.size from by omega)
            have := (show b9 < w6.heap.size from by omega)
            go_wp2
            refine ret_chg (b0 := w.heap.size) (t := 47) (v := .tuple #[.agg #[.int .i64 0, .int .i64 0, .string ⟨#[]⟩, .string ⟨#[]⟩, .string ⟨#[]⟩, .string ⟨#[]⟩], .int .i64 6]) (Blk.eq (by (repeat (first | with_reducible assumption | ((with_reducible apply Blk.new); solve | simp | rfl) | with_reducible apply Blk.drew | with_reducible apply Blk.drewN | ((with_reducible apply Blk.far'); solve | omega | simp | (simp; omega)) | with_reducible apply Blk.set_ | with_reducible apply Blk.alloc | ((with_reducible apply Blk.ext'); with_reducible assumption) | ((with_reducible apply Blk.but'); (with_reducible assumption); solve | omega | (simp; omega))))) (by rfl)) rfl (by intro W' r0 r1 r2 r3 r4 r5; simp [results, Tryz.results25, go_sem, r0, r1, r2, r3, r4, r5]) ?_
            obtain ⟨g1, g2, g3, g4, g5, g6, g7⟩ := HQ.out
            exact ⟨by rw [g1, g2, g3, g4, g5, g6, g7]; rfl, by (repeat (first | with_reducible exact Ext.refl _ | with_reducible assumption | ((with_reducible apply Src.ext); with_reducible assumption) | with_reducible refine Ext.alloc ?_ _ | with_reducible refine Ext.drew ?_ | with_reducible refine Ext.drewN ?_ _ | ((with_reducible refine Ext.setCell' ?_ ?_ _); solve | omega | simp | (simp; omega)) | (with_reducible refine Ext.trans ?_ (by with_reducible assumption))))⟩
  · have hne : ((L.length : Int) != 6) = true := by simp; omega
    have HNO : Hid (rdCh l = none) := Lib.hid (chg_none6 (by rw [← hL]; exact h6))
    have HQ := Lib.hid (HX.out _ HNO.out)
    obtain ⟨n, hn⟩ : ∃ n, n = L.length := ⟨_, rfl⟩
    rw [← hn] at hne
    have HN := Lib.hid hn
    clear hn hl hg hq hL h6 HG hsz HLS HX
    go_enter Tryz.func25, Tryz.ntmps25
    go_wp2_with fail
    refine (HS.out _).mono ?_
    rintro e w1 ⟨v, rfl, hO, hx1⟩
    obtain ⟨A, c', rfl, hS1, _, _, _⟩ := hO.sl len_encS
    rw [← HN.out]
    obtain ⟨hc1, hf1⟩ := hx1.rules
    have hs1 := hx1.size
    (try simp at hs1)
    have := (show w.heap.size < w1.heap.size from by omega)
    go_wp2
    refine ret_chg (b0 := w.heap.size) (t := 47) (v := .tuple #[.agg #[.int .i64 0, .int .i64 0, .string ⟨#[]⟩, .string ⟨#[]⟩, .string ⟨#[]⟩, .string ⟨#[]⟩], .int .i64 6]) (Blk.eq (by (repeat (first | with_reducible assumption | ((with_reducible apply Blk.new); solve | simp | rfl) | with_reducible apply Blk.drew | with_reducible apply Blk.drewN | ((with_reducible apply Blk.far'); solve | omega | simp | (simp; omega)) | with_reducible apply Blk.set_ | with_reducible apply Blk.alloc | ((with_reducible apply Blk.ext'); with_reducible assumption) | ((with_reducible apply Blk.but'); (with_reducible assumption); solve | omega | (simp; omega))))) (by rfl)) rfl (by intro W' r0 r1 r2 r3 r4 r5; simp [results, Tryz.results25, go_sem, r0, r1, r2, r3, r4, r5]) ?_
    obtain ⟨g1, g2, g3, g4, g5, g6, g7⟩ := HQ.out
    exact ⟨by rw [g1, g2, g3, g4, g5, g6, g7]; rfl, by (repeat (first | with_reducible exact Ext.refl _ | with_reducible assumption | ((with_reducible apply Src.ext); with_reducible assumption) | with_reducible refine Ext.alloc ?_ _ | with_reducible refine Ext.drew ?_ | with_reducible refine Ext.drewN ?_ _ | ((with_reducible refine Ext.setCell' ?_ ?_ _); solve | omega | simp | (simp; omega)) | (with_reducible refine Ext.trans ?_ (by with_reducible assumption))))⟩

end Go.Proofs.YtabdffponmmhoaaGreatDoor
