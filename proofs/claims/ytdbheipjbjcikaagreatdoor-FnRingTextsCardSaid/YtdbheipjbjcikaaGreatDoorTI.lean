/- Reading a point: the specification and the law, walked over the translation. -/
import Derived.Test.YtdbheipjbjcikaaGreatDoorTH
import Derived.Deep.RegionHeld3
import Derived.Deep.DeepCutAuto
import Derived.RegionTactic
import Derived.BigRegion
import Derived.WalkLawsBesides
import Derived.WalkSpells
import Derived.Lib.MinMax
import Derived.Outline
namespace Go.Proofs.YtdbheipjbjcikaaGreatDoor
open Go.RowKit
attribute [local go_sem] ExtOf.cell ExtOf.frozen

open Go.PlainAid
theorem sp_one {c : UInt8} : ∀ {l p : List UInt8}, sp c l = [p] → l = p
  | [], p, h => by simp only [sp, List.cons.injEq, and_true] at h; exact h
  | b :: l, p, h => by
    rw [sp] at h
    by_cases hb : b = c
    · rw [if_pos hb] at h
      exact absurd (List.cons.inj h).2 (sp_ne c l)
    · rw [if_neg hb] at h
      rcases hs : sp c l with _ | ⟨x, r⟩
      · exact absurd hs (sp_ne c l)
      · rw [hs] at h
        simp only [List.cons.injEq] at h
        rw [← h.1, sp_one (l := l) (p := x) (by rw [hs, h.2])]
theorem sp_pair {c : UInt8} : ∀ {l p q : List UInt8}, sp c l = [p, q] → l = p ++ c :: q
  | [], p, q, h => by simp [sp] at h
  | b :: l, p, q, h => by
    rw [sp] at h
    by_cases hb : b = c
    · rw [if_pos hb] at h
      simp only [List.cons.injEq] at h
      rw [← h.1, hb, sp_one h.2]
      rfl
    · rw [if_neg hb] at h
      rcases hs : sp c l with _ | ⟨x, r⟩
      · exact absurd hs (sp_ne c l)
      · rw [hs] at h
        simp only [List.cons.injEq] at h
        rw [← h.1, List.cons_append, ← sp_pair (l := l) (p := x) (q := q) (by rw [hs, h.2])]
theorem l_eqPoint_same (x z : Int) (w : World) : Calls Tryz.prog 154 #[.agg #[.int .i64 x, .int .i64 z], .agg #[.int .i64 x, .int .i64 z]] w fun e w' => e = .returned (.bool true) ∧ Ext w w' := by
  have := l_eqPoint x z x z w
  rwa [show eqP x z x z = true by simp [eqP]] at this
/-- both parts of a text hold numbers -/
theorem two_facts {l p q : List UInt8} {v1 v2 : Int} {b1 b2 : Bool} (hl : sp 58 l = [p, q]) (h1 : RdI (tx p) v1 b1) (h2 : RdI (tx q) v2 b2) :
    ((b1 = true ∧ b2 = true ∧ okP v1 v2 = true) → l = ptT v1 v2) ∧ (¬ (b1 = true ∧ b2 = true ∧ okP v1 v2 = true) → rdP l = none) := by
  constructor
  · rintro ⟨e1, e2, ho⟩
    have y1 := h1.yes e1
    have y2 := h2.yes e2
    rw [tx_list] at y1 y2
    rw [sp_pair hl, y1, y2]; rfl
  · intro hn
    refine rdP_no fun x z ho e => hn ?_
    have hb : (-9999999999999 ≤ x ∧ x ≤ 9999999999999) ∧ -9999999999999 ≤ z ∧ z ≤ 9999999999999 := by
      have := ho
      simp [okP, inB] at this
      omega
    rw [e, sp_ptT] at hl
    simp only [List.cons.injEq, and_true] at hl
    rw [← hl.1] at h1
    rw [← hl.2] at h2
    have e1 : b1 = true := by
      cases b1 with
      | true => rfl
      | false => exact absurd (tx_list _) (h1.no rfl x hb.1.1 hb.1.2)
    have e2 : b2 = true := by
      cases b2 with
      | true => rfl
      | false => exact absurd (tx_list _) (h2.no rfl z hb.2.1 hb.2.2)
    have i1 := itoa_inj ((tx_list _).symm.trans (h1.yes e1))
    have i2 := itoa_inj ((tx_list _).symm.trans (h2.yes e2))
    refine ⟨e1, e2, ?_⟩
    rw [← i1, ← i2]
    exact ho
set_option maxRecDepth 20000 in
set_option maxHeartbeats 6400000 in
theorem s_ReadPoint (s : ByteArray) (w : World) (hs : s.size ≤ 1048576) :
    Calls Tryz.prog 72 #[.string s] w fun e w' => e = .returned (.tuple #[.agg #[.int .i64 (rdX s.data.toList), .int .i64 (rdZ s.data.toList)], .int .i64 (rdC s.data.toList)]) ∧ Ext w w' := by
  have hsz := size_list s
  have HS := Lib.hid fun W => s_l01Split s 58 W hs
  have hg := fun k => sp_getD 58 s.data.toList k
  have hq := sp_len_le 58 s.data.toList
  have HX : Hid (∀ r, rdP s.data.toList = r → rdX s.data.toList = (r.getD (0, 0)).1 ∧ rdZ s.data.toList = (r.getD (0, 0)).2 ∧ rdC s.data.toList = if r.isSome then 0 else 6) := Lib.hid fun r hr => by unfold rdX rdZ rdC; rw [hr]; exact ⟨rfl, rfl, rfl⟩
  generalize rdX s.data.toList = qx at *
  generalize rdZ s.data.toList = qz at *
  generalize rdC s.data.toList = qc at *
  obtain ⟨l, hl⟩ : ∃ l, l = s.data.toList := ⟨_, rfl⟩
  have HLL := Lib.hid hl
  rw [← hl] at HS hg hq HX hsz
  obtain ⟨L, hL⟩ : ∃ L, L = sp 58 l := ⟨_, rfl⟩
  rw [← hL] at HS hg hq
  have HG : Hid (∀ k, (L.getD k []).length ≤ 1048576) := Lib.hid fun k => by have := hg k; omega
  have HLS := Lib.hid hL
  by_cases h2 : L.length = 2
  · obtain ⟨p, q, rfl⟩ : ∃ p q, L = [p, q] := by
      match L, h2 with
      | [p, q], _ => exact ⟨p, q, rfl⟩
    have hp : (tx p).size ≤ 1048576 := by rw [tx_size]; exact HG.out 0
    have hq' : (tx q).size ≤ 1048576 := by rw [tx_size]; exact HG.out 1
    have H1 := Lib.hid fun W => s_l01Signed (tx p) W hp
    have H2 := Lib.hid fun W => s_l01Signed (tx q) W hq'
    have HF := Lib.hid fun v1 v2 b1 b2 => @two_facts l p q v1 v2 b1 b2 hL.symm
    clear hl hg hq hL h2 hp hq' HG HLS hsz
    go_enter Tryz.func72, Tryz.ntmps72
    go_wp2_with fail
    refine (HS.out _).mono ?_
    rintro e w1 ⟨v, rfl, hO, hx1⟩
    obtain ⟨A, c', rfl, hS1, _, _, _⟩ := hO.sl len_encS
    obtain ⟨g, off, rfl, hgl, d0⟩ := hS1.st (k := 0) (by simp)
    have d1 := SlAt.st' hS1 (k := 1) (by simp)
    simp at d0 d1
    obtain ⟨hc1, hf1⟩ := hx1.rules
    have hs1 := hx1.size
    (try simp at hs1)
    clear hO HS
    simp only [List.length_cons, List.length_nil]
    have := (show w.heap.size < w1.heap.size from by omega)
    go_wp2_with fail
    refine (H1.out _).mono ?_
    rintro e w2 ⟨⟨v1, b1, rfl, hr1⟩, hx2⟩
    have HR1 := Lib.hid hr1
    clear hr1
    obtain ⟨hc2, hf2⟩ := hx2.rules
    have hs2 := hx2.size
    (try simp at hs2)
    have := (show w.heap.size < w2.heap.size from by omega)
    go_wp2_with fail
    refine (H2.out _).mono ?_
    rintro e w3 ⟨⟨v2, b2, rfl, hr2⟩, hx3⟩
    have HR2 := Lib.hid hr2
    clear hr2
    obtain ⟨hc3, hf3⟩ := hx3.rules
    have hs3 := hx3.size
    (try simp at hs3)
    have := (show w.heap.size < w3.heap.size from by omega)
    obtain ⟨f1, f2⟩ := HF.out v1 v2 b1 b2 HR1.out HR2.out
    have F1 := Lib.hid f1
    have F2 := Lib.hid f2
    clear f1 f2 HF H1 H2
    have HI := Lib.hid (s_IsPoint v1 v2)
    cases b1 with
    | false =>
      have HNO := Lib.hid (F2.out (fun h => Bool.noConfusion h.1))
      obtain ⟨rfl, rfl, rfl⟩ := HX.out _ HNO.out
      clear HX HNO
      go_wp2
      refine ret_pts1 (b0 := w.heap.size) (t := 70) (v := .tuple #[.agg #[.int .i64 0, .int .i64 0], .int .i64 6]) (Blk.eq (by (repeat (first | with_reducible assumption | ((with_reducible apply Blk.new); solve | simp | rfl) | with_reducible apply Blk.drew | with_reducible apply Blk.drewN | ((with_reducible apply Blk.far'); solve | omega | simp | (simp; omega)) | with_reducible apply Blk.set_ | with_reducible apply Blk.alloc | ((with_reducible apply Blk.ext'); with_reducible assumption) | ((with_reducible apply Blk.but'); (with_reducible assumption); solve | omega | (simp; omega))))) (by rfl)) rfl (by intro W' r0 r1; simp [results, Tryz.results72, go_sem, r0, r1]) ?_
      exact ⟨rfl, by (repeat (first | with_reducible exact Ext.refl _ | with_reducible assumption | ((with_reducible apply Src.ext); with_reducible assumption) | with_reducible refine Ext.alloc ?_ _ | with_reducible refine Ext.drew ?_ | with_reducible refine Ext.drewN ?_ _ | ((with_reducible refine Ext.setCell' ?_ ?_ _); solve | omega | simp | (simp; omega)) | (with_reducible refine Ext.trans ?_ (by with_reducible assumption))))⟩
    | true =>
      cases b2 with
      | false =>
        have HNO := Lib.hid (F2.out (fun h => Bool.noConfusion h.2.1))
        obtain ⟨rfl, rfl, rfl⟩ := HX.out _ HNO.out
        clear HX HNO
        go_wp2
        refine ret_pts1 (b0 := w.heap.size) (t := 70) (v := .tuple #[.agg #[.int .i64 0, .int .i64 0], .int .i64 6]) (Blk.eq (by (repeat (first | with_reducible assumption | ((with_reducible apply Blk.new); solve | simp | rfl) | with_reducible apply Blk.drew | with_reducible apply Blk.drewN | ((with_reducible apply Blk.far'); solve | omega | simp | (simp; omega)) | with_reducible apply Blk.set_ | with_reducible apply Blk.alloc | ((with_reducible apply Blk.ext'); with_reducible assumption) | ((with_reducible apply Blk.but'); (with_reducible assumption); solve | omega | (simp; omega))))) (by rfl)) rfl (by intro W' r0 r1; simp [results, Tryz.results72, go_sem, r0, r1]) ?_
        exact ⟨rfl, by (repeat (first | with_reducible exact Ext.refl _ | with_reducible assumption | ((with_reducible apply Src.ext); with_reducible assumption) | with_reducible refine Ext.alloc ?_ _ | with_reducible refine Ext.drew ?_ | with_reducible refine Ext.drewN ?_ _ | ((with_reducible refine Ext.setCell' ?_ ?_ _); solve | omega | simp | (simp; omega)) | (with_reducible refine Ext.trans ?_ (by with_reducible assumption))))⟩
      | true =>
        cases ho : okP v1 v2 with
        | false =>
          rw [ho] at HI
          have HNO := Lib.hid (F2.out (fun h => by rw [ho] at h; exact Bool.noConfusion h.2.2))
          clear ho
          (go_wp2_with fail; refine (HI.out _).mono ?_; rintro e w5 ⟨rfl, hx5⟩; obtain ⟨hc5, hf5⟩ := hx5.rules; have hs5 := hx5.size; (try simp at hs5); have := (show w.heap.size < w5.heap.size from by omega))
          obtain ⟨rfl, rfl, rfl⟩ := HX.out _ HNO.out
          clear HX HNO
          go_wp2
          refine ret_pts1 (b0 := w.heap.size) (t := 70) (v := .tuple #[.agg #[.int .i64 0, .int .i64 0], .int .i64 6]) (Blk.eq (by (repeat (first | with_reducible assumption | ((with_reducible apply Blk.new); solve | simp | rfl) | with_reducible apply Blk.drew | with_reducible apply Blk.drewN | ((with_reducible apply Blk.far'); solve | omega | simp | (simp; omega)) | with_reducible apply Blk.set_ | with_reducible apply Blk.alloc | ((with_reducible apply Blk.ext'); with_reducible assumption) | ((with_reducible apply Blk.but'); (with_reducible assumption); solve | omega | (simp; omega))))) (by rfl)) rfl (by intro W' r0 r1; simp [results, Tryz.results72, go_sem, r0, r1]) ?_
          exact ⟨rfl, by (repeat (first | with_reducible exact Ext.refl _ | with_reducible assumption | ((with_reducible apply Src.ext); with_reducible assumption) | with_reducible refine Ext.alloc ?_ _ | with_reducible refine Ext.drew ?_ | with_reducible refine Ext.drewN ?_ _ | ((with_reducible refine Ext.setCell' ?_ ?_ _); solve | omega | simp | (simp; omega)) | (with_reducible refine Ext.trans ?_ (by with_reducible assumption))))⟩
        | true =>
          rw [ho] at HI
          obtain ⟨n1, n2⟩ := okP_num ho
          have HT := Lib.hid fun W => s_l15Text v1 v2 W n1 n2
          have hl2 := F1.out ⟨rfl, rfl, ho⟩
          have HY := Lib.hid (rdP_yes ho hl2)
          have hst : ((tx (ptT v1 v2)).toList == s.toList) = true := same_text.2 (eq_tx (HLL.out.symm.trans hl2)).symm
          generalize tx (ptT v1 v2) = t at *
          obtain ⟨rfl, rfl, rfl⟩ := HX.out _ HY.out
          clear ho n1 n2 hl2 F1 F2 HX
          (go_wp2_with fail; refine (HI.out _).mono ?_; rintro e w5 ⟨rfl, hx5⟩; obtain ⟨hc5, hf5⟩ := hx5.rules; have hs5 := hx5.size; (try simp at hs5); have := (show w.heap.size < w5.heap.size from by omega); have := (show w3.heap.size < w5.heap.size from by omega))
          (go_wp2_with fail; refine (HT.out _).mono ?_; rintro e w6 ⟨rfl, hx6⟩; obtain ⟨hc6, hf6⟩ := hx6.rules; have hs6 := hx6.size; (try simp at hs6); have := (show w.heap.size < w6.heap.size from by omega); have := (show w3.heap.size < w6.heap.size from by omega))
          go_wp2
          refine ret_pts1 (b0 := w.heap.size) (t := 70) (v := .tuple #[.agg #[.int .i64 qx, .int .i64 qz], .int .i64 0]) (Blk.eq (by (repeat (first | with_reducible assumption | ((with_reducible apply Blk.new); solve | simp | rfl) | with_reducible apply Blk.drew | with_reducible apply Blk.drewN | ((with_reducible apply Blk.far'); solve | omega | simp | (simp; omega)) | with_reducible apply Blk.set_ | with_reducible apply Blk.alloc | ((with_reducible apply Blk.ext'); with_reducible assumption) | ((with_reducible apply Blk.but'); (with_reducible assumption); solve | omega | (simp; omega))))) (by rfl)) rfl (by intro W' r0 r1; simp [results, Tryz.results72, go_sem, r0, r1]) ?_
          exact ⟨rfl, by (repeat (first | with_reducible exact Ext.refl _ | with_reducible assumption | ((with_reducible apply Src.ext); with_reducible assumption) | with_reducible refine Ext.alloc ?_ _ | with_reducible refine Ext.drew ?_ | with_reducible refine Ext.drewN ?_ _ | ((with_reducible refine Ext.setCell' ?_ ?_ _); solve | omega | simp | (simp; omega)) | (with_reducible refine Ext.trans ?_ (by with_reducible assumption))))⟩
  · have hne : ((L.length : Int) != 2) = true := by simp; omega
    have HNO : Hid (rdP l = none) := Lib.hid (rdP_no fun x z ho e => by rw [hL, e, sp_ptT] at h2; exact h2 rfl)
    obtain ⟨n, hn⟩ : ∃ n, n = L.length := ⟨_, rfl⟩
    rw [← hn] at hne
    have HN := Lib.hid hn
    clear hn hl hg hq hL h2 HG hsz HLS
    go_enter Tryz.func72, Tryz.ntmps72
    go_wp2_with fail
    refine (HS.out _).mono ?_
    rintro e w1 ⟨v, rfl, hO, hx1⟩
    obtain ⟨A, c', rfl, hS1, _, _, _⟩ := hO.sl len_encS
    rw [← HN.out]
    obtain ⟨hc1, hf1⟩ := hx1.rules
    have hs1 := hx1.size
    (try simp at hs1)
    have := (show w.heap.size < w1.heap.size from by omega)
    obtain ⟨rfl, rfl, rfl⟩ := HX.out _ HNO.out
    clear HX HNO
    go_wp2
    refine ret_pts1 (b0 := w.heap.size) (t := 70) (v := .tuple #[.agg #[.int .i64 0, .int .i64 0], .int .i64 6]) (Blk.eq (by (repeat (first | with_reducible assumption | ((with_reducible apply Blk.new); solve | simp | rfl) | with_reducible apply Blk.drew | with_reducible apply Blk.drewN | ((with_reducible apply Blk.far'); solve | omega | simp | (simp; omega)) | with_reducible apply Blk.set_ | with_reducible apply Blk.alloc | ((with_reducible apply Blk.ext'); with_reducible assumption) | ((with_reducible apply Blk.but'); (with_reducible assumption); solve | omega | (simp; omega))))) (by rfl)) rfl (by intro W' r0 r1; simp [results, Tryz.results72, go_sem, r0, r1]) ?_
    exact ⟨rfl, by (repeat (first | with_reducible exact Ext.refl _ | with_reducible assumption | ((with_reducible apply Src.ext); with_reducible assumption) | with_reducible refine Ext.alloc ?_ _ | with_reducible refine Ext.drew ?_ | with_reducible refine Ext.drewN ?_ _ | ((with_reducible refine Ext.setCell' ?_ ?_ _); solve | omega | simp | (simp; omega)) | (with_reducible refine Ext.trans ?_ (by with_reducible assumption))))⟩

end Go.Proofs.YtdbheipjbjcikaaGreatDoor
