/- A world with other links, as the specification makes it. Links moved, as the specification moves them. -/
import Derived.Test.YtlnliajnipniaaaGreatDoorL2
import Derived.Test.YtlnliajnipniaaaGreatDoorYJ
namespace Go.Proofs.YtlnliajnipniaaaGreatDoor
open Go.RowKit
attribute [local go_sem] ExtOf.cell ExtOf.frozen
def GLk (L : List Lk) : Prop := ∀ l ∈ L, l.1.length ≤ 1048576 ∧ l.2.1.length ≤ 1048576
theorem GLk.links {L : List Lk} (h : GLk L) : Links L := fun j => by
 rcases Nat.lt_or_ge j L.length with c | c
 ·have e : L.getD j lkD = L[j] := by simp [List.getD, c]
  rw [e]; exact h _ (List.getElem_mem c)
 ·have e : L.getD j lkD = lkD := by simp [List.getD, c]
  rw [e]; exact ⟨by simp [lkD], by simp [lkD]⟩
theorem GLk.snoc {L : List Lk} {l : Lk} (h : GLk L) (hn : l.1.length ≤ 1048576 ∧ l.2.1.length ≤ 1048576) : GLk (L ++ [l]) := fun x hx => by
 rcases List.mem_append.1 hx with c | c
 ·exact h x c
 ·rw [List.mem_singleton.1 c]; exact hn
def LkAns (P K : Value) (v : Value) (m : Nat) (LM : List Lk) (e : Ending) : Prop :=
 (e = .returned (.tuple #[.agg #[P, v], .int .i64 0]) ∧ m ≤ 20 ∧ lksB LM = true) ∨ ∃ code : Int, ¬ code = 0 ∧ e = .returned (.tuple #[.agg #[P, K], .int .i64 code])
set_option maxRecDepth 20000 in
set_option maxHeartbeats 6400000 in
theorem s_l13Links (A9 A8 A' : Option Addr) (n9 c9 n8 c8 m c' : Nat) (LM : List Lk) (w : World) (h : SlAt w 4 encK A' LM) (hm : m = LM.length) (hl : LM.length ≤ 1048576) (hg : Links LM) :
  Calls Tryz.prog 118 #[.agg #[.slice A9 n9 c9, .slice A8 n8 c8], .slice A' m c'] w fun e w' => LkAns (.slice A9 n9 c9) (.slice A8 n8 c8) (.slice A' m c') m LM e ∧ Ext w w' := by
 have HA := hI (fun W (hW : Ext w W) => s_AreLinks A' m c' LM W (h.ext hW) hm hl hg)
 clear h hm hl hg
 by_cases h20 : m ≤ 20
 ·cases h1 : lksB LM with
  | false =>
   have H1 := hI h1
   rw [h1] at HA
   clear h1
   go_enter Tryz.func118, Tryz.ntmps118
   (go_wp2_with fail; refine (HA.out _ (xA (xA xR))).mono ?_; rintro e w1 ⟨rfl, hx1⟩; obtain ⟨hc1, hf1, hs1⟩ := hx1.all; (try simp at hs1); have := (show w.heap.size < w1.heap.size from by omega); have := (show w.heap.size + 1 < w1.heap.size from by omega))
   go_wp2
   exact ret_pts1 (b0 := w.heap.size + 1) (t := 27) (v := .tuple #[.agg #[.slice A9 n9 c9, .slice A8 n8 c8], .int .i64 5]) (Blk.eq (bS (bS (bE hx1 (bN (by first|omega|simp))))) (by rfl)) rfl (by intro W' r0 r1; simp [results, Tryz.results118, go_sem, r0, r1]) ⟨.inr ⟨5, by decide, rfl⟩, xC (by omega) (xC (by omega) (xT (xA (xA xR)) hx1))⟩
  | true =>
   have H1 := hI h1
   rw [h1] at HA
   clear h1
   go_enter Tryz.func118, Tryz.ntmps118
   (go_wp2_with fail; refine (HA.out _ (xA (xA xR))).mono ?_; rintro e w1 ⟨rfl, hx1⟩; obtain ⟨hc1, hf1, hs1⟩ := hx1.all; (try simp at hs1); have := (show w.heap.size < w1.heap.size from by omega); have := (show w.heap.size + 1 < w1.heap.size from by omega))
   go_wp2
   exact ret_pts1 (b0 := w.heap.size + 1) (t := 27) (v := .tuple #[.agg #[.slice A9 n9 c9, .slice A' m c'], .int .i64 0]) (Blk.eq (bS (bS (bE hx1 (bN (by first|omega|simp))))) (by rfl)) rfl (by intro W' r0 r1; simp [results, Tryz.results118, go_sem, r0, r1]) ⟨.inl ⟨rfl, h20, H1.out⟩, xC (by omega) (xC (by omega) (xT (xA (xA xR)) hx1))⟩
 ·go_enter Tryz.func118, Tryz.ntmps118
  go_wp2
  exact ret_pts1 (b0 := w.heap.size + 1) (t := 27) (v := .tuple #[.agg #[.slice A9 n9 c9, .slice A8 n8 c8], .int .i64 3]) (Blk.eq (bN (by first|omega|simp)) (by rfl)) rfl (by intro W' r0 r1; simp [results, Tryz.results118, go_sem, r0, r1]) ⟨.inr ⟨3, by decide, rfl⟩, xA (xA xR)⟩
set_option maxRecDepth 20000 in
set_option maxHeartbeats 12800000 in
theorem s_l12EndW (A : Option Addr) (n c : Nat) (L : List Lk) (sx : ByteArray) (z : Int) (w : World) (h : SlAt w 4 encK A L) (hn : n = L.length) (hl : n ≤ 1000) (hg : Links L) (hz : -100000 ≤ z ∧ z ≤ 100000) :
  Calls Tryz.prog 122 #[.slice A n c, .string sx, .int .i64 z] w fun e w' => ∃ (v : Value) (ms : List Lk), e = .returned v ∧ OwK w' w.heap.size v ms ∧ GLk ms ∧ ms.length ≤ n ∧ Ext w w' := by
 have HN := hI hn
 have HS := hI h
 have HGD := hI hg
 have hw : IntKind.i64.wrap (z - 1) = z - 1 := IntWalk.i64_in _ (by omega)
 clear h hn hg hz
 go_enter Tryz.func122, Tryz.ntmps122
 go_wp2
 go_loopw [7, 8] (fun v i wr => ∃ (j : Nat) (ys : List Lk), j ≤ n ∧ i = .int .i64 j ∧ Hid (OwK wr w.heap.size v ys) ∧ Hid (GLk ys) ∧ ys.length ≤ j ∧ Ext w wr) (fun _ i _ => n - (intOf i).toNat)
 case atStart => exact ⟨0, [], by omega, rfl, hI (Own.of_blk (xs := []) (bN (by omega)) len_encK rfl (by first | exact Nat.le_refl _ | (simp; done) | (simp; omega)) (Nat.zero_le _)), hI (fun x hx => by simp at hx), Nat.le_refl _, xA xR⟩
 case round =>
  obtain ⟨j, ys, hj, rfl, HV, HG, hyl, hxr⟩ := hrel
  obtain ⟨w5, rfl⟩ : ∃ x, x = wr := ⟨wr, rfl⟩
  have HYL := hI hyl
  have HLN : Hid (ys.length ≤ 1000) := hI (by omega)
  have hsr := hxr.size
  by_cases hjn : j < n
  ·have hjr : j < L.length := by rw [← HN.out]; exact hjn
   obtain ⟨b, off, rfl, hb, d0, d1, d2, d3⟩ := (HS.out.ext hxr).lk hjr
   have HGJ := hI (HGD.out j)
   generalize L.getD j lkD = l at *
   obtain ⟨l1, l2, lf, lt⟩ := l
   simp only at d0 d1 d2 d3
   obtain ⟨x0, hx0⟩ : ∃ s, s = tx l1 := ⟨_, rfl⟩
   obtain ⟨x1, hx1⟩ : ∃ s, s = tx l2 := ⟨_, rfl⟩
   rw [← hx0] at d0
   rw [← hx1] at d1
   have HX0 := hI hx0
   have HX1 := hI hx1
   clear hx0 hx1 hjr hyl
   cases hq1 : (x0.toList == sx.toList) with
   | true =>
    rcases Decidable.em (lf ≤ min lt (z - 1)) with hlep | hlep
    ·have hle : decide (lf ≤ min lt (z - 1)) = true := decide_eq_true hlep
     go_wp2_with (at_builtin; refine wpList_append_sl elK len_encK one_encK rfl _ _ rfl rfl (base := w.heap.size) (ys := ys) ?_ (xs := [(l1, l2, lf, min lt (z - 1))]) rfl ?_ ?_ ?_ ?_ ?_)
     ·exact HV.out.ext (xA (xA xR))
     ·exact blk_k1 (bN (by first|omega|simp)) (by rw [HX0.out, HX1.out]; first | done | rfl)
     ·have := HLN.out; simp; unfold maxLen; omega
     ·have := HLN.out; simp; omega
     ·first | omega | (simp; omega)
     intro v' w6 hown hgrow _
     have HV2 := hI hown
     have HG2 : Hid (GLk (ys ++ [(l1, l2, lf, min lt (z - 1))])) := hI (HG.out.snoc HGJ.out)
     have hrow := HV.out.row
     have hx6 : Ext w w6 := Ext.grown (xA (xA hxr)) hgrow (fun q hq => by have := (hrow q hq).1; omega)
     clear hown hgrow hrow
     go_wp2
     go_roundw
     case rel => exact ⟨j + 1, _, by omega, by go_num, HV2, HG2, by have := HYL.out; simp; omega, hx6⟩
     case measure => simp [intOf]; omega
    ·have hle : decide (lf ≤ min lt (z - 1)) = false := decide_eq_false hlep
     go_wp2
     go_roundw
     case rel => exact ⟨j + 1, _, by omega, by go_num, hI (HV.out.ext (xA xR)), HG, by have := HYL.out; omega, xA hxr⟩
     case measure => simp [intOf]; omega
   | false =>
    cases hq2 : (x1.toList == sx.toList) with
    | true =>
     rcases Decidable.em (lf ≤ min lt (z - 1)) with hlep | hlep
     ·have hle : decide (lf ≤ min lt (z - 1)) = true := decide_eq_true hlep
      go_wp2_with (at_builtin; refine wpList_append_sl elK len_encK one_encK rfl _ _ rfl rfl (base := w.heap.size) (ys := ys) ?_ (xs := [(l1, l2, lf, min lt (z - 1))]) rfl ?_ ?_ ?_ ?_ ?_)
      ·exact HV.out.ext (xA (xA xR))
      ·exact blk_k1 (bN (by first|omega|simp)) (by rw [HX0.out, HX1.out]; first | done | rfl)
      ·have := HLN.out; simp; unfold maxLen; omega
      ·have := HLN.out; simp; omega
      ·first | omega | (simp; omega)
      intro v' w6 hown hgrow _
      have HV2 := hI hown
      have HG2 : Hid (GLk (ys ++ [(l1, l2, lf, min lt (z - 1))])) := hI (HG.out.snoc HGJ.out)
      have hrow := HV.out.row
      have hx6 : Ext w w6 := Ext.grown (xA (xA hxr)) hgrow (fun q hq => by have := (hrow q hq).1; omega)
      clear hown hgrow hrow
      go_wp2
      go_roundw
      case rel => exact ⟨j + 1, _, by omega, by go_num, HV2, HG2, by have := HYL.out; simp; omega, hx6⟩
      case measure => simp [intOf]; omega
     ·have hle : decide (lf ≤ min lt (z - 1)) = false := decide_eq_false hlep
      go_wp2
      go_roundw
      case rel => exact ⟨j + 1, _, by omega, by go_num, hI (HV.out.ext (xA xR)), HG, by have := HYL.out; omega, xA hxr⟩
      case measure => simp [intOf]; omega
    | false =>
     rcases Decidable.em (lf ≤ lt) with hlep | hlep
     ·have hle : decide (lf ≤ lt) = true := decide_eq_true hlep
      go_wp2_with (at_builtin; refine wpList_append_sl elK len_encK one_encK rfl _ _ rfl rfl (base := w.heap.size) (ys := ys) ?_ (xs := [(l1, l2, lf, lt)]) rfl ?_ ?_ ?_ ?_ ?_)
      ·exact HV.out.ext (xA (xA xR))
      ·exact blk_k1 (bN (by first|omega|simp)) (by rw [HX0.out, HX1.out]; first | done | rfl)
      ·have := HLN.out; simp; unfold maxLen; omega
      ·have := HLN.out; simp; omega
      ·first | omega | (simp; omega)
      intro v' w6 hown hgrow _
      have HV2 := hI hown
      have HG2 : Hid (GLk (ys ++ [(l1, l2, lf, lt)])) := hI (HG.out.snoc HGJ.out)
      have hrow := HV.out.row
      have hx6 : Ext w w6 := Ext.grown (xA (xA hxr)) hgrow (fun q hq => by have := (hrow q hq).1; omega)
      clear hown hgrow hrow
      go_wp2
      go_roundw
      case rel => exact ⟨j + 1, _, by omega, by go_num, HV2, HG2, by have := HYL.out; simp; omega, hx6⟩
      case measure => simp [intOf]; omega
     ·have hle : decide (lf ≤ lt) = false := decide_eq_false hlep
      go_wp2
      go_roundw
      case rel => exact ⟨j + 1, _, by omega, by go_num, hI (HV.out.ext (xA xR)), HG, by have := HYL.out; omega, xA hxr⟩
      case measure => simp [intOf]; omega
  ·obtain rfl : j = n := by omega
   go_wp2
   go_ret
   exact ⟨_, _, rfl, HV.out, HG.out, by have := HYL.out; omega, hxr⟩
def PB (w : World) (b : Nat) : Prop := ∃ (s : ByteArray) (z1 z2 z3 : Int) (A : Option Addr) (n c : Nat), Blk w b 57 #[.string s, .int .i64 z1, .int .i64 z2, .int .i64 z3, .slice A n c]
def KPl (lo : Nat) (w w' : World) : Prop := ∀ b, lo ≤ b → PB w b → PB w' b
theorem KPl.refl (lo : Nat) (w : World) : KPl lo w w := fun _ _ h => h
theorem KPl.ext {lo : Nat} {w w' : World} (hx : Ext w w') : KPl lo w w' := fun _ _ ⟨s, z1, z2, z3, A, n, c, hB⟩ => ⟨s, z1, z2, z3, A, n, c, hB.ext hx⟩
theorem KPl.put {lo : Nat} {w : World} {s : ByteArray} {z1 z2 z3 : Int} {A : Option Addr} {n c : Nat} (q : Nat) :
  KPl lo w (((((w.setCell ⟨q, 0, none⟩ (.string s)).setCell ⟨q, 1, none⟩ (.int .i64 z1)).setCell ⟨q, 2, none⟩ (.int .i64 z2)).setCell ⟨q, 3, none⟩ (.int .i64 z3)).setCell ⟨q, 4, none⟩ (.slice A n c)) := fun b _ ⟨s', y1, y2, y3, A', n', c', hB⟩ => by
 by_cases e : b = q
 ·subst e
  exact ⟨s, z1, z2, z3, A, n, c, Blk.eq (((((hB.set_ 0 _).set_ 1 _).set_ 2 _).set_ 3 _).set_ 4 _) (by rfl)⟩
 ·exact ⟨s', y1, y2, y3, A', n', c', ((((hB.far (p := ⟨q, 0, none⟩) e _).far (p := ⟨q, 1, none⟩) e _).far (p := ⟨q, 2, none⟩) e _).far (p := ⟨q, 3, none⟩) e _).far (p := ⟨q, 4, none⟩) e _⟩
def RgMv (lo : Nat) (p0 v1 s1 s2 i1 i2 q1 q2 r1 r2 : Value) : Nat → Value → World → Prop
 | 0, v, _ => v = p0
 | 1, v, _ => v = v1
 | 2, v, _ => v = p0
 | 3, v, _ => v = v1
 | 4, v, _ => v = s1
 | 5, v, _ => v = i1
 | 6, v, _ => v = q1
 | 7, v, _ => v = r1
 | 8, v, _ => v = p0
 | 9, v, _ => v = v1
 | 10, v, _ => v = p0
 | 11, v, _ => v = v1
 | 12, v, _ => v = s2
 | 13, v, _ => v = i2
 | 14, v, _ => v = q2
 | 15, v, _ => v = r2
 | 16, v, W => ∃ b, v = .pointer (some ⟨b, 0, none⟩) ∧ lo ≤ b ∧ PB W b
 | 17, v, W => ∃ b, v = .pointer (some ⟨b, 0, none⟩) ∧ lo ≤ b ∧ PB W b
 | _, _, _ => True
theorem RgMv.stay {lo : Nat} {p0 v1 s1 s2 i1 i2 q1 q2 r1 r2 : Value} (i : Nat) (v : Value) (w w' : World) (hk : KPl lo w w') (h : RgMv lo p0 v1 s1 s2 i1 i2 q1 q2 r1 r2 i v w) : RgMv lo p0 v1 s1 s2 i1 i2 q1 q2 r1 r2 i v w' := by
 rcases i with _ | _ | _ | _ | _ | _ | _ | _ | _ | _ | _ | _ | _ | _ | _ | _ | _ | _ | i
 all_goals first | exact h | trivial | (obtain ⟨b, h1, h2, h3⟩ := h; exact ⟨b, h1, h2, hk b h2 h3⟩)
set_option maxRecDepth 200000 in
set_option maxHeartbeats 12800000 in
theorem s_l13Move (A A' : Option Addr) (n c m c' : Nat) (ps : List Pl) (L : List Lk) (x z : List UInt8) (y : Int) (w : World) (h : WIn w A A' n c m c' ps L) (hm : m ≤ 1000) (hx : ¬ fnxP (psD ps) x < 0) (hz : ¬ fnxP (psD ps) z < 0) (hxl : x.length ≤ 1048576) (hzl : z.length ≤ 1048576) (hy : -100000 ≤ y ∧ y ≤ 100000) :
  Calls Tryz.prog 119 #[.agg #[.slice A n c, .slice A' m c'], .string (tx x), .string (tx z), .int .i64 y] w fun e w' => ∃ (v : Value) (ms : List Lk), e = .returned v ∧ OwK w' w.heap.size v ms ∧ GLk ms ∧ ms.length ≤ m + 1 ∧ Ext w w' := by
 have HF1 := hI (fun W (hW : Ext w W) => s_l11Find A n c ps x W (h.sq.ext hW) h.hn (by have := h.hn; have := h.hl; omega))
 have HF2 := hI (fun W (hW : Ext w W) => s_l11Find A n c ps z W (h.sq.ext hW) h.hn (by have := h.hn; have := h.hl; omega))
 obtain ⟨k1, e1, hk1, _⟩ := has_some hx
 obtain ⟨k2, e2, hk2, _⟩ := has_some hz
 rw [e1] at HF1
 rw [e2] at HF2
 rw [psD_len] at hk1 hk2
 have hk1n : k1 < n := by rw [h.hn]; exact hk1
 have hk2n : k2 < n := by rw [h.hn]; exact hk2
 have HNL := hI (fun W (hW : Ext w W) => h.sk.ext hW)
 have HM := hI h.hm
 have HGD := hI h.lg
 have HXL : Hid (x.length ≤ 1048576 ∧ z.length ≤ 1048576) := hI ⟨hxl, hzl⟩
 obtain ⟨b, off, hA, hb, p0, p1, p2, p3, p4⟩ := h.sq.pl hk1
 obtain ⟨b', off', hA', hb', r0, r1, r2, r3, r4⟩ := h.sq.pl hk2
 subst hA
 injection hA' with hA'
 injection hA' with e3 e4
 subst e3 e4
 clear hx hz e1 e2 hk1 hk2 h hxl hzl hb'
 generalize ps.getD k1 plD = q1 at *
 generalize ps.getD k2 plD = q2 at *
 generalize tx q1.1 = u0 at *
 generalize q1.2.1 = u1 at *
 generalize q1.2.2.1 = u2 at *
 generalize q1.2.2.2.1 = u3 at *
 generalize q1.2.2.2.2.1 = u4 at *
 generalize q1.2.2.2.2.2.2.length = u5 at *
 generalize q1.2.2.2.2.2.1 = u6 at *
 generalize tx q2.1 = t0 at *
 generalize q2.2.1 = t1 at *
 generalize q2.2.2.1 = t2 at *
 generalize q2.2.2.2.1 = t3 at *
 generalize q2.2.2.2.2.1 = t4 at *
 generalize q2.2.2.2.2.2.2.length = t5 at *
 generalize q2.2.2.2.2.2.1 = t6 at *
 obtain ⟨sx, hsx⟩ : ∃ s, s = tx x := ⟨_, rfl⟩
 obtain ⟨sz, hsz⟩ : ∃ s, s = tx z := ⟨_, rfl⟩
 rw [← hsx] at HF1 ⊢
 rw [← hsz] at HF2 ⊢
 have HSX := hI hsx
 have HSZ := hI hsz
 clear hsx hsz
 have h0k1 : (0 : Int) ≤ (k1 : Int) := by omega
 have h0k2 : (0 : Int) ≤ (k2 : Int) := by omega
 have hw : IntKind.i64.wrap (y - 1) = y - 1 := IntWalk.i64_in _ (by omega)
 clear hy
 go_enter Tryz.func119, Tryz.ntmps119
 have HX0 : Hid (Ext w (w.alloc (.cells #[.slice (some ⟨b, off, none⟩) n c, .slice A' m c'] 27))) := hI ((Ext.refl w).alloc _)
 have HZ0 : Hid (Blk (w.alloc (.cells #[.slice (some ⟨b, off, none⟩) n c, .slice A' m c'] 27)) w.heap.size 27 #[.slice (some ⟨b, off, none⟩) n c, .slice A' m c']) := hI (Blk.new rfl)
 go_upto_region 1 with (fail)
 go_cut [9, 10] (fun p q wx => ∃ (b9 b10 : Nat), p = .pointer (some ⟨b9, 0, none⟩) ∧ q = .pointer (some ⟨b10, 0, none⟩) ∧ Hid (PB wx b9) ∧ Hid (PB wx b10) ∧ Ext w wx ∧ Hid (Blk wx w.heap.size 27 #[.slice (some ⟨b, off, none⟩) n c, .slice A' m c']))
 case first =>
  refine wp_region_rgb (m := 20) (C := Ext (w.alloc (.cells #[.slice (some ⟨b, off, none⟩) n c, .slice A' m c'] 27))) (K := KPl (w.heap.size + 1)) (R := RgMv (w.heap.size + 1) (.pointer (some ⟨w.heap.size, 0, none⟩)) (.slice (some ⟨b, off, none⟩) n c) (.string sx) (.string sz) (.int .i64 (k1 : Int)) (.int .i64 (k2 : Int)) (.pointer (some ⟨b, off + k1 * 5, none⟩)) (.pointer (some ⟨b, off + k2 * 5, none⟩)) (.agg #[.string u0, .int .i64 u1, .int .i64 u2, .int .i64 u3, .slice u4 u5 u6]) (.agg #[.string t0, .int .i64 t1, .int .i64 t2, .int .i64 t3, .slice t4 t5 t6])) Tryz.f119.ntmps (by kernel_rfl) (by kernel_rfl) (by simp) (by rw [Tryz.ntmps119]; simp) (fun i v w w' => RgMv.stay i v w w') ?hC ?hstep ?hend
  case hC => exact (Ext.refl _).drew
  case hstep =>
   simp only [List.take_succ_cons, List.take_zero]
   refine AllFrom.cons ?_ <| AllFrom.cons ?_ <| AllFrom.cons ?_ <| AllFrom.cons ?_ <| AllFrom.cons ?_ <| AllFrom.cons ?_ <| AllFrom.cons ?_ <| AllFrom.cons ?_ <| AllFrom.cons ?_ <| AllFrom.cons ?_ <| AllFrom.cons ?_ <| AllFrom.cons ?_ <| AllFrom.cons ?_ <| AllFrom.cons ?_ <| AllFrom.cons ?_ <| AllFrom.cons ?_ <| AllFrom.cons ?_ <| AllFrom.cons ?_ <| AllFrom.cons ?_ <| AllFrom.cons ?_ AllFrom.nil
   all_goals (intro a1 W hfr hdep hC; have HC := hI hC; clear hC)
   ·have t4 : a1.tmps.getD 4 undef = .pointer (some ⟨w.heap.size, 0, none⟩) := hfr.at_ rfl (by kernel_rfl)
    unfold Oper.wp
    go_simp
    exact ⟨_, rfl, rfl, KPl.refl _ _, HC.out⟩
   ·have t15 : a1.tmps.getD 15 undef = .pointer (some ⟨w.heap.size, 0, none⟩) := hdep ⟨0, .data⟩ (by simp) rfl _ rfl
    have t15q := tq t15
    have c0 : W.cell? ⟨w.heap.size, 0, none⟩ = some (.slice (some ⟨b, off, none⟩) n c) := (HZ0.out.ext HC.out).cell 0
    unfold Oper.wp
    go_simp
    exact ⟨_, rfl, rfl, KPl.refl _ _, HC.out⟩
   ·have t4 : a1.tmps.getD 4 undef = .pointer (some ⟨w.heap.size, 0, none⟩) := hfr.at_ rfl (by kernel_rfl)
    unfold Oper.wp
    go_simp
    exact ⟨_, rfl, rfl, KPl.refl _ _, HC.out⟩
   ·have t17 : a1.tmps.getD 17 undef = .pointer (some ⟨w.heap.size, 0, none⟩) := hdep ⟨2, .data⟩ (by simp) rfl _ rfl
    have t17q := tq t17
    have c0 : W.cell? ⟨w.heap.size, 0, none⟩ = some (.slice (some ⟨b, off, none⟩) n c) := (HZ0.out.ext HC.out).cell 0
    unfold Oper.wp
    go_simp
    exact ⟨_, rfl, rfl, KPl.refl _ _, HC.out⟩
   ·have t1 : a1.tmps.getD 1 undef = .string sx := hfr.at_ rfl (by kernel_rfl)
    unfold Oper.wp
    go_simp
    exact ⟨_, rfl, rfl, KPl.refl _ _, HC.out⟩
   ·have t18 : a1.tmps.getD 18 undef = .slice (some ⟨b, off, none⟩) n c := hdep ⟨3, .data⟩ (by simp) rfl _ rfl
    have t18q := tq t18
    have t19 : a1.tmps.getD 19 undef = .string sx := hdep ⟨4, .data⟩ (by simp) rfl _ rfl
    have t19q := tq t19
    unfold Oper.wp
    go_simp
    refine (HF1.out _ (HX0.out.trans HC.out)).mono ?_
    rintro e W2 ⟨rfl, rfl⟩
    exact ⟨_, rfl, rfl, KPl.refl _ _, HC.out⟩
   ·have t16 : a1.tmps.getD 16 undef = .slice (some ⟨b, off, none⟩) n c := hdep ⟨1, .data⟩ (by simp) rfl _ rfl
    have t16q := tq t16
    have t20 : a1.tmps.getD 20 undef = .int .i64 (k1 : Int) := hdep ⟨5, .data⟩ (by simp) rfl _ rfl
    have t20q := tq t20
    unfold Oper.wp
    go_simp
    exact ⟨_, rfl, rfl, KPl.refl _ _, HC.out⟩
   ·have t21 : a1.tmps.getD 21 undef = .pointer (some ⟨b, off + k1 * 5, none⟩) := hdep ⟨6, .data⟩ (by simp) rfl _ rfl
    have t21q := tq t21
    have c0 := ((HX0.out.trans HC.out).cell b _ hb).trans p0
    have c1 := ((HX0.out.trans HC.out).cell b _ hb).trans p1
    have c2 := ((HX0.out.trans HC.out).cell b _ hb).trans p2
    have c3 := ((HX0.out.trans HC.out).cell b _ hb).trans p3
    have c4 := ((HX0.out.trans HC.out).cell b _ hb).trans p4
    unfold Oper.wp
    go_simp
    exact ⟨_, rfl, rfl, KPl.refl _ _, HC.out⟩
   ·have t4 : a1.tmps.getD 4 undef = .pointer (some ⟨w.heap.size, 0, none⟩) := hfr.at_ rfl (by kernel_rfl)
    unfold Oper.wp
    go_simp
    exact ⟨_, rfl, rfl, KPl.refl _ _, HC.out⟩
   ·have t23 : a1.tmps.getD 23 undef = .pointer (some ⟨w.heap.size, 0, none⟩) := hdep ⟨8, .data⟩ (by simp) rfl _ rfl
    have t23q := tq t23
    have c0 : W.cell? ⟨w.heap.size, 0, none⟩ = some (.slice (some ⟨b, off, none⟩) n c) := (HZ0.out.ext HC.out).cell 0
    unfold Oper.wp
    go_simp
    exact ⟨_, rfl, rfl, KPl.refl _ _, HC.out⟩
   ·have t4 : a1.tmps.getD 4 undef = .pointer (some ⟨w.heap.size, 0, none⟩) := hfr.at_ rfl (by kernel_rfl)
    unfold Oper.wp
    go_simp
    exact ⟨_, rfl, rfl, KPl.refl _ _, HC.out⟩
   ·have t25 : a1.tmps.getD 25 undef = .pointer (some ⟨w.heap.size, 0, none⟩) := hdep ⟨10, .data⟩ (by simp) rfl _ rfl
    have t25q := tq t25
    have c0 : W.cell? ⟨w.heap.size, 0, none⟩ = some (.slice (some ⟨b, off, none⟩) n c) := (HZ0.out.ext HC.out).cell 0
    unfold Oper.wp
    go_simp
    exact ⟨_, rfl, rfl, KPl.refl _ _, HC.out⟩
   ·have t2 : a1.tmps.getD 2 undef = .string sz := hfr.at_ rfl (by kernel_rfl)
    unfold Oper.wp
    go_simp
    exact ⟨_, rfl, rfl, KPl.refl _ _, HC.out⟩
   ·have t26 : a1.tmps.getD 26 undef = .slice (some ⟨b, off, none⟩) n c := hdep ⟨11, .data⟩ (by simp) rfl _ rfl
    have t26q := tq t26
    have t27 : a1.tmps.getD 27 undef = .string sz := hdep ⟨12, .data⟩ (by simp) rfl _ rfl
    have t27q := tq t27
    unfold Oper.wp
    go_simp
    refine (HF2.out _ (HX0.out.trans HC.out)).mono ?_
    rintro e W2 ⟨rfl, rfl⟩
    exact ⟨_, rfl, rfl, KPl.refl _ _, HC.out⟩
   ·have t24 : a1.tmps.getD 24 undef = .slice (some ⟨b, off, none⟩) n c := hdep ⟨9, .data⟩ (by simp) rfl _ rfl
    have t24q := tq t24
    have t28 : a1.tmps.getD 28 undef = .int .i64 (k2 : Int) := hdep ⟨13, .data⟩ (by simp) rfl _ rfl
    have t28q := tq t28
    unfold Oper.wp
    go_simp
    exact ⟨_, rfl, rfl, KPl.refl _ _, HC.out⟩
   ·have t29 : a1.tmps.getD 29 undef = .pointer (some ⟨b, off + k2 * 5, none⟩) := hdep ⟨14, .data⟩ (by simp) rfl _ rfl
    have t29q := tq t29
    have c0 := ((HX0.out.trans HC.out).cell b _ hb).trans r0
    have c1 := ((HX0.out.trans HC.out).cell b _ hb).trans r1
    have c2 := ((HX0.out.trans HC.out).cell b _ hb).trans r2
    have c3 := ((HX0.out.trans HC.out).cell b _ hb).trans r3
    have c4 := ((HX0.out.trans HC.out).cell b _ hb).trans r4
    unfold Oper.wp
    go_simp
    exact ⟨_, rfl, rfl, KPl.refl _ _, HC.out⟩
   ·unfold Oper.wp
    go_simp
    have hsw := HC.out.size
    simp at hsw
    exact ⟨_, rfl, ⟨W.heap.size, rfl, by omega, ⟨_, _, _, _, _, _, _, Blk.new rfl⟩⟩, KPl.ext ((Ext.refl _).alloc _), HC.out.alloc _⟩
   ·unfold Oper.wp
    go_simp
    have hsw := HC.out.size
    simp at hsw
    exact ⟨_, rfl, ⟨W.heap.size, rfl, by omega, ⟨_, _, _, _, _, _, _, Blk.new rfl⟩⟩, KPl.ext ((Ext.refl _).alloc _), HC.out.alloc _⟩
   ·obtain ⟨b9, t9, hb9, hp9⟩ : RgMv _ _ _ _ _ _ _ _ _ _ _ 16 (a1.tmps.getD 9 undef) W := hdep ⟨16, .data⟩ (by simp) rfl _ rfl
    have t9q := tq t9
    have t22 : a1.tmps.getD 22 undef = .agg #[.string u0, .int .i64 u1, .int .i64 u2, .int .i64 u3, .slice u4 u5 u6] := hdep ⟨7, .data⟩ (by simp) rfl _ rfl
    have t22q := tq t22
    have hp9' := hp9
    obtain ⟨s9, z1, z2, z3, A9, n9, c9, hB9⟩ := hp9'
    have f0 := hB9.frozen 0
    have d0 := hB9.cell 0
    have f1 := hB9.frozen 1
    have d1 := hB9.cell 1
    have f2 := hB9.frozen 2
    have d2 := hB9.cell 2
    have f3 := hB9.frozen 3
    have d3 := hB9.cell 3
    have f4 := hB9.frozen 4
    have d4 := hB9.cell 4
    simp at d0 d1 d2 d3 d4
    unfold Oper.wp
    go_simp
    have hK : KPl (w.heap.size + 1) W _ := KPl.put (s := u0) (z1 := u1) (z2 := u2) (z3 := u3) (A := u4) (n := u5) (c := u6) b9
    have hsb : (w.alloc (.cells #[.slice (some ⟨b, off, none⟩) n c, .slice A' m c'] 27)).heap.size ≤ b9 := by simp; omega
    have hE := ((((HC.out.setCell (p := ⟨b9, 0, none⟩) hsb (.string u0)).setCell (p := ⟨b9, 1, none⟩) hsb (.int .i64 u1)).setCell (p := ⟨b9, 2, none⟩) hsb (.int .i64 u2)).setCell (p := ⟨b9, 3, none⟩) hsb (.int .i64 u3)).setCell (p := ⟨b9, 4, none⟩) hsb (.slice u4 u5 u6)
    first | exact ⟨hK, hE⟩ | exact ⟨trivial, hK, hE⟩ | exact ⟨_, rfl, trivial, hK, hE⟩
   ·obtain ⟨b9, t10, hb9, hp9⟩ : RgMv _ _ _ _ _ _ _ _ _ _ _ 17 (a1.tmps.getD 10 undef) W := hdep ⟨17, .data⟩ (by simp) rfl _ rfl
    have t10q := tq t10
    have t30 : a1.tmps.getD 30 undef = .agg #[.string t0, .int .i64 t1, .int .i64 t2, .int .i64 t3, .slice t4 t5 t6] := hdep ⟨15, .data⟩ (by simp) rfl _ rfl
    have t30q := tq t30
    have hp9' := hp9
    obtain ⟨s9, z1, z2, z3, A9, n9, c9, hB9⟩ := hp9'
    have f0 := hB9.frozen 0
    have d0 := hB9.cell 0
    have f1 := hB9.frozen 1
    have d1 := hB9.cell 1
    have f2 := hB9.frozen 2
    have d2 := hB9.cell 2
    have f3 := hB9.frozen 3
    have d3 := hB9.cell 3
    have f4 := hB9.frozen 4
    have d4 := hB9.cell 4
    simp at d0 d1 d2 d3 d4
    unfold Oper.wp
    go_simp
    have hK : KPl (w.heap.size + 1) W _ := KPl.put (s := t0) (z1 := t1) (z2 := t2) (z3 := t3) (A := t4) (n := t5) (c := t6) b9
    have hsb : (w.alloc (.cells #[.slice (some ⟨b, off, none⟩) n c, .slice A' m c'] 27)).heap.size ≤ b9 := by simp; omega
    have hE := ((((HC.out.setCell (p := ⟨b9, 0, none⟩) hsb (.string t0)).setCell (p := ⟨b9, 1, none⟩) hsb (.int .i64 t1)).setCell (p := ⟨b9, 2, none⟩) hsb (.int .i64 t2)).setCell (p := ⟨b9, 3, none⟩) hsb (.int .i64 t3)).setCell (p := ⟨b9, 4, none⟩) hsb (.slice t4 t5 t6)
    first | exact ⟨hK, hE⟩ | exact ⟨trivial, hK, hE⟩ | exact ⟨_, rfl, trivial, hK, hE⟩
  case hend =>
   intro a1 W hfr hR hC
   obtain ⟨b9, t9, hb9, hp9⟩ : RgMv (w.heap.size + 1) _ _ _ _ _ _ _ _ _ _ 16 (a1.tmps.getD 9 undef) W := hR 16 _ (by omega) rfl
   obtain ⟨b10, t10, hb10, hp10⟩ : RgMv (w.heap.size + 1) _ _ _ _ _ _ _ _ _ _ 17 (a1.tmps.getD 10 undef) W := hR 17 _ (by omega) rfl
   have HC := hI hC
   have HP9 := hI hp9
   have HP10 := hI hp10
   have t9q := tq t9
   have t10q := tq t10
   clear hC hp9 hp10
   refine wpAny_end (by kernel_rfl) ?_
   have hsh := hfr.shape [false, false, false, false, false, false, false, false, false, true, true, false, false, false, false, true, true, true, true, true, true, true, true, true, true, true, true, true, true, true, true, false, false, false, false, false, false, false, false, false, false, false, false, false, false, false, false, false, false, false, false, false, false, false, false, false, false, false, false, false, false, false, false, false, false, false, false, false, false, false, false, false, false, false, false, false, false, false, false, false, false, false, false, false, false, false, false, false, false, false, false, false, false, false, false, false, false] (by rfl) (by kernel_rfl)
   simp only [mixL] at hsh
   rw [hsh]
   go_wp2_with fail
   go_meet
   exact ⟨b9, b10, by first | exact t9 | (simp [t9q]; done), by first | exact t10 | (simp [t10q]; done), HP9, HP10, HX0.out.trans HC.out, hI (HZ0.out.ext HC.out)⟩
 case rest =>
 obtain ⟨b9, b10, rfl, rfl, HP9, HP10, hxc, HZ⟩ := hcut
 obtain ⟨w4, rfl⟩ : ∃ z, z = wc := ⟨wc, rfl⟩
 obtain ⟨s9, z91, z92, z93, A9, n9, c9, hB9⟩ := HP9.out
 obtain ⟨s10, z101, z102, z103, A10, n10, c10, hB10⟩ := HP10.out
 have e9 : w4.cell? ⟨b9, 3, none⟩ = some (.int .i64 z93) := hB9.cell 3
 have e10 : w4.cell? ⟨b10, 3, none⟩ = some (.int .i64 z103) := hB10.cell 3
 have hz4 := HZ.out.lt
 have HXC := hI hxc
 clear HP9 HP10 hB9 hB10 HF1 HF2 p0 p1 p2 p3 p4 r0 r1 r2 r3 r4 HX0 HZ0 hxc
 go_wp2
 go_loopw [11, 12, 13] (fun t v i wr => ∃ (j : Nat) (ys : List Lk) (tt : Int), j ≤ m ∧ i = .int .i64 j ∧ t = .int .i64 tt ∧ Hid (OwK wr (w.heap.size + 1) v ys) ∧ Hid (GLk ys) ∧ ys.length ≤ j ∧ Hid (Blk wr w.heap.size 27 #[.slice (some ⟨b, off, none⟩) n c, .slice A' m c']) ∧ Ext w wr) (fun _ _ i _ => m - (intOf i).toNat)
 case atStart => exact ⟨0, [], _, by omega, rfl, rfl, hI (Own.of_blk (xs := []) (bN (by omega)) len_encK rfl (by first | omega | (simp; omega)) (Nat.zero_le _)), hI (fun x hx => by simp at hx), Nat.le_refl _, hI (HZ.out.ext (xA xR)), HXC.out.trans (xA xR)⟩
 case round =>
  obtain ⟨j, ys, tt, hj, rfl, rfl, HV, HG, hyl, HB4, hxr⟩ := hrel
  obtain ⟨w5, rfl⟩ : ∃ x, x = wr := ⟨wr, rfl⟩
  have HYL := hI hyl
  have HLN : Hid (ys.length ≤ 1000) := hI (by omega)
  have hsr := hxr.size
  have hB4 := HB4.out
  have hl4 := hB4.lt
  have f40 := hB4.frozen 0
  have f41 := hB4.frozen 1
  have g0 : w5.cell? ⟨w.heap.size, 0, none⟩ = some (.slice (some ⟨b, off, none⟩) n c) := hB4.cell 0
  have g1 : w5.cell? ⟨w.heap.size, 1, none⟩ = some (.slice A' m c') := hB4.cell 1
  by_cases hjn : j < m
  ·have hjr : j < L.length := by rw [← HM.out]; exact hjn
   obtain ⟨b2, off2, rfl, hb2, d0, d1, d2, d3⟩ := (HNL.out _ hxr).lk hjr
   have HGJ := hI (HGD.out j)
   generalize L.getD j lkD = l at *
   obtain ⟨l1, l2, lf, lt⟩ := l
   simp only at d0 d1 d2 d3
   obtain ⟨x0, hx0⟩ : ∃ s, s = tx l1 := ⟨_, rfl⟩
   obtain ⟨x1, hx1⟩ : ∃ s, s = tx l2 := ⟨_, rfl⟩
   rw [← hx0] at d0
   rw [← hx1] at d1
   have HX0 := hI hx0
   have HX1 := hI hx1
   clear hx0 hx1 hjr hyl
   cases hq1 : (x0.toList == sx.toList) with
   | false =>
    rcases Decidable.em (lf ≤ lt) with hlep | hlep
    ·have hle : decide (lf ≤ lt) = true := decide_eq_true hlep
     go_wp2_with (at_builtin; refine wpList_append_sl elK len_encK one_encK rfl _ _ rfl rfl (base := (w.heap.size + 1)) (ys := ys) ?_ (xs := [(l1, l2, lf, lt)]) rfl ?_ ?_ ?_ ?_ ?_)
     ·exact HV.out.ext (xA (xA xR))
     ·exact blk_k1 (bN (by first|omega|simp)) (by rw [HX0.out, HX1.out]; first | done | rfl)
     ·have := HLN.out; simp; unfold maxLen; omega
     ·have := HLN.out; simp; omega
     ·first | omega | (simp; omega)
     intro v' w6 hown hgrow _
     have HV2 := hI hown
     have HG2 : Hid (GLk (ys ++ [(l1, l2, lf, lt)])) := hI (HG.out.snoc HGJ.out)
     have hrow := HV.out.row
     have hx6 : Ext w w6 := Ext.grown (xA (xA hxr)) hgrow (fun q hq => by have := (hrow q hq).1; omega)
     have hb6 := blk_keptE hgrow (g := w.heap.size) (t := 27) (cs := #[.slice (some ⟨b, off, none⟩) n c, .slice (some ⟨b2, off2, none⟩) m c']) (bA (bA hB4)) (fun e => by have := (hrow _ e.symm).1; omega)
     have HB6 := hI hb6
     clear hown hgrow hrow hb6
     go_wp2
     go_roundw
     case rel => exact ⟨j + 1, _, _, by omega, by go_num, rfl, HV2, HG2, by have := HYL.out; simp; omega, HB6, hx6⟩
     case measure => simp [intOf]; omega
    ·have hle : decide (lf ≤ lt) = false := decide_eq_false hlep
     go_wp2
     go_roundw
     case rel => exact ⟨j + 1, _, _, by omega, by go_num, rfl, hI (HV.out.ext (xA xR)), HG, by have := HYL.out; omega, hI (bA hB4), xA hxr⟩
     case measure => simp [intOf]; omega
   | true =>
    rcases Decidable.em (y < lf) with hgtp | hgtp
    ·have hgt : decide (y < lf) = true := decide_eq_true hgtp
     rcases Decidable.em (lf ≤ lt) with hlep | hlep
     ·have hle : decide (lf ≤ lt) = true := decide_eq_true hlep
      go_wp2_with (at_builtin; refine wpList_append_sl elK len_encK one_encK rfl _ _ rfl rfl (base := (w.heap.size + 1)) (ys := ys) ?_ (xs := [(l1, l2, lf, lt)]) rfl ?_ ?_ ?_ ?_ ?_)
      ·exact HV.out.ext (xA (xA xR))
      ·exact blk_k1 (bN (by first|omega|simp)) (by rw [HX0.out, HX1.out]; first | done | rfl)
      ·have := HLN.out; simp; unfold maxLen; omega
      ·have := HLN.out; simp; omega
      ·first | omega | (simp; omega)
      intro v' w6 hown hgrow _
      have HV2 := hI hown
      have HG2 : Hid (GLk (ys ++ [(l1, l2, lf, lt)])) := hI (HG.out.snoc HGJ.out)
      have hrow := HV.out.row
      have hx6 : Ext w w6 := Ext.grown (xA (xA hxr)) hgrow (fun q hq => by have := (hrow q hq).1; omega)
      have hb6 := blk_keptE hgrow (g := w.heap.size) (t := 27) (cs := #[.slice (some ⟨b, off, none⟩) n c, .slice (some ⟨b2, off2, none⟩) m c']) (bA (bA hB4)) (fun e => by have := (hrow _ e.symm).1; omega)
      have HB6 := hI hb6
      clear hown hgrow hrow hb6
      go_wp2
      go_roundw
      case rel => exact ⟨j + 1, _, _, by omega, by go_num, rfl, HV2, HG2, by have := HYL.out; simp; omega, HB6, hx6⟩
      case measure => simp [intOf]; omega
     ·have hle : decide (lf ≤ lt) = false := decide_eq_false hlep
      go_wp2
      go_roundw
      case rel => exact ⟨j + 1, _, _, by omega, by go_num, rfl, hI (HV.out.ext (xA xR)), HG, by have := HYL.out; omega, hI (bA hB4), xA hxr⟩
      case measure => simp [intOf]; omega
    ·have hgt : decide (y < lf) = false := decide_eq_false hgtp
     rcases Decidable.em (lf ≤ min lt (y - 1)) with hlep | hlep
     ·have hle : decide (lf ≤ min lt (y - 1)) = true := decide_eq_true hlep
      go_wp2_with (at_builtin; refine wpList_append_sl elK len_encK one_encK rfl _ _ rfl rfl (base := (w.heap.size + 1)) (ys := ys) ?_ (xs := [(l1, l2, lf, min lt (y - 1))]) rfl ?_ ?_ ?_ ?_ ?_)
      ·exact HV.out.ext (xA (xA xR))
      ·exact blk_k1 (bN (by first|omega|simp)) (by rw [HX0.out, HX1.out]; first | done | rfl)
      ·have := HLN.out; simp; unfold maxLen; omega
      ·have := HLN.out; simp; omega
      ·first | omega | (simp; omega)
      intro v' w6 hown hgrow _
      have HV2 := hI hown
      have HG2 : Hid (GLk (ys ++ [(l1, l2, lf, min lt (y - 1))])) := hI (HG.out.snoc HGJ.out)
      have hrow := HV.out.row
      have hx6 : Ext w w6 := Ext.grown (xA (xA hxr)) hgrow (fun q hq => by have := (hrow q hq).1; omega)
      have hb6 := blk_keptE hgrow (g := w.heap.size) (t := 27) (cs := #[.slice (some ⟨b, off, none⟩) n c, .slice (some ⟨b2, off2, none⟩) m c']) (bA (bA hB4)) (fun e => by have := (hrow _ e.symm).1; omega)
      have HB6 := hI hb6
      clear hown hgrow hrow hb6
      go_wp2
      go_roundw
      case rel => exact ⟨j + 1, _, _, by omega, by go_num, rfl, HV2, HG2, by have := HYL.out; simp; omega, HB6, hx6⟩
      case measure => simp [intOf]; omega
     ·have hle : decide (lf ≤ min lt (y - 1)) = false := decide_eq_false hlep
      go_wp2
      go_roundw
      case rel => exact ⟨j + 1, _, _, by omega, by go_num, rfl, hI (HV.out.ext (xA xR)), HG, by have := HYL.out; omega, hI (bA hB4), xA hxr⟩
      case measure => simp [intOf]; omega
  ·obtain rfl : j = m := by omega
   go_wp2_with (at_builtin; refine wpList_append_sl elK len_encK one_encK rfl _ _ rfl rfl (base := (w.heap.size + 1)) (ys := ys) ?_ (xs := [(x, z, y, tt)]) rfl ?_ ?_ ?_ ?_ ?_)
   ·exact HV.out.ext (xA xR)
   ·exact blk_k1 (bN (by omega)) (by rw [HSX.out, HSZ.out]; first | done | rfl)
   ·have := HLN.out; simp; unfold maxLen; omega
   ·have := HLN.out; simp; omega
   ·first | omega | (simp; omega)
   intro v' w6 hown hgrow _
   have HV2 := hI hown
   have HG2 : Hid (GLk (ys ++ [(x, z, y, tt)])) := hI (HG.out.snoc HXL.out)
   have hrow := HV.out.row
   have hx6 : Ext w w6 := Ext.grown (xA hxr) hgrow (fun q hq => by have := (hrow q hq).1; omega)
   clear hown hgrow hrow
   go_wp2
   go_ret
   exact ⟨_, _, rfl, HV2.out.less (by omega), HG2.out, by have := HYL.out; simp; omega, hx6⟩
end Go.Proofs.YtlnliajnipniaaaGreatDoor
