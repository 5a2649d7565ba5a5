/- Names changed, as the specification does it: that it comes back, and how great the answer is. A place ended, as the specification does it: that it comes back, and how great the answer is. A place ended in a register, as the specification does it. A copy of a world, as the specification makes it; and what stands when a change can be made. -/
import Derived.Test.YtlnliajnipniaaaGreatDoorD1
import Derived.Test.YtlnliajnipniaaaGreatDoorA1
namespace Go.Proofs.YtlnliajnipniaaaGreatDoor
open Go.RowKit
attribute [local go_sem] ExtOf.cell ExtOf.frozen
def GNs (ns : List Nm) : Prop := ∀ x ∈ ns, GoodN x
theorem GNs.names {ns : List Nm} (h : GNs ns) : Names ns := fun j => by
 rcases Nat.lt_or_ge j ns.length with c | c
 ·have e : ns.getD j nmD = ns[j] := by simp [List.getD, c]
  rw [e]; exact h _ (List.getElem_mem c)
 ·have e : ns.getD j nmD = nmD := by simp [List.getD, c]
  rw [e]; exact ⟨by simp [nmD], by simp [nmD]⟩
theorem GNs.snoc {ns : List Nm} {n : Nm} (h : GNs ns) (hn : GoodN n) : GNs (ns ++ [n]) := fun x hx => by
 rcases List.mem_append.1 hx with c | c
 ·exact h x c
 ·rw [List.mem_singleton.1 c]; exact hn
set_option maxHeartbeats 3200000 in
theorem s_l09Code (A : Option Addr) (n c : Nat) (ns : List Nm) (s : ByteArray) (y : Int) (w : World) (h : SlAt w 5 encN A ns) (hn : n = ns.length) (hl : n ≤ 1048576) (hN : Names ns) (hs : s.size ≤ 1048576) :
  Calls Tryz.prog 179 #[.slice A n c, .string s, .int .i64 y] w fun e w' => ∃ m : Int, e = .returned (.int .i64 m) ∧ (m = 0 → nsB ns = true) ∧ Ext w w' := by
 have HA := hI (fun W (hW : Ext w W) => s_AreNames A n c ns W (h.ext hW) hn (by omega) hN)
 have HG := hI (fun W => s_l09Language s W hs)
 have HY := hI (fun W => s_l02Year y W)
 clear h hn hl hN hs
 cases h1 : nsB ns with
 | false =>
  rw [h1] at HA
  clear h1
  go_enter Tryz.func179, Tryz.ntmps179
  (go_wp2_with fail; refine (HA.out _ xR).mono ?_; rintro e w1 ⟨rfl, hx1⟩; obtain ⟨hc1, hf1, hs1⟩ := hx1.all; (try simp at hs1))
  go_wp2
  go_ret
  exact ⟨1, rfl, fun e => absurd e (by decide), hx1⟩
 | true =>
  rw [h1] at HA
  clear h1
  cases h2 : smL s.data.toList 2 3 with
  | false =>
   rw [h2] at HG
   clear h2
   go_enter Tryz.func179, Tryz.ntmps179
   (go_wp2_with fail; refine (HA.out _ xR).mono ?_; rintro e w1 ⟨rfl, hx1⟩; obtain ⟨hc1, hf1, hs1⟩ := hx1.all; (try simp at hs1))
   (go_wp2_with fail; refine (HG.out _).mono ?_; rintro e w2 ⟨rfl, hx2⟩; obtain ⟨hc2, hf2, hs2⟩ := hx2.all; (try simp at hs2))
   go_wp2
   go_ret
   exact ⟨1, rfl, fun e => absurd e (by decide), xT hx1 hx2⟩
  | true =>
   rw [h2] at HG
   clear h2
   cases h3 : inB y (-3000) 3000 with
   | false =>
    rw [h3] at HY
    clear h3
    go_enter Tryz.func179, Tryz.ntmps179
    (go_wp2_with fail; refine (HA.out _ xR).mono ?_; rintro e w1 ⟨rfl, hx1⟩; obtain ⟨hc1, hf1, hs1⟩ := hx1.all; (try simp at hs1))
    (go_wp2_with fail; refine (HG.out _).mono ?_; rintro e w2 ⟨rfl, hx2⟩; obtain ⟨hc2, hf2, hs2⟩ := hx2.all; (try simp at hs2))
    (go_wp2_with fail; refine (HY.out _).mono ?_; rintro e w' ⟨rfl, rfl⟩)
    go_wp2
    go_ret
    exact ⟨2, rfl, fun e => absurd e (by decide), xT hx1 hx2⟩
   | true =>
    rw [h3] at HY
    clear h3
    go_enter Tryz.func179, Tryz.ntmps179
    (go_wp2_with fail; refine (HA.out _ xR).mono ?_; rintro e w1 ⟨rfl, hx1⟩; obtain ⟨hc1, hf1, hs1⟩ := hx1.all; (try simp at hs1))
    (go_wp2_with fail; refine (HG.out _).mono ?_; rintro e w2 ⟨rfl, hx2⟩; obtain ⟨hc2, hf2, hs2⟩ := hx2.all; (try simp at hs2))
    (go_wp2_with fail; refine (HY.out _).mono ?_; rintro e w' ⟨rfl, rfl⟩)
    go_wp2
    go_ret
    exact ⟨0, rfl, fun _ => trivial, xT hx1 hx2⟩
set_option maxRecDepth 20000 in
set_option maxHeartbeats 12800000 in
theorem s_l09Official (A : Option Addr) (n c : Nat) (ns : List Nm) (la : ByteArray) (y : Int) (w : World) (h : SlAt w 5 encN A ns) (hn : n = ns.length) (hl : n ≤ 1000) :
  Calls Tryz.prog 180 #[.slice A n c, .string la, .int .i64 y] w fun e w' => ∃ m : Int, e = .returned (.int .i64 m) ∧ (m = -1 ∨ ∃ k : Nat, m = k ∧ k < n) ∧ Ext w w' := by
 have HS := hI h
 have HU := hI (fun W (hW : Ext w W) => s_l09Used A n c ns y W (h.ext hW) hn hl)
 have HN := hI hn
 clear h hn
 go_enter Tryz.func180, Tryz.ntmps180
 go_wp2_with fail
 refine (HU.out _ xR).mono ?_
 rintro e w1 ⟨v, rfl, hO, hx1⟩
 obtain ⟨A7, c7, rfl, hS7, _⟩ := hO.sl len_encI
 have hul : (usL ns y).length ≤ 1000 := Nat.le_trans (usTo_len _ _ _) (by rw [← HN.out]; omega)
 obtain ⟨p, hp⟩ : ∃ p, p = (usL ns y).length := ⟨_, rfl⟩
 rw [← hp] at hul ⊢
 have HPL := hI hp
 have HS70 := hI hS7
 have HX1 : Hid (Ext w w1) := hI hx1
 clear hS7 hO hp HU hx1
 go_wp2
 go_loopw [8] (fun i wr => ∃ j : Nat, j ≤ p ∧ i = .int .i64 j ∧ Ext w wr ∧ Ext w1 wr) (fun i _ => p - (intOf i).toNat)
 case atStart => exact ⟨0, by omega, rfl, HX1.out, Ext.refl _⟩
 case round =>
  obtain ⟨j, hj, rfl, hxr, hx1r⟩ := hrel
  obtain ⟨w5, rfl⟩ : ∃ x, x = wr := ⟨wr, rfl⟩
  by_cases hjl : j < p
  ·have hju : j < (usL ns y).length := by rw [← HPL.out]; exact hjl
   obtain ⟨b7, off7, hA7, hb7, c7u⟩ := (HS70.out.ext hx1r).it hju
   obtain ⟨i0, hi0, hi1, hi2⟩ := usTo_at ns y ns.length hju
   have hgu : (usL ns y).getD j 0 = (i0 : Int) := hi0
   rw [hgu] at c7u
   subst hA7
   have hin0 : i0 < n := by rw [HN.out]; exact hi1
   obtain ⟨b, off, hA, hb, d0, d1, d2, d3, d4⟩ := (HS.out.ext hxr).nm hi1
   subst hA
   clear hi0 hi1 hi2 hgu hju
   generalize ns.getD i0 nmD = l at *
   generalize tx l.1 = s0 at *
   generalize tx l.2.1 = s1 at *
   have h0i : (0 : Int) ≤ (i0 : Int) := by omega
   rcases Decidable.em (l.2.2.1 = 0) with hstp | hstp
   ·have hst : decide (l.2.2.1 = 0) = true := decide_eq_true hstp
    cases hq : (s1.toList == la.toList) with
    | false =>
     go_wp2
     go_roundw
     case rel => exact ⟨j + 1, by omega, by go_num, xA hxr, xA hx1r⟩
     case measure => simp [intOf]; omega
    | true =>
     go_wp2
     go_ret
     exact ⟨i0, rfl, .inr ⟨i0, rfl, hin0⟩, xA hxr⟩
   ·have hst : decide (l.2.2.1 = 0) = false := decide_eq_false hstp
    go_wp2
    go_roundw
    case rel => exact ⟨j + 1, by omega, by go_num, xA hxr, xA hx1r⟩
    case measure => simp [intOf]; omega
  ·obtain rfl : j = p := by omega
   go_wp2
   go_ret
   exact ⟨-1, rfl, .inl rfl, hxr⟩
set_option maxRecDepth 20000 in
set_option maxHeartbeats 12800000 in
theorem s_l09Rename (A : Option Addr) (n c : Nat) (ns : List Nm) (k : Nat) (y : Int) (te : List UInt8) (w : World) (h : SlAt w 5 encN A ns) (hn : n = ns.length) (hl : n ≤ 1000) (hk : k < n) (hN : Names ns) (ht : te.length ≤ 1048576) (hy : -100000 ≤ y ∧ y ≤ 100000) :
  Calls Tryz.prog 181 #[.slice A n c, .int .i64 (k : Int), .int .i64 y, .string (tx te)] w fun e w' => ∃ (v : Value) (ms : List Nm), e = .returned v ∧ OwN w' w.heap.size v ms ∧ GNs ms ∧ ms.length ≤ n + 1 ∧ Ext w w' := by
 have HS := hI h
 have HN := hI hn
 have hkn : k < ns.length := by omega
 have hbr := h.nm hkn
 have HGD : Hid (∀ j, GoodN (ns.getD j nmD)) := hI hN
 have HGK := hI (hN k)
 have HTE := hI ht
 obtain ⟨b, off, rfl, hb, d0, d1, d2, d3, d4⟩ := hbr
 clear h hn hN hkn ht
 obtain ⟨l, hle⟩ : ∃ l, l = ns.getD k nmD := ⟨_, rfl⟩
 rw [← hle] at d0 d1 d2 d3 d4 HGK
 obtain ⟨p0, p1, o2, o3, o4⟩ := l
 simp only at d0 d1 d2 d3 d4
 obtain ⟨o0, ho0⟩ : ∃ s, s = tx p0 := ⟨_, rfl⟩
 obtain ⟨o1, ho1⟩ : ∃ s, s = tx p1 := ⟨_, rfl⟩
 obtain ⟨st, hst⟩ : ∃ s, s = tx te := ⟨_, rfl⟩
 rw [← ho0] at d0
 rw [← ho1] at d1
 rw [← hst]
 have HO1 := hI ho1
 have HST := hI hst
 clear hle ho0 ho1 hst
 have h0k : (0 : Int) ≤ (k : Int) := by omega
 have hw : IntKind.i64.wrap (y - 1) = y - 1 := IntWalk.i64_in _ (by omega)
 clear hy
 go_enter Tryz.func181, Tryz.ntmps181
 go_wp2
 go_loopw [10, 11] (fun v i wr => ∃ (j : Nat) (ys : List Nm), j ≤ n ∧ i = .int .i64 j ∧ Hid (OwN wr (w.heap.size + 1) v ys) ∧ Hid (GNs ys) ∧ ys.length ≤ j ∧ Hid (Blk wr w.heap.size 117 #[.string o0, .string o1, .int .i64 o2, .int .i64 o3, .int .i64 o4]) ∧ Ext w wr) (fun _ i _ => n - (intOf i).toNat)
 case atStart => exact ⟨0, [], by omega, rfl, hI (Own.of_blk (xs := []) (bN (by first|omega|simp)) len_encN rfl (by first | exact Nat.le_refl _ | (simp; done) | (simp; omega)) (Nat.zero_le _)), hI (fun x hx => by simp at hx), Nat.le_refl _, hI (by exact Blk.eq (bA (bN (by omega))) (by rfl)), xA (xA xR)⟩
 case round =>
  obtain ⟨j, ys, hj, rfl, HV, HG, hyl, HB9, hxr⟩ := hrel
  obtain ⟨w5, rfl⟩ : ∃ x, x = wr := ⟨wr, rfl⟩
  have HYL := hI hyl
  have HLN : Hid (ys.length ≤ 1000) := hI (by omega)
  have hsr := hxr.size
  have hB9 := HB9.out
  have hl9 := hB9.lt
  have f90 := hB9.frozen 0
  have f91 := hB9.frozen 1
  have f92 := hB9.frozen 2
  have f93 := hB9.frozen 3
  have f94 := hB9.frozen 4
  have g0 : w5.cell? ⟨w.heap.size, 0, none⟩ = some (.string o0) := hB9.cell 0
  have g1 : w5.cell? ⟨w.heap.size, 1, none⟩ = some (.string o1) := hB9.cell 1
  have g2 : w5.cell? ⟨w.heap.size, 2, none⟩ = some (.int .i64 o2) := hB9.cell 2
  have g3 : w5.cell? ⟨w.heap.size, 3, none⟩ = some (.int .i64 o3) := hB9.cell 3
  have g4 : w5.cell? ⟨w.heap.size, 4, none⟩ = some (.int .i64 o4) := hB9.cell 4
  by_cases hjn : j < n
  ·have hjr : j < ns.length := by rw [← HN.out]; exact hjn
   obtain ⟨b2, off2, e2, hb2, d0, d1, d2, d3, d4⟩ := (HS.out.ext hxr).nm hjr
   injection e2 with e2
   injection e2 with e3 e4
   subst e3 e4
   have HGJ := hI (HGD.out j)
   generalize ns.getD j nmD = l at *
   obtain ⟨l0, l1, x2, x3, x4⟩ := l
   simp only at d0 d1 d2 d3 d4
   obtain ⟨x0, hx0⟩ : ∃ s, s = tx l0 := ⟨_, rfl⟩
   obtain ⟨x1, hx1⟩ : ∃ s, s = tx l1 := ⟨_, rfl⟩
   rw [← hx0] at d0
   rw [← hx1] at d1
   have HX0 := hI hx0
   have HX1 := hI hx1
   clear hx0 hx1 hjr hyl
   rcases Decidable.em ((j : Int) = (k : Int)) with hjkp | hjkp
   ·have hjk : decide ((j : Int) = (k : Int)) = true := decide_eq_true hjkp
    obtain rfl : j = k := by omega
    rcases Decidable.em (o3 = y) with hoyp | hoyp
    ·have hoy : decide (o3 = y) = true := decide_eq_true hoyp
     go_wp2
     go_roundw
     case rel => exact ⟨j + 1, _, by omega, by go_num, hI (HV.out.ext (xA xR)), HG, by have := HYL.out; omega, hI (bA hB9), xA hxr⟩
     case measure => simp [intOf]; omega
    ·have hoy : decide (o3 = y) = false := decide_eq_false hoyp
     go_wp2_with (at_builtin; refine wpList_append_sl elN len_encN one_encN rfl _ _ rfl rfl (base := (w.heap.size + 1)) (ys := ys) ?_ (xs := [(l0, l1, x2, o3, y - 1)]) rfl ?_ ?_ ?_ ?_ ?_)
     ·exact HV.out.ext (xA (xA xR))
     ·exact blk_n1 (bN (by first|omega|simp)) (by rw [HX0.out, HX1.out]; first | done | rfl)
     ·have := HLN.out; simp; unfold maxLen; omega
     ·have := HLN.out; simp; omega
     ·first | omega | (simp; omega)
     intro v' w6 hown hgrow _
     have HV2 := hI hown
     have HG2 : Hid (GNs (ys ++ [(l0, l1, x2, o3, y - 1)])) := hI (HG.out.snoc ⟨HGJ.out.1, HGJ.out.2⟩)
     have hrow := HV.out.row
     have hx6 : Ext w w6 := Ext.grown (xA (xA hxr)) hgrow (fun q hq => by have := (hrow q hq).1; omega)
     have hb6 := blk_keptE hgrow (g := w.heap.size) (t := 117) (cs := #[.string o0, .string o1, .int .i64 o2, .int .i64 o3, .int .i64 o4]) (bA (bA hB9)) (fun e => by have := (hrow _ e.symm).1; omega)
     have HB6 := hI hb6
     clear hown hgrow hrow hb6
     go_wp2
     go_roundw
     case rel => exact ⟨j + 1, _, by omega, by go_num, HV2, HG2, by have := HYL.out; simp; omega, HB6, hx6⟩
     case measure => simp [intOf]; omega
   ·have hjk : decide ((j : Int) = (k : Int)) = false := decide_eq_false hjkp
    go_wp2_with (at_builtin; refine wpList_append_sl elN len_encN one_encN rfl _ _ rfl rfl (base := (w.heap.size + 1)) (ys := ys) ?_ (xs := [(l0, l1, x2, x3, x4)]) rfl ?_ ?_ ?_ ?_ ?_)
    ·exact HV.out.ext (xA (xA xR))
    ·exact blk_n1 (bN (by first|omega|simp)) (by rw [HX0.out, HX1.out]; first | done | rfl)
    ·have := HLN.out; simp; unfold maxLen; omega
    ·have := HLN.out; simp; omega
    ·first | omega | (simp; omega)
    intro v' w6 hown hgrow _
    have HV2 := hI hown
    have HG2 : Hid (GNs (ys ++ [(l0, l1, x2, x3, x4)])) := hI (HG.out.snoc HGJ.out)
    have hrow := HV.out.row
    have hx6 : Ext w w6 := Ext.grown (xA (xA hxr)) hgrow (fun q hq => by have := (hrow q hq).1; omega)
    have hb6 := blk_keptE hgrow (g := w.heap.size) (t := 117) (cs := #[.string o0, .string o1, .int .i64 o2, .int .i64 o3, .int .i64 o4]) (bA (bA hB9)) (fun e => by have := (hrow _ e.symm).1; omega)
    have HB6 := hI hb6
    clear hown hgrow hrow hb6
    go_wp2
    go_roundw
    case rel => exact ⟨j + 1, _, by omega, by go_num, HV2, HG2, by have := HYL.out; simp; omega, HB6, hx6⟩
    case measure => simp [intOf]; omega
  ·obtain rfl : j = n := by omega
   go_wp2_with (at_builtin; refine wpList_append_sl elN len_encN one_encN rfl _ _ rfl rfl (base := (w.heap.size + 1)) (ys := ys) ?_ (xs := [(te, p1, 0, y, o4)]) rfl ?_ ?_ ?_ ?_ ?_)
   ·exact HV.out.ext (xA xR)
   ·exact blk_n1 (bN (by omega)) (by rw [HST.out, HO1.out]; first | done | rfl)
   ·have := HLN.out; simp; unfold maxLen; omega
   ·have := HLN.out; simp; omega
   ·first | omega | (simp; omega)
   intro v' w6 hown hgrow _
   have HV2 := hI hown
   have HG2 : Hid (GNs (ys ++ [(te, p1, 0, y, o4)])) := hI (HG.out.snoc ⟨HTE.out, HGK.out.2⟩)
   have hrow := HV.out.row
   have hx6 : Ext w w6 := Ext.grown (xA hxr) hgrow (fun q hq => by have := (hrow q hq).1; omega)
   clear hown hgrow hrow
   go_wp2
   go_ret
   exact ⟨_, _, rfl, HV2.out.less (by omega), HG2.out, by have := HYL.out; simp; omega, hx6⟩
set_option maxRecDepth 20000 in
set_option maxHeartbeats 6400000 in
theorem s_RenameIn (A : Option Addr) (n c : Nat) (ns : List Nm) (la te : List UInt8) (y : Int) (w : World) (h : SlAt w 5 encN A ns) (hn : n = ns.length) (hl : n ≤ 1048576) (hN : Names ns) (hla : la.length ≤ 1048576) (hte : te.length ≤ 1048576) (hy : -100000 ≤ y ∧ y ≤ 100000) :
  Calls Tryz.prog 157 #[.slice A n c, .string (tx la), .int .i64 y, .string (tx te)] w fun e w' => ∃ (v : Value) (m : Int), e = .returned (.tuple #[v, .int .i64 m]) ∧ (∃ ms : List Nm, OwN w' w.heap.size v ms ∧ GNs ms ∧ ms.length ≤ 1000) ∧ Ext w w' := by
 have HP := hI (fun W => s_IsPhrase (tx te) W (by rw [tx_size]; exact hte))
 have HC := hI (fun W (hW : Ext w W) => s_l09Code A n c ns (tx la) y W (h.ext hW) hn hl hN (by rw [tx_size]; exact hla))
 have HO := hI (fun (h1000 : n ≤ 1000) W (hW : Ext w W) => s_l09Official A n c ns (tx la) y W (h.ext hW) hn h1000)
 have HR := hI (fun (h1000 : n ≤ 1000) (k : Nat) (hk : k < n) W (hW : Ext w W) => s_l09Rename A n c ns k y te W (h.ext hW) hn h1000 hk hN hte hy)
 have HN := hI hn
 clear h hn hN hla hte hy
 generalize phB (tx te).data.toList = q at *
 generalize tx te = st at *
 generalize tx la = sl at *
 cases q with
 | false =>
  go_enter Tryz.func157, Tryz.ntmps157
  (go_wp2_with fail; refine (HP.out _).mono ?_; rintro e w1 ⟨rfl, hx1⟩; obtain ⟨hc1, hf1, hs1⟩ := hx1.all; (try simp at hs1))
  go_wp2
  go_ret2
  exact ⟨_, _, rfl, ⟨[], Own.nil _ _, fun x hx => by simp at hx, by simp⟩, hx1⟩
 | true =>
  go_enter Tryz.func157, Tryz.ntmps157
  (go_wp2_with fail; refine (HP.out _).mono ?_; rintro e w1 ⟨rfl, hx1⟩; obtain ⟨hc1, hf1, hs1⟩ := hx1.all; (try simp at hs1))
  go_wp2_with fail
  refine (HC.out _ hx1).mono ?_
  rintro e w2 ⟨m, rfl, hm, hx2⟩
  have HM := hI hm
  clear hm
  rcases Decidable.em (m = 0) with hm0p | hm0p
  ·have hm0 : decide (m = 0) = true := decide_eq_true hm0p
   obtain rfl := of_decide_eq_true hm0
   clear hm0
   have h1000 : n ≤ 1000 := by have := (nsB_iff.1 (HM.out rfl)).2; have := HN.out; omega
   go_wp2_with fail
   refine (HO.out h1000 _ (xT hx1 hx2)).mono ?_
   rintro e w3 ⟨m, rfl, hm, hx3⟩
   rcases hm with rfl | ⟨k, rfl, hk⟩
   ·go_wp2
    go_ret2
    exact ⟨_, _, rfl, ⟨[], Own.nil _ _, fun x hx => by simp at hx, by simp⟩, xT (xT hx1 hx2) hx3⟩
   ·have hk0 : ¬ ((k : Int) < 0) := by omega
    go_wp2_with fail
    refine (HR.out h1000 k hk _ (xT (xT hx1 hx2) hx3)).mono ?_
    rintro e w4 ⟨v, ms, rfl, hOm, hg, hml, hx4⟩
    obtain ⟨A4, c4, rfl, hS4, hc4, hc5, hr4⟩ := hOm.sl len_encN
    have HOM := hI hOm
    have HG := hI hg
    have HML := hI hml
    have hsz : w.heap.size ≤ w3.heap.size := by have h1 := hx1.size; have h2 := hx2.size; have h3 := hx3.size; omega
    have hm20 : (ms.length : Int) ≤ 1000000 := by omega
    clear hOm hg hml hS4 hc4 hc5 hr4
    by_cases h12 : ms.length ≤ 12
    ·have h12i : ¬ ((12 : Int) < (ms.length : Int)) := by omega
     go_wp2
     go_ret2
     exact ⟨_, _, rfl, ⟨ms, HOM.out.less hsz, HG.out, by omega⟩, xT (xT (xT hx1 hx2) hx3) hx4⟩
    ·have h12i : (12 : Int) < (ms.length : Int) := by omega
     go_wp2
     go_ret2
     exact ⟨_, _, rfl, ⟨[], Own.nil _ _, fun x hx => by simp at hx, by simp⟩, xT (xT (xT hx1 hx2) hx3) hx4⟩
  ·have hm0 : decide (m = 0) = false := decide_eq_false hm0p
   have HM0 := hI hm0
   go_wp2
   go_ret2
   exact ⟨_, _, rfl, ⟨[], Own.nil _ _, fun x hx => by simp at hx, by simp⟩, xT hx1 hx2⟩
theorem sl_row {w : World} {g : Nat} {t : TypeId} {cur cur' : Array Value} {ps : List Pl} {k : Nat} {p : Pl} (hB : Blk w g t cur') (hk : k < ps.length) (htk : cur.toList.take (ps.length * 5) = ps.flatMap encQ)
  (hsame : ∀ i, ¬ i / 5 = k → cur'[i]? = cur[i]?) (hnew : ∀ j u, (encQ p)[j]? = some u → cur'[k * 5 + j]? = some u) : SlAt w 5 encQ (some ⟨g, 0, none⟩) (ps.set k p) := fun _ => by
 refine ⟨g, 0, rfl, hB.lt, fun i x hi j u hj => ?_⟩
 rw [Nat.zero_add, hB.cell]
 have hj5 : j < 5 := by
  have := (List.getElem?_eq_some_iff.1 hj).1
  rwa [len_encQ] at this
 by_cases e : i = k
 ·subst e
  rw [List.getElem?_set_self hk] at hi
  injection hi with hi
  subst hi
  exact hnew j u hj
 ·rw [List.getElem?_set_ne (fun h => e h.symm)] at hi
  rw [hsame _ (by omega)]
  have hfm := flatMap_at (enc := encQ) (sz := 5) len_encQ ps i x j u hi hj
  rw [← htk, List.getElem?_take] at hfm
  split at hfm
  ·rw [← Array.getElem?_toList]; exact hfm
  ·cases hfm
theorem Places.set {w : World} {ps : List Pl} {k : Nat} {p : Pl} (h : Places w ps) (hp : PlAt w p) : Places w (ps.set k p) := fun q hq => by
 rcases List.mem_or_eq_of_mem_set hq with c | c
 ·exact h q c
 ·rw [c]; exact hp
theorem sget {xs : Array Value} {i j : Nat} {v : Value} (h : i < xs.size) : (xs.setIfInBounds i v)[j]? = if i = j then some v else xs[j]? := by
 rw [Array.getElem?_setIfInBounds]
 by_cases e : i = j
 ·rw [if_pos e, if_pos e, if_pos (by omega)]
 ·rw [if_neg e, if_neg e]
theorem set5_get {cur : Array Value} {k : Nat} {a b c d e : Value} (hs : k * 5 + 4 < cur.size) (i : Nat) :
  (((((cur.setIfInBounds (k * 5) a).setIfInBounds (k * 5 + 1) b).setIfInBounds (k * 5 + 2) c).setIfInBounds (k * 5 + 3) d).setIfInBounds (k * 5 + 4) e)[i]? = if k * 5 + 4 = i then some e else if k * 5 + 3 = i then some d else if k * 5 + 2 = i then some c else if k * 5 + 1 = i then some b else if k * 5 = i then some a else cur[i]? := by
 have h0 : k * 5 < cur.size := by omega
 have h1 : k * 5 + 1 < cur.size := by omega
 have h2 : k * 5 + 2 < cur.size := by omega
 have h3 : k * 5 + 3 < cur.size := by omega
 rw [sget (by simp only [Array.size_setIfInBounds]; exact hs), sget (by simp only [Array.size_setIfInBounds]; exact h3), sget (by simp only [Array.size_setIfInBounds]; exact h2), sget (by simp only [Array.size_setIfInBounds]; exact h1), sget h0]
theorem set5 {cur : Array Value} {k : Nat} {a b c d e : Value} (hs : k * 5 + 4 < cur.size) :
  (∀ i, ¬ i / 5 = k → (((((cur.setIfInBounds (k * 5) a).setIfInBounds (k * 5 + 1) b).setIfInBounds (k * 5 + 2) c).setIfInBounds (k * 5 + 3) d).setIfInBounds (k * 5 + 4) e)[i]? = cur[i]?) ∧
  (∀ j u, [a, b, c, d, e][j]? = some u → (((((cur.setIfInBounds (k * 5) a).setIfInBounds (k * 5 + 1) b).setIfInBounds (k * 5 + 2) c).setIfInBounds (k * 5 + 3) d).setIfInBounds (k * 5 + 4) e)[k * 5 + j]? = some u) := by
 refine ⟨fun i hi => ?_, fun j u hj => ?_⟩
 ·rw [set5_get hs, if_neg (by omega), if_neg (by omega), if_neg (by omega), if_neg (by omega), if_neg (by omega)]
 ·rw [set5_get hs]
  rcases j with _ | _ | _ | _ | _ | j
  ·rw [if_neg (by omega), if_neg (by omega), if_neg (by omega), if_neg (by omega), if_pos (by omega)]; exact hj
  ·rw [if_neg (by omega), if_neg (by omega), if_neg (by omega), if_pos (by omega)]; exact hj
  ·rw [if_neg (by omega), if_neg (by omega), if_pos (by omega)]; exact hj
  ·rw [if_neg (by omega), if_pos (by omega)]; exact hj
  ·rw [if_pos (by omega)]; exact hj
  ·simp at hj
theorem rgC_zero {D : List Pd} {x : List UInt8} {y : Int} (h : rgC D x y = 0) : rgB D = true ∧ ¬ fnxP D x < 0 := by
 unfold rgC at h
 split at h
 ·rename_i h1
  split at h
  ·split at h
   ·cases h
   ·rename_i h3; exact ⟨h1.1, h3⟩
  ·cases h
 ·cases h
set_option maxRecDepth 20000 in
set_option maxHeartbeats 12800000 in
theorem s_l11End (p : Pl) (y : Int) (w : World) (hp : PlAt w p) (hl : p.2.2.2.2.2.2.length ≤ 1000) (hy : -100000 ≤ y ∧ y ≤ 100000) :
  Calls Tryz.prog 160 #[.agg #[.string (tx p.1), .int .i64 p.2.1, .int .i64 p.2.2.1, .int .i64 p.2.2.2.1, .slice p.2.2.2.2.1 p.2.2.2.2.2.2.length p.2.2.2.2.2.1], .int .i64 y] w fun e w' => ∃ p' : Pl, e = .returned (plVd p') ∧ PlAt w' p' ∧ NewRow w.heap.size p' ∧ Ext w w' := by
 have HS := hI hp.1
 have HGD := hI hp.2.2.2.2
 have HP1 := hI hp.2.2.1
 clear hp
 obtain ⟨q0, hq0⟩ : ∃ s, s = tx p.1 := ⟨_, rfl⟩
 rw [← hq0]
 have HQ0 := hI hq0
 clear hq0
 generalize p.2.1 = q1 at *
 generalize p.2.2.1 = q2 at *
 generalize p.2.2.2.1 = q3 at *
 generalize p.2.2.2.2.1 = A at *
 generalize p.2.2.2.2.2.1 = c at *
 generalize p.2.2.2.2.2.2 = ns at *
 obtain ⟨n, hn⟩ : ∃ n, n = ns.length := ⟨_, rfl⟩
 have HN := hI hn
 rw [← hn] at hl ⊢
 clear hn
 have hw : IntKind.i64.wrap (y - 1) = y - 1 := IntWalk.i64_in _ (by omega)
 clear hy
 go_enter Tryz.func160, Tryz.ntmps160
 go_wp2
 go_loopw [5, 6] (fun v i wr => ∃ (j : Nat) (ys : List Nm), j ≤ n ∧ i = .int .i64 j ∧ Hid (OwN wr (w.heap.size + 2) v ys) ∧ Hid (GNs ys) ∧ ys.length ≤ j ∧ Hid (Blk wr w.heap.size 57 #[.string q0, .int .i64 q1, .int .i64 q2, .int .i64 q3, .slice A n c]) ∧ Hid (Blk wr (w.heap.size + 1) 57 #[.string .empty, .int .i64 0, .int .i64 0, .int .i64 0, .slice none 0 0]) ∧ Ext w wr) (fun _ i _ => n - (intOf i).toNat)
 case atStart => exact ⟨0, [], by omega, rfl, hI (Own.of_blk (xs := []) (bN (by first|omega|simp)) len_encN rfl (by first | exact Nat.le_refl _ | (simp; done) | (simp; omega)) (Nat.zero_le _)), hI (fun x hx => by simp at hx), Nat.le_refl _, hI (Blk.eq (bA (bA (bN (by omega)))) (by rfl)), hI (Blk.eq (bA (bN (by first|omega|simp))) (by rfl)), xA (xA (xA xR))⟩
 case round =>
  obtain ⟨j, ys, hj, rfl, HV, HG, hyl, HB2, HB4, hxr⟩ := hrel
  obtain ⟨w5, rfl⟩ : ∃ x, x = wr := ⟨wr, rfl⟩
  have HYL := hI hyl
  have HLN : Hid (ys.length ≤ 1000) := hI (by omega)
  have hsr := hxr.size
  have hB2 := HB2.out
  have hl2 := hB2.lt
  have hB4 := HB4.out
  have hl4 := hB4.lt
  have f20 := hB2.frozen 0
  have f21 := hB2.frozen 1
  have f22 := hB2.frozen 2
  have f23 := hB2.frozen 3
  have f24 := hB2.frozen 4
  have f40 := hB4.frozen 0
  have f41 := hB4.frozen 1
  have f42 := hB4.frozen 2
  have f43 := hB4.frozen 3
  have f44 := hB4.frozen 4
  have g0 : w5.cell? ⟨w.heap.size, 0, none⟩ = some (.string q0) := hB2.cell 0
  have g1 : w5.cell? ⟨w.heap.size, 1, none⟩ = some (.int .i64 q1) := hB2.cell 1
  have g2 : w5.cell? ⟨w.heap.size, 2, none⟩ = some (.int .i64 q2) := hB2.cell 2
  have g3 : w5.cell? ⟨w.heap.size, 3, none⟩ = some (.int .i64 q3) := hB2.cell 3
  have g4 : w5.cell? ⟨w.heap.size, 4, none⟩ = some (.slice A n c) := hB2.cell 4
  have k0 : w5.cell? ⟨w.heap.size + 1, 0, none⟩ = some (.string .empty) := hB4.cell 0
  have k1 : w5.cell? ⟨w.heap.size + 1, 1, none⟩ = some (.int .i64 0) := hB4.cell 1
  have k2 : w5.cell? ⟨w.heap.size + 1, 2, none⟩ = some (.int .i64 0) := hB4.cell 2
  have k3 : w5.cell? ⟨w.heap.size + 1, 3, none⟩ = some (.int .i64 0) := hB4.cell 3
  have k4 : w5.cell? ⟨w.heap.size + 1, 4, none⟩ = some (.slice none 0 0) := hB4.cell 4
  by_cases hjn : j < n
  ·have hjr : j < ns.length := by rw [← HN.out]; exact hjn
   obtain ⟨b, off, rfl, hb, d0, d1, d2, d3, d4⟩ := (HS.out.ext hxr).nm hjr
   have HGJ := hI (HGD.out j)
   generalize ns.getD j nmD = l at *
   obtain ⟨l0, l1, x2, x3, x4⟩ := l
   simp only at d0 d1 d2 d3 d4
   obtain ⟨x0, hx0⟩ : ∃ s, s = tx l0 := ⟨_, rfl⟩
   obtain ⟨x1, hx1⟩ : ∃ s, s = tx l1 := ⟨_, rfl⟩
   rw [← hx0] at d0
   rw [← hx1] at d1
   have HX0 := hI hx0
   have HX1 := hI hx1
   clear hx0 hx1 hjr hyl
   rcases Decidable.em (x3 ≤ min x4 (y - 1)) with hlep | hlep
   ·have hle : decide (x3 ≤ min x4 (y - 1)) = true := decide_eq_true hlep
    go_wp2_with (at_builtin; refine wpList_append_sl elN len_encN one_encN rfl _ _ rfl rfl (base := (w.heap.size + 2)) (ys := ys) ?_ (xs := [(l0, l1, x2, x3, min x4 (y - 1))]) rfl ?_ ?_ ?_ ?_ ?_)
    ·exact HV.out.ext (xA (xA xR))
    ·exact blk_n1 (bN (by first|omega|simp)) (by rw [HX0.out, HX1.out]; first | done | rfl)
    ·have := HLN.out; simp; unfold maxLen; omega
    ·have := HLN.out; simp; omega
    ·first | omega | (simp; omega)
    intro v' w6 hown hgrow _
    have HV2 := hI hown
    have HG2 : Hid (GNs (ys ++ [(l0, l1, x2, x3, min x4 (y - 1))])) := hI (HG.out.snoc ⟨HGJ.out.1, HGJ.out.2⟩)
    have hrow := HV.out.row
    have hx6 : Ext w w6 := Ext.grown (xA (xA hxr)) hgrow (fun q hq => by have := (hrow q hq).1; omega)
    have HB26 := hI (blk_keptE hgrow (g := w.heap.size) (t := 57) (cs := #[.string q0, .int .i64 q1, .int .i64 q2, .int .i64 q3, .slice (some ⟨b, off, none⟩) n c]) (bA (bA hB2)) (fun e => by have := (hrow _ e.symm).1; omega))
    have HB46 := hI (blk_keptE hgrow (g := w.heap.size + 1) (t := 57) (cs := #[.string .empty, .int .i64 0, .int .i64 0, .int .i64 0, .slice none 0 0]) (bA (bA hB4)) (fun e => by have := (hrow _ e.symm).1; omega))
    clear hown hgrow hrow
    go_wp2
    go_roundw
    case rel => exact ⟨j + 1, _, by omega, by go_num, HV2, HG2, by have := HYL.out; simp; omega, HB26, HB46, hx6⟩
    case measure => simp [intOf]; omega
   ·have hle : decide (x3 ≤ min x4 (y - 1)) = false := decide_eq_false hlep
    go_wp2
    go_roundw
    case rel => exact ⟨j + 1, _, by omega, by go_num, hI (HV.out.ext (xA xR)), HG, by have := HYL.out; omega, hI (bA hB2), hI (bA hB4), xA hxr⟩
    case measure => simp [intOf]; omega
  ·obtain rfl : j = n := by omega
   obtain ⟨A9, c9, rfl, hS9, hc9, hc9m, hr9⟩ := HV.out.sl len_encN
   have HS9 := hI hS9
   have HR9 := hI hr9
   have HC9 := hI hc9
   clear hS9 hr9 hc9 hc9m
   obtain ⟨yl, hyl9⟩ : ∃ yl, yl = ys.length := ⟨_, rfl⟩
   rw [← hyl9]
   have HYL9 := hI hyl9
   clear hyl9
   go_wp2
   have hB49 := HB4.out
   have hne : ∀ z : Addr, A9 = some z → ¬ z.block = w.heap.size + 1 := fun z hz => by have := (HR9.out z hz).1; omega
   refine ret_pl (b0 := w.heap.size + 1) (t := 57) (v := .agg #[.string q0, .int .i64 q1, .int .i64 q2, .int .i64 (min q3 (y - 1)), .slice A9 yl c9]) (Blk.eq (bS (bS (bS (bS (bS hB49))))) (by rfl)) rfl (by intro W' r0 r1 r2 r3 r4; simp [results, Tryz.results160, go_sem, r0, r1, r2, r3, r4]) ⟨(p.1, q1, q2, min q3 (y - 1), A9, c9, ys), ?_, ⟨((((HS9.out.setFar hne _).setFar hne _).setFar hne _).setFar hne _).setFar hne _, HC9.out, HP1.out, by show ys.length ≤ 1048576; omega, HG.out.names⟩, fun z hz => by have := (HR9.out z hz).1; omega, xC (by omega) (xC (by omega) (xC (by omega) (xC (by omega) (xC (by omega) hxr))))⟩
   show _ = Ending.returned (.agg #[.string (tx p.1), .int .i64 q1, .int .i64 q2, .int .i64 (min q3 (y - 1)), .slice A9 ys.length c9])
   rw [← HQ0.out, ← HYL9.out]
set_option maxRecDepth 20000 in
set_option maxHeartbeats 12800000 in
theorem s_EndPlace (A : Option Addr) (n c : Nat) (ps : List Pl) (x : List UInt8) (y : Int) (w : World) (h : SlAt w 5 encQ A ps) (hp : Places w ps) (hn : n = ps.length) (hl : ps.length ≤ 1000) (hx : x.length ≤ 1048576) (hy : -100000 ≤ y ∧ y ≤ 100000) :
  Calls Tryz.prog 121 #[.slice A n c, .string (tx x), .int .i64 y] w fun e w' => ∃ (v : Value) (m : Int) (ps' : List Pl), e = .returned (.tuple #[v, .int .i64 m]) ∧ OwQ w' w.heap.size v ps' ∧ Places w' ps' ∧ ps'.length ≤ 1000 ∧ Ext w w' := by
 have HC := hI (fun W (hW : Ext w W) => s_l11Code A n c ps x y W (h.ext hW) (hp.ext hW) hn (by omega) hx)
 have HF := hI (fun W (hW : Ext w W) => s_l11Find A n c ps x W (h.ext hW) hn (by omega))
 have hw : IntKind.i64.wrap (y - 1) = y - 1 := IntWalk.i64_in _ (by omega)
 have HN := hI hn
 have HS := hI h
 have HPP := hI hp
 have hn1 : n ≤ 1000 := by omega
 rcases Decidable.em (rgC (psD ps) x y = 0) with hz | hz
 ·obtain ⟨hrg, hf⟩ := rgC_zero hz
  obtain ⟨k, e1, hk, _⟩ := has_some hf
  rw [psD_len] at hk
  have hkn : k < n := by rw [hn]; exact hk
  rw [hz] at HC
  rw [e1] at HF
  have hpl := rg_mem hrg (pl_mem hk)
  have hnm : (ps.getD k plD).2.2.2.2.2.2.length ≤ 1000 := by
   unfold plB at hpl
   simp only [Bool.and_eq_true] at hpl
   have := (nsB_iff.1 hpl.2.2.2.1).2
   simp only [pdOf] at this
   omega
  have hvk := hp _ (pl_mem hk)
  obtain ⟨b, off, hA, hb, p0, p1, p2, p3, p4⟩ := h.pl hk
  have HE := hI (fun W => s_l11Exists (ps.getD k plD) (y - 1) W)
  have HEN := hI (fun W (hW : Ext w W) => s_l11End (ps.getD k plD) y W (hvk.ext hW) hnm hy)
  have HLN : Hid (ps.length ≤ 1000) := hI hl
  have HK := hI hk
  subst hA
  clear h hp hn hl hx hy hz hrg hf hpl e1 hnm hvk hk
  unfold plV at HE
  generalize exB (pdOf (ps.getD k plD)) (y - 1) = E1 at *
  generalize ps.getD k plD = q at *
  generalize tx q.1 = u0 at *
  generalize q.2.1 = u1 at *
  generalize q.2.2.1 = u2 at *
  generalize q.2.2.2.1 = u3 at *
  generalize q.2.2.2.2.1 = u4 at *
  generalize q.2.2.2.2.2.2.length = u5 at *
  generalize q.2.2.2.2.2.1 = u6 at *
  generalize tx x = sx at *
  have h0k : (0 : Int) ≤ (k : Int) := by omega
  cases E1 with
  | false =>
   go_enter Tryz.func121, Tryz.ntmps121
   (go_wp2_with fail; refine (HC.out _ xR).mono ?_; rintro e w1 ⟨rfl, hx1⟩; obtain ⟨hc1, hf1, hs1⟩ := hx1.all; (try simp at hs1))
   (go_wp2_with fail; refine (HF.out _ hx1).mono ?_; rintro e w' ⟨rfl, rfl⟩)
   (go_wp2_with fail; refine (HE.out _).mono ?_; rintro e w2 ⟨rfl, hx2⟩; obtain ⟨hc2, hf2, hs2⟩ := hx2.all; (try simp at hs2))
   go_wp2
   go_ret2
   exact ⟨_, _, [], rfl, Own.nil _ _, fun p hp => by simp at hp, by simp, xT hx1 hx2⟩
  | true =>
   go_enter Tryz.func121, Tryz.ntmps121
   (go_wp2_with fail; refine (HC.out _ xR).mono ?_; rintro e w1 ⟨rfl, hx1⟩; obtain ⟨hc1, hf1, hs1⟩ := hx1.all; (try simp at hs1))
   (go_wp2_with fail; refine (HF.out _ hx1).mono ?_; rintro e w' ⟨rfl, rfl⟩)
   (go_wp2_with fail; refine (HE.out _).mono ?_; rintro e w2 ⟨rfl, hx2⟩; obtain ⟨hc2, hf2, hs2⟩ := hx2.all; (try simp at hs2))
   have HX2 : Hid (Ext w w2) := hI (xT hx1 hx2)
   have hs12 : w.heap.size ≤ w2.heap.size := HX2.out.size
   go_wp2_with (at_builtin; refine wpList_append_sl elQd len_encQ one_encQ rfl _ _ rfl rfl (base := w2.heap.size) (ys := []) (Own.of_blk (xs := []) (bN (by omega)) len_encQ rfl (by first | exact Nat.le_refl _ | (simp; done) | (simp; omega)) (Nat.zero_le _)) (xs := ps) (by rw [← HN.out]; first | done | rfl) (HS.out.ext (xA (xT hx1 hx2))) ?_ ?_ ?_ ?_)
   ·have := HLN.out; simp; unfold maxLen; omega
   ·have := HLN.out; simp; omega
   ·first | omega | (simp; done) | (simp; omega)
   intro v6 w6 hown hgrow _
   have hO6 : OwQ w6 w2.heap.size v6 ps := hown
   have hx6 : Ext w2 w6 := Ext.grown (xA xR) hgrow (fun q hq => by rw [own_is hq]; first | exact Nat.le_refl _ | (simp; done) | (simp; omega))
   have hX6 : Ext w w6 := HX2.out.trans hx6
   have hkp := HK.out
   obtain ⟨g, cap, cur, rfl, hgb, hB6, hnc, hcm, hcs, htk⟩ := hO6.open_ (by omega)
   have hsz : k * 5 + 4 < cur.size := by omega
   have HB6 := hI hB6
   have HTK := hI htk
   have HX6 := hI hX6
   have hl6 := hB6.lt
   obtain ⟨y0, v0⟩ : ∃ u, w6.cell? ⟨g, k * 5, none⟩ = some u := ⟨cur[k * 5], by rw [HB6.out.cell]; exact Array.getElem?_eq_getElem (by omega)⟩
   obtain ⟨y1, v1⟩ : ∃ u, w6.cell? ⟨g, k * 5 + 1, none⟩ = some u := ⟨cur[k * 5 + 1], by rw [HB6.out.cell]; exact Array.getElem?_eq_getElem (by omega)⟩
   obtain ⟨y2, v2⟩ : ∃ u, w6.cell? ⟨g, k * 5 + 2, none⟩ = some u := ⟨cur[k * 5 + 2], by rw [HB6.out.cell]; exact Array.getElem?_eq_getElem (by omega)⟩
   obtain ⟨y3, v3⟩ : ∃ u, w6.cell? ⟨g, k * 5 + 3, none⟩ = some u := ⟨cur[k * 5 + 3], by rw [HB6.out.cell]; exact Array.getElem?_eq_getElem (by omega)⟩
   obtain ⟨y4, v4⟩ : ∃ u, w6.cell? ⟨g, k * 5 + 4, none⟩ = some u := ⟨cur[k * 5 + 4], by rw [HB6.out.cell]; exact Array.getElem?_eq_getElem (by omega)⟩
   have r0 := (hX6.cell b _ hb).trans p0
   have r1 := (hX6.cell b _ hb).trans p1
   have r2 := (hX6.cell b _ hb).trans p2
   have r3 := (hX6.cell b _ hb).trans p3
   have r4 := (hX6.cell b _ hb).trans p4
   have hcap : (ps.length : Int) ≤ (cap : Int) := by omega
   obtain ⟨n6, hn6⟩ : ∃ n6, n6 = ps.length := ⟨_, rfl⟩
   rw [← hn6] at hcap ⊢
   have hk6 : k < n6 := by omega
   have HN6 := hI hn6
   have hcapn : n6 ≤ cap := by omega
   clear hown hgrow hO6 hX6 hB6 htk hkp hn6 hnc hcm p0 p1 p2 p3 p4 HE HC HF
   go_wp2_with fail
   refine (HEN.out _ (xT (xT hx1 hx2) hx6)).mono ?_
   rintro e w7 ⟨p', rfl, hpa, hnr, hx7⟩
   have HPA := hI hpa
   have HNR := hI hnr
   have HP' : Hid (plVd p' = .agg #[.string (tx p'.1), .int .i64 p'.2.1, .int .i64 p'.2.2.1, .int .i64 p'.2.2.2.1, .slice p'.2.2.2.2.1 p'.2.2.2.2.2.2.length p'.2.2.2.2.2.1]) := hI rfl
   rw [HP'.out]
   have HEQ : Hid (encQ p' = [.string (tx p'.1), .int .i64 p'.2.1, .int .i64 p'.2.2.1, .int .i64 p'.2.2.2.1, .slice p'.2.2.2.2.1 p'.2.2.2.2.2.2.length p'.2.2.2.2.2.1]) := hI rfl
   generalize tx p'.1 = a0 at *
   generalize p'.2.1 = a1 at *
   generalize p'.2.2.1 = a2 at *
   generalize p'.2.2.2.1 = a3 at *
   generalize p'.2.2.2.2.2.2.length = a5 at *
   generalize p'.2.2.2.2.2.1 = a6 at *
   obtain ⟨a4, ha4⟩ : ∃ a4, a4 = p'.2.2.2.2.1 := ⟨_, rfl⟩
   rw [← ha4] at HEQ ⊢
   have HA4 := hI ha4
   have hB7 := HB6.out.ext hx7
   have f0 := hB7.frozen (k * 5)
   have z0 : w7.cell? ⟨g, k * 5, none⟩ = some y0 := (hx7.cell g _ hl6).trans v0
   have f1 := hB7.frozen (k * 5 + 1)
   have z1 : w7.cell? ⟨g, k * 5 + 1, none⟩ = some y1 := (hx7.cell g _ hl6).trans v1
   have f2 := hB7.frozen (k * 5 + 2)
   have z2 : w7.cell? ⟨g, k * 5 + 2, none⟩ = some y2 := (hx7.cell g _ hl6).trans v2
   have f3 := hB7.frozen (k * 5 + 3)
   have z3 : w7.cell? ⟨g, k * 5 + 3, none⟩ = some y3 := (hx7.cell g _ hl6).trans v3
   have f4 := hB7.frozen (k * 5 + 4)
   have z4 : w7.cell? ⟨g, k * 5 + 4, none⟩ = some y4 := (hx7.cell g _ hl6).trans v4
   have hg6 : w6.heap.size ≤ w7.heap.size := hx7.size
   have HX7 : Hid (Ext w w7) := hI (HX6.out.trans hx7)
   clear hpa hnr ha4 HP' v0 v1 v2 v3 v4
   go_wp2_with fail
   have hX7 := HX7.out
   have hgw : w.heap.size ≤ g := Nat.le_trans hs12 hgb
   have hgne : ∀ z : Addr, p'.2.2.2.2.1 = some z → ¬ z.block = g := fun z hz => by have := HNR.out z hz; omega
   have hsame := (set5 (a := .string a0) (b := .int .i64 a1) (c := .int .i64 a2) (d := .int .i64 a3) (e := .slice a4 a5 a6) hsz)
   refine (s_l11Own (some ⟨g, 0, none⟩) n6 cap (ps.set k p') _ (sl_row (cur := cur) (bS (bS (bS (bS (bS hB7))))) HK.out HTK.out hsame.1 (fun j u hj => hsame.2 j u (by rw [HEQ.out] at hj; exact hj))) (Places.set (HPP.out.ext (xC hgw (xC hgw (xC hgw (xC hgw (xC hgw hX7)))))) ⟨((((HPA.out.1.setFar hgne _).setFar hgne _).setFar hgne _).setFar hgne _).setFar hgne _, HPA.out.2⟩) (by rw [List.length_set, HN6.out]) (by rw [List.length_set]; have := HLN.out; omega)).mono ?_
   rintro e w9 ⟨⟨v9, ps9, rfl, hnz, hO9, hD9, hP9, _, _⟩, hx9⟩
   have HO9 := hI hO9
   have HP9 := hI hP9
   have HL9 : Hid (ps9.length ≤ 1000) := hI (by have := congrArg List.length hD9; rw [psD_len, psD_len, List.length_set] at this; have := HLN.out; omega)
   have hs9 : w.heap.size ≤ w7.heap.size := HX7.out.size
   have hX9 : Ext w w9 := Ext.trans (xC hgw (xC hgw (xC hgw (xC hgw (xC hgw hX7))))) hx9
   have HX9 := hI hX9
   clear hnz hO9 hD9 hP9 hX9 hsame hX7 hB7 hgne
   go_wp2
   go_ret2
   exact ⟨_, _, ps9, rfl, HO9.out.less (by first | omega | (simp; omega)), HP9.out, HL9.out, HX9.out⟩
 ·have hzd : decide (rgC (psD ps) x y = 0) = false := decide_eq_false hz
  clear h hp hn hl hx hy HF HN HS HPP hn1 hw
  generalize rgC (psD ps) x y = r at *
  generalize tx x = sx at *
  go_enter Tryz.func121, Tryz.ntmps121
  (go_wp2_with fail; refine (HC.out _ xR).mono ?_; rintro e w1 ⟨rfl, hx1⟩; obtain ⟨hc1, hf1, hs1⟩ := hx1.all; (try simp at hs1))
  go_wp2
  go_ret2
  exact ⟨_, _, [], rfl, Own.nil _ _, fun p hp => by simp at hp, by simp, hx1⟩
theorem wp_append_fresh {α : Type} {enc : α → List Value} {sz by_ : Nat} {ts te : TypeId} {P : Program} (H : ElT P ts te sz by_) (hk : ∀ x, (enc x).length = sz) (h1 : ∀ x, ∀ u ∈ enc x, u.oneCell' = true)
  {w : World} {o : Oper} {a : Act} {K : Act → World → Prop} {Q : Exit → Act → World → Prop} (s x : Operand)
  (ho : o.op = .call { callee := .builtin .append, args := #[s, x], argTypes := #[ts, ts] }) {base g : Nat} (hs : a.eval s = .slice (some ⟨g, 0, none⟩) 0 0) (hb : Blk w g te #[]) (hg : base ≤ g)
  {A : Option Addr} {c : Nat} {xs : List α} (hx : a.eval x = .slice A xs.length c) (hsl : SlAt w sz enc A xs) (h63 : xs.length ≤ maxLen) (hbytes : xs.length * by_ ≤ 140737488355328) (hbase : base ≤ w.heap.size)
  (h : ∀ v' w', Own enc sz te w' base v' xs → Ext w w' → K (a.put o.dst v') w') : o.wp P a w K Q := by
 have hown : Own enc sz te w base (.slice (some ⟨g, 0, none⟩) 0 0) ([] : List α) := Own.of_blk (xs := []) hb hk rfl hg (Nat.zero_le _)
 obtain ⟨v', w', hr, h2, h3, _⟩ := run_append_sl (c := c) H o.type hk h1 hown hsl (by simpa using h63) (by simpa using hbytes) hbase
 refine Lib.wp_append_run w s x ts ts ho _ _ hs hx v' w' hr (h v' w' (by simpa using h2) ?_)
 obtain ⟨hu, ⟨i, z, hi, hz, hsz, hby, hzs⟩, h0⟩ := H
 have hfl := flatMap_len hk xs
 rcases A with _ | ad
 ·have e : (Builtin.append_ #[ts, ts] o.type #[.slice (some ⟨g, 0, none⟩) 0 0, .slice none xs.length c]).run P w = .ok (.slice (some ⟨g, 0, none⟩) 0 0) w := by
   have hx0 : xs = [] := by
    rcases xs with _ | ⟨x, xs⟩
    ·rfl
    ·obtain ⟨_, _, e, _⟩ := hsl (by simp); cases e
   subst hx0
   simp [Builtin.append_, run_underlying hu, sizeOf, typeInfo, hi, Builtin.lenOf, Builtin.firstCells, storeCells]
  rw [e] at hr
  injection hr with _ e2
  rw [← e2]
  exact Ext.refl _
 ·by_cases hm : xs.length = 0
  ·have hx0 : xs = [] := List.length_eq_zero_iff.1 hm
   subst hx0
   have e : (Builtin.append_ #[ts, ts] o.type #[.slice (some ⟨g, 0, none⟩) 0 0, .slice (some ad) 0 c]).run P w = .ok (.slice (some ⟨g, 0, none⟩) 0 0) w := by
    simp [Builtin.append_, run_underlying hu, sizeOf, typeInfo, hi, Builtin.lenOf, Builtin.firstCells, loadCells, loadCellsFrom, storeCells]
   rw [show ([] : List α).length = 0 from rfl, e] at hr
   injection hr with _ e2
   rw [← e2]
   exact Ext.refl _
  ·have hcells : ∀ j u, (xs.flatMap enc)[j]? = some u → w.cell? (ad.add j) = some u := fun j u hj => by
    have hj' : j < xs.length * sz := by rw [← hfl]; exact (List.getElem?_eq_some_iff.1 hj).1
    obtain ⟨b, off, e, _, hc⟩ := hsl (by omega)
    injection e with e
    subst e
    have hq : j / sz < xs.length := Nat.div_lt_of_lt_mul (by rw [Nat.mul_comm]; exact hj')
    have hmm : j % sz < sz := Nat.mod_lt _ h0
    have hdm : j / sz * sz + j % sz = j := by rw [Nat.mul_comm]; exact Nat.div_add_mod j sz
    have hlen : j % sz < (enc xs[j / sz]).length := by rw [hk]; exact hmm
    have ha := flatMap_at hk xs (j / sz) xs[j / sz] (j % sz) _ (List.getElem?_eq_getElem hq) (List.getElem?_eq_getElem hlen)
    rw [hdm, hj] at ha
    have hcc := hc (j / sz) xs[j / sz] (List.getElem?_eq_getElem hq) (j % sz) _ (List.getElem?_eq_getElem hlen)
    rw [Nat.add_assoc, hdm] at hcc
    injection ha with ha
    rw [ha, ← hcc]
    unfold Addr.add
    split
    ·rename_i hz; subst hz; rfl
    ·rfl
   have e := run_append_grow (P := P) w ts o.type te i z hu hi hz ⟨g, 0, none⟩ 0 0 [] (by simp) (fun j v hj => by simp at hj) ad xs.length c (xs.flatMap enc) (by rw [hfl, hsz]) hcells (by omega) (by simp only [maxLen] at h63; omega) (growslice_fits (by omega) (by rw [hby]; simpa using hbytes))
   rw [e] at hr
   injection hr with _ e2
   rw [← e2]
   exact (Ext.refl _).drew.alloc _
def RdA (e : Ending) (w' : World) : Prop := ∃ (A1 : Option Addr) (n1 c1 : Nat) (A2 : Option Addr) (m2 c2 : Nat) (q : Int) (ps : List Pl) (L : List Lk), e = .returned (.tuple #[.agg #[.slice A1 n1 c1, .slice A2 m2 c2], .int .i64 q]) ∧ WIn w' A1 A2 n1 c1 m2 c2 ps L ∧ n1 ≤ 1000 ∧ m2 ≤ 1000
def CodeOk (D : List Pd) (L : List Lk) (y k : Int) (co ot la te : List UInt8) : Prop := wdB D L = true ∧ chB y k (tx co) (tx ot) (tx la) (tx te) = true ∧ ¬ fnxP D co < 0 ∧ (ot = [] ∨ ¬ fnxP D ot < 0)
theorem tx_emp (x : List UInt8) : (tx x).toList.isEmpty = x.isEmpty := by rw [tx_toL]
theorem has_fnx {D : List Pd} {x : List UInt8} {a b : Int} (h : hasB D x a b = true) : ¬ fnxP D x < 0 := by
 rcases fnx_cases D x with ⟨_, h2, _⟩ | ⟨k, h1, _⟩
 ·unfold hasB at h; rw [h2] at h; cases h
 ·rw [h1]; omega
theorem chi_fnx {D : List Pd} {L : List Lk} {x z : List UInt8} {y : Int} (h : wdB D L = true) (hz : z ∈ chiR L x y) : ¬ fnxP D z < 0 := by
 unfold chiR at hz
 split at hz
 ·obtain ⟨l, hl, e⟩ := plaA_mem.1 (List.mem_filter.1 hz).1
  have hw := List.all_eq_true.1 (wdB_iff.1 h).2.2 l hl
  unfold wlB at hw
  rw [Bool.and_eq_true] at hw
  rcases e with rfl | rfl
  ·exact has_fnx hw.1
  ·exact has_fnx hw.2
 ·cases hz
theorem chi_size {L : List Lk} {x z : List UInt8} {y : Int} (hg : GLk L) (hz : z ∈ chiR L x y) : z.length ≤ 1048576 := by
 unfold chiR at hz
 split at hz
 ·obtain ⟨l, hl, e⟩ := plaA_mem.1 (List.mem_filter.1 hz).1
  rcases e with rfl | rfl
  ·exact (hg l hl).1
  ·exact (hg l hl).2
 ·cases hz
theorem Links.glk {L : List Lk} (h : Links L) : GLk L := fun l hl => by
 obtain ⟨i, hi, e⟩ := List.mem_iff_getElem.1 hl
 have := h i
 rw [show L.getD i lkD = L[i] by simp [List.getD, hi], e] at this
 exact this
theorem ch_other {y k : Int} {co ot la te : List UInt8} (h : chB y k (tx co) (tx ot) (tx la) (tx te) = true) (hk : k = 2 ∨ k = 3) : ¬ ot = [] := by
 unfold chB at h
 simp only [Bool.and_eq_true] at h
 have h5 := h.2.2.2.1
 rw [if_pos (by simpa using hk), Bool.and_eq_true, smB_tx] at h5
 intro e
 subst e
 exact absurd h5.1 (by decide)
theorem CodeOk.other {D : List Pd} {L : List Lk} {y k : Int} {co ot la te : List UInt8} (h : CodeOk D L y k co ot la te) (hk : k = 2 ∨ k = 3) : ¬ fnxP D ot < 0 :=
 h.2.2.2.elim (fun e => absurd e (ch_other h.2.1 hk)) id
def RwN (lo : Nat) (w : World) (A1 : Option Addr) (n1 c1 : Nat) (A2 : Option Addr) (m2 c2 : Nat) : Prop := ∃ (ps : List Pl) (L : List Lk), WIn w A1 A2 n1 c1 m2 c2 ps L ∧ (n1 ≤ 1000 ∧ m2 ≤ 1000) ∧ (∀ z : Addr, A1 = some z → lo ≤ z.block) ∧ (∀ z : Addr, A2 = some z → lo ≤ z.block) ∧ ∀ p ∈ ps, NewRow lo p
theorem RwN.but {lo g : Nat} {w w' : World} {A1 A2 : Option Addr} {n1 c1 m2 c2 : Nat} (h : RwN lo w A1 n1 c1 A2 m2 c2) (hu : But g w w') (hg : g < lo) : RwN lo w' A1 n1 c1 A2 m2 c2 := by
 obtain ⟨ps, L, hW, hb, h1, h2, h3⟩ := h
 exact ⟨ps, L, ⟨hW.sq.butG hu (fun z hz => by have := h1 z hz; omega), fun p hp => ⟨(hW.pl p hp).1.butG hu (fun z hz => by have := h3 p hp z hz; omega), (hW.pl p hp).2⟩, hW.hn, hW.hl, hW.sk.butG hu (fun z hz => by have := h2 z hz; omega), hW.hm, hW.hl', hW.cap, hW.lg⟩, hb, h1, h2, h3⟩
theorem RwN.less {lo lo' : Nat} {w : World} {A1 A2 : Option Addr} {n1 c1 m2 c2 : Nat} (h : RwN lo w A1 n1 c1 A2 m2 c2) (hl : lo' ≤ lo) : RwN lo' w A1 n1 c1 A2 m2 c2 := by
 obtain ⟨ps, L, hW, hb, h1, h2, h3⟩ := h
 exact ⟨ps, L, hW, hb, fun z hz => by have := h1 z hz; omega, fun z hz => by have := h2 z hz; omega, fun p hp z hz => by have := h3 p hp z hz; omega⟩
def RwQ (lo n : Nat) (W : World) (v : Value) : Prop := ∃ (A1 : Option Addr) (c1 : Nat) (ps : List Pl), v = .slice A1 n c1 ∧ n = ps.length ∧ OwQ W lo v ps ∧ Places W ps ∧ ∀ p ∈ ps, NewRow lo p
def RwK (lo m : Nat) (L : List Lk) (W : World) (v : Value) : Prop := ∃ (A2 : Option Addr) (c2 : Nat), v = .slice A2 m c2 ∧ m ≤ c2 ∧ OwK W lo v L
theorem RwN.of {lo n m c1 c2 : Nat} {L : List Lk} {W : World} {A1 A2 : Option Addr} (hq : RwQ lo n W (.slice A1 n c1)) (hk : RwK lo m L W (.slice A2 m c2)) (hn : n ≤ 1000) (hm : m ≤ 1000) (hml : m = L.length) (hg : Links L) : RwN lo W A1 n c1 A2 m c2 := by
 obtain ⟨A3, c3, ps, e, hn1, hO, hP, hN⟩ := hq
 obtain ⟨A4, c4, e', hc4, hO'⟩ := hk
 injection e with ea _ eb
 subst ea eb
 injection e' with ec _ ed
 subst ec ed
 obtain ⟨A5, c5, e5, hS5, hc5, _, hr5⟩ := hO.sl len_encQ
 injection e5 with ee _ ef
 subst ee ef
 obtain ⟨A6, c6, e6, hS6, hc6, _, hr6⟩ := hO'.sl len_encK
 injection e6 with eg _ eh
 subst eg eh
 exact ⟨ps, L, ⟨hS5, hP, hn1, by omega, hS6, hml, by omega, hc4, hg⟩, ⟨hn, hm⟩, fun z hz => (hr5 z hz).1, fun z hz => (hr6 z hz).1, hN⟩
def RgOw (lo n m : Nat) (L : List Lk) (p0 p1 v1 v5 : Value) : Nat → Value → World → Prop
 | 0, v, _ => v = p0
 | 1, v, _ => v = v1
 | 2, v, W => RwQ lo n W v
 | 3, v, W => ∃ b, v = .slice (some ⟨b, 0, none⟩) 0 0 ∧ lo ≤ b ∧ Blk W b 108 #[]
 | 4, v, _ => v = p1
 | 5, v, _ => v = v5
 | 6, v, W => RwK lo m L W v
 | 7, v, W => ∃ v1 v2, v = .agg #[v1, v2] ∧ RwQ lo n W v1 ∧ RwK lo m L W v2
 | _, _, _ => True
theorem RwQ.ext {lo n : Nat} {W W' : World} {v : Value} (h : RwQ lo n W v) (hx : Ext W W') : RwQ lo n W' v := by
 obtain ⟨A1, c1, ps, e, hn, hO, hP, hN⟩ := h
 exact ⟨A1, c1, ps, e, hn, hO.ext hx, hP.ext hx, hN⟩
theorem RwK.ext {lo m : Nat} {L : List Lk} {W W' : World} {v : Value} (h : RwK lo m L W v) (hx : Ext W W') : RwK lo m L W' v := by
 obtain ⟨A2, c2, e, hc, hO⟩ := h
 exact ⟨A2, c2, e, hc, hO.ext hx⟩
theorem RgOw.stay {lo n m : Nat} {L : List Lk} {p0 p1 v1 v5 : Value} (i : Nat) (v : Value) (w w' : World) (hk : Ext w w') (h : RgOw lo n m L p0 p1 v1 v5 i v w) : RgOw lo n m L p0 p1 v1 v5 i v w' := by
 rcases i with _ | _ | _ | _ | _ | _ | _ | _ | i
 ·exact h
 ·exact h
 ·exact RwQ.ext h hk
 ·obtain ⟨b, h1, h2, h3⟩ := h; exact ⟨b, h1, h2, h3.ext hk⟩
 ·exact h
 ·exact h
 ·exact RwK.ext h hk
 ·obtain ⟨v1, v2, e, h1, h2⟩ := h; exact ⟨v1, v2, e, h1.ext hk, h2.ext hk⟩
 ·trivial
set_option maxRecDepth 20000 in
set_option maxHeartbeats 12800000 in
theorem s_l13Own (A A' : Option Addr) (n c m c' : Nat) (ps : List Pl) (L : List Lk) (w : World) (h : WIn w A A' n c m c' ps L) (hn : n ≤ 1000) (hm : m ≤ 1000) :
  Calls Tryz.prog 71 #[.agg #[.slice A n c, .slice A' m c']] w fun e w' => ∃ (A1 : Option Addr) (n1 c1 : Nat) (A2 : Option Addr) (m2 c2 : Nat), e = .returned (.agg #[.slice A1 n1 c1, .slice A2 m2 c2]) ∧ RwN w.heap.size w' A1 n1 c1 A2 m2 c2 ∧ Ext w w' := by
 have HOW := hI (fun W (hW : Ext w W) => s_l11Own A n c ps W (h.sq.ext hW) (h.pl.ext hW) h.hn (by have := h.hn; omega))
 have HSK := hI h.sk
 have HN := hI h.hn
 have HM := hI h.hm
 have HML := hI hm
 have HLG := hI h.lg
 have HNL := hI hn
 clear h hn hm
 go_enter Tryz.func71, Tryz.ntmps71
 have HX0 : Hid (Ext w ((w.alloc (.cells #[.slice A n c, .slice A' m c'] 27)).alloc (.cells #[.slice none 0 0, .slice none 0 0] 27))) := hI (((Ext.refl w).alloc _).alloc _)
 have HZ0 : Hid (Blk ((w.alloc (.cells #[.slice A n c, .slice A' m c'] 27)).alloc (.cells #[.slice none 0 0, .slice none 0 0] 27)) w.heap.size 27 #[.slice A n c, .slice A' m c']) := hI (Blk.alloc (Blk.new rfl) _)
 have HZ1 : Hid (Blk ((w.alloc (.cells #[.slice A n c, .slice A' m c'] 27)).alloc (.cells #[.slice none 0 0, .slice none 0 0] 27)) (w.heap.size + 1) 27 #[.slice none 0 0, .slice none 0 0]) := hI (Blk.new (by simp))
 go_upto_region 1 with (fail)
 refine wp_region_rgb (m := 8) (C := Ext ((w.alloc (.cells #[.slice A n c, .slice A' m c'] 27)).alloc (.cells #[.slice none 0 0, .slice none 0 0] 27))) (K := Ext) (R := RgOw (w.heap.size + 2) n m L (.pointer (some ⟨w.heap.size, 0, none⟩)) (.pointer (some ⟨w.heap.size, 1, none⟩)) (.slice A n c) (.slice A' m c')) Tryz.f71.ntmps (by kernel_rfl) (by kernel_rfl) (by simp) (by rw [Tryz.ntmps71]; simp) (fun i v w w' => RgOw.stay i v w w') ?hC ?hstep ?hend
 case hC => exact (Ext.refl _).drew
 case hstep =>
  simp only [List.take_succ_cons, List.take_zero]
  refine AllFrom.cons ?_ <| AllFrom.cons ?_ <| AllFrom.cons ?_ <| AllFrom.cons ?_ <| AllFrom.cons ?_ <| AllFrom.cons ?_ <| AllFrom.cons ?_ <| AllFrom.cons ?_ AllFrom.nil
  all_goals (intro a1 W hfr hdep hC; have HC := hI hC; clear hC)
  ·have t1 : a1.tmps.getD 1 undef = .pointer (some ⟨w.heap.size, 0, none⟩) := hfr.at_ rfl (by kernel_rfl)
   unfold Oper.wp
   go_simp
   exact ⟨_, rfl, rfl, Ext.refl _, HC.out⟩
  ·have t3 : a1.tmps.getD 3 undef = .pointer (some ⟨w.heap.size, 0, none⟩) := hdep ⟨0, .data⟩ (by simp) rfl _ rfl
   have t3q := tq t3
   have c0 : W.cell? ⟨w.heap.size, 0, none⟩ = some (.slice A n c) := (HZ0.out.ext HC.out).cell 0
   unfold Oper.wp
   go_simp
   exact ⟨_, rfl, rfl, Ext.refl _, HC.out⟩
  ·have t4 : a1.tmps.getD 4 undef = .slice A n c := hdep ⟨1, .data⟩ (by simp) rfl _ rfl
   have t4q := tq t4
   have hsw := HC.out.size
   simp at hsw
   unfold Oper.wp
   go_simp
   refine (HOW.out _ (HX0.out.trans HC.out)).mono ?_
   rintro e W2 ⟨⟨v, ps', rfl, _, hO, hD, hP, hN, _⟩, hx2⟩
   obtain ⟨A9, c9, rfl, hS9, _⟩ := hO.sl len_encQ
   have hl9 : n = ps'.length := by rw [HN.out, ← psD_len ps, ← hD, psD_len]
   exact ⟨_, rfl, ⟨A9, c9, ps', by rw [hl9], hl9, hO.less (by omega), hP, fun p hp z hz => by have := hN p hp z hz; omega⟩, hx2, HC.out.trans hx2⟩
  ·have hsw := HC.out.size
   simp at hsw
   unfold Oper.wp
   go_simp
   exact ⟨_, rfl, ⟨W.heap.size, rfl, by omega, Blk.new rfl⟩, (Ext.refl _).alloc _, HC.out.alloc _⟩
  ·have t1 : a1.tmps.getD 1 undef = .pointer (some ⟨w.heap.size, 0, none⟩) := hfr.at_ rfl (by kernel_rfl)
   unfold Oper.wp
   go_simp
   exact ⟨_, rfl, rfl, Ext.refl _, HC.out⟩
  ·have t7 : a1.tmps.getD 7 undef = .pointer (some ⟨w.heap.size, 1, none⟩) := hdep ⟨4, .data⟩ (by simp) rfl _ rfl
   have t7q := tq t7
   have c1 : W.cell? ⟨w.heap.size, 1, none⟩ = some (.slice A' m c') := (HZ0.out.ext HC.out).cell 1
   unfold Oper.wp
   go_simp
   exact ⟨_, rfl, rfl, Ext.refl _, HC.out⟩
  ·obtain ⟨b6, t6, hb6, hB6⟩ : RgOw _ _ _ _ _ _ _ _ 3 (a1.tmps.getD 6 undef) W := hdep ⟨3, .data⟩ (by simp) rfl _ rfl
   have t8 : a1.tmps.getD 8 undef = .slice A' m c' := hdep ⟨5, .data⟩ (by simp) rfl _ rfl
   have t8q := tq t8
   have hsw := HC.out.size
   simp at hsw
   refine wp_append_fresh elK len_encK one_encK _ _ rfl (base := w.heap.size + 2) t6 hB6 (by omega) (xs := L) (by rw [← HM.out]; exact t8) ((HSK.out.ext (HX0.out.trans HC.out))) ?_ ?_ (by omega) ?_
   ·have := HML.out; have := HM.out; unfold maxLen; omega
   ·have := HML.out; have := HM.out; omega
   intro v' W' hO' hx'
   obtain ⟨A9, c9, rfl, hS9, hc9, _⟩ := hO'.sl len_encK
   exact ⟨_, rfl, ⟨A9, c9, by rw [HM.out], by rw [HM.out]; exact hc9, hO'⟩, hx', HC.out.trans hx'⟩
  ·have hq : RgOw _ _ _ _ _ _ _ _ 2 (a1.tmps.getD 5 undef) W := hdep ⟨2, .data⟩ (by simp) rfl _ rfl
   have HQ : Hid (RwQ (w.heap.size + 2) n W (a1.tmps.getD 5 undef)) := hI hq
   obtain ⟨A1, c1, ps1, t5, -⟩ := hq
   have t5q := tq t5
   have hk : RgOw _ _ _ _ _ _ _ _ 6 (a1.tmps.getD 9 undef) W := hdep ⟨6, .data⟩ (by simp) rfl _ rfl
   have HK : Hid (RwK (w.heap.size + 2) m L W (a1.tmps.getD 9 undef)) := hI hk
   obtain ⟨A2, c2, t9, -⟩ := hk
   have t9q := tq t9
   unfold Oper.wp
   go_simp
   exact ⟨_, rfl, ⟨_, _, rfl, by rw [← t5]; exact HQ.out, by rw [← t9]; exact HK.out⟩, Ext.refl _, HC.out⟩
 case hend =>
  intro a1 W hfr hR hC
  obtain ⟨v1, v2, t10, hq, hk⟩ : RgOw _ _ _ _ _ _ _ _ 7 (a1.tmps.getD 10 undef) W := hR 7 _ (by omega) rfl
  have hq' := hq
  have hk' := hk
  obtain ⟨A1, c1, ps1, rfl, -⟩ := hq'
  obtain ⟨A2, c2, rfl, -⟩ := hk'
  have t10q := tq t10
  have HRN := hI (RwN.of hq hk HNL.out HML.out HM.out HLG.out)
  have hz1 := HZ1.out.ext hC
  have HX := hI (HX0.out.trans hC)
  have f0 := hz1.frozen 0
  have f1 := hz1.frozen 1
  have d0 : W.cell? ⟨w.heap.size + 1, 0, none⟩ = some (.slice none 0 0) := hz1.cell 0
  have d1 : W.cell? ⟨w.heap.size + 1, 1, none⟩ = some (.slice none 0 0) := hz1.cell 1
  have hlz := hz1.lt
  have t2 : a1.tmps.getD 2 undef = .pointer (some ⟨w.heap.size + 1, 0, none⟩) := hfr.at_ rfl (by kernel_rfl)
  have t2q := tq t2
  clear hq hk hC
  refine wpAny_one (i := 8) (by kernel_rfl) (wpOp_of rfl rfl ?_)
  unfold Oper.wp
  go_simp
  refine wpAny_end (by kernel_rfl) ?_
  have hsh := hfr.shape [false, false, false, true, true, true, true, true, true, true, true] (by rfl) (by kernel_rfl)
  simp only [mixL] at hsh
  rw [hsh]
  go_wp2
  have hu : But (w.heap.size + 1) W ((W.setCell ⟨w.heap.size + 1, 0, none⟩ (.slice A1 n c1)).setCell ⟨w.heap.size + 1, 1, none⟩ (.slice A2 m c2)) := ((But.refl _ W).set_ 0 _).set_ 1 _
  exact ret_pts1 (b0 := w.heap.size + 1) (t := 27) (v := .agg #[.slice A1 n c1, .slice A2 m c2]) (Blk.eq (bS (bS hz1)) (by rfl)) rfl (by intro W' r0 r1; simp [results, Tryz.results71, go_sem, r0, r1]) ⟨A1, n, c1, A2, m, c2, rfl, (HRN.out.but hu (by omega)).less (by omega), by have hX := HX.out; exact xC (by omega) (xC (by omega) hX)⟩
end Go.Proofs.YtlnliajnipniaaaGreatDoor
