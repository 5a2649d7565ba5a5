/- A register that is drawn, rarely another list. A world that is drawn: what is told of it, and that later drawings leave it. A world that is drawn, rarely one that is not valid. -/
import Derived.Test.YtlnliajnipniaaaGreatDoorL1
import Derived.Test.YtlnliajnipniaaaGreatDoorD5
import Derived.Test.YtlnliajnipniaaaGreatDoorM2
namespace Go.Proofs.YtlnliajnipniaaaGreatDoor
open Go.RowKit
attribute [local go_sem] ExtOf.cell ExtOf.frozen
theorem RowsAt.less {w : World} {base base' : Nat} {v : Value} {ps : List Pl} (h : RowsAt w base v ps) (hb : base' ≤ base) : RowsAt w base' v ps := fun p hp => ⟨(h p hp).1, fun z hz => ⟨by have := ((h p hp).2 z hz).1; omega, ((h p hp).2 z hz).2⟩⟩
def LsQ (base : Nat) (v : Value) (ps : List Pl) (W : World) : Prop := v ≠ .slice none 0 0 ∧ OwQ W base v ps ∧ RowsAt W base v ps ∧ ∀ p ∈ ps, p.1.length ≤ 17
theorem LsQ.but {base g : Nat} {v : Value} {ps : List Pl} {W W' : World} (h : LsQ base v ps W) (hu : But g W W') (hg : g < base) : LsQ base v ps W' := by
 obtain ⟨h1, h2, h3, h4⟩ := h
 refine ⟨h1, h2.but hu hg, fun p hp => ?_, h4⟩
 obtain ⟨a1, a2⟩ := h3 p hp
 exact ⟨⟨a1.1.butG hu (fun z hz => by have := (a2 z hz).1; omega), a1.2⟩, fun z hz => ⟨(a2 z hz).1, Nat.lt_of_lt_of_le (a2 z hz).2.1 hu.size, (a2 z hz).2.2⟩⟩
theorem LsQ.ext {base : Nat} {v : Value} {ps : List Pl} {W W' : World} (h : LsQ base v ps W) (hx : Ext W W') : LsQ base v ps W' := ⟨h.1, h.2.1.ext hx, h.2.2.1.ext hx, h.2.2.2⟩
theorem LsQ.places {base : Nat} {v : Value} {ps : List Pl} {W : World} (h : LsQ base v ps W) : Places W ps := fun p hp => (h.2.2.1 p hp).1
def LsR (base : Nat) (e : Ending) (w' : World) : Prop := ∃ (gq c' : Nat) (ps : List Pl), e = .returned (.slice (some ⟨gq, 0, none⟩) ps.length c') ∧ SlAt w' 5 encQ (some ⟨gq, 0, none⟩) ps ∧ Places w' ps ∧ ps.length ≤ 11 ∧ (∀ p ∈ ps, p.1.length ≤ 17) ∧ base ≤ gq ∧ ∀ p ∈ ps, NewRow base p
theorem LsQ.ret {base : Nat} {v : Value} {ps : List Pl} {W : World} (h : LsQ base v ps W) (hl : ps.length ≤ 11) : LsR base (.returned v) W := by
 obtain ⟨h1, h2, h3, h4⟩ := h
 obtain ⟨A, c', e, hS, _, _, hA⟩ := h2.sl len_encQ
 rcases h2.2 with ⟨e0, _⟩ | ⟨gq, cap, cur, e2, hb, _⟩
 ·exact absurd e0 h1
 ·rw [e] at e2
  injection e2 with e3 e4 e5
  subst e3
  exact ⟨gq, c', ps, by rw [e], hS, fun p hp => (h3 p hp).1, hl, h4, hb, fun p hp z hz => ((h3 p hp).2 z hz).1⟩
def zS (k : Nat) : ByteArray := ⟨#[122]⟩ ++ (⟨#[97, 98, 99, 100, 101, 102, 103, 104, 105, 106, 107, 108]⟩ : ByteArray).extract k (k + 1)
theorem zS_len (k : Nat) : (zS k).data.toList.length ≤ 17 := by
 rw [size_list]
 unfold zS
 rw [ByteArray.size_append, ByteArray.size_extract]
 have e1 : (⟨#[122]⟩ : ByteArray).size = 1 := rfl
 rw [e1]
 omega
set_option maxRecDepth 20000 in
set_option maxHeartbeats 12800000 in
theorem s_l11List {a : World} {A : Option Addr} {c : Nat} {bs : List Int} {g : Nat} (w : World) (h : Src a A c bs g w) :
  Calls Tryz.prog 66 #[.pointer (some ⟨g, 0, none⟩)] w fun e w' => LsR w.heap.size e w' ∧ Src a A c bs g w' ∧ But g w w' := by
 have hlt := h.lt
 have how := h.own
 have hasz := h.ext.size
 go_enter Tryz.func66, Tryz.ntmps66
 (go_wp2_with fail; refine (s_l01Next (a := a) (A := A) (c := c) (bs := bs) _ _ (sA h) (by omega)).mono ?_; rintro e w1 ⟨x1, rfl, hb1, hS1, hu1⟩; obtain ⟨hc1, hf1, hs1⟩ := hu1.all; (try simp at hs1); have := (show g < w1.heap.size from by omega))
 obtain ⟨n, rfl⟩ := Int.eq_ofNat_of_zero_le hb1.1
 have hn6 : n ≤ 6 := by omega
 have hv0 : LsQ w.heap.size (.slice (some ⟨w.heap.size, 0, none⟩) 0 0) [] (w.alloc (.cells #[] 57)) := ⟨(fun e => by injection e with e1; cases e1), World.ownsRow_made (base := w.heap.size) (e := 57) (size := 5) w #[] 0 (Nat.le_refl _) (Nat.zero_le _) rfl, fun p hp => by simp at hp, fun p hp => by simp at hp⟩
 have HV0 := hI (hv0.but (by first | exact hu1) hlt)
 have HU1 : Hid (But g w w1) := hI (uT (uA uR) hu1)
 have HS1 := hI hS1
 clear hv0 hu1 hS1 hb1 hc1 hf1 h
 go_wp2
 go_loopw [3, 4] (fun v i wr => ∃ (k : Nat) (ps : List Pl), i = .int .i64 k ∧ k ≤ 6 ∧ ps.length + k ≤ 6 ∧ Hid (LsQ w.heap.size v ps wr) ∧ Hid (Src a A c bs g wr) ∧ Hid (But g w wr)) (fun _ i _ => (intOf i).toNat)
 case atStart => exact ⟨n, [], by go_num, hn6, by simp; omega, HV0, HS1, HU1⟩
 case round =>
  obtain ⟨k, ps, rfl, hk6, hlk, HV, HSr, HUr⟩ := hrel
  have hglt := HSr.out.lt
  have hsr := HUr.out.size
  by_cases hk0 : 0 < k
  ·obtain ⟨k, rfl⟩ : ∃ q, k = q + 1 := ⟨k - 1, by omega⟩
   have hdec : IntKind.i64.wrap (((k + 1 : Nat) : Int) - 1) = (k : Int) := by rw [IntWalk.i64_in _ (by omega)]; omega
   go_wp2_with fail
   refine (s_l11Good (a := a) (A := A) (c := c) (bs := bs) _ HSr.out).mono ?_
   rintro e w2 ⟨x, rfl, _, hpl, _, hS2, hu2⟩
   have hs2 := hu2.size
   have HV2 := hI (HV.out.but hu2 hlt)
   have HS2 := hI hS2
   have HU2 := hI (HUr.out.trans hu2)
   have HC := hI (s_AddPlace w.heap.size _ ps x w2 HV2.out.2.1 HV2.out.1 HV2.out.places hpl (by omega))
   clear hpl hS2 hu2 HV HSr HUr
   generalize tx x.1 = g1 at *
   generalize x.2.1 = g2 at *
   generalize x.2.2.1 = g3 at *
   generalize x.2.2.2.1 = g4 at *
   generalize (Value.slice x.2.2.2.2.1 x.2.2.2.2.2.2.length x.2.2.2.2.2.1) = g5 at *
   go_wp2_with fail
   refine HC.out.mono ?_
   rintro e w3 ⟨hr, hx3⟩
   have HS3 := hI (HS2.out.on hx3)
   have HU3 := hI (HU2.out.trans (But.of hx3))
   clear HC
   rcases hr with ⟨m, hm, rfl, _⟩ | ⟨v2, ps2, rfl, hnz, hO, hrg, hlen, _, _, hR⟩
   ·have e0 : (m == 0) = false := beq_eq_false_iff_ne.2 hm
    have HV3 := hI (HV2.out.ext hx3)
    clear hx3
    go_wp2
    go_roundw
    case rel => exact ⟨k, ps, by go_num, by omega, by omega, HV3, HS3, HU3⟩
    case measure => simp [intOf]
   ·have HV3 : Hid (LsQ w.heap.size v2 ps2 w3) := hI ⟨hnz, hO.less (by omega), hR.less (by omega), fun p hp => by have := (plB_facts (rg_mem hrg hp)).1; omega⟩
    have hl2 : ps2.length = ps.length + 1 := by rw [hlen, psD_len]
    clear hnz hO hrg hlen hR hx3
    go_wp2
    go_roundw
    case rel => exact ⟨k, ps2, by go_num, by omega, by omega, HV3, HS3, HU3⟩
    case measure => simp [intOf]
  ·obtain rfl : k = 0 := by omega
   (go_wp2_with fail; refine (s_l01Next (a := a) (A := A) (c := c) (bs := bs) _ _ HSr.out (by omega)).mono ?_; rintro e w2 ⟨x2, rfl, hb2, hS2, hu2⟩; obtain ⟨hc2, hf2, hs2⟩ := hu2.all; (try simp at hs2); have := (show g < w2.heap.size from by omega))
   have HV2 := hI (HV.out.but hu2 hlt)
   have HS2 := hI hS2
   have HU2 := hI (HUr.out.trans hu2)
   clear hu2 hS2 hc2 hf2 hb2 HSr HUr HV
   by_cases q0 : x2 = 0
   ·subst q0
    go_wp2_with fail
    refine (s_l11Draw (a := a) (A := A) (c := c) (bs := bs) _ HS2.out).mono ?_
    rintro e w3 ⟨p, rfl, hpl, hpc, hpr, hS3, hu3⟩
    have hs3 := hu3.size
    have HV3 := hI (HV2.out.but hu3 hlt)
    have HU3 := hI (HU2.out.trans hu3)
    have HS3 := hI hS3
    have HPL := hI hpl
    have HPR := hI hpr
    have HR2 := HV2.out.2.1.row
    clear hu3 hS3 hpl hpr
    go_wp2_with (at_builtin; refine wpList_append_slA elQd len_encQ one_encQ rfl _ _ rfl rfl (HV3.out.2.1.ext (xA xR)) (xs := [p]) rfl (blk_q1 (p := p) (bN (by omega)) rfl) (by simp; unfold maxLen; omega) (by simp; omega) (by first | omega | (simp; omega)) ?_)
    intro v' w4 hown hgrow _ ho
    have HS4 : Hid (Src a A c bs g w4) := hI ((HS3.out.alloc _).grownR hgrow (fun q hq => by have := (HV3.out.2.1.row q hq).1; omega))
    have HU4 : Hid (But g w w4) := hI ((HU3.out.alloc _).grownR hgrow (fun q hq => (HV3.out.2.1.row q hq).1))
    have HV4 : Hid (LsQ w.heap.size v' (ps ++ [p]) w4) := hI ⟨Own.some_ hown (by simp), hown, RowsAt.step hgrow (by rcases ho with e | e; exact .inl e; exact .inr (e.trans (by simp))) (HV3.out.2.2.1.ext (xA xR)) (HPL.out.ext (xA xR)) (fun z hz => by
      have h1 := HPR.out z hz
      refine ⟨by omega, by simp; omega, fun e => ?_⟩
      have h2 := (HR2 _ e).2
      omega), fun q hq => by
      rcases List.mem_append.1 hq with e | e
      ·exact HV3.out.2.2.2 q e
      ·rw [List.mem_singleton.1 e]; exact hpc⟩
    clear hown hgrow ho HR2 HV3
    go_wp2
    go_ret
    exact ⟨HV4.out.ret (by simp; omega), HS4.out, HU4.out⟩
   ·have e0 : (x2 == 0) = false := beq_eq_false_iff_ne.2 q0
    by_cases q1 : x2 = 1
    ·subst q1
     have hl11 : ps.length ≤ 11 := by omega
     clear hlk hk6
     go_wp2
     go_loopw [3, 7] (fun v i wr => ∃ (k : Nat) (ps : List Pl), i = .int .i64 k ∧ k ≤ 12 ∧ ps.length ≤ 11 ∧ Hid (LsQ w.heap.size v ps wr) ∧ Hid (Src a A c bs g wr) ∧ Hid (But g w wr)) (fun _ i _ => 12 - (intOf i).toNat)
     case atStart => exact ⟨0, ps, by go_num, by omega, hl11, HV2, HS2, HU2⟩
     case round =>
      clear HV2 HS2 HU2 hl11
      obtain ⟨k, ps, rfl, hk12, hl11, HV, HSr, HUr⟩ := hrel
      have hglt := HSr.out.lt
      have hsr := HUr.out.size
      obtain ⟨A4, c4, hv4, _, hc4, _, _⟩ := HV.out.2.1.sl len_encQ
      subst hv4
      (go_wp2_with fail; refine (s_l01Next (a := a) (A := A) (c := c) (bs := bs) _ _ HSr.out (by omega)).mono ?_; rintro e w5 ⟨x5, rfl, hb5, hS5, hu5⟩; obtain ⟨hc5, hf5, hs5⟩ := hu5.all; (try simp at hs5); have := (show g < w5.heap.size from by omega))
      have HV5 := hI (HV.out.but hu5 hlt)
      have HS5 := hI hS5
      have HU5 := hI (HUr.out.trans hu5)
      have hx5 : 0 ≤ x5 ∧ x5 ≤ 1 := by omega
      clear hu5 hS5 hc5 hf5 hb5 HSr HUr HV
      have hw7 : IntKind.i64.wrap (10 + x5) = 10 + x5 := IntWalk.i64_in _ (by omega)
      have hw9 : IntKind.i64.wrap ((k : Int) + 1) = ((k + 1 : Nat) : Int) := by rw [IntWalk.i64_in _ (by omega)]; omega
      obtain ⟨n4, hn4⟩ : ∃ n, n = ps.length := ⟨_, rfl⟩
      rw [← hn4] at HV5 hl11 ⊢
      replace hn4 := hI hn4
      by_cases hc : (n4 : Int) < 10 + x5
      ·have hA2 : n4 + 1 ≤ 11 := by omega
       by_cases hk : k < 12
       ·have hki : (k : Int) < 12 := by omega
        have HR5 := HV5.out.2.1.row
        go_wp2_with (at_builtin; refine wpList_append_slA elQd len_encQ one_encQ rfl _ _ rfl rfl (base := w.heap.size) (ys := ps) ?_ (xs := [((zS k).data.toList, 0, 1500, 1600, none, 0, [])]) rfl ?_ ?_ ?_ ?_ ?_)
        ·exact HV5.out.2.1.ext (xA xR)
        ·exact blk_q1 (Blk.new rfl) rfl
        ·rw [← hn4.out]; simp only [List.length_singleton]; unfold maxLen; omega
        ·rw [← hn4.out]; simp only [List.length_singleton]; omega
        ·simp; omega
        intro v' w6 hown hgrow _ ho
        have HS6 : Hid (Src a A c bs g w6) := hI ((HS5.out.alloc _).grownR hgrow (fun q hq => by have := (HR5 q hq).1; omega))
        have HU6 : Hid (But g w w6) := hI ((HU5.out.alloc _).grownR hgrow (fun q hq => (HR5 q hq).1))
        have HV6 : Hid (LsQ w.heap.size v' (ps ++ [((zS k).data.toList, 0, 1500, 1600, none, 0, [])]) w6) := hI ⟨Own.some_ hown (by simp), hown, RowsAt.step hgrow (by rcases ho with e | e; exact .inl e; exact .inr (e.trans (by simp))) (HV5.out.2.2.1.ext (xA xR)) ⟨SlAt.nil, Nat.le_refl _, by have := zS_len k; simp only; omega, by simp, (NmsOk.names (fun l hl => by simp at hl))⟩ (fun z hz => by cases hz), fun q hq => by
         rcases List.mem_append.1 hq with e | e
         ·exact HV5.out.2.2.2 q e
         ·rw [List.mem_singleton.1 e]; exact zS_len k⟩
        clear hown hgrow ho HR5
        go_wp2
        go_roundw
        case rel => exact ⟨k + 1, _, by go_num, by omega, by rw [List.length_append, ← hn4.out]; exact hA2, HV6, HS6, HU6⟩
        case measure => simp [intOf]; omega
       ·obtain rfl : k = 12 := by omega
        go_wp2
        go_ret
        exact ⟨HV5.out.ret (by rw [← hn4.out]; omega), HS5.out, HU5.out⟩
      ·go_wp2
       go_ret
       exact ⟨HV5.out.ret (by rw [← hn4.out]; omega), HS5.out, HU5.out⟩
    ·have e1 : (x2 == 1) = false := beq_eq_false_iff_ne.2 q1
     go_wp2
     go_ret
     exact ⟨HV2.out.ret (by omega), HS2.out, HU2.out⟩
end Go.Proofs.YtlnliajnipniaaaGreatDoor
namespace Go.Proofs.YtlnliajnipniaaaGreatDoor
open Go.RowKit
structure WDr (w : World) (lo gq n c : Nat) (A' : Option Addr) (m c' : Nat) (ps : List Pl) (L : List Lk) : Prop where
 sq : SlAt w 5 encQ (some ⟨gq, 0, none⟩) ps
 pl : Places w ps
 hn : n = ps.length
 h11 : n ≤ 11
 hle : ∀ p ∈ ps, p.1.length ≤ 17
 sk : SlAt w 4 encK A' L
 hm : m = L.length
 h21 : m ≤ 21
 cap : m ≤ c'
 lg : LnksOk L
 rq : lo ≤ gq
 rk : ∀ q, A' = some q → lo ≤ q.block
 rn : ∀ p ∈ ps, ∀ z : Addr, p.2.2.2.2.1 = some z → lo ≤ z.block
section
variable {w w' : World} {lo gq n c m c' : Nat} {A' : Option Addr} {ps : List Pl} {L : List Lk}
theorem WDr.but {g : Nat} (h : WDr w lo gq n c A' m c' ps L) (hu : But g w w') (hg : g < lo) : WDr w' lo gq n c A' m c' ps L :=
 ⟨h.sq.butG hu (fun z hz => by injection hz with hz; subst hz; have := h.rq; show ¬ gq = g; omega), fun p hp => ⟨(h.pl p hp).1.butG hu (fun z hz => by have := h.rn p hp z hz; omega), (h.pl p hp).2⟩, h.hn, h.h11, h.hle,
  h.sk.butG hu (fun z hz => by have := h.rk z hz; omega), h.hm, h.h21, h.cap, h.lg, h.rq, h.rk, h.rn⟩
theorem WDr.ext (h : WDr w lo gq n c A' m c' ps L) (hx : Ext w w') : WDr w' lo gq n c A' m c' ps L :=
 ⟨h.sq.ext hx, h.pl.ext hx, h.hn, h.h11, h.hle, h.sk.ext hx, h.hm, h.h21, h.cap, h.lg, h.rq, h.rk, h.rn⟩
theorem WDr.less {lo' : Nat} (h : WDr w lo gq n c A' m c' ps L) (hl : lo' ≤ lo) : WDr w lo' gq n c A' m c' ps L :=
 ⟨h.sq, h.pl, h.hn, h.h11, h.hle, h.sk, h.hm, h.h21, h.cap, h.lg, by have := h.rq; omega, fun q hq => by have := h.rk q hq; omega, fun p hp z hz => by have := h.rn p hp z hz; omega⟩
theorem SlAt.setE {α : Type} {enc : α → List Value} {sz : Nat} {w : World} {A : Option Addr} {xs : List α} {p : Addr} (h : SlAt w sz enc A xs) (hp : 0 < xs.length → ∀ z : Addr, A = some z → ¬ z.block = p.block) (u : Value) : SlAt (w.setCell p u) sz enc A xs := fun hn => (h.setFar (hp hn) u) hn
def FarW (q gq : Nat) (A' : Option Addr) (ps : List Pl) : Prop := ¬ gq = q ∧ (∀ z : Addr, A' = some z → ¬ z.block = q) ∧ ∀ p ∈ ps, 0 < p.2.2.2.2.2.2.length → ∀ z : Addr, p.2.2.2.2.1 = some z → ¬ z.block = q
theorem WDr.set {q : Addr} (h : WDr w lo gq n c A' m c' ps L) (hf : FarW q.block gq A' ps) (u : Value) : WDr (w.setCell q u) lo gq n c A' m c' ps L :=
 ⟨h.sq.setE (fun _ z hz => by injection hz with hz; subst hz; exact hf.1) u, fun p hp => ⟨(h.pl p hp).1.setE (hf.2.2 p hp) u, (h.pl p hp).2⟩, h.hn, h.h11, h.hle, h.sk.setE (fun _ => hf.2.1) u, h.hm, h.h21, h.cap, h.lg, h.rq, h.rk, h.rn⟩
theorem WDr.win (h : WDr w lo gq n c A' m c' ps L) : WIn w (some ⟨gq, 0, none⟩) A' n c m c' ps L :=
 ⟨h.sq, h.pl, h.hn, by have := h.hn; have := h.h11; omega, h.sk, h.hm, by have := h.hm; have := h.h21; omega, h.cap, h.lg.links⟩
end
end Go.Proofs.YtlnliajnipniaaaGreatDoor
namespace Go.Proofs.YtlnliajnipniaaaGreatDoor
open Go.RowKit
attribute [local go_sem] ExtOf.cell ExtOf.frozen
set_option maxRecDepth 20000 in
set_option maxHeartbeats 12800000 in
theorem s_l13Draw {a : World} {A : Option Addr} {c : Nat} {bs : List Int} {g : Nat} (w : World) (h : Src a A c bs g w) :
  Calls Tryz.prog 33 #[.pointer (some ⟨g, 0, none⟩)] w fun e w' => ∃ (gq n cq : Nat) (A' : Option Addr) (m ck : Nat) (ps : List Pl) (L : List Lk), e = .returned (.agg #[.slice (some ⟨gq, 0, none⟩) n cq, .slice A' m ck]) ∧ WDr w' w.heap.size gq n cq A' m ck ps L ∧ Src a A c bs g w' ∧ But g w w' := by
 have hlt := h.lt
 have how := h.own
 have hasz := h.ext.size
 have nb : ¬ w.heap.size = g := by omega
 go_enter Tryz.func33, Tryz.ntmps33
 go_upto_region 1 with (fail)
 go_cut [3] (fun p wx => ∃ (b gq n cq : Nat) (A' : Option Addr) (m ck : Nat) (ps : List Pl) (L : List Lk), p = .pointer (some ⟨b, 0, none⟩) ∧ w.heap.size < b ∧ b ≠ g ∧ Hid (WDr wx (w.heap.size + 1) gq n cq A' m ck ps L) ∧ Hid (gq < b ∧ (∀ z : Addr, A' = some z → z.block < b) ∧ ∀ p ∈ ps, 0 < p.2.2.2.2.2.2.length → ∀ z : Addr, p.2.2.2.2.1 = some z → z.block < b) ∧ Hid (Blk wx b 27 #[.slice (some ⟨gq, 0, none⟩) n cq, .slice A' m ck]) ∧ Hid (Blk wx w.heap.size 27 #[.slice none 0 0, .slice none 0 0]) ∧ Hid (Src a A c bs g wx) ∧ Hid (But g w wx))
 case first =>
  go_wp2_with fail
  refine (s_l13Good (a := a) (A := A) (c := c) (bs := bs) _ (sA h)).mono ?_
  rintro e w1 ⟨v, lv, ps, L, q1, b3, rfl, _, ⟨hq1, hb3⟩, hL7, hP, hK, hS1, hu1⟩
  have hs1 := hu1.size
  simp at hs1 hq1 hb3
  obtain ⟨hrg, hnz, hO, hpl, hrow, _⟩ := hP
  obtain ⟨_, hOK, hLK, _⟩ := hK
  obtain ⟨A9, c9, e9, hSQ, _, _, _⟩ := hO.sl len_encQ
  rcases hO.2 with ⟨e0, _⟩ | ⟨gq, cap, cur, e2, hbq, hgq, _⟩
  ·exact absurd e0 hnz
  subst e9
  injection e2 with e3 e4 e5
  subst e3 e5
  clear e4
  obtain ⟨AL, cL, rfl, hSL, hcL, _, hAL⟩ := hOK.sl len_encK
  have hgl : gq < w1.heap.size := (Array.getElem?_eq_some_iff.1 hgq).1
  have h10 := (rgB_iff.1 hrg).2
  rw [psD_len] at h10
  have HW : Hid (WDr w1 (w.heap.size + 1) gq ps.length c9 AL L.length cL ps L) := hI ⟨hSQ, hpl, rfl, by omega, fun p hp => by have := (plB_facts (rg_mem hrg hp)).1; omega, hSL, rfl, by omega, hcL, hLK, by omega, fun z hz => by have := (hAL z hz).1; omega, fun p hp z hz => by have := hrow p hp z hz; omega⟩
  have HF : Hid (gq < w1.heap.size ∧ (∀ z : Addr, AL = some z → z.block < w1.heap.size) ∧ ∀ p ∈ ps, 0 < p.2.2.2.2.2.2.length → ∀ z : Addr, p.2.2.2.2.1 = some z → z.block < w1.heap.size) := hI ⟨hgl, fun z hz => (hAL z hz).2, fun p hp hn z hz => by
   obtain ⟨b, off, e, hb, _⟩ := (hpl p hp).1 hn
   rw [hz] at e
   injection e with e
   subst e
   exact hb⟩
  have HZ := hI (Blk.but' hu1 nb (Blk.new (cs := #[.slice none 0 0, .slice none 0 0]) (t := 27) (w := w) rfl))
  have HU1 : Hid (But g w w1) := hI (But.trans (But.alloc (But.refl g w) _) hu1)
  have HS1 := hI hS1
  have ng1 : ¬ g = w1.heap.size := by have := hS1.lt; omega
  clear hrg hnz hO hpl hrow hOK hLK hSQ hbq hgq hSL hcL hAL hgl h10 hS1 hu1 hL7
  obtain ⟨n, hn⟩ : ∃ n, n = ps.length := ⟨_, rfl⟩
  obtain ⟨m, hm⟩ : ∃ m, m = L.length := ⟨_, rfl⟩
  rw [← hn, ← hm] at HW
  rw [← hn, ← hm]
  clear hn hm
  go_wp2_with fail
  go_meet
  have hz := HZ.out
  have hu1 := HU1.out
  have hS1 := HS1.out
  exact ⟨w1.heap.size, gq, n, c9, AL, m, cL, ps, L, rfl, by omega, fun e => ng1 e.symm, hI (HW.out.ext (xA xR)), HF, hI (Blk.eq (bN (by omega)) (by rfl)), hI (bA hz), hI (sA hS1), hI (uA hu1)⟩
 case rest =>
 obtain ⟨b, gq, n, cq, A', m, ck, ps, L, rfl, hb, nbg, HW, HF, HB, HE, HS, HU⟩ := hcut
 obtain ⟨w4, rfl⟩ : ∃ z, z = wc := ⟨wc, rfl⟩
 have hsc := HU.out.size
 have hlb := HB.out.lt
 have hle := HE.out.lt
 have hgw : g < w4.heap.size := by omega
 have n1 : ¬ g = b := fun e => nbg e.symm
 have n2 : ¬ g = w.heap.size := by omega
 have n3 : ¬ b = w.heap.size := by omega
 have n4 : ¬ w.heap.size = b := by omega
 clear h
 go_wp2_with fail
 refine (s_l01Next (a := a) (A := A) (c := c) (bs := bs) _ _ HS.out (by omega)).mono ?_
 rintro e w5 ⟨k, rfl, hk, hS5, hu5⟩
 have hs5 := hu5.size
 have HS5 := hI hS5
 have HU5 := hI (HU.out.trans hu5)
 have HW5 := hI (HW.out.but hu5 (by omega))
 have HB5 := hI (HB.out.but' hu5 nbg)
 have HE5 := hI (HE.out.but' hu5 nb)
 clear hS5 hu5 HS HU HW HB HE
 by_cases q0 : k = 0
 ·subst q0
  go_wp2_with fail
  refine (s_l11List (a := a) (A := A) (c := c) (bs := bs) _ HS5.out).mono ?_
  rintro e w6 ⟨⟨g2, c2, p2, rfl, h1, h2, h3, h4, h5, h6⟩, hS6, hu6⟩
  have HB6 := hI (HB5.out.but' hu6 nbg)
  have HE6 := hI (HE5.out.but' hu6 nb)
  have HW6 := hI (HW5.out.but hu6 (by omega))
  have HU6 := hI (HU5.out.trans hu6)
  have hw6 := hu6.size
  clear hu6 HB5 HE5 HW5 HU5 HS5
  have B6 := HB6.out
  have E6 := HE6.out
  have WF : Hid (WDr w6 w.heap.size g2 p2.length c2 A' m ck p2 L) := hI ⟨h1, h2, rfl, h3, h4, HW6.out.sk, HW6.out.hm, HW6.out.h21, HW6.out.cap, HW6.out.lg, by omega, fun z hz => by have := HW6.out.rk z hz; omega, fun p hp z hz => by have := h6 p hp z hz; omega⟩
  have NF : Hid (∀ q, q = w.heap.size ∨ q = b → FarW q g2 A' p2) := hI (fun q hq => ⟨by rcases hq with rfl | rfl <;> omega, fun z hz => by have := HW6.out.rk z hz; have := HF.out.2.1 z hz; rcases hq with rfl | rfl <;> omega, fun p hp hn z hz => by have := h6 p hp z hz; rcases hq with rfl | rfl <;> omega⟩)
  clear h1 h2
  have y0 : w6.cell? ⟨b, 0, none⟩ = some (.slice (some ⟨gq, 0, none⟩) n cq) := B6.cell 0
  have y1 : w6.cell? ⟨b, 1, none⟩ = some (.slice A' m ck) := B6.cell 1
  have z0 := B6.frozen 0
  have z1 := B6.frozen 1
  have v0 : w6.cell? ⟨w.heap.size, 0, none⟩ = some (.slice none 0 0) := E6.cell 0
  have v1 : w6.cell? ⟨w.heap.size, 1, none⟩ = some (.slice none 0 0) := E6.cell 1
  have x0 := E6.frozen 0
  have x1 := E6.frozen 1
  have la6 := B6.lt
  have lb6 := E6.lt
  have hU6 := HU6.out
  have hs6 := hU6.size
  go_wp2
  refine ret_pts1 (b0 := w.heap.size) (t := 27) (v := .agg #[.slice (some ⟨g2, 0, none⟩) p2.length c2, .slice A' m ck]) (Blk.eq (bS (bS (bF n4 E6))) (by rfl)) rfl (by intro W' r0 r1; simp [results, Tryz.results33, go_sem, r0, r1]) ⟨g2, p2.length, c2, A', m, ck, p2, L, rfl, ?_, sF n2 hasz (sF n2 hasz (sF n1 (by omega) hS6)), uW (by omega) (uW (by omega) (uW (by omega) hU6))⟩
  have qq := WF.out
  repeat (first | with_reducible exact qq | (refine WDr.set ?_ (NF.out _ (by first | exact .inl rfl | exact .inr rfl)) _))
 ·have e0 : (k == 0) = false := beq_eq_false_iff_ne.2 q0
  by_cases q1 : k = 1
  ·subst q1
   go_wp2_with fail
   refine (s_l12List (a := a) (A := A) (c := c) (bs := bs) _ HS5.out).mono ?_
   rintro e w6 ⟨A2, c2, L2, rfl, h1, h2, ⟨h3, h4, h5⟩, hS6, hu6⟩
   have HB6 := hI (HB5.out.but' hu6 nbg)
   have HE6 := hI (HE5.out.but' hu6 nb)
   have HW6 := hI (HW5.out.but hu6 (by omega))
   have HU6 := hI (HU5.out.trans hu6)
   have hw6 := hu6.size
   clear hu6 HB5 HE5 HW5 HU5 HS5
   have B6 := HB6.out
   have E6 := HE6.out
   have WF : Hid (WDr w6 w.heap.size gq n cq A2 L2.length c2 ps L2) := hI ⟨HW6.out.sq, HW6.out.pl, HW6.out.hn, HW6.out.h11, HW6.out.hle, h1, rfl, h3, h2, h4, by have := HW6.out.rq; omega, fun z hz => by have := h5 z hz; omega, fun p hp z hz => by have := HW6.out.rn p hp z hz; omega⟩
   have NF : Hid (∀ q, q = w.heap.size ∨ q = b → FarW q gq A2 ps) := hI (fun q hq => ⟨by have := HW6.out.rq; have := HF.out.1; rcases hq with rfl | rfl <;> omega, fun z hz => by have := h5 z hz; rcases hq with rfl | rfl <;> omega, fun p hp hn z hz => by have := HW6.out.rn p hp z hz; have := HF.out.2.2 p hp hn z hz; rcases hq with rfl | rfl <;> omega⟩)
   clear h1
   have y0 : w6.cell? ⟨b, 0, none⟩ = some (.slice (some ⟨gq, 0, none⟩) n cq) := B6.cell 0
   have y1 : w6.cell? ⟨b, 1, none⟩ = some (.slice A' m ck) := B6.cell 1
   have z0 := B6.frozen 0
   have z1 := B6.frozen 1
   have v0 : w6.cell? ⟨w.heap.size, 0, none⟩ = some (.slice none 0 0) := E6.cell 0
   have v1 : w6.cell? ⟨w.heap.size, 1, none⟩ = some (.slice none 0 0) := E6.cell 1
   have x0 := E6.frozen 0
   have x1 := E6.frozen 1
   have la6 := B6.lt
   have lb6 := E6.lt
   have hU6 := HU6.out
   have hs6 := hU6.size
   go_wp2
   refine ret_pts1 (b0 := w.heap.size) (t := 27) (v := .agg #[.slice (some ⟨gq, 0, none⟩) n cq, .slice A2 L2.length c2]) (Blk.eq (bS (bS (bF n4 E6))) (by rfl)) rfl (by intro W' r0 r1; simp [results, Tryz.results33, go_sem, r0, r1]) ⟨gq, n, cq, A2, L2.length, c2, ps, L2, rfl, ?_, sF n2 hasz (sF n2 hasz (sF n1 (by omega) hS6)), uW (by omega) (uW (by omega) (uW (by omega) hU6))⟩
   have qq := WF.out
   repeat (first | with_reducible exact qq | (refine WDr.set ?_ (NF.out _ (by first | exact .inl rfl | exact .inr rfl)) _))
  ·have e1 : (k == 1) = false := beq_eq_false_iff_ne.2 q1
   obtain ⟨w6, h65⟩ : ∃ z, z = w5 := ⟨_, rfl⟩
   rw [← h65] at HB5 HE5 HW5 HU5 HS5 ⊢
   have hS6 := HS5.out
   have B6 := HB5.out
   have E6 := HE5.out
   have HW6 := HW5
   have HU6 := HU5
   clear HB5 HE5 HW5 HU5 HS5 h65
   have WF : Hid (WDr w6 w.heap.size gq n cq A' m ck ps L) := hI (HW6.out.less (by omega))
   have NF : Hid (∀ q, q = w.heap.size ∨ q = b → FarW q gq A' ps) := hI (fun q hq => ⟨by have := HW6.out.rq; have := HF.out.1; rcases hq with rfl | rfl <;> omega, fun z hz => by have := HW6.out.rk z hz; have := HF.out.2.1 z hz; rcases hq with rfl | rfl <;> omega, fun p hp hn z hz => by have := HW6.out.rn p hp z hz; have := HF.out.2.2 p hp hn z hz; rcases hq with rfl | rfl <;> omega⟩)
   have y0 : w6.cell? ⟨b, 0, none⟩ = some (.slice (some ⟨gq, 0, none⟩) n cq) := B6.cell 0
   have y1 : w6.cell? ⟨b, 1, none⟩ = some (.slice A' m ck) := B6.cell 1
   have z0 := B6.frozen 0
   have z1 := B6.frozen 1
   have v0 : w6.cell? ⟨w.heap.size, 0, none⟩ = some (.slice none 0 0) := E6.cell 0
   have v1 : w6.cell? ⟨w.heap.size, 1, none⟩ = some (.slice none 0 0) := E6.cell 1
   have x0 := E6.frozen 0
   have x1 := E6.frozen 1
   have la6 := B6.lt
   have lb6 := E6.lt
   have hU6 := HU6.out
   have hs6 := hU6.size
   go_wp2
   refine ret_pts1 (b0 := w.heap.size) (t := 27) (v := .agg #[.slice (some ⟨gq, 0, none⟩) n cq, .slice A' m ck]) (Blk.eq (bS (bS E6)) (by rfl)) rfl (by intro W' r0 r1; simp [results, Tryz.results33, go_sem, r0, r1]) ⟨gq, n, cq, A', m, ck, ps, L, rfl, ?_, sF n2 hasz (sF n2 hasz hS6), uW (by omega) (uW (by omega) hU6)⟩
   have qq := WF.out
   repeat (first | with_reducible exact qq | (refine WDr.set ?_ (NF.out _ (by first | exact .inl rfl | exact .inr rfl)) _))
end Go.Proofs.YtlnliajnipniaaaGreatDoor
