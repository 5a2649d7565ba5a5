/- Worlds that are drawn. A code of a world that is drawn. -/
import Derived.Test.YtlnliajnipniaaaGreatDoorD4
namespace Go.Proofs.YtlnliajnipniaaaGreatDoor
open Go.RowKit
attribute [local go_sem] ExtOf.cell ExtOf.frozen
theorem grown_set (w : World) (p : Addr) (u : Value) : w.grownBy (w.setCell p u) (some p.block) :=
 ⟨rfl, rfl, rfl, by simp [World.setCell], fun k _ hne => Below.heap_setCell w p u k (fun e => hne (congrArg some e))⟩
theorem Own.setFar {α : Type} {enc : α → List Value} {sz base : Nat} {t : TypeId} {w : World} {v : Value} {xs : List α} {p : Addr} (h : Own enc sz t w base v xs) (hp : ¬ v.ownBlock = some p.block) (u : Value) : Own enc sz t (w.setCell p u) base v xs :=
 h.kept (grown_set w p u) (.inr hp)
def WPl (base b3 : Nat) (v : Value) (ps : List Pl) (W : World) : Prop :=
 rgB (psD ps) = true ∧ v ≠ .slice none 0 0 ∧ OwQ W base v ps ∧ Places W ps ∧ (∀ p ∈ ps, ∀ z : Addr, p.2.2.2.2.1 = some z → b3 < z.block) ∧ ¬ v.ownBlock = some b3
theorem WPl.but {base b3 g : Nat} {v : Value} {ps : List Pl} {W W' : World} (h : WPl base b3 v ps W) (hu : But g W W') (h1 : g < base) (h2 : g < b3) : WPl base b3 v ps W' := by
 obtain ⟨p1, p2, p3, p4, p5, p6⟩ := h
 exact ⟨p1, p2, p3.but hu h1, fun p hp => ⟨(p4 p hp).1.butG hu (fun z hz => by have := p5 p hp z hz; omega), (p4 p hp).2⟩, p5, p6⟩
theorem WPl.ext {base b3 : Nat} {v : Value} {ps : List Pl} {W W' : World} (h : WPl base b3 v ps W) (hx : Ext W W') : WPl base b3 v ps W' := by
 obtain ⟨p1, p2, p3, p4, p5, p6⟩ := h
 exact ⟨p1, p2, p3.ext hx, p4.ext hx, p5, p6⟩
theorem WPl.set {base b3 i : Nat} {v : Value} {ps : List Pl} {W : World} (h : WPl base b3 v ps W) (u : Value) : WPl base b3 v ps (W.setCell ⟨b3, i, none⟩ u) := by
 obtain ⟨p1, p2, p3, p4, p5, p6⟩ := h
 exact ⟨p1, p2, p3.setFar p6 u, fun p hp => ⟨(p4 p hp).1.setFar (fun z hz => by have := p5 p hp z hz; show ¬ z.block = b3; omega) u, (p4 p hp).2⟩, p5, p6⟩
theorem WPl.len {base b3 : Nat} {v : Value} {ps : List Pl} {W : World} (h : WPl base b3 v ps W) : ps.length ≤ 10 := by
 have := (rgB_iff.1 h.1).2
 rw [psD_len] at this
 exact this
theorem WPl.new {base base' b3 : Nat} {v : Value} {ps : List Pl} {W : World} (h1 : rgB (psD ps) = true) (h2 : v ≠ .slice none 0 0) (h3 : OwQ W base' v ps) (h4 : Places W ps) (h5 : ∀ p ∈ ps, NewRow base' p) (hb : base ≤ base') (hc : b3 < base') : WPl base b3 v ps W :=
 ⟨h1, h2, h3.less hb, h4, fun p hp z hz => by have := h5 p hp z hz; omega, fun e => by have := (h3.row _ e).1; omega⟩
theorem ns_one {n : Nm} (h : nmB n = true) : nsB [n] = true := nsB_iff.2 ⟨fun j hj => by
 have : j = 0 := by simp at hj; omega
 subst this
 exact okN_iff.2 ⟨by simpa [List.getD] using h, fun q hq => absurd hq (by omega)⟩, by simp⟩
theorem pl_named {t : List UInt8} {cl x y x' y' : Int} {ns : List Nm} {s : List UInt8} (h : plB (t, cl, x, y, ns) = true) (hs : phB s = true) (hx : spB x' y' = true) : plB (t, cl, x', y', [(s, [101, 110], 0, x', y')]) = true := by
 unfold plB at h ⊢
 simp only [Bool.and_eq_true] at h ⊢
 refine ⟨h.1, h.2.1, hx, ns_one ?_, ?_⟩
 ·unfold nmB
  simp only [hs, hx, Bool.and_true, Bool.true_and]
  decide
 ·simp [inY]
def Rg13a (B g b5 : Nat) (x y : Int) (p : Value) : Nat → Value → World → Prop
 | 0, v, _ => v = p
 | 1, v, _ => ∃ t : List UInt8, v = .string (tx t) ∧ phB t = true ∧ t.length ≤ 39
 | 2, v, _ => v = .pointer (some ⟨b5, 2, none⟩)
 | 3, v, _ => v = .agg #[.int .i64 x, .int .i64 y]
 | 4, v, _ => ∃ t : List UInt8, v = .agg #[.string (tx t), .string (tx [101, 110]), .int .i64 0, .int .i64 x, .int .i64 y] ∧ phB t = true ∧ t.length ≤ 39
 | 5, v, w => ∃ (q : Nat) (t : List UInt8), v = .slice (some ⟨q, 0, none⟩) 1 1 ∧ phB t = true ∧ t.length ≤ 39 ∧ B ≤ q ∧ q ≠ g ∧ Blk w q 117 #[.string (tx t), .string (tx [101, 110]), .int .i64 0, .int .i64 x, .int .i64 y]
 | 6, v, _ => v = .pointer (some ⟨b5, 4, none⟩)
 | _, _, _ => True
theorem Rg13a.stay {B g b5 : Nat} {x y : Int} {p : Value} (i : Nat) (v : Value) (w w' : World) (hu : But g w w') (h : Rg13a B g b5 x y p i v w) : Rg13a B g b5 x y p i v w' := by
 rcases i with _ | _ | _ | _ | _ | _ | _ | i
 ·exact h
 ·exact h
 ·exact h
 ·exact h
 ·exact h
 ·obtain ⟨q, t, e, h1, h2, h3, h4, h5⟩ := h; exact ⟨q, t, e, h1, h2, h3, h4, h5.but' hu h4⟩
 ·exact h
 ·trivial
def WLk (base b3 : Nat) (v : Value) (L : List Lk) (W : World) : Prop :=
 lksB L = true ∧ OwK W base v L ∧ LnksOk L ∧ ¬ v.ownBlock = some b3
theorem WLk.but {base b3 g : Nat} {v : Value} {L : List Lk} {W W' : World} (h : WLk base b3 v L W) (hu : But g W W') (h1 : g < base) : WLk base b3 v L W' :=
 ⟨h.1, h.2.1.but hu h1, h.2.2.1, h.2.2.2⟩
theorem WLk.ext {base b3 : Nat} {v : Value} {L : List Lk} {W W' : World} (h : WLk base b3 v L W) (hx : Ext W W') : WLk base b3 v L W' :=
 ⟨h.1, h.2.1.ext hx, h.2.2.1, h.2.2.2⟩
theorem WLk.set {base b3 i : Nat} {v : Value} {L : List Lk} {W : World} (h : WLk base b3 v L W) (u : Value) : WLk base b3 v L (W.setCell ⟨b3, i, none⟩ u) :=
 ⟨h.1, h.2.1.setFar h.2.2.2 u, h.2.2.1, h.2.2.2⟩
theorem WLk.far {base b3 : Nat} {v : Value} {L : List Lk} {W : World} {p : Addr} (h : WLk base b3 v L W) (h1 : p.block < base) (u : Value) : WLk base b3 v L (W.setCell p u) :=
 ⟨h.1, h.2.1.setFar (fun e => by have := (h.2.1.row _ e).1; omega) u, h.2.2.1, h.2.2.2⟩
theorem WPl.far {base b3 : Nat} {v : Value} {ps : List Pl} {W : World} {q : Addr} (h : WPl base b3 v ps W) (h1 : q.block < base) (h2 : q.block < b3) (u : Value) : WPl base b3 v ps (W.setCell q u) := by
 obtain ⟨p1, p2, p3, p4, p5, p6⟩ := h
 exact ⟨p1, p2, p3.setFar (fun e => by have := (p3.row _ e).1; omega) u, fun p hp => ⟨(p4 p hp).1.setFar (fun z hz => by have := p5 p hp z hz; omega) u, (p4 p hp).2⟩, p5, p6⟩
theorem WLk.new {base base' b3 : Nat} {v : Value} {L : List Lk} {W : World} (h1 : lksB L = true) (h2 : OwK W base' v L) (h3 : LnksOk L) (hb : base ≤ base') (hc : b3 < base') : WLk base b3 v L W :=
 ⟨h1, h2.less hb, h3, fun e => by have := (h2.row _ e).1; omega⟩
def plA (x : Pl) : Array Value := #[.string (tx x.1), .int .i64 x.2.1, .int .i64 x.2.2.1, .int .i64 x.2.2.2.1, .slice x.2.2.2.2.1 x.2.2.2.2.2.2.length x.2.2.2.2.2.1]
def YOk (x : Pl) : Prop := x.1.length ≤ 16 ∧ -3000 ≤ x.2.2.1 ∧ x.2.2.1 ≤ x.2.2.2.1 ∧ x.2.2.2.1 ≤ 3000
theorem YOk.zero : YOk plD := by unfold YOk; simp [plD]
def KpP (g : Nat) (w w' : World) : Prop := ∀ (b : Nat) (x : Pl), b ≠ g → YOk x → Blk w b 57 (plA x) → ∃ x', YOk x' ∧ Blk w' b 57 (plA x')
theorem KpP.of {g : Nat} {w w' : World} (hu : But g w w') : KpP g w w' := fun _ x hb hx h => ⟨x, hx, h.but' hu hb⟩
theorem KpP.put {g b : Nat} {x : Pl} {w w' : World} (hx : YOk x) (hB : Blk w' b 57 (plA x)) (hk : ∀ q, ¬ q = b → w'.heap[q]? = w.heap[q]?) : KpP g w w' := fun q y _ hy h => by
 by_cases e : q = b
 ·exact ⟨x, hx, by rw [e]; exact hB⟩
 ·exact ⟨y, hy, (hk q e).trans h⟩
theorem rg_mem {ps : List Pl} {x : Pl} (h : rgB (psD ps) = true) (hx : x ∈ ps) : plB (pdOf x) = true := by
 obtain ⟨k, hk, e⟩ := List.mem_iff_getElem.1 hx
 have := (rgB_iff.1 h).1 k (by rw [psD_len]; exact hk)
 unfold okR at this
 rw [psD_at hk] at this
 simp only [Bool.and_eq_true] at this
 have e2 : ps.getD k plD = x := by simp [List.getD, hk, e]
 rw [e2] at this
 exact this.1
theorem plB_facts {x : Pl} (h : plB (pdOf x) = true) : x.1.length ≤ 16 ∧ -3000 ≤ x.2.2.1 ∧ x.2.2.1 ≤ x.2.2.2.1 ∧ x.2.2.2.1 ≤ 3000 := by
 unfold plB at h
 simp only [Bool.and_eq_true] at h
 have h1 := h.1
 have h2 := spB_iff.1 h.2.2.1
 unfold smL at h1
 simp only [inB, Bool.and_eq_true, decide_eq_true_eq] at h1
 simp only [pdOf] at h1 h2
 exact ⟨by omega, h2⟩
def Rg13b (B g b3 gq n cap : Nat) (p : Value) : Nat → Value → World → Prop
 | 0, v, _ => v = .pointer (some ⟨b3, 0, none⟩)
 | 1, v, _ => v = .slice (some ⟨gq, 0, none⟩) n cap
 | 2, v, _ => v = p
 | 3, v, _ => v = .pointer (some ⟨b3, 0, none⟩)
 | 4, v, _ => v = .slice (some ⟨gq, 0, none⟩) n cap
 | 5, v, _ => v = .int .i64 n
 | 6, v, _ => ∃ j : Nat, v = .int .i64 j ∧ j < n
 | 7, v, _ => ∃ j : Nat, v = .pointer (some ⟨gq, j * 5, none⟩) ∧ j < n
 | 8, v, _ => ∃ x : Pl, v = .agg (plA x) ∧ YOk x
 | 9, v, _ => v = .pointer (some ⟨b3, 0, none⟩)
 | 10, v, _ => v = .slice (some ⟨gq, 0, none⟩) n cap
 | 11, v, _ => v = p
 | 12, v, _ => v = .pointer (some ⟨b3, 0, none⟩)
 | 13, v, _ => v = .slice (some ⟨gq, 0, none⟩) n cap
 | 14, v, _ => v = .int .i64 n
 | 15, v, _ => ∃ j : Nat, v = .int .i64 j ∧ j < n
 | 16, v, _ => ∃ j : Nat, v = .pointer (some ⟨gq, j * 5, none⟩) ∧ j < n
 | 17, v, _ => ∃ x : Pl, v = .agg (plA x) ∧ YOk x
 | 18, v, w => ∃ (b : Nat) (x : Pl), v = .pointer (some ⟨b, 0, none⟩) ∧ B ≤ b ∧ b ≠ g ∧ YOk x ∧ Blk w b 57 (plA x)
 | 19, v, w => ∃ (b : Nat) (x : Pl), v = .pointer (some ⟨b, 0, none⟩) ∧ B ≤ b ∧ b ≠ g ∧ YOk x ∧ Blk w b 57 (plA x)
 | _, _, _ => True
theorem Rg13b.stay {B g b3 gq n cap : Nat} {p : Value} (i : Nat) (v : Value) (w w' : World) (hu : KpP g w w') (h : Rg13b B g b3 gq n cap p i v w) : Rg13b B g b3 gq n cap p i v w' := by
 rcases i with _ | _ | _ | _ | _ | _ | _ | _ | _ | _ | _ | _ | _ | _ | _ | _ | _ | _ | _ | _ | i
 all_goals first | exact h | (obtain ⟨b, x, e, h1, h2, h3, h4⟩ := h; obtain ⟨x', h5, h6⟩ := hu b x h2 h3 h4; exact ⟨b, x', e, h1, h2, h5, h6⟩)
def Rg13c (ba bb : Nat) (x1 x2 z1 z2 : Int) : Nat → Value → World → Prop
 | 0, v, _ => v = .pointer (some ⟨ba, 2, none⟩)
 | 1, v, _ => v = .pointer (some ⟨ba, 2, none⟩)
 | 2, v, _ => v = .int .i64 x1
 | 3, v, _ => v = .pointer (some ⟨bb, 2, none⟩)
 | 4, v, _ => v = .pointer (some ⟨bb, 2, none⟩)
 | 5, v, _ => v = .int .i64 z1
 | 6, v, _ => ∃ f : Int, v = .int .i64 f ∧ (f = x1 ∨ f = z1)
 | 7, v, _ => v = .pointer (some ⟨ba, 2, none⟩)
 | 8, v, _ => v = .pointer (some ⟨ba, 3, none⟩)
 | 9, v, _ => v = .int .i64 x2
 | 10, v, _ => v = .pointer (some ⟨bb, 2, none⟩)
 | 11, v, _ => v = .pointer (some ⟨bb, 3, none⟩)
 | 12, v, _ => v = .int .i64 z2
 | 13, v, _ => ∃ f : Int, v = .int .i64 f ∧ (f = x2 ∨ f = z2)
 | 14, v, _ => ∃ f : Int, v = .int .i64 f ∧ (f = x1 ∨ f = z1)
 | 15, v, _ => ∃ f : Int, v = .int .i64 f ∧ (f = x2 ∨ f = z2)
 | _, _, _ => True
theorem Rg13c.stay {ba bb : Nat} {x1 x2 z1 z2 : Int} (i : Nat) (v : Value) (w w' : World) (h : Rg13c ba bb x1 x2 z1 z2 i v w) : Rg13c ba bb x1 x2 z1 z2 i v w' := by
 rcases i with _ | _ | _ | _ | _ | _ | _ | _ | _ | _ | _ | _ | _ | _ | _ | _ | i <;> exact h
set_option maxRecDepth 20000 in
set_option maxHeartbeats 25600000 in
theorem s_l13Good {a : World} {A : Option Addr} {c : Nat} {bs : List Int} {g : Nat} (w : World) (h : Src a A c bs g w) :
  Calls Tryz.prog 65 #[.pointer (some ⟨g, 0, none⟩)] w fun e w' => ∃ (v lv : Value) (ps : List Pl) (L : List Lk) (q1 b3 : Nat), e = .returned (.agg #[v, lv]) ∧ ¬ ps = [] ∧ (w.heap.size < q1 ∧ w.heap.size < b3) ∧ L.length ≤ 7 ∧ WPl q1 b3 v ps w' ∧ WLk q1 b3 lv L w' ∧ Src a A c bs g w' ∧ But g w w' := by
 have hlt := h.lt
 have how := h.own
 have hasz := h.ext.size
 have nb : ¬ w.heap.size = g := by omega
 go_enter Tryz.func65, Tryz.ntmps65
 (go_wp2_with fail; refine (s_l01Next (a := a) (A := A) (c := c) (bs := bs) _ _ (sA (sA (sA (sA h)))) (by omega)).mono ?_; rintro e w1 ⟨x1, rfl, hb1, hS1, hu1⟩; obtain ⟨hc1, hf1, hs1⟩ := hu1.all; (try simp at hs1); have := (show g < w1.heap.size from by omega))
 obtain ⟨n0, rfl⟩ := Int.eq_ofNat_of_zero_le hb1.1
 have hn0 : n0 ≤ 5 := by omega
 have hB1 : Blk w1 (w.heap.size + 1) 57 #[] := Blk.but' hu1 (by omega) (Blk.eq (bA (bA (bN (by first|omega|simp)))) (by rfl))
 have hB2 : Blk w1 (w.heap.size + 1 + 1) 108 #[] := Blk.but' hu1 (by omega) (Blk.eq (bA (bN (by first|omega|simp))) (by rfl))
 have hB3 : Blk w1 (w.heap.size + 1 + 1 + 1) 27 #[.slice (some ⟨w.heap.size + 1, 0, none⟩) 0 0, .slice (some ⟨w.heap.size + 1 + 1, 0, none⟩) 0 0] := Blk.but' hu1 (by omega) (Blk.eq (bN (by first|omega|simp)) (by rfl))
 have hB0 : Blk w1 w.heap.size 27 #[.slice none 0 0, .slice none 0 0] := Blk.but' hu1 (by omega) (Blk.eq (bA (bA (bA (bN (by omega))))) (by rfl))
 have HU1 : Hid (But g w w1) := hI (uT (uA (uA (uA (uA uR)))) hu1)
 have HS1 := hI hS1
 clear hu1 hS1 hb1 hc1 hf1 h
 obtain ⟨b3, hb3⟩ : ∃ b, b = w.heap.size + 1 + 1 + 1 := ⟨_, rfl⟩
 rw [← hb3] at hB3 ⊢
 obtain ⟨q2, hq2⟩ : ∃ b, b = w.heap.size + 1 + 1 := ⟨_, rfl⟩
 rw [← hq2] at hB3 hB2 ⊢
 obtain ⟨q1, hq1⟩ : ∃ b, b = w.heap.size + 1 := ⟨_, rfl⟩
 rw [← hq1] at hB3 hB1 ⊢
 have HW1 : Hid (WPl q1 b3 (.slice (some ⟨q1, 0, none⟩) 0 0) [] w1) := hI ⟨by decide, (fun e => by injection e with e1; cases e1), Own.of_blk (xs := []) hB1 len_encQ rfl (Nat.le_refl _) (Nat.zero_le _), fun p hp => by simp at hp, fun p hp => by simp at hp, fun e => by have := own_is e; omega⟩
 have HB3 := hI hB3
 have HB2 := hI hB2
 have HB0 := hI hB0
 have n3g : ¬ b3 = g := by omega
 have n2g : ¬ q2 = g := by omega
 have ng3 : ¬ g = b3 := by omega
 have n30 : ¬ b3 = w.heap.size := by omega
 have n03 : ¬ w.heap.size = b3 := by omega
 have n32 : ¬ b3 = q2 := by omega
 have n23 : ¬ q2 = b3 := by omega
 have h3g : g < b3 := by omega
 have h1g : g < q1 := by omega
 have h13 : q1 < b3 := by omega
 have h12 : q1 ≤ q2 := by omega
 have hw3 : w.heap.size < b3 := by omega
 have hw1 : w.heap.size < q1 := by omega
 clear hB0 hB1 hB2 hB3 hb3 hq1 hq2
 have hw2 : IntKind.i64.wrap (2 + (n0 : Int)) = ((n0 + 2 : Nat) : Int) := by rw [IntWalk.i64_in _ (by omega)]; omega
 go_wp2
 go_loopw [4] (fun i wr => ∃ (k : Nat) (v : Value) (ps : List Pl), i = .int .i64 k ∧ k ≤ 7 ∧ (ps = [] → 2 ≤ k) ∧ Hid (WPl q1 b3 v ps wr) ∧ Hid (Blk wr b3 27 #[v, .slice (some ⟨q2, 0, none⟩) 0 0]) ∧ Hid (Blk wr q2 108 #[]) ∧ Hid (Blk wr w.heap.size 27 #[.slice none 0 0, .slice none 0 0]) ∧ Hid (Src a A c bs g wr) ∧ Hid (But g w wr)) (fun i _ => (intOf i).toNat)
 case atStart => exact ⟨n0 + 2, _, [], by go_num, by omega, fun _ => by omega, HW1, HB3, HB2, HB0, HS1, HU1⟩
 case round =>
  clear HW1 HB3 HB2 HB0 HS1 HU1
  obtain ⟨k, v, ps, rfl, hk, hne, HW, HB3, HB2, HB0, HSr, HUr⟩ := hrel
  obtain ⟨w5, rfl⟩ : ∃ z, z = wr := ⟨wr, rfl⟩
  have hs5 := HUr.out.size
  have hl3 := HB3.out.lt
  by_cases hk0 : 0 < k
  ·obtain ⟨r, rfl⟩ : ∃ r, k = r + 1 := ⟨k - 1, by omega⟩
   go_upto_region 5 with (fail)
   go_cut [5] (fun p wx => ∃ (b5 : Nat) (x : Pl), p = .pointer (some ⟨b5, 0, none⟩) ∧ PlOk x ∧ PlAt wx x ∧ (∀ z : Addr, x.2.2.2.2.1 = some z → b3 < z.block ∧ z.block ≠ g) ∧ w5.heap.size ≤ b5 ∧ Hid (Blk wx b5 57 #[.string (tx x.1), .int .i64 x.2.1, .int .i64 x.2.2.1, .int .i64 x.2.2.2.1, .slice x.2.2.2.2.1 x.2.2.2.2.2.2.length x.2.2.2.2.2.1]) ∧ Hid (Src a A c bs g wx) ∧ Hid (But g w5 wx))
   case first =>
    go_wp2_with fail
    refine (s_l11Good (a := a) (A := A) (c := c) (bs := bs) _ HSr.out).mono ?_
    rintro e w6 ⟨x, rfl, hok, hpl, hrow, hS6, hu6⟩
    have HS6 := hI hS6
    have HU6 := hI hu6
    have HOK := hI hok
    have HPA := hI hpl
    have HRW := hI hrow
    have hs6 := hu6.size
    have ng6 : ¬ g = w6.heap.size := by omega
    clear hS6 hu6 hok hpl hrow
    go_wp2_with fail
    go_meet
    have hS6 := HS6.out
    have hu6 := HU6.out
    exact ⟨w6.heap.size, x, rfl, HOK.out, HPA.out.ext (xA xR), fun z hz => ⟨by have := (HRW.out z hz).1; omega, (HRW.out z hz).2.1⟩, by omega, hI (Blk.eq (bN (by omega)) (by rfl)), hI (sA hS6), hI (uA hu6)⟩
   case rest =>
   obtain ⟨b5, x, rfl, hok, hpa, hrw, hb5, G5, GS, GU⟩ := hcut
   obtain ⟨w6, rfl⟩ : ∃ z, z = wc := ⟨wc, rfl⟩
   obtain ⟨x1, x2, x3, x4, x5, x6, x7⟩ := x
   simp only at hrw G5
   have HOK := hI hok
   have HPA := hI hpa
   have HRW := hI hrw
   have HPB : Hid (plB (x1, x2, x3, x4, x7) = true) := hI hok.1
   have hxl : x1.length ≤ 16 := hok.2.2
   have hs6 := GU.out.size
   have nb5 : ¬ b5 = g := by omega
   have nd5 : ¬ g = b5 := by omega
   clear hok hpa hrw
   have hlb5 := G5.out.lt
   go_wp2_with fail
   refine (s_l01Next (a := a) (A := A) (c := c) (bs := bs) _ _ GS.out (by omega)).mono ?_
   rintro e w7 ⟨j7, rfl, hj7, hS7, hu7⟩
   have hs7 := hu7.size
   have G7 := hI (G5.out.but' hu7 nb5)
   have HPA7 : Hid (PlAt w7 (x1, x2, x3, x4, x5, x6, x7)) := hI ⟨HPA.out.1.butG hu7 (fun z hz => (HRW.out z hz).2), HPA.out.2⟩
   have HS7 := hI hS7
   have HU7 := hI (GU.out.trans hu7)
   have hlb7 := G7.out.lt
   clear hS7 hu7 G5 GS GU HPA
   go_upto_if 29 with (fail)
   go_cut [] (fun wx => ∃ z : Pl, plB (pdOf z) = true ∧ PlAt wx z ∧ (∀ y : Addr, z.2.2.2.2.1 = some y → b3 < y.block ∧ y.block ≠ g) ∧ Hid (Blk wx b5 57 #[.string (tx z.1), .int .i64 z.2.1, .int .i64 z.2.2.1, .int .i64 z.2.2.2.1, .slice z.2.2.2.2.1 z.2.2.2.2.2.2.length z.2.2.2.2.2.1]) ∧ Hid (Src a A c bs g wx) ∧ Hid (But g w5 wx))
   case first =>
    cases hj0 : decide (0 < j7) with
    | true =>
     clear HPA7
     go_upto_region 7 with (fail)
     go_cut [] (fun wx => ∃ f d : Int, Hid (spB f d = true) ∧ Hid (Blk wx b5 57 #[.string (tx x1), .int .i64 x2, .int .i64 f, .int .i64 d, .slice x5 x7.length x6]) ∧ Hid (Src a A c bs g wx) ∧ Hid (But g w5 wx))
     case first =>
      go_wp2_with fail
      refine (s_l01Next (a := a) (A := A) (c := c) (bs := bs) _ _ HS7.out (by omega)).mono ?_
      rintro e w8 ⟨f0, rfl, hf0, hS8, hu8⟩
      have G8 := hI (G7.out.but' hu8 nb5)
      have HS8 := hI hS8
      have HU8 := hI (HU7.out.trans hu8)
      have hs8 := hu8.size
      have hwf : IntKind.i64.wrap (1000 + f0) = 1000 + f0 := IntWalk.i64_in _ (by omega)
      clear hS8 hu8 G7 HS7 HU7
      go_wp2_with fail
      refine (s_l01Next (a := a) (A := A) (c := c) (bs := bs) _ _ HS8.out (by omega)).mono ?_
      rintro e w9 ⟨d0, rfl, hd0, hS9, hu9⟩
      have hG9 := G8.out.but' hu9 nb5
      have G9 := hI hG9
      have HS9 := hI hS9
      have HU9 := hI (HU8.out.trans hu9)
      have hs9 := hu9.size
      have hwd : IntKind.i64.wrap (2000 + d0) = 2000 + d0 := IntWalk.i64_in _ (by omega)
      have HFD : Hid (spB (1000 + f0) (2000 + d0) = true) := hI (spB_iff.2 (by omega))
      have z2 := hG9.frozen 2
      have z3 := hG9.frozen 3
      have y2 : w9.cell? ⟨b5, 2, none⟩ = some (.int .i64 x3) := hG9.cell 2
      have y3 : w9.cell? ⟨b5, 3, none⟩ = some (.int .i64 x4) := hG9.cell 3
      have hlb9 := hG9.lt
      clear hS9 hu9 hG9 G8 HS8 HU8
      go_wp2_with fail
      go_meet
      have hG9 := G9.out
      have HU0 := HU9.out
      have HS0 := HS9.out
      exact ⟨_, _, HFD, hI (Blk.eq (bS (bS hG9)) (by rfl)), hI (sF nd5 (by omega) (sF nd5 (by omega) HS0)), hI (uW hb5 (uW hb5 HU0))⟩
     case rest =>
     obtain ⟨f, d, HFD, G9, GS9, GU9⟩ := hcut
     obtain ⟨w9, rfl⟩ : ∃ z, z = wc := ⟨wc, rfl⟩
     have hs9 := GU9.out.size
     have hlb9 := G9.out.lt
     clear G7 HS7 HU7
     go_upto_region 8 with (fail)
     go_cut [] (fun wx => ∃ z : Pl, plB (pdOf z) = true ∧ PlAt wx z ∧ (∀ y : Addr, z.2.2.2.2.1 = some y → b3 < y.block ∧ y.block ≠ g) ∧ Hid (Blk wx b5 57 #[.string (tx z.1), .int .i64 z.2.1, .int .i64 z.2.2.1, .int .i64 z.2.2.2.1, .slice z.2.2.2.2.1 z.2.2.2.2.2.2.length z.2.2.2.2.2.1]) ∧ Hid (Src a A c bs g wx) ∧ Hid (But g w5 wx))
     case first =>
      refine wp_region_rgb (m := 7) (C := fun W => Src a A c bs g W ∧ But g w9 W ∧ w.heap.size < W.heap.size) (K := But g) (R := Rg13a w9.heap.size g b5 f d (.pointer (some ⟨g, 0, none⟩))) Tryz.f65.ntmps (by kernel_rfl) (by kernel_rfl) (by simp) (by rw [Tryz.ntmps65]; simp) (fun i v w w' => Rg13a.stay i v w w') ?hC ?hstep ?hend
      case hC =>
       have HS0 := GS9.out
       exact ⟨sD HS0, uD uR, by first | omega | (simp; omega)⟩
      case hstep =>
       simp only [List.take_succ_cons, List.take_zero]
       refine AllFrom.cons ?_ <| AllFrom.cons ?_ <| AllFrom.cons ?_ <| AllFrom.cons ?_ <| AllFrom.cons ?_ <| AllFrom.cons ?_ <| AllFrom.cons ?_ AllFrom.nil
       all_goals (intro a1 W hfr hdep hC; have HC := hI hC; clear hC)
       ·have t0 : a1.tmps.getD 0 undef = .pointer (some ⟨g, 0, none⟩) := hfr.at_ rfl (by kernel_rfl)
        unfold Oper.wp
        go_simp
        exact ⟨_, rfl, rfl, But.refl g W, HC.out⟩
       ·have t38 : a1.tmps.getD 38 undef = .pointer (some ⟨g, 0, none⟩) := hdep ⟨0, .data⟩ (by simp) rfl _ rfl
        unfold Oper.wp
        go_simp
        refine (s_l01GoodPhrase (a := a) (A := A) (c := c) (bs := bs) _ HC.out.1).mono ?_
        rintro e W2 ⟨t, rfl, ht, hS2, hu2⟩
        have hs2 := hu2.size
        have hWs := HC.out.2.2
        exact ⟨_, rfl, ⟨t, rfl, ht.1, ht.2⟩, hu2, hS2, HC.out.2.1.trans hu2, by omega⟩
       ·have t5 : a1.tmps.getD 5 undef = .pointer (some ⟨b5, 0, none⟩) := hfr.at_ rfl (by kernel_rfl)
        unfold Oper.wp
        go_simp
        exact ⟨_, rfl, rfl, But.refl g W, HC.out⟩
       ·have t40 : a1.tmps.getD 40 undef = .pointer (some ⟨b5, 2, none⟩) := hdep ⟨2, .data⟩ (by simp) rfl _ rfl
        have hBW : Blk W b5 57 #[.string (tx x1), .int .i64 x2, .int .i64 f, .int .i64 d, .slice x5 x7.length x6] := Blk.but' HC.out.2.1 nb5 G9.out
        have hll := hBW.lt
        have c2 : W.cell? ⟨b5, 2, none⟩ = some (.int .i64 f) := hBW.cell 2
        have c3 : W.cell? ⟨b5, 3, none⟩ = some (.int .i64 d) := hBW.cell 3
        unfold Oper.wp
        go_simp
        exact ⟨_, rfl, rfl, But.refl g W, HC.out⟩
       ·obtain ⟨t, t39, ht⟩ : Rg13a w9.heap.size g b5 f d _ 1 (a1.tmps.getD 39 undef) W := hdep ⟨1, .data⟩ (by simp) rfl _ rfl
        have t39q := tq t39
        obtain t41 : Rg13a w9.heap.size g b5 f d _ 3 (a1.tmps.getD 41 undef) W := hdep ⟨3, .data⟩ (by simp) rfl _ rfl
        have t41q := tq t41
        unfold Oper.wp
        go_simp
        exact ⟨_, rfl, ⟨t, rfl, ht⟩, But.refl g W, HC.out⟩
       ·obtain ⟨t, t42, ht⟩ : Rg13a w9.heap.size g b5 f d _ 4 (a1.tmps.getD 42 undef) W := hdep ⟨4, .data⟩ (by simp) rfl _ rfl
        have t42q := tq t42
        unfold Oper.wp
        go_simp
        have hWs := HC.out.2.2
        exact ⟨_, rfl, ⟨_, t, rfl, ht.1, ht.2, by have hUW := HC.out.2.1.size; omega, by omega, blk_is (bN (by omega)) (by rfl)⟩, uA uR, HC.out.1.alloc _, HC.out.2.1.alloc _, by omega⟩
       ·have t5 : a1.tmps.getD 5 undef = .pointer (some ⟨b5, 0, none⟩) := hfr.at_ rfl (by kernel_rfl)
        unfold Oper.wp
        go_simp
        exact ⟨_, rfl, rfl, But.refl g W, HC.out⟩
      case hend =>
       intro a1 W hfr hR hC
       obtain ⟨q, t, t43, hph, htl, hqb, hqg, hQ⟩ : Rg13a w9.heap.size g b5 f d _ 5 (a1.tmps.getD 43 undef) W := hR 5 _ (by omega) rfl
       have t44 : a1.tmps.getD 44 undef = .pointer (some ⟨b5, 4, none⟩) := hR 6 _ (by omega) rfl
       have t43q := tq t43
       have t44q := tq t44
       have HC := hI hC
       have HQ := hI hQ
       have hBW : Blk W b5 57 #[.string (tx x1), .int .i64 x2, .int .i64 f, .int .i64 d, .slice x5 x7.length x6] := Blk.but' hC.2.1 nb5 G9.out
       have HBW := hI hBW
       have z4 := hBW.frozen 4
       have y4 : W.cell? ⟨b5, 4, none⟩ = some (.slice x5 x7.length x6) := hBW.cell 4
       have hl2 := hBW.lt
       have hsW := hC.2.1.size
       have nq5 : ¬ q = b5 := by omega
       clear hC hBW hQ
       refine wpAny_one (i := 7) (by kernel_rfl) (wpOp_of rfl rfl ?_)
       unfold Oper.wp
       go_simp
       refine wpAny_end (by kernel_rfl) ?_
       have hBW := HBW.out
       have hQ := HQ.out
       have HS0 := HC.out.1
       have HU0 : But g w5 W := But.trans GU9.out HC.out.2.1
       have hsh := hfr.shape [false, false, false, false, false, false, false, false, false, false, false, false, false, false, false, false, false, false, false, false, false, false, false, false, false, false, false, false, false, false, false, false, false, false, false, false, false, false, true, true, true, true, true, true, true, false, false, false, false, false, false, false, false, false, false, false, false, false, false, false, false, false, false, false, false, false, false, false, false, false, false, false, false, false, false, false, false, false, false, false, false, false, false, false, false, false, false, false, false, false, false, false, false, false, false, false, false, false, false, false, false, false, false, false, false, false, false, false, false, false, false, false, false, false, false, false, false, false, false, false, false, false, false, false, false, false, false, false] (by rfl) (by kernel_rfl)
       simp only [mixL] at hsh
       rw [hsh]
       go_wp2_with fail
       go_meet
       refine ⟨(x1, x2, f, d, some ⟨q, 0, none⟩, 1, [(t, [101, 110], 0, f, d)]), pl_named HPB.out hph HFD.out, ⟨?_, by simp, by simp only; omega, by simp, NmsOk.names (fun n hn => ?_)⟩, fun z hz => ?_, hI (Blk.eq (bS hBW) (by rfl)), hI (sF nd5 (by omega) HS0), hI (uW hb5 HU0)⟩
       ·exact (blk_n1 (n := (t, [101, 110], 0, f, d)) HQ.out rfl).setFar (fun z hz => by injection hz with hz; subst hz; show ¬ q = b5; exact nq5) _
       ·rw [List.mem_singleton.1 hn]; exact ⟨by simp only; omega, by simp, by simp, by have := spB_iff.1 HFD.out; simp only; omega, by have := spB_iff.1 HFD.out; simp only; omega⟩
       ·injection hz with hz; subst hz; exact ⟨by show b3 < q; omega, hqg⟩
     case rest =>
     obtain ⟨z, hz1, hz2, hz3, G10, GS10, GU10⟩ := hcut
     go_wp2
     go_meet
     exact ⟨z, hz1, hz2, hz3, G10, GS10, GU10⟩
    | false =>
     go_wp2
     go_meet
     exact ⟨(x1, x2, x3, x4, x5, x6, x7), HPB.out, HPA7.out, HRW.out, G7, HS7, HU7⟩
   case rest =>
   obtain ⟨z, hz1, hz2, hz3, G10, GS10, GU10⟩ := hcut
   obtain ⟨w10, rfl⟩ : ∃ q, q = wc := ⟨wc, rfl⟩
   clear G7 HS7 HU7 HPA7 HOK HRW HPB
   have hs10 := GU10.out.size
   have hW10 := HW.out.but GU10.out h1g h3g
   have HW10 := hI hW10
   have hB3 := HB3.out.but' GU10.out n3g
   have HB3x := hI hB3
   have HB2x := hI (HB2.out.but' GU10.out n2g)
   have HB0x := hI (HB0.out.but' GU10.out nb)
   have HU10 := hI (HUr.out.trans GU10.out)
   have hG10 := G10.out
   have yb0 : w10.cell? ⟨b3, 0, none⟩ = some v := hB3.cell 0
   have yz0 : w10.cell? ⟨b5, 0, none⟩ = some (.string (tx z.1)) := hG10.cell 0
   have yz1 : w10.cell? ⟨b5, 1, none⟩ = some (.int .i64 z.2.1) := hG10.cell 1
   have yz2 : w10.cell? ⟨b5, 2, none⟩ = some (.int .i64 z.2.2.1) := hG10.cell 2
   have yz3 : w10.cell? ⟨b5, 3, none⟩ = some (.int .i64 z.2.2.2.1) := hG10.cell 3
   have yz4 : w10.cell? ⟨b5, 4, none⟩ = some (.slice z.2.2.2.2.1 z.2.2.2.2.2.2.length z.2.2.2.2.2.1) := hG10.cell 4
   have hl10 := hG10.lt
   have HA := hI (s_AddPlace q1 v ps z w10 hW10.2.2.1 hW10.2.1 hW10.2.2.2.1 hz2 (by have := hW10.len; omega))
   have HZ1 := hI hz1
   have HPE : Hid (psD [] = []) := hI rfl
   have hwr : IntKind.i64.wrap (((r + 1 : Nat) : Int) - 1) = (r : Int) := by rw [IntWalk.i64_in _ (by omega)]; omega
   clear HW HB3 HB2 HB0 HSr HUr hW10 hB3 hG10 hz2 hz3 GU10 G10 hz1
   generalize tx z.1 = g1 at *
   generalize z.2.1 = g2 at *
   generalize z.2.2.1 = g3 at *
   generalize z.2.2.2.1 = g4 at *
   generalize (Value.slice z.2.2.2.2.1 z.2.2.2.2.2.2.length z.2.2.2.2.2.1) = g5 at *
   go_wp2_with fail
   refine HA.out.mono ?_
   rintro e w11 ⟨hr, hx11⟩
   have hs11 := hx11.size
   have HS11 := hI (GS10.out.on hx11)
   have HU11 := hI (HU10.out.trans (But.of hx11))
   have hB3 := HB3x.out.ext hx11
   have HB3y := hI hB3
   have HB2y := hI (HB2x.out.ext hx11)
   have HB0y := hI (HB0x.out.ext hx11)
   have HW11 := hI (HW10.out.ext hx11)
   have zb0 := hB3.frozen 0
   have vb0 : w11.cell? ⟨b3, 0, none⟩ = some v := hB3.cell 0
   have hl11 := hB3.lt
   clear HA HB3x HB2x HB0x HW10 GS10 HU10 hx11 hB3
   rcases hr with ⟨m, hm, rfl, hno⟩ | ⟨v2, ps2, rfl, hnz, hO, hrg, hlen, hP, hNR, _⟩
   ·have e0 : (m == 0) = false := beq_eq_false_iff_ne.2 hm
    have HNO : Hid (ps = [] → 2 ≤ r) := hI (fun e => absurd ⟨by rw [e]; rfl, HZ1.out⟩ hno)
    clear hno
    go_wp2
    go_roundw
    case rel => exact ⟨r, v, ps, by go_num, by omega, HNO.out, HW11, HB3y, HB2y, HB0y, HS11, HU11⟩
    case measure => simp [intOf]
   ·have HWn := hI (WPl.new (base := q1) (b3 := b3) hrg hnz hO hP hNR (by omega) (by omega))
    have HNO : Hid (ps2 = [] → 2 ≤ r) := hI (fun e => by rw [e] at hlen; simp at hlen)
    obtain ⟨A2, c2, rfl, _, _, _, _⟩ := hO.sl len_encQ
    clear hrg hnz hO hP hNR hlen HW11
    go_wp2
    go_roundw
    case rel =>
     have hB3 := HB3y.out
     have hB2 := HB2y.out
     have hB0 := HB0y.out
     have HS0 := HS11.out
     have HU0 := HU11.out
     exact ⟨r, .slice A2 ps2.length c2, ps2, by go_num, by omega, HNO.out, hI (HWn.out.set _), hI (Blk.eq (bS hB3) (by rfl)), hI (bF n23 hB2), hI (bF n03 hB0), hI (sF ng3 (by omega) HS0), hI (uW (by omega) HU0)⟩
    case measure => simp [intOf]
  ·obtain rfl : k = 0 := by omega
   have hps : ¬ ps = [] := fun e => by have := hne e; omega
   have hown := HW.out.2.2.1.2
   rcases hown with ⟨_, e0⟩ | ⟨gq, cap, cur, rfl, _, _, hnc, hcm, _, _⟩
   ·exact absurd (List.length_eq_zero_iff.1 e0) hps
   obtain ⟨n, hn⟩ : ∃ n, n = ps.length := ⟨_, rfl⟩
   rw [← hn] at HW HB3 hnc
   have hnp : 0 < n := by rw [hn]; exact List.length_pos_iff.2 hps
   have hnl : n ≤ 10 := by rw [hn]; exact HW.out.len
   have HPS := hI hps
   have HN := hI hn
   have hcm' : cap ≤ 9223372036854775807 := by unfold maxLen at hcm; omega
   have hgq : ¬ gq = b3 := fun e => HW.out.2.2.2.2.2 (by rw [e]; rfl)
   clear hps hn hcm hne
   go_wp2_with fail
   refine (s_l01Next (a := a) (A := A) (c := c) (bs := bs) _ _ HSr.out (by omega)).mono ?_
   rintro e w6 ⟨m0, rfl, hm0, hS6, hu6⟩
   obtain ⟨m, rfl⟩ := Int.eq_ofNat_of_zero_le hm0.1
   have hm7 : m ≤ 7 := by omega
   have hs6 := hu6.size
   have HW6 := hI (HW.out.but hu6 h1g h3g)
   have HL6 : Hid (WLk q1 b3 (.slice (some ⟨q2, 0, none⟩) 0 0) [] w6) := hI ⟨lksB_iff.2 ⟨by simp [LkP], fun i hi => absurd hi (by simp)⟩, Own.of_blk (xs := []) (HB2.out.but' hu6 n2g) len_encK rfl (by omega) (Nat.zero_le _), fun l hl => by simp at hl, fun e => n32 (own_is e)⟩
   have HB6 := hI (HB3.out.but' hu6 n3g)
   have HZ6 := hI (HB0.out.but' hu6 nb)
   have HS6 := hI hS6
   have HU6 := hI (HUr.out.trans hu6)
   clear hS6 hu6 HW HB3 HB2 HB0 HSr HUr hm0
   go_wp2
   go_loopw [8] (fun i wr => ∃ (k : Nat) (lv : Value) (L : List Lk), i = .int .i64 k ∧ k ≤ 7 ∧ L.length + k ≤ 7 ∧ Hid (WPl q1 b3 (.slice (some ⟨gq, 0, none⟩) n cap) ps wr) ∧ Hid (WLk q1 b3 lv L wr) ∧ Hid (Blk wr b3 27 #[.slice (some ⟨gq, 0, none⟩) n cap, lv]) ∧ Hid (Blk wr w.heap.size 27 #[.slice none 0 0, .slice none 0 0]) ∧ Hid (Src a A c bs g wr) ∧ Hid (But g w wr)) (fun i _ => (intOf i).toNat)
   case atStart => exact ⟨m, _, [], by go_num, hm7, by simp; omega, HW6, HL6, HB6, HZ6, HS6, HU6⟩
   case round =>
    clear HW6 HL6 HB6 HZ6 HS6 HU6 hs6 hs5 hl3
    obtain ⟨k, lv, L, rfl, hk, hlk, HW, HL, HB3, HB0, HSr, HUr⟩ := hrel
    obtain ⟨w5, rfl⟩ : ∃ z, z = wr := ⟨wr, rfl⟩
    have hs5 := HUr.out.size
    have hl3 := HB3.out.lt
    by_cases hk0 : 0 < k
    ·obtain ⟨r, rfl⟩ : ∃ r, k = r + 1 := ⟨k - 1, by omega⟩
     go_upto_region 15 with (fail)
     go_cut [9, 10] (fun p1 p2 wx => ∃ (ba bb : Nat) (x z : Pl), p1 = .pointer (some ⟨ba, 0, none⟩) ∧ p2 = .pointer (some ⟨bb, 0, none⟩) ∧ YOk x ∧ YOk z ∧ w5.heap.size ≤ ba ∧ w5.heap.size ≤ bb ∧ ba ≠ g ∧ bb ≠ g ∧ Hid (Blk wx ba 57 (plA x)) ∧ Hid (Blk wx bb 57 (plA z)) ∧ Hid (Src a A c bs g wx) ∧ Hid (But g w5 wx))
     case first =>
      have hgl := hnl
      refine wp_region_rgb (m := 21) (C := fun W => Src a A c bs g W ∧ But g w5 W ∧ w.heap.size < W.heap.size) (K := KpP g) (R := Rg13b w5.heap.size g b3 gq n cap (.pointer (some ⟨g, 0, none⟩))) Tryz.f65.ntmps (by kernel_rfl) (by kernel_rfl) (by simp) (by rw [Tryz.ntmps65]; simp) (fun i v w w' => Rg13b.stay i v w w') ?hC ?hstep ?hend
      case hC =>
       have HS0 := HSr.out
       exact ⟨sD HS0, uD uR, by first | omega | (simp; omega)⟩
      case hstep =>
       simp only [List.take_succ_cons, List.take_zero]
       refine AllFrom.cons ?_ <| AllFrom.cons ?_ <| AllFrom.cons ?_ <| AllFrom.cons ?_ <| AllFrom.cons ?_ <| AllFrom.cons ?_ <| AllFrom.cons ?_ <| AllFrom.cons ?_ <| AllFrom.cons ?_ <| AllFrom.cons ?_ <| AllFrom.cons ?_ <| AllFrom.cons ?_ <| AllFrom.cons ?_ <| AllFrom.cons ?_ <| AllFrom.cons ?_ <| AllFrom.cons ?_ <| AllFrom.cons ?_ <| AllFrom.cons ?_ <| AllFrom.cons ?_ <| AllFrom.cons ?_ <| AllFrom.cons ?_ AllFrom.nil
       all_goals (intro a1 W hfr hdep hC; have HC := hI hC; clear hC)
       ·have t3 : a1.tmps.getD 3 undef = .pointer (some ⟨b3, 0, none⟩) := hfr.at_ rfl (by kernel_rfl)
        unfold Oper.wp
        go_simp
        exact ⟨_, rfl, rfl, KpP.of (But.refl g W), HC.out⟩
       ·have t62 : a1.tmps.getD 62 undef = .pointer (some ⟨b3, 0, none⟩) := hdep ⟨0, .data⟩ (by simp) rfl _ rfl
        have hBW : Blk W b3 27 #[.slice (some ⟨gq, 0, none⟩) n cap, lv] := Blk.but' HC.out.2.1 n3g HB3.out
        have hll := hBW.lt
        have c0 : W.cell? ⟨b3, 0, none⟩ = some (.slice (some ⟨gq, 0, none⟩) n cap) := hBW.cell 0
        unfold Oper.wp
        go_simp
        exact ⟨_, rfl, rfl, KpP.of (But.refl g W), HC.out⟩
       ·have t0 : a1.tmps.getD 0 undef = .pointer (some ⟨g, 0, none⟩) := hfr.at_ rfl (by kernel_rfl)
        unfold Oper.wp
        go_simp
        exact ⟨_, rfl, rfl, KpP.of (But.refl g W), HC.out⟩
       ·have t3 : a1.tmps.getD 3 undef = .pointer (some ⟨b3, 0, none⟩) := hfr.at_ rfl (by kernel_rfl)
        unfold Oper.wp
        go_simp
        exact ⟨_, rfl, rfl, KpP.of (But.refl g W), HC.out⟩
       ·have t65 : a1.tmps.getD 65 undef = .pointer (some ⟨b3, 0, none⟩) := hdep ⟨3, .data⟩ (by simp) rfl _ rfl
        have hBW : Blk W b3 27 #[.slice (some ⟨gq, 0, none⟩) n cap, lv] := Blk.but' HC.out.2.1 n3g HB3.out
        have hll := hBW.lt
        have c0 : W.cell? ⟨b3, 0, none⟩ = some (.slice (some ⟨gq, 0, none⟩) n cap) := hBW.cell 0
        unfold Oper.wp
        go_simp
        exact ⟨_, rfl, rfl, KpP.of (But.refl g W), HC.out⟩
       ·obtain t66 : Rg13b w5.heap.size g b3 gq n cap _ 4 (a1.tmps.getD 66 undef) W := hdep ⟨4, .data⟩ (by simp) rfl _ rfl
        have t66q := tq t66
        unfold Oper.wp
        go_simp
        exact ⟨_, rfl, rfl, KpP.of (But.refl g W), HC.out⟩
       ·have t64 : a1.tmps.getD 64 undef = .pointer (some ⟨g, 0, none⟩) := hdep ⟨2, .data⟩ (by simp) rfl _ rfl
        have t67 : a1.tmps.getD 67 undef = .int .i64 n := hdep ⟨5, .data⟩ (by simp) rfl _ rfl
        unfold Oper.wp
        go_simp
        refine (s_l01Next (a := a) (A := A) (c := c) (bs := bs) _ _ HC.out.1 (by omega)).mono ?_
        rintro e W2 ⟨x, rfl, hx, hS2, hu2⟩
        obtain ⟨j, rfl⟩ := Int.eq_ofNat_of_zero_le hx.1
        have hs2 := hu2.size
        have hWs := HC.out.2.2
        exact ⟨_, rfl, ⟨j, rfl, by omega⟩, KpP.of hu2, hS2, HC.out.2.1.trans hu2, by omega⟩
       ·obtain t63 : Rg13b w5.heap.size g b3 gq n cap _ 1 (a1.tmps.getD 63 undef) W := hdep ⟨1, .data⟩ (by simp) rfl _ rfl
        have t63q := tq t63
        obtain ⟨j, t68, hj⟩ : Rg13b w5.heap.size g b3 gq n cap _ 6 (a1.tmps.getD 68 undef) W := hdep ⟨6, .data⟩ (by simp) rfl _ rfl
        have t68q := tq t68
        have hj1 : (j : Int) < n := by omega
        unfold Oper.wp
        go_simp
        exact ⟨_, rfl, ⟨j, rfl, hj⟩, KpP.of (But.refl g W), HC.out⟩
       ·obtain ⟨j, t69, hj⟩ : Rg13b w5.heap.size g b3 gq n cap _ 7 (a1.tmps.getD 69 undef) W := hdep ⟨7, .data⟩ (by simp) rfl _ rfl
        have t69q := tq t69
        have hWP := HW.out.but HC.out.2.1 h1g h3g
        obtain ⟨A9, c9, e9, hS9, _, _, _⟩ := hWP.2.2.1.sl len_encQ
        injection e9 with e9 _ _
        subst e9
        have hjl : j < ps.length := by have := HN.out; omega
        obtain ⟨d0, d1, d2, d3, d4⟩ := hS9.pl' hjl
        rw [Nat.zero_add] at d0 d1 d2 d3 d4
        have HMM := hI (pl_mem hjl)
        obtain ⟨z, hze⟩ : ∃ z, z = ps.getD j plD := ⟨_, rfl⟩
        rw [← hze] at d0 d1 d2 d3 d4 HMM
        have hzo : YOk z := plB_facts (rg_mem (HW.out.1) HMM.out)
        clear hWP hS9 hze
        unfold Oper.wp
        go_simp
        exact ⟨_, rfl, ⟨z, rfl, hzo⟩, KpP.of (But.refl g W), HC.out⟩
       ·have t3 : a1.tmps.getD 3 undef = .pointer (some ⟨b3, 0, none⟩) := hfr.at_ rfl (by kernel_rfl)
        unfold Oper.wp
        go_simp
        exact ⟨_, rfl, rfl, KpP.of (But.refl g W), HC.out⟩
       ·have t71 : a1.tmps.getD 71 undef = .pointer (some ⟨b3, 0, none⟩) := hdep ⟨9, .data⟩ (by simp) rfl _ rfl
        have hBW : Blk W b3 27 #[.slice (some ⟨gq, 0, none⟩) n cap, lv] := Blk.but' HC.out.2.1 n3g HB3.out
        have hll := hBW.lt
        have c0 : W.cell? ⟨b3, 0, none⟩ = some (.slice (some ⟨gq, 0, none⟩) n cap) := hBW.cell 0
        unfold Oper.wp
        go_simp
        exact ⟨_, rfl, rfl, KpP.of (But.refl g W), HC.out⟩
       ·have t0 : a1.tmps.getD 0 undef = .pointer (some ⟨g, 0, none⟩) := hfr.at_ rfl (by kernel_rfl)
        unfold Oper.wp
        go_simp
        exact ⟨_, rfl, rfl, KpP.of (But.refl g W), HC.out⟩
       ·have t3 : a1.tmps.getD 3 undef = .pointer (some ⟨b3, 0, none⟩) := hfr.at_ rfl (by kernel_rfl)
        unfold Oper.wp
        go_simp
        exact ⟨_, rfl, rfl, KpP.of (But.refl g W), HC.out⟩
       ·have t74 : a1.tmps.getD 74 undef = .pointer (some ⟨b3, 0, none⟩) := hdep ⟨12, .data⟩ (by simp) rfl _ rfl
        have hBW : Blk W b3 27 #[.slice (some ⟨gq, 0, none⟩) n cap, lv] := Blk.but' HC.out.2.1 n3g HB3.out
        have hll := hBW.lt
        have c0 : W.cell? ⟨b3, 0, none⟩ = some (.slice (some ⟨gq, 0, none⟩) n cap) := hBW.cell 0
        unfold Oper.wp
        go_simp
        exact ⟨_, rfl, rfl, KpP.of (But.refl g W), HC.out⟩
       ·obtain t75 : Rg13b w5.heap.size g b3 gq n cap _ 13 (a1.tmps.getD 75 undef) W := hdep ⟨13, .data⟩ (by simp) rfl _ rfl
        have t75q := tq t75
        unfold Oper.wp
        go_simp
        exact ⟨_, rfl, rfl, KpP.of (But.refl g W), HC.out⟩
       ·have t73 : a1.tmps.getD 73 undef = .pointer (some ⟨g, 0, none⟩) := hdep ⟨11, .data⟩ (by simp) rfl _ rfl
        have t76 : a1.tmps.getD 76 undef = .int .i64 n := hdep ⟨14, .data⟩ (by simp) rfl _ rfl
        unfold Oper.wp
        go_simp
        refine (s_l01Next (a := a) (A := A) (c := c) (bs := bs) _ _ HC.out.1 (by omega)).mono ?_
        rintro e W2 ⟨x, rfl, hx, hS2, hu2⟩
        obtain ⟨j, rfl⟩ := Int.eq_ofNat_of_zero_le hx.1
        have hs2 := hu2.size
        have hWs := HC.out.2.2
        exact ⟨_, rfl, ⟨j, rfl, by omega⟩, KpP.of hu2, hS2, HC.out.2.1.trans hu2, by omega⟩
       ·obtain t72 : Rg13b w5.heap.size g b3 gq n cap _ 10 (a1.tmps.getD 72 undef) W := hdep ⟨10, .data⟩ (by simp) rfl _ rfl
        have t72q := tq t72
        obtain ⟨j, t77, hj⟩ : Rg13b w5.heap.size g b3 gq n cap _ 15 (a1.tmps.getD 77 undef) W := hdep ⟨15, .data⟩ (by simp) rfl _ rfl
        have t77q := tq t77
        have hj1 : (j : Int) < n := by omega
        unfold Oper.wp
        go_simp
        exact ⟨_, rfl, ⟨j, rfl, hj⟩, KpP.of (But.refl g W), HC.out⟩
       ·obtain ⟨j, t78, hj⟩ : Rg13b w5.heap.size g b3 gq n cap _ 16 (a1.tmps.getD 78 undef) W := hdep ⟨16, .data⟩ (by simp) rfl _ rfl
        have t78q := tq t78
        have hWP := HW.out.but HC.out.2.1 h1g h3g
        obtain ⟨A9, c9, e9, hS9, _, _, _⟩ := hWP.2.2.1.sl len_encQ
        injection e9 with e9 _ _
        subst e9
        have hjl : j < ps.length := by have := HN.out; omega
        obtain ⟨d0, d1, d2, d3, d4⟩ := hS9.pl' hjl
        rw [Nat.zero_add] at d0 d1 d2 d3 d4
        have HMM := hI (pl_mem hjl)
        obtain ⟨z, hze⟩ : ∃ z, z = ps.getD j plD := ⟨_, rfl⟩
        rw [← hze] at d0 d1 d2 d3 d4 HMM
        have hzo : YOk z := plB_facts (rg_mem (HW.out.1) HMM.out)
        clear hWP hS9 hze
        unfold Oper.wp
        go_simp
        exact ⟨_, rfl, ⟨z, rfl, hzo⟩, KpP.of (But.refl g W), HC.out⟩
       ·unfold Oper.wp
        go_simp
        have hWs := HC.out.2.2
        exact ⟨_, rfl, ⟨_, plD, rfl, by have hUW := HC.out.2.1.size; omega, by omega, YOk.zero, blk_is (bN (by omega)) (by rfl)⟩, KpP.of (uA uR), HC.out.1.alloc _, HC.out.2.1.alloc _, by omega⟩
       ·unfold Oper.wp
        go_simp
        have hWs := HC.out.2.2
        exact ⟨_, rfl, ⟨_, plD, rfl, by have hUW := HC.out.2.1.size; omega, by omega, YOk.zero, blk_is (bN (by omega)) (by rfl)⟩, KpP.of (uA uR), HC.out.1.alloc _, HC.out.2.1.alloc _, by omega⟩
       ·obtain ⟨b, x0, t9, h1, h2, hx0, h3⟩ : Rg13b w5.heap.size g b3 gq n cap _ 18 (a1.tmps.getD 9 undef) W := hdep ⟨18, .data⟩ (by simp) rfl _ rfl
        have t9q := tq t9
        obtain ⟨x, t70, hx⟩ : Rg13b w5.heap.size g b3 gq n cap _ 8 (a1.tmps.getD 70 undef) W := hdep ⟨8, .data⟩ (by simp) rfl _ rfl
        have t70q := tq t70
        simp only [plA] at t70 t70q h3
        have z0 := h3.frozen 0
        have z1 := h3.frozen 1
        have z2 := h3.frozen 2
        have z3 := h3.frozen 3
        have z4 := h3.frozen 4
        have y0 : W.cell? ⟨b, 0, none⟩ = some (.string (tx x0.1)) := h3.cell 0
        have y1 : W.cell? ⟨b, 1, none⟩ = some (.int .i64 x0.2.1) := h3.cell 1
        have y2 : W.cell? ⟨b, 2, none⟩ = some (.int .i64 x0.2.2.1) := h3.cell 2
        have y3 : W.cell? ⟨b, 3, none⟩ = some (.int .i64 x0.2.2.2.1) := h3.cell 3
        have y4 : W.cell? ⟨b, 4, none⟩ = some (.slice x0.2.2.2.2.1 x0.2.2.2.2.2.2.length x0.2.2.2.2.2.1) := h3.cell 4
        have hll := h3.lt
        have ngb : ¬ g = b := fun e => h2 e.symm
        have HS0 := HC.out.1
        have HU0 := HC.out.2.1
        unfold Oper.wp
        go_simp
        exact ⟨trivial, KpP.put (b := b) (x := x) hx (Blk.eq (bS (bS (bS (bS (bS h3))))) (by rfl)) (fun q hq => by rw [Below.heap_setCell _ _ _ _ hq, Below.heap_setCell _ _ _ _ hq, Below.heap_setCell _ _ _ _ hq, Below.heap_setCell _ _ _ _ hq, Below.heap_setCell _ _ _ _ hq]), sF ngb (by omega) (sF ngb (by omega) (sF ngb (by omega) (sF ngb (by omega) (sF ngb (by omega) HS0)))), uW h1 (uW h1 (uW h1 (uW h1 (uW h1 HU0)))), HC.out.2.2⟩
      case hend =>
       intro a1 W hfr hR hC
       obtain ⟨ba, x, t9, ha1, ha2, hx, hA⟩ : Rg13b w5.heap.size g b3 gq n cap _ 18 (a1.tmps.getD 9 undef) W := hR 18 _ (by omega) rfl
       obtain ⟨bb, z0, t10, hb1, hb2, hz0, hB⟩ : Rg13b w5.heap.size g b3 gq n cap _ 19 (a1.tmps.getD 10 undef) W := hR 19 _ (by omega) rfl
       obtain ⟨z, t79, hz⟩ : Rg13b w5.heap.size g b3 gq n cap _ 17 (a1.tmps.getD 79 undef) W := hR 17 _ (by omega) rfl
       have t9q := tq t9
       have t10q := tq t10
       have HA := hI hA
       have HB := hI hB
       have HC := hI hC
       simp only [plA] at t79 hB
       have t79q := tq t79
       have vv0 := hB.frozen 0
       have vv1 := hB.frozen 1
       have vv2 := hB.frozen 2
       have vv3 := hB.frozen 3
       have vv4 := hB.frozen 4
       have y0 : W.cell? ⟨bb, 0, none⟩ = some (.string (tx z0.1)) := hB.cell 0
       have y1 : W.cell? ⟨bb, 1, none⟩ = some (.int .i64 z0.2.1) := hB.cell 1
       have y2 : W.cell? ⟨bb, 2, none⟩ = some (.int .i64 z0.2.2.1) := hB.cell 2
       have y3 : W.cell? ⟨bb, 3, none⟩ = some (.int .i64 z0.2.2.2.1) := hB.cell 3
       have y4 : W.cell? ⟨bb, 4, none⟩ = some (.slice z0.2.2.2.2.1 z0.2.2.2.2.2.2.length z0.2.2.2.2.2.1) := hB.cell 4
       have hll := hB.lt
       have ngb : ¬ g = bb := fun e => hb2 e.symm
       clear hA hB hC
       refine wpAny_one (i := 21) (by kernel_rfl) (wpOp_of rfl rfl ?_)
       unfold Oper.wp
       go_simp
       refine wpAny_end (by kernel_rfl) ?_
       have hsh := hfr.shape [false, false, false, false, false, false, false, false, false, true, true, false, false, false, false, false, false, false, false, false, false, false, false, false, false, false, false, false, false, false, false, false, false, false, false, false, false, false, false, false, false, false, false, false, false, false, false, false, false, false, false, false, false, false, false, false, false, false, false, false, false, false, true, true, true, true, true, true, true, true, true, true, true, true, true, true, true, true, true, true, false, false, false, false, false, false, false, false, false, false, false, false, false, false, false, false, false, false, false, false, false, false, false, false, false, false, false, false, false, false, false, false, false, false, false, false, false, false, false, false, false, false, false, false, false, false, false, false] (by rfl) (by kernel_rfl)
       simp only [mixL] at hsh
       rw [hsh]
       go_wp2_with fail
       go_meet
       have hB := HB.out
       simp only [plA] at hB
       have HS0 := HC.out.1
       have HU0 := HC.out.2.1
       by_cases e : ba = bb
       ·subst e
        exact ⟨ba, ba, z, z, by first | exact t9 | (simp [t9q]; done), by first | exact t10 | (simp [t10q]; done), hz, hz, ha1, ha1, ha2, ha2, hI (Blk.eq (bS (bS (bS (bS (bS hB))))) (by rfl)), hI (Blk.eq (bS (bS (bS (bS (bS hB))))) (by rfl)), hI (sF ngb (by omega) (sF ngb (by omega) (sF ngb (by omega) (sF ngb (by omega) (sF ngb (by omega) HS0))))), hI (uW hb1 (uW hb1 (uW hb1 (uW hb1 (uW hb1 HU0)))))⟩
       ·have hA := HA.out
        exact ⟨ba, bb, x, z, by first | exact t9 | (simp [t9q]; done), by first | exact t10 | (simp [t10q]; done), hx, hz, ha1, hb1, ha2, hb2, hI (bF e (bF e (bF e (bF e (bF e hA))))), hI (Blk.eq (bS (bS (bS (bS (bS hB))))) (by rfl)), hI (sF ngb (by omega) (sF ngb (by omega) (sF ngb (by omega) (sF ngb (by omega) (sF ngb (by omega) HS0))))), hI (uW hb1 (uW hb1 (uW hb1 (uW hb1 (uW hb1 HU0)))))⟩
     case rest =>
     obtain ⟨ba, bb, x, z, rfl, rfl, hx, hz, hba, hbb, nag, nbg, GA, GB, GS, GU⟩ := hcut
     obtain ⟨w6, rfl⟩ : ∃ z, z = wc := ⟨wc, rfl⟩
     obtain ⟨x1, x2, x3, x4, x5, x6, x7⟩ := x
     obtain ⟨z1, z2, z3, z4, z5, z6, z7⟩ := z
     simp only [plA] at GA GB
     unfold YOk at hx hz
     simp only at hx hz
     have hs6 := GU.out.size
     have HW6 := hI (HW.out.but GU.out h1g h3g)
     have HL6 := hI (HL.out.but GU.out h1g)
     have HB6 := hI (HB3.out.but' GU.out n3g)
     have HZ6 := hI (HB0.out.but' GU.out nb)
     have HU6 := hI (HUr.out.trans GU.out)
     have hla := GA.out.lt
     have hlb := GB.out.lt
     clear HW HL HB3 HB0 HSr HUr
     go_upto_region 16 with (fail)
     go_cut [11, 12] (fun v1 v2 wx => ∃ f t : Int, v1 = .int .i64 f ∧ v2 = .int .i64 t ∧ (-3000 ≤ f ∧ f ≤ 3000) ∧ (-3000 ≤ t ∧ t ≤ 3000) ∧ Hid (Ext w6 wx))
     case first =>
      refine wp_region_rgb (m := 16) (C := fun W => Ext w6 W) (K := But g) (R := Rg13c ba bb x3 x4 z3 z4) Tryz.f65.ntmps (by kernel_rfl) (by kernel_rfl) (by simp) (by rw [Tryz.ntmps65]; simp) (fun i v w w' _ => Rg13c.stay i v w w') ?hC ?hstep ?hend
      case hC => exact (xD xR)
      case hstep =>
       simp only [List.take_succ_cons, List.take_zero]
       refine AllFrom.cons ?_ <| AllFrom.cons ?_ <| AllFrom.cons ?_ <| AllFrom.cons ?_ <| AllFrom.cons ?_ <| AllFrom.cons ?_ <| AllFrom.cons ?_ <| AllFrom.cons ?_ <| AllFrom.cons ?_ <| AllFrom.cons ?_ <| AllFrom.cons ?_ <| AllFrom.cons ?_ <| AllFrom.cons ?_ <| AllFrom.cons ?_ <| AllFrom.cons ?_ <| AllFrom.cons ?_ AllFrom.nil
       all_goals (intro a1 W hfr hdep hC; have HC := hI hC; clear hC)
       ·have t9 : a1.tmps.getD 9 undef = .pointer (some ⟨ba, 0, none⟩) := hfr.at_ rfl (by kernel_rfl)
        unfold Oper.wp
        go_simp
        exact ⟨_, rfl, rfl, But.refl g W, HC.out⟩
       ·have t80 : a1.tmps.getD 80 undef = .pointer (some ⟨ba, 2, none⟩) := hdep ⟨0, .data⟩ (by simp) rfl _ rfl
        unfold Oper.wp
        go_simp
        exact ⟨_, rfl, rfl, But.refl g W, HC.out⟩
       ·have t81 : a1.tmps.getD 81 undef = .pointer (some ⟨ba, 2, none⟩) := hdep ⟨1, .data⟩ (by simp) rfl _ rfl
        have hGx := GA.out.ext HC.out
        have c2 : W.cell? ⟨ba, 2, none⟩ = some (.int .i64 x3) := hGx.cell 2
        have hlx := hGx.lt
        unfold Oper.wp
        go_simp
        exact ⟨_, rfl, rfl, But.refl g W, HC.out⟩
       ·have t10 : a1.tmps.getD 10 undef = .pointer (some ⟨bb, 0, none⟩) := hfr.at_ rfl (by kernel_rfl)
        unfold Oper.wp
        go_simp
        exact ⟨_, rfl, rfl, But.refl g W, HC.out⟩
       ·have t83 : a1.tmps.getD 83 undef = .pointer (some ⟨bb, 2, none⟩) := hdep ⟨3, .data⟩ (by simp) rfl _ rfl
        unfold Oper.wp
        go_simp
        exact ⟨_, rfl, rfl, But.refl g W, HC.out⟩
       ·have t84 : a1.tmps.getD 84 undef = .pointer (some ⟨bb, 2, none⟩) := hdep ⟨4, .data⟩ (by simp) rfl _ rfl
        have hGx := GB.out.ext HC.out
        have c2 : W.cell? ⟨bb, 2, none⟩ = some (.int .i64 z3) := hGx.cell 2
        have hlx := hGx.lt
        unfold Oper.wp
        go_simp
        exact ⟨_, rfl, rfl, But.refl g W, HC.out⟩
       ·obtain t82 : Rg13c ba bb x3 x4 z3 z4 2 (a1.tmps.getD 82 undef) W := hdep ⟨2, .data⟩ (by simp) rfl _ rfl
        have t82q := tq t82
        obtain t85 : Rg13c ba bb x3 x4 z3 z4 5 (a1.tmps.getD 85 undef) W := hdep ⟨5, .data⟩ (by simp) rfl _ rfl
        have t85q := tq t85
        unfold Oper.wp
        go_simp
        exact ⟨_, rfl, ⟨_, rfl, by first | omega | (split <;> omega) | (simp only [Int.max_def, Int.min_def]; omega) | (trace_state; fail)⟩, But.refl g W, HC.out⟩
       ·have t9 : a1.tmps.getD 9 undef = .pointer (some ⟨ba, 0, none⟩) := hfr.at_ rfl (by kernel_rfl)
        unfold Oper.wp
        go_simp
        exact ⟨_, rfl, rfl, But.refl g W, HC.out⟩
       ·have t87 : a1.tmps.getD 87 undef = .pointer (some ⟨ba, 2, none⟩) := hdep ⟨7, .data⟩ (by simp) rfl _ rfl
        unfold Oper.wp
        go_simp
        exact ⟨_, rfl, rfl, But.refl g W, HC.out⟩
       ·have t88 : a1.tmps.getD 88 undef = .pointer (some ⟨ba, 3, none⟩) := hdep ⟨8, .data⟩ (by simp) rfl _ rfl
        have hGx := GA.out.ext HC.out
        have c3 : W.cell? ⟨ba, 3, none⟩ = some (.int .i64 x4) := hGx.cell 3
        have hlx := hGx.lt
        unfold Oper.wp
        go_simp
        exact ⟨_, rfl, rfl, But.refl g W, HC.out⟩
       ·have t10 : a1.tmps.getD 10 undef = .pointer (some ⟨bb, 0, none⟩) := hfr.at_ rfl (by kernel_rfl)
        unfold Oper.wp
        go_simp
        exact ⟨_, rfl, rfl, But.refl g W, HC.out⟩
       ·have t90 : a1.tmps.getD 90 undef = .pointer (some ⟨bb, 2, none⟩) := hdep ⟨10, .data⟩ (by simp) rfl _ rfl
        unfold Oper.wp
        go_simp
        exact ⟨_, rfl, rfl, But.refl g W, HC.out⟩
       ·have t91 : a1.tmps.getD 91 undef = .pointer (some ⟨bb, 3, none⟩) := hdep ⟨11, .data⟩ (by simp) rfl _ rfl
        have hGx := GB.out.ext HC.out
        have c3 : W.cell? ⟨bb, 3, none⟩ = some (.int .i64 z4) := hGx.cell 3
        have hlx := hGx.lt
        unfold Oper.wp
        go_simp
        exact ⟨_, rfl, rfl, But.refl g W, HC.out⟩
       ·obtain t89 : Rg13c ba bb x3 x4 z3 z4 9 (a1.tmps.getD 89 undef) W := hdep ⟨9, .data⟩ (by simp) rfl _ rfl
        have t89q := tq t89
        obtain t92 : Rg13c ba bb x3 x4 z3 z4 12 (a1.tmps.getD 92 undef) W := hdep ⟨12, .data⟩ (by simp) rfl _ rfl
        have t92q := tq t92
        unfold Oper.wp
        go_simp
        exact ⟨_, rfl, ⟨_, rfl, by first | omega | (split <;> omega) | (simp only [Int.max_def, Int.min_def]; omega) | (trace_state; fail)⟩, But.refl g W, HC.out⟩
       ·obtain ⟨f, t86, hf⟩ : Rg13c ba bb x3 x4 z3 z4 6 (a1.tmps.getD 86 undef) W := hdep ⟨6, .data⟩ (by simp) rfl _ rfl
        have t86q := tq t86
        unfold Oper.wp
        go_simp
        exact ⟨_, rfl, ⟨f, rfl, hf⟩, But.refl g W, HC.out⟩
       ·obtain ⟨f, t93, hf⟩ : Rg13c ba bb x3 x4 z3 z4 13 (a1.tmps.getD 93 undef) W := hdep ⟨13, .data⟩ (by simp) rfl _ rfl
        have t93q := tq t93
        unfold Oper.wp
        go_simp
        exact ⟨_, rfl, ⟨f, rfl, hf⟩, But.refl g W, HC.out⟩
      case hend =>
       intro a1 W hfr hR hC
       obtain ⟨f, t11, hf⟩ : Rg13c ba bb x3 x4 z3 z4 14 (a1.tmps.getD 11 undef) W := hR 14 _ (by omega) rfl
       obtain ⟨t, t12, ht⟩ : Rg13c ba bb x3 x4 z3 z4 15 (a1.tmps.getD 12 undef) W := hR 15 _ (by omega) rfl
       have t11q := tq t11
       have t12q := tq t12
       have HC := hI hC
       clear hC
       refine wpAny_end (by kernel_rfl) ?_
       have hsh := hfr.shape [false, false, false, false, false, false, false, false, false, false, false, true, true, false, false, false, false, false, false, false, false, false, false, false, false, false, false, false, false, false, false, false, false, false, false, false, false, false, false, false, false, false, false, false, false, false, false, false, false, false, false, false, false, false, false, false, false, false, false, false, false, false, false, false, false, false, false, false, false, false, false, false, false, false, false, false, false, false, false, false, true, true, true, true, true, true, true, true, true, true, true, true, true, true, false, false, false, false, false, false, false, false, false, false, false, false, false, false, false, false, false, false, false, false, false, false, false, false, false, false, false, false, false, false, false, false, false, false] (by rfl) (by kernel_rfl)
       simp only [mixL] at hsh
       rw [hsh]
       go_wp2_with fail
       go_meet
       exact ⟨f, t, by first | exact t11 | (simp [t11q]; done), by first | exact t12 | (simp [t12q]; done), by omega, by omega, HC⟩
     case rest =>
     obtain ⟨f, t, rfl, rfl, hf, ht, HX8⟩ := hcut
     obtain ⟨w8, rfl⟩ : ∃ z, z = wc := ⟨wc, rfl⟩
     have hs8 := HX8.out.size
     have HW8 := hI (HW6.out.ext HX8.out)
     have HL8 := hI (HL6.out.ext HX8.out)
     have HB8 := hI (HB6.out.ext HX8.out)
     have HZ8 := hI (HZ6.out.ext HX8.out)
     have HS8 := hI (GS.out.on HX8.out)
     have HU8 := hI (HU6.out.trans (But.of HX8.out))
     have GA8 := hI (GA.out.ext HX8.out)
     have GB8 := hI (GB.out.ext HX8.out)
     clear HW6 HL6 HB6 HZ6 GS HU6 GA GB GU HX8
     go_upto_region 17 with (fail)
     go_cut [101] (fun v wx => ∃ q : Bool, v = .bool q ∧ (q = true → f < t) ∧ Hid (Src a A c bs g wx) ∧ Hid (But g w8 wx))
     case first =>
      go_wp2_with fail
      refine (s_l01Next (a := a) (A := A) (c := c) (bs := bs) _ _ HS8.out (by omega)).mono ?_
      rintro e w9 ⟨j9, rfl, hj9, hS9, hu9⟩
      have HS9 := hI hS9
      have HU9 := hI hu9
      clear hS9 hu9
      cases e9 : (j9 == 0) with
      | false =>
       go_wp2
       go_meet
       exact ⟨false, rfl, (fun e => absurd e (by decide)), HS9, HU9⟩
      | true =>
       cases hd : decide (f < t) with
       | false =>
        go_wp2
        go_meet
        exact ⟨false, rfl, (fun e => absurd e (by decide)), HS9, HU9⟩
       | true =>
        have hft := of_decide_eq_true hd
        go_wp2
        go_meet
        exact ⟨true, rfl, (fun _ => hft), HS9, HU9⟩
     case rest =>
     obtain ⟨q, rfl, hqf, GS9, GU9⟩ := hcut
     obtain ⟨w9, rfl⟩ : ∃ z, z = wc := ⟨wc, rfl⟩
     have hu9 := GU9.out
     have hS9 := GS9.out
     clear GS9 GU9
     have hs9 := hu9.size
     have HW9 := hI (HW8.out.but hu9 h1g h3g)
     have HL9 := hI (HL8.out.but hu9 h1g)
     have HB9 := hI (HB8.out.but' hu9 n3g)
     have HZ9 := hI (HZ8.out.but' hu9 nb)
     have HU9 := hI (HU8.out.trans hu9)
     have HS9 := hI hS9
     have GA9 := hI (GA8.out.but' hu9 nag)
     have GB9 := hI (GB8.out.but' hu9 nbg)
     clear HW8 HL8 HB8 HZ8 HS8 HU8 GA8 GB8 hu9 hS9
     go_upto_if 101 with (fail)
     go_cut [11] (fun v wx => ∃ f2 : Int, v = .int .i64 f2 ∧ (-3000 ≤ f2 ∧ f2 ≤ 3000) ∧ Hid (Src a A c bs g wx) ∧ Hid (But g w9 wx))
     case first =>
      cases q with
      | false =>
       go_wp2
       go_meet
       exact ⟨f, rfl, hf, HS9, hI (But.refl g w9)⟩
      | true =>
       have hft := hqf rfl
       have hw1' : IntKind.i64.wrap (t - f) = t - f := IntWalk.i64_in _ (by omega)
       go_wp2_with fail
       refine (s_l01Next (a := a) (A := A) (c := c) (bs := bs) _ _ HS9.out (by omega)).mono ?_
       rintro e w10 ⟨j, rfl, hj, hS10, hu10⟩
       have hw2' : IntKind.i64.wrap (f + j) = f + j := IntWalk.i64_in _ (by omega)
       have HS10 := hI hS10
       have HU10 := hI hu10
       have hj2 : 0 ≤ j ∧ j < t - f := by omega
       clear hS10 hu10 hj
       go_wp2_with fail
       go_meet
       exact ⟨f + j, rfl, by omega, HS10, HU10⟩
     case rest =>
     obtain ⟨f2, rfl, hf2, GS, GU⟩ := hcut
     obtain ⟨w10, rfl⟩ : ∃ z, z = wc := ⟨wc, rfl⟩
     have hs10 := GU.out.size
     have HW10 := hI (HW9.out.but GU.out h1g h3g)
     have HL10 := hI (HL9.out.but GU.out h1g)
     have hB3 := HB9.out.but' GU.out n3g
     have HB10 := hI hB3
     have HZ10 := hI (HZ9.out.but' GU.out nb)
     have HU10 := hI (HU9.out.trans GU.out)
     have hA := GA9.out.but' GU.out nag
     have hB := GB9.out.but' GU.out nbg
     have ya0 : w10.cell? ⟨ba, 0, none⟩ = some (.string (tx x1)) := hA.cell 0
     have yb0 : w10.cell? ⟨bb, 0, none⟩ = some (.string (tx z1)) := hB.cell 0
     have yl1 : w10.cell? ⟨b3, 1, none⟩ = some lv := hB3.cell 1
     have hla10 := hA.lt
     have hlb10 := hB.lt
     have hl10 := hB3.lt
     obtain ⟨AL, cL, rfl, hSL, _, _, _⟩ := HL10.out.2.1.sl len_encK
     have HAL := hI (s_AddLink AL L.length cL L (x1, z1, f2, t) w10 hSL rfl (by omega) HL10.out.2.2.1.links (by simp only; omega) (by simp only; omega))
     have HLO : Hid (LnkOk (x1, z1, f2, t)) := hI ⟨by simp only; omega, by simp only; omega, by simp only; omega, by simp only; omega⟩
     have hwr : IntKind.i64.wrap (((r + 1 : Nat) : Int) - 1) = (r : Int) := by rw [IntWalk.i64_in _ (by omega)]; omega
     have hlk2 : L.length ≤ 7 := by omega
     clear HW9 HL9 HB9 HZ9 HU9 GA9 GB9 GU hA hB hB3 hSL hx hz
     simp only at HAL
     generalize tx x1 = sx at *
     generalize tx z1 = sz at *
     go_wp2_with fail
     refine HAL.out.mono ?_
     rintro e w11 ⟨hr, hx11⟩
     have hs11 := hx11.size
     have HS11 := hI (GS.out.on hx11)
     have HU11 := hI (HU10.out.trans (But.of hx11))
     have HW11 := hI (HW10.out.ext hx11)
     have HL11 := hI (HL10.out.ext hx11)
     have hB3 := HB10.out.ext hx11
     have HB11 := hI hB3
     have HZ11 := hI (HZ10.out.ext hx11)
     have zl1 := hB3.frozen 1
     have vl1 : w11.cell? ⟨b3, 1, none⟩ = some (.slice AL L.length cL) := hB3.cell 1
     have hl11 := hB3.lt
     clear HAL HW10 HL10 HB10 HZ10 HU10 GS hx11 hB3
     rcases hr with ⟨m, hm, rfl⟩ | ⟨hlb2, v3, rfl, hO3⟩
     ·have e0 : (m == 0) = false := beq_eq_false_iff_ne.2 hm
      go_wp2
      go_roundw
      case rel => exact ⟨r, _, L, by go_num, by omega, by omega, HW11, HL11, HB11, HZ11, HS11, HU11⟩
      case measure => simp [intOf]
     ·have HLn := hI (WLk.new (base := q1) (b3 := b3) hlb2 hO3 (HL11.out.2.2.1.snoc HLO.out) (by omega) (by omega))
      have hlen : (L ++ [(x1, z1, f2, t)]).length = L.length + 1 := by simp
      generalize L ++ [(x1, z1, f2, t)] = L2 at *
      obtain ⟨A2, c2, rfl, _, _, _, _⟩ := hO3.sl len_encK
      have HLE := hI hlen
      clear hlb2 hO3 hlen
      go_wp2
      go_roundw
      case rel =>
       have hB3 := HB11.out
       have hB0 := HZ11.out
       have HS0 := HS11.out
       have HU0 := HU11.out
       exact ⟨r, .slice A2 L2.length c2, L2, by go_num, by omega, by have := HLE.out; omega, hI (HW11.out.set _), hI (HLn.out.set _), hI (Blk.eq (bS hB3) (by rfl)), hI (bF n03 hB0), hI (sF ng3 (by omega) HS0), hI (uW (by omega) HU0)⟩
      case measure => simp [intOf]
    ·obtain rfl : k = 0 := by omega
     have hB3 := HB3.out
     have hB0 := HB0.out
     have yb0 : w5.cell? ⟨b3, 0, none⟩ = some (.slice (some ⟨gq, 0, none⟩) n cap) := hB3.cell 0
     have yb1 : w5.cell? ⟨b3, 1, none⟩ = some lv := hB3.cell 1
     have vb0 : w5.cell? ⟨w.heap.size, 0, none⟩ = some (.slice none 0 0) := hB0.cell 0
     have vb1 : w5.cell? ⟨w.heap.size, 1, none⟩ = some (.slice none 0 0) := hB0.cell 1
     have zb0 := hB0.frozen 0
     have zb1 := hB0.frozen 1
     have hl0 := hB0.lt
     obtain ⟨AL, cL, rfl, hSL, _, _, _⟩ := HL.out.2.1.sl len_encK
     have zb0' := hB3.frozen 0
     have HPS2 := HPS.out
     have hB3' := hI hB3
     clear hSL hB3
     go_wp2
     have hB3 := hB3'.out
     have hB00 := HB0.out
     have HS0 := HSr.out
     have HU0 := HUr.out
     refine ret_pts1 (b0 := w.heap.size) (t := 27) (v := .agg #[.slice (some ⟨gq, 0, none⟩) n cap, .slice AL L.length cL]) (Blk.eq (bS (bS hB00)) (by rfl)) rfl (by intro W' r0 r1; simp [results, Tryz.results65, go_sem, r0, r1]) ⟨_, _, ps, L, q1, b3, rfl, HPS2, ⟨hw1, hw3⟩, by omega, ?_, ?_, sF (by first|omega|simp) hasz (sF (by first|omega|simp) hasz HS0), uW (by omega) (uW (by omega) HU0)⟩
     ·exact (HW.out.far (by show w.heap.size < q1; exact hw1) (by show w.heap.size < b3; exact hw3) _).far (by show w.heap.size < q1; exact hw1) (by show w.heap.size < b3; exact hw3) _
     ·exact (HL.out.far (by show w.heap.size < q1; exact hw1) _).far (by show w.heap.size < q1; exact hw1) _
def Rg14 (b3 gq n cap : Nat) (p : Value) : Nat → Value → World → Prop
 | 0, v, _ => v = .pointer (some ⟨b3, 0, none⟩)
 | 1, v, _ => v = .slice (some ⟨gq, 0, none⟩) n cap
 | 2, v, _ => v = p
 | 3, v, _ => v = .pointer (some ⟨b3, 0, none⟩)
 | 4, v, _ => v = .slice (some ⟨gq, 0, none⟩) n cap
 | 5, v, _ => v = .int .i64 n
 | 6, v, _ => ∃ j : Nat, v = .int .i64 j ∧ j < n
 | 7, v, _ => ∃ j : Nat, v = .pointer (some ⟨gq, j * 5, none⟩) ∧ j < n
 | 8, v, _ => ∃ j : Nat, v = .pointer (some ⟨gq, j * 5, none⟩) ∧ j < n
 | 9, v, _ => ∃ t : List UInt8, v = .string (tx t) ∧ t.length ≤ 17
 | 10, v, _ => ∃ t : List UInt8, v = .string (tx t) ∧ t.length ≤ 17
 | _, _, _ => True
theorem Rg14.stay {b3 gq n cap : Nat} {p : Value} (i : Nat) (v : Value) (w w' : World) (h : Rg14 b3 gq n cap p i v w) : Rg14 b3 gq n cap p i v w' := by
 rcases i with _ | _ | _ | _ | _ | _ | _ | _ | _ | _ | _ | i <;> exact h
set_option maxRecDepth 20000 in
set_option maxHeartbeats 12800000 in
theorem s_l13PickN {a : World} {A : Option Addr} {c : Nat} {bs : List Int} {g : Nat} (gq n cap : Nat) (AL : Option Addr) (nl cL : Nat) (ps : List Pl) (w : World) (h : Src a A c bs g w) (hs : SlAt w 5 encQ (some ⟨gq, 0, none⟩) ps) (hn : n = ps.length) (h0 : 0 < n) (h10 : n ≤ 20) (hle : ∀ p ∈ ps, p.1.length ≤ 17) (hgq : ¬ gq = g) :
  Calls Tryz.prog 52 #[.pointer (some ⟨g, 0, none⟩), .agg #[.slice (some ⟨gq, 0, none⟩) n cap, .slice AL nl cL]] w fun e w' => ∃ t : List UInt8, e = .returned (.string (tx t)) ∧ t.length ≤ 17 ∧ Src a A c bs g w' ∧ But g w w' := by
 have hlt := h.lt
 have how := h.own
 have hasz := h.ext.size
 have nb : ¬ w.heap.size = g := by omega
 have HS := hI h
 have HSL := hI hs
 have HN := hI hn
 have HLE := hI hle
 have hdn : decide ((0 : Int) < (n : Int)) = true := decide_eq_true (by omega)
 clear hs hn hle
 go_enter Tryz.func52, Tryz.ntmps52
 go_upto_region 1 with (fail)
 go_cut [13] (fun v wx => ∃ q : Bool, v = .bool q ∧ Hid (Blk wx w.heap.size 27 #[.slice (some ⟨gq, 0, none⟩) n cap, .slice AL nl cL]) ∧ Hid (Src a A c bs g wx) ∧ Hid (But g w wx))
 case first =>
  have hB0 : Blk (w.alloc (.cells #[.slice (some ⟨gq, 0, none⟩) n cap, .slice AL nl cL] 27)) w.heap.size 27 #[.slice (some ⟨gq, 0, none⟩) n cap, .slice AL nl cL] := Blk.new rfl
  have HB0 := hI hB0
  have HS0 := HS.out
  go_wp2_with fail
  refine (s_l01Next (a := a) (A := A) (c := c) (bs := bs) _ _ (sA HS0) (by omega)).mono ?_
  rintro e w2 ⟨x, rfl, hx, hS2, hu2⟩
  have HS2 := hI hS2
  have HU2 := hI hu2
  have HB2 := hI (HB0.out.but' hu2 nb)
  clear hS2 hu2 hB0 HS0
  go_wp2
  go_meet
  have hu2 := HU2.out
  exact ⟨_, rfl, HB2, HS2, hI (uT (uA uR) hu2)⟩
 case rest =>
 obtain ⟨q, rfl, HB6, HS6, HU6⟩ := hcut
 obtain ⟨w6, rfl⟩ : ∃ z, z = wc := ⟨wc, rfl⟩
 have hs6 := HU6.out.size
 have HSL6 := hI (HSL.out.butN HU6.out hgq)
 have hl6 := HB6.out.lt
 clear h HS
 cases q with
 | false =>
  go_wp2_with fail
  refine (s_l12DrawCode (a := a) (A := A) (c := c) (bs := bs) _ HS6.out).mono ?_
  rintro e w7 ⟨t, rfl, ht, hS7, hu7⟩
  have HS7 := hI hS7
  have HU7 := hI (HU6.out.trans hu7)
  clear hS7 hu7
  go_wp2
  go_ret
  exact ⟨t, rfl, by omega, HS7.out, HU7.out⟩
 | true =>
  go_upto_region 2 with (fail)
  go_cut [4] (fun v wx => ∃ t : List UInt8, v = .string (tx t) ∧ t.length ≤ 17 ∧ Hid (Src a A c bs g wx) ∧ Hid (But g w6 wx))
  case first =>
   refine wp_region_rgb (m := 11) (C := fun W => Src a A c bs g W ∧ But g w6 W ∧ w.heap.size < W.heap.size) (K := But g) (R := Rg14 w.heap.size gq n cap (.pointer (some ⟨g, 0, none⟩))) Tryz.f52.ntmps (by kernel_rfl) (by kernel_rfl) (by simp) (by rw [Tryz.ntmps52]; simp) (fun i v w w' _ => Rg14.stay i v w w') ?hC ?hstep ?hend
   case hC =>
    have HS0 := HS6.out
    exact ⟨sD HS0, uD uR, by first | omega | (simp; omega)⟩
   case hstep =>
    simp only [List.take_succ_cons, List.take_zero]
    refine AllFrom.cons ?_ <| AllFrom.cons ?_ <| AllFrom.cons ?_ <| AllFrom.cons ?_ <| AllFrom.cons ?_ <| AllFrom.cons ?_ <| AllFrom.cons ?_ <| AllFrom.cons ?_ <| AllFrom.cons ?_ <| AllFrom.cons ?_ <| AllFrom.cons ?_ AllFrom.nil
    all_goals (intro a1 W hfr hdep hC; have HC := hI hC; clear hC)
    ·have t3 : a1.tmps.getD 3 undef = .pointer (some ⟨w.heap.size, 0, none⟩) := hfr.at_ rfl (by kernel_rfl)
     unfold Oper.wp
     go_simp
     exact ⟨_, rfl, rfl, But.refl g W, HC.out⟩
    ·have t14 : a1.tmps.getD 14 undef = .pointer (some ⟨w.heap.size, 0, none⟩) := hdep ⟨0, .data⟩ (by simp) rfl _ rfl
     have hBW : Blk W w.heap.size 27 #[.slice (some ⟨gq, 0, none⟩) n cap, .slice AL nl cL] := Blk.but' HC.out.2.1 nb HB6.out
     have c0 : W.cell? ⟨w.heap.size, 0, none⟩ = some (.slice (some ⟨gq, 0, none⟩) n cap) := hBW.cell 0
     unfold Oper.wp
     go_simp
     exact ⟨_, rfl, rfl, But.refl g W, HC.out⟩
    ·have t0 : a1.tmps.getD 0 undef = .pointer (some ⟨g, 0, none⟩) := hfr.at_ rfl (by kernel_rfl)
     unfold Oper.wp
     go_simp
     exact ⟨_, rfl, rfl, But.refl g W, HC.out⟩
    ·have t3 : a1.tmps.getD 3 undef = .pointer (some ⟨w.heap.size, 0, none⟩) := hfr.at_ rfl (by kernel_rfl)
     unfold Oper.wp
     go_simp
     exact ⟨_, rfl, rfl, But.refl g W, HC.out⟩
    ·have t17 : a1.tmps.getD 17 undef = .pointer (some ⟨w.heap.size, 0, none⟩) := hdep ⟨3, .data⟩ (by simp) rfl _ rfl
     have hBW : Blk W w.heap.size 27 #[.slice (some ⟨gq, 0, none⟩) n cap, .slice AL nl cL] := Blk.but' HC.out.2.1 nb HB6.out
     have c0 : W.cell? ⟨w.heap.size, 0, none⟩ = some (.slice (some ⟨gq, 0, none⟩) n cap) := hBW.cell 0
     unfold Oper.wp
     go_simp
     exact ⟨_, rfl, rfl, But.refl g W, HC.out⟩
    ·obtain t18 : Rg14 w.heap.size gq n cap _ 4 (a1.tmps.getD 18 undef) W := hdep ⟨4, .data⟩ (by simp) rfl _ rfl
     have t18q := tq t18
     unfold Oper.wp
     go_simp
     exact ⟨_, rfl, rfl, But.refl g W, HC.out⟩
    ·have t16 : a1.tmps.getD 16 undef = .pointer (some ⟨g, 0, none⟩) := hdep ⟨2, .data⟩ (by simp) rfl _ rfl
     have t19 : a1.tmps.getD 19 undef = .int .i64 n := hdep ⟨5, .data⟩ (by simp) rfl _ rfl
     unfold Oper.wp
     go_simp
     refine (s_l01Next (a := a) (A := A) (c := c) (bs := bs) _ _ HC.out.1 (by omega)).mono ?_
     rintro e W2 ⟨x, rfl, hx, hS2, hu2⟩
     obtain ⟨j, rfl⟩ := Int.eq_ofNat_of_zero_le hx.1
     have hs2 := hu2.size
     have hWs := HC.out.2.2
     exact ⟨_, rfl, ⟨j, rfl, by omega⟩, hu2, hS2, HC.out.2.1.trans hu2, by omega⟩
    ·obtain t15 : Rg14 w.heap.size gq n cap _ 1 (a1.tmps.getD 15 undef) W := hdep ⟨1, .data⟩ (by simp) rfl _ rfl
     have t15q := tq t15
     obtain ⟨j, t20, hj⟩ : Rg14 w.heap.size gq n cap _ 6 (a1.tmps.getD 20 undef) W := hdep ⟨6, .data⟩ (by simp) rfl _ rfl
     have t20q := tq t20
     have hj1 : (j : Int) < n := by omega
     unfold Oper.wp
     go_simp
     exact ⟨_, rfl, ⟨j, rfl, hj⟩, But.refl g W, HC.out⟩
    ·obtain ⟨j, t21, hj⟩ : Rg14 w.heap.size gq n cap _ 7 (a1.tmps.getD 21 undef) W := hdep ⟨7, .data⟩ (by simp) rfl _ rfl
     have t21q := tq t21
     unfold Oper.wp
     go_simp
     exact ⟨_, rfl, ⟨j, rfl, hj⟩, But.refl g W, HC.out⟩
    ·obtain ⟨j, t22, hj⟩ : Rg14 w.heap.size gq n cap _ 8 (a1.tmps.getD 22 undef) W := hdep ⟨8, .data⟩ (by simp) rfl _ rfl
     have t22q := tq t22
     have hS9 := HSL6.out.butN HC.out.2.1 hgq
     have hjl : j < ps.length := by have := HN.out; omega
     have d0 := (hS9.pl' hjl).1
     rw [Nat.zero_add] at d0
     obtain ⟨z, hze⟩ : ∃ z, z = ps.getD j plD := ⟨_, rfl⟩
     rw [← hze] at d0
     have hzl : z.1.length ≤ 17 := by rw [hze]; have := HLE.out _ (pl_mem hjl); omega
     clear hS9 hze
     unfold Oper.wp
     go_simp
     exact ⟨_, rfl, ⟨z.1, rfl, hzl⟩, But.refl g W, HC.out⟩
    ·obtain ⟨t, t23, ht⟩ : Rg14 w.heap.size gq n cap _ 9 (a1.tmps.getD 23 undef) W := hdep ⟨9, .data⟩ (by simp) rfl _ rfl
     have t23q := tq t23
     unfold Oper.wp
     go_simp
     exact ⟨_, rfl, ⟨t, rfl, ht⟩, But.refl g W, HC.out⟩
   case hend =>
    intro a1 W hfr hR hC
    obtain ⟨t, t4, ht⟩ : Rg14 w.heap.size gq n cap _ 10 (a1.tmps.getD 4 undef) W := hR 10 _ (by omega) rfl
    have t4q := tq t4
    have HC := hI hC
    clear hC
    refine wpAny_end (by kernel_rfl) ?_
    have hsh := hfr.shape [false, false, false, false, true, false, false, false, false, false, false, false, false, false, true, true, true, true, true, true, true, true, true, true, false, false] (by rfl) (by kernel_rfl)
    simp only [mixL] at hsh
    rw [hsh]
    go_wp2_with fail
    go_meet
    exact ⟨t, by first | exact t4 | (simp [t4q]; done), ht, hI HC.out.1, hI HC.out.2.1⟩
  case rest =>
  obtain ⟨t, rfl, ht, HS7, HU7⟩ := hcut
  go_wp2
  go_ret
  exact ⟨t, rfl, ht, HS7.out, HU6.out.trans HU7.out⟩
set_option maxRecDepth 20000 in
set_option maxHeartbeats 3200000 in
theorem s_l13Pick0 {a : World} {A : Option Addr} {c : Nat} {bs : List Int} {g : Nat} (gq cap : Nat) (AL : Option Addr) (nl cL : Nat) (w : World) (h : Src a A c bs g w) :
  Calls Tryz.prog 52 #[.pointer (some ⟨g, 0, none⟩), .agg #[.slice (some ⟨gq, 0, none⟩) 0 cap, .slice AL nl cL]] w fun e w' => ∃ t : List UInt8, e = .returned (.string (tx t)) ∧ t.length ≤ 17 ∧ Src a A c bs g w' ∧ But g w w' := by
 have HS := hI h
 clear h
 go_enter Tryz.func52, Tryz.ntmps52
 have HS0 := HS.out
 go_wp2_with fail
 refine (s_l12DrawCode (a := a) (A := A) (c := c) (bs := bs) _ (sA HS0)).mono ?_
 rintro e w7 ⟨t, rfl, ht, hS7, hu7⟩
 have HS7 := hI hS7
 have HU7 : Hid (But g w w7) := hI (But.trans (uA uR) hu7)
 clear hS7 hu7
 go_wp2
 go_ret
 exact ⟨t, rfl, by omega, HS7.out, HU7.out⟩
theorem s_l13Pick {a : World} {A : Option Addr} {c : Nat} {bs : List Int} {g : Nat} (gq n cap : Nat) (AL : Option Addr) (nl cL : Nat) (ps : List Pl) (w : World) (h : Src a A c bs g w) (hs : SlAt w 5 encQ (some ⟨gq, 0, none⟩) ps) (hn : n = ps.length) (h10 : n ≤ 20) (hle : ∀ p ∈ ps, p.1.length ≤ 17) (hgq : ¬ gq = g) :
  Calls Tryz.prog 52 #[.pointer (some ⟨g, 0, none⟩), .agg #[.slice (some ⟨gq, 0, none⟩) n cap, .slice AL nl cL]] w fun e w' => ∃ t : List UInt8, e = .returned (.string (tx t)) ∧ t.length ≤ 17 ∧ Src a A c bs g w' ∧ But g w w' := by
 rcases Nat.eq_zero_or_pos n with h0 | h0
 ·subst h0
  exact s_l13Pick0 gq cap AL nl cL w h
 ·exact s_l13PickN gq n cap AL nl cL ps w h hs hn h0 h10 hle hgq
end Go.Proofs.YtlnliajnipniaaaGreatDoor
