/- Codes, sorted lists of places, children and what lies inside, as the specification sees them. An append that also tells where the row lies behind it: no program in sight. Children of a place and what lies inside it, as the specification tells them. Children of a place and what lies inside it, as the program tells them. -/
import Derived.Maps.AppendAt
import Derived.Test.YtlnliajnipniaaaGreatDoorI1
namespace Go.Proofs.YtlnliajnipniaaaGreatDoor
open Go.RowKit
attribute [local go_sem] ExtOf.cell ExtOf.frozen
theorem as_boolZ {P : Program} {f : FuncId} {args : Array Value} {w : World} {b b' : Bool} (h : Calls P f args w fun e w' => e = .returned (.bool b) ∧ w = w') (e : b = b') : Calls P f args w fun e w' => e = .returned (.bool b') ∧ w = w' := e ▸ h
set_option maxHeartbeats 3200000 in
theorem s_l12Code (A : Option Addr) (n c : Nat) (L : List Lk) (x : List UInt8) (y : Int) (w : World) (h : SlAt w 4 encK A L) (hn : n = L.length) (hl : L.length ≤ 1048576) (hg : Links L) (hx : x.length ≤ 1048576) :
  Calls Tryz.prog 158 #[.slice A n c, .string (tx x), .int .i64 y] w fun e w' => e = .returned (.int .i64 (lkC L [x] y)) ∧ Ext w w' := by
 have HA := hI (fun W hW => s_AreLinks A n c L W hW hn hl hg)
 have HW := hI (fun W => by have := s_IsWord (tx x) W (by rw [tx_size]; omega); rw [smB_tx] at this; exact this)
 have hall : ([x].all fun x => smL x 1 16) = smL x 1 16 := by simp
 have HS := hI h
 cases h1 : lksB L with
 | false =>
  rw [lkC_links h1]
  rw [h1] at HA
  generalize tx x = sx at *
  clear h1 hall h hn hg
  go_enter Tryz.func158, Tryz.ntmps158
  (go_wp2_with fail; refine (HA.out _ HS.out).mono ?_; rintro e w1 ⟨rfl, hx1⟩; obtain ⟨hc1, hf1, hs1⟩ := hx1.all; (try simp at hs1))
  go_wp2
  go_ret
  exact ⟨rfl, hx1⟩
 | true =>
  rw [h1] at HA
  cases h2 : smL x 1 16 with
  | false =>
   rw [lkC_words (by rw [hall]; exact h2)]
   rw [h2] at HW
   generalize tx x = sx at *
   clear h1 h2 hall h hn hg
   go_enter Tryz.func158, Tryz.ntmps158
   (go_wp2_with fail; refine (HA.out _ HS.out).mono ?_; rintro e w1 ⟨rfl, hx1⟩; obtain ⟨hc1, hf1, hs1⟩ := hx1.all; (try simp at hs1))
   (go_wp2_with fail; refine (HW.out _).mono ?_; rintro e w2 ⟨rfl, hx2⟩; obtain ⟨hc2, hf2, hs2⟩ := hx2.all; (try simp at hs2))
   go_wp2
   go_ret
   exact ⟨rfl, xT hx1 hx2⟩
  | true =>
   rw [h2] at HW
   cases h3 : inB y (-3000) 3000 with
   | false =>
    rw [lkC_year h1 (by rw [hall]; exact h2) h3]
    have HY := hI (fun W => as_boolZ (s_l02Year y W) h3)
    generalize tx x = sx at *
    clear h1 h2 h3 hall h hn hg
    go_enter Tryz.func158, Tryz.ntmps158
    (go_wp2_with fail; refine (HA.out _ HS.out).mono ?_; rintro e w1 ⟨rfl, hx1⟩; obtain ⟨hc1, hf1, hs1⟩ := hx1.all; (try simp at hs1))
    (go_wp2_with fail; refine (HW.out _).mono ?_; rintro e w2 ⟨rfl, hx2⟩; obtain ⟨hc2, hf2, hs2⟩ := hx2.all; (try simp at hs2))
    (go_wp2_with fail; refine (HY.out _).mono ?_; rintro e w' ⟨rfl, rfl⟩)
    go_wp2
    go_ret
    exact ⟨rfl, xT hx1 hx2⟩
   | true =>
    rw [lkC_ok h1 (by rw [hall]; exact h2) h3]
    have HY := hI (fun W => as_boolZ (s_l02Year y W) h3)
    generalize tx x = sx at *
    clear h1 h2 h3 hall h hn hg
    go_enter Tryz.func158, Tryz.ntmps158
    (go_wp2_with fail; refine (HA.out _ HS.out).mono ?_; rintro e w1 ⟨rfl, hx1⟩; obtain ⟨hc1, hf1, hs1⟩ := hx1.all; (try simp at hs1))
    (go_wp2_with fail; refine (HW.out _).mono ?_; rintro e w2 ⟨rfl, hx2⟩; obtain ⟨hc2, hf2, hs2⟩ := hx2.all; (try simp at hs2))
    (go_wp2_with fail; refine (HY.out _).mono ?_; rintro e w' ⟨rfl, rfl⟩)
    go_wp2
    go_ret
    exact ⟨rfl, xT hx1 hx2⟩
theorem SlAt.none_ {α : Type} {enc : α → List Value} {sz : Nat} {w : World} {A : Option Addr} {xs : List α} (h : xs = []) : SlAt w sz enc A xs := fun hn => by subst h; exact absurd hn (by simp)
theorem SlAt.takeE {α : Type} {enc : α → List Value} {sz : Nat} {w : World} {A : Option Addr} {xs : List α} (h : SlAt w sz enc A xs) (k : Nat) : SlAt w sz enc A (xs.take k) := fun hn => by
 obtain ⟨b, off, e, hb, hc⟩ := h (by rw [List.length_take] at hn; omega)
 refine ⟨b, off, e, hb, fun i x hi j u hj => hc i x ?_ j u hj⟩
 rw [List.getElem?_take] at hi
 split at hi
 ·exact hi
 ·cases hi
theorem eval_lnE {α : Type} {v : Value} {A : Option Addr} {n c : Nat} {xs : List α} (hv : v = .slice A n c) (e : xs.length = n) : v = .slice A xs.length c := by rw [hv, e]
-- GEN
def UpE (n : Nat) (w : World) : Prop := n ≤ w.heap.size
theorem own_isE {g n q : Nat} (hq : (Value.slice (some ⟨g, 0, none⟩) n n).ownBlock = some q) : q = g := by
 cases hq; rfl
theorem blk_keptE {w w' : World} {row : Option Nat} {g : Nat} {t : TypeId} {cs : Array Value} (hg : w.grownBy w' row) (hB : Blk w g t cs) (hne : some g ≠ row) : Blk w' g t cs := (hg.block g hB.lt hne).trans hB
theorem kept_ofE {w w' : World} {b n : Nat} (hg : w.grownBy w' (Value.slice (some ⟨b, 0, none⟩) n n).ownBlock) : ∀ g t cs, Blk w g t cs → ¬ g = b → Blk w' g t cs := fun _ _ _ hB hne => blk_keptE hg hB fun e => hne (own_isE e.symm)
set_option maxRecDepth 20000 in
set_option maxHeartbeats 12800000 in
theorem s_l08Insert (base : Nat) (v : Value) (xs : List (List UInt8)) (x : List UInt8) (w : World) (h : OwS w base v xs) (hv : v ≠ .slice none 0 0) (hbw : base ≤ w.heap.size) (hl : xs.length ≤ 1000) :
  Calls Tryz.prog 182 #[v, .string (tx x)] w fun e w' => ∃ v', e = .returned v' ∧ v' ≠ .slice none 0 0 ∧ OwS w' base v' (insA xs x) ∧ Ext w w' := by
 rcases h.2 with ⟨e, _⟩ | ⟨g, cap, cur, rfl, hbase, hB, h1, h2, h3, h4⟩
 ·exact absurd e hv
 have hS : SlAt w 1 encS (some ⟨g, 0, none⟩) xs := by
  obtain ⟨A, c, e, hS, _⟩ := h.sl len_encS
  injection e with e1 e2 e3
  subst e1
  exact hS
 have hgw : g < w.heap.size := (Array.getElem?_eq_some_iff.1 hB).1
 have hcm : cap ≤ 9223372036854775807 := by unfold maxLen at h2; omega
 obtain ⟨n, hn⟩ : ∃ n, n = xs.length := ⟨_, rfl⟩
 have how := h
 rw [← hn] at how h1 hl ⊢
 have HOW := hI how
 clear how
 have HX := hI (tx_toL x)
 have HN := hI hn
 have HO5 : Hid (∀ W g', Blk W g' 9 #[] → w.heap.size ≤ g' → OwS W w.heap.size (.slice (some ⟨g', 0, none⟩) 0 0) []) := hI (fun W g' hB hge => Own.of_blk (xs := []) hB len_encS rfl hge (Nat.zero_le _))
 have HBL := hI (fun (W : World) (g : Nat) (cs : Array Value) (hB : Blk W g 9 cs) (e : cs = #[.string (tx x)]) => blk_s1 (l := x) (e ▸ hB))
 clear hv h2 h3 h4 hn hbase
 go_enter Tryz.func182, Tryz.ntmps182
 go_wp2
 go_loopw [5] (fun i wr => ∃ k : Nat, k ≤ n ∧ i = .int .i64 k ∧ Hid (∀ j, j < k → xs.getD j [] < x) ∧ w = wr) (fun i _ => n - (intOf i).toNat)
 case atStart => exact ⟨0, by omega, rfl, fun j hj => absurd hj (by omega), rfl⟩
 case round =>
  obtain ⟨k, hk, rfl, HJ, rfl⟩ := hrel
  have hxl := HN.out
  by_cases hlt : k < n
  ·have hkl : k < xs.length := by omega
   have d0 := hS.st' hkl
   rw [Nat.zero_add] at d0
   have htz := tx_toL (xs.getD k [])
   by_cases hless : xs.getD k [] < x
   ·have hbl : Op.bytesLess (tx (xs.getD k [])).toList (tx x).toList = true := by rw [htz, HX.out, bytesLess_eq]; exact decide_eq_true hless
    have HJ2 := hI (upTo_succ HJ.out hless)
    generalize tx (xs.getD k []) = z at *
    generalize tx x = sx at *
    clear htz hless hkl hxl
    go_wp2
    go_roundw
    case rel => exact ⟨k + 1, by omega, by go_num, HJ2, by trivial⟩
    case measure => simp [intOf]; omega
   ·have hbl : Op.bytesLess (tx (xs.getD k [])).toList (tx x).toList = false := by rw [htz, HX.out, bytesLess_eq]; exact decide_eq_false hless
    have hins := insA_at (l := xs) (x := x) (k := k) (by omega) HJ.out (fun _ => hless)
    by_cases heq : xs.getD k [] = x
    ·have heqb : ((tx (xs.getD k [])).toList == (tx x).toList) = true := by rw [htz, HX.out, heq]; simp
     have HR : Hid (insA xs x = xs) := hI (by rw [hins, if_pos ⟨hkl, heq⟩])
     generalize tx (xs.getD k []) = z at *
     generalize tx x = sx at *
     clear htz hless hkl hins heq hxl
     go_wp2
     go_ret
     exact ⟨_, rfl, by simp, by rw [HR.out]; exact HOW.out, xR⟩
    ·have heqb : ((tx (xs.getD k [])).toList == (tx x).toList) = false := by rw [htz, HX.out]; simpa using heq
     have HR : Hid (insA xs x = xs.take k ++ x :: xs.drop k) := hI (by rw [hins, if_neg (fun e => heq e.2)])
     generalize tx (xs.getD k []) = z at *
     generalize tx x = sx at *
     have hkc : ¬ cap = k := by omega
     clear htz hless hins heq
     by_cases hk0 : k = 0
     ·subst hk0
      have HDR : Hid (∀ W, Ext w W → SlAt W 1 encS (some ⟨g, 0, none⟩) (xs.drop 0)) := hI (fun W hW => hS.ext hW)
      have f4 : (n : Int) ≤ (cap : Int) := by omega
      have HT1 := hI (hS.takeE 0)
      have HTL : Hid ((xs.take 0).length = 0) := hI (by rw [List.length_take]; have := HN.out; omega)
      have HDL : Hid ((xs.drop 0).length = n - 0) := hI (by rw [List.length_drop]; have := HN.out; omega)
      generalize hTT : xs.take 0 = TT at *
      generalize hDD : xs.drop 0 = DD at *
      clear hS hB h HJ hxl hTT hDD
      go_wp2
      clear hlt
      go_region_held3 (fun w' => UpE w.heap.size w') (first | exact Nat.le_refl _ | (refine (Ext.size (?_ : Ext w _) : _); exact by with_reducible first|exact hx5|exact hx6|exact hx7|exact xA hx5|exact xD (xA xR)|exact xD (xA (xA xR)))) (first | (refine step_append_sl elS len_encS one_encS rfl _ _ rfl rfl (HO5.out _ _ (by with_reducible first|exact bD (bN (by omega))|exact bD (bA (bN (by omega)))|exact bD (bN (by first|omega|simp))) (by first | omega | (simp; done) | (simp; omega))) (xs := TT) (eval_lnE rfl HTL.out) (HT1.out.ext (by with_reducible first|exact xD (xA xR)|exact xD (xA (xA xR)))) (by have := HTL.out; unfold maxLen; simp only [List.length_nil]; omega) (by have := HTL.out; simp only [List.length_nil]; omega) (by first | omega | (simp; done) | (simp; omega)) ?_; intro v5 w5 hO5 hg5 _; have hb5 := kept_ofE hg5; have hx5 : Ext w w5 := Ext.grown (by with_reducible first|exact xD (xA xR)|exact xD (xA (xA xR))) hg5 (fun q hq => by rw [own_isE hq]; first | exact Nat.le_refl _ | (simp; done) | (simp; omega))) | (refine step_append_sl elS len_encS one_encS rfl _ _ rfl rfl (hO5.ext (by with_reducible first|exact xR|exact xA xR)) (xs := [x]) rfl (HBL.out _ _ _ (by first | exact hb5 _ _ _ (by with_reducible first|exact bD (bA (bN (by omega)))|exact bD (bN (by first|omega|simp))) (by first | omega | (simp; done) | (simp; omega)) | exact Blk.new rfl) (by rfl)) (by have := HTL.out; unfold maxLen; simp; omega) (by have := HTL.out; simp; omega) (by have := hx5.size; first | omega | (simp; omega)) ?_; intro v6 w6 hO6 hg6 _; have hx6 : Ext w w6 := Ext.grown (by with_reducible first|exact hx5|exact xA hx5) hg6 (fun q hq => (hO5.row q hq).1)) | (refine step_append_sl elS len_encS one_encS rfl _ _ rfl rfl (hO6.ext xR) (xs := DD) (eval_lnE rfl HDL.out) (HDR.out _ hx6) (by have := HTL.out; have := HDL.out; unfold maxLen; simp only [List.length_append, List.length_cons, List.length_nil]; omega) (by have := HTL.out; have := HDL.out; simp only [List.length_append, List.length_cons, List.length_nil]; omega) (by have := hx6.size; first | omega | (simp; omega)) ?_; intro v7 w7 hO7 hg7 _; have hx7 : Ext w w7 := Ext.grown hx6 hg7 (fun q hq => (hO6.row q hq).1)))
      all_goals
       have HO7 : Hid (OwS w7 w.heap.size v7 (insA xs x)) := hI (by rw [HR.out, show TT ++ x :: DD = TT ++ [x] ++ DD by simp]; first | exact hO7 | simpa using hO7)
       have HX7 := hI hx7
       have HNN : Hid (v7 ≠ .slice none 0 0) := hI (fun e => by
        have h8 := HO7.out.1
        have h9 := HO7.out.2
        rw [e] at h9
        rcases h9 with ⟨_, h0⟩ | ⟨_, _, _, e9, _⟩
        ·rw [HR.out] at h0; simp at h0
        ·cases e9)
       clear hO7 hg7 hx7 hO6 hg6 hx6 hO5 hg5 hb5 hx5
       go_wp2
       go_ret
       exact ⟨_, rfl, HNN.out, HO7.out.less hbw, HX7.out⟩
     ·clear hkl
      have HDR : Hid (∀ W, Ext w W → SlAt W 1 encS (some ⟨g, k, none⟩) (xs.drop k)) := hI (fun W hW => by
       by_cases hkl : k < xs.length
       ·obtain ⟨b, off, e, _, h2⟩ := hS.drop k hkl
        injection e with e
        injection e with e1 e2
        subst e1 e2
        rw [Nat.zero_add, Nat.mul_one] at h2
        exact h2.ext hW
       ·exact SlAt.none_ (List.drop_eq_nil_of_le (by omega)))
      have f1 : (0 : Int) ≤ (k : Int) := by omega
      have f2 : (k : Int) ≤ (n : Int) := by omega
      have f3 : (k : Int) ≤ (cap : Int) := by omega
      have f4 : (n : Int) ≤ (cap : Int) := by omega
      have HT1 := hI (hS.takeE k)
      have HTL : Hid ((xs.take k).length = k) := hI (by rw [List.length_take]; have := HN.out; omega)
      have HDL : Hid ((xs.drop k).length = n - k) := hI (by rw [List.length_drop]; have := HN.out; omega)
      generalize hTT : xs.take k = TT at *
      generalize hDD : xs.drop k = DD at *
      clear hS hB h HJ hxl hTT hDD
      go_wp2
      clear hlt
      go_region_held3 (fun w' => UpE w.heap.size w') (first | exact Nat.le_refl _ | (refine (Ext.size (?_ : Ext w _) : _); exact by with_reducible first|exact hx5|exact hx6|exact hx7|exact xA hx5|exact xD (xA xR)|exact xD (xA (xA xR)))) (first | (refine step_append_sl elS len_encS one_encS rfl _ _ rfl rfl (HO5.out _ _ (by with_reducible first|exact bD (bN (by omega))|exact bD (bA (bN (by omega)))|exact bD (bN (by first|omega|simp))) (by first | omega | (simp; done) | (simp; omega))) (xs := TT) (eval_lnE rfl HTL.out) (HT1.out.ext (by with_reducible first|exact xD (xA xR)|exact xD (xA (xA xR)))) (by have := HTL.out; unfold maxLen; simp only [List.length_nil]; omega) (by have := HTL.out; simp only [List.length_nil]; omega) (by first | omega | (simp; done) | (simp; omega)) ?_; intro v5 w5 hO5 hg5 _; have hb5 := kept_ofE hg5; have hx5 : Ext w w5 := Ext.grown (by with_reducible first|exact xD (xA xR)|exact xD (xA (xA xR))) hg5 (fun q hq => by rw [own_isE hq]; first | exact Nat.le_refl _ | (simp; done) | (simp; omega))) | (refine step_append_sl elS len_encS one_encS rfl _ _ rfl rfl (hO5.ext (by with_reducible first|exact xR|exact xA xR)) (xs := [x]) rfl (HBL.out _ _ _ (by first | exact hb5 _ _ _ (by with_reducible first|exact bD (bA (bN (by omega)))|exact bD (bN (by first|omega|simp))) (by first | omega | (simp; done) | (simp; omega)) | exact Blk.new rfl) (by rfl)) (by have := HTL.out; unfold maxLen; simp; omega) (by have := HTL.out; simp; omega) (by have := hx5.size; first | omega | (simp; omega)) ?_; intro v6 w6 hO6 hg6 _; have hx6 : Ext w w6 := Ext.grown (by with_reducible first|exact hx5|exact xA hx5) hg6 (fun q hq => (hO5.row q hq).1)) | (refine step_append_sl elS len_encS one_encS rfl _ _ rfl rfl (hO6.ext xR) (xs := DD) (eval_lnE rfl HDL.out) (HDR.out _ hx6) (by have := HTL.out; have := HDL.out; unfold maxLen; simp only [List.length_append, List.length_cons, List.length_nil]; omega) (by have := HTL.out; have := HDL.out; simp only [List.length_append, List.length_cons, List.length_nil]; omega) (by have := hx6.size; first | omega | (simp; omega)) ?_; intro v7 w7 hO7 hg7 _; have hx7 : Ext w w7 := Ext.grown hx6 hg7 (fun q hq => (hO6.row q hq).1)))
      all_goals
       have HO7 : Hid (OwS w7 w.heap.size v7 (insA xs x)) := hI (by rw [HR.out, show TT ++ x :: DD = TT ++ [x] ++ DD by simp]; first | exact hO7 | simpa using hO7)
       have HX7 := hI hx7
       have HNN : Hid (v7 ≠ .slice none 0 0) := hI (fun e => by
        have h8 := HO7.out.1
        have h9 := HO7.out.2
        rw [e] at h9
        rcases h9 with ⟨_, h0⟩ | ⟨_, _, _, e9, _⟩
        ·rw [HR.out] at h0; simp at h0
        ·cases e9)
       clear hO7 hg7 hx7 hO6 hg6 hx6 hO5 hg5 hb5 hx5
       go_wp2
       go_ret
       exact ⟨_, rfl, HNN.out, HO7.out.less hbw, HX7.out⟩
  ·obtain rfl : k = n := by omega
   have HR : Hid (insA xs x = xs.take k ++ x :: xs.drop k) := hI (by rw [insA_at (l := xs) (x := x) (k := k) (by omega) HJ.out (fun e => absurd e (by omega)), if_neg (fun e => absurd e.1 (by omega))])
   generalize tx x = sx at *
   by_cases hk0 : k = 0
   ·subst hk0
    by_cases hkc : cap = 0
    ·subst hkc
     have HDR : Hid (∀ W, Ext w W → SlAt W 1 encS (some ⟨g, 0, none⟩) (xs.drop 0)) := hI (fun W hW => hS.ext hW)
     skip
     have HT1 := hI (hS.takeE 0)
     have HTL : Hid ((xs.take 0).length = 0) := hI (by rw [List.length_take]; have := HN.out; omega)
     have HDL : Hid ((xs.drop 0).length = 0) := hI (by rw [List.length_drop]; have := HN.out; omega)
     generalize hTT : xs.take 0 = TT at *
     generalize hDD : xs.drop 0 = DD at *
     clear hS hB h HJ hxl hTT hDD
     go_wp2
     clear hlt
     go_region_held3 (fun w' => UpE w.heap.size w') (first | exact Nat.le_refl _ | (refine (Ext.size (?_ : Ext w _) : _); exact by with_reducible first|exact hx5|exact hx6|exact hx7|exact xA hx5|exact xD (xA xR)|exact xD (xA (xA xR)))) (first | (refine step_append_sl elS len_encS one_encS rfl _ _ rfl rfl (HO5.out _ _ (by with_reducible first|exact bD (bN (by omega))|exact bD (bA (bN (by omega)))|exact bD (bN (by first|omega|simp))) (by first | omega | (simp; done) | (simp; omega))) (xs := TT) (eval_lnE rfl HTL.out) (HT1.out.ext (by with_reducible first|exact xD (xA xR)|exact xD (xA (xA xR)))) (by have := HTL.out; unfold maxLen; simp only [List.length_nil]; omega) (by have := HTL.out; simp only [List.length_nil]; omega) (by first | omega | (simp; done) | (simp; omega)) ?_; intro v5 w5 hO5 hg5 _; have hb5 := kept_ofE hg5; have hx5 : Ext w w5 := Ext.grown (by with_reducible first|exact xD (xA xR)|exact xD (xA (xA xR))) hg5 (fun q hq => by rw [own_isE hq]; first | exact Nat.le_refl _ | (simp; done) | (simp; omega))) | (refine step_append_sl elS len_encS one_encS rfl _ _ rfl rfl (hO5.ext (by with_reducible first|exact xR|exact xA xR)) (xs := [x]) rfl (HBL.out _ _ _ (by first | exact hb5 _ _ _ (by with_reducible first|exact bD (bA (bN (by omega)))|exact bD (bN (by first|omega|simp))) (by first | omega | (simp; done) | (simp; omega)) | exact Blk.new rfl) (by rfl)) (by have := HTL.out; unfold maxLen; simp; omega) (by have := HTL.out; simp; omega) (by have := hx5.size; first | omega | (simp; omega)) ?_; intro v6 w6 hO6 hg6 _; have hx6 : Ext w w6 := Ext.grown (by with_reducible first|exact hx5|exact xA hx5) hg6 (fun q hq => (hO5.row q hq).1)) | (refine step_append_sl elS len_encS one_encS rfl _ _ rfl rfl (hO6.ext xR) (xs := DD) (eval_lnE rfl HDL.out) (HDR.out _ hx6) (by have := HTL.out; have := HDL.out; unfold maxLen; simp only [List.length_append, List.length_cons, List.length_nil]; omega) (by have := HTL.out; have := HDL.out; simp only [List.length_append, List.length_cons, List.length_nil]; omega) (by have := hx6.size; first | omega | (simp; omega)) ?_; intro v7 w7 hO7 hg7 _; have hx7 : Ext w w7 := Ext.grown hx6 hg7 (fun q hq => (hO6.row q hq).1)))
     all_goals
      have HO7 : Hid (OwS w7 w.heap.size v7 (insA xs x)) := hI (by rw [HR.out, show TT ++ x :: DD = TT ++ [x] ++ DD by simp]; first | exact hO7 | simpa using hO7)
      have HX7 := hI hx7
      have HNN : Hid (v7 ≠ .slice none 0 0) := hI (fun e => by
       have h8 := HO7.out.1
       have h9 := HO7.out.2
       rw [e] at h9
       rcases h9 with ⟨_, h0⟩ | ⟨_, _, _, e9, _⟩
       ·rw [HR.out] at h0; simp at h0
       ·cases e9)
      clear hO7 hg7 hx7 hO6 hg6 hx6 hO5 hg5 hb5 hx5
      go_wp2
      go_ret
      exact ⟨_, rfl, HNN.out, HO7.out.less hbw, HX7.out⟩
    ·skip
     have HDR : Hid (∀ W, Ext w W → SlAt W 1 encS (some ⟨g, 0, none⟩) (xs.drop 0)) := hI (fun W hW => hS.ext hW)
     have f4 : (0 : Int) ≤ (cap : Int) := by omega
     have HT1 := hI (hS.takeE 0)
     have HTL : Hid ((xs.take 0).length = 0) := hI (by rw [List.length_take]; have := HN.out; omega)
     have HDL : Hid ((xs.drop 0).length = 0) := hI (by rw [List.length_drop]; have := HN.out; omega)
     generalize hTT : xs.take 0 = TT at *
     generalize hDD : xs.drop 0 = DD at *
     clear hS hB h HJ hxl hTT hDD
     go_wp2
     clear hlt
     go_region_held3 (fun w' => UpE w.heap.size w') (first | exact Nat.le_refl _ | (refine (Ext.size (?_ : Ext w _) : _); exact by with_reducible first|exact hx5|exact hx6|exact hx7|exact xA hx5|exact xD (xA xR)|exact xD (xA (xA xR)))) (first | (refine step_append_sl elS len_encS one_encS rfl _ _ rfl rfl (HO5.out _ _ (by with_reducible first|exact bD (bN (by omega))|exact bD (bA (bN (by omega)))|exact bD (bN (by first|omega|simp))) (by first | omega | (simp; done) | (simp; omega))) (xs := TT) (eval_lnE rfl HTL.out) (HT1.out.ext (by with_reducible first|exact xD (xA xR)|exact xD (xA (xA xR)))) (by have := HTL.out; unfold maxLen; simp only [List.length_nil]; omega) (by have := HTL.out; simp only [List.length_nil]; omega) (by first | omega | (simp; done) | (simp; omega)) ?_; intro v5 w5 hO5 hg5 _; have hb5 := kept_ofE hg5; have hx5 : Ext w w5 := Ext.grown (by with_reducible first|exact xD (xA xR)|exact xD (xA (xA xR))) hg5 (fun q hq => by rw [own_isE hq]; first | exact Nat.le_refl _ | (simp; done) | (simp; omega))) | (refine step_append_sl elS len_encS one_encS rfl _ _ rfl rfl (hO5.ext (by with_reducible first|exact xR|exact xA xR)) (xs := [x]) rfl (HBL.out _ _ _ (by first | exact hb5 _ _ _ (by with_reducible first|exact bD (bA (bN (by omega)))|exact bD (bN (by first|omega|simp))) (by first | omega | (simp; done) | (simp; omega)) | exact Blk.new rfl) (by rfl)) (by have := HTL.out; unfold maxLen; simp; omega) (by have := HTL.out; simp; omega) (by have := hx5.size; first | omega | (simp; omega)) ?_; intro v6 w6 hO6 hg6 _; have hx6 : Ext w w6 := Ext.grown (by with_reducible first|exact hx5|exact xA hx5) hg6 (fun q hq => (hO5.row q hq).1)) | (refine step_append_sl elS len_encS one_encS rfl _ _ rfl rfl (hO6.ext xR) (xs := DD) (eval_lnE rfl HDL.out) (HDR.out _ hx6) (by have := HTL.out; have := HDL.out; unfold maxLen; simp only [List.length_append, List.length_cons, List.length_nil]; omega) (by have := HTL.out; have := HDL.out; simp only [List.length_append, List.length_cons, List.length_nil]; omega) (by have := hx6.size; first | omega | (simp; omega)) ?_; intro v7 w7 hO7 hg7 _; have hx7 : Ext w w7 := Ext.grown hx6 hg7 (fun q hq => (hO6.row q hq).1)))
     all_goals
      have HO7 : Hid (OwS w7 w.heap.size v7 (insA xs x)) := hI (by rw [HR.out, show TT ++ x :: DD = TT ++ [x] ++ DD by simp]; first | exact hO7 | simpa using hO7)
      have HX7 := hI hx7
      have HNN : Hid (v7 ≠ .slice none 0 0) := hI (fun e => by
       have h8 := HO7.out.1
       have h9 := HO7.out.2
       rw [e] at h9
       rcases h9 with ⟨_, h0⟩ | ⟨_, _, _, e9, _⟩
       ·rw [HR.out] at h0; simp at h0
       ·cases e9)
      clear hO7 hg7 hx7 hO6 hg6 hx6 hO5 hg5 hb5 hx5
      go_wp2
      go_ret
      exact ⟨_, rfl, HNN.out, HO7.out.less hbw, HX7.out⟩
   ·by_cases hkc : cap = k
    ·subst hkc
     have HDR : Hid (∀ W, Ext w W → SlAt W 1 encS (some ⟨g, 0, none⟩) (xs.drop cap)) := hI (fun W _ => SlAt.none_ (List.drop_eq_nil_of_le (by omega)))
     have f1 : (0 : Int) ≤ (cap : Int) := by omega
     have f2 : (cap : Int) ≤ (cap : Int) := by omega
     have f3 : (cap : Int) ≤ (cap : Int) := by omega
     have f4 : (cap : Int) ≤ (cap : Int) := by omega
     have HT1 := hI (hS.takeE cap)
     have HTL : Hid ((xs.take cap).length = cap) := hI (by rw [List.length_take]; have := HN.out; omega)
     have HDL : Hid ((xs.drop cap).length = 0) := hI (by rw [List.length_drop]; have := HN.out; omega)
     generalize hTT : xs.take cap = TT at *
     generalize hDD : xs.drop cap = DD at *
     clear hS hB h HJ hxl hTT hDD
     go_wp2
     clear hlt
     go_region_held3 (fun w' => UpE w.heap.size w') (first | exact Nat.le_refl _ | (refine (Ext.size (?_ : Ext w _) : _); exact by with_reducible first|exact hx5|exact hx6|exact hx7|exact xA hx5|exact xD (xA xR)|exact xD (xA (xA xR)))) (first | (refine step_append_sl elS len_encS one_encS rfl _ _ rfl rfl (HO5.out _ _ (by with_reducible first|exact bD (bN (by omega))|exact bD (bA (bN (by omega)))|exact bD (bN (by first|omega|simp))) (by first | omega | (simp; done) | (simp; omega))) (xs := TT) (eval_lnE rfl HTL.out) (HT1.out.ext (by with_reducible first|exact xD (xA xR)|exact xD (xA (xA xR)))) (by have := HTL.out; unfold maxLen; simp only [List.length_nil]; omega) (by have := HTL.out; simp only [List.length_nil]; omega) (by first | omega | (simp; done) | (simp; omega)) ?_; intro v5 w5 hO5 hg5 _; have hb5 := kept_ofE hg5; have hx5 : Ext w w5 := Ext.grown (by with_reducible first|exact xD (xA xR)|exact xD (xA (xA xR))) hg5 (fun q hq => by rw [own_isE hq]; first | exact Nat.le_refl _ | (simp; done) | (simp; omega))) | (refine step_append_sl elS len_encS one_encS rfl _ _ rfl rfl (hO5.ext (by with_reducible first|exact xR|exact xA xR)) (xs := [x]) rfl (HBL.out _ _ _ (by first | exact hb5 _ _ _ (by with_reducible first|exact bD (bA (bN (by omega)))|exact bD (bN (by first|omega|simp))) (by first | omega | (simp; done) | (simp; omega)) | exact Blk.new rfl) (by rfl)) (by have := HTL.out; unfold maxLen; simp; omega) (by have := HTL.out; simp; omega) (by have := hx5.size; first | omega | (simp; omega)) ?_; intro v6 w6 hO6 hg6 _; have hx6 : Ext w w6 := Ext.grown (by with_reducible first|exact hx5|exact xA hx5) hg6 (fun q hq => (hO5.row q hq).1)) | (refine step_append_sl elS len_encS one_encS rfl _ _ rfl rfl (hO6.ext xR) (xs := DD) (eval_lnE rfl HDL.out) (HDR.out _ hx6) (by have := HTL.out; have := HDL.out; unfold maxLen; simp only [List.length_append, List.length_cons, List.length_nil]; omega) (by have := HTL.out; have := HDL.out; simp only [List.length_append, List.length_cons, List.length_nil]; omega) (by have := hx6.size; first | omega | (simp; omega)) ?_; intro v7 w7 hO7 hg7 _; have hx7 : Ext w w7 := Ext.grown hx6 hg7 (fun q hq => (hO6.row q hq).1)))
     all_goals
      have HO7 : Hid (OwS w7 w.heap.size v7 (insA xs x)) := hI (by rw [HR.out, show TT ++ x :: DD = TT ++ [x] ++ DD by simp]; first | exact hO7 | simpa using hO7)
      have HX7 := hI hx7
      have HNN : Hid (v7 ≠ .slice none 0 0) := hI (fun e => by
       have h8 := HO7.out.1
       have h9 := HO7.out.2
       rw [e] at h9
       rcases h9 with ⟨_, h0⟩ | ⟨_, _, _, e9, _⟩
       ·rw [HR.out] at h0; simp at h0
       ·cases e9)
      clear hO7 hg7 hx7 hO6 hg6 hx6 hO5 hg5 hb5 hx5
      go_wp2
      go_ret
      exact ⟨_, rfl, HNN.out, HO7.out.less hbw, HX7.out⟩
    ·skip
     have HDR : Hid (∀ W, Ext w W → SlAt W 1 encS (some ⟨g, k, none⟩) (xs.drop k)) := hI (fun W hW => by
      by_cases hkl : k < xs.length
      ·obtain ⟨b, off, e, _, h2⟩ := hS.drop k hkl
       injection e with e
       injection e with e1 e2
       subst e1 e2
       rw [Nat.zero_add, Nat.mul_one] at h2
       exact h2.ext hW
      ·exact SlAt.none_ (List.drop_eq_nil_of_le (by omega)))
     have f1 : (0 : Int) ≤ (k : Int) := by omega
     have f2 : (k : Int) ≤ (k : Int) := by omega
     have f3 : (k : Int) ≤ (cap : Int) := by omega
     have f4 : (k : Int) ≤ (cap : Int) := by omega
     have HT1 := hI (hS.takeE k)
     have HTL : Hid ((xs.take k).length = k) := hI (by rw [List.length_take]; have := HN.out; omega)
     have HDL : Hid ((xs.drop k).length = 0) := hI (by rw [List.length_drop]; have := HN.out; omega)
     generalize hTT : xs.take k = TT at *
     generalize hDD : xs.drop k = DD at *
     clear hS hB h HJ hxl hTT hDD
     go_wp2
     clear hlt
     go_region_held3 (fun w' => UpE w.heap.size w') (first | exact Nat.le_refl _ | (refine (Ext.size (?_ : Ext w _) : _); exact by with_reducible first|exact hx5|exact hx6|exact hx7|exact xA hx5|exact xD (xA xR)|exact xD (xA (xA xR)))) (first | (refine step_append_sl elS len_encS one_encS rfl _ _ rfl rfl (HO5.out _ _ (by with_reducible first|exact bD (bN (by omega))|exact bD (bA (bN (by omega)))|exact bD (bN (by first|omega|simp))) (by first | omega | (simp; done) | (simp; omega))) (xs := TT) (eval_lnE rfl HTL.out) (HT1.out.ext (by with_reducible first|exact xD (xA xR)|exact xD (xA (xA xR)))) (by have := HTL.out; unfold maxLen; simp only [List.length_nil]; omega) (by have := HTL.out; simp only [List.length_nil]; omega) (by first | omega | (simp; done) | (simp; omega)) ?_; intro v5 w5 hO5 hg5 _; have hb5 := kept_ofE hg5; have hx5 : Ext w w5 := Ext.grown (by with_reducible first|exact xD (xA xR)|exact xD (xA (xA xR))) hg5 (fun q hq => by rw [own_isE hq]; first | exact Nat.le_refl _ | (simp; done) | (simp; omega))) | (refine step_append_sl elS len_encS one_encS rfl _ _ rfl rfl (hO5.ext (by with_reducible first|exact xR|exact xA xR)) (xs := [x]) rfl (HBL.out _ _ _ (by first | exact hb5 _ _ _ (by with_reducible first|exact bD (bA (bN (by omega)))|exact bD (bN (by first|omega|simp))) (by first | omega | (simp; done) | (simp; omega)) | exact Blk.new rfl) (by rfl)) (by have := HTL.out; unfold maxLen; simp; omega) (by have := HTL.out; simp; omega) (by have := hx5.size; first | omega | (simp; omega)) ?_; intro v6 w6 hO6 hg6 _; have hx6 : Ext w w6 := Ext.grown (by with_reducible first|exact hx5|exact xA hx5) hg6 (fun q hq => (hO5.row q hq).1)) | (refine step_append_sl elS len_encS one_encS rfl _ _ rfl rfl (hO6.ext xR) (xs := DD) (eval_lnE rfl HDL.out) (HDR.out _ hx6) (by have := HTL.out; have := HDL.out; unfold maxLen; simp only [List.length_append, List.length_cons, List.length_nil]; omega) (by have := HTL.out; have := HDL.out; simp only [List.length_append, List.length_cons, List.length_nil]; omega) (by have := hx6.size; first | omega | (simp; omega)) ?_; intro v7 w7 hO7 hg7 _; have hx7 : Ext w w7 := Ext.grown hx6 hg7 (fun q hq => (hO6.row q hq).1)))
     all_goals
      have HO7 : Hid (OwS w7 w.heap.size v7 (insA xs x)) := hI (by rw [HR.out, show TT ++ x :: DD = TT ++ [x] ++ DD by simp]; first | exact hO7 | simpa using hO7)
      have HX7 := hI hx7
      have HNN : Hid (v7 ≠ .slice none 0 0) := hI (fun e => by
       have h8 := HO7.out.1
       have h9 := HO7.out.2
       rw [e] at h9
       rcases h9 with ⟨_, h0⟩ | ⟨_, _, _, e9, _⟩
       ·rw [HR.out] at h0; simp at h0
       ·cases e9)
      clear hO7 hg7 hx7 hO6 hg6 hx6 hO5 hg5 hb5 hx5
      go_wp2
      go_ret
      exact ⟨_, rfl, HNN.out, HO7.out.less hbw, HX7.out⟩
theorem plaA_take (L : List Lk) (k : Nat) (hk : k < L.length) : plaA (L.take (k + 1)) = insA (insA (plaA (L.take k)) (L.getD k lkD).1) (L.getD k lkD).2.1 := by
 unfold plaA
 rw [List.take_succ_eq_append_getElem hk, List.foldl_append, show L.getD k lkD = L[k] by simp [List.getD, hk]]
 rfl
theorem insA_len (l : List (List UInt8)) (x : List UInt8) : (insA l x).length ≤ l.length + 1 := by
 induction l with
 | nil => simp [insA]
 | cons a l ih =>
  unfold insA
  split
  ·simp only [List.length_cons]; omega
  ·split
   ·simp
   ·simp
theorem plaA_len (L : List Lk) : ∀ k, k ≤ L.length → (plaA (L.take k)).length ≤ 2 * k
 | 0, _ => by simp [plaA]
 | k + 1, h => by
  have := plaA_len L k (by omega)
  rw [plaA_take L k (by omega)]
  have h1 := insA_len (insA (plaA (L.take k)) (L.getD k lkD).1) (L.getD k lkD).2.1
  have h2 := insA_len (plaA (L.take k)) (L.getD k lkD).1
  omega
set_option maxRecDepth 20000 in
set_option maxHeartbeats 6400000 in
theorem s_l12Places (A : Option Addr) (n c : Nat) (L : List Lk) (w : World) (h : SlAt w 4 encK A L) (hn : n = L.length) (hl : n ≤ 20) :
  Calls Tryz.prog 159 #[.slice A n c] w fun e w' => ∃ v, e = .returned v ∧ OwS w' w.heap.size v (plaA L) ∧ Ext w w' := by
 have HN := hI hn
 have HS := hI h
 have HV0 : Hid (∀ W g, Blk W g 9 #[] → w.heap.size ≤ g → OwS W w.heap.size (.slice (some ⟨g, 0, none⟩) 0 0) []) := hI (fun W g' hB hge => Own.of_blk (xs := []) hB len_encS rfl hge (Nat.zero_le _))
 have HFIN : Hid (plaA (L.take n) = plaA L) := hI (by rw [hn, List.take_length])
 clear hn h
 go_enter Tryz.func159, Tryz.ntmps159
 go_wp2
 go_loopw [3, 4] (fun v i wr => ∃ k : Nat, k ≤ n ∧ i = .int .i64 k ∧ Hid (OwS wr w.heap.size v (plaA (L.take k))) ∧ Hid (v ≠ .slice none 0 0) ∧ Ext w wr) (fun _ i _ => n - (intOf i).toNat)
 case atStart => exact ⟨0, by omega, rfl, hI (HV0.out _ _ (bN (by omega)) (by omega)), hI (by simp), xA xR⟩
 case round =>
  obtain ⟨k, hk, rfl, HV, HNE, hxr⟩ := hrel
  obtain ⟨w5, rfl⟩ : ∃ x, x = wr := ⟨wr, rfl⟩
  by_cases hlt : k < n
  ·have hkl : k < L.length := by rw [← HN.out]; exact hlt
   obtain ⟨b, off, rfl, hb, d0, d1, d2, d3⟩ := (HS.out.ext hxr).lk hkl
   have hsu := plaA_take L k hkl
   have hln := plaA_len L k (by omega)
   have hln2 := insA_len (plaA (L.take k)) (L.getD k lkD).1
   have HSU := hI hsu
   have hsz := hxr.size
   generalize L.getD k lkD = l at *
   have HI : Hid (∀ W v (xs : List (List UInt8)) (s : ByteArray) (x : List UInt8), tx x = s → Ext w5 W → OwS W w.heap.size v xs → v ≠ .slice none 0 0 → xs.length ≤ 1000 → Calls Tryz.prog 182 #[v, .string s] W fun e w' => ∃ v', e = .returned v' ∧ v' ≠ .slice none 0 0 ∧ OwS w' w.heap.size v' (insA xs x) ∧ Ext W w') := hI (fun W v xs s x hs hW hO hne hlen => by
    subst hs
    exact s_l08Insert w.heap.size v xs x W hO hne (Nat.le_trans hsz hW.size) hlen)
   have HLN : Hid ((plaA (L.take k)).length ≤ 1000 ∧ (insA (plaA (L.take k)) l.1).length ≤ 1000) := hI ⟨by omega, by omega⟩
   obtain ⟨sc, hsc⟩ : ∃ sc, tx l.1 = sc := ⟨_, rfl⟩
   obtain ⟨sp, hsp⟩ : ∃ sp, tx l.2.1 = sp := ⟨_, rfl⟩
   rw [hsc] at d0
   rw [hsp] at d1
   have HTC := hI hsc
   have HTP := hI hsp
   have HKC : Hid (∀ W, Ext w5 W → W.cell? ⟨b, off + k * 4 + 1, none⟩ = some (.string sp)) := hI (fun W hW => (hW.cell _ _ hb).trans d1)
   clear d2 d3 hsu hln hln2 hkl hsc hsp
   go_wp2
   go_region_held3 (fun w' => w'.cell? ⟨b, off + k * 4, none⟩ = some (.string sc) ∧ w'.cell? ⟨b, off + k * 4 + 1, none⟩ = some (.string sp)) (first | go_keep | exact ⟨((show Ext w5 w6 from by with_reducible first|exact xT (xD xR) hx6|exact xT (xT (xD xR) (by assumption)) hx6).cell b _ hb).trans d0, ((show Ext w5 w6 from by with_reducible first|exact xT (xD xR) hx6|exact xT (xT (xD xR) (by assumption)) hx6).cell b _ hb).trans d1⟩) ((go_at_call 182; refine (HI.out _ _ _ _ _ (by first | exact HTC.out | exact HTP.out) (by with_reducible first|exact xD xR|exact xT (xD xR) hx6) (by first | exact HO6.out.ext xR | exact HV.out.ext (xD xR)) (by first | exact HN6.out | exact HNE.out) (by first | exact HLN.out.1 | exact HLN.out.2)).mono ?_; rintro e w6 ⟨v6, rfl, hn6, hO6, hx6⟩; obtain ⟨hc6, hf6, hs6⟩ := hx6.all; (try simp at hs6); have HO6 := hI hO6; have HN6 := hI hn6; clear hO6 hn6))
   all_goals
    go_wp2
    go_roundw
    case rel => exact ⟨k + 1, by omega, by go_num, hI (by rw [HSU.out]; exact HO6.out), HN6, xT (xT (xD hxr) (by assumption)) hx6⟩
    case measure => simp [intOf]; omega
  ·obtain rfl : k = n := by omega
   go_wp2
   go_ret
   exact ⟨_, rfl, by rw [← HFIN.out]; exact HV.out, hxr⟩
end Go.Proofs.YtlnliajnipniaaaGreatDoor
namespace Go.Proofs.YtlnliajnipniaaaGreatDoor
open Go.RowKit
section
variable {α : Type} {enc : α → List Value} {sz by_ : Nat} {ts te : TypeId} {P : Program}
theorem run_append_slA (H : ElT P ts te sz by_) (ty : TypeId) (hk : ∀ x, (enc x).length = sz) (h1 : ∀ x, ∀ u ∈ enc x, u.oneCell' = true) {w : World} {base : Nat} {v : Value} {ys : List α} (hown : Own enc sz te w base v ys)
  {A : Option Addr} {c : Nat} {xs : List α} (hsl : SlAt w sz enc A xs) (h63 : ys.length + xs.length ≤ maxLen) (hbytes : (ys.length + xs.length) * by_ ≤ 140737488355328) (hbase : base ≤ w.heap.size) :
  ∃ v' w', (Builtin.append_ #[ts, ts] ty #[v, .slice A xs.length c]).run P w = .ok v' w' ∧ Own enc sz te w' base v' (ys ++ xs) ∧ w.grownBy w' v.ownBlock ∧ (v' = .slice none 0 0 ↔ v = .slice none 0 0 ∧ xs = []) ∧ (v'.ownBlock = v.ownBlock ∨ v'.ownBlock = some w.heap.size) := by
 obtain ⟨hu, ⟨i, z, hi, hz, hs, hb, hzs⟩, h0⟩ := H
 have hfl := flatMap_len hk xs
 have hone : ∀ u ∈ xs.flatMap enc, u.oneCell' = true := fun u hu => by
  obtain ⟨x, _, hx⟩ := List.mem_flatMap.1 hu
  exact h1 x u hx
 have hnil : xs.length = 0 ↔ xs = [] := List.length_eq_zero_iff
 rcases A with _ | ad
 ·have hx0 : xs = [] := by
   rcases xs with _ | ⟨x, xs⟩
   ·rfl
   ·obtain ⟨_, _, e, _⟩ := hsl (by simp); cases e
  subst hx0
  refine ⟨v, w, ?_, by simpa using hown, World.grownBy.refl w _, by simp, .inl rfl⟩
  rcases hown.2 with ⟨rfl, hl0⟩ | ⟨g, cap, cur, rfl, _, _, hnc, _⟩
  ·simp [Builtin.append_, run_underlying hu, sizeOf, typeInfo, hi, Builtin.lenOf, Builtin.firstCells]
  ·simp [Builtin.append_, run_underlying hu, sizeOf, typeInfo, hi, Builtin.lenOf, Builtin.firstCells, hnc, storeCells]
 ·have hcells : ∀ j u, (xs.flatMap enc)[j]? = some u → w.cell? (ad.add j) = some u := fun j u hj => by
   have hj' : j < xs.length * sz := by rw [← hfl]; exact (List.getElem?_eq_some_iff.1 hj).1
   have hx0 : 0 < xs.length := by
    rcases Nat.eq_zero_or_pos xs.length with e | e
    ·rw [e] at hj'; omega
    ·exact e
   obtain ⟨b, off, e, _, hc⟩ := hsl hx0
   injection e with e
   subst e
   have hq : j / sz < xs.length := Nat.div_lt_of_lt_mul (by rw [Nat.mul_comm]; exact hj')
   have hm : j % sz < sz := Nat.mod_lt _ h0
   have hdm : j / sz * sz + j % sz = j := by rw [Nat.mul_comm]; exact Nat.div_add_mod j sz
   have hlen : j % sz < (enc xs[j / sz]).length := by rw [hk]; exact hm
   have ha := flatMap_at hk xs (j / sz) xs[j / sz] (j % sz) _ (List.getElem?_eq_getElem hq) (List.getElem?_eq_getElem hlen)
   rw [hdm, hj] at ha
   have hcc := hc (j / sz) xs[j / sz] (List.getElem?_eq_getElem hq) (j % sz) _ (List.getElem?_eq_getElem hlen)
   rw [Nat.add_assoc, hdm] at hcc
   injection ha with ha
   rw [ha, ← hcc]
   unfold Addr.add
   split
   ·rename_i hz; subst hz; rfl
   ·rfl
  obtain ⟨v', w', a1, a2, a3, a4, a5⟩ := run_append_own_at w base ts ty te i z sz by_ hu hi hz hs hb hzs h0 v ys.length (ys.flatMap enc) hown ad xs.length c (xs.flatMap enc) hfl hcells hone h63 hbytes hbase
  exact ⟨v', w', a1, Own.add a2, a3, by rw [a4, hnil], a5⟩
theorem wpList_append_slA (H : ElT P ts te sz by_) (hk : ∀ x, (enc x).length = sz) (h1 : ∀ x, ∀ u ∈ enc x, u.oneCell' = true) {w : World} {ops : Array Oper} {rest : List Oper} {o : Oper} {a : Act} {Q : Exit → Act → World → Prop} (hgd : o.guard = none) (s x : Operand)
  (ho : o.op = .call { callee := .builtin .append, args := #[s, x], argTypes := #[ts, ts] }) {base : Nat} {v : Value} {ys : List α} (hs : a.eval s = v) (hown : Own enc sz te w base v ys)
  {A : Option Addr} {c : Nat} {xs : List α} (hx : a.eval x = .slice A xs.length c) (hsl : SlAt w sz enc A xs) (h63 : ys.length + xs.length ≤ maxLen) (hbytes : (ys.length + xs.length) * by_ ≤ 140737488355328) (hbase : base ≤ w.heap.size)
  (h : ∀ v' w', Own enc sz te w' base v' (ys ++ xs) → w.grownBy w' v.ownBlock → (v' = .slice none 0 0 ↔ v = .slice none 0 0 ∧ xs = []) → (v'.ownBlock = v.ownBlock ∨ v'.ownBlock = some w.heap.size) → wpList P ops Q rest (a.put o.dst v') w') : wpList P ops Q (o :: rest) a w := by
 obtain ⟨v', w', a1, a2, a3, a4, a5⟩ := run_append_slA H o.type hk h1 hown (c := c) hsl h63 hbytes hbase
 exact wpList_run w hgd s x ts ts ho _ _ hs hx v' w' a1 (h v' w' a2 a3 a4 a5)
end
end Go.Proofs.YtlnliajnipniaaaGreatDoor
namespace Go.Proofs.YtlnliajnipniaaaGreatDoor
open Go.RowKit
attribute [local go_sem] ExtOf.cell ExtOf.frozen
noncomputable def chiR (L : List Lk) (x : List UInt8) (y : Int) : List (List UInt8) := if lkC L [x] y = 0 then (plaA L).filter (chiB L x y) else []
def filTo (P : List (List UInt8)) (p : List UInt8 → Bool) (k : Nat) : List (List UInt8) := (P.take k).filter p
theorem filTo_succ {P : List (List UInt8)} {p : List UInt8 → Bool} {k : Nat} (hk : k < P.length) : filTo P p (k + 1) = if p (P.getD k []) = true then filTo P p k ++ [P.getD k []] else filTo P p k := by
 unfold filTo
 rw [List.take_succ_eq_append_getElem hk, List.filter_append, show P.getD k [] = P[k] by simp [List.getD, hk]]
 by_cases h : p P[k] = true
 ·rw [if_pos h]; simp [h]
 ·rw [if_neg h]; simp [h]
theorem filTo_len (P : List (List UInt8)) (p : List UInt8 → Bool) (k : Nat) : (filTo P p k).length ≤ k := by
 unfold filTo
 have := List.length_filter_le p (P.take k)
 rw [List.length_take] at this
 omega
theorem filTo_all (P : List (List UInt8)) (p : List UInt8 → Bool) {k : Nat} (hk : P.length ≤ k) : filTo P p k = P.filter p := by
 unfold filTo
 rw [List.take_of_length_le hk]
theorem lks20 {L : List Lk} (h : lksB L = true) : L.length ≤ 20 := (lksB_iff.1 h).1.2
theorem pla_len (L : List Lk) : (plaA L).length ≤ 2 * L.length := by
 have := plaA_len L L.length (Nat.le_refl _)
 rwa [List.take_length] at this
theorem pla_ne {L : List Lk} (h : lksB L = true) {x : List UInt8} (hx : x ∈ plaA L) : x ≠ [] := by
 obtain ⟨l, hl, hc⟩ := plaA_mem.1 hx
 obtain ⟨i, hi, rfl⟩ := List.mem_iff_getElem.1 hl
 have := ((lksB_iff.1 h).1.1 i hi).1
 simp only [List.getD, List.getElem?_eq_getElem hi, Option.getD_some, lkB, Bool.and_eq_true] at this
 rcases hc with rfl | rfl
 ·exact smL_ne this.1.1.1
 ·exact smL_ne this.1.1.2
theorem mem_getDE {α : Type} {d : α} {xs : List α} {k : Nat} (hk : k < xs.length) : xs.getD k d ∈ xs := by simp [List.getD, hk]
set_option maxRecDepth 20000 in
set_option maxHeartbeats 12800000 in
theorem s_ChildrenIn (A : Option Addr) (n c : Nat) (L : List Lk) (x : List UInt8) (y : Int) (w : World) (h : SlAt w 4 encK A L) (hn : n = L.length) (hl : L.length ≤ 1048576) (hg : Links L) (hx : x.length ≤ 1048576) :
  Calls Tryz.prog 120 #[.slice A n c, .string (tx x), .int .i64 y] w fun e w' => ∃ v, e = .returned (.tuple #[v, .int .i64 (lkC L [x] y)]) ∧ OwS w' w.heap.size v (chiR L x y) ∧ Ext w w' := by
 have HC := hI (fun W hW => s_l12Code A n c L x y W hW hn hl hg hx)
 have HS := hI h
 have HN := hI hn
 by_cases hz : lkC L [x] y = 0
 ·have hR : chiR L x y = (plaA L).filter (chiB L x y) := by unfold chiR; rw [if_pos hz]
  have hlk := (lkC_zero hz).1
  have h20 := lks20 hlk
  have hn20 : n ≤ 20 := by omega
  have hpl := pla_len L
  have HPN : Hid (∀ z ∈ plaA L, z ≠ []) := hI (fun z hz => pla_ne hlk hz)
  have HLK := hI (lksB_iff.1 hlk)
  rw [hR, hz]
  rw [hz] at HC
  have HP := hI (fun W hW => s_l12Places A n c L W hW hn hn20)
  have HV0 : Hid (∀ W g base, Blk W g 9 #[] → base ≤ g → OwS W base (.slice (some ⟨g, 0, none⟩) 0 0) []) := hI (fun W g' base hB hge => Own.of_blk (xs := []) hB len_encS rfl hge (Nat.zero_le _))
  have HX := hI (tx_toL x)
  have HXE : Hid (tx x = tx x) := hI rfl
  clear hz hR hlk h hn hg hx hl
  generalize hpe : plaA L = P at *
  clear hpe
  obtain ⟨sx, hsx⟩ : ∃ sx, sx = tx x := ⟨_, rfl⟩
  rw [← hsx] at HC HX HXE ⊢
  have HSX := hI hsx
  clear hsx
  obtain ⟨np, hnp⟩ : ∃ np, np = P.length := ⟨_, rfl⟩
  have hnp40 : np ≤ 40 := by omega
  have HNP := hI hnp
  clear hpl hnp
  go_enter Tryz.func120, Tryz.ntmps120
  (go_wp2_with fail; refine (HC.out _ HS.out).mono ?_; rintro e w1 ⟨rfl, hx1⟩; obtain ⟨hc1, hf1, hs1⟩ := hx1.all; (try simp at hs1))
  have HX1 := hI (show Ext w w1 from hx1)
  go_wp2_with fail
  refine (HP.out _ (HS.out.ext (xA hx1))).mono ?_
  rintro e w2 ⟨vp, rfl, hOp, hx2⟩
  have HX2 : Hid (Ext w w2) := hI (xT (xA hx1) hx2)
  have HW2 : Hid (w.heap.size ≤ w1.heap.size) := hI hs1
  have hB0 : Blk w2 w1.heap.size 9 #[] := bE hx2 (bN (by omega))
  have hO0 := HV0.out w2 w1.heap.size w.heap.size hB0 hs1
  have HO0 := hI hO0
  obtain ⟨Ap, cp, rfl, hSp, _, _, hrow⟩ := hOp.sl len_encS
  have HNW0 : Hid (∀ q, Ap = some q → Value.ownBlock (.slice (some ⟨w1.heap.size, 0, none⟩) 0 0) ≠ some q.block) := hI (fun q hq e => by have h1 := (hrow q hq).1; have h2 := own_isE (q := q.block) e; (try simp at h1); omega)
  have HSP := hI hSp
  rw [← HNP.out]
  clear hB0 hO0 hOp hSp hx1 hx2 hs1 hc1 hf1 hrow
  go_wp2
  go_loopw [9, 11] (fun v i wr => ∃ k : Nat, k ≤ np ∧ i = .int .i64 k ∧ Hid (OwS wr w.heap.size v (filTo P (chiB L x y) k)) ∧ Hid (∀ q, Ap = some q → Value.ownBlock v ≠ some q.block) ∧ Ext w wr ∧ Hid (SlAt wr 1 encS Ap P)) (fun _ i _ => np - (intOf i).toNat)
  case atStart => exact ⟨0, by omega, rfl, hI HO0.out, HNW0, HX2.out, HSP⟩
  case round =>
   obtain ⟨k, hk, rfl, HV, HNW, hxr, HSR⟩ := hrel
   obtain ⟨w5, rfl⟩ : ∃ x, x = wr := ⟨wr, rfl⟩
   have hsr := hxr.size
   by_cases hlt : k < np
   ·have hkp : k < P.length := by rw [← HNP.out]; exact hlt
    have hsu := filTo_succ (p := chiB L x y) hkp
    have hpm := HPN.out _ (mem_getDE (d := ([] : List UInt8)) hkp)
    have hln := filTo_len P (chiB L x y) k
    obtain ⟨b, off, hA, hb, d0⟩ := HSR.out.st hkp
    subst hA
    have HLN : Hid ((filTo P (chiB L x y) k).length ≤ 1000) := hI (by omega)
    obtain ⟨z, hze⟩ : ∃ z, z = P.getD k [] := ⟨_, rfl⟩
    rw [← hze] at d0 hsu hpm
    have HBL := hI (fun (W : World) (g : Nat) (hB : Blk W g 9 #[.string (tx z)]) => blk_s1 hB)
    have htz := tx_toL z
    clear hze hkp hln
    have HPA := hI (fun W hW => s_l12Parent A n c L z y W hW HN.out (by omega))
    have hq : chiB L x y z = ((tx (parT L z y)).toList == sx.toList) := by unfold chiB; rw [tx_toL, HX.out]
    rw [hq] at hsu
    generalize tx (parT L z y) = sp at *
    generalize tx z = sz at *
    clear hq htz hpm
    cases hqq : (sp.toList == sx.toList) with
    | true =>
     rw [hqq, if_pos rfl] at hsu
     have HSU := hI hsu
     clear hsu
     go_wp2_with fail
     refine (HPA.out _ (HS.out.ext (hxr.trans xR))).mono ?_
     rintro e w4 ⟨rfl, hx4⟩
     obtain ⟨hc4, hf4⟩ := hx4.rules
     have hs4 := hx4.size
     (try simp at hs4)
     have := (show b < w4.heap.size from by omega)
     have HV1 : Hid (OwS w4 w.heap.size _ _) := hI (HV.out.ext hx4)
     have HSR1 : Hid (SlAt w4 1 encS (some ⟨b, off, none⟩) P) := hI (HSR.out.ext hx4)
     go_wp2_with (at_builtin; refine wpList_append_slA elS len_encS one_encS rfl _ _ rfl rfl (HV1.out.ext (xA xR)) (xs := [z]) rfl (HBL.out _ _ (bN (by omega))) (by have := HLN.out; simp; unfold maxLen; omega) (by have := HLN.out; simp; omega) (by first | omega | (simp; omega)) ?_)
     intro v' w6 hown hgrow _ hat
     have HV2 := hI hown
     have hx6 : Ext w w6 := by
      refine Ext.grown ?_ hgrow (fun q hq => (HV.out.row q hq).1)
      exact xA (xT hxr hx4)
     have HSR2 : Hid (SlAt w6 1 encS (some ⟨b, off, none⟩) P) := hI ((HSR1.out.ext (xA xR)).grown hgrow (fun q hq => by injection hq with hq; subst hq; exact fun e => HNW.out _ rfl e.symm))
     have HNW2 : Hid (∀ q, some (⟨b, off, none⟩ : Addr) = some q → Value.ownBlock v' ≠ some q.block) := hI (fun q hq e => by
      injection hq with hq
      subst hq
      rcases hat with e2 | e2
      ·rw [e2] at e; exact HNW.out _ rfl e
      ·rw [e2] at e
       injection e with e
       (try simp at e)
       omega)
     clear hown hgrow hat
     go_wp2
     go_roundw
     case rel => exact ⟨k + 1, by omega, by go_num, hI (by rw [HSU.out]; exact HV2.out), HNW2, hx6, HSR2⟩
     case measure => simp [intOf]; omega
    | false =>
     rw [hqq, if_neg (by simp)] at hsu
     have HSU := hI hsu
     clear hsu
     go_wp2_with fail
     refine (HPA.out _ (HS.out.ext (hxr.trans xR))).mono ?_
     rintro e w4 ⟨rfl, hx4⟩
     go_wp2
     go_roundw
     case rel => exact ⟨k + 1, by omega, by go_num, hI (by rw [HSU.out]; exact HV.out.ext hx4), HNW, xT hxr hx4, hI (HSR.out.ext hx4)⟩
     case measure => simp [intOf]; omega
   ·obtain rfl : k = np := by omega
    have HF : Hid (filTo P (chiB L x y) k = P.filter (chiB L x y)) := hI (filTo_all P _ (by rw [← HNP.out]; exact Nat.le_refl _))
    go_wp2
    go_ret2
    exact ⟨_, rfl, by rw [← HF.out]; exact HV.out, hxr⟩
 ·have hR : chiR L x y = [] := by unfold chiR; rw [if_neg hz]
  rw [hR]
  generalize lkC L [x] y = cd at *
  have hcd : (cd != 0) = true := by simpa using hz
  generalize tx x = sx at *
  clear h hn hg hx hl hR
  go_enter Tryz.func120, Tryz.ntmps120
  (go_wp2_with fail; refine (HC.out _ HS.out).mono ?_; rintro e w1 ⟨rfl, hx1⟩; obtain ⟨hc1, hf1, hs1⟩ := hx1.all; (try simp at hs1))
  go_wp2
  go_ret2
  exact ⟨_, rfl, Own.nil _ _, hx1⟩
end Go.Proofs.YtlnliajnipniaaaGreatDoor
