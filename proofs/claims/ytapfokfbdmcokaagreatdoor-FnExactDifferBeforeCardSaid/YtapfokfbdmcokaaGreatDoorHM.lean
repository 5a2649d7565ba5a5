/- Contracts of marks in lists of texts, walked over the translation. -/
import Derived.Test.YtapfokfbdmcokaaGreatDoorGT
import Derived.Test.YtapfokfbdmcokaaGreatDoorG0
import Derived.Deep.RegionHeld3
import Derived.Deep.DeepCutAuto
import Derived.RegionTactic
import Derived.BigRegion
import Derived.WalkLawsBesides
import Derived.WalkSpells
import Derived.Lib.MinMax
import Derived.Outline
namespace Go.Proofs.YtapfokfbdmcokaaGreatDoor
open Go.RowKit
attribute [local go_sem] ExtOf.cell ExtOf.frozen

/-- the text of mark k -/
def mkL (k : Nat) : List UInt8 := 109 :: Lib.decDigits k
/-- the digits of m ahead of o -/
def dgO (m : Nat) (o : List UInt8) : List UInt8 := if m = 0 then o else Lib.decDigits m ++ o
theorem dgO_step {m : Nat} (hm : 0 < m) (o : List UInt8) : dgO (m / 10) (UInt8.ofNat (48 + m % 10) :: o) = dgO m o := by
  unfold dgO
  rw [if_neg (show ¬ m = 0 by omega)]
  by_cases h : m < 10
  · rw [if_pos (by omega), Lib.decDigits_one h, Nat.mod_eq_of_lt h]; rfl
  · rw [if_neg (by omega), show Lib.decDigits m = Lib.decDigits (m / 10) ++ [UInt8.ofNat (48 + m % 10)] by rw [Lib.decDigits, dif_neg h], List.append_assoc]; rfl
theorem dgO_len {m : Nat} {o D : List UInt8} (h : dgO m o = D) : o.length ≤ D.length := by
  rw [← h]
  unfold dgO
  split
  · exact Nat.le_refl _
  · simp
set_option maxRecDepth 20000 in
set_option maxHeartbeats 3200000 in
theorem l_markText (k : Nat) (w : World) (h0 : 0 < k) (h1 : k ≤ 1000000000000000) : Calls Tryz.prog 60 #[.int .i64 k] w fun e w' => e = .returned (.string (tx (mkL k))) ∧ Ext w w' := by
  have hl := dec_len (n := k) (by omega)
  have hle : decide ((k : Int) ≤ 0) = false := decide_eq_false (by omega)
  go_enter Tryz.func60, Tryz.ntmps60
  go_wp2
  go_loopw [0, 3] (fun kv ov wr => ∃ (m : Nat) (o : List UInt8), m ≤ k ∧ kv = .int .i64 m ∧ ov = .string (tx o) ∧ Hid (dgO m o = Lib.decDigits k) ∧ Ext w wr) (fun kv _ _ => (intOf kv).toNat)
  case atStart => exact ⟨k, [], Nat.le_refl _, rfl, rfl, Lib.hid (by unfold dgO; rw [if_neg (by omega), List.append_nil]), by (repeat (first | with_reducible exact Ext.refl _ | with_reducible assumption | ((with_reducible apply Src.ext); with_reducible assumption) | with_reducible refine Ext.alloc ?_ _ | with_reducible refine Ext.drew ?_ | with_reducible refine Ext.drewN ?_ _ | ((with_reducible refine Ext.setCell' ?_ ?_ _); solve | omega | simp | (simp; omega)) | (with_reducible refine Ext.trans ?_ (by with_reducible assumption))))⟩
  case round =>
    obtain ⟨m, o, hm, rfl, rfl, HD, hxr⟩ := hrel
    have hol := dgO_len HD.out
    by_cases hm0 : 0 < m
    · have hq : (m : Int).tdiv 10 = ((m / 10 : Nat) : Int) := by rw [Int.tdiv_eq_ediv_of_nonneg (by omega)]; omega
      have hr : (m : Int).tmod 10 = ((m % 10 : Nat) : Int) := by rw [Int.tmod_eq_emod_of_nonneg (by omega)]; omega
      have hz := dig_nat (Nat.mod_lt m (show 0 < 10 by omega))
      have hml := Nat.mod_lt m (show 0 < 10 by omega)
      have HD2 := Lib.hid ((dgO_step hm0 o).trans HD.out)
      generalize UInt8.ofNat (48 + m % 10) = x at hz HD2
      have hlt : m / 10 < m := by omega
      generalize hn1 : m / 10 = a at *
      generalize hn2 : m % 10 = b at *
      have hconv : ∀ (W : World) (g : Nat), W.cell? ⟨g, 0, none⟩ = some (.int .u8 (48 + (b : Int))) → (convert 132 9 (.slice (some ⟨g, 0, none⟩) 1 1)).run Tryz.prog W = .ok (.string (tx [x])) W := fun W g hc => conv_one hz hc
      have hw1 : IntKind.i64.wrap (a : Int) = (a : Int) := IntWalk.i64_in _ (by omega)
      have hw2 : IntKind.i64.wrap (48 + (b : Int)) = 48 + (b : Int) := IntWalk.i64_in _ (by omega)
      have hw3 : IntKind.u8.wrap (48 + (b : Int)) = 48 + (b : Int) := IntWalk.u8_in _ (by omega)
      have hf : ((tx [x]).size + (tx o).size > 9223372036854775807) = False := eq_false (by rw [tx_size, tx_size]; simp; omega)
      have E1 : Hid (tx [x] ++ tx o = tx (x :: o)) := Lib.hid (by rw [tx_add]; rfl)
      generalize htx : tx [x] = s1 at *
      generalize hto : tx o = s2 at *
      have HA : Hid (a < m ∧ m ≤ k) := Lib.hid ⟨hlt, hm⟩
      clear hz hn1 hn2 hol htx hto
      go_wp2
      go_roundw
      case rel => exact ⟨a, x :: o, by omega, by go_num, by rw [← E1.out], HD2, by (repeat (first | with_reducible exact Ext.refl _ | with_reducible assumption | ((with_reducible apply Src.ext); with_reducible assumption) | with_reducible refine Ext.alloc ?_ _ | with_reducible refine Ext.drew ?_ | with_reducible refine Ext.drewN ?_ _ | ((with_reducible refine Ext.setCell' ?_ ?_ _); solve | omega | simp | (simp; omega)) | (with_reducible refine Ext.trans ?_ (by with_reducible assumption))))⟩
      case measure => simp [intOf]; omega
    · obtain rfl : m = 0 := by omega
      have hE : o = Lib.decDigits k := by have := HD.out; unfold dgO at this; rwa [if_pos rfl] at this
      have hf : (1 + (tx o).size > 9223372036854775807) = False := eq_false (by rw [tx_size]; omega)
      have E1 : Hid ((⟨#[109]⟩ : ByteArray) ++ tx o = tx (mkL k)) := Lib.hid (by rw [tx_cons, hE]; rfl)
      generalize tx o = s2 at *
      clear hE hol
      go_wp2
      go_ret
      exact ⟨congrArg (fun s => Ending.returned (.string s)) E1.out, by (repeat (first | with_reducible exact Ext.refl _ | with_reducible assumption | ((with_reducible apply Src.ext); with_reducible assumption) | with_reducible refine Ext.alloc ?_ _ | with_reducible refine Ext.drew ?_ | with_reducible refine Ext.drewN ?_ _ | ((with_reducible refine Ext.setCell' ?_ ?_ _); solve | omega | simp | (simp; omega)) | (with_reducible refine Ext.trans ?_ (by with_reducible assumption))))⟩
theorem mkL_len {k : Nat} (h : k ≤ 1000000000000000) : (mkL k).length ≤ 21 := by
  have := dec_len (n := k) (by omega)
  simp only [mkL, List.length_cons]
  omega
/-- marks in a list of texts -/
def marksS (k n : Nat) : List (List UInt8) := (List.range n).map fun i => mkL (k + i)
theorem marksS_len (k n : Nat) : (marksS k n).length = n := by simp [marksS]
theorem marksS_at (k : Nat) {n i : Nat} (hi : i < n) : (marksS k n).getD i [] = mkL (k + i) := by simp [marksS, List.getD, hi]
def MarkS (k j sz : Nat) (cs : Array Value) : Prop := cs.size = sz ∧ ∀ q, q < j → cs[q]? = some (.string (tx (mkL (k + q))))
theorem MarkS.step {k j sz : Nat} {cs : Array Value} (h : MarkS k j sz cs) (hs : j < sz) : MarkS k (j + 1) sz (cs.setIfInBounds j (.string (tx (mkL (k + j))))) := by
  have hz := h.1
  refine ⟨by simpa using h.1, fun q hq => ?_⟩
  by_cases e : q = j
  · subst e
    rw [Array.getElem?_setIfInBounds_self_of_lt (by omega)]
  · rw [Array.getElem?_setIfInBounds_ne (by omega)]
    exact h.2 q (by omega)
theorem MarkS.done {k n sz : Nat} {cs : Array Value} (h : MarkS k n sz cs) (hs : n ≤ sz) : cs.toList.take (n * 1) = (marksS k n).flatMap encS := by
  have hz := h.1
  rw [Nat.mul_one]
  apply List.ext_getElem?
  intro i
  rcases Nat.lt_or_ge i n with hi | hi
  · rw [List.getElem?_take_of_lt hi, Array.getElem?_toList, h.2 i hi]
    have hg : (marksS k n)[i]? = some (mkL (k + i)) := by simp [marksS, hi]
    have h0 := flatMap_at (enc := encS) (sz := 1) len_encS (marksS k n) i _ 0 _ hg rfl
    rw [Nat.mul_one, Nat.add_zero] at h0
    rw [h0]
  · have hle : (cs.toList.take n).length ≤ i := by simp; omega
    rw [List.getElem?_eq_none hle, List.getElem?_eq_none (by rw [flatMap_len len_encS, marksS_len]; omega)]
set_option maxHeartbeats 3200000 in
theorem l_markS (base : Nat) (v : Value) (xs : List (List UInt8)) (n k : Nat) (w : World) (h : OwS w base v xs) (hne : n = xs.length) (hl : n ≤ 1048576) (hk : 0 < k) (hk' : k ≤ 100000000000000) :
    Calls Tryz.prog 19 #[v, .int .i64 k] w fun e w' => e = .returned (.int .i64 ((k + n : Nat) : Int)) ∧ OwS w' base v (marksS k n) ∧ w.grownBy w' v.ownBlock := by
  subst hne
  rcases Nat.eq_zero_or_pos xs.length with h0 | h0
  · have hps : xs = [] := List.length_eq_zero_iff.1 h0
    subst hps
    have hv : ∃ A c, v = .slice A 0 c := by obtain ⟨A, c, e, _⟩ := h.sl len_encS; exact ⟨A, c, e⟩
    obtain ⟨A, c, rfl⟩ := hv
    have HH := Lib.hid h
    clear h
    go_enter Tryz.func19, Tryz.ntmps19
    go_wp2
    go_loop [1, 5] (fun m i => i = .int .i64 0 ∧ m = .int .i64 k) (fun _ _ => 0)
    case atStart => exact ⟨rfl, rfl⟩
    case round =>
      obtain ⟨rfl, rfl⟩ := hrel
      go_wp2
      go_ret
      exact ⟨by simp, HH.out, World.grownBy.refl _ _⟩
  · obtain ⟨g, cap, cur, rfl, hb, hB, hn, hm, hs, ht⟩ := h.open_ h0
    have HM := Lib.hid hm
    have HC : Hid (MarkS k 0 cur.size cur) := Lib.hid ⟨rfl, fun q hq => absurd hq (by omega)⟩
    rw [Nat.mul_one] at hs
    clear ht h hm
    go_enter Tryz.func19, Tryz.ntmps19
    go_wp2
    go_loopw [1, 5] (fun m i wr => ∃ (j : Nat) (cs : Array Value), j ≤ xs.length ∧ i = .int .i64 j ∧ m = .int .i64 ((k + j : Nat) : Int) ∧ Blk wr g 9 cs ∧ Hid (MarkS k j cur.size cs) ∧ But g w wr) (fun _ i _ => xs.length - (intOf i).toNat)
    case atStart => exact ⟨0, cur, by omega, rfl, by simp, hB, HC, But.refl g w⟩
    case round =>
      obtain ⟨j, cs, hj, rfl, rfl, hBr, HC, HG⟩ := hrel
      have hgr := hBr.lt
      by_cases hlt : j < xs.length
      · have hcz := HC.out.1
        obtain ⟨u0, hu0⟩ : ∃ u, cs[j]? = some u := ⟨_, Array.getElem?_eq_getElem (by omega)⟩
        rw [← hBr.cell] at hu0
        have f0 := hBr.frozen j
        have HS := Lib.hid (HC.out.step (j := j) (by omega))
        have HT := Lib.hid (fun W => l_markText (k + j) W (by omega) (by omega))
        generalize tx (mkL (k + j)) = s at *
        obtain ⟨kj, hkj⟩ : ∃ q, q = k + j := ⟨_, rfl⟩
        rw [← hkj] at HT ⊢
        have HKJ := Lib.hid hkj
        have hkj2 : kj ≤ 200000000000000 := by omega
        clear hcz hkj
        go_wp2_with fail
        refine (HT.out _).mono ?_
        rintro e w1 ⟨rfl, hx1⟩
        obtain ⟨hc1, hf1⟩ := hx1.rules
        have hs1 := hx1.size
        (try simp at hs1)
        have := (show g < w1.heap.size from by omega)
        go_wp2
        go_roundw
        case rel => exact ⟨j + 1, _, by omega, by go_num, by have := HKJ.out; congr 1; omega, Blk.eq (by (repeat (first | with_reducible assumption | ((with_reducible apply Blk.new); solve | simp | rfl) | with_reducible apply Blk.drew | with_reducible apply Blk.drewN | ((with_reducible apply Blk.far'); solve | omega | simp | (simp; omega)) | with_reducible apply Blk.set_ | with_reducible apply Blk.alloc | ((with_reducible apply Blk.ext'); with_reducible assumption) | ((with_reducible apply Blk.but'); (with_reducible assumption); solve | omega | (simp; omega))))) (by rfl), HS, by (repeat (first | with_reducible exact But.refl _ _ | with_reducible assumption | with_reducible refine But.alloc ?_ _ | with_reducible refine But.drew ?_ | with_reducible refine But.drewN ?_ _ | with_reducible refine But.set_ ?_ _ _ | ((with_reducible refine But.new ?_ ?_ _); solve | omega | simp | (simp; omega)) | (with_reducible refine But.trans ?_ (by with_reducible assumption)) | (with_reducible refine But.trans ?_ (But.of (by with_reducible assumption)))))⟩
        case measure => simp [intOf]; omega
      · obtain rfl : j = xs.length := by omega
        go_wp2
        go_ret
        refine ⟨rfl, ⟨?_, .inr ⟨g, cap, cs, ?_, hb, hBr, ?_, HM.out, ?_, ?_⟩⟩, ?_⟩
        · rw [flatMap_len len_encS]
        · rw [marksS_len]
        · rw [marksS_len]; exact hn
        · rw [HC.out.1, hs, Nat.mul_one]
        · rw [marksS_len]; exact HC.out.done (by omega)
        · exact HG.grown
set_option maxHeartbeats 1600000 in
theorem l_heldS (A : Option Addr) (n c k : Nat) (w : World) (h : SlAt w 1 encS A (marksS k n)) (hl : n ≤ 1048576) (hk : 0 < k) (hk' : k ≤ 100000000000000) :
    Calls Tryz.prog 20 #[.slice A n c, .int .i64 k] w fun e w' => e = .returned (.int .i64 ((k + n : Nat) : Int)) ∧ Ext w w' := by
  go_enter Tryz.func20, Tryz.ntmps20
  go_wp2
  go_loopw [1, 5] (fun m i wr => ∃ j : Nat, j ≤ n ∧ i = .int .i64 j ∧ m = .int .i64 ((k + j : Nat) : Int) ∧ Ext w wr) (fun _ i _ => n - (intOf i).toNat)
  case atStart => exact ⟨0, by omega, rfl, by simp, by (repeat (first | with_reducible exact Ext.refl _ | with_reducible assumption | ((with_reducible apply Src.ext); with_reducible assumption) | with_reducible refine Ext.alloc ?_ _ | with_reducible refine Ext.drew ?_ | with_reducible refine Ext.drewN ?_ _ | ((with_reducible refine Ext.setCell' ?_ ?_ _); solve | omega | simp | (simp; omega)) | (with_reducible refine Ext.trans ?_ (by with_reducible assumption))))⟩
  case round =>
    obtain ⟨j, hj, rfl, rfl, hx⟩ := hrel
    by_cases hlt : j < n
    · obtain ⟨b, off, rfl, hb, d0⟩ := (h.ext hx).st (k := j) (by rw [marksS_len]; exact hlt)
      rw [marksS_at k hlt] at d0
      have HT := Lib.hid (fun W => l_markText (k + j) W (by omega) (by omega))
      generalize tx (mkL (k + j)) = s at *
      have hss : (s.toList == s.toList) = true := by simp
      obtain ⟨kj, hkj⟩ : ∃ q, q = k + j := ⟨_, rfl⟩
      rw [← hkj] at HT ⊢
      have HKJ := Lib.hid hkj
      have hkj2 : kj ≤ 200000000000000 := by omega
      clear hkj
      go_wp2
      (refine wp_region_ext (by kernel_rfl) (by kernel_rfl) ?_; (repeat (go_big_quiet_step ((go_at_call 60; exact Calls_ext (HT.out _))))); refine wpQuiet_nil ?_; intro wq hxwq; obtain ⟨hcwq, hfwq⟩ := hxwq.rules; have hswq := hxwq.size; (try simp at hswq))
      go_wp2
      go_roundw
      case rel => exact ⟨j + 1, by omega, by go_num, by have := HKJ.out; congr 1; omega, by (repeat (first | with_reducible exact Ext.refl _ | with_reducible assumption | ((with_reducible apply Src.ext); with_reducible assumption) | with_reducible refine Ext.alloc ?_ _ | with_reducible refine Ext.drew ?_ | with_reducible refine Ext.drewN ?_ _ | ((with_reducible refine Ext.setCell' ?_ ?_ _); solve | omega | simp | (simp; omega)) | (with_reducible refine Ext.trans ?_ (by with_reducible assumption))))⟩
      case measure => simp [intOf]; omega
    · obtain rfl : j = n := by omega
      go_wp2
      go_ret
      exact ⟨rfl, by (repeat (first | with_reducible exact Ext.refl _ | with_reducible assumption | ((with_reducible apply Src.ext); with_reducible assumption) | with_reducible refine Ext.alloc ?_ _ | with_reducible refine Ext.drew ?_ | with_reducible refine Ext.drewN ?_ _ | ((with_reducible refine Ext.setCell' ?_ ?_ _); solve | omega | simp | (simp; omega)) | (with_reducible refine Ext.trans ?_ (by with_reducible assumption))))⟩

end Go.Proofs.YtapfokfbdmcokaaGreatDoor
