/- Contracts of the the normal ring, walked over the translation. -/
import Derived.Test.YtabdffponmmhoaaGreatDoorNA
import Derived.Test.YtabdffponmmhoaaGreatDoorGG
import Derived.Deep.RegionHeld3
import Derived.Deep.DeepCutAuto
import Derived.RegionTactic
import Derived.BigRegion
import Derived.WalkLawsBesides
import Derived.WalkSpells
import Derived.Lib.MinMax
import Derived.Outline
namespace Go.Proofs.YtabdffponmmhoaaGreatDoor
open Go.RowKit
attribute [local go_sem] ExtOf.cell ExtOf.frozen

def atP (ps : List (Int × Int)) (k : Nat) : Int × Int := ps.getD k (0, 0)
/-- whether a point stands ahead of another one -/
def lessP (p q : Int × Int) : Bool := decide (p.1 < q.1) || (p.1 == q.1 && decide (p.2 < q.2))
/-- the index of the least point among the first k -/
def minTo (ps : List (Int × Int)) : Nat → Nat
  | 0 => 0
  | k + 1 => if lessP (atP ps k) (atP ps (minTo ps k)) = true then k else minTo ps k
theorem minTo_le (ps : List (Int × Int)) : ∀ k, minTo ps k = 0 ∨ minTo ps k < k
  | 0 => .inl rfl
  | k + 1 => by
    unfold minTo
    have := minTo_le ps k
    split
    · omega
    · omega
theorem minTo_lt {ps : List (Int × Int)} (h : 0 < ps.length) {k : Nat} (hk : k ≤ ps.length) : minTo ps k < ps.length := by
  have := minTo_le ps k
  omega
def outI (ps : List (Int × Int)) : List (Int × Int) := if areaZ ps < 0 then ps.reverse else ps
def normI (ps : List (Int × Int)) : List (Int × Int) := (outI ps).drop (minTo (outI ps) ps.length) ++ (outI ps).take (minTo (outI ps) ps.length)
theorem outI_len (ps : List (Int × Int)) : (outI ps).length = ps.length := by unfold outI; split <;> simp
theorem i_ConcatP' (b0 : Nat) (A1 A2 : Option Addr) (n1 n2 c1 c2 : Nat) (p q : List (Int × Int)) (w : World) (e1 : n1 = p.length) (e2 : n2 = q.length) (hb : Blk w b0 63 #[.slice A1 n1 c1, .slice A2 n2 c2]) (h1 : SlAt w 2 encP A1 p) (h2 : SlAt w 2 encP A2 q) (hl : p.length + q.length ≤ 1048576) :
    Calls Tryz.prog 202 #[.slice (some ⟨b0, 0, none⟩) 2 2] w fun e w' => ∃ v, e = .returned v ∧ OwP w' w.heap.size v (p ++ q) ∧ Ext w w' := by
  subst e1 e2
  exact i_ConcatP b0 A1 A2 c1 c2 p q w hb h1 h2 hl
theorem less_yes {o : List (Int × Int)} {k : Nat} (h : lessP (atP o k) (atP o (minTo o k)) = true) : minTo o (k + 1) = k := by rw [minTo, if_pos h]
theorem less_no {o : List (Int × Int)} {k : Nat} (h : lessP (atP o k) (atP o (minTo o k)) = false) : minTo o (k + 1) = minTo o k := by rw [minTo, if_neg (by simp [h])]
set_option maxHeartbeats 6400000 in
theorem i_normal (A : Option Addr) (c : Nat) (ps : List (Int × Int)) (w : World) (h : SlAt w 2 encP A ps) (h0 : 0 < ps.length) (hl : ps.length ≤ 1000) (ho : oks ps = true) :
    Calls Tryz.prog 168 #[.slice A ps.length c] w fun e w' => ∃ v, e = .returned v ∧ OwP w' w.heap.size v (normI ps) ∧ Ext w w' := by
  have HO := Lib.hid ho
  clear ho
  obtain ⟨o, hoe⟩ : ∃ o, o = outI ps := ⟨_, rfl⟩
  have hlen : o.length = ps.length := hoe ▸ outI_len ps
  have HL := Lib.hid hlen
  unfold normI
  rw [← hoe]
  by_cases hA : areaZ ps < 0
  · have hor : ps.reverse = o := by rw [hoe]; unfold outI; rw [if_pos hA]
    have HR := Lib.hid hor
    clear hor hoe hlen
    go_enter Tryz.func168, Tryz.ntmps168
    go_wp2_with fail
    refine (i_CloneP _ _ ps _ h (by omega)).mono ?_
    rintro e w1 ⟨v, rfl, hO, hx1⟩
    obtain ⟨g, cap, cur, rfl, hg, hB, hn, hm, hs, ht⟩ := hO.open_ h0
    have hO1 := hO
    obtain ⟨A', c', e', hS, _⟩ := hO.sl len_encP
    injection e' with ea eb ec
    subst ea ec
    clear hs ht hB hO eb hm
    go_wp2_with fail
    refine (i_area _ _ ps _ hS h0 hl HO.out).mono ?_
    rintro e w2 ⟨rfl, hx2⟩
    go_wp2_with fail
    refine (i_ReverseP _ _ ps _ (hO1.ext hx2) h0 (by omega)).mono ?_
    rintro e w3 ⟨rfl, hO3, hgr⟩
    rw [HR.out] at hO3
    have hx3 : Ext w w3 := (hx1.trans hx2).grown hgr (by rintro k hk; simp [Value.ownBlock] at hk; omega)
    clear hgr hx2 hS hO1
    clear hx1
    obtain ⟨_, _, e', hS3, _⟩ := hO3.sl len_encP
    injection e' with ea eb ec
    subst ea ec
    clear eb hO3
    have hol : o.length = ps.length := HL.out
    have hol' := Lib.hid hol
    have h0o : 0 < o.length := by omega
    have hg3 := (hS3 h0o)
    obtain ⟨g', off', eg, hgw, _⟩ := hg3
    injection eg with eg
    injection eg with eg1 eg2
    subst eg1 eg2
    clear hol h0o
    go_wp2
    go_loopw [4, 17] (fun f i wr => ∃ k : Nat, k ≤ ps.length ∧ i = .int .i64 k ∧ f = .int .i64 (minTo o k) ∧ Ext w3 wr) (fun _ i _ => ps.length - (intOf i).toNat)
    case atStart => exact ⟨0, by omega, rfl, rfl, by (repeat (first | with_reducible exact Ext.refl _ | with_reducible assumption | ((with_reducible apply Src.ext); with_reducible assumption) | with_reducible refine Ext.alloc ?_ _ | with_reducible refine Ext.drew ?_ | with_reducible refine Ext.drewN ?_ _ | ((with_reducible refine Ext.setCell' ?_ ?_ _); solve | omega | simp | (simp; omega)) | (with_reducible refine Ext.trans ?_ (by with_reducible assumption))))⟩
    case round =>
      obtain ⟨k, hk, rfl, rfl, hxr⟩ := hrel
      obtain ⟨m, hme⟩ : ∃ m, m = minTo o k := ⟨_, rfl⟩
      have hmn : m < ps.length := by rw [hme, ← hol'.out]; exact minTo_lt (by rw [hol'.out]; exact h0) (by rw [hol'.out]; exact hk)
      rw [← hme]
      have HM := Lib.hid hme
      clear hme
      have hgr : g < wr.heap.size := Nat.lt_of_lt_of_le hgw hxr.size
      obtain ⟨d2, d3⟩ := (hS3.ext hxr).pt' (k := m) (by rw [hol'.out]; exact hmn)
      simp only [Nat.zero_add] at d2 d3
      by_cases hlt : k < ps.length
      · obtain ⟨d0, d1⟩ := (hS3.ext hxr).pt' (k := k) (by rw [hol'.out]; exact hlt)
        simp only [Nat.zero_add] at d0 d1
        go_wp2
        all_goals
          go_roundw
          case rel =>
            refine ⟨k + 1, by omega, by go_num, ?_, by (repeat (first | with_reducible exact Ext.refl _ | with_reducible assumption | ((with_reducible apply Src.ext); with_reducible assumption) | with_reducible refine Ext.alloc ?_ _ | with_reducible refine Ext.drew ?_ | with_reducible refine Ext.drewN ?_ _ | ((with_reducible refine Ext.setCell' ?_ ?_ _); solve | omega | simp | (simp; omega)) | (with_reducible refine Ext.trans ?_ (by with_reducible assumption))))⟩
            rcases hb : lessP (atP o k) (atP o m) with _ | _
            · have e := less_no (o := o) (k := k) (by rw [← HM.out]; exact hb)
              rw [e, ← HM.out]
              all_goals (exfalso; simp [lessP, atP] at hb; omega)
            · have e := less_yes (o := o) (k := k) (by rw [← HM.out]; exact hb)
              rw [e]
              all_goals (exfalso; simp [lessP, atP] at hb; omega)
          case measure => simp [intOf]; omega
      · obtain rfl : k = ps.length := by omega
        have hmc : m < cap := by omega
        go_wp2
        (refine wp_region_ext_tail 6 (by kernel_rfl) (by kernel_rfl) ?_; simp only [List.take_succ_cons, List.take_zero, List.drop_succ_cons, List.drop_zero]; (repeat (go_big_quiet_step (fail))); refine wpQuiet_nil ?_; intro wq hxwq; obtain ⟨hcwq, hfwq⟩ := hxwq.rules; have hswq := hxwq.size; (try simp at hswq))
        go_wp2_with fail
        refine (i_ConcatP' _ _ _ (ps.length - m) m _ _ (o.drop m) (o.take m) _ (by rw [List.length_drop, hol'.out]) (by rw [List.length_take, hol'.out]; omega) (Blk.eq (by (repeat (first | with_reducible assumption | ((with_reducible apply Blk.new); solve | simp | rfl) | with_reducible apply Blk.drew | with_reducible apply Blk.drewN | ((with_reducible apply Blk.far'); solve | omega | simp | (simp; omega)) | with_reducible apply Blk.set_ | with_reducible apply Blk.alloc | ((with_reducible apply Blk.ext'); with_reducible assumption) | ((with_reducible apply Blk.but'); (with_reducible assumption); solve | omega | (simp; omega))))) (by rfl)) ?s1 ?s2 (by rw [List.length_drop, List.length_take, hol'.out]; omega)).mono ?_
        case s1 =>
          refine SlAt.ext (w := wr) ?_ (by (repeat (first | with_reducible exact Ext.refl _ | with_reducible assumption | ((with_reducible apply Src.ext); with_reducible assumption) | with_reducible refine Ext.alloc ?_ _ | with_reducible refine Ext.drew ?_ | with_reducible refine Ext.drewN ?_ _ | ((with_reducible refine Ext.setCell' ?_ ?_ _); solve | omega | simp | (simp; omega)) | (with_reducible refine Ext.trans ?_ (by with_reducible assumption)))))
          obtain ⟨b, off, e, _, hs⟩ := SlAt.drop (hS3.ext hxr) m (by rw [hol'.out]; exact hmn)
          injection e with e
          injection e with e1 e2
          subst e1 e2
          simp only [Nat.zero_add] at hs
          exact hs
        case s2 => exact SlAt.ext (w := wr) ((hS3.ext hxr).take m) (by (repeat (first | with_reducible exact Ext.refl _ | with_reducible assumption | ((with_reducible apply Src.ext); with_reducible assumption) | with_reducible refine Ext.alloc ?_ _ | with_reducible refine Ext.drew ?_ | with_reducible refine Ext.drewN ?_ _ | ((with_reducible refine Ext.setCell' ?_ ?_ _); solve | omega | simp | (simp; omega)) | (with_reducible refine Ext.trans ?_ (by with_reducible assumption)))))
        rintro e w4 ⟨v4, rfl, hO4, hx4⟩
        have hsz4 := hx4.size
        go_wp2
        go_ret
        have hxf : Ext w w4 := by have hxq : Ext w wr := hx3.trans hxr; (repeat (first | with_reducible exact Ext.refl _ | with_reducible assumption | ((with_reducible apply Src.ext); with_reducible assumption) | with_reducible refine Ext.alloc ?_ _ | with_reducible refine Ext.drew ?_ | with_reducible refine Ext.drewN ?_ _ | ((with_reducible refine Ext.setCell' ?_ ?_ _); solve | omega | simp | (simp; omega)) | (with_reducible refine Ext.trans ?_ (by with_reducible assumption))))
        rw [HM.out] at hO4
        exact ⟨v4, rfl, hO4.less (by have := hx3.size; have := hxr.size; have := hxwq.size; simp; omega), hxf⟩
  · have hor : ps = o := by rw [hoe]; unfold outI; rw [if_neg hA]
    have HR := Lib.hid hor
    clear hor hoe hlen
    go_enter Tryz.func168, Tryz.ntmps168
    go_wp2_with fail
    refine (i_CloneP _ _ ps _ h (by omega)).mono ?_
    rintro e w1 ⟨v, rfl, hO, hx1⟩
    obtain ⟨g, cap, cur, rfl, hg, hB, hn, hm, hs, ht⟩ := hO.open_ h0
    have hO1 := hO
    obtain ⟨A', c', e', hS, _⟩ := hO.sl len_encP
    injection e' with ea eb ec
    subst ea ec
    clear hs ht hB hO eb hm
    go_wp2_with fail
    refine (i_area _ _ ps _ hS h0 hl HO.out).mono ?_
    rintro e w3 ⟨rfl, hx2⟩
    have hO3 : OwP w3 w.heap.size (.slice (some ⟨g, 0, none⟩) ps.length cap) o := by have := hO1.ext hx2; rw [HR.out] at this ⊢; exact this
    have hx3 : Ext w w3 := hx1.trans hx2
    clear hx2 hS hO1
    clear hx1
    obtain ⟨_, _, e', hS3, _⟩ := hO3.sl len_encP
    injection e' with ea eb ec
    subst ea ec
    clear eb hO3
    have hol : o.length = ps.length := HL.out
    have hol' := Lib.hid hol
    have h0o : 0 < o.length := by omega
    have hg3 := (hS3 h0o)
    obtain ⟨g', off', eg, hgw, _⟩ := hg3
    injection eg with eg
    injection eg with eg1 eg2
    subst eg1 eg2
    clear hol h0o
    go_wp2
    go_loopw [4, 17] (fun f i wr => ∃ k : Nat, k ≤ ps.length ∧ i = .int .i64 k ∧ f = .int .i64 (minTo o k) ∧ Ext w3 wr) (fun _ i _ => ps.length - (intOf i).toNat)
    case atStart => exact ⟨0, by omega, rfl, rfl, by (repeat (first | with_reducible exact Ext.refl _ | with_reducible assumption | ((with_reducible apply Src.ext); with_reducible assumption) | with_reducible refine Ext.alloc ?_ _ | with_reducible refine Ext.drew ?_ | with_reducible refine Ext.drewN ?_ _ | ((with_reducible refine Ext.setCell' ?_ ?_ _); solve | omega | simp | (simp; omega)) | (with_reducible refine Ext.trans ?_ (by with_reducible assumption))))⟩
    case round =>
      obtain ⟨k, hk, rfl, rfl, hxr⟩ := hrel
      obtain ⟨m, hme⟩ : ∃ m, m = minTo o k := ⟨_, rfl⟩
      have hmn : m < ps.length := by rw [hme, ← hol'.out]; exact minTo_lt (by rw [hol'.out]; exact h0) (by rw [hol'.out]; exact hk)
      rw [← hme]
      have HM := Lib.hid hme
      clear hme
      have hgr : g < wr.heap.size := Nat.lt_of_lt_of_le hgw hxr.size
      obtain ⟨d2, d3⟩ := (hS3.ext hxr).pt' (k := m) (by rw [hol'.out]; exact hmn)
      simp only [Nat.zero_add] at d2 d3
      by_cases hlt : k < ps.length
      · obtain ⟨d0, d1⟩ := (hS3.ext hxr).pt' (k := k) (by rw [hol'.out]; exact hlt)
        simp only [Nat.zero_add] at d0 d1
        go_wp2
        all_goals
          go_roundw
          case rel =>
            refine ⟨k + 1, by omega, by go_num, ?_, by (repeat (first | with_reducible exact Ext.refl _ | with_reducible assumption | ((with_reducible apply Src.ext); with_reducible assumption) | with_reducible refine Ext.alloc ?_ _ | with_reducible refine Ext.drew ?_ | with_reducible refine Ext.drewN ?_ _ | ((with_reducible refine Ext.setCell' ?_ ?_ _); solve | omega | simp | (simp; omega)) | (with_reducible refine Ext.trans ?_ (by with_reducible assumption))))⟩
            rcases hb : lessP (atP o k) (atP o m) with _ | _
            · have e := less_no (o := o) (k := k) (by rw [← HM.out]; exact hb)
              rw [e, ← HM.out]
              all_goals (exfalso; simp [lessP, atP] at hb; omega)
            · have e := less_yes (o := o) (k := k) (by rw [← HM.out]; exact hb)
              rw [e]
              all_goals (exfalso; simp [lessP, atP] at hb; omega)
          case measure => simp [intOf]; omega
      · obtain rfl : k = ps.length := by omega
        have hmc : m < cap := by omega
        go_wp2
        (refine wp_region_ext_tail 6 (by kernel_rfl) (by kernel_rfl) ?_; simp only [List.take_succ_cons, List.take_zero, List.drop_succ_cons, List.drop_zero]; (repeat (go_big_quiet_step (fail))); refine wpQuiet_nil ?_; intro wq hxwq; obtain ⟨hcwq, hfwq⟩ := hxwq.rules; have hswq := hxwq.size; (try simp at hswq))
        go_wp2_with fail
        refine (i_ConcatP' _ _ _ (ps.length - m) m _ _ (o.drop m) (o.take m) _ (by rw [List.length_drop, hol'.out]) (by rw [List.length_take, hol'.out]; omega) (Blk.eq (by (repeat (first | with_reducible assumption | ((with_reducible apply Blk.new); solve | simp | rfl) | with_reducible apply Blk.drew | with_reducible apply Blk.drewN | ((with_reducible apply Blk.far'); solve | omega | simp | (simp; omega)) | with_reducible apply Blk.set_ | with_reducible apply Blk.alloc | ((with_reducible apply Blk.ext'); with_reducible assumption) | ((with_reducible apply Blk.but'); (with_reducible assumption); solve | omega | (simp; omega))))) (by rfl)) ?s1 ?s2 (by rw [List.length_drop, List.length_take, hol'.out]; omega)).mono ?_
        case s1 =>
          refine SlAt.ext (w := wr) ?_ (by (repeat (first | with_reducible exact Ext.refl _ | with_reducible assumption | ((with_reducible apply Src.ext); with_reducible assumption) | with_reducible refine Ext.alloc ?_ _ | with_reducible refine Ext.drew ?_ | with_reducible refine Ext.drewN ?_ _ | ((with_reducible refine Ext.setCell' ?_ ?_ _); solve | omega | simp | (simp; omega)) | (with_reducible refine Ext.trans ?_ (by with_reducible assumption)))))
          obtain ⟨b, off, e, _, hs⟩ := SlAt.drop (hS3.ext hxr) m (by rw [hol'.out]; exact hmn)
          injection e with e
          injection e with e1 e2
          subst e1 e2
          simp only [Nat.zero_add] at hs
          exact hs
        case s2 => exact SlAt.ext (w := wr) ((hS3.ext hxr).take m) (by (repeat (first | with_reducible exact Ext.refl _ | with_reducible assumption | ((with_reducible apply Src.ext); with_reducible assumption) | with_reducible refine Ext.alloc ?_ _ | with_reducible refine Ext.drew ?_ | with_reducible refine Ext.drewN ?_ _ | ((with_reducible refine Ext.setCell' ?_ ?_ _); solve | omega | simp | (simp; omega)) | (with_reducible refine Ext.trans ?_ (by with_reducible assumption)))))
        rintro e w4 ⟨v4, rfl, hO4, hx4⟩
        have hsz4 := hx4.size
        go_wp2
        go_ret
        have hxf : Ext w w4 := by have hxq : Ext w wr := hx3.trans hxr; (repeat (first | with_reducible exact Ext.refl _ | with_reducible assumption | ((with_reducible apply Src.ext); with_reducible assumption) | with_reducible refine Ext.alloc ?_ _ | with_reducible refine Ext.drew ?_ | with_reducible refine Ext.drewN ?_ _ | ((with_reducible refine Ext.setCell' ?_ ?_ _); solve | omega | simp | (simp; omega)) | (with_reducible refine Ext.trans ?_ (by with_reducible assumption))))
        rw [HM.out] at hO4
        exact ⟨v4, rfl, hO4.less (by have := hx3.size; have := hxr.size; have := hxwq.size; simp; omega), hxf⟩

/-- the normal ring, as the reference reckons it -/
def nsAt (ps : List (Int × Int)) (b i : Nat) : Int × Int := if 0 < areaZ ps then (ptx ps ((b : Int) + i), ptz ps ((b : Int) + i)) else (ptx ps ((b : Int) + ps.length - i), ptz ps ((b : Int) + ps.length - i))
def nsTo (ps : List (Int × Int)) (k : Nat) : List (Int × Int) := (List.range k).map (nsAt ps (minTo ps ps.length))
def normS (ps : List (Int × Int)) : List (Int × Int) := nsTo ps ps.length
theorem nsTo_succ (ps : List (Int × Int)) (k : Nat) : nsTo ps (k + 1) = nsTo ps k ++ [nsAt ps (minTo ps ps.length) k] := by unfold nsTo; rw [List.range_succ, List.map_append]; rfl
theorem nsTo_len (ps : List (Int × Int)) (k : Nat) : (nsTo ps k).length = k := by simp [nsTo]
theorem blk_sl1 {w : World} {g : Nat} {t : TypeId} {p : Int × Int} {x z : Int} (h : Blk w g t #[.int .i64 x, .int .i64 z]) (e : p = (x, z)) : SlAt w 2 encP (some ⟨g, 0, none⟩) [p] := by
  subst e; exact h.sl rfl len_encP
set_option maxHeartbeats 6400000 in
theorem s_l16Normal (A : Option Addr) (c : Nat) (ps : List (Int × Int)) (w : World) (h : SlAt w 2 encP A ps) (h0 : 0 < ps.length) (hl : ps.length ≤ 1000) (ho : oks ps = true) :
    Calls Tryz.prog 165 #[.slice A ps.length c] w fun e w' => ∃ v, e = .returned v ∧ OwP w' w.heap.size v (normS ps) ∧ Ext w w' := by
  have HO := Lib.hid ho
  clear ho
  obtain ⟨g, off, rfl, hgw⟩ := h.open_ h0
  go_enter Tryz.func165, Tryz.ntmps165
  go_wp2
  go_loopw [4, 5] (fun f i wr => ∃ k : Nat, k ≤ ps.length ∧ i = .int .i64 k ∧ f = .int .i64 (minTo ps k) ∧ Ext w wr) (fun _ i _ => ps.length - (intOf i).toNat)
  case atStart => exact ⟨0, by omega, rfl, rfl, by (repeat (first | with_reducible exact Ext.refl _ | with_reducible assumption | ((with_reducible apply Src.ext); with_reducible assumption) | with_reducible refine Ext.alloc ?_ _ | with_reducible refine Ext.drew ?_ | with_reducible refine Ext.drewN ?_ _ | ((with_reducible refine Ext.setCell' ?_ ?_ _); solve | omega | simp | (simp; omega)) | (with_reducible refine Ext.trans ?_ (by with_reducible assumption))))⟩
  case round =>
    obtain ⟨k, hk, rfl, rfl, hxr⟩ := hrel
    obtain ⟨m, hme⟩ : ∃ m, m = minTo ps k := ⟨_, rfl⟩
    have hmn : m < ps.length := by rw [hme]; exact minTo_lt h0 hk
    rw [← hme]
    have HM := Lib.hid hme
    clear hme
    have hgr : g < wr.heap.size := Nat.lt_of_lt_of_le hgw hxr.size
    obtain ⟨d2, d3⟩ := (h.ext hxr).pt' (k := m) hmn
    by_cases hlt : k < ps.length
    · obtain ⟨d0, d1⟩ := (h.ext hxr).pt' (k := k) hlt
      rcases hb : lessP (atP ps k) (atP ps m) with _ | _
      · have e := less_no (o := ps) (k := k) (by rw [← HM.out]; exact hb)
        rw [← HM.out] at e
        have HE := Lib.hid e
        clear e
        have hc : ((ps.getD m (0, 0)).1 < (ps.getD k (0, 0)).1) ∨ ((ps.getD k (0, 0)).1 = (ps.getD m (0, 0)).1 ∧ (ps.getD m (0, 0)).2 ≤ (ps.getD k (0, 0)).2) := by
          unfold lessP atP at hb
          simp only [Bool.or_eq_false_iff, Bool.and_eq_false_iff, decide_eq_false_iff_not, beq_eq_false_iff_ne] at hb
          omega
        clear hb
        generalize (ps.getD k (0, 0)).1 = xk at d0 hc
        generalize (ps.getD k (0, 0)).2 = zk at d1 hc
        generalize (ps.getD m (0, 0)).1 = xm at d2 hc
        generalize (ps.getD m (0, 0)).2 = zm at d3 hc
        rcases hc with hc | ⟨hc, hc'⟩
        · have n1 : decide (xk < xm) = false := by rw [decide_eq_false_iff_not]; omega
          have n2 : (xk == xm) = false := by rw [beq_eq_false_iff_ne]; omega
          clear hc
          go_wp2
          (refine wp_region_ext (by kernel_rfl) (by kernel_rfl) ?_; (repeat (go_big_quiet_step (fail))); refine wpQuiet_nil ?_; intro wq hxwq; obtain ⟨hcwq, hfwq⟩ := hxwq.rules; have hswq := hxwq.size; (try simp at hswq))
          go_wp2
          go_roundw
          case rel => exact ⟨k + 1, by omega, by go_num, by rw [HE.out], by (repeat (first | with_reducible exact Ext.refl _ | with_reducible assumption | ((with_reducible apply Src.ext); with_reducible assumption) | with_reducible refine Ext.alloc ?_ _ | with_reducible refine Ext.drew ?_ | with_reducible refine Ext.drewN ?_ _ | ((with_reducible refine Ext.setCell' ?_ ?_ _); solve | omega | simp | (simp; omega)) | (with_reducible refine Ext.trans ?_ (by with_reducible assumption))))⟩
          case measure => simp [intOf]; omega
        · have n1 : decide (xk < xm) = false := by rw [decide_eq_false_iff_not]; omega
          have n2 : (xk == xm) = true := by rw [beq_iff_eq]; exact hc
          have n3 : decide (zk < zm) = false := by rw [decide_eq_false_iff_not]; omega
          clear hc hc'
          go_wp2
          (refine wp_region_ext (by kernel_rfl) (by kernel_rfl) ?_; (repeat (go_big_quiet_step (fail))); refine wpQuiet_nil ?_; intro wq hxwq; obtain ⟨hcwq, hfwq⟩ := hxwq.rules; have hswq := hxwq.size; (try simp at hswq))
          go_wp2
          go_roundw
          case rel => exact ⟨k + 1, by omega, by go_num, by rw [HE.out], by (repeat (first | with_reducible exact Ext.refl _ | with_reducible assumption | ((with_reducible apply Src.ext); with_reducible assumption) | with_reducible refine Ext.alloc ?_ _ | with_reducible refine Ext.drew ?_ | with_reducible refine Ext.drewN ?_ _ | ((with_reducible refine Ext.setCell' ?_ ?_ _); solve | omega | simp | (simp; omega)) | (with_reducible refine Ext.trans ?_ (by with_reducible assumption))))⟩
          case measure => simp [intOf]; omega
      · have e := less_yes (o := ps) (k := k) (by rw [← HM.out]; exact hb)
        have HE := Lib.hid e
        clear e
        have hc : ((ps.getD k (0, 0)).1 < (ps.getD m (0, 0)).1) ∨ ((ps.getD k (0, 0)).1 = (ps.getD m (0, 0)).1 ∧ (ps.getD k (0, 0)).2 < (ps.getD m (0, 0)).2) := by
          unfold lessP atP at hb
          simp only [Bool.or_eq_true, Bool.and_eq_true, decide_eq_true_eq, beq_iff_eq] at hb
          omega
        clear hb
        generalize (ps.getD k (0, 0)).1 = xk at d0 hc
        generalize (ps.getD k (0, 0)).2 = zk at d1 hc
        generalize (ps.getD m (0, 0)).1 = xm at d2 hc
        generalize (ps.getD m (0, 0)).2 = zm at d3 hc
        rcases hc with hc | ⟨hc, hc'⟩
        · go_wp2
          (refine wp_region_ext (by kernel_rfl) (by kernel_rfl) ?_; (repeat (go_big_quiet_step (fail))); refine wpQuiet_nil ?_; intro wq hxwq; obtain ⟨hcwq, hfwq⟩ := hxwq.rules; have hswq := hxwq.size; (try simp at hswq))
          go_wp2
          go_roundw
          case rel => exact ⟨k + 1, by omega, by go_num, by rw [HE.out], by (repeat (first | with_reducible exact Ext.refl _ | with_reducible assumption | ((with_reducible apply Src.ext); with_reducible assumption) | with_reducible refine Ext.alloc ?_ _ | with_reducible refine Ext.drew ?_ | with_reducible refine Ext.drewN ?_ _ | ((with_reducible refine Ext.setCell' ?_ ?_ _); solve | omega | simp | (simp; omega)) | (with_reducible refine Ext.trans ?_ (by with_reducible assumption))))⟩
          case measure => simp [intOf]; omega
        · have n1 : decide (xk < xm) = false := by rw [decide_eq_false_iff_not]; omega
          have n2 : (xk == xm) = true := by rw [beq_iff_eq]; exact hc
          clear hc
          go_wp2
          (refine wp_region_ext (by kernel_rfl) (by kernel_rfl) ?_; (repeat (go_big_quiet_step (fail))); refine wpQuiet_nil ?_; intro wq hxwq; obtain ⟨hcwq, hfwq⟩ := hxwq.rules; have hswq := hxwq.size; (try simp at hswq))
          go_wp2
          go_roundw
          case rel => exact ⟨k + 1, by omega, by go_num, by rw [HE.out], by (repeat (first | with_reducible exact Ext.refl _ | with_reducible assumption | ((with_reducible apply Src.ext); with_reducible assumption) | with_reducible refine Ext.alloc ?_ _ | with_reducible refine Ext.drew ?_ | with_reducible refine Ext.drewN ?_ _ | ((with_reducible refine Ext.setCell' ?_ ?_ _); solve | omega | simp | (simp; omega)) | (with_reducible refine Ext.trans ?_ (by with_reducible assumption))))⟩
          case measure => simp [intOf]; omega
    · obtain rfl : k = ps.length := by omega
      have hwr := hxr.size
      have HO0 := Lib.hid (World.ownsRow_made (base := w.heap.size) (e := 35) (size := 2) wr #[] 0 hwr (Nat.zero_le _) rfl : OwP _ w.heap.size _ [])
      clear d2 d3
      go_wp2
      go_loopw [6, 7] (fun v i wr2 => ∃ k : Nat, k ≤ ps.length ∧ i = .int .i64 k ∧ Hid (OwP wr2 w.heap.size v (nsTo ps k)) ∧ Ext w wr2) (fun _ i _ => ps.length - (intOf i).toNat)
      case atStart => exact ⟨0, by omega, rfl, HO0, by (repeat (first | with_reducible exact Ext.refl _ | with_reducible assumption | ((with_reducible apply Src.ext); with_reducible assumption) | with_reducible refine Ext.alloc ?_ _ | with_reducible refine Ext.drew ?_ | with_reducible refine Ext.drewN ?_ _ | ((with_reducible refine Ext.setCell' ?_ ?_ _); solve | omega | simp | (simp; omega)) | (with_reducible refine Ext.trans ?_ (by with_reducible assumption))))⟩
      case round =>
        obtain ⟨k, hk, rfl, HV, hx2⟩ := hrel
        have hw2 := hx2.size
        by_cases hlt : k < ps.length
        · have hnl := nsTo_len ps k
          have HN := Lib.hid hnl
          have HS := Lib.hid (nsTo_succ ps k)
          clear hnl
          by_cases hA : 0 < areaZ ps
          · have hat : nsAt ps (minTo ps ps.length) k = (ptx ps ((m : Int) + k), ptz ps ((m : Int) + k)) := by unfold nsAt; rw [if_pos hA, HM.out]
            have HA := Lib.hid hat
            clear hat
            (go_wp2_with fail; refine (s_area _ _ ps _ (h.ext (by (repeat (first | with_reducible exact Ext.refl _ | with_reducible assumption | ((with_reducible apply Src.ext); with_reducible assumption) | with_reducible refine Ext.alloc ?_ _ | with_reducible refine Ext.drew ?_ | with_reducible refine Ext.drewN ?_ _ | ((with_reducible refine Ext.setCell' ?_ ?_ _); solve | omega | simp | (simp; omega)) | (with_reducible refine Ext.trans ?_ (by with_reducible assumption)))))) h0 (by omega) HO.out).mono ?_; rintro e w3 ⟨rfl, hx3⟩; obtain ⟨hc3, hf3⟩ := hx3.rules; have hs3 := hx3.size; (try simp at hs3))
            (go_wp2_with fail; refine (s_corner _ _ ps _ _ ((h.ext (by (repeat (first | with_reducible exact Ext.refl _ | with_reducible assumption | ((with_reducible apply Src.ext); with_reducible assumption) | with_reducible refine Ext.alloc ?_ _ | with_reducible refine Ext.drew ?_ | with_reducible refine Ext.drewN ?_ _ | ((with_reducible refine Ext.setCell' ?_ ?_ _); solve | omega | simp | (simp; omega)) | (with_reducible refine Ext.trans ?_ (by with_reducible assumption)))))).ext (by (repeat (first | with_reducible exact Ext.refl _ | with_reducible assumption | ((with_reducible apply Src.ext); with_reducible assumption) | with_reducible refine Ext.alloc ?_ _ | with_reducible refine Ext.drew ?_ | with_reducible refine Ext.drewN ?_ _ | ((with_reducible refine Ext.setCell' ?_ ?_ _); solve | omega | simp | (simp; omega)) | (with_reducible refine Ext.trans ?_ (by with_reducible assumption)))))) h0 (by omega) (by omega) (by omega)).mono ?_; rintro e w4 ⟨rfl, hx4⟩; obtain ⟨hc4, hf4⟩ := hx4.rules; have hs4 := hx4.size; (try simp at hs4))
            go_wp2_with (at_builtin; refine wpList_append_sl elP len_encP one_encP rfl _ _ rfl rfl (((HV.out.ext hx3).ext hx4).alloc _) (xs := [nsAt ps (minTo ps ps.length) k]) rfl (blk_sl1 (by (repeat (first | with_reducible assumption | ((with_reducible apply Blk.new); solve | simp | rfl) | with_reducible apply Blk.drew | with_reducible apply Blk.drewN | ((with_reducible apply Blk.far'); solve | omega | simp | (simp; omega)) | with_reducible apply Blk.set_ | with_reducible apply Blk.alloc | ((with_reducible apply Blk.ext'); with_reducible assumption) | ((with_reducible apply Blk.but'); (with_reducible assumption); solve | omega | (simp; omega))))) HA.out) (by rw [HN.out]; simp; unfold maxLen; omega) (by rw [HN.out]; simp; omega) (by simp; omega) ?_)
            intro v' w5 hown hgrow _
            rw [← HS.out] at hown
            have HV2 := Lib.hid hown
            have hx5 : Ext w w5 := (((hx2.trans hx3).trans hx4).alloc _).grown hgrow (fun q hq => (HV.out.row q hq).1)
            clear hown hgrow
            go_wp2
            go_roundw
            case rel => exact ⟨k + 1, by omega, by go_num, HV2, hx5⟩
            case measure => simp [intOf]; omega
          · have hat : nsAt ps (minTo ps ps.length) k = (ptx ps ((m : Int) + ps.length - k), ptz ps ((m : Int) + ps.length - k)) := by unfold nsAt; rw [if_neg hA, HM.out]
            have HA := Lib.hid hat
            clear hat
            (go_wp2_with fail; refine (s_area _ _ ps _ (h.ext (by (repeat (first | with_reducible exact Ext.refl _ | with_reducible assumption | ((with_reducible apply Src.ext); with_reducible assumption) | with_reducible refine Ext.alloc ?_ _ | with_reducible refine Ext.drew ?_ | with_reducible refine Ext.drewN ?_ _ | ((with_reducible refine Ext.setCell' ?_ ?_ _); solve | omega | simp | (simp; omega)) | (with_reducible refine Ext.trans ?_ (by with_reducible assumption)))))) h0 (by omega) HO.out).mono ?_; rintro e w3 ⟨rfl, hx3⟩; obtain ⟨hc3, hf3⟩ := hx3.rules; have hs3 := hx3.size; (try simp at hs3))
            (go_wp2_with fail; refine (s_corner _ _ ps _ _ ((h.ext (by (repeat (first | with_reducible exact Ext.refl _ | with_reducible assumption | ((with_reducible apply Src.ext); with_reducible assumption) | with_reducible refine Ext.alloc ?_ _ | with_reducible refine Ext.drew ?_ | with_reducible refine Ext.drewN ?_ _ | ((with_reducible refine Ext.setCell' ?_ ?_ _); solve | omega | simp | (simp; omega)) | (with_reducible refine Ext.trans ?_ (by with_reducible assumption)))))).ext (by (repeat (first | with_reducible exact Ext.refl _ | with_reducible assumption | ((with_reducible apply Src.ext); with_reducible assumption) | with_reducible refine Ext.alloc ?_ _ | with_reducible refine Ext.drew ?_ | with_reducible refine Ext.drewN ?_ _ | ((with_reducible refine Ext.setCell' ?_ ?_ _); solve | omega | simp | (simp; omega)) | (with_reducible refine Ext.trans ?_ (by with_reducible assumption)))))) h0 (by omega) (by omega) (by omega)).mono ?_; rintro e w4 ⟨rfl, hx4⟩; obtain ⟨hc4, hf4⟩ := hx4.rules; have hs4 := hx4.size; (try simp at hs4))
            go_wp2_with (at_builtin; refine wpList_append_sl elP len_encP one_encP rfl _ _ rfl rfl (((HV.out.ext hx3).ext hx4).alloc _) (xs := [nsAt ps (minTo ps ps.length) k]) rfl (blk_sl1 (by (repeat (first | with_reducible assumption | ((with_reducible apply Blk.new); solve | simp | rfl) | with_reducible apply Blk.drew | with_reducible apply Blk.drewN | ((with_reducible apply Blk.far'); solve | omega | simp | (simp; omega)) | with_reducible apply Blk.set_ | with_reducible apply Blk.alloc | ((with_reducible apply Blk.ext'); with_reducible assumption) | ((with_reducible apply Blk.but'); (with_reducible assumption); solve | omega | (simp; omega))))) HA.out) (by rw [HN.out]; simp; unfold maxLen; omega) (by rw [HN.out]; simp; omega) (by simp; omega) ?_)
            intro v' w5 hown hgrow _
            rw [← HS.out] at hown
            have HV2 := Lib.hid hown
            have hx5 : Ext w w5 := (((hx2.trans hx3).trans hx4).alloc _).grown hgrow (fun q hq => (HV.out.row q hq).1)
            clear hown hgrow
            go_wp2
            go_roundw
            case rel => exact ⟨k + 1, by omega, by go_num, HV2, hx5⟩
            case measure => simp [intOf]; omega
        · go_wp2
          go_ret
          obtain rfl : k = ps.length := by omega
          exact ⟨_, rfl, HV.out, hx2⟩

end Go.Proofs.YtabdffponmmhoaaGreatDoor
