/- The law of texts of rings, walked over the translation. -/
import Derived.Test.YtdbheipjbjcikaaGreatDoorTV
import Derived.Test.YtdbheipjbjcikaaGreatDoorTL
import Derived.Test.YtdbheipjbjcikaaGreatDoorTO
import Derived.Deep.RegionHeld3
import Derived.Deep.DeepCutAuto
import Derived.RegionTactic
import Derived.BigRegion
import Derived.WalkLawsBesides
import Derived.WalkSpells
import Derived.Lib.MinMax
import Derived.Outline
namespace Go.Proofs.YtdbheipjbjcikaaGreatDoor
open Go.RowKit
attribute [local go_sem] ExtOf.cell ExtOf.frozen

open Go.PlainAid
theorem ptT_free32 (x z : Int) : (32 : UInt8) ∉ ptT x z := by
  unfold ptT
  intro h
  rcases List.mem_append.1 h with h | h
  · exact itoa_free (by decide) (by decide) h
  · rcases List.mem_cons.1 h with h | h
    · exact absurd h (by decide)
    · exact itoa_free (by decide) (by decide) h
theorem sp_rgT {ps : List (Int × Int)} (h0 : 0 < ps.length) : sp 32 (rgT ps) = ptL ps ps.length := by
  refine sp_jn (fun e => ?_) fun x hx => ?_
  · have := ptL_len ps ps.length (Nat.le_refl _)
    rw [e] at this
    simp at this
    omega
  · unfold ptL at hx
    rw [List.take_length, List.mem_map] at hx
    obtain ⟨p, _, rfl⟩ := hx
    exact ptT_free32 _ _
theorem rd_back {ps : List (Int × Int)} (h : ringB ps = true) : rrL (rgT ps) = ps ∧ rrC (rgT ps) = 0 := by
  obtain ⟨h0, _, ho⟩ := ring_facts h
  have hs := sp_rgT (ps := ps) (by omega)
  have hall : ∀ p ∈ ps, rdP (ptT p.1 p.2) = some p := fun p hp => rdP_yes (List.all_eq_true.1 ho p hp) rfl
  have h1 : rrOk (sp 32 (rgT ps)) = true := by
    rw [hs]
    unfold rrOk ptL
    rw [List.take_length, List.all_map, List.all_eq_true]
    intro p hp
    simp [hall p hp]
  have h2 : rrPs (sp 32 (rgT ps)) = ps := by
    rw [hs]
    unfold rrPs ptL
    rw [List.take_length, List.map_map]
    conv => rhs; rw [← List.map_id ps]
    apply List.map_congr_left
    intro p hp
    simp [hall p hp]
  have h3 := rr_yes h1 (by rw [h2]; exact h)
  rw [h2] at h3
  exact h3
theorem rd_text {l : List UInt8} (h1 : rrOk (sp 32 l) = true) : rgT (rrPs (sp 32 l)) = l := by
  have : ptL (rrPs (sp 32 l)) (rrPs (sp 32 l)).length = sp 32 l := by
    unfold ptL rrPs
    rw [List.take_length, List.map_map]
    conv => rhs; rw [← List.map_id (sp 32 l)]
    apply List.map_congr_left
    intro x hx
    have hx1 := List.all_eq_true.1 h1 x hx
    obtain ⟨p, hp⟩ := Option.isSome_iff_exists.1 hx1
    obtain ⟨a, b⟩ := p
    simp only [Function.comp_apply, hp, Option.getD_some, id_eq]
    exact (rdP_some hp).2.symm
  unfold rgT
  rw [this]
  exact jn_sp 32 l
set_option maxHeartbeats 1600000 in
theorem l_like (A A' : Option Addr) (n c c' : Nat) (ps : List (Int × Int)) (w : World) (h : SlAt w 2 encP A ps) (h' : SlAt w 2 encP A' ps) (hn : n = ps.length) (hl : n ≤ 1048576) :
    Calls Tryz.prog 22 #[.slice A n c, .slice A' n c'] w fun e w' => e = .returned (.bool true) ∧ Ext w w' := by
  have hn1 : (((n : Nat) : Int) != (n : Int)) = false := by simp
  have HN := Lib.hid hn
  clear hn
  go_enter Tryz.func22, Tryz.ntmps22
  go_wp2
  go_loopw [5] (fun i wr => ∃ k : Nat, k ≤ n ∧ i = .int .i64 k ∧ Ext w wr) (fun i _ => n - (intOf i).toNat)
  case atStart => exact ⟨0, Nat.zero_le _, rfl, by (repeat (first | with_reducible exact Ext.refl _ | with_reducible assumption | ((with_reducible apply Src.ext); with_reducible assumption) | with_reducible refine Ext.alloc ?_ _ | with_reducible refine Ext.drew ?_ | with_reducible refine Ext.drewN ?_ _ | ((with_reducible refine Ext.setCell' ?_ ?_ _); solve | omega | simp | (simp; omega)) | (with_reducible refine Ext.trans ?_ (by with_reducible assumption))))⟩
  case round =>
    obtain ⟨k, hk, rfl, hx⟩ := hrel
    by_cases hlt : k < n
    · obtain ⟨b, off, rfl, hb, d0, d1⟩ := (h.ext hx).pt (k := k) (by rw [← HN.out]; exact hlt)
      obtain ⟨b', off', rfl, hb', e0, e1⟩ := (h'.ext hx).pt (k := k) (by rw [← HN.out]; exact hlt)
      generalize ps.getD k (0, 0) = p at *
      obtain ⟨x, z⟩ := p
      simp only at d0 d1 e0 e1
      have hxx : eqP x z x z = true := by simp [eqP]
      go_wp2
      (refine wp_region_ext (by kernel_rfl) (by kernel_rfl) ?_; (repeat (go_big_quiet_step (fail))); refine wpQuiet_nil ?_; intro wq hxwq; obtain ⟨hcwq, hfwq⟩ := hxwq.rules; have hswq := hxwq.size; (try simp at hswq))
      go_wp2
      go_roundw
      case rel => exact ⟨k + 1, by omega, by go_num, by (repeat (first | with_reducible exact Ext.refl _ | with_reducible assumption | ((with_reducible apply Src.ext); with_reducible assumption) | with_reducible refine Ext.alloc ?_ _ | with_reducible refine Ext.drew ?_ | with_reducible refine Ext.drewN ?_ _ | ((with_reducible refine Ext.setCell' ?_ ?_ _); solve | omega | simp | (simp; omega)) | (with_reducible refine Ext.trans ?_ (by with_reducible assumption))))⟩
      case measure => simp [intOf]; omega
    · go_wp2
      go_ret
      exact ⟨rfl, by (repeat (first | with_reducible exact Ext.refl _ | with_reducible assumption | ((with_reducible apply Src.ext); with_reducible assumption) | with_reducible refine Ext.alloc ?_ _ | with_reducible refine Ext.drew ?_ | with_reducible refine Ext.drewN ?_ _ | ((with_reducible refine Ext.setCell' ?_ ?_ _); solve | omega | simp | (simp; omega)) | (with_reducible refine Ext.trans ?_ (by with_reducible assumption))))⟩

set_option maxRecDepth 20000 in
set_option maxHeartbeats 12800000 in
theorem fnRingTexts_walk (A : Option Addr) (c : Nat) (bs : List Int) (w : World) (h : SlAt w 1 encB A bs) (hb : ∀ b ∈ bs, 0 ≤ b ∧ b ≤ 255) (hL : Ld w) :
    Calls Tryz.prog 4 #[.slice A bs.length c] w fun e w' => e = .returned (.bool true) ∧ Ext w w' := by
  have HB := Lib.hid hb
  have HT := Lib.hid hL
  clear hb hL
  by_cases hl : bs.length ≤ 4096
  · have hbg : ∀ W, Calls Tryz.prog 15 #[.slice A bs.length c] W fun e w' => e = .returned (.bool false) ∧ W = w' := fun W => by
      have := l_bigT A c bs.length W
      rwa [decide_eq_false (by omega)] at this
    have HG := Lib.hid hbg
    have HL := Lib.hid hl
    clear hbg hl
    go_enter Tryz.func4, Tryz.ntmps4
    (go_wp2_with fail; refine (HG.out _).mono ?_; rintro e w' ⟨rfl, rfl⟩)
    go_wp2_with fail
    refine (s_DrawRingText _ _ bs _ (h.ext (by (repeat (first | with_reducible exact Ext.refl _ | with_reducible assumption | ((with_reducible apply Src.ext); with_reducible assumption) | with_reducible refine Ext.alloc ?_ _ | with_reducible refine Ext.drew ?_ | with_reducible refine Ext.drewN ?_ _ | ((with_reducible refine Ext.setCell' ?_ ?_ _); solve | omega | simp | (simp; omega)) | (with_reducible refine Ext.trans ?_ (by with_reducible assumption)))))) HB.out HL.out).mono ?_
    rintro e w1 ⟨A1, c1, ps, rfl, hS1, hc1, hl1, hx1⟩
    have hpl : ps.length ≤ 1048576 := by omega
    have HI := Lib.hid fun W hS => i_IsRing A1 c1 ps W hS hpl hc1
    have HA := Lib.hid fun W hS hT => i_RingText A1 c1 ps W hS hpl hc1 hT
    have HB2 := Lib.hid fun W hS => s_RingText A1 c1 ps W hS hpl
    cases hr : ringB ps with
    | true =>
      rw [hr] at HI
      rw [ringC_yes hr, show rgR ps = rgT ps by unfold rgR; rw [if_pos hr]] at HA HB2
      have hbk := rd_back hr
      have hsz : (tx (rgT ps)).size ≤ 1048576 := by
        rw [tx_size]
        have := rgT_len (ring_facts hr).2.2 hl1
        omega
      have HR : Hid (∀ W, Ld W → Calls Tryz.prog 20 #[.string (tx (rgT ps))] W fun e w' => ∃ v, e = .returned (.tuple #[v, .int .i64 0]) ∧ OwP w' W.heap.size v ps ∧ Ext W w') := Lib.hid fun W hL => by
        have := i_ReadRing (tx (rgT ps)) W hsz hL
        rwa [tx_list, hbk.1, hbk.2] at this
      generalize tx (rgT ps) = t0 at *
      have ht0 : (t0.toList == t0.toList) = true := by simp
      clear hr hbk hsz
      (go_wp2_with fail; refine (HA.out _ hS1 (HT.out.tab.ext (by (repeat (first | with_reducible exact Ext.refl _ | with_reducible assumption | ((with_reducible apply Src.ext); with_reducible assumption) | with_reducible refine Ext.alloc ?_ _ | with_reducible refine Ext.drew ?_ | with_reducible refine Ext.drewN ?_ _ | ((with_reducible refine Ext.setCell' ?_ ?_ _); solve | omega | simp | (simp; omega)) | (with_reducible refine Ext.trans ?_ (by with_reducible assumption))))))).mono ?_; rintro e w2 ⟨rfl, hx2⟩; obtain ⟨hc2, hf2⟩ := hx2.rules; have hs2 := hx2.size; (try simp at hs2))
      (go_wp2_with fail; refine (HB2.out _ (hS1.ext (by (repeat (first | with_reducible exact Ext.refl _ | with_reducible assumption | ((with_reducible apply Src.ext); with_reducible assumption) | with_reducible refine Ext.alloc ?_ _ | with_reducible refine Ext.drew ?_ | with_reducible refine Ext.drewN ?_ _ | ((with_reducible refine Ext.setCell' ?_ ?_ _); solve | omega | simp | (simp; omega)) | (with_reducible refine Ext.trans ?_ (by with_reducible assumption))))))).mono ?_; rintro e w3 ⟨rfl, hx3⟩; obtain ⟨hc3, hf3⟩ := hx3.rules; have hs3 := hx3.size; (try simp at hs3))
      go_wp2_with fail
      refine (s_DrawReadRing _ _ bs _ (h.ext (by (repeat (first | with_reducible exact Ext.refl _ | with_reducible assumption | ((with_reducible apply Src.ext); with_reducible assumption) | with_reducible refine Ext.alloc ?_ _ | with_reducible refine Ext.drew ?_ | with_reducible refine Ext.drewN ?_ _ | ((with_reducible refine Ext.setCell' ?_ ?_ _); solve | omega | simp | (simp; omega)) | (with_reducible refine Ext.trans ?_ (by with_reducible assumption)))))) HB.out HL.out).mono ?_
      rintro e w4 ⟨t, rfl, ht, hx4⟩
      have ht2 : t.size ≤ 1048576 := by omega
      obtain ⟨l, hl⟩ : ∃ l, l = t.data.toList := ⟨_, rfl⟩
      have HLT := Lib.hid hl
      have HIR := Lib.hid fun W hL => i_ReadRing t W ht2 hL
      have HSR := Lib.hid fun W => s_ReadRing t W ht2
      rw [← hl] at HIR HSR
      clear hl ht ht2
      by_cases hrr : rrOk (sp 32 l) = true ∧ ringB (rrPs (sp 32 l)) = true
      · obtain ⟨hrl, hrc⟩ := rr_yes hrr.1 hrr.2
        have hyt := rd_text hrr.1
        have hyr := hrr.2
        generalize rrPs (sp 32 l) = ys at *
        obtain ⟨hy0, hyl, _⟩ := ring_facts hyr
        have HYL := Lib.hid hyl
        have HE : Hid (∀ A c W, SlAt W 2 encP A ys → ys.length ≤ c → Tab W → Calls Tryz.prog 17 #[.slice A ys.length c] W fun e w' => e = .returned (.tuple #[.string t, .int .i64 0]) ∧ Ext W w') := Lib.hid fun A c W hS hc hT => by
          have := i_RingText A c ys W hS (by omega) hc hT
          rw [ringC_yes hyr, show rgR ys = rgT ys by unfold rgR; rw [if_pos hyr], hyt, ← eq_tx HLT.out.symm] at this
          exact this
        have htt : (t.toList == t.toList) = true := by simp
        clear hyr hyt hrr hy0 hyl
        rw [hrl, hrc] at HIR HSR
        clear hrl hrc
        go_wp2_with fail
        refine (HIR.out _ (HT.out.ext (by (repeat (first | with_reducible exact Ext.refl _ | with_reducible assumption | ((with_reducible apply Src.ext); with_reducible assumption) | with_reducible refine Ext.alloc ?_ _ | with_reducible refine Ext.drew ?_ | with_reducible refine Ext.drewN ?_ _ | ((with_reducible refine Ext.setCell' ?_ ?_ _); solve | omega | simp | (simp; omega)) | (with_reducible refine Ext.trans ?_ (by with_reducible assumption))))))).mono ?_
        rintro e w5 ⟨v5, rfl, hO5, hx5⟩
        obtain ⟨A5, c5, rfl, hS5, hc5, _, _⟩ := hO5.sl len_encP
        go_wp2_with fail
        refine (HSR.out _).mono ?_
        rintro e w6 ⟨v6, rfl, hO6, hx6⟩
        obtain ⟨A6, c6, rfl, hS6, _, _, _⟩ := hO6.sl len_encP
        clear hO5 hO6 HIR HSR
        obtain ⟨yn, hyn⟩ : ∃ yn, yn = ys.length := ⟨_, rfl⟩
        rw [← hyn] at hc5 HE ⊢
        have hyl2 : yn ≤ 1048576 := by have := HYL.out; omega
        have HYN := Lib.hid hyn
        clear hyn
        (go_wp2_with fail; refine (l_like _ _ _ _ _ ys _ (hS5.ext (by (repeat (first | with_reducible exact Ext.refl _ | with_reducible assumption | ((with_reducible apply Src.ext); with_reducible assumption) | with_reducible refine Ext.alloc ?_ _ | with_reducible refine Ext.drew ?_ | with_reducible refine Ext.drewN ?_ _ | ((with_reducible refine Ext.setCell' ?_ ?_ _); solve | omega | simp | (simp; omega)) | (with_reducible refine Ext.trans ?_ (by with_reducible assumption)))))) hS6 HYN.out hyl2).mono ?_; rintro e w7 ⟨rfl, hx7⟩; obtain ⟨hc7, hf7⟩ := hx7.rules; have hs7 := hx7.size; (try simp at hs7))
        (go_wp2_with fail; refine (HI.out _ (hS1.ext (by (repeat (first | with_reducible exact Ext.refl _ | with_reducible assumption | ((with_reducible apply Src.ext); with_reducible assumption) | with_reducible refine Ext.alloc ?_ _ | with_reducible refine Ext.drew ?_ | with_reducible refine Ext.drewN ?_ _ | ((with_reducible refine Ext.setCell' ?_ ?_ _); solve | omega | simp | (simp; omega)) | (with_reducible refine Ext.trans ?_ (by with_reducible assumption))))))).mono ?_; rintro e w8 ⟨rfl, hx8⟩; obtain ⟨hc8, hf8⟩ := hx8.rules; have hs8 := hx8.size; (try simp at hs8))
        (go_wp2_with fail; refine (HE.out _ _ _ (hS5.ext (by (repeat (first | with_reducible exact Ext.refl _ | with_reducible assumption | ((with_reducible apply Src.ext); with_reducible assumption) | with_reducible refine Ext.alloc ?_ _ | with_reducible refine Ext.drew ?_ | with_reducible refine Ext.drewN ?_ _ | ((with_reducible refine Ext.setCell' ?_ ?_ _); solve | omega | simp | (simp; omega)) | (with_reducible refine Ext.trans ?_ (by with_reducible assumption)))))) hc5 (HT.out.tab.ext (by (repeat (first | with_reducible exact Ext.refl _ | with_reducible assumption | ((with_reducible apply Src.ext); with_reducible assumption) | with_reducible refine Ext.alloc ?_ _ | with_reducible refine Ext.drew ?_ | with_reducible refine Ext.drewN ?_ _ | ((with_reducible refine Ext.setCell' ?_ ?_ _); solve | omega | simp | (simp; omega)) | (with_reducible refine Ext.trans ?_ (by with_reducible assumption))))))).mono ?_; rintro e w9 ⟨rfl, hx9⟩; obtain ⟨hc9, hf9⟩ := hx9.rules; have hs9 := hx9.size; (try simp at hs9))
        go_wp2_with fail
        refine (HR.out _ (HT.out.ext (by (repeat (first | with_reducible exact Ext.refl _ | with_reducible assumption | ((with_reducible apply Src.ext); with_reducible assumption) | with_reducible refine Ext.alloc ?_ _ | with_reducible refine Ext.drew ?_ | with_reducible refine Ext.drewN ?_ _ | ((with_reducible refine Ext.setCell' ?_ ?_ _); solve | omega | simp | (simp; omega)) | (with_reducible refine Ext.trans ?_ (by with_reducible assumption))))))).mono ?_
        rintro e w10 ⟨v10, rfl, hO10, hx10⟩
        obtain ⟨A10, c10, rfl, hS10, _, _, _⟩ := hO10.sl len_encP
        clear hO10
        (go_wp2_with fail; refine (l_like _ _ _ _ _ ps _ hS10 (hS1.ext (by (repeat (first | with_reducible exact Ext.refl _ | with_reducible assumption | ((with_reducible apply Src.ext); with_reducible assumption) | with_reducible refine Ext.alloc ?_ _ | with_reducible refine Ext.drew ?_ | with_reducible refine Ext.drewN ?_ _ | ((with_reducible refine Ext.setCell' ?_ ?_ _); solve | omega | simp | (simp; omega)) | (with_reducible refine Ext.trans ?_ (by with_reducible assumption)))))) rfl hpl).mono ?_; rintro e w11 ⟨rfl, hx11⟩; obtain ⟨hc11, hf11⟩ := hx11.rules; have hs11 := hx11.size; (try simp at hs11))
        go_wp2
        go_ret
        exact ⟨rfl, by (repeat (first | with_reducible exact Ext.refl _ | with_reducible assumption | ((with_reducible apply Src.ext); with_reducible assumption) | with_reducible refine Ext.alloc ?_ _ | with_reducible refine Ext.drew ?_ | with_reducible refine Ext.drewN ?_ _ | ((with_reducible refine Ext.setCell' ?_ ?_ _); solve | omega | simp | (simp; omega)) | (with_reducible refine Ext.trans ?_ (by with_reducible assumption))))⟩
      · obtain ⟨hrl, hrc⟩ := rr_no hrr
        clear hrr
        rw [hrl, hrc] at HIR HSR
        clear hrl hrc
        go_wp2_with fail
        refine (HIR.out _ (HT.out.ext (by (repeat (first | with_reducible exact Ext.refl _ | with_reducible assumption | ((with_reducible apply Src.ext); with_reducible assumption) | with_reducible refine Ext.alloc ?_ _ | with_reducible refine Ext.drew ?_ | with_reducible refine Ext.drewN ?_ _ | ((with_reducible refine Ext.setCell' ?_ ?_ _); solve | omega | simp | (simp; omega)) | (with_reducible refine Ext.trans ?_ (by with_reducible assumption))))))).mono ?_
        rintro e w5 ⟨v5, rfl, hO5, hx5⟩
        obtain ⟨A5, c5, rfl, hS5, hc5, _, _⟩ := hO5.sl len_encP
        go_wp2_with fail
        refine (HSR.out _).mono ?_
        rintro e w6 ⟨v6, rfl, hO6, hx6⟩
        obtain ⟨A6, c6, rfl, hS6, _, _, _⟩ := hO6.sl len_encP
        clear hO5 hO6 HIR HSR

        (go_wp2_with fail; refine (l_like _ _ _ _ _ [] _ (hS5.ext (by (repeat (first | with_reducible exact Ext.refl _ | with_reducible assumption | ((with_reducible apply Src.ext); with_reducible assumption) | with_reducible refine Ext.alloc ?_ _ | with_reducible refine Ext.drew ?_ | with_reducible refine Ext.drewN ?_ _ | ((with_reducible refine Ext.setCell' ?_ ?_ _); solve | omega | simp | (simp; omega)) | (with_reducible refine Ext.trans ?_ (by with_reducible assumption)))))) hS6 rfl (by simp)).mono ?_; rintro e w7 ⟨rfl, hx7⟩; obtain ⟨hc7, hf7⟩ := hx7.rules; have hs7 := hx7.size; (try simp at hs7))
        (go_wp2_with fail; refine (HI.out _ (hS1.ext (by (repeat (first | with_reducible exact Ext.refl _ | with_reducible assumption | ((with_reducible apply Src.ext); with_reducible assumption) | with_reducible refine Ext.alloc ?_ _ | with_reducible refine Ext.drew ?_ | with_reducible refine Ext.drewN ?_ _ | ((with_reducible refine Ext.setCell' ?_ ?_ _); solve | omega | simp | (simp; omega)) | (with_reducible refine Ext.trans ?_ (by with_reducible assumption))))))).mono ?_; rintro e w8 ⟨rfl, hx8⟩; obtain ⟨hc8, hf8⟩ := hx8.rules; have hs8 := hx8.size; (try simp at hs8))
        go_wp2_with fail
        refine (HR.out _ (HT.out.ext (by (repeat (first | with_reducible exact Ext.refl _ | with_reducible assumption | ((with_reducible apply Src.ext); with_reducible assumption) | with_reducible refine Ext.alloc ?_ _ | with_reducible refine Ext.drew ?_ | with_reducible refine Ext.drewN ?_ _ | ((with_reducible refine Ext.setCell' ?_ ?_ _); solve | omega | simp | (simp; omega)) | (with_reducible refine Ext.trans ?_ (by with_reducible assumption))))))).mono ?_
        rintro e w10 ⟨v10, rfl, hO10, hx10⟩
        obtain ⟨A10, c10, rfl, hS10, _, _, _⟩ := hO10.sl len_encP
        clear hO10
        (go_wp2_with fail; refine (l_like _ _ _ _ _ ps _ hS10 (hS1.ext (by (repeat (first | with_reducible exact Ext.refl _ | with_reducible assumption | ((with_reducible apply Src.ext); with_reducible assumption) | with_reducible refine Ext.alloc ?_ _ | with_reducible refine Ext.drew ?_ | with_reducible refine Ext.drewN ?_ _ | ((with_reducible refine Ext.setCell' ?_ ?_ _); solve | omega | simp | (simp; omega)) | (with_reducible refine Ext.trans ?_ (by with_reducible assumption)))))) rfl hpl).mono ?_; rintro e w11 ⟨rfl, hx11⟩; obtain ⟨hc11, hf11⟩ := hx11.rules; have hs11 := hx11.size; (try simp at hs11))
        go_wp2
        go_ret
        exact ⟨rfl, by (repeat (first | with_reducible exact Ext.refl _ | with_reducible assumption | ((with_reducible apply Src.ext); with_reducible assumption) | with_reducible refine Ext.alloc ?_ _ | with_reducible refine Ext.drew ?_ | with_reducible refine Ext.drewN ?_ _ | ((with_reducible refine Ext.setCell' ?_ ?_ _); solve | omega | simp | (simp; omega)) | (with_reducible refine Ext.trans ?_ (by with_reducible assumption))))⟩
    | false =>
      have hr' : ¬ ringB ps = true := by rw [hr]; exact Bool.false_ne_true
      rw [hr] at HI
      rw [ringC_no hr, show rgR ps = [] by unfold rgR; rw [if_neg hr']] at HA HB2
      generalize tx [] = t0 at *
      have ht0 : (t0.toList == t0.toList) = true := by simp
      clear hr hr'
      (go_wp2_with fail; refine (HA.out _ hS1 (HT.out.tab.ext (by (repeat (first | with_reducible exact Ext.refl _ | with_reducible assumption | ((with_reducible apply Src.ext); with_reducible assumption) | with_reducible refine Ext.alloc ?_ _ | with_reducible refine Ext.drew ?_ | with_reducible refine Ext.drewN ?_ _ | ((with_reducible refine Ext.setCell' ?_ ?_ _); solve | omega | simp | (simp; omega)) | (with_reducible refine Ext.trans ?_ (by with_reducible assumption))))))).mono ?_; rintro e w2 ⟨rfl, hx2⟩; obtain ⟨hc2, hf2⟩ := hx2.rules; have hs2 := hx2.size; (try simp at hs2))
      (go_wp2_with fail; refine (HB2.out _ (hS1.ext (by (repeat (first | with_reducible exact Ext.refl _ | with_reducible assumption | ((with_reducible apply Src.ext); with_reducible assumption) | with_reducible refine Ext.alloc ?_ _ | with_reducible refine Ext.drew ?_ | with_reducible refine Ext.drewN ?_ _ | ((with_reducible refine Ext.setCell' ?_ ?_ _); solve | omega | simp | (simp; omega)) | (with_reducible refine Ext.trans ?_ (by with_reducible assumption))))))).mono ?_; rintro e w3 ⟨rfl, hx3⟩; obtain ⟨hc3, hf3⟩ := hx3.rules; have hs3 := hx3.size; (try simp at hs3))
      go_wp2_with fail
      refine (s_DrawReadRing _ _ bs _ (h.ext (by (repeat (first | with_reducible exact Ext.refl _ | with_reducible assumption | ((with_reducible apply Src.ext); with_reducible assumption) | with_reducible refine Ext.alloc ?_ _ | with_reducible refine Ext.drew ?_ | with_reducible refine Ext.drewN ?_ _ | ((with_reducible refine Ext.setCell' ?_ ?_ _); solve | omega | simp | (simp; omega)) | (with_reducible refine Ext.trans ?_ (by with_reducible assumption)))))) HB.out HL.out).mono ?_
      rintro e w4 ⟨t, rfl, ht, hx4⟩
      have ht2 : t.size ≤ 1048576 := by omega
      obtain ⟨l, hl⟩ : ∃ l, l = t.data.toList := ⟨_, rfl⟩
      have HLT := Lib.hid hl
      have HIR := Lib.hid fun W hL => i_ReadRing t W ht2 hL
      have HSR := Lib.hid fun W => s_ReadRing t W ht2
      rw [← hl] at HIR HSR
      clear hl ht ht2
      by_cases hrr : rrOk (sp 32 l) = true ∧ ringB (rrPs (sp 32 l)) = true
      · obtain ⟨hrl, hrc⟩ := rr_yes hrr.1 hrr.2
        have hyt := rd_text hrr.1
        have hyr := hrr.2
        generalize rrPs (sp 32 l) = ys at *
        obtain ⟨hy0, hyl, _⟩ := ring_facts hyr
        have HYL := Lib.hid hyl
        have HE : Hid (∀ A c W, SlAt W 2 encP A ys → ys.length ≤ c → Tab W → Calls Tryz.prog 17 #[.slice A ys.length c] W fun e w' => e = .returned (.tuple #[.string t, .int .i64 0]) ∧ Ext W w') := Lib.hid fun A c W hS hc hT => by
          have := i_RingText A c ys W hS (by omega) hc hT
          rw [ringC_yes hyr, show rgR ys = rgT ys by unfold rgR; rw [if_pos hyr], hyt, ← eq_tx HLT.out.symm] at this
          exact this
        have htt : (t.toList == t.toList) = true := by simp
        clear hyr hyt hrr hy0 hyl
        rw [hrl, hrc] at HIR HSR
        clear hrl hrc
        go_wp2_with fail
        refine (HIR.out _ (HT.out.ext (by (repeat (first | with_reducible exact Ext.refl _ | with_reducible assumption | ((with_reducible apply Src.ext); with_reducible assumption) | with_reducible refine Ext.alloc ?_ _ | with_reducible refine Ext.drew ?_ | with_reducible refine Ext.drewN ?_ _ | ((with_reducible refine Ext.setCell' ?_ ?_ _); solve | omega | simp | (simp; omega)) | (with_reducible refine Ext.trans ?_ (by with_reducible assumption))))))).mono ?_
        rintro e w5 ⟨v5, rfl, hO5, hx5⟩
        obtain ⟨A5, c5, rfl, hS5, hc5, _, _⟩ := hO5.sl len_encP
        go_wp2_with fail
        refine (HSR.out _).mono ?_
        rintro e w6 ⟨v6, rfl, hO6, hx6⟩
        obtain ⟨A6, c6, rfl, hS6, _, _, _⟩ := hO6.sl len_encP
        clear hO5 hO6 HIR HSR
        obtain ⟨yn, hyn⟩ : ∃ yn, yn = ys.length := ⟨_, rfl⟩
        rw [← hyn] at hc5 HE ⊢
        have hyl2 : yn ≤ 1048576 := by have := HYL.out; omega
        have HYN := Lib.hid hyn
        clear hyn
        (go_wp2_with fail; refine (l_like _ _ _ _ _ ys _ (hS5.ext (by (repeat (first | with_reducible exact Ext.refl _ | with_reducible assumption | ((with_reducible apply Src.ext); with_reducible assumption) | with_reducible refine Ext.alloc ?_ _ | with_reducible refine Ext.drew ?_ | with_reducible refine Ext.drewN ?_ _ | ((with_reducible refine Ext.setCell' ?_ ?_ _); solve | omega | simp | (simp; omega)) | (with_reducible refine Ext.trans ?_ (by with_reducible assumption)))))) hS6 HYN.out hyl2).mono ?_; rintro e w7 ⟨rfl, hx7⟩; obtain ⟨hc7, hf7⟩ := hx7.rules; have hs7 := hx7.size; (try simp at hs7))
        (go_wp2_with fail; refine (HI.out _ (hS1.ext (by (repeat (first | with_reducible exact Ext.refl _ | with_reducible assumption | ((with_reducible apply Src.ext); with_reducible assumption) | with_reducible refine Ext.alloc ?_ _ | with_reducible refine Ext.drew ?_ | with_reducible refine Ext.drewN ?_ _ | ((with_reducible refine Ext.setCell' ?_ ?_ _); solve | omega | simp | (simp; omega)) | (with_reducible refine Ext.trans ?_ (by with_reducible assumption))))))).mono ?_; rintro e w8 ⟨rfl, hx8⟩; obtain ⟨hc8, hf8⟩ := hx8.rules; have hs8 := hx8.size; (try simp at hs8))
        (go_wp2_with fail; refine (HE.out _ _ _ (hS5.ext (by (repeat (first | with_reducible exact Ext.refl _ | with_reducible assumption | ((with_reducible apply Src.ext); with_reducible assumption) | with_reducible refine Ext.alloc ?_ _ | with_reducible refine Ext.drew ?_ | with_reducible refine Ext.drewN ?_ _ | ((with_reducible refine Ext.setCell' ?_ ?_ _); solve | omega | simp | (simp; omega)) | (with_reducible refine Ext.trans ?_ (by with_reducible assumption)))))) hc5 (HT.out.tab.ext (by (repeat (first | with_reducible exact Ext.refl _ | with_reducible assumption | ((with_reducible apply Src.ext); with_reducible assumption) | with_reducible refine Ext.alloc ?_ _ | with_reducible refine Ext.drew ?_ | with_reducible refine Ext.drewN ?_ _ | ((with_reducible refine Ext.setCell' ?_ ?_ _); solve | omega | simp | (simp; omega)) | (with_reducible refine Ext.trans ?_ (by with_reducible assumption))))))).mono ?_; rintro e w9 ⟨rfl, hx9⟩; obtain ⟨hc9, hf9⟩ := hx9.rules; have hs9 := hx9.size; (try simp at hs9))
        go_wp2
        go_ret
        exact ⟨rfl, by (repeat (first | with_reducible exact Ext.refl _ | with_reducible assumption | ((with_reducible apply Src.ext); with_reducible assumption) | with_reducible refine Ext.alloc ?_ _ | with_reducible refine Ext.drew ?_ | with_reducible refine Ext.drewN ?_ _ | ((with_reducible refine Ext.setCell' ?_ ?_ _); solve | omega | simp | (simp; omega)) | (with_reducible refine Ext.trans ?_ (by with_reducible assumption))))⟩
      · obtain ⟨hrl, hrc⟩ := rr_no hrr
        clear hrr
        rw [hrl, hrc] at HIR HSR
        clear hrl hrc
        go_wp2_with fail
        refine (HIR.out _ (HT.out.ext (by (repeat (first | with_reducible exact Ext.refl _ | with_reducible assumption | ((with_reducible apply Src.ext); with_reducible assumption) | with_reducible refine Ext.alloc ?_ _ | with_reducible refine Ext.drew ?_ | with_reducible refine Ext.drewN ?_ _ | ((with_reducible refine Ext.setCell' ?_ ?_ _); solve | omega | simp | (simp; omega)) | (with_reducible refine Ext.trans ?_ (by with_reducible assumption))))))).mono ?_
        rintro e w5 ⟨v5, rfl, hO5, hx5⟩
        obtain ⟨A5, c5, rfl, hS5, hc5, _, _⟩ := hO5.sl len_encP
        go_wp2_with fail
        refine (HSR.out _).mono ?_
        rintro e w6 ⟨v6, rfl, hO6, hx6⟩
        obtain ⟨A6, c6, rfl, hS6, _, _, _⟩ := hO6.sl len_encP
        clear hO5 hO6 HIR HSR

        (go_wp2_with fail; refine (l_like _ _ _ _ _ [] _ (hS5.ext (by (repeat (first | with_reducible exact Ext.refl _ | with_reducible assumption | ((with_reducible apply Src.ext); with_reducible assumption) | with_reducible refine Ext.alloc ?_ _ | with_reducible refine Ext.drew ?_ | with_reducible refine Ext.drewN ?_ _ | ((with_reducible refine Ext.setCell' ?_ ?_ _); solve | omega | simp | (simp; omega)) | (with_reducible refine Ext.trans ?_ (by with_reducible assumption)))))) hS6 rfl (by simp)).mono ?_; rintro e w7 ⟨rfl, hx7⟩; obtain ⟨hc7, hf7⟩ := hx7.rules; have hs7 := hx7.size; (try simp at hs7))
        (go_wp2_with fail; refine (HI.out _ (hS1.ext (by (repeat (first | with_reducible exact Ext.refl _ | with_reducible assumption | ((with_reducible apply Src.ext); with_reducible assumption) | with_reducible refine Ext.alloc ?_ _ | with_reducible refine Ext.drew ?_ | with_reducible refine Ext.drewN ?_ _ | ((with_reducible refine Ext.setCell' ?_ ?_ _); solve | omega | simp | (simp; omega)) | (with_reducible refine Ext.trans ?_ (by with_reducible assumption))))))).mono ?_; rintro e w8 ⟨rfl, hx8⟩; obtain ⟨hc8, hf8⟩ := hx8.rules; have hs8 := hx8.size; (try simp at hs8))
        go_wp2
        go_ret
        exact ⟨rfl, by (repeat (first | with_reducible exact Ext.refl _ | with_reducible assumption | ((with_reducible apply Src.ext); with_reducible assumption) | with_reducible refine Ext.alloc ?_ _ | with_reducible refine Ext.drew ?_ | with_reducible refine Ext.drewN ?_ _ | ((with_reducible refine Ext.setCell' ?_ ?_ _); solve | omega | simp | (simp; omega)) | (with_reducible refine Ext.trans ?_ (by with_reducible assumption))))⟩
  · have hbg : ∀ W, Calls Tryz.prog 15 #[.slice A bs.length c] W fun e w' => e = .returned (.bool true) ∧ W = w' := fun W => by
      have := l_bigT A c bs.length W
      rwa [decide_eq_true (by omega)] at this
    have HG := Lib.hid hbg
    clear hbg
    go_enter Tryz.func4, Tryz.ntmps4
    (go_wp2_with fail; refine (HG.out _).mono ?_; rintro e w' ⟨rfl, rfl⟩)
    go_wp2
    go_ret
    exact ⟨rfl, by (repeat (first | with_reducible exact Ext.refl _ | with_reducible assumption | ((with_reducible apply Src.ext); with_reducible assumption) | with_reducible refine Ext.alloc ?_ _ | with_reducible refine Ext.drew ?_ | with_reducible refine Ext.drewN ?_ _ | ((with_reducible refine Ext.setCell' ?_ ?_ _); solve | omega | simp | (simp; omega)) | (with_reducible refine Ext.trans ?_ (by with_reducible assumption))))⟩

end Go.Proofs.YtdbheipjbjcikaaGreatDoor
