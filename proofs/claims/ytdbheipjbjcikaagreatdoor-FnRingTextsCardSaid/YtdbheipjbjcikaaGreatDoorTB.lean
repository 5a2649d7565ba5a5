/- Contracts of rings as texts and their law, walked over the translation. -/
import Derived.Test.YtdbheipjbjcikaaGreatDoorTA
import Derived.Test.YtdbheipjbjcikaaGreatDoorY
import Derived.Test.YtdbheipjbjcikaaGreatDoorAQ
import Derived.Lib.Join
import Derived.Deep.RegionHeld3
import Derived.Deep.DeepCutAuto
import Derived.RegionTactic
import Derived.BigRegion
import Derived.WalkLawsBesides
import Derived.WalkSpells
import Derived.Lib.MinMax
import Derived.Outline
namespace Go.Proofs.YtdbheipjbjcikaaGreatDoor
open Go.RowKit
attribute [local go_sem] ExtOf.cell ExtOf.frozen

/-- a text among texts -/
def encS (l : List UInt8) : List Value := [.string (tx l)]
theorem len_encS : ∀ x, (encS x).length = 1 := fun _ => rfl
theorem one_encS : ∀ p, ∀ u ∈ encS p, u.oneCell' = true := by
  intro p u hu
  simp [encS] at hu
  subst hu; rfl
theorem elS : ElT Tryz.prog 60 9 1 16 := ElT.mk' (z := .string .empty) Tryz.underlying60 (by kernel_rfl) rfl (by omega)
abbrev OwS (w : World) (base : Nat) (v : Value) (xs : List (List UInt8)) : Prop := Own encS 1 9 w base v xs
theorem blk_s1 {w : World} {g : Nat} {t : TypeId} {l : List UInt8} (h : Blk w g t #[.string (tx l)]) : SlAt w 1 encS (some ⟨g, 0, none⟩) [l] := h.sl rfl len_encS
theorem SlAt.st {w : World} {A : Option Addr} {xs : List (List UInt8)} (h : SlAt w 1 encS A xs) {k : Nat} (hk : k < xs.length) :
    ∃ b off, A = some ⟨b, off, none⟩ ∧ b < w.heap.size ∧ w.cell? ⟨b, off + k, none⟩ = some (.string (tx (xs.getD k []))) := by
  obtain ⟨b, off, e, hb, hc⟩ := h (by omega)
  have hg : xs[k]? = some (xs.getD k []) := by simp [List.getD, hk]
  exact ⟨b, off, e, hb, by simpa using hc k _ hg 0 _ rfl⟩
theorem SlAt.st' {w : World} {b off : Nat} {xs : List (List UInt8)} (h : SlAt w 1 encS (some ⟨b, off, none⟩) xs) {k : Nat} (hk : k < xs.length) :
    w.cell? ⟨b, off + k, none⟩ = some (.string (tx (xs.getD k []))) := by
  obtain ⟨b', off', e, _, hc⟩ := h.st hk
  injection e with e
  injection e with e1 e2
  subst e1 e2
  exact hc
theorem tx_list (l : List UInt8) : (tx l).data.toList = l := by simp [tx]
/-- words, with something between them -/
abbrev jn (L : List (List UInt8)) (sep : List UInt8) : List UInt8 := Lib.join L sep
theorem jn_snoc (L : List (List UInt8)) (x sep : List UInt8) (h : L ≠ []) : jn (L ++ [x]) sep = jn L sep ++ sep ++ x := by
  rcases L with _ | ⟨y, L⟩
  · exact absurd rfl h
  · show Lib.join (y :: (L ++ [x])) sep = Lib.join (y :: L) sep ++ sep ++ x
    rw [Lib.join_cons, Lib.join_cons]
    unfold Lib.joinTail
    simp
theorem jn_take {L : List (List UInt8)} {k : Nat} (hk : k < L.length) (sep : List UInt8) : jn (L.take (k + 1)) sep = if k = 0 then L.getD 0 [] else jn (L.take k) sep ++ sep ++ L.getD k [] := by
  rw [List.take_succ_eq_append_getElem hk]
  have e : L.getD k [] = L[k] := by simp [List.getD, hk]
  split
  · rename_i h0
    subst h0
    rw [e]
    simp [Lib.join_one]
  · have hne : L.take k ≠ [] := fun e' => by
      have h' : (L.take k).length = 0 := by rw [e']; rfl
      rw [List.length_take] at h'
      omega
    rw [jn_snoc _ _ _ hne, e]
theorem jn_len {L : List (List UInt8)} {sep : List UInt8} {m : Nat} (h : ∀ x ∈ L, x.length ≤ m) : (jn L sep).length ≤ (sep.length + m) * L.length := by
  rcases L with _ | ⟨y, L⟩
  · simp [Lib.join_nil]
  · rw [Lib.join_length]
    have hs : ∀ M : List (List UInt8), (∀ x ∈ M, x.length ≤ m) → Lib.lens M ≤ m * M.length := fun M => by
      induction M with
      | nil => intro _; simp [Lib.lens]
      | cons x M ih =>
        intro hM
        have := ih fun x hx => hM x (by simp [hx])
        have := hM x (by simp)
        simp [Lib.lens, Nat.mul_succ] at *
        omega
    have := hs (y :: L) h
    simp only [List.length_cons] at *
    rw [Nat.add_mul, Nat.mul_succ]
    omega
set_option maxHeartbeats 1600000 in
theorem s_l01Words (A : Option Addr) (n c : Nat) (L : List (List UInt8)) (w : World) (h : SlAt w 1 encS A L) (hn : n = L.length) (hl : n ≤ 1048576) (hm : ∀ k, (jn (L.take k) [32]).length + 1 ≤ 1000000000000) (hm2 : ∀ k, (L.getD k []).length ≤ 1000000000000) :
    Calls Tryz.prog 134 #[.slice A n c] w fun e w' => e = .returned (.string (tx (jn L [32]))) ∧ Ext w w' := by
  have HN := Lib.hid hn
  have HM := Lib.hid hm
  have HM2 := Lib.hid hm2
  have e0 : tx (jn (L.take 0) [32]) = ⟨#[]⟩ := by simp [Lib.join_nil, tx]
  have E0 := Lib.hid e0
  clear hn hm hm2 e0
  go_enter Tryz.func134, Tryz.ntmps134
  go_wp2
  go_loop [3, 4] (fun s i => ∃ k : Nat, k ≤ n ∧ i = .int .i64 k ∧ s = .string (tx (jn (L.take k) [32]))) (fun _ i => n - (intOf i).toNat)
  case atStart => exact ⟨0, by omega, rfl, by rw [E0.out]⟩
  case round =>
    obtain ⟨k, hk, rfl, rfl⟩ := hrel
    by_cases hlt : k < n
    · have hkn : k < L.length := by rw [← HN.out]; exact hlt
      obtain ⟨b, off, rfl, hb, d0⟩ := h.st hkn
      have hj := jn_take hkn [32]
      have h1 := HM.out k
      have h2 := HM2.out k
      by_cases hz : k = 0
      · rw [if_pos hz] at hj
        subst hz
        rw [Nat.add_zero] at d0
        have HJ := Lib.hid hj
        generalize L.getD 0 [] = x at *
        have hf1 : ((tx (jn (L.take 0) [32])).size + (tx x).size > 9223372036854775807) = False := eq_false (by rw [tx_size, tx_size]; omega)
        have e1 : (tx (jn (L.take 0) [32])) ++ tx x = tx x := by rw [tx_add]; simp [Lib.join_nil]
        generalize tx (jn (L.take 0) [32]) = t at *
        clear hj h1 h2
        go_wp2
        go_round
        case rel => exact ⟨1, by omega, by go_num, by rw [HJ.out]⟩
        case measure => simp [intOf]; omega
      · rw [if_neg hz] at hj
        have HJ := Lib.hid hj
        have hkp : (0 : Int) < k := by omega
        generalize hx : L.getD k [] = x at *
        generalize ht : jn (L.take k) [32] = t at *
        have hf1 : ((tx t).size + 1 > 9223372036854775807) = False := eq_false (by rw [tx_size]; omega)
        have hf2 : ((tx t).size + 1 + (tx x).size > 9223372036854775807) = False := eq_false (by rw [tx_size, tx_size]; omega)
        have E1 : Hid (tx t ++ (⟨#[32]⟩ : ByteArray) ++ tx x = tx (t ++ [32] ++ x)) := Lib.hid (by rw [show (⟨#[32]⟩ : ByteArray) = tx [32] from rfl, tx_add, tx_add])
        clear hj h1 h2 ht hx
        go_wp2
        go_round
        case rel => exact ⟨k + 1, by omega, by go_num, by rw [HJ.out, ← E1.out]⟩
        case measure => simp [intOf]; omega
    · obtain rfl : k = n := by omega
      go_wp2
      go_ret
      have e : L.take k = L := by rw [HN.out]; exact List.take_length
      exact ⟨congrArg (fun M => Ending.returned (.string (tx (jn M [32])))) e, Ext.refl _⟩
/-- the texts of the first k points -/
def ptL (ps : List (Int × Int)) (k : Nat) : List (List UInt8) := (ps.take k).map fun p => ptT p.1 p.2
theorem ptL_succ {ps : List (Int × Int)} {k : Nat} (hk : k < ps.length) : ptL ps (k + 1) = ptL ps k ++ [ptT (ps.getD k (0, 0)).1 (ps.getD k (0, 0)).2] := by
  unfold ptL
  rw [List.take_succ_eq_append_getElem hk, List.map_append, show ps.getD k (0, 0) = ps[k] by simp [List.getD, hk]]; rfl
theorem ptL_len (ps : List (Int × Int)) (k : Nat) (h : k ≤ ps.length) : (ptL ps k).length = k := by simp [ptL]; omega
/-- the text of a ring -/
def rgT (ps : List (Int × Int)) : List UInt8 := jn (ptL ps ps.length) [32]
theorem oks_num {ps : List (Int × Int)} (h : oks ps = true) {k : Nat} (hk : k < ps.length) : Num (ps.getD k (0, 0)).1 ∧ Num (ps.getD k (0, 0)).2 := by
  have := List.all_eq_true.1 h (ps.getD k (0, 0)) (by simp [List.getD, hk])
  exact okP_num this
theorem ptL_small {ps : List (Int × Int)} (h : oks ps = true) : ∀ x ∈ ptL ps ps.length, x.length ≤ 43 := by
  intro x hx
  unfold ptL at hx
  rw [List.take_length, List.mem_map] at hx
  obtain ⟨p, hp, rfl⟩ := hx
  have := okP_num (List.all_eq_true.1 h p hp)
  exact ptT_len this.1 this.2
set_option maxRecDepth 20000 in
set_option maxHeartbeats 3200000 in
theorem s_l16Text (A : Option Addr) (c : Nat) (ps : List (Int × Int)) (w : World) (h : SlAt w 2 encP A ps) (hl : ps.length ≤ 12) (ho : oks ps = true) :
    Calls Tryz.prog 67 #[.slice A ps.length c] w fun e w' => e = .returned (.string (tx (rgT ps))) ∧ Ext w w' := by
  have HO := Lib.hid ho
  have HV0 := Lib.hid (World.ownsRow_made (base := w.heap.size) (e := 9) (size := 1) w #[] 0 (Nat.le_refl _) (Nat.zero_le _) rfl : OwS _ w.heap.size _ (ptL ps 0))
  clear ho
  go_enter Tryz.func67, Tryz.ntmps67
  go_wp2
  go_loopw [3, 4] (fun v i wr => ∃ k : Nat, k ≤ ps.length ∧ i = .int .i64 k ∧ Hid (OwS wr w.heap.size v (ptL ps k)) ∧ Ext w wr) (fun _ i _ => ps.length - (intOf i).toNat)
  case atStart => exact ⟨0, by omega, rfl, HV0, by (repeat (first | with_reducible exact Ext.refl _ | with_reducible assumption | ((with_reducible apply Src.ext); with_reducible assumption) | with_reducible refine Ext.alloc ?_ _ | with_reducible refine Ext.drew ?_ | with_reducible refine Ext.drewN ?_ _ | ((with_reducible refine Ext.setCell' ?_ ?_ _); solve | omega | simp | (simp; omega)) | (with_reducible refine Ext.trans ?_ (by with_reducible assumption))))⟩
  case round =>
    obtain ⟨k, hk, rfl, HV, hxr⟩ := hrel
    have hsr := hxr.size
    have hnl := ptL_len ps k hk
    have HNL := Lib.hid hnl
    clear hnl
    by_cases hlt : k < ps.length
    · obtain ⟨b, off, rfl, hb, d0, d1⟩ := (h.ext hxr).pt hlt
      have hnum := oks_num HO.out hlt
      have HS := Lib.hid (ptL_succ hlt)
      generalize (ps.getD k (0, 0)).1 = x at *
      generalize (ps.getD k (0, 0)).2 = z at *
      have HNU := Lib.hid hnum
      clear hnum
      go_wp2_with fail
      refine (s_l15Text x z _ HNU.out.1 HNU.out.2).mono ?_
      rintro e w2 ⟨rfl, hx2⟩
      have hs2 := hx2.size
      go_wp2_with (at_builtin; refine wpList_append_sl elS len_encS one_encS rfl _ _ rfl rfl (HV.out.ext (by (repeat (first | with_reducible exact Ext.refl _ | with_reducible assumption | ((with_reducible apply Src.ext); with_reducible assumption) | with_reducible refine Ext.alloc ?_ _ | with_reducible refine Ext.drew ?_ | with_reducible refine Ext.drewN ?_ _ | ((with_reducible refine Ext.setCell' ?_ ?_ _); solve | omega | simp | (simp; omega)) | (with_reducible refine Ext.trans ?_ (by with_reducible assumption)))))) (xs := [ptT x z]) rfl (blk_s1 (by (repeat (first | with_reducible assumption | ((with_reducible apply Blk.new); solve | simp | rfl) | with_reducible apply Blk.drew | with_reducible apply Blk.drewN | ((with_reducible apply Blk.far'); solve | omega | simp | (simp; omega)) | with_reducible apply Blk.set_ | with_reducible apply Blk.alloc | ((with_reducible apply Blk.ext'); with_reducible assumption) | ((with_reducible apply Blk.but'); (with_reducible assumption); solve | omega | (simp; omega)))))) (by rw [HNL.out]; simp; unfold maxLen; omega) (by rw [HNL.out]; simp; omega) (by first | omega | (simp; omega)) ?_)
      intro v' w5 hown hgrow _
      rw [← HS.out] at hown
      have HV2 := Lib.hid hown
      have hx5 : Ext w w5 := by
        refine Ext.grown ?_ hgrow (fun q hq => (HV.out.row q hq).1)
        (repeat (first | with_reducible exact Ext.refl _ | with_reducible assumption | ((with_reducible apply Src.ext); with_reducible assumption) | with_reducible refine Ext.alloc ?_ _ | with_reducible refine Ext.drew ?_ | with_reducible refine Ext.drewN ?_ _ | ((with_reducible refine Ext.setCell' ?_ ?_ _); solve | omega | simp | (simp; omega)) | (with_reducible refine Ext.trans ?_ (by with_reducible assumption))))
      clear hown hgrow
      go_wp2
      go_roundw
      case rel => exact ⟨k + 1, by omega, by go_num, HV2, hx5⟩
      case measure => simp [intOf]; omega
    · obtain rfl : k = ps.length := by omega
      obtain ⟨A2, c2, hv, hS2, _, _, _⟩ := HV.out.sl len_encS
      subst hv
      rw [HNL.out]
      have hsm := ptL_small HO.out
      have HL := Lib.hid (fun k => jn_len (sep := [32]) (m := 43) (L := (ptL ps ps.length).take k) fun x hx => hsm x (List.mem_of_mem_take hx))
      have HSM := Lib.hid hsm
      clear hsm
      go_wp2_with fail
      refine (s_l01Words A2 ps.length c2 (ptL ps ps.length) _ hS2 HNL.out.symm (by omega) (fun k => ?_) (fun k => ?_)).mono ?_
      · have h1 := HL.out k
        have h2 : ((ptL ps ps.length).take k).length ≤ 12 := by rw [List.length_take, HNL.out]; omega
        have h3 := Nat.mul_le_mul_left ([32].length + 43) h2
        simp only [List.length_singleton] at h1 h3
        omega
      · rcases Nat.lt_or_ge k (ptL ps ps.length).length with c | c
        · have := HSM.out ((ptL ps ps.length).getD k []) (by simp [List.getD, c])
          omega
        · rw [List.getD_eq_getElem?_getD, List.getElem?_eq_none c]; simp
      rintro e w2 ⟨rfl, hx2⟩
      go_wp2
      go_ret
      exact ⟨rfl, hxr.trans hx2⟩
set_option maxRecDepth 20000 in
set_option maxHeartbeats 3200000 in
theorem i_ringText (A : Option Addr) (c : Nat) (ps : List (Int × Int)) (w : World) (h : SlAt w 2 encP A ps) (h0 : 0 < ps.length) (hl : ps.length ≤ 12) (ho : oks ps = true) (hT : Tab w) :
    Calls Tryz.prog 65 #[.slice A ps.length c] w fun e w' => e = .returned (.string (tx (rgT ps))) ∧ Ext w w' := by
  have HO := Lib.hid ho
  have HT := Lib.hid hT
  have HV0 := Lib.hid (Own.nil w w.heap.size : OwS w w.heap.size (.slice none 0 0) (ptL ps 0))
  clear ho hT
  go_enter Tryz.func65, Tryz.ntmps65
  go_wp2
  go_loopw [3, 8] (fun v i wr => ∃ k : Nat, k ≤ ps.length ∧ i = .int .i64 k ∧ Hid (OwS wr w.heap.size v (ptL ps k)) ∧ Ext w wr) (fun _ i _ => ps.length - (intOf i).toNat)
  case atStart => exact ⟨0, by omega, rfl, HV0, by (repeat (first | with_reducible exact Ext.refl _ | with_reducible assumption | ((with_reducible apply Src.ext); with_reducible assumption) | with_reducible refine Ext.alloc ?_ _ | with_reducible refine Ext.drew ?_ | with_reducible refine Ext.drewN ?_ _ | ((with_reducible refine Ext.setCell' ?_ ?_ _); solve | omega | simp | (simp; omega)) | (with_reducible refine Ext.trans ?_ (by with_reducible assumption))))⟩
  case round =>
    obtain ⟨k, hk, rfl, HV, hxr⟩ := hrel
    have hsr := hxr.size
    have hnl := ptL_len ps k hk
    have HNL := Lib.hid hnl
    clear hnl
    by_cases hlt : k < ps.length
    · obtain ⟨b, off, rfl, hb, d0, d1⟩ := (h.ext hxr).pt hlt
      have hnum := oks_num HO.out hlt
      have HS := Lib.hid (ptL_succ hlt)
      generalize (ps.getD k (0, 0)).1 = x at *
      generalize (ps.getD k (0, 0)).2 = z at *
      have HNU := Lib.hid hnum
      clear hnum
      go_wp2_with fail
      refine (i_pointText x z _ HNU.out.1 HNU.out.2 (HT.out.ext (by (repeat (first | with_reducible exact Ext.refl _ | with_reducible assumption | ((with_reducible apply Src.ext); with_reducible assumption) | with_reducible refine Ext.alloc ?_ _ | with_reducible refine Ext.drew ?_ | with_reducible refine Ext.drewN ?_ _ | ((with_reducible refine Ext.setCell' ?_ ?_ _); solve | omega | simp | (simp; omega)) | (with_reducible refine Ext.trans ?_ (by with_reducible assumption))))))).mono ?_
      rintro e w2 ⟨rfl, hx2⟩
      have hs2 := hx2.size
      (try simp at hs2)
      go_wp2_with (at_builtin; refine wpList_append_sl elS len_encS one_encS rfl _ _ rfl rfl (HV.out.ext (by (repeat (first | with_reducible exact Ext.refl _ | with_reducible assumption | ((with_reducible apply Src.ext); with_reducible assumption) | with_reducible refine Ext.alloc ?_ _ | with_reducible refine Ext.drew ?_ | with_reducible refine Ext.drewN ?_ _ | ((with_reducible refine Ext.setCell' ?_ ?_ _); solve | omega | simp | (simp; omega)) | (with_reducible refine Ext.trans ?_ (by with_reducible assumption)))))) (xs := [ptT x z]) rfl (blk_s1 (by (repeat (first | with_reducible assumption | ((with_reducible apply Blk.new); solve | simp | rfl) | with_reducible apply Blk.drew | with_reducible apply Blk.drewN | ((with_reducible apply Blk.far'); solve | omega | simp | (simp; omega)) | with_reducible apply Blk.set_ | with_reducible apply Blk.alloc | ((with_reducible apply Blk.ext'); with_reducible assumption) | ((with_reducible apply Blk.but'); (with_reducible assumption); solve | omega | (simp; omega)))))) (by rw [HNL.out]; simp; unfold maxLen; omega) (by rw [HNL.out]; simp; omega) (by first | omega | (simp; omega)) ?_)
      intro v' w5 hown hgrow _
      rw [← HS.out] at hown
      have HV2 := Lib.hid hown
      have hx5 : Ext w w5 := by
        refine Ext.grown ?_ hgrow (fun q hq => (HV.out.row q hq).1)
        (repeat (first | with_reducible exact Ext.refl _ | with_reducible assumption | ((with_reducible apply Src.ext); with_reducible assumption) | with_reducible refine Ext.alloc ?_ _ | with_reducible refine Ext.drew ?_ | with_reducible refine Ext.drewN ?_ _ | ((with_reducible refine Ext.setCell' ?_ ?_ _); solve | omega | simp | (simp; omega)) | (with_reducible refine Ext.trans ?_ (by with_reducible assumption))))
      clear hown hgrow
      go_wp2
      go_roundw
      case rel => exact ⟨k + 1, by omega, by go_num, HV2, hx5⟩
      case measure => simp [intOf]; omega
    · obtain rfl : k = ps.length := by omega
      obtain ⟨A2, c2, hv, hS2, hcap, _, _⟩ := HV.out.sl len_encS
      subst hv
      rw [HNL.out] at hcap ⊢
      obtain ⟨g, off, rfl, hg, _⟩ := hS2.st (k := 0) (by rw [HNL.out]; exact h0)
      have HSL := Lib.hid hS2
      have hsm := ptL_small HO.out
      have HL := Lib.hid (jn_len (sep := [32]) (m := 43) (L := ptL ps ps.length) hsm)
      have hmm : ((ptL ps ps.length).map tx).map (·.data.toList) = ptL ps ps.length := by rw [List.map_map]; exact List.map_id'' (fun l => tx_list l) _
      have HMM := Lib.hid hmm
      have hln : ((ptL ps ps.length).map tx).length = ps.length := by rw [List.length_map, HNL.out]
      have HJN := Tryz.strings_Join g off c2 ((ptL ps ps.length).map tx) ⟨#[32]⟩ wr (fun j x hj => by
        rw [List.getElem?_map] at hj
        obtain ⟨l, hl1, rfl⟩ := Option.map_eq_some_iff.1 hj
        have hjl : j < (ptL ps ps.length).length := (List.getElem?_eq_some_iff.1 hl1).1
        have := SlAt.st' HSL.out hjl
        rw [show (ptL ps ps.length).getD j [] = l by simp [List.getD, hl1]] at this
        exact this) hg (by rw [hln]; omega) (by rw [hln]; exact hcap) (by
          rw [HMM.out]
          have h1 := HL.out
          have h3 := Nat.mul_le_mul_left ([32].length + 43) (show (ptL ps ps.length).length ≤ 12 by rw [HNL.out]; exact hl)
          simp only [List.length_singleton] at h1 h3
          show (jn (ptL ps ps.length) [32]).length ≤ _
          omega)
      rw [hmm, hln] at HJN
      have HJ := Lib.hid HJN
      clear HJN hmm hln hsm hS2
      go_wp2_with fail
      refine HJ.out.mono ?_
      rintro e w2 ⟨rfl, hx2⟩
      have hx2' : Ext wr w2 := hx2
      go_wp2
      go_ret
      exact ⟨rfl, hxr.trans hx2'⟩
/-- what RingText returns -/
noncomputable def rgR (ps : List (Int × Int)) : List UInt8 := if ringB ps = true then rgT ps else []
set_option maxHeartbeats 1600000 in
theorem s_RingText (A : Option Addr) (c : Nat) (ps : List (Int × Int)) (w : World) (h : SlAt w 2 encP A ps) (hl : ps.length ≤ 1048576) :
    Calls Tryz.prog 18 #[.slice A ps.length c] w fun e w' => e = .returned (.tuple #[.string (tx (rgR ps)), .int .i64 (ringC ps)]) ∧ Ext w w' := by
  by_cases hr : ringB ps = true
  · rw [ringC_yes hr, show rgR ps = rgT ps by unfold rgR; rw [if_pos hr]]
    have HRB : Hid (Calls Tryz.prog 66 #[.slice A ps.length c] w fun e w' => e = .returned (.bool true) ∧ Ext w w') := Lib.hid (as_bool (s_IsRing _ _ ps _ h hl) hr)
    obtain ⟨h0, hl12, ho⟩ := ring_facts hr
    have HO := Lib.hid ho
    clear hr ho
    go_enter Tryz.func18, Tryz.ntmps18
    (go_wp2_with fail; refine (HRB.out).mono ?_; rintro e w1 ⟨rfl, hx1⟩; obtain ⟨hc1, hf1⟩ := hx1.rules; have hs1 := hx1.size; (try simp at hs1))
    (go_wp2_with fail; refine (s_l16Text _ _ ps _ (h.ext hx1) hl12 HO.out).mono ?_; rintro e w2 ⟨rfl, hx2⟩; obtain ⟨hc2, hf2⟩ := hx2.rules; have hs2 := hx2.size; (try simp at hs2))
    go_wp2
    go_ret2
    exact ⟨rfl, by (repeat (first | with_reducible exact Ext.refl _ | with_reducible assumption | ((with_reducible apply Src.ext); with_reducible assumption) | with_reducible refine Ext.alloc ?_ _ | with_reducible refine Ext.drew ?_ | with_reducible refine Ext.drewN ?_ _ | ((with_reducible refine Ext.setCell' ?_ ?_ _); solve | omega | simp | (simp; omega)) | (with_reducible refine Ext.trans ?_ (by with_reducible assumption))))⟩
  · have hr' : ringB ps = false := Bool.eq_false_iff.2 hr
    rw [ringC_no hr', show rgR ps = [] by unfold rgR; rw [if_neg hr]]
    have HRB : Hid (Calls Tryz.prog 66 #[.slice A ps.length c] w fun e w' => e = .returned (.bool false) ∧ Ext w w') := Lib.hid (as_bool (s_IsRing _ _ ps _ h hl) hr')
    clear hr hr'
    go_enter Tryz.func18, Tryz.ntmps18
    (go_wp2_with fail; refine (HRB.out).mono ?_; rintro e w1 ⟨rfl, hx1⟩; obtain ⟨hc1, hf1⟩ := hx1.rules; have hs1 := hx1.size; (try simp at hs1))
    go_wp2
    go_ret2
    exact ⟨rfl, by (repeat (first | with_reducible exact Ext.refl _ | with_reducible assumption | ((with_reducible apply Src.ext); with_reducible assumption) | with_reducible refine Ext.alloc ?_ _ | with_reducible refine Ext.drew ?_ | with_reducible refine Ext.drewN ?_ _ | ((with_reducible refine Ext.setCell' ?_ ?_ _); solve | omega | simp | (simp; omega)) | (with_reducible refine Ext.trans ?_ (by with_reducible assumption))))⟩
set_option maxHeartbeats 1600000 in
theorem i_RingText (A : Option Addr) (c : Nat) (ps : List (Int × Int)) (w : World) (h : SlAt w 2 encP A ps) (hl : ps.length ≤ 1048576) (hc : ps.length ≤ c) (hT : Tab w) :
    Calls Tryz.prog 17 #[.slice A ps.length c] w fun e w' => e = .returned (.tuple #[.string (tx (rgR ps)), .int .i64 (ringC ps)]) ∧ Ext w w' := by
  have HT := Lib.hid hT
  clear hT
  by_cases hr : ringB ps = true
  · rw [ringC_yes hr, show rgR ps = rgT ps by unfold rgR; rw [if_pos hr]]
    have HRB : Hid (Calls Tryz.prog 23 #[.slice A ps.length c] w fun e w' => e = .returned (.bool true) ∧ Ext w w') := Lib.hid (as_bool (i_IsRing _ _ ps _ h hl hc) hr)
    obtain ⟨h0, hl12, ho⟩ := ring_facts hr
    have HO := Lib.hid ho
    clear hr ho
    go_enter Tryz.func17, Tryz.ntmps17
    (go_wp2_with fail; refine (HRB.out).mono ?_; rintro e w1 ⟨rfl, hx1⟩; obtain ⟨hc1, hf1⟩ := hx1.rules; have hs1 := hx1.size; (try simp at hs1))
    (go_wp2_with fail; refine (i_ringText _ _ ps _ (h.ext hx1) h0 hl12 HO.out (HT.out.ext hx1)).mono ?_; rintro e w2 ⟨rfl, hx2⟩; obtain ⟨hc2, hf2⟩ := hx2.rules; have hs2 := hx2.size; (try simp at hs2))
    go_wp2
    go_ret2
    exact ⟨rfl, by (repeat (first | with_reducible exact Ext.refl _ | with_reducible assumption | ((with_reducible apply Src.ext); with_reducible assumption) | with_reducible refine Ext.alloc ?_ _ | with_reducible refine Ext.drew ?_ | with_reducible refine Ext.drewN ?_ _ | ((with_reducible refine Ext.setCell' ?_ ?_ _); solve | omega | simp | (simp; omega)) | (with_reducible refine Ext.trans ?_ (by with_reducible assumption))))⟩
  · have hr' : ringB ps = false := Bool.eq_false_iff.2 hr
    rw [ringC_no hr', show rgR ps = [] by unfold rgR; rw [if_neg hr]]
    have HRB : Hid (Calls Tryz.prog 23 #[.slice A ps.length c] w fun e w' => e = .returned (.bool false) ∧ Ext w w') := Lib.hid (as_bool (i_IsRing _ _ ps _ h hl hc) hr')
    clear hr hr'
    go_enter Tryz.func17, Tryz.ntmps17
    (go_wp2_with fail; refine (HRB.out).mono ?_; rintro e w1 ⟨rfl, hx1⟩; obtain ⟨hc1, hf1⟩ := hx1.rules; have hs1 := hx1.size; (try simp at hs1))
    go_wp2
    go_ret2
    exact ⟨rfl, by (repeat (first | with_reducible exact Ext.refl _ | with_reducible assumption | ((with_reducible apply Src.ext); with_reducible assumption) | with_reducible refine Ext.alloc ?_ _ | with_reducible refine Ext.drew ?_ | with_reducible refine Ext.drewN ?_ _ | ((with_reducible refine Ext.setCell' ?_ ?_ _); solve | omega | simp | (simp; omega)) | (with_reducible refine Ext.trans ?_ (by with_reducible assumption))))⟩

end Go.Proofs.YtdbheipjbjcikaaGreatDoor
