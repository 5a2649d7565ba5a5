/- Years in which something of a world begins or has ended, as the specification sees them. -/
import Derived.Test.YtapfokfbdmcokaaGreatDoorYYA
import Derived.Deep.RegionHeld3
import Derived.Deep.DeepCutAuto
import Derived.RegionTactic
import Derived.BigRegion
import Derived.WalkLawsBesides
import Derived.WalkSpells
import Derived.Lib.MinMax
import Derived.Outline
namespace Go.Proofs.YtapfokfbdmcokaaGreatDoor
open Go.RowKit
attribute [local go_sem] ExtOf.cell ExtOf.frozen


theorem step_append_slA {α : Type} {enc : α → List Value} {sz by_ : Nat} {P : Program} {ts te : TypeId} (H : ElT P ts te sz by_) (hk : ∀ x, (enc x).length = sz) (h1 : ∀ x, ∀ u ∈ enc x, u.oneCell' = true) {w : World} {ops : Array Oper} {o : Oper} {a : Act} {K : Act → World → Prop} {Q : Exit → Act → World → Prop} {E : Prop} (hgd : o.guard = none) (s x : Operand)
    (ho : o.op = .call { callee := .builtin .append, args := #[s, x], argTypes := #[ts, ts] }) {base : Nat} {v : Value} {ys : List α} (hs : a.eval s = v) (hown : Own enc sz te w base v ys)
    {A : Option Addr} {c : Nat} {xs : List α} (hx : a.eval x = .slice A xs.length c) (hsl : SlAt w sz enc A xs) (h63 : ys.length + xs.length ≤ maxLen) (hbytes : (ys.length + xs.length) * by_ ≤ 140737488355328) (hbase : base ≤ w.heap.size)
    (h : ∀ v' w', Own enc sz te w' base v' (ys ++ xs) → w.grownBy w' v.ownBlock → (v'.ownBlock = v.ownBlock ∨ v'.ownBlock = some w.heap.size) → K (a.put o.dst v') w') :
    if Region.wanted o (yielded ops a.tmps) = true then Oper.wp P o a w K Q else E := by
  have hw : Region.wanted o (yielded ops a.tmps) = true := by simp [Region.wanted, hgd]
  rw [if_pos hw]
  obtain ⟨v', w', a1, a2, a3, a4, a5⟩ := run_append_slA H o.type hk h1 hown (c := c) hsl h63 hbytes hbase
  exact Lib.wp_append_run w s x ts ts ho _ _ hs hx v' w' a1 (h v' w' a2 a3 a5)
theorem wdB_n12 {D : List Pd} {L : List Lk} (h : wdB D L = true) : ∀ d ∈ D, d.2.2.2.2.length ≤ 12 := fun d hd => by
  obtain ⟨j, hj, rfl⟩ := List.mem_iff_getElem.1 hd
  have := wdB_pl h hj
  rw [show D.getD j pdD = D[j] by simp [List.getD, hj]] at this
  exact (nsB_iff.1 (plB_iff.1 this).2.2.2.1).2
theorem lk_sp {L : List Lk} (h : lksB L = true) {j : Nat} (hj : j < L.length) : -3000 ≤ (L.getD j lkD).2.2.1 ∧ (L.getD j lkD).2.2.1 ≤ (L.getD j lkD).2.2.2 ∧ (L.getD j lkD).2.2.2 ≤ 3000 := by
  have h1 := ((lksB_iff.1 h).1.1 j hj).1
  unfold lkB at h1
  simp only [Bool.and_eq_true] at h1
  exact spB_iff.1 h1.2
theorem nm_sp {ns : List Nm} (h : nsB ns = true) {i : Nat} (hi : i < ns.length) : -3000 ≤ (ns.getD i nmD).2.2.2.1 ∧ (ns.getD i nmD).2.2.2.1 ≤ (ns.getD i nmD).2.2.2.2 ∧ (ns.getD i nmD).2.2.2.2 ≤ 3000 := by
  have h5 := (okN_iff.1 ((nsB_iff.1 h).1 i hi)).1
  unfold nmB at h5
  simp only [Bool.and_eq_true] at h5
  exact spB_iff.1 h5.2
section
variable {w : World} {A A' : Option Addr} {n c m c' : Nat} {ps : List Pl} {L : List Lk}
set_option maxRecDepth 20000 in
set_option maxHeartbeats 25600000 in
theorem s_l14Marks (h : WIn w A A' n c m c' ps L) (hw : wdB (psD ps) L = true) :
    Calls Tryz.prog 72 #[.agg #[.slice A n c, .slice A' m c']] w fun e w' => ∃ v, e = .returned v ∧ OwI w' w.heap.size v (mkW (psD ps) L) ∧ Ext w w' := by
  have HS := Lib.hid h.sq
  have HSK := Lib.hid h.sk
  have HN := Lib.hid h.hn
  have HM := Lib.hid h.hm
  have HPA := Lib.hid (fun k (hk : k < ps.length) => (h.pl _ (pl_mem hk)).1)
  have HPB : Hid (∀ k, k < ps.length → plB (pdOf (ps.getD k plD)) = true) := Lib.hid (fun k hk => by have := wdB_pl hw (j := k) (by rw [psD_len]; exact hk); rwa [psD_at hk] at this)
  have HLS := Lib.hid (fun k (hk : k < L.length) => lk_sp (wdB_iff.1 hw).2.1 hk)
  have hn10 : n ≤ 10 := by have := wdB_len hw; rw [psD_len, ← h.hn] at this; exact this
  have hm20 : m ≤ 20 := by rw [h.hm]; exact (lksB_iff.1 (wdB_iff.1 hw).2.1).1.2
  have HLEN := Lib.hid (fun k => mkP_len (wdB_n12 hw) k)
  clear h hw
  go_enter Tryz.func72, Tryz.ntmps72
  go_wp2
  go_loopw [3, 4] (fun v i wr => ∃ k : Nat, k ≤ n ∧ i = .int .i64 k ∧ Hid (OwI wr (w.heap.size + 1) v ([-3000] ++ mkP (psD ps) k)) ∧ Blk wr w.heap.size 33 #[.slice A n c, .slice A' m c'] ∧ Ext w wr) (fun _ i _ => n - (intOf i).toNat)
  case atStart => exact ⟨0, by omega, rfl, Lib.hid (Own.of_blk (g := w.heap.size + 1) (cs := #[.int .i64 (-3000)]) (xs := [-3000]) (by (repeat (first | with_reducible assumption | ((with_reducible apply Blk.new); solve | simp | rfl) | with_reducible apply Blk.drew | with_reducible apply Blk.drewN | ((with_reducible apply Blk.far'); solve | omega | simp | (simp; omega)) | with_reducible apply Blk.set_ | with_reducible apply Blk.alloc | ((with_reducible apply Blk.ext'); with_reducible assumption) | ((with_reducible apply Blk.but'); (with_reducible assumption); solve | omega | (simp; omega))))) len_encI rfl (Nat.le_refl _) (by simp [maxLen])), by (repeat (first | with_reducible assumption | ((with_reducible apply Blk.new); solve | simp | rfl) | with_reducible apply Blk.drew | with_reducible apply Blk.drewN | ((with_reducible apply Blk.far'); solve | omega | simp | (simp; omega)) | with_reducible apply Blk.set_ | with_reducible apply Blk.alloc | ((with_reducible apply Blk.ext'); with_reducible assumption) | ((with_reducible apply Blk.but'); (with_reducible assumption); solve | omega | (simp; omega)))), by (repeat (first | with_reducible exact Ext.refl _ | with_reducible assumption | ((with_reducible apply Src.ext); with_reducible assumption) | with_reducible refine Ext.alloc ?_ _ | with_reducible refine Ext.drew ?_ | with_reducible refine Ext.drewN ?_ _ | ((with_reducible refine Ext.setCell' ?_ ?_ _); solve | omega | simp | (simp; omega)) | (with_reducible refine Ext.trans ?_ (by with_reducible assumption))))⟩
  case round =>
    obtain ⟨k, hk, rfl, HV, hBW, hxr⟩ := hrel
    obtain ⟨w5, rfl⟩ : ∃ x, x = wr := ⟨wr, rfl⟩
    have HBW := Lib.hid hBW
    have t0 : w5.cell? ⟨w.heap.size, 0, none⟩ = some (.slice A n c) := hBW.cell 0
    have zw := hBW.lt
    have hsr := hxr.size
    by_cases hlt : k < n
    · have hkr : k < ps.length := by rw [← HN.out]; exact hlt
      obtain ⟨b9, off, hA, hb, d0, d1, d2, d3, d4⟩ := (HS.out.ext hxr).pl hkr
      subst hA
      have hsp := plB_sp (HPB.out k hkr)
      have hsp2 : -3000 ≤ (ps.getD k plD).2.2.1 ∧ (ps.getD k plD).2.2.1 ≤ (ps.getD k plD).2.2.2.1 ∧ (ps.getD k plD).2.2.2.1 ≤ 3000 := hsp
      have hns := (plB_iff.1 (HPB.out k hkr)).2.2.2.1
      have HNS : Hid (nsB (ps.getD k plD).2.2.2.2.2.2 = true) := Lib.hid hns
      have HSU : Hid ([-3000] ++ mkP (psD ps) (k + 1) = ([-3000] ++ mkP (psD ps) k) ++ [(ps.getD k plD).2.2.1, (ps.getD k plD).2.2.2.1 + 1] ++ mkN (ps.getD k plD).2.2.2.2.2.2 (ps.getD k plD).2.2.2.2.2.2.length) := Lib.hid (by
        rw [mkP_succ (by rw [psD_len]; exact hkr), psD_at hkr]
        simp only [List.append_assoc]
        rfl)
      have HSN := Lib.hid (HPA.out k hkr)
      have HLN : Hid (([-3000] ++ mkP (psD ps) k).length ≤ 1000) := Lib.hid (by have := HLEN.out k; rw [List.length_append]; simp only [List.length_singleton]; omega)
      clear hsp hns hkr
      generalize tx (ps.getD k plD).1 = s0 at *
      generalize (ps.getD k plD).2.1 = s1 at *
      generalize (ps.getD k plD).2.2.1 = s2 at *
      generalize (ps.getD k plD).2.2.2.1 = s3 at *
      generalize (ps.getD k plD).2.2.2.2.1 = s4 at *
      generalize (ps.getD k plD).2.2.2.2.2.1 = s6 at *
      generalize (ps.getD k plD).2.2.2.2.2.2 = ns at *
      obtain ⟨s5, hs5⟩ : ∃ s5, s5 = ns.length := ⟨_, rfl⟩
      rw [← hs5] at d4 HSU
      have HS5 := Lib.hid hs5
      have hs12 : s5 ≤ 12 := by rw [hs5]; exact (nsB_iff.1 HNS.out).2
      obtain ⟨q1, q2, q3⟩ := hsp2
      have hwr : IntKind.i64.wrap (s3 + 1) = s3 + 1 := IntWalk.i64_in _ (by omega)
      clear hs5 hBW
      generalize [-3000] ++ mkP (psD ps) k = acc at *
      go_wp2_with (at_builtin; refine wpList_append_slA elI len_encI one_encI rfl _ _ rfl rfl (HV.out.ext (by (repeat (first | with_reducible exact Ext.refl _ | with_reducible assumption | ((with_reducible apply Src.ext); with_reducible assumption) | with_reducible refine Ext.alloc ?_ _ | with_reducible refine Ext.drew ?_ | with_reducible refine Ext.drewN ?_ _ | ((with_reducible refine Ext.setCell' ?_ ?_ _); solve | omega | simp | (simp; omega)) | (with_reducible refine Ext.trans ?_ (by with_reducible assumption)))))) (xs := [s2, s3 + 1]) rfl (blk_i2 (by (repeat (first | with_reducible assumption | ((with_reducible apply Blk.new); solve | simp | rfl) | with_reducible apply Blk.drew | with_reducible apply Blk.drewN | ((with_reducible apply Blk.far'); solve | omega | simp | (simp; omega)) | with_reducible apply Blk.set_ | with_reducible apply Blk.alloc | ((with_reducible apply Blk.ext'); with_reducible assumption) | ((with_reducible apply Blk.but'); (with_reducible assumption); solve | omega | (simp; omega)))))) (by have := HLN.out; simp; unfold maxLen; omega) (by have := HLN.out; simp; omega) (by first | omega | (simp; omega)) ?_)
      intro v6 w6 hO6 hg6 _ hloc6
      have HO6 := Lib.hid hO6
      have hx6 : Ext w w6 := Ext.grown (hxr.trans (by (repeat (first | with_reducible exact Ext.refl _ | with_reducible assumption | ((with_reducible apply Src.ext); with_reducible assumption) | with_reducible refine Ext.alloc ?_ _ | with_reducible refine Ext.drew ?_ | with_reducible refine Ext.drewN ?_ _ | ((with_reducible refine Ext.setCell' ?_ ?_ _); solve | omega | simp | (simp; omega)) | (with_reducible refine Ext.trans ?_ (by with_reducible assumption)))))) hg6 (fun q hq => Nat.le_of_succ_le (HV.out.row q hq).1)
      have hbw6 : Blk w6 w.heap.size 33 #[.slice (some ⟨b9, off, none⟩) n c, .slice A' m c'] := blk_keptE hg6 (HBW.out.ext (by (repeat (first | with_reducible exact Ext.refl _ | with_reducible assumption | ((with_reducible apply Src.ext); with_reducible assumption) | with_reducible refine Ext.alloc ?_ _ | with_reducible refine Ext.drew ?_ | with_reducible refine Ext.drewN ?_ _ | ((with_reducible refine Ext.setCell' ?_ ?_ _); solve | omega | simp | (simp; omega)) | (with_reducible refine Ext.trans ?_ (by with_reducible assumption)))))) (fun e => by have := (HV.out.row _ e.symm).1; omega)
      have hbp6 : Blk w6 w5.heap.size 78 #[.string s0, .int .i64 s1, .int .i64 s2, .int .i64 s3, .slice s4 s5 s6] := blk_keptE hg6 (Blk.eq (by (repeat (first | with_reducible assumption | ((with_reducible apply Blk.new); solve | simp | rfl) | with_reducible apply Blk.drew | with_reducible apply Blk.drewN | ((with_reducible apply Blk.far'); solve | omega | simp | (simp; omega)) | with_reducible apply Blk.set_ | with_reducible apply Blk.alloc | ((with_reducible apply Blk.ext'); with_reducible assumption) | ((with_reducible apply Blk.but'); (with_reducible assumption); solve | omega | (simp; omega))))) (by rfl)) (fun e => by have := (HV.out.row _ e.symm).2; omega)
      have HNB6 : Hid (∀ q, v6.ownBlock = some q → q ≠ w5.heap.size) := Lib.hid (fun q hq => by
        rcases hloc6 with e | e
        · rw [e] at hq; have := (HV.out.row q hq).2; omega
        · rw [e] at hq; injection hq with hq; (try simp at hq); omega)
      have HBW6 := Lib.hid hbw6
      have HBP6 := Lib.hid hbp6
      have HX6 := Lib.hid hx6
      clear hO6 hg6 hloc6 t0 d0 d1 d2 d3 d4 HV hbw6 hbp6 hx6
      go_wp2
      go_loopw [3, 6] (fun v i wr => ∃ j : Nat, j ≤ s5 ∧ i = .int .i64 j ∧ Hid (OwI wr (w.heap.size + 1) v (acc ++ [s2, s3 + 1] ++ mkN ns j)) ∧ Blk wr w.heap.size 33 #[.slice (some ⟨b9, off, none⟩) n c, .slice A' m c'] ∧ Blk wr w5.heap.size 78 #[.string s0, .int .i64 s1, .int .i64 s2, .int .i64 s3, .slice s4 s5 s6] ∧ Ext w wr ∧ Hid (∀ q, v.ownBlock = some q → q ≠ w5.heap.size)) (fun _ i _ => s5 - (intOf i).toNat)
      case atStart => exact ⟨0, by omega, rfl, Lib.hid (by rw [show mkN ns 0 = [] by simp [mkN], List.append_nil]; exact HO6.out.ext (by (repeat (first | with_reducible exact Ext.refl _ | with_reducible assumption | ((with_reducible apply Src.ext); with_reducible assumption) | with_reducible refine Ext.alloc ?_ _ | with_reducible refine Ext.drew ?_ | with_reducible refine Ext.drewN ?_ _ | ((with_reducible refine Ext.setCell' ?_ ?_ _); solve | omega | simp | (simp; omega)) | (with_reducible refine Ext.trans ?_ (by with_reducible assumption)))))), HBW6.out.ext (by (repeat (first | with_reducible exact Ext.refl _ | with_reducible assumption | ((with_reducible apply Src.ext); with_reducible assumption) | with_reducible refine Ext.alloc ?_ _ | with_reducible refine Ext.drew ?_ | with_reducible refine Ext.drewN ?_ _ | ((with_reducible refine Ext.setCell' ?_ ?_ _); solve | omega | simp | (simp; omega)) | (with_reducible refine Ext.trans ?_ (by with_reducible assumption))))), HBP6.out.ext (by (repeat (first | with_reducible exact Ext.refl _ | with_reducible assumption | ((with_reducible apply Src.ext); with_reducible assumption) | with_reducible refine Ext.alloc ?_ _ | with_reducible refine Ext.drew ?_ | with_reducible refine Ext.drewN ?_ _ | ((with_reducible refine Ext.setCell' ?_ ?_ _); solve | omega | simp | (simp; omega)) | (with_reducible refine Ext.trans ?_ (by with_reducible assumption))))), HX6.out.trans (by (repeat (first | with_reducible exact Ext.refl _ | with_reducible assumption | ((with_reducible apply Src.ext); with_reducible assumption) | with_reducible refine Ext.alloc ?_ _ | with_reducible refine Ext.drew ?_ | with_reducible refine Ext.drewN ?_ _ | ((with_reducible refine Ext.setCell' ?_ ?_ _); solve | omega | simp | (simp; omega)) | (with_reducible refine Ext.trans ?_ (by with_reducible assumption))))), HNB6⟩
      case round =>
        obtain ⟨j, hj, rfl, HV2, hBW2, hBP2, hxq, HNB⟩ := hrel
        obtain ⟨w7, rfl⟩ : ∃ x, x = wr := ⟨wr, rfl⟩
        have HBW2 := Lib.hid hBW2
        have HBP2 := Lib.hid hBP2
        have zp := hBP2.lt
        have zw2 := hBW2.lt
        have u4 : w7.cell? ⟨w5.heap.size, 4, none⟩ = some (.slice s4 s5 s6) := hBP2.cell 4
        have hsq := hxq.size
        by_cases hjl : j < s5
        · have hjr : j < ns.length := by rw [← HS5.out]; exact hjl
          obtain ⟨bn, on, hAn, hbn, e0, e1, e2, e3, e4⟩ := HSN.out.nm hjr
          subst hAn
          obtain ⟨p1, p2, p3⟩ := nm_sp HNS.out hjr
          have HSU2 : Hid (acc ++ [s2, s3 + 1] ++ mkN ns (j + 1) = (acc ++ [s2, s3 + 1] ++ mkN ns j) ++ [(ns.getD j nmD).2.2.2.1, (ns.getD j nmD).2.2.2.2 + 1]) := Lib.hid (by rw [mkN_succ hjr]; simp only [List.append_assoc])
          have HLN2 : Hid ((acc ++ [s2, s3 + 1] ++ mkN ns j).length ≤ 2000) := Lib.hid (by have h1 := HLN.out; have h2 := mkN_len ns j; simp only [List.length_append, List.length_cons, List.length_nil]; omega)
          clear e0 e1 e2 hjr hBW2 hBP2
          generalize (ns.getD j nmD).2.2.2.1 = yf at *
          generalize (ns.getD j nmD).2.2.2.2 = yt at *
          have hwr2 : IntKind.i64.wrap (yt + 1) = yt + 1 := IntWalk.i64_in _ (by omega)
          have HKN : Hid (∀ W, Ext w W → W.cell? ⟨bn, on + j * 5 + 3, none⟩ = some (.int .i64 yf) ∧ W.cell? ⟨bn, on + j * 5 + 4, none⟩ = some (.int .i64 yt)) := Lib.hid (fun W hW => ⟨(hW.cell _ _ hbn).trans e3, (hW.cell _ _ hbn).trans e4⟩)
          have HKP : Hid (∀ W, Ext w7 W → W.cell? ⟨w5.heap.size, 4, none⟩ = some (.slice (some ⟨bn, on, none⟩) s5 s6) ∧ W.cell? ⟨bn, on + j * 5 + 3, none⟩ = some (.int .i64 yf) ∧ W.cell? ⟨bn, on + j * 5 + 4, none⟩ = some (.int .i64 yt)) := Lib.hid (fun W hW => ⟨(hW.cell _ _ zp).trans u4, HKN.out W (hxq.trans hW)⟩)
          obtain ⟨v1, v2, v3⟩ := HKP.out w7 (Ext.refl _)
          generalize hac : acc ++ [s2, s3 + 1] ++ mkN ns j = ac2 at *
          clear u4 e3 e4 hbn
          go_wp2
          go_region_held3 (fun w' => w'.cell? ⟨w5.heap.size, 4, none⟩ = some (.slice (some ⟨bn, on, none⟩) s5 s6) ∧ w'.cell? ⟨bn, on + j * 5 + 3, none⟩ = some (.int .i64 yf) ∧ w'.cell? ⟨bn, on + j * 5 + 4, none⟩ = some (.int .i64 yt)) (first | exact hk8 | exact HKP.out _ (by (repeat (first | with_reducible exact Ext.refl _ | with_reducible assumption | ((with_reducible apply Src.ext); with_reducible assumption) | with_reducible refine Ext.alloc ?_ _ | with_reducible refine Ext.drew ?_ | with_reducible refine Ext.drewN ?_ _ | ((with_reducible refine Ext.setCell' ?_ ?_ _); solve | omega | simp | (simp; omega)) | (with_reducible refine Ext.trans ?_ (by with_reducible assumption))))) | go_keep) (first | (refine step_append_slA elI len_encI one_encI rfl _ _ rfl rfl (HV2.out.ext (by (repeat (first | with_reducible exact Ext.refl _ | with_reducible assumption | ((with_reducible apply Src.ext); with_reducible assumption) | with_reducible refine Ext.alloc ?_ _ | with_reducible refine Ext.drew ?_ | with_reducible refine Ext.drewN ?_ _ | ((with_reducible refine Ext.setCell' ?_ ?_ _); solve | omega | simp | (simp; omega)) | (with_reducible refine Ext.trans ?_ (by with_reducible assumption)))))) (xs := [yf, yt + 1]) rfl (blk_i2 (by (repeat (first | with_reducible assumption | ((with_reducible apply Blk.new); solve | simp | rfl) | with_reducible apply Blk.drew | with_reducible apply Blk.drewN | ((with_reducible apply Blk.far'); solve | omega | simp | (simp; omega)) | with_reducible apply Blk.set_ | with_reducible apply Blk.alloc | ((with_reducible apply Blk.ext'); with_reducible assumption) | ((with_reducible apply Blk.but'); (with_reducible assumption); solve | omega | (simp; omega)))))) (by have := HLN2.out; simp; unfold maxLen; omega) (by have := HLN2.out; simp; omega) (by first | omega | (simp; omega)) ?_; intro v8 w8 hO8 hg8 hloc8; have hx8 : Ext w w8 := Ext.grown (hxq.trans (by (repeat (first | with_reducible exact Ext.refl _ | with_reducible assumption | ((with_reducible apply Src.ext); with_reducible assumption) | with_reducible refine Ext.alloc ?_ _ | with_reducible refine Ext.drew ?_ | with_reducible refine Ext.drewN ?_ _ | ((with_reducible refine Ext.setCell' ?_ ?_ _); solve | omega | simp | (simp; omega)) | (with_reducible refine Ext.trans ?_ (by with_reducible assumption)))))) hg8 (fun q hq => Nat.le_of_succ_le (HV2.out.row q hq).1); have hbw8 := blk_keptE hg8 (HBW2.out.ext (by (repeat (first | with_reducible exact Ext.refl _ | with_reducible assumption | ((with_reducible apply Src.ext); with_reducible assumption) | with_reducible refine Ext.alloc ?_ _ | with_reducible refine Ext.drew ?_ | with_reducible refine Ext.drewN ?_ _ | ((with_reducible refine Ext.setCell' ?_ ?_ _); solve | omega | simp | (simp; omega)) | (with_reducible refine Ext.trans ?_ (by with_reducible assumption)))))) (fun e => by have := (HV2.out.row _ e.symm).1; omega); have hbp8 := blk_keptE hg8 (HBP2.out.ext (by (repeat (first | with_reducible exact Ext.refl _ | with_reducible assumption | ((with_reducible apply Src.ext); with_reducible assumption) | with_reducible refine Ext.alloc ?_ _ | with_reducible refine Ext.drew ?_ | with_reducible refine Ext.drewN ?_ _ | ((with_reducible refine Ext.setCell' ?_ ?_ _); solve | omega | simp | (simp; omega)) | (with_reducible refine Ext.trans ?_ (by with_reducible assumption)))))) (fun e => HNB.out _ e.symm rfl); have hk8 := And.intro (show w8.cell? ⟨w5.heap.size, 4, none⟩ = some (.slice (some ⟨bn, on, none⟩) s5 s6) from hbp8.cell 4) (HKN.out w8 hx8)))
          all_goals
            have HV8 := Lib.hid hO8
            have HNB8 : Hid (∀ q, v8.ownBlock = some q → q ≠ w5.heap.size) := Lib.hid (fun q hq => by
              rcases hloc8 with e | e
              · rw [e] at hq; exact HNB.out q hq
              · rw [e] at hq; injection hq with hq; (try simp at hq); omega)
            clear hO8 hg8 hloc8
            go_wp2
            go_roundw
            case rel => exact ⟨j + 1, by omega, by go_num, Lib.hid (by rw [HSU2.out]; exact HV8.out), hbw8, hbp8, hx8, HNB8⟩
            case measure => simp [intOf]; omega
        · obtain rfl : j = s5 := by omega
          have HV9 : Hid (OwI w7 (w.heap.size + 1) _ ([-3000] ++ mkP (psD ps) (k + 1))) := Lib.hid (by rw [HSU.out]; exact HV2.out)
          go_wp2
          go_roundw
          case rel => exact ⟨k + 1, by omega, by go_num, HV9, hBW2, by (repeat (first | with_reducible exact Ext.refl _ | with_reducible assumption | ((with_reducible apply Src.ext); with_reducible assumption) | with_reducible refine Ext.alloc ?_ _ | with_reducible refine Ext.drew ?_ | with_reducible refine Ext.drewN ?_ _ | ((with_reducible refine Ext.setCell' ?_ ?_ _); solve | omega | simp | (simp; omega)) | (with_reducible refine Ext.trans ?_ (by with_reducible assumption))))⟩
          case measure => simp [intOf]; omega
    · obtain rfl : n = k := by omega
      have HV3 : Hid (OwI w5 (w.heap.size + 1) _ ([-3000] ++ mkP (psD ps) (psD ps).length ++ mkK L 0)) := Lib.hid (by rw [show mkK L 0 = [] by simp [mkK], List.append_nil, psD_len, ← HN.out]; exact HV.out)
      have HLN : Hid (([-3000] ++ mkP (psD ps) (psD ps).length).length ≤ 1000) := Lib.hid (by have := HLEN.out (psD ps).length; have h2 := HN.out; rw [List.length_append]; simp only [List.length_singleton]; rw [psD_len] at *; omega)
      have HMW : Hid (mkW (psD ps) L = [-3000] ++ mkP (psD ps) (psD ps).length ++ mkK L L.length) := Lib.hid rfl
      generalize [-3000] ++ mkP (psD ps) (psD ps).length = acc at *
      go_wp2
      go_loopw [3, 7] (fun v i wr => ∃ j : Nat, j ≤ m ∧ i = .int .i64 j ∧ Hid (OwI wr (w.heap.size + 1) v (acc ++ mkK L j)) ∧ Blk wr w.heap.size 33 #[.slice A n c, .slice A' m c'] ∧ Ext w wr) (fun _ i _ => m - (intOf i).toNat)
      case atStart => exact ⟨0, by omega, rfl, Lib.hid (HV3.out.ext (by (repeat (first | with_reducible exact Ext.refl _ | with_reducible assumption | ((with_reducible apply Src.ext); with_reducible assumption) | with_reducible refine Ext.alloc ?_ _ | with_reducible refine Ext.drew ?_ | with_reducible refine Ext.drewN ?_ _ | ((with_reducible refine Ext.setCell' ?_ ?_ _); solve | omega | simp | (simp; omega)) | (with_reducible refine Ext.trans ?_ (by with_reducible assumption)))))), HBW.out.ext (by (repeat (first | with_reducible exact Ext.refl _ | with_reducible assumption | ((with_reducible apply Src.ext); with_reducible assumption) | with_reducible refine Ext.alloc ?_ _ | with_reducible refine Ext.drew ?_ | with_reducible refine Ext.drewN ?_ _ | ((with_reducible refine Ext.setCell' ?_ ?_ _); solve | omega | simp | (simp; omega)) | (with_reducible refine Ext.trans ?_ (by with_reducible assumption))))), by (repeat (first | with_reducible exact Ext.refl _ | with_reducible assumption | ((with_reducible apply Src.ext); with_reducible assumption) | with_reducible refine Ext.alloc ?_ _ | with_reducible refine Ext.drew ?_ | with_reducible refine Ext.drewN ?_ _ | ((with_reducible refine Ext.setCell' ?_ ?_ _); solve | omega | simp | (simp; omega)) | (with_reducible refine Ext.trans ?_ (by with_reducible assumption))))⟩
      case round =>
        obtain ⟨j, hj, rfl, HV2, hBW2, hxq⟩ := hrel
        obtain ⟨w7, rfl⟩ : ∃ x, x = wr := ⟨wr, rfl⟩
        have HBW2 := Lib.hid hBW2
        have zw2 := hBW2.lt
        have u1 : w7.cell? ⟨w.heap.size, 1, none⟩ = some (.slice A' m c') := hBW2.cell 1
        have hsq := hxq.size
        by_cases hjl : j < m
        · have hjr : j < L.length := by rw [← HM.out]; exact hjl
          obtain ⟨bn, on, hAn, hbn, e0, e1, e2, e3⟩ := HSK.out.lk hjr
          subst hAn
          obtain ⟨p1, p2, p3⟩ := HLS.out j hjr
          have HSU2 : Hid (acc ++ mkK L (j + 1) = (acc ++ mkK L j) ++ [(L.getD j lkD).2.2.1, (L.getD j lkD).2.2.2 + 1]) := Lib.hid (by rw [mkK_succ hjr]; simp only [List.append_assoc])
          have HLN2 : Hid ((acc ++ mkK L j).length ≤ 2000) := Lib.hid (by have h1 := HLN.out; have h2 := mkK_len L j; simp only [List.length_append]; omega)
          clear e0 e1 hjr hBW2
          generalize (L.getD j lkD).2.2.1 = yf at *
          generalize (L.getD j lkD).2.2.2 = yt at *
          have hwr2 : IntKind.i64.wrap (yt + 1) = yt + 1 := IntWalk.i64_in _ (by omega)
          have HKN : Hid (∀ W, Ext w W → W.cell? ⟨bn, on + j * 4 + 2, none⟩ = some (.int .i64 yf) ∧ W.cell? ⟨bn, on + j * 4 + 3, none⟩ = some (.int .i64 yt)) := Lib.hid (fun W hW => ⟨(hW.cell _ _ hbn).trans e2, (hW.cell _ _ hbn).trans e3⟩)
          have HKP : Hid (∀ W, Ext w7 W → W.cell? ⟨w.heap.size, 1, none⟩ = some (.slice (some ⟨bn, on, none⟩) m c') ∧ W.cell? ⟨bn, on + j * 4 + 2, none⟩ = some (.int .i64 yf) ∧ W.cell? ⟨bn, on + j * 4 + 3, none⟩ = some (.int .i64 yt)) := Lib.hid (fun W hW => ⟨(hW.cell _ _ zw2).trans u1, HKN.out W (hxq.trans hW)⟩)
          obtain ⟨v1, v2, v3⟩ := HKP.out w7 (Ext.refl _)
          generalize hac : acc ++ mkK L j = ac2 at *
          clear u1 e2 e3 hbn
          go_wp2
          go_region_held3 (fun w' => w'.cell? ⟨w.heap.size, 1, none⟩ = some (.slice (some ⟨bn, on, none⟩) m c') ∧ w'.cell? ⟨bn, on + j * 4 + 2, none⟩ = some (.int .i64 yf) ∧ w'.cell? ⟨bn, on + j * 4 + 3, none⟩ = some (.int .i64 yt)) (first | exact hk8 | exact HKP.out _ (by (repeat (first | with_reducible exact Ext.refl _ | with_reducible assumption | ((with_reducible apply Src.ext); with_reducible assumption) | with_reducible refine Ext.alloc ?_ _ | with_reducible refine Ext.drew ?_ | with_reducible refine Ext.drewN ?_ _ | ((with_reducible refine Ext.setCell' ?_ ?_ _); solve | omega | simp | (simp; omega)) | (with_reducible refine Ext.trans ?_ (by with_reducible assumption))))) | go_keep) (first | (refine step_append_slA elI len_encI one_encI rfl _ _ rfl rfl (HV2.out.ext (by (repeat (first | with_reducible exact Ext.refl _ | with_reducible assumption | ((with_reducible apply Src.ext); with_reducible assumption) | with_reducible refine Ext.alloc ?_ _ | with_reducible refine Ext.drew ?_ | with_reducible refine Ext.drewN ?_ _ | ((with_reducible refine Ext.setCell' ?_ ?_ _); solve | omega | simp | (simp; omega)) | (with_reducible refine Ext.trans ?_ (by with_reducible assumption)))))) (xs := [yf, yt + 1]) rfl (blk_i2 (by (repeat (first | with_reducible assumption | ((with_reducible apply Blk.new); solve | simp | rfl) | with_reducible apply Blk.drew | with_reducible apply Blk.drewN | ((with_reducible apply Blk.far'); solve | omega | simp | (simp; omega)) | with_reducible apply Blk.set_ | with_reducible apply Blk.alloc | ((with_reducible apply Blk.ext'); with_reducible assumption) | ((with_reducible apply Blk.but'); (with_reducible assumption); solve | omega | (simp; omega)))))) (by have := HLN2.out; simp; unfold maxLen; omega) (by have := HLN2.out; simp; omega) (by first | omega | (simp; omega)) ?_; intro v8 w8 hO8 hg8 hloc8; have hx8 : Ext w w8 := Ext.grown (hxq.trans (by (repeat (first | with_reducible exact Ext.refl _ | with_reducible assumption | ((with_reducible apply Src.ext); with_reducible assumption) | with_reducible refine Ext.alloc ?_ _ | with_reducible refine Ext.drew ?_ | with_reducible refine Ext.drewN ?_ _ | ((with_reducible refine Ext.setCell' ?_ ?_ _); solve | omega | simp | (simp; omega)) | (with_reducible refine Ext.trans ?_ (by with_reducible assumption)))))) hg8 (fun q hq => Nat.le_of_succ_le (HV2.out.row q hq).1); have hbw8 := blk_keptE hg8 (HBW2.out.ext (by (repeat (first | with_reducible exact Ext.refl _ | with_reducible assumption | ((with_reducible apply Src.ext); with_reducible assumption) | with_reducible refine Ext.alloc ?_ _ | with_reducible refine Ext.drew ?_ | with_reducible refine Ext.drewN ?_ _ | ((with_reducible refine Ext.setCell' ?_ ?_ _); solve | omega | simp | (simp; omega)) | (with_reducible refine Ext.trans ?_ (by with_reducible assumption)))))) (fun e => by have := (HV2.out.row _ e.symm).1; omega); have hk8 := And.intro (show w8.cell? ⟨w.heap.size, 1, none⟩ = some (.slice (some ⟨bn, on, none⟩) m c') from hbw8.cell 1) (HKN.out w8 hx8)))
          all_goals
            have HV8 := Lib.hid hO8
            clear hO8 hg8 hloc8
            go_wp2
            go_roundw
            case rel => exact ⟨j + 1, by omega, by go_num, Lib.hid (by rw [HSU2.out]; exact HV8.out), hbw8, hx8⟩
            case measure => simp [intOf]; omega
        · obtain rfl : j = m := by omega
          have HV9 : Hid (OwI w7 (w.heap.size + 1) _ (mkW (psD ps) L)) := Lib.hid (by rw [HMW.out, ← HM.out]; exact HV2.out)
          go_wp2
          go_ret
          exact ⟨_, rfl, (HV9.out.ext (by (repeat (first | with_reducible exact Ext.refl _ | with_reducible assumption | ((with_reducible apply Src.ext); with_reducible assumption) | with_reducible refine Ext.alloc ?_ _ | with_reducible refine Ext.drew ?_ | with_reducible refine Ext.drewN ?_ _ | ((with_reducible refine Ext.setCell' ?_ ?_ _); solve | omega | simp | (simp; omega)) | (with_reducible refine Ext.trans ?_ (by with_reducible assumption)))))).less (Nat.le_succ _), by (repeat (first | with_reducible exact Ext.refl _ | with_reducible assumption | ((with_reducible apply Src.ext); with_reducible assumption) | with_reducible refine Ext.alloc ?_ _ | with_reducible refine Ext.drew ?_ | with_reducible refine Ext.drewN ?_ _ | ((with_reducible refine Ext.setCell' ?_ ?_ _); solve | omega | simp | (simp; omega)) | (with_reducible refine Ext.trans ?_ (by with_reducible assumption))))⟩
end

end Go.Proofs.YtapfokfbdmcokaaGreatDoor
