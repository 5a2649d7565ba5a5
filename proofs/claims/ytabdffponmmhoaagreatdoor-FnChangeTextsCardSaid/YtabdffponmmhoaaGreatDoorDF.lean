/- A place added, as the specification does it. -/
import Derived.Test.YtabdffponmmhoaaGreatDoorDD
import Derived.Test.YtabdffponmmhoaaGreatDoorGV
import Derived.Test.YtabdffponmmhoaaGreatDoorS1
import Derived.Deep.RegionHeld3
import Derived.Deep.DeepCutAuto
import Derived.RegionTactic
import Derived.BigRegion
import Derived.WalkLawsBesides
import Derived.WalkSpells
import Derived.Lib.MinMax
import Derived.Outline
namespace Go.Proofs.YtabdffponmmhoaaGreatDoor
open Go.RowKit
attribute [local go_sem] ExtOf.cell ExtOf.frozen

/-- what adding a place answers -/
def AddPl (D : List Pd) (d : Pd) (base : Nat) (e : Ending) (w' : World) : Prop :=
  (∃ m : Int, ¬ m = 0 ∧ e = .returned (.tuple #[.slice none 0 0, .int .i64 m]) ∧ ¬ (D = [] ∧ plB d = true)) ∨
  (∃ (v : Value) (ps' : List Pl), e = .returned (.tuple #[v, .int .i64 0]) ∧ v ≠ .slice none 0 0 ∧ OwQ w' base v ps' ∧ rgB (psD ps') = true ∧ ps'.length = D.length + 1 ∧ Places w' ps' ∧ ∀ p ∈ ps', NewRow base p)
theorem rg_one {d : Pd} (h : plB d = true) : rgB [d] = true := rgB_iff.2 ⟨fun j hj => by
  have : j = 0 := by simp at hj; omega
  subst this
  show okR [d] 0 = true
  unfold okR
  simp [List.getD, h], by simp⟩
def plV (p : Pl) : Value := .agg #[.string (tx p.1), .int .i64 p.2.1, .int .i64 p.2.2.1, .int .i64 p.2.2.2.1, .slice p.2.2.2.2.1 p.2.2.2.2.2.2.length p.2.2.2.2.2.1]

set_option maxRecDepth 20000 in
set_option maxHeartbeats 12800000 in
theorem s_AddPlace (base : Nat) (v : Value) (ps : List Pl) (p : Pl) (w : World) (h : OwQ w base v ps) (hv : v ≠ .slice none 0 0) (hp : Places w ps) (hpl : PlAt w p) (hl : ps.length ≤ 1000) :
    Calls Tryz.prog 104 #[v, .agg #[.string (tx p.1), .int .i64 p.2.1, .int .i64 p.2.2.1, .int .i64 p.2.2.2.1, .slice p.2.2.2.2.1 p.2.2.2.2.2.2.length p.2.2.2.2.2.1]] w fun e w' => AddPl (psD ps) (pdOf p) w.heap.size e w' ∧ Ext w w' := by
  rcases h.2 with ⟨e, _⟩ | ⟨g, cap, cur, rfl, hbase, hB, h1, h2, h3, h4⟩
  · exact absurd e hv
  have hS : SlAt w 5 encQ (some ⟨g, 0, none⟩) ps := by
    obtain ⟨A, c, e, hS, _⟩ := h.sl len_encQ
    injection e with e1 e2 e3
    subst e1
    exact hS
  have hgw : g < w.heap.size := (Array.getElem?_eq_some_iff.1 hB).1
  have hcm : cap ≤ 9223372036854775807 := by unfold maxLen at h2; omega
  obtain ⟨n, hn⟩ : ∃ n, n = ps.length := ⟨_, rfl⟩
  have hn2 : n ≤ 1000 := by omega
  have hnc : n ≤ cap := by omega
  rw [← hn]
  have HS := Lib.hid hS
  have HN := Lib.hid hn
  have HP := Lib.hid hp
  have HPL := Lib.hid hpl
  have HC1 : Hid (∀ W, Ext w W → Calls Tryz.prog 139 #[.slice (some ⟨g, 0, none⟩) n cap] W fun e w' => e = .returned (.bool (rgB (psD ps))) ∧ Ext W w') := Lib.hid (fun W hW => s_IsRegister (some ⟨g, 0, none⟩) n cap ps W (hS.ext hW) (hp.ext hW) hn (by omega))
  have HSL : Hid (∀ W g t cs, Blk W g t cs → cs = #[.string (tx p.1), .int .i64 p.2.1, .int .i64 p.2.2.1, .int .i64 p.2.2.2.1, .slice p.2.2.2.2.1 p.2.2.2.2.2.2.length p.2.2.2.2.2.1] → SlAt W 5 encQ (some ⟨g, 0, none⟩) [p]) := Lib.hid (fun W g t cs hB e => blk_q1 hB e)
  have HC2 : Hid (∀ W, Ext w W → Calls Tryz.prog 140 #[.agg #[.string (tx p.1), .int .i64 p.2.1, .int .i64 p.2.2.1, .int .i64 p.2.2.2.1, .slice p.2.2.2.2.1 p.2.2.2.2.2.2.length p.2.2.2.2.2.1]] W fun e w' => e = .returned (.bool (plB (pdOf p))) ∧ Ext W w') := Lib.hid (fun W hW => s_IsPlace p.1 p.2.1 p.2.2.1 p.2.2.2.1 p.2.2.2.2.1 p.2.2.2.2.2.2.length p.2.2.2.2.2.1 p.2.2.2.2.2.2 W hpl.2.2.1 (hpl.1.ext hW) rfl hpl.2.2.2.1 hpl.2.2.2.2)
  generalize tx p.1 = sc at *
  generalize p.2.1 = vl at *
  generalize p.2.2.1 = va at *
  generalize p.2.2.2.1 = vb at *
  generalize (Value.slice p.2.2.2.2.1 p.2.2.2.2.2.2.length p.2.2.2.2.2.1) = vs at *
  generalize hq1 : rgB (psD ps) = q1 at *
  generalize hq2 : plB (pdOf p) = q2 at *
  have HQ1 := Lib.hid hq1
  have HQ2 := Lib.hid hq2
  clear h hv hp hpl hl hB h1 h2 h3 h4 hbase hS hn hq1 hq2
  cases q1 with
  | false =>
    go_enter Tryz.func104, Tryz.ntmps104
    (go_wp2_with fail; refine (HC1.out _ (by (repeat (first | with_reducible exact Ext.refl _ | with_reducible assumption | ((with_reducible apply Src.ext); with_reducible assumption) | with_reducible refine Ext.alloc ?_ _ | with_reducible refine Ext.drew ?_ | with_reducible refine Ext.drewN ?_ _ | ((with_reducible refine Ext.setCell' ?_ ?_ _); solve | omega | simp | (simp; omega)) | (with_reducible refine Ext.trans ?_ (by with_reducible assumption)))))).mono ?_; rintro e w1 ⟨rfl, hx1⟩; obtain ⟨hc1, hf1⟩ := hx1.rules; have hs1 := hx1.size; (try simp at hs1); have := (show w.heap.size < w1.heap.size from by omega))
    go_wp2
    go_ret2
    exact ⟨.inl ⟨1, by decide, rfl, fun e => by have := HQ1.out; rw [e.1] at this; exact absurd this (by decide)⟩, by (repeat (first | with_reducible exact Ext.refl _ | with_reducible assumption | ((with_reducible apply Src.ext); with_reducible assumption) | with_reducible refine Ext.alloc ?_ _ | with_reducible refine Ext.drew ?_ | with_reducible refine Ext.drewN ?_ _ | ((with_reducible refine Ext.setCell' ?_ ?_ _); solve | omega | simp | (simp; omega)) | (with_reducible refine Ext.trans ?_ (by with_reducible assumption))))⟩
  | true =>
    cases q2 with
    | false =>
      go_enter Tryz.func104, Tryz.ntmps104
      (go_wp2_with fail; refine (HC1.out _ (by (repeat (first | with_reducible exact Ext.refl _ | with_reducible assumption | ((with_reducible apply Src.ext); with_reducible assumption) | with_reducible refine Ext.alloc ?_ _ | with_reducible refine Ext.drew ?_ | with_reducible refine Ext.drewN ?_ _ | ((with_reducible refine Ext.setCell' ?_ ?_ _); solve | omega | simp | (simp; omega)) | (with_reducible refine Ext.trans ?_ (by with_reducible assumption)))))).mono ?_; rintro e w1 ⟨rfl, hx1⟩; obtain ⟨hc1, hf1⟩ := hx1.rules; have hs1 := hx1.size; (try simp at hs1); have := (show w.heap.size < w1.heap.size from by omega))
      (go_wp2_with fail; refine (HC2.out _ (by (repeat (first | with_reducible exact Ext.refl _ | with_reducible assumption | ((with_reducible apply Src.ext); with_reducible assumption) | with_reducible refine Ext.alloc ?_ _ | with_reducible refine Ext.drew ?_ | with_reducible refine Ext.drewN ?_ _ | ((with_reducible refine Ext.setCell' ?_ ?_ _); solve | omega | simp | (simp; omega)) | (with_reducible refine Ext.trans ?_ (by with_reducible assumption)))))).mono ?_; rintro e w2 ⟨rfl, hx2⟩; obtain ⟨hc2, hf2⟩ := hx2.rules; have hs2 := hx2.size; (try simp at hs2); have := (show w.heap.size < w2.heap.size from by omega))
      go_wp2
      go_ret2
      exact ⟨.inl ⟨1, by decide, rfl, fun e => by have := HQ2.out; rw [this] at e; exact absurd e.2 (by decide)⟩, by (repeat (first | with_reducible exact Ext.refl _ | with_reducible assumption | ((with_reducible apply Src.ext); with_reducible assumption) | with_reducible refine Ext.alloc ?_ _ | with_reducible refine Ext.drew ?_ | with_reducible refine Ext.drewN ?_ _ | ((with_reducible refine Ext.setCell' ?_ ?_ _); solve | omega | simp | (simp; omega)) | (with_reducible refine Ext.trans ?_ (by with_reducible assumption))))⟩
    | true =>
      go_enter Tryz.func104, Tryz.ntmps104
      (go_wp2_with fail; refine (HC1.out _ (by (repeat (first | with_reducible exact Ext.refl _ | with_reducible assumption | ((with_reducible apply Src.ext); with_reducible assumption) | with_reducible refine Ext.alloc ?_ _ | with_reducible refine Ext.drew ?_ | with_reducible refine Ext.drewN ?_ _ | ((with_reducible refine Ext.setCell' ?_ ?_ _); solve | omega | simp | (simp; omega)) | (with_reducible refine Ext.trans ?_ (by with_reducible assumption)))))).mono ?_; rintro e w1 ⟨rfl, hx1⟩; obtain ⟨hc1, hf1⟩ := hx1.rules; have hs1 := hx1.size; (try simp at hs1); have := (show w.heap.size < w1.heap.size from by omega))
      (go_wp2_with fail; refine (HC2.out _ (by (repeat (first | with_reducible exact Ext.refl _ | with_reducible assumption | ((with_reducible apply Src.ext); with_reducible assumption) | with_reducible refine Ext.alloc ?_ _ | with_reducible refine Ext.drew ?_ | with_reducible refine Ext.drewN ?_ _ | ((with_reducible refine Ext.setCell' ?_ ?_ _); solve | omega | simp | (simp; omega)) | (with_reducible refine Ext.trans ?_ (by with_reducible assumption)))))).mono ?_; rintro e w2 ⟨rfl, hx2⟩; obtain ⟨hc2, hf2⟩ := hx2.rules; have hs2 := hx2.size; (try simp at hs2); have := (show w.heap.size < w2.heap.size from by omega))
      have HX2 : Hid (Ext w w2) := Lib.hid (by (repeat (first | with_reducible exact Ext.refl _ | with_reducible assumption | ((with_reducible apply Src.ext); with_reducible assumption) | with_reducible refine Ext.alloc ?_ _ | with_reducible refine Ext.drew ?_ | with_reducible refine Ext.drewN ?_ _ | ((with_reducible refine Ext.setCell' ?_ ?_ _); solve | omega | simp | (simp; omega)) | (with_reducible refine Ext.trans ?_ (by with_reducible assumption)))))
      have hB0 : Blk w2 w.heap.size 119 #[.string sc, .int .i64 vl, .int .i64 va, .int .i64 vb, vs] := Blk.eq (by (repeat (first | with_reducible assumption | ((with_reducible apply Blk.new); solve | simp | rfl) | with_reducible apply Blk.drew | with_reducible apply Blk.drewN | ((with_reducible apply Blk.far'); solve | omega | simp | (simp; omega)) | with_reducible apply Blk.set_ | with_reducible apply Blk.alloc | ((with_reducible apply Blk.ext'); with_reducible assumption) | ((with_reducible apply Blk.but'); (with_reducible assumption); solve | omega | (simp; omega))))) (by rfl)
      have HB0 := Lib.hid hB0
      have hgw2 := hB0.lt
      clear hB0 HC1 HC2
      go_wp2
      go_loopw [6] (fun i wr => ∃ k : Nat, k ≤ n ∧ i = .int .i64 k ∧ Hid (Ext w2 wr)) (fun i _ => n - (intOf i).toNat)
      case atStart => exact ⟨0, by omega, rfl, Lib.hid (by (repeat (first | with_reducible exact Ext.refl _ | with_reducible assumption | ((with_reducible apply Src.ext); with_reducible assumption) | with_reducible refine Ext.alloc ?_ _ | with_reducible refine Ext.drew ?_ | with_reducible refine Ext.drewN ?_ _ | ((with_reducible refine Ext.setCell' ?_ ?_ _); solve | omega | simp | (simp; omega)) | (with_reducible refine Ext.trans ?_ (by with_reducible assumption)))))⟩
      case round =>
        obtain ⟨k, hk, rfl, HX3⟩ := hrel
        obtain ⟨w3, rfl⟩ : ∃ x, x = wr := ⟨wr, rfl⟩
        have hs3 := HX3.out.size
        go_upto_region 4 with (fail)
        go_cut [29] (fun v wx => ∃ q : Bool, v = .bool q ∧ (q = true → k < n) ∧ Hid (Ext w2 wx))
        case first =>
          have hB3 := HB0.out.ext HX3.out
          have y0 : w3.cell? ⟨w.heap.size, 0, none⟩ = some (.string sc) := hB3.cell 0
          have hx3 := HX3.out
          clear hB3
          by_cases hlt : k < n
          · have hkl : k < ps.length := by have := HN.out; omega
            have d0 := (((HS.out.ext HX2.out).ext HX3.out).pl' hkl).1
            rw [Nat.zero_add] at d0
            generalize tx (ps.getD k plD).1 = z at *
            clear hkl
            cases hb : Op.bytesLess z.toList sc.toList with
            | true => go_quiet (fail); go_wp2; go_meet; exact ⟨_, rfl, fun _ => hlt, Lib.hid (by (repeat (first | with_reducible exact Ext.refl _ | with_reducible assumption | ((with_reducible apply Src.ext); with_reducible assumption) | with_reducible refine Ext.alloc ?_ _ | with_reducible refine Ext.drew ?_ | with_reducible refine Ext.drewN ?_ _ | ((with_reducible refine Ext.setCell' ?_ ?_ _); solve | omega | simp | (simp; omega)) | (with_reducible refine Ext.trans ?_ (by with_reducible assumption)))))⟩
            | false => go_quiet (fail); go_wp2; go_meet; exact ⟨_, rfl, fun _ => hlt, Lib.hid (by (repeat (first | with_reducible exact Ext.refl _ | with_reducible assumption | ((with_reducible apply Src.ext); with_reducible assumption) | with_reducible refine Ext.alloc ?_ _ | with_reducible refine Ext.drew ?_ | with_reducible refine Ext.drewN ?_ _ | ((with_reducible refine Ext.setCell' ?_ ?_ _); solve | omega | simp | (simp; omega)) | (with_reducible refine Ext.trans ?_ (by with_reducible assumption)))))⟩
          · have hd : decide ((k : Int) < (n : Int)) = false := decide_eq_false (by omega)
            go_quiet (fail)
            go_wp2
            go_meet
            exact ⟨false, rfl, (fun e => absurd e (by decide)), Lib.hid (by (repeat (first | with_reducible exact Ext.refl _ | with_reducible assumption | ((with_reducible apply Src.ext); with_reducible assumption) | with_reducible refine Ext.alloc ?_ _ | with_reducible refine Ext.drew ?_ | with_reducible refine Ext.drewN ?_ _ | ((with_reducible refine Ext.setCell' ?_ ?_ _); solve | omega | simp | (simp; omega)) | (with_reducible refine Ext.trans ?_ (by with_reducible assumption)))))⟩
        case rest =>
        obtain ⟨q, rfl, hq, HX4⟩ := hcut
        obtain ⟨w4, rfl⟩ : ∃ x, x = wc := ⟨wc, rfl⟩
        have hs4 := HX4.out.size
        clear HX3 hs3
        cases q with
        | true =>
          have hlt := hq rfl
          go_wp2
          go_roundw
          case rel => exact ⟨k + 1, by omega, by go_num, HX4⟩
          case measure => simp [intOf]; omega
        | false =>
          clear hq
          have HX := Lib.hid (HX2.out.trans HX4.out)
          have HK : Hid (∀ W, Ext w4 W → W.cell? ⟨w.heap.size, 0, none⟩ = some (.string sc) ∧ W.cell? ⟨w.heap.size, 1, none⟩ = some (.int .i64 vl) ∧ W.cell? ⟨w.heap.size, 2, none⟩ = some (.int .i64 va) ∧ W.cell? ⟨w.heap.size, 3, none⟩ = some (.int .i64 vb) ∧ W.cell? ⟨w.heap.size, 4, none⟩ = some (vs)) := Lib.hid (fun W hW => have hB := (HB0.out.ext HX4.out).ext hW; ⟨hB.cell 0, hB.cell 1, hB.cell 2, hB.cell 3, hB.cell 4⟩)
          have hy := HK.out w4 (Ext.refl _)
          obtain ⟨y0, y1, y2, y3, y4⟩ := hy
          have HO5 : Hid (∀ W g', Blk W g' 119 #[] → w4.heap.size ≤ g' → OwQ W w4.heap.size (.slice (some ⟨g', 0, none⟩) 0 0) []) := Lib.hid (fun W g' hB hge => Own.of_blk (xs := []) hB len_encQ rfl hge (Nat.zero_le _))
          have HSW := Lib.hid (HS.out.ext HX.out)
          have hsz := HX.out.size
          have HT1 := Lib.hid (HSW.out.takeE k)
          have HTL : Hid ((ps.take k).length = k) := Lib.hid (by rw [List.length_take]; have := HN.out; omega)
          have HDL : Hid ((ps.drop k).length = n - k) := Lib.hid (by rw [List.length_drop]; have := HN.out; omega)
          have HDR : Hid (∀ W, Ext w4 W → SlAt W 5 encQ (some ⟨g, k * 5, none⟩) (ps.drop k)) := Lib.hid (fun W hW => by
            by_cases hkl : k < ps.length
            · obtain ⟨b, off, e, _, h2⟩ := HSW.out.drop k hkl
              injection e with e
              injection e with e1 e2
              subst e1 e2
              rw [Nat.zero_add] at h2
              exact h2.ext hW
            · exact SlAt.none_ (List.drop_eq_nil_of_le (by omega)))
          have HDN : Hid (∀ W, k = n → SlAt W 5 encQ (some ⟨g, 0, none⟩) (ps.drop k)) := Lib.hid (fun W e => SlAt.none_ (List.drop_eq_nil_of_le (by have := HN.out; omega)))
          have HPD : Hid (∀ q, q ∈ ps.take k ++ [p] ++ ps.drop k → PlAt w4 q) := Lib.hid (fun q hq => by
            rcases List.mem_append.1 hq with e | e
            · rcases List.mem_append.1 e with e | e
              · exact (HP.out q (List.mem_of_mem_take e)).ext HX.out
              · rw [List.mem_singleton.1 e]; exact HPL.out.ext HX.out
            · exact (HP.out q (List.mem_of_mem_drop e)).ext HX.out)
          have HLA : Hid ((ps.take k ++ [p] ++ ps.drop k).length = n + 1) := Lib.hid (by simp only [List.length_append, List.length_cons, List.length_nil]; rw [HTL.out, HDL.out]; omega)
          have HAD : Hid (¬ (psD (ps.take k ++ [p] ++ ps.drop k)).length = 1 ∨ rgB (psD (ps.take k ++ [p] ++ ps.drop k)) = true) := Lib.hid (by
            by_cases e : ps = []
            · right
              subst e
              have : psD (List.take k [] ++ [p] ++ List.drop k []) = [pdOf p] := by simp [psD]
              rw [this]
              exact rg_one HQ2.out
            · left
              rw [psD_len, HLA.out, HN.out]
              have := List.length_pos_iff.2 e
              omega)
          generalize hTT : ps.take k = TT at *
          generalize hDD : ps.drop k = DD at *
          clear hTT hDD HSW
          have f1 : (0 : Int) ≤ (k : Int) := by omega
          have f2 : (k : Int) ≤ (n : Int) := by omega
          have f3 : (k : Int) ≤ (cap : Int) := by omega
          have f4 : (n : Int) ≤ (cap : Int) := by omega
          go_upto_region 6 with (fail)
          go_cut [7] (fun v wx => Hid (OwQ wx w4.heap.size v (TT ++ [p] ++ DD)) ∧ Hid (Ext w4 wx))
          case first =>
            by_cases hk0 : k = 0
            · subst hk0
              by_cases hkc : cap = 0
              · subst hkc
                have hn0 : n = 0 := by omega
                subst hn0
                go_wp2_with fail
                go_region_held3 (fun w' => w'.cell? ⟨w.heap.size, 0, none⟩ = some (.string sc) ∧ w'.cell? ⟨w.heap.size, 1, none⟩ = some (.int .i64 vl) ∧ w'.cell? ⟨w.heap.size, 2, none⟩ = some (.int .i64 va) ∧ w'.cell? ⟨w.heap.size, 3, none⟩ = some (.int .i64 vb) ∧ w'.cell? ⟨w.heap.size, 4, none⟩ = some (vs)) (first | exact HK.out _ (by (repeat (first | with_reducible exact Ext.refl _ | with_reducible assumption | ((with_reducible apply Src.ext); with_reducible assumption) | with_reducible refine Ext.alloc ?_ _ | with_reducible refine Ext.drew ?_ | with_reducible refine Ext.drewN ?_ _ | ((with_reducible refine Ext.setCell' ?_ ?_ _); solve | omega | simp | (simp; omega)) | (with_reducible refine Ext.trans ?_ (by with_reducible assumption))))) | go_keep) (first | (refine step_append_sl elQ len_encQ one_encQ rfl _ _ rfl rfl (HO5.out _ _ (by (repeat (first | with_reducible assumption | ((with_reducible apply Blk.new); solve | simp | rfl) | with_reducible apply Blk.drew | with_reducible apply Blk.drewN | ((with_reducible apply Blk.far'); solve | omega | simp | (simp; omega)) | with_reducible apply Blk.set_ | with_reducible apply Blk.alloc | ((with_reducible apply Blk.ext'); with_reducible assumption) | ((with_reducible apply Blk.but'); (with_reducible assumption); solve | omega | (simp; omega))))) (by first | exact Nat.le_refl _ | omega | (simp; done) | (simp; omega))) (xs := TT) (eval_lnE rfl HTL.out) (HT1.out.ext (by (repeat (first | with_reducible exact Ext.refl _ | with_reducible assumption | ((with_reducible apply Src.ext); with_reducible assumption) | with_reducible refine Ext.alloc ?_ _ | with_reducible refine Ext.drew ?_ | with_reducible refine Ext.drewN ?_ _ | ((with_reducible refine Ext.setCell' ?_ ?_ _); solve | omega | simp | (simp; omega)) | (with_reducible refine Ext.trans ?_ (by with_reducible assumption)))))) (by have := HTL.out; unfold maxLen; simp only [List.length_nil]; omega) (by have := HTL.out; simp only [List.length_nil]; omega) (by first | omega | (simp; done) | (simp; omega)) ?_; intro v5 w5 hO5 hg5 _; have hb5 := kept_ofE hg5; have hx5 : Ext w4 w5 := Ext.grown (by (repeat (first | with_reducible exact Ext.refl _ | with_reducible assumption | ((with_reducible apply Src.ext); with_reducible assumption) | with_reducible refine Ext.alloc ?_ _ | with_reducible refine Ext.drew ?_ | with_reducible refine Ext.drewN ?_ _ | ((with_reducible refine Ext.setCell' ?_ ?_ _); solve | omega | simp | (simp; omega)) | (with_reducible refine Ext.trans ?_ (by with_reducible assumption))))) hg5 (fun q hq => by rw [own_isE hq]; first | exact Nat.le_refl _ | (simp; done) | (simp; omega))) | (refine step_append_sl elQ len_encQ one_encQ rfl _ _ rfl rfl (hO5.ext (by (repeat (first | with_reducible exact Ext.refl _ | with_reducible assumption | ((with_reducible apply Src.ext); with_reducible assumption) | with_reducible refine Ext.alloc ?_ _ | with_reducible refine Ext.drew ?_ | with_reducible refine Ext.drewN ?_ _ | ((with_reducible refine Ext.setCell' ?_ ?_ _); solve | omega | simp | (simp; omega)) | (with_reducible refine Ext.trans ?_ (by with_reducible assumption)))))) (xs := [p]) rfl (HSL.out _ _ _ _ (by first | exact hb5 _ _ _ (by (repeat (first | with_reducible assumption | ((with_reducible apply Blk.new); solve | simp | rfl) | with_reducible apply Blk.drew | with_reducible apply Blk.drewN | ((with_reducible apply Blk.far'); solve | omega | simp | (simp; omega)) | with_reducible apply Blk.set_ | with_reducible apply Blk.alloc | ((with_reducible apply Blk.ext'); with_reducible assumption) | ((with_reducible apply Blk.but'); (with_reducible assumption); solve | omega | (simp; omega))))) (by first | omega | (simp; done) | (simp; omega)) | exact Blk.new rfl) (by rfl)) (by have := HTL.out; unfold maxLen; simp; omega) (by have := HTL.out; simp; omega) (by have := hx5.size; first | omega | (simp; omega)) ?_; intro v6 w6 hO6 hg6 _; have hx6 : Ext w4 w6 := Ext.grown (by (repeat (first | with_reducible exact Ext.refl _ | with_reducible assumption | ((with_reducible apply Src.ext); with_reducible assumption) | with_reducible refine Ext.alloc ?_ _ | with_reducible refine Ext.drew ?_ | with_reducible refine Ext.drewN ?_ _ | ((with_reducible refine Ext.setCell' ?_ ?_ _); solve | omega | simp | (simp; omega)) | (with_reducible refine Ext.trans ?_ (by with_reducible assumption))))) hg6 (fun q hq => (hO5.row q hq).1)) | (refine step_append_sl elQ len_encQ one_encQ rfl _ _ rfl rfl (hO6.ext (by (repeat (first | with_reducible exact Ext.refl _ | with_reducible assumption | ((with_reducible apply Src.ext); with_reducible assumption) | with_reducible refine Ext.alloc ?_ _ | with_reducible refine Ext.drew ?_ | with_reducible refine Ext.drewN ?_ _ | ((with_reducible refine Ext.setCell' ?_ ?_ _); solve | omega | simp | (simp; omega)) | (with_reducible refine Ext.trans ?_ (by with_reducible assumption)))))) (xs := DD) (eval_lnE rfl HDL.out) (HDR.out _ (by (repeat (first | with_reducible exact Ext.refl _ | with_reducible assumption | ((with_reducible apply Src.ext); with_reducible assumption) | with_reducible refine Ext.alloc ?_ _ | with_reducible refine Ext.drew ?_ | with_reducible refine Ext.drewN ?_ _ | ((with_reducible refine Ext.setCell' ?_ ?_ _); solve | omega | simp | (simp; omega)) | (with_reducible refine Ext.trans ?_ (by with_reducible assumption)))))) (by have := HTL.out; have := HDL.out; unfold maxLen; simp only [List.length_append, List.length_cons, List.length_nil]; omega) (by have := HTL.out; have := HDL.out; simp only [List.length_append, List.length_cons, List.length_nil]; omega) (by have := hx6.size; first | omega | (simp; omega)) ?_; intro v7 w7 hO7 hg7 _; have hx7 : Ext w4 w7 := Ext.grown (by (repeat (first | with_reducible exact Ext.refl _ | with_reducible assumption | ((with_reducible apply Src.ext); with_reducible assumption) | with_reducible refine Ext.alloc ?_ _ | with_reducible refine Ext.drew ?_ | with_reducible refine Ext.drewN ?_ _ | ((with_reducible refine Ext.setCell' ?_ ?_ _); solve | omega | simp | (simp; omega)) | (with_reducible refine Ext.trans ?_ (by with_reducible assumption))))) hg7 (fun q hq => (hO6.row q hq).1)))
                all_goals
                  have HO7 : Hid (OwQ w7 w4.heap.size v7 (TT ++ [p] ++ DD)) := Lib.hid hO7
                  have HX7 := Lib.hid hx7
                  clear hO7 hg7 hx7 hO6 hg6 hx6 hO5 hg5 hb5 hx5
                  go_wp2_with fail
                  go_meet
                  exact ⟨HO7, HX7⟩
              · have hcc : ¬ cap = 0 := hkc
                go_wp2_with fail
                go_region_held3 (fun w' => w'.cell? ⟨w.heap.size, 0, none⟩ = some (.string sc) ∧ w'.cell? ⟨w.heap.size, 1, none⟩ = some (.int .i64 vl) ∧ w'.cell? ⟨w.heap.size, 2, none⟩ = some (.int .i64 va) ∧ w'.cell? ⟨w.heap.size, 3, none⟩ = some (.int .i64 vb) ∧ w'.cell? ⟨w.heap.size, 4, none⟩ = some (vs)) (first | exact HK.out _ (by (repeat (first | with_reducible exact Ext.refl _ | with_reducible assumption | ((with_reducible apply Src.ext); with_reducible assumption) | with_reducible refine Ext.alloc ?_ _ | with_reducible refine Ext.drew ?_ | with_reducible refine Ext.drewN ?_ _ | ((with_reducible refine Ext.setCell' ?_ ?_ _); solve | omega | simp | (simp; omega)) | (with_reducible refine Ext.trans ?_ (by with_reducible assumption))))) | go_keep) (first | (refine step_append_sl elQ len_encQ one_encQ rfl _ _ rfl rfl (HO5.out _ _ (by (repeat (first | with_reducible assumption | ((with_reducible apply Blk.new); solve | simp | rfl) | with_reducible apply Blk.drew | with_reducible apply Blk.drewN | ((with_reducible apply Blk.far'); solve | omega | simp | (simp; omega)) | with_reducible apply Blk.set_ | with_reducible apply Blk.alloc | ((with_reducible apply Blk.ext'); with_reducible assumption) | ((with_reducible apply Blk.but'); (with_reducible assumption); solve | omega | (simp; omega))))) (by first | exact Nat.le_refl _ | omega | (simp; done) | (simp; omega))) (xs := TT) (eval_lnE rfl HTL.out) (HT1.out.ext (by (repeat (first | with_reducible exact Ext.refl _ | with_reducible assumption | ((with_reducible apply Src.ext); with_reducible assumption) | with_reducible refine Ext.alloc ?_ _ | with_reducible refine Ext.drew ?_ | with_reducible refine Ext.drewN ?_ _ | ((with_reducible refine Ext.setCell' ?_ ?_ _); solve | omega | simp | (simp; omega)) | (with_reducible refine Ext.trans ?_ (by with_reducible assumption)))))) (by have := HTL.out; unfold maxLen; simp only [List.length_nil]; omega) (by have := HTL.out; simp only [List.length_nil]; omega) (by first | omega | (simp; done) | (simp; omega)) ?_; intro v5 w5 hO5 hg5 _; have hb5 := kept_ofE hg5; have hx5 : Ext w4 w5 := Ext.grown (by (repeat (first | with_reducible exact Ext.refl _ | with_reducible assumption | ((with_reducible apply Src.ext); with_reducible assumption) | with_reducible refine Ext.alloc ?_ _ | with_reducible refine Ext.drew ?_ | with_reducible refine Ext.drewN ?_ _ | ((with_reducible refine Ext.setCell' ?_ ?_ _); solve | omega | simp | (simp; omega)) | (with_reducible refine Ext.trans ?_ (by with_reducible assumption))))) hg5 (fun q hq => by rw [own_isE hq]; first | exact Nat.le_refl _ | (simp; done) | (simp; omega))) | (refine step_append_sl elQ len_encQ one_encQ rfl _ _ rfl rfl (hO5.ext (by (repeat (first | with_reducible exact Ext.refl _ | with_reducible assumption | ((with_reducible apply Src.ext); with_reducible assumption) | with_reducible refine Ext.alloc ?_ _ | with_reducible refine Ext.drew ?_ | with_reducible refine Ext.drewN ?_ _ | ((with_reducible refine Ext.setCell' ?_ ?_ _); solve | omega | simp | (simp; omega)) | (with_reducible refine Ext.trans ?_ (by with_reducible assumption)))))) (xs := [p]) rfl (HSL.out _ _ _ _ (by first | exact hb5 _ _ _ (by (repeat (first | with_reducible assumption | ((with_reducible apply Blk.new); solve | simp | rfl) | with_reducible apply Blk.drew | with_reducible apply Blk.drewN | ((with_reducible apply Blk.far'); solve | omega | simp | (simp; omega)) | with_reducible apply Blk.set_ | with_reducible apply Blk.alloc | ((with_reducible apply Blk.ext'); with_reducible assumption) | ((with_reducible apply Blk.but'); (with_reducible assumption); solve | omega | (simp; omega))))) (by first | omega | (simp; done) | (simp; omega)) | exact Blk.new rfl) (by rfl)) (by have := HTL.out; unfold maxLen; simp; omega) (by have := HTL.out; simp; omega) (by have := hx5.size; first | omega | (simp; omega)) ?_; intro v6 w6 hO6 hg6 _; have hx6 : Ext w4 w6 := Ext.grown (by (repeat (first | with_reducible exact Ext.refl _ | with_reducible assumption | ((with_reducible apply Src.ext); with_reducible assumption) | with_reducible refine Ext.alloc ?_ _ | with_reducible refine Ext.drew ?_ | with_reducible refine Ext.drewN ?_ _ | ((with_reducible refine Ext.setCell' ?_ ?_ _); solve | omega | simp | (simp; omega)) | (with_reducible refine Ext.trans ?_ (by with_reducible assumption))))) hg6 (fun q hq => (hO5.row q hq).1)) | (refine step_append_sl elQ len_encQ one_encQ rfl _ _ rfl rfl (hO6.ext (by (repeat (first | with_reducible exact Ext.refl _ | with_reducible assumption | ((with_reducible apply Src.ext); with_reducible assumption) | with_reducible refine Ext.alloc ?_ _ | with_reducible refine Ext.drew ?_ | with_reducible refine Ext.drewN ?_ _ | ((with_reducible refine Ext.setCell' ?_ ?_ _); solve | omega | simp | (simp; omega)) | (with_reducible refine Ext.trans ?_ (by with_reducible assumption)))))) (xs := DD) (eval_lnE rfl HDL.out) (HDR.out _ (by (repeat (first | with_reducible exact Ext.refl _ | with_reducible assumption | ((with_reducible apply Src.ext); with_reducible assumption) | with_reducible refine Ext.alloc ?_ _ | with_reducible refine Ext.drew ?_ | with_reducible refine Ext.drewN ?_ _ | ((with_reducible refine Ext.setCell' ?_ ?_ _); solve | omega | simp | (simp; omega)) | (with_reducible refine Ext.trans ?_ (by with_reducible assumption)))))) (by have := HTL.out; have := HDL.out; unfold maxLen; simp only [List.length_append, List.length_cons, List.length_nil]; omega) (by have := HTL.out; have := HDL.out; simp only [List.length_append, List.length_cons, List.length_nil]; omega) (by have := hx6.size; first | omega | (simp; omega)) ?_; intro v7 w7 hO7 hg7 _; have hx7 : Ext w4 w7 := Ext.grown (by (repeat (first | with_reducible exact Ext.refl _ | with_reducible assumption | ((with_reducible apply Src.ext); with_reducible assumption) | with_reducible refine Ext.alloc ?_ _ | with_reducible refine Ext.drew ?_ | with_reducible refine Ext.drewN ?_ _ | ((with_reducible refine Ext.setCell' ?_ ?_ _); solve | omega | simp | (simp; omega)) | (with_reducible refine Ext.trans ?_ (by with_reducible assumption))))) hg7 (fun q hq => (hO6.row q hq).1)))
                all_goals
                  have HO7 : Hid (OwQ w7 w4.heap.size v7 (TT ++ [p] ++ DD)) := Lib.hid hO7
                  have HX7 := Lib.hid hx7
                  clear hO7 hg7 hx7 hO6 hg6 hx6 hO5 hg5 hb5 hx5
                  go_wp2_with fail
                  go_meet
                  exact ⟨HO7, HX7⟩
            · by_cases hkc : cap = k
              · have hkn : k = n := by omega
                subst hkc
                subst hkn
                have HDN2 : Hid (∀ W : World, SlAt W 5 encQ (some ⟨g, 0, none⟩) DD) := Lib.hid (fun W => HDN.out W rfl)
                replace HDL : Hid (DD.length = 0) := Lib.hid (by rw [HDL.out]; omega)
                go_wp2_with fail
                go_region_held3 (fun w' => w'.cell? ⟨w.heap.size, 0, none⟩ = some (.string sc) ∧ w'.cell? ⟨w.heap.size, 1, none⟩ = some (.int .i64 vl) ∧ w'.cell? ⟨w.heap.size, 2, none⟩ = some (.int .i64 va) ∧ w'.cell? ⟨w.heap.size, 3, none⟩ = some (.int .i64 vb) ∧ w'.cell? ⟨w.heap.size, 4, none⟩ = some (vs)) (first | exact HK.out _ (by (repeat (first | with_reducible exact Ext.refl _ | with_reducible assumption | ((with_reducible apply Src.ext); with_reducible assumption) | with_reducible refine Ext.alloc ?_ _ | with_reducible refine Ext.drew ?_ | with_reducible refine Ext.drewN ?_ _ | ((with_reducible refine Ext.setCell' ?_ ?_ _); solve | omega | simp | (simp; omega)) | (with_reducible refine Ext.trans ?_ (by with_reducible assumption))))) | go_keep) (first | (refine step_append_sl elQ len_encQ one_encQ rfl _ _ rfl rfl (HO5.out _ _ (by (repeat (first | with_reducible assumption | ((with_reducible apply Blk.new); solve | simp | rfl) | with_reducible apply Blk.drew | with_reducible apply Blk.drewN | ((with_reducible apply Blk.far'); solve | omega | simp | (simp; omega)) | with_reducible apply Blk.set_ | with_reducible apply Blk.alloc | ((with_reducible apply Blk.ext'); with_reducible assumption) | ((with_reducible apply Blk.but'); (with_reducible assumption); solve | omega | (simp; omega))))) (by first | exact Nat.le_refl _ | omega | (simp; done) | (simp; omega))) (xs := TT) (eval_lnE rfl HTL.out) (HT1.out.ext (by (repeat (first | with_reducible exact Ext.refl _ | with_reducible assumption | ((with_reducible apply Src.ext); with_reducible assumption) | with_reducible refine Ext.alloc ?_ _ | with_reducible refine Ext.drew ?_ | with_reducible refine Ext.drewN ?_ _ | ((with_reducible refine Ext.setCell' ?_ ?_ _); solve | omega | simp | (simp; omega)) | (with_reducible refine Ext.trans ?_ (by with_reducible assumption)))))) (by have := HTL.out; unfold maxLen; simp only [List.length_nil]; omega) (by have := HTL.out; simp only [List.length_nil]; omega) (by first | omega | (simp; done) | (simp; omega)) ?_; intro v5 w5 hO5 hg5 _; have hb5 := kept_ofE hg5; have hx5 : Ext w4 w5 := Ext.grown (by (repeat (first | with_reducible exact Ext.refl _ | with_reducible assumption | ((with_reducible apply Src.ext); with_reducible assumption) | with_reducible refine Ext.alloc ?_ _ | with_reducible refine Ext.drew ?_ | with_reducible refine Ext.drewN ?_ _ | ((with_reducible refine Ext.setCell' ?_ ?_ _); solve | omega | simp | (simp; omega)) | (with_reducible refine Ext.trans ?_ (by with_reducible assumption))))) hg5 (fun q hq => by rw [own_isE hq]; first | exact Nat.le_refl _ | (simp; done) | (simp; omega))) | (refine step_append_sl elQ len_encQ one_encQ rfl _ _ rfl rfl (hO5.ext (by (repeat (first | with_reducible exact Ext.refl _ | with_reducible assumption | ((with_reducible apply Src.ext); with_reducible assumption) | with_reducible refine Ext.alloc ?_ _ | with_reducible refine Ext.drew ?_ | with_reducible refine Ext.drewN ?_ _ | ((with_reducible refine Ext.setCell' ?_ ?_ _); solve | omega | simp | (simp; omega)) | (with_reducible refine Ext.trans ?_ (by with_reducible assumption)))))) (xs := [p]) rfl (HSL.out _ _ _ _ (by first | exact hb5 _ _ _ (by (repeat (first | with_reducible assumption | ((with_reducible apply Blk.new); solve | simp | rfl) | with_reducible apply Blk.drew | with_reducible apply Blk.drewN | ((with_reducible apply Blk.far'); solve | omega | simp | (simp; omega)) | with_reducible apply Blk.set_ | with_reducible apply Blk.alloc | ((with_reducible apply Blk.ext'); with_reducible assumption) | ((with_reducible apply Blk.but'); (with_reducible assumption); solve | omega | (simp; omega))))) (by first | omega | (simp; done) | (simp; omega)) | exact Blk.new rfl) (by rfl)) (by have := HTL.out; unfold maxLen; simp; omega) (by have := HTL.out; simp; omega) (by have := hx5.size; first | omega | (simp; omega)) ?_; intro v6 w6 hO6 hg6 _; have hx6 : Ext w4 w6 := Ext.grown (by (repeat (first | with_reducible exact Ext.refl _ | with_reducible assumption | ((with_reducible apply Src.ext); with_reducible assumption) | with_reducible refine Ext.alloc ?_ _ | with_reducible refine Ext.drew ?_ | with_reducible refine Ext.drewN ?_ _ | ((with_reducible refine Ext.setCell' ?_ ?_ _); solve | omega | simp | (simp; omega)) | (with_reducible refine Ext.trans ?_ (by with_reducible assumption))))) hg6 (fun q hq => (hO5.row q hq).1)) | (refine step_append_sl elQ len_encQ one_encQ rfl _ _ rfl rfl (hO6.ext (by (repeat (first | with_reducible exact Ext.refl _ | with_reducible assumption | ((with_reducible apply Src.ext); with_reducible assumption) | with_reducible refine Ext.alloc ?_ _ | with_reducible refine Ext.drew ?_ | with_reducible refine Ext.drewN ?_ _ | ((with_reducible refine Ext.setCell' ?_ ?_ _); solve | omega | simp | (simp; omega)) | (with_reducible refine Ext.trans ?_ (by with_reducible assumption)))))) (xs := DD) (eval_lnE rfl HDL.out) (HDN2.out _) (by have := HTL.out; have := HDL.out; unfold maxLen; simp only [List.length_append, List.length_cons, List.length_nil]; omega) (by have := HTL.out; have := HDL.out; simp only [List.length_append, List.length_cons, List.length_nil]; omega) (by have := hx6.size; first | omega | (simp; omega)) ?_; intro v7 w7 hO7 hg7 _; have hx7 : Ext w4 w7 := Ext.grown (by (repeat (first | with_reducible exact Ext.refl _ | with_reducible assumption | ((with_reducible apply Src.ext); with_reducible assumption) | with_reducible refine Ext.alloc ?_ _ | with_reducible refine Ext.drew ?_ | with_reducible refine Ext.drewN ?_ _ | ((with_reducible refine Ext.setCell' ?_ ?_ _); solve | omega | simp | (simp; omega)) | (with_reducible refine Ext.trans ?_ (by with_reducible assumption))))) hg7 (fun q hq => (hO6.row q hq).1)))
                all_goals
                  have HO7 : Hid (OwQ w7 w4.heap.size v7 (TT ++ [p] ++ DD)) := Lib.hid hO7
                  have HX7 := Lib.hid hx7
                  clear hO7 hg7 hx7 hO6 hg6 hx6 hO5 hg5 hb5 hx5
                  go_wp2_with fail
                  go_meet
                  exact ⟨HO7, HX7⟩
              · have hkc' : ¬ k = cap := fun e => hkc e.symm
                go_wp2_with fail
                go_region_held3 (fun w' => w'.cell? ⟨w.heap.size, 0, none⟩ = some (.string sc) ∧ w'.cell? ⟨w.heap.size, 1, none⟩ = some (.int .i64 vl) ∧ w'.cell? ⟨w.heap.size, 2, none⟩ = some (.int .i64 va) ∧ w'.cell? ⟨w.heap.size, 3, none⟩ = some (.int .i64 vb) ∧ w'.cell? ⟨w.heap.size, 4, none⟩ = some (vs)) (first | exact HK.out _ (by (repeat (first | with_reducible exact Ext.refl _ | with_reducible assumption | ((with_reducible apply Src.ext); with_reducible assumption) | with_reducible refine Ext.alloc ?_ _ | with_reducible refine Ext.drew ?_ | with_reducible refine Ext.drewN ?_ _ | ((with_reducible refine Ext.setCell' ?_ ?_ _); solve | omega | simp | (simp; omega)) | (with_reducible refine Ext.trans ?_ (by with_reducible assumption))))) | go_keep) (first | (refine step_append_sl elQ len_encQ one_encQ rfl _ _ rfl rfl (HO5.out _ _ (by (repeat (first | with_reducible assumption | ((with_reducible apply Blk.new); solve | simp | rfl) | with_reducible apply Blk.drew | with_reducible apply Blk.drewN | ((with_reducible apply Blk.far'); solve | omega | simp | (simp; omega)) | with_reducible apply Blk.set_ | with_reducible apply Blk.alloc | ((with_reducible apply Blk.ext'); with_reducible assumption) | ((with_reducible apply Blk.but'); (with_reducible assumption); solve | omega | (simp; omega))))) (by first | exact Nat.le_refl _ | omega | (simp; done) | (simp; omega))) (xs := TT) (eval_lnE rfl HTL.out) (HT1.out.ext (by (repeat (first | with_reducible exact Ext.refl _ | with_reducible assumption | ((with_reducible apply Src.ext); with_reducible assumption) | with_reducible refine Ext.alloc ?_ _ | with_reducible refine Ext.drew ?_ | with_reducible refine Ext.drewN ?_ _ | ((with_reducible refine Ext.setCell' ?_ ?_ _); solve | omega | simp | (simp; omega)) | (with_reducible refine Ext.trans ?_ (by with_reducible assumption)))))) (by have := HTL.out; unfold maxLen; simp only [List.length_nil]; omega) (by have := HTL.out; simp only [List.length_nil]; omega) (by first | omega | (simp; done) | (simp; omega)) ?_; intro v5 w5 hO5 hg5 _; have hb5 := kept_ofE hg5; have hx5 : Ext w4 w5 := Ext.grown (by (repeat (first | with_reducible exact Ext.refl _ | with_reducible assumption | ((with_reducible apply Src.ext); with_reducible assumption) | with_reducible refine Ext.alloc ?_ _ | with_reducible refine Ext.drew ?_ | with_reducible refine Ext.drewN ?_ _ | ((with_reducible refine Ext.setCell' ?_ ?_ _); solve | omega | simp | (simp; omega)) | (with_reducible refine Ext.trans ?_ (by with_reducible assumption))))) hg5 (fun q hq => by rw [own_isE hq]; first | exact Nat.le_refl _ | (simp; done) | (simp; omega))) | (refine step_append_sl elQ len_encQ one_encQ rfl _ _ rfl rfl (hO5.ext (by (repeat (first | with_reducible exact Ext.refl _ | with_reducible assumption | ((with_reducible apply Src.ext); with_reducible assumption) | with_reducible refine Ext.alloc ?_ _ | with_reducible refine Ext.drew ?_ | with_reducible refine Ext.drewN ?_ _ | ((with_reducible refine Ext.setCell' ?_ ?_ _); solve | omega | simp | (simp; omega)) | (with_reducible refine Ext.trans ?_ (by with_reducible assumption)))))) (xs := [p]) rfl (HSL.out _ _ _ _ (by first | exact hb5 _ _ _ (by (repeat (first | with_reducible assumption | ((with_reducible apply Blk.new); solve | simp | rfl) | with_reducible apply Blk.drew | with_reducible apply Blk.drewN | ((with_reducible apply Blk.far'); solve | omega | simp | (simp; omega)) | with_reducible apply Blk.set_ | with_reducible apply Blk.alloc | ((with_reducible apply Blk.ext'); with_reducible assumption) | ((with_reducible apply Blk.but'); (with_reducible assumption); solve | omega | (simp; omega))))) (by first | omega | (simp; done) | (simp; omega)) | exact Blk.new rfl) (by rfl)) (by have := HTL.out; unfold maxLen; simp; omega) (by have := HTL.out; simp; omega) (by have := hx5.size; first | omega | (simp; omega)) ?_; intro v6 w6 hO6 hg6 _; have hx6 : Ext w4 w6 := Ext.grown (by (repeat (first | with_reducible exact Ext.refl _ | with_reducible assumption | ((with_reducible apply Src.ext); with_reducible assumption) | with_reducible refine Ext.alloc ?_ _ | with_reducible refine Ext.drew ?_ | with_reducible refine Ext.drewN ?_ _ | ((with_reducible refine Ext.setCell' ?_ ?_ _); solve | omega | simp | (simp; omega)) | (with_reducible refine Ext.trans ?_ (by with_reducible assumption))))) hg6 (fun q hq => (hO5.row q hq).1)) | (refine step_append_sl elQ len_encQ one_encQ rfl _ _ rfl rfl (hO6.ext (by (repeat (first | with_reducible exact Ext.refl _ | with_reducible assumption | ((with_reducible apply Src.ext); with_reducible assumption) | with_reducible refine Ext.alloc ?_ _ | with_reducible refine Ext.drew ?_ | with_reducible refine Ext.drewN ?_ _ | ((with_reducible refine Ext.setCell' ?_ ?_ _); solve | omega | simp | (simp; omega)) | (with_reducible refine Ext.trans ?_ (by with_reducible assumption)))))) (xs := DD) (eval_lnE rfl HDL.out) (HDR.out _ (by (repeat (first | with_reducible exact Ext.refl _ | with_reducible assumption | ((with_reducible apply Src.ext); with_reducible assumption) | with_reducible refine Ext.alloc ?_ _ | with_reducible refine Ext.drew ?_ | with_reducible refine Ext.drewN ?_ _ | ((with_reducible refine Ext.setCell' ?_ ?_ _); solve | omega | simp | (simp; omega)) | (with_reducible refine Ext.trans ?_ (by with_reducible assumption)))))) (by have := HTL.out; have := HDL.out; unfold maxLen; simp only [List.length_append, List.length_cons, List.length_nil]; omega) (by have := HTL.out; have := HDL.out; simp only [List.length_append, List.length_cons, List.length_nil]; omega) (by have := hx6.size; first | omega | (simp; omega)) ?_; intro v7 w7 hO7 hg7 _; have hx7 : Ext w4 w7 := Ext.grown (by (repeat (first | with_reducible exact Ext.refl _ | with_reducible assumption | ((with_reducible apply Src.ext); with_reducible assumption) | with_reducible refine Ext.alloc ?_ _ | with_reducible refine Ext.drew ?_ | with_reducible refine Ext.drewN ?_ _ | ((with_reducible refine Ext.setCell' ?_ ?_ _); solve | omega | simp | (simp; omega)) | (with_reducible refine Ext.trans ?_ (by with_reducible assumption))))) hg7 (fun q hq => (hO6.row q hq).1)))
                all_goals
                  have HO7 : Hid (OwQ w7 w4.heap.size v7 (TT ++ [p] ++ DD)) := Lib.hid hO7
                  have HX7 := Lib.hid hx7
                  clear hO7 hg7 hx7 hO6 hg6 hx6 hO5 hg5 hb5 hx5
                  go_wp2_with fail
                  go_meet
                  exact ⟨HO7, HX7⟩
          case rest =>
          obtain ⟨HV, HX5⟩ := hcut
          obtain ⟨w5, rfl⟩ : ∃ x, x = wc := ⟨wc, rfl⟩
          obtain ⟨A7, c7, rfl, hS7, hc7, _, _⟩ := HV.out.sl len_encQ
          have HS7 := Lib.hid hS7
          have HP5 : Hid (Places w5 (TT ++ [p] ++ DD)) := Lib.hid (fun q hq => (HPD.out q hq).ext HX5.out)
          obtain ⟨n7, hn7⟩ : ∃ n7, n7 = (TT ++ [p] ++ DD).length := ⟨_, rfl⟩
          rw [← hn7]
          have HN7 := Lib.hid hn7
          generalize hLL : TT ++ [p] ++ DD = LL at *
          clear hS7 hn7 HV HK HO5 HT1 HDR HDN y0 y1 y2 y3 y4
          go_wp2_with fail
          refine (s_IsRegister A7 n7 c7 LL w5 HS7.out HP5.out HN7.out (by rw [HLA.out]; omega)).mono ?_
          rintro e w6 ⟨rfl, hx6⟩
          have HX6 := Lib.hid (HX5.out.trans hx6)
          have hs6 := HX6.out.size
          cases hq : rgB (psD LL) with
          | false =>
            have HQ := Lib.hid hq
            clear hq
            go_wp2
            go_ret2
            refine ⟨.inl ⟨5, by decide, rfl, fun e => ?_⟩, HX.out.trans HX6.out⟩
            rcases HAD.out with h | h
            · apply h
              rw [psD_len, HLA.out]
              have := congrArg List.length e.1
              rw [psD_len, ← HN.out] at this
              simpa using this
            · rw [HQ.out] at h; cases h
          | true =>
            have HQ := Lib.hid hq
            have HS8 := Lib.hid (HS7.out.ext hx6)
            have HP8 := Lib.hid (HP5.out.ext hx6)
            clear hq hx6
            go_wp2_with fail
            refine (s_l11Own A7 n7 c7 LL w6 HS8.out HP8.out HN7.out (by rw [HLA.out]; omega)).mono ?_
            rintro e w7 ⟨⟨v7, p7, rfl, hnz, hO7, hD7, hP7, hN7⟩, hx7⟩
            have HX7 := Lib.hid (HX6.out.trans hx7)
            have HO7 := Lib.hid hO7
            have HD7 := Lib.hid hD7
            have HP7 := Lib.hid hP7
            have HNR := Lib.hid hN7
            have HNZ := Lib.hid hnz
            clear hx7 hO7 hD7 hP7 hN7 hnz
            go_wp2
            go_ret2
            exact ⟨.inr ⟨v7, p7, rfl, HNZ.out, HO7.out.less (by omega), by rw [HD7.out]; exact HQ.out, by have := congrArg List.length HD7.out; rw [psD_len, psD_len, HLA.out] at this; rw [this, psD_len, ← HN.out], HP7.out, fun q hq z hz => by have := HNR.out q hq z hz; omega⟩, HX.out.trans HX7.out⟩
end Go.Proofs.YtabdffponmmhoaaGreatDoor
