/- Draws of maps, walked over the translation. -/
import Derived.Test.YteppjdoggjcdoaaDR
import Derived.Test.YteppjdoggjcdoaaML
import Derived.Test.YteppjdoggjcdoaaP1
import Derived.Deep.RegionHeld3
import Derived.Deep.DeepCutAuto
import Derived.RegionTactic
import Derived.BigRegion
import Derived.WalkLawsBesides
import Derived.WalkSpells
import Derived.Lib.MinMax
import Derived.Outline
namespace Go.Proofs.Yteppjdoggjcdoaa
open Go.RowKit
attribute [local go_sem] ExtOf.cell ExtOf.frozen


abbrev OwR (w : World) (base : Nat) (v : Value) (rs : List Rg) : Prop := Own encR 1 24 w base v rs
theorem blk_r1 {w : World} {g : Nat} {t : TypeId} {r : Rg} {cs : Array Value} (h : Blk w g t cs) (e : cs = #[.slice r.1 r.2.2.length r.2.1]) : SlAt w 1 encR (some ⟨g, 0, none⟩) [r] := by
  subst e; exact h.sl rfl len_encR
/-- rings in blocks that are no older than base -/
def NewR (base : Nat) (w : World) (rs : List Rg) : Prop := ∀ r ∈ rs, SlAt w 2 encP r.1 r.2.2 ∧ r.2.2.length ≤ r.2.1 ∧ r.2.2.length ≤ 12 ∧ ∀ q, r.1 = some q → base ≤ q.block ∧ q.block < w.heap.size
theorem NewR.nil_ (base : Nat) (w : World) : NewR base w [] := fun r hr => by cases hr
theorem NewR.ext {base : Nat} {w w' : World} {rs : List Rg} (h : NewR base w rs) (hx : Ext w w') : NewR base w' rs := fun r hr => by
  obtain ⟨h1, h2, h3, h4⟩ := h r hr
  exact ⟨h1.ext hx, h2, h3, fun q hq => ⟨(h4 q hq).1, Nat.lt_of_lt_of_le (h4 q hq).2 hx.size⟩⟩
theorem NewR.but {base g : Nat} {w w' : World} {rs : List Rg} (h : NewR base w rs) (hu : But g w w') (hg : g < base) : NewR base w' rs := fun r hr => by
  obtain ⟨h1, h2, h3, h4⟩ := h r hr
  exact ⟨h1.butG hu (fun q hq => by have := (h4 q hq).1; omega), h2, h3, fun q hq => ⟨(h4 q hq).1, Nat.lt_of_lt_of_le (h4 q hq).2 hu.size⟩⟩
theorem NewR.grown {base : Nat} {w w' : World} {rs : List Rg} {row : Option Nat} (h : NewR base w rs) (hg : w.grownBy w' row) (hne : ∀ r ∈ rs, ∀ q : Addr, r.1 = some q → some q.block ≠ row) : NewR base w' rs := fun r hr => by
  obtain ⟨h1, h2, h3, h4⟩ := h r hr
  exact ⟨h1.grown hg (hne r hr), h2, h3, fun q hq => ⟨(h4 q hq).1, Nat.lt_of_lt_of_le (h4 q hq).2 hg.size⟩⟩
theorem NewR.less {base base' : Nat} {w : World} {rs : List Rg} (h : NewR base w rs) (hb : base' ≤ base) : NewR base' w rs := fun r hr => by
  obtain ⟨h1, h2, h3, h4⟩ := h r hr
  exact ⟨h1, h2, h3, fun q hq => ⟨Nat.le_trans hb (h4 q hq).1, (h4 q hq).2⟩⟩
theorem NewR.snoc {base : Nat} {w : World} {rs : List Rg} {r : Rg} (h : NewR base w rs) (h1 : SlAt w 2 encP r.1 r.2.2) (h2 : r.2.2.length ≤ r.2.1) (h3 : r.2.2.length ≤ 12) (h4 : ∀ q, r.1 = some q → base ≤ q.block ∧ q.block < w.heap.size) : NewR base w (rs ++ [r]) := fun x hx => by
  rcases List.mem_append.1 hx with e | e
  · exact h x e
  · rw [List.mem_singleton.1 e]; exact ⟨h1, h2, h3, h4⟩
theorem NewR.rings {base : Nat} {w : World} {rs : List Rg} (h : NewR base w rs) : Rings w rs := fun r hr => by
  obtain ⟨h1, h2, h3, _⟩ := h r hr
  exact ⟨h1, h2, by omega⟩
/-- no ring lies in the row's own block -/
def Away (v : Value) (rs : List Rg) : Prop := ∀ k, v.ownBlock = some k → ∀ r ∈ rs, ∀ q : Addr, r.1 = some q → q.block ≠ k
theorem Away.row {v : Value} {rs : List Rg} (h : Away v rs) : ∀ r ∈ rs, ∀ q : Addr, r.1 = some q → some q.block ≠ v.ownBlock := fun r hr q hq e => h _ e.symm r hr q hq rfl
/-- a ring appended to a row: the ring is younger than the row -/
theorem Away.snoc {v v' : Value} {rs : List Rg} {r : Rg} {base : Nat} {w w1 : World} (h : Away v rs) (hN : NewR base w1 rs) (hr : ∀ q : Addr, r.1 = some q → w.heap.size ≤ q.block ∧ q.block < w1.heap.size) (hv : ∀ k, v.ownBlock = some k → k < w.heap.size) (hn : Near w1 v v') : Away v' (rs ++ [r]) := fun k hk x hx q hq => by
  rcases hn with e | e
  · rw [e] at hk
    rcases List.mem_append.1 hx with m | m
    · exact h k hk x m q hq
    · rw [List.mem_singleton.1 m] at hq
      have h1 := (hr q hq).1
      have h2 := hv k hk
      omega
  · have h0 := e k hk
    rcases List.mem_append.1 hx with m | m
    · have := ((hN x m).2.2.2 q hq).2
      omega
    · rw [List.mem_singleton.1 m] at hq
      have := (hr q hq).2
      omega
set_option maxHeartbeats 6400000 in
theorem s_l17Points (A : Option Addr) (n c : Nat) (xs : List Int) (w : World) (h : SlAt w 1 encI A xs) (hn : n = xs.length) (hl : n ≤ 20) :
    Calls Try.prog 127 #[.slice A n c] w fun e w' => ∃ v ps, e = .returned v ∧ OwP w' w.heap.size v ps ∧ (2 * ps.length ≤ n ∧ n ≤ 2 * ps.length + 1) ∧ Ext w w' := by
  have HN := Lib.hid hn
  clear hn
  go_enter Try.func127, Try.ntmps127
  go_wp2
  go_loopw [3, 4] (fun v i wr => ∃ (m : Nat) (ps : List (Int × Int)), m ≤ n ∧ i = .int .i64 m ∧ 2 * ps.length ≤ m ∧ m ≤ 2 * ps.length ∧ Hid (OwP wr w.heap.size v ps) ∧ Ext w wr) (fun _ i _ => n - (intOf i).toNat)
  case atStart => exact ⟨0, [], by omega, rfl, by simp, by simp, Lib.hid (World.ownsRow_made (base := w.heap.size) (e := 33) (size := 2) w #[] 0 (Nat.le_refl _) (Nat.zero_le _) rfl), by (repeat (first | with_reducible exact Ext.refl _ | with_reducible assumption | ((with_reducible apply Src.ext); with_reducible assumption) | with_reducible refine Ext.alloc ?_ _ | with_reducible refine Ext.drew ?_ | with_reducible refine Ext.drewN ?_ _ | ((with_reducible refine Ext.setCell' ?_ ?_ _); solve | omega | simp | (simp; omega)) | (with_reducible refine Ext.trans ?_ (by with_reducible assumption))))⟩
  case round =>
    obtain ⟨m, ps, hm, rfl, hp1, hp2, HV, hxr⟩ := hrel
    obtain ⟨w5, rfl⟩ : ∃ x, x = wr := ⟨wr, rfl⟩
    have hsr := hxr.size
    have hw1 : IntKind.i64.wrap ((m : Int) + 1) = (m : Int) + 1 := IntWalk.i64_in _ (by omega)
    have hw2 : IntKind.i64.wrap ((m : Int) + 2) = (m : Int) + 2 := IntWalk.i64_in _ (by omega)
    by_cases hlt : m + 1 < n
    · have hm0 : m < xs.length := by rw [← HN.out]; omega
      have hm1 : m + 1 < xs.length := by rw [← HN.out]; omega
      obtain ⟨b, off, rfl, hb, d0⟩ := (h.ext hxr).it hm0
      have d1 := SlAt.it' (h.ext hxr) hm1
      have HKN : Hid (∀ W, Ext w W → W.cell? ⟨b, off + m, none⟩ = some (.int .i64 (xs.getD m 0)) ∧ W.cell? ⟨b, off + (m + 1), none⟩ = some (.int .i64 (xs.getD (m + 1) 0))) := Lib.hid fun W hW => ⟨SlAt.it' (h.ext hW) hm0, SlAt.it' (h.ext hW) hm1⟩
      generalize xs.getD m 0 = x at *
      generalize xs.getD (m + 1) 0 = z at *
      have htn : ((m : Int) + 1).toNat = m + 1 := by omega
      have i1 : (0 : Int) ≤ (m : Int) := by omega
      have i2 : (m : Int) < (n : Int) := by omega
      have i3 : (0 : Int) ≤ (m : Int) + 1 := by omega
      have i4 : (m : Int) + 1 < (n : Int) := by omega
      clear hm0 hm1
      go_wp2
      go_region_held3 (fun w' => w'.cell? ⟨b, off + m, none⟩ = some (.int .i64 x) ∧ w'.cell? ⟨b, off + (m + 1), none⟩ = some (.int .i64 z)) (first | exact hk8 | exact HKN.out _ (by (repeat (first | with_reducible exact Ext.refl _ | with_reducible assumption | ((with_reducible apply Src.ext); with_reducible assumption) | with_reducible refine Ext.alloc ?_ _ | with_reducible refine Ext.drew ?_ | with_reducible refine Ext.drewN ?_ _ | ((with_reducible refine Ext.setCell' ?_ ?_ _); solve | omega | simp | (simp; omega)) | (with_reducible refine Ext.trans ?_ (by with_reducible assumption))))) | go_keep) (first | (refine step_append_sl elP len_encP one_encP rfl _ _ rfl rfl (HV.out.ext (by (repeat (first | with_reducible exact Ext.refl _ | with_reducible assumption | ((with_reducible apply Src.ext); with_reducible assumption) | with_reducible refine Ext.alloc ?_ _ | with_reducible refine Ext.drew ?_ | with_reducible refine Ext.drewN ?_ _ | ((with_reducible refine Ext.setCell' ?_ ?_ _); solve | omega | simp | (simp; omega)) | (with_reducible refine Ext.trans ?_ (by with_reducible assumption)))))) (xs := [(x, z)]) rfl (blk_p1 (by (repeat (first | with_reducible assumption | ((with_reducible apply Blk.new); solve | simp | rfl) | with_reducible apply Blk.drew | with_reducible apply Blk.drewN | ((with_reducible apply Blk.far'); solve | omega | simp | (simp; omega)) | with_reducible apply Blk.set_ | with_reducible apply Blk.alloc | ((with_reducible apply Blk.ext'); with_reducible assumption) | ((with_reducible apply Blk.but'); (with_reducible assumption); solve | omega | (simp; omega)))))) (by simp; unfold maxLen; omega) (by simp; omega) (by first | omega | (simp; omega)) ?_; intro v' w8 hown hgrow _; have hx8 : Ext w w8 := Ext.grown (hxr.trans (by (repeat (first | with_reducible exact Ext.refl _ | with_reducible assumption | ((with_reducible apply Src.ext); with_reducible assumption) | with_reducible refine Ext.alloc ?_ _ | with_reducible refine Ext.drew ?_ | with_reducible refine Ext.drewN ?_ _ | ((with_reducible refine Ext.setCell' ?_ ?_ _); solve | omega | simp | (simp; omega)) | (with_reducible refine Ext.trans ?_ (by with_reducible assumption)))))) hgrow (fun q hq => (HV.out.row q hq).1); have HV2 := Lib.hid hown; have hk8 : w8.cell? ⟨b, off + m, none⟩ = some (.int .i64 x) ∧ w8.cell? ⟨b, off + (m + 1), none⟩ = some (.int .i64 z) := HKN.out w8 hx8))
      all_goals
        clear hown hgrow
        go_wp2
        go_roundw
        case rel => exact ⟨m + 2, ps ++ [(x, z)], by omega, by go_num, by simp; omega, by simp; omega, HV2, hx8⟩
        case measure => simp [intOf]; omega
    · go_wp2
      go_ret
      exact ⟨_, ps, rfl, HV.out, ⟨by omega, by omega⟩, hxr⟩

end Go.Proofs.Yteppjdoggjcdoaa
