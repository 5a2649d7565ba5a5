/- Spans in a strict order, handed through the library's Values, Collect and SortedFunc. -/
import Derived.Test.YtmpgjajkaehdiaaGreatDoorUG
import Derived.Shelf.SlSortCmp.NoneTotal
namespace Go.Proofs.YtmpgjajkaehdiaaGreatDoor
open Go.Shelf Go.RowKit Go.Lib Go.Sort
attribute [local go_sem] ExtOf.cell ExtOf.frozen

theorem OwSn.seq {w : World} {base n c : Nat} {A : Option Addr} {S : List Sn} (h : OwSn w base (.slice A n c) S) :
    n = S.length ∧ ∃ b, (0 < S.length → A = some ⟨b, 0, none⟩) ∧ (0 < S.length → b < w.heap.size) ∧ ∀ j, j < S.length → w.cell? ⟨b, j * 2, none⟩ = some (.int .i64 (S.getD j (0, 0)).1) ∧ w.cell? ⟨b, j * 2 + 1, none⟩ = some (.int .i64 (S.getD j (0, 0)).2) := by
  obtain ⟨A1, c1, e, hS, _, _, hr⟩ := h.sl len_encSn
  injection e with e1 e2 e3
  subst e1 e2
  refine ⟨rfl, ?_⟩
  rcases Nat.eq_zero_or_pos S.length with h0 | h0
  · exact ⟨0, fun e => by omega, fun e => by omega, fun j hj => by omega⟩
  · obtain ⟨g, cap, cur, e, hb, hB, _⟩ := h.open_ h0
    injection e with e1 e2 e3
    subst e1
    refine ⟨g, fun _ => rfl, fun _ => hB.lt, fun j hj => ?_⟩
    obtain ⟨b, off, e, _, h1, h2⟩ := hS.sn hj
    injection e with e
    injection e with e4 e5
    subst e4 e5
    rw [Nat.zero_add] at h1 h2
    exact ⟨h1, h2⟩
theorem sortSn_any {base : Nat} {v : Value} {S : List Sn} {w : World} (h : OwSn w base v S) (hl : S.length ≤ 1000000) (hp : S.Pairwise (fun s t => s.1 < t.1)) :
    Calls Tryz.prog 120 #[v, .func (.func 100) #[] #[]] w fun e w' => e = .returned (.tuple #[]) ∧ Ext w w' := by
  rcases Nat.eq_zero_or_pos S.length with h0 | h0
  · obtain ⟨A, c, rfl, _⟩ := h.sl len_encSn
    rw [h0]
    exact (AnyF.slices_SortFunc_none Tryz.sortSn A c _ w).mono fun e w' ⟨he, hw⟩ => ⟨he, by rw [hw]; exact Ext.refl _⟩
  · obtain ⟨g, cap, cur, rfl, _⟩ := h.open_ h0
    exact sortSn_same h hl hp
theorem i_ValuesS (A : Option Addr) (n c : Nat) (w : World) :
    Calls Tryz.prog 99 #[.slice A n c] w fun e w' => e = .returned (.func (.func 121) #[] #[.pointer (some ⟨w.heap.size, 0, none⟩)]) ∧ w' = w.alloc (.cells #[.slice A n c] 27) := by
  go_enter Tryz.func99, Tryz.ntmps99
  go_wp2
  go_ret
  exact ⟨rfl, rfl⟩
/-- an iterator's box: it holds the spans S -/
def SeqS (w : World) (Bs : Nat) (S : List Sn) : Prop := ∃ A c b, (0 < S.length → A = some ⟨b, 0, none⟩) ∧ Bs < w.heap.size ∧ (0 < S.length → b < w.heap.size) ∧ w.cell? ⟨Bs, 0, none⟩ = some (.slice A S.length c) ∧
  ∀ j, j < S.length → w.cell? ⟨b, j * 2, none⟩ = some (.int .i64 (S.getD j (0, 0)).1) ∧ w.cell? ⟨b, j * 2 + 1, none⟩ = some (.int .i64 (S.getD j (0, 0)).2)
theorem OwSn.seqAt {w : World} {base n c : Nat} {A : Option Addr} {S : List Sn} (h : OwSn w base (.slice A n c) S) : SeqS (w.alloc (.cells #[.slice A n c] 27)) w.heap.size S := by
  obtain ⟨rfl, b, h1, h2, h3⟩ := h.seq
  have hx : Ext w (w.alloc (.cells #[.slice A S.length c] 27)) := Ext.alloc (Ext.refl _) _
  exact ⟨A, c, b, h1, by simp, fun e => by have := h2 e; simp; omega, (Boxed.new w 27 (.slice A S.length c)).cell,
    fun j hj => ⟨(hx.below.cell (p := ⟨b, j * 2, none⟩) (h2 (by omega))).trans (h3 j hj).1, (hx.below.cell (p := ⟨b, j * 2 + 1, none⟩) (h2 (by omega))).trans (h3 j hj).2⟩⟩
theorem i_AppendSeqS {w : World} {Bs : Nat} {S : List Sn} (h : SeqS w Bs S) (hl : S.length ≤ 1000000) :
    Calls Tryz.prog 139 #[.slice none 0 0, .func (.func 121) #[] #[.pointer (some ⟨Bs, 0, none⟩)]] w fun e w' => ∃ v, e = .returned v ∧ OwSn w' w.heap.size v S ∧ Ext w w' := by
  obtain ⟨A, c, b, h1, h2, h3, h4, h5⟩ := h
  exact (callsIn_wide.1 (apS_in Fence.wide 3 trivial trivial rfl (Nat.le_refl _) Bs b c A S h1 hl w h2 h3 h4 h5)).mono fun e w' ⟨v, he, ho, hb⟩ => ⟨v, he, ho, hb⟩
set_option maxHeartbeats 1600000 in
theorem i_CollectS {w : World} {Bs : Nat} {S : List Sn} (h : SeqS w Bs S) (hl : S.length ≤ 1000000) :
    Calls Tryz.prog 119 #[.func (.func 121) #[] #[.pointer (some ⟨Bs, 0, none⟩)]] w fun e w' => ∃ v, e = .returned v ∧ OwSn w' w.heap.size v S ∧ Ext w w' := by
  have HA := Lib.hid (i_AppendSeqS h hl)
  clear h
  go_enter Tryz.func119, Tryz.ntmps119
  go_wp2_with fail
  refine HA.out.mono ?_
  rintro e w1 ⟨v, rfl, hO, hx⟩
  obtain ⟨A, c, rfl, _⟩ := hO.sl len_encSn
  have HO := Lib.hid hO
  have HX := Lib.hid hx
  generalize S.length = n at *
  clear hO hx HA
  go_wp2
  go_ret
  exact ⟨.slice A n c, rfl, HO.out, HX.out⟩
set_option maxHeartbeats 1600000 in
theorem i_SortedFuncS {w : World} {Bs : Nat} {S : List Sn} (h : SeqS w Bs S) (hl : S.length ≤ 1000000) (hp : S.Pairwise (fun s t => s.1 < t.1)) :
    Calls Tryz.prog 98 #[.func (.func 121) #[] #[.pointer (some ⟨Bs, 0, none⟩)], .func (.func 100) #[] #[]] w fun e w' => ∃ v, e = .returned v ∧ OwSn w' w.heap.size v S ∧ Ext w w' := by
  have HA := Lib.hid (i_CollectS h hl)
  have HSO := Lib.hid (fun W b v (hO : OwSn W b v S) => sortSn_any hO hl hp)
  clear h hp
  go_enter Tryz.func98, Tryz.ntmps98
  go_wp2_with fail
  refine HA.out.mono ?_
  rintro e w1 ⟨v, rfl, hO, hx⟩
  have HO := Lib.hid hO
  have HX := Lib.hid hx
  have HSX := Lib.hid (HSO.out _ _ _ hO)
  obtain ⟨A, c, rfl, _⟩ := hO.sl len_encSn
  generalize S.length = n at *
  clear hO hx HA HSO
  go_wp2_with fail
  refine HSX.out.mono ?_
  rintro e w2 ⟨rfl, hx2⟩
  have HX2 := Lib.hid hx2
  clear hx2
  go_wp2
  go_ret
  exact ⟨.slice A n c, rfl, HO.out.ext HX2.out, HX.out.trans HX2.out⟩
end Go.Proofs.YtmpgjajkaehdiaaGreatDoor
