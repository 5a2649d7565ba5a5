/- Contracts of texts that are split, and of phrases, walked over the translation. -/
import Derived.Test.YtjjhhclaapifbaaDoorTW
import Derived.Test.YtjjhhclaapifbaaDoorTB
import Derived.Lib.SplitLaws
import Derived.Shelf.Vars
import Derived.Deep.RegionHeld3
import Derived.Deep.DeepCutAuto
import Derived.RegionTactic
import Derived.BigRegion
import Derived.WalkLawsBesides
import Derived.WalkSpells
import Derived.Lib.MinMax
import Derived.Outline
namespace Go.Proofs.YtjjhhclaapifbaaDoor
open Go.RowKit Go.PlainAid
attribute [local go_sem] ExtOf.cell ExtOf.frozen

/-- the pieces of a text between the places of a byte -/
def sp (c : UInt8) : List UInt8 → List (List UInt8)
  | [] => [[]]
  | b :: l => if b = c then [] :: sp c l else match sp c l with
    | [] => [[b]]
    | x :: r => (b :: x) :: r
theorem sp_ne (c : UInt8) : ∀ l, sp c l ≠ []
  | [] => by simp [sp]
  | b :: l => by
    unfold sp
    split
    · simp
    · split <;> simp
theorem splitK_sp (c : UInt8) : ∀ l : List UInt8, Lib.splitK [c] 0 (Lib.count l [c]) l = sp c l
  | [] => by rw [Lib.count_miss (by simp [Lib.index])]; rfl
  | b :: l => by
    have ih := splitK_sp c l
    by_cases h : b = c
    · subst h
      have hix : Lib.index (b :: l) [b] = ((0 : Nat) : Int) := by rw [Lib.index]; simp [List.isPrefixOf]
      rw [Lib.count_cons_eq, Nat.add_comm, Lib.splitK, hix, sp, if_pos rfl, ← ih]
      simp
    · rw [Lib.count_cons_ne b c l h, sp, if_neg h]
      have hp : ([c] : List UInt8).isPrefixOf (b :: l) = false := by simp [List.isPrefixOf, Ne.symm h]
      have hix : Lib.index (b :: l) [c] = if Lib.index l [c] == -1 then -1 else Lib.index l [c] + 1 := by rw [Lib.index, hp]; simp
      by_cases hm : Lib.index l [c] = -1
      · rw [Lib.count_miss hm] at ih ⊢
        rw [← ih]; rfl
      · have hge := Lib.index_ge l [c]
        obtain ⟨j, hj⟩ : ∃ j : Nat, Lib.index l [c] = j := ⟨(Lib.index l [c]).toNat, by omega⟩
        have hne : ¬ (((j : Nat) : Int) == -1) = true := fun e => by have := beq_iff_eq.1 e; omega
        rw [hj, if_neg hne] at hix
        rw [Lib.count_hit (by simp) hj, Nat.add_comm] at ih ⊢
        rw [Lib.splitK, hj, if_neg hne] at ih
        have hne2 : ¬ ((((j : Nat) : Int) + 1) == -1) = true := fun e => by have := beq_iff_eq.1 e; omega
        rw [Lib.splitK, hix, if_neg hne2, ← ih]
        simp only [Nat.add_zero]
        rw [show ((j : Int) + 1).toNat = j + 1 by omega, show ((j : Nat) : Int).toNat = j by omega]
        simp [Nat.add_comm, Nat.add_left_comm]
theorem sp_snoc (c b : UInt8) : ∀ (m : List UInt8) (O : List (List UInt8)) (x : List UInt8), sp c m = O ++ [x] → sp c (m ++ [b]) = if b = c then O ++ [x, []] else O ++ [x ++ [b]]
  | [], O, x, h => by
    have h' : O = [] ∧ x = [] := by
      rcases O with _ | ⟨y, O⟩
      · simp [sp] at h; exact ⟨rfl, h⟩
      · simp [sp] at h
    obtain ⟨rfl, rfl⟩ := h'
    simp [sp]
  | d :: m, O, x, h => by
    have hn := sp_ne c m
    by_cases hd : d = c
    · rw [List.cons_append, sp, if_pos hd]
      rw [sp, if_pos hd] at h
      rcases O with _ | ⟨y, O⟩
      · simp at h
        exact absurd h.2 hn
      · simp at h
        obtain ⟨rfl, h⟩ := h
        rw [sp_snoc c b m O x h]
        split <;> rfl
    · rw [List.cons_append, sp, if_neg hd]
      rw [sp, if_neg hd] at h
      rcases hs : sp c m with _ | ⟨y, r⟩
      · exact absurd hs hn
      · rw [hs] at h
        rcases O with _ | ⟨z, O⟩
        · simp at h
          obtain ⟨rfl, rfl⟩ := h
          rw [sp_snoc c b m [] y hs]
          by_cases hbc : b = c
          · rw [if_pos hbc, if_pos hbc]; rfl
          · rw [if_neg hbc, if_neg hbc]; rfl
        · simp at h
          obtain ⟨rfl, rfl⟩ := h
          rw [sp_snoc c b m (y :: O) x (by rw [hs]; rfl)]
          by_cases hbc : b = c
          · rw [if_pos hbc, if_pos hbc]; rfl
          · rw [if_neg hbc, if_neg hbc]; rfl
/-- the pieces that are whole, and where the next one begins, behind k bytes -/
def spS (c : UInt8) (l : List UInt8) : Nat → List (List UInt8) × Nat
  | 0 => ([], 0)
  | k + 1 => if l.getD k 0 = c then ((spS c l k).1 ++ [(l.take k).drop (spS c l k).2], k + 1) else spS c l k
theorem spS_le (c : UInt8) (l : List UInt8) : ∀ k, (spS c l k).2 ≤ k
  | 0 => Nat.le_refl _
  | k + 1 => by
    unfold spS
    split
    · exact Nat.le_refl _
    · exact Nat.le_succ_of_le (spS_le c l k)
theorem spS_len (c : UInt8) (l : List UInt8) : ∀ k, (spS c l k).1.length ≤ k
  | 0 => Nat.le_refl _
  | k + 1 => by
    have := spS_len c l k
    unfold spS
    split
    · simp; omega
    · omega
theorem spS_spec (c : UInt8) (l : List UInt8) : ∀ k, k ≤ l.length → sp c (l.take k) = (spS c l k).1 ++ [(l.take k).drop (spS c l k).2]
  | 0, _ => by simp [sp, spS]
  | k + 1, hk => by
    have ih := spS_spec c l k (by omega)
    have hle := spS_le c l k
    have ht : l.take (k + 1) = l.take k ++ [l.getD k 0] := by rw [List.take_succ_eq_append_getElem (by omega), getD_at (by omega)]
    rw [ht, sp_snoc c _ _ _ _ ih, spS]
    split
    · have hl : (l.take k ++ [l.getD k 0]).length = k + 1 := by rw [List.length_append, List.length_take, List.length_singleton]; omega
      rw [← hl, List.drop_length]
      simp
    · rw [List.drop_append_of_le_length (by rw [List.length_take]; omega)]
theorem tx_self (s : ByteArray) : tx s.data.toList = s := rfl
theorem tx_extract (s : ByteArray) (f k : Nat) : s.extract f k = tx ((s.data.toList.take k).drop f) := by
  apply ByteArray.ext
  apply Array.toList_inj.1
  rw [Lib.extract_data]
  show _ = (s.data.toList.take k).drop f
  rw [List.drop_take]
theorem bt_byte (s : ByteArray) {k : Nat} (hk : k < s.size) (c : UInt8) : (bt s k == (c.toNat : Int)) = decide (s.data.toList.getD k 0 = c) := by
  rw [bt_list s hk, Bool.eq_iff_iff, beq_iff_eq, decide_eq_true_eq, Int.natCast_inj]
  exact UInt8.toNat_inj
/-- so many small letters, over a list -/
def smL (l : List UInt8) (lo hi : Int) : Bool := inB l.length lo hi && l.all lowB
theorem smB_tx (l : List UInt8) (lo hi : Int) : smB (tx l) lo hi = smL l lo hi := by unfold smB smL; rw [tx_size, tx_list]
theorem smB_list (s : ByteArray) (lo hi : Int) : smB s lo hi = smL s.data.toList lo hi := by unfold smB smL; rw [size_list]
/-- some word's variable that no text lays: an integer, whatever it is -/
def Mx (w : World) : Prop := ∃ m : Int, w.cell? ⟨2, 0, none⟩ = some (.int .i64 m)
theorem Mx.ext {w w' : World} (h : Mx w) (hx : Ext w w') : Mx w' := by
  obtain ⟨m, hm⟩ := h
  exact ⟨m, (hx.cell _ _ (World.block_lt_of_cell? _ _ hm)).trans hm⟩
theorem flat_S : ∀ L : List ByteArray, (L.map (·.data.toList)).flatMap encS = L.map Value.string
  | [] => rfl
  | x :: L => by rw [List.map_cons, List.flatMap_cons, flat_S L]; rfl
theorem sp_len_le (c : UInt8) (l : List UInt8) : (sp c l).length ≤ l.length + 1 := by
  have h := spS_spec c l l.length (Nat.le_refl _)
  have := spS_len c l l.length
  rw [List.take_length] at h
  rw [h, List.length_append, List.length_singleton]
  omega
theorem sp_mem (c : UInt8) (l : List UInt8) {x : List UInt8} (h : x ∈ sp c l) : x.length ≤ l.length := by
  induction l generalizing x with
  | nil => simp [sp] at h; subst h; simp
  | cons b l ih =>
    unfold sp at h
    split at h
    · rcases List.mem_cons.1 h with e | e
      · subst e; simp
      · have := ih e; simp; omega
    · split at h
      · rename_i e
        exact absurd e (sp_ne c l)
      · rename_i y r e
        rcases List.mem_cons.1 h with e' | e'
        · subst e'
          have := ih (x := y) (by rw [e]; simp)
          simp; omega
        · have := ih (x := x) (by rw [e]; simp [e'])
          simp; omega
set_option maxHeartbeats 1600000 in
theorem i_areWords (A : Option Addr) (n c : Nat) (L : List (List UInt8)) (w : World) (h : SlAt w 1 encS A L) (hn : n = L.length) (hl : n ≤ 1048577) (hL : ∀ k, (L.getD k []).length ≤ 1048576) :
    Calls Tryd.prog 38 #[.slice A n c] w fun e w' => e = .returned (.bool (L.all fun x => smL x 1 16)) ∧ Ext w w' := by
  have HN := Lib.hid hn
  have HL := Lib.hid hL
  clear hn hL
  go_enter Tryd.func38, Tryd.ntmps38
  go_wp2
  go_loopw [7] (fun i wr => ∃ k : Nat, k ≤ n ∧ i = .int .i64 k ∧ Hid (∀ j, j < k → smL (L.getD j []) 1 16 = true) ∧ Ext w wr) (fun i _ => n - (intOf i).toNat)
  case atStart => exact ⟨0, by omega, rfl, fun j hj => absurd hj (by omega), by (repeat (first | with_reducible exact Ext.refl _ | with_reducible assumption | ((with_reducible apply Src.ext); with_reducible assumption) | with_reducible refine Ext.alloc ?_ _ | with_reducible refine Ext.drew ?_ | with_reducible refine Ext.drewN ?_ _ | ((with_reducible refine Ext.setCell' ?_ ?_ _); solve | omega | simp | (simp; omega)) | (with_reducible refine Ext.trans ?_ (by with_reducible assumption))))⟩
  case round =>
    obtain ⟨k, hk, rfl, HJ, hxr⟩ := hrel
    by_cases hlt : k < n
    · have hkn : k < L.length := by rw [← HN.out]; exact hlt
      obtain ⟨b, off, rfl, hb, d0⟩ := (h.ext hxr).st hkn
      have hk1 := HL.out k
      obtain ⟨x, hx⟩ : ∃ x, x = L.getD k [] := ⟨_, rfl⟩
      rw [← hx] at d0 hk1
      have HX := Lib.hid hx
      have hcall := fun W => i_IsWord (tx x) W (by rw [tx_size]; omega)
      rw [smB_tx] at hcall
      clear hx
      cases hq : smL x 1 16 with
      | true =>
        rw [hq] at hcall
        have HC := Lib.hid hcall
        have HJ2 : Hid (∀ j, j < k + 1 → smL (L.getD j []) 1 16 = true) := Lib.hid (fun j hj => by
          rcases Nat.lt_or_ge j k with e | e
          · exact HJ.out j e
          · obtain rfl : j = k := by omega
            rw [← HX.out]; exact hq)
        clear hq hcall hk1
        (go_wp2_with fail; refine (HC.out _).mono ?_; rintro e w1 ⟨rfl, hx1⟩; obtain ⟨hc1, hf1⟩ := hx1.rules; have hs1 := hx1.size; (try simp at hs1))
        go_wp2
        go_roundw
        case rel => exact ⟨k + 1, by omega, by go_num, HJ2, by (repeat (first | with_reducible exact Ext.refl _ | with_reducible assumption | ((with_reducible apply Src.ext); with_reducible assumption) | with_reducible refine Ext.alloc ?_ _ | with_reducible refine Ext.drew ?_ | with_reducible refine Ext.drewN ?_ _ | ((with_reducible refine Ext.setCell' ?_ ?_ _); solve | omega | simp | (simp; omega)) | (with_reducible refine Ext.trans ?_ (by with_reducible assumption))))⟩
        case measure => simp [intOf]; omega
      | false =>
        rw [hq] at hcall
        have HC := Lib.hid hcall
        have HF : Hid ((L.all fun x => smL x 1 16) = false) := Lib.hid (by
          rw [List.all_eq_false]
          exact ⟨L.getD k [], by simp [List.getD, hkn], by rw [← HX.out, hq]; simp⟩)
        clear hq hcall hk1
        (go_wp2_with fail; refine (HC.out _).mono ?_; rintro e w1 ⟨rfl, hx1⟩; obtain ⟨hc1, hf1⟩ := hx1.rules; have hs1 := hx1.size; (try simp at hs1))
        go_wp2
        go_ret
        exact ⟨ret_bool' HF.out.symm, by (repeat (first | with_reducible exact Ext.refl _ | with_reducible assumption | ((with_reducible apply Src.ext); with_reducible assumption) | with_reducible refine Ext.alloc ?_ _ | with_reducible refine Ext.drew ?_ | with_reducible refine Ext.drewN ?_ _ | ((with_reducible refine Ext.setCell' ?_ ?_ _); solve | omega | simp | (simp; omega)) | (with_reducible refine Ext.trans ?_ (by with_reducible assumption))))⟩
    · obtain rfl : k = n := by omega
      go_wp2
      go_ret
      refine ⟨ret_bool' (Eq.symm ?_), hxr⟩
      rw [List.all_eq_true]
      intro x hx
      obtain ⟨j, hj, rfl⟩ := List.mem_iff_getElem.1 hx
      have := HJ.out j (by rw [HN.out]; exact hj)
      simpa [List.getD, hj] using this
/-- a phrase -/
def phB (l : List UInt8) : Bool := decide ((sp 32 l).length ≤ 8) && (sp 32 l).all fun x => smL x 1 16
theorem sp_getD (c : UInt8) (l : List UInt8) (k : Nat) : ((sp c l).getD k []).length ≤ l.length := by
  rcases Nat.lt_or_ge k (sp c l).length with e | e
  · exact sp_mem c l (by simp [List.getD, e])
  · rw [List.getD_eq_getElem?_getD, List.getElem?_eq_none e]; simp
theorem ret_tb {v : Value} {a b : Bool} (h : a = b) : Ending.returned (.tuple #[v, .bool a]) = .returned (.tuple #[v, .bool b]) := by rw [h]

end Go.Proofs.YtjjhhclaapifbaaDoor
