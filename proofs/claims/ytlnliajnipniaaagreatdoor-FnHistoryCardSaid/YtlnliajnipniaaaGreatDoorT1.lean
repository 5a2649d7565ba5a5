/- Contracts of changes, walked over the translation. The law of IsChange, walked over the translation. Contracts of ChangeText, walked over the translation. Plain laws of numbers as texts: a numeral, read back; a text cut at a byte. Contracts of numbers read, walked over the translation. Contracts of points read, walked over the translation. Reading a point: the specification and the law, walked over the translation. Plain laws of texts that are joined and split again; of the text of a change. Contracts of changes read, walked over the translation. Reading a change, walked over the translation: plain laws, the specification. -/
import Derived.Test.YtlnliajnipniaaaGreatDoorGT
import Derived.Lib.ParseIntBCases
import Derived.Lib.IndexMore
namespace Go.Proofs.YtlnliajnipniaaaGreatDoor
open Go.RowKit
attribute [local go_sem] ExtOf.cell ExtOf.frozen
def chB (y k : Int) (co ot la te : ByteArray) : Bool :=
 inB y (-2999) 3000 && (inB k 0 3 && (smB co 1 16 && ((if (k == 2) = true ∨ (k == 3) = true then (smB ot 1 16 && !(ot.toList == co.toList)) else ot.toList.isEmpty) &&
  (if (k == 0) = true then (smL la.data.toList 2 3 && phB te.data.toList) else (la.toList.isEmpty && te.toList.isEmpty)))))
set_option maxRecDepth 20000 in
set_option maxHeartbeats 12800000 in
theorem s_IsChange (y k : Int) (co ot la te : ByteArray) (w : World) (h1 : co.size ≤ 1048576) (h2 : ot.size ≤ 1048576) (h3 : la.size ≤ 1048576) (h4 : te.size ≤ 1048576) :
  Calls Tryz.prog 156 #[.agg #[.int .i64 y, .int .i64 k, .string co, .string ot, .string la, .string te]] w fun e w' => e = .returned (.bool (chB y k co ot la te)) ∧ Ext w w' := by
 cases hk : inB k 0 3 with
 | false =>
  rw [show chB y k co ot la te = false by unfold chB; rw [hk, Bool.false_and, Bool.and_false]]
  go_enter Tryz.func156, Tryz.ntmps156
  go_wp2_with (first | (go_at_call 61; refine (l01In_any _ _ _ _).mono ?_; rintro e w' ⟨rfl, rfl⟩) | (go_at_call 106; refine (s_IsWord _ _ (by omega)).mono ?_; rintro e w1 ⟨rfl, hx1⟩; obtain ⟨hc1, hf1, hs1⟩ := hx1.all; (try simp at hs1); have := (show w.heap.size < w1.heap.size from by omega)) | (go_at_call 96; refine (s_l09Language _ _ (by omega)).mono ?_; rintro e w2 ⟨rfl, hx2⟩; obtain ⟨hc2, hf2, hs2⟩ := hx2.all; (try simp at hs2); have := (show w.heap.size < w2.heap.size from by omega)) | (go_at_call 178; refine (s_IsPhrase _ _ (by omega)).mono ?_; rintro e w3 ⟨rfl, hx3⟩; obtain ⟨hc3, hf3, hs3⟩ := hx3.all; (try simp at hs3); have := (show w.heap.size < w3.heap.size from by omega)))
  all_goals go_ret
  all_goals exact ⟨rfl, xA xR⟩
 | true =>
  have hk4 : k = 0 ∨ k = 1 ∨ k = 2 ∨ k = 3 := by simp [inB] at hk; omega
  rcases hk4 with rfl | rfl | rfl | rfl
  ·rw [show chB y 0 co ot la te = (inB y (-2999) 3000 && (smB co 1 16 && (ot.toList.isEmpty && (smL la.data.toList 2 3 && phB te.data.toList)))) by unfold chB; rw [hk]; simp]
   go_enter Tryz.func156, Tryz.ntmps156
   go_wp2_with (first | (go_at_call 61; refine (l01In_any _ _ _ _).mono ?_; rintro e w' ⟨rfl, rfl⟩) | (go_at_call 106; refine (s_IsWord _ _ (by omega)).mono ?_; rintro e w1 ⟨rfl, hx1⟩; obtain ⟨hc1, hf1, hs1⟩ := hx1.all; (try simp at hs1); have := (show w.heap.size < w1.heap.size from by omega)) | (go_at_call 96; refine (s_l09Language _ _ (by omega)).mono ?_; rintro e w2 ⟨rfl, hx2⟩; obtain ⟨hc2, hf2, hs2⟩ := hx2.all; (try simp at hs2); have := (show w.heap.size < w2.heap.size from by omega)) | (go_at_call 178; refine (s_IsPhrase _ _ (by omega)).mono ?_; rintro e w3 ⟨rfl, hx3⟩; obtain ⟨hc3, hf3, hs3⟩ := hx3.all; (try simp at hs3); have := (show w.heap.size < w3.heap.size from by omega)))
   all_goals go_ret
   all_goals refine ⟨ret_bool' ?_, by with_reducible first|exact xA xR|exact xT (xA xR) hx1|exact xT (xT (xA xR) hx1) hx2|exact xT (xT (xT (xA xR) hx1) hx2) hx3⟩
   all_goals (try simp only [Bool.not_eq_true', Bool.not_eq_false'] at *)
   all_goals (try simp [*])
  ·rw [show chB y 1 co ot la te = (inB y (-2999) 3000 && (smB co 1 16 && (ot.toList.isEmpty && (la.toList.isEmpty && te.toList.isEmpty)))) by unfold chB; rw [hk]; simp]
   go_enter Tryz.func156, Tryz.ntmps156
   go_wp2_with (first | (go_at_call 61; refine (l01In_any _ _ _ _).mono ?_; rintro e w' ⟨rfl, rfl⟩) | (go_at_call 106; refine (s_IsWord _ _ (by omega)).mono ?_; rintro e w1 ⟨rfl, hx1⟩; obtain ⟨hc1, hf1, hs1⟩ := hx1.all; (try simp at hs1); have := (show w.heap.size < w1.heap.size from by omega)) | (go_at_call 96; refine (s_l09Language _ _ (by omega)).mono ?_; rintro e w2 ⟨rfl, hx2⟩; obtain ⟨hc2, hf2, hs2⟩ := hx2.all; (try simp at hs2); have := (show w.heap.size < w2.heap.size from by omega)) | (go_at_call 178; refine (s_IsPhrase _ _ (by omega)).mono ?_; rintro e w3 ⟨rfl, hx3⟩; obtain ⟨hc3, hf3, hs3⟩ := hx3.all; (try simp at hs3); have := (show w.heap.size < w3.heap.size from by omega)))
   all_goals go_ret
   all_goals refine ⟨ret_bool' ?_, by with_reducible first|exact xA xR|exact xT (xA xR) hx1⟩
   all_goals (try simp only [Bool.not_eq_true', Bool.not_eq_false'] at *)
   all_goals (try simp [*])
  ·rw [show chB y 2 co ot la te = (inB y (-2999) 3000 && (smB co 1 16 && ((smB ot 1 16 && !(ot.toList == co.toList)) && (la.toList.isEmpty && te.toList.isEmpty)))) by unfold chB; rw [hk]; simp]
   go_enter Tryz.func156, Tryz.ntmps156
   go_wp2_with (first | (go_at_call 61; refine (l01In_any _ _ _ _).mono ?_; rintro e w' ⟨rfl, rfl⟩) | (go_at_call 106; refine (s_IsWord _ _ (by omega)).mono ?_; rintro e w1 ⟨rfl, hx1⟩; obtain ⟨hc1, hf1, hs1⟩ := hx1.all; (try simp at hs1); have := (show w.heap.size < w1.heap.size from by omega)) | (go_at_call 96; refine (s_l09Language _ _ (by omega)).mono ?_; rintro e w2 ⟨rfl, hx2⟩; obtain ⟨hc2, hf2, hs2⟩ := hx2.all; (try simp at hs2); have := (show w.heap.size < w2.heap.size from by omega)) | (go_at_call 178; refine (s_IsPhrase _ _ (by omega)).mono ?_; rintro e w3 ⟨rfl, hx3⟩; obtain ⟨hc3, hf3, hs3⟩ := hx3.all; (try simp at hs3); have := (show w.heap.size < w3.heap.size from by omega)))
   all_goals go_ret
   all_goals refine ⟨ret_bool' ?_, by with_reducible first|exact xA xR|exact xT (xA xR) hx1|exact xT (xT (xA xR) (by assumption)) hx1⟩
   all_goals (try simp only [Bool.not_eq_true', Bool.not_eq_false'] at *)
   all_goals (try simp [*])
  ·rw [show chB y 3 co ot la te = (inB y (-2999) 3000 && (smB co 1 16 && ((smB ot 1 16 && !(ot.toList == co.toList)) && (la.toList.isEmpty && te.toList.isEmpty)))) by unfold chB; rw [hk]; simp]
   go_enter Tryz.func156, Tryz.ntmps156
   go_wp2_with (first | (go_at_call 61; refine (l01In_any _ _ _ _).mono ?_; rintro e w' ⟨rfl, rfl⟩) | (go_at_call 106; refine (s_IsWord _ _ (by omega)).mono ?_; rintro e w1 ⟨rfl, hx1⟩; obtain ⟨hc1, hf1, hs1⟩ := hx1.all; (try simp at hs1); have := (show w.heap.size < w1.heap.size from by omega)) | (go_at_call 96; refine (s_l09Language _ _ (by omega)).mono ?_; rintro e w2 ⟨rfl, hx2⟩; obtain ⟨hc2, hf2, hs2⟩ := hx2.all; (try simp at hs2); have := (show w.heap.size < w2.heap.size from by omega)) | (go_at_call 178; refine (s_IsPhrase _ _ (by omega)).mono ?_; rintro e w3 ⟨rfl, hx3⟩; obtain ⟨hc3, hf3, hs3⟩ := hx3.all; (try simp at hs3); have := (show w.heap.size < w3.heap.size from by omega)))
   all_goals go_ret
   all_goals refine ⟨ret_bool' ?_, by with_reducible first|exact xA xR|exact xT (xA xR) hx1|exact xT (xT (xA xR) (by assumption)) hx1⟩
   all_goals (try simp only [Bool.not_eq_true', Bool.not_eq_false'] at *)
   all_goals (try simp [*])
def dtB (s : ByteArray) : ByteArray := if s.toList.isEmpty then ⟨#[46]⟩ else s
theorem dtB_len {s : ByteArray} {m : Nat} (h : s.size ≤ m) (hm : 1 ≤ m) : (dtB s).size ≤ m := by
 unfold dtB
 split
 ·exact hm
 ·exact h
def chL (y k : Int) (co ot la te : ByteArray) : List (List UInt8) := [Lib.itoa y, Lib.itoa k, co.data.toList, (dtB ot).data.toList, (dtB la).data.toList, (dtB te).data.toList]
def chT (y k : Int) (co ot la te : ByteArray) : List UInt8 := jn (chL y k co ot la te) [47]
theorem chT_len {y k : Int} {co ot la te : ByteArray} (hy : Num y) (hk : Num k) (h1 : co.size ≤ 1048576) (h2 : ot.size ≤ 1048576) (h3 : la.size ≤ 1048576) (h4 : te.size ≤ 1048576) : (chT y k co ot la te).length ≤ 6291462 := by
 have := jn_len (L := chL y k co ot la te) (sep := [47]) (m := 1048576) (by
  intro x hx
  have a1 := itoa_len hy
  have a2 := itoa_len hk
  have a4 := dtB_len (m := 1048576) h2 (by omega)
  have a5 := dtB_len (m := 1048576) h3 (by omega)
  have a6 := dtB_len (m := 1048576) h4 (by omega)
  rw [← size_list] at a4 a5 a6 h1
  simp only [chL, List.mem_cons, List.not_mem_nil, or_false] at hx
  rcases hx with rfl | rfl | rfl | rfl | rfl | rfl <;> omega)
 simp only [chL, List.length_cons, List.length_nil] at this
 exact this
end Go.Proofs.YtlnliajnipniaaaGreatDoor
namespace Go.Proofs.YtlnliajnipniaaaGreatDoor
open Go.Lib (decDigits itoa parseUintM parseUintB parseIntB NumEnd cut index)
theorem sp_free {c : UInt8} : ∀ {l : List UInt8}, c ∉ l → sp c l = [l]
 | [], _ => rfl
 | b :: l, h => by
  simp only [List.mem_cons, not_or] at h
  rw [sp, if_neg (fun e => h.1 e.symm), sp_free h.2]
theorem sp_cut {c : UInt8} : ∀ {a : List UInt8} (b : List UInt8), c ∉ a → sp c (a ++ c :: b) = a :: sp c b
 | [], b, _ => by rw [List.nil_append, sp, if_pos rfl]
 | x :: a, b, h => by
  simp only [List.mem_cons, not_or] at h
  rw [List.cons_append, sp, if_neg (fun e => h.1 e.symm), sp_cut b h.2]
end Go.Proofs.YtlnliajnipniaaaGreatDoor
namespace Go.Proofs.YtlnliajnipniaaaGreatDoor
open Go.RowKit
attribute [local go_sem] ExtOf.cell ExtOf.frozen
open Go.PlainAid
end Go.Proofs.YtlnliajnipniaaaGreatDoor
namespace Go.Proofs.YtlnliajnipniaaaGreatDoor
theorem jn_two (x y : List UInt8) (r : List (List UInt8)) (c : UInt8) : jn (x :: y :: r) [c] = x ++ c :: jn (y :: r) [c] := by
 show Lib.join (x :: y :: r) [c] = x ++ c :: Lib.join (y :: r) [c]
 rw [Lib.join_cons, Lib.join_cons]
 unfold Lib.joinTail
 simp
theorem sp_jn {c : UInt8} : ∀ {L : List (List UInt8)}, L ≠ [] → (∀ x ∈ L, c ∉ x) → sp c (jn L [c]) = L
 | [], h, _ => absurd rfl h
 | [x], _, h => by
  rw [show jn [x] [c] = x from Lib.join_one x [c]]
  exact sp_free (h x (List.mem_singleton.2 rfl))
 | x :: y :: r, _, h => by
  rw [jn_two, sp_cut _ (h x (List.mem_cons_self ..)), sp_jn (by simp) fun z hz => h z (List.mem_cons_of_mem _ hz)]
end Go.Proofs.YtlnliajnipniaaaGreatDoor
namespace Go.Proofs.YtlnliajnipniaaaGreatDoor
open Go.RowKit
attribute [local go_sem] ExtOf.cell ExtOf.frozen
open Go.PlainAid
end Go.Proofs.YtlnliajnipniaaaGreatDoor
