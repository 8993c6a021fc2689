/-
  Contacts and coils, read out of their texts as the program does it. Plain Lean: nothing of a program stands here. Conditions: none.
-/
import Derived.Test.YtmlmmaojomghdaaDoorTdth
import Derived.Lib.Split
set_option linter.unusedVariables false
set_option linter.unusedSimpArgs false
namespace Go.Sx
open Go

theorem index_one (c : UInt8) : ∀ s : Str, Lib.index s [c] = idxL c s
  | [] => rfl
  | x :: s => by
    rw [Lib.index, idxL, index_one c s]
    simp only [List.isPrefixOf, Bool.and_true, beq_iff_eq]
    by_cases h : x = c
    · rw [if_pos h.symm, if_pos h]
    · rw [if_neg (fun e => h e.symm), if_neg h]
theorem splitK_join {c : UInt8} : ∀ (ws : List Str) (k : Nat), ws ≠ [] → ws.length ≤ k + 1 → (∀ w ∈ ws, c ∉ w) → Lib.splitK [c] 0 k (joinL c ws) = ws
  | [], _, h, _, _ => absurd rfl h
  | [w], k, _, _, h => by
    have hw : c ∉ w := h w (by simp)
    cases k with
    | zero => rfl
    | succ k =>
      show Lib.splitK [c] 0 (k + 1) w = [w]
      rw [Lib.splitK, index_one, idxL_miss hw]
      simp
  | w :: x :: r, k, _, hl, h => by
    have hw : c ∉ w := h w (by simp)
    match k, hl with
    | k + 1, hl =>
      rw [joinL_cons c w (by simp), Lib.splitK, index_one, idxL_hit hw]
      rw [if_neg (by simp only [beq_iff_eq]; omega)]
      simp only [Int.toNat_natCast, Nat.add_zero, List.length_cons, List.length_nil, Nat.zero_add]
      rw [List.take_left, show w ++ c :: joinL c (x :: r) = (w ++ [c]) ++ joinL c (x :: r) by simp, show w.length + 1 = (w ++ [c]).length by simp, List.drop_left,
        splitK_join (x :: r) k (by simp) (by simpa using hl) fun y hy => h y (by simp [hy])]
theorem joinL_count (c : UInt8) : ∀ (ws : List Str), ws ≠ [] → ws.length ≤ (joinL c ws).length + 1
  | [], h => absurd rfl h
  | [w], _ => by simp
  | w :: x :: r, _ => by
    have := joinL_count c (x :: r) (by simp)
    rw [joinL_cons c w (by simp), List.length_append, List.length_cons (a := w), List.length_cons (a := c)]
    omega
theorem splitN_join {c : UInt8} {ws : List Str} {n : Nat} (h0 : ws ≠ []) (hn : ws.length ≤ n) (h : ∀ w ∈ ws, c ∉ w) : Lib.splitN (joinL c ws) [c] n = ws := by
  unfold Lib.splitN
  have := joinL_count c ws h0
  have h1 : 0 < ws.length := List.length_pos_iff.2 h0
  exact splitK_join ws _ h0 (by omega) h
end Go.Sx
