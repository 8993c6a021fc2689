/-
  Plainly: texts cut at a sign, lines and lists read. Nothing of a program stands here.
-/
import Derived.Test.YtmlmmaojomghdaaGreatDoorTeuh
set_option linter.unusedVariables false
set_option linter.unusedSimpArgs false
set_option maxHeartbeats 1000000
namespace Go.Sx
open Go

def cutL (c : UInt8) : Str → List Str
  | [] => [[]]
  | x :: s => if x = c then [] :: cutL c s else match cutL c s with
    | [] => [[x]]
    | w :: r => (x :: w) :: r
theorem cutL_one {c : UInt8} : ∀ {w : Str}, c ∉ w → cutL c w = [w]
  | [], _ => rfl
  | x :: s, h => by
    simp only [List.mem_cons, not_or] at h
    unfold cutL
    rw [if_neg (fun e => h.1 e.symm), cutL_one h.2]
theorem cutL_app {c : UInt8} {s : Str} : ∀ {w : Str}, c ∉ w → cutL c (w ++ c :: s) = w :: cutL c s
  | [], _ => by
    show (if c = c then _ else _) = _
    rw [if_pos rfl]
  | x :: w, h => by
    simp only [List.mem_cons, not_or] at h
    show (if x = c then _ else _) = _
    rw [if_neg (fun e => h.1 e.symm)]
    show (match cutL c (w ++ c :: s) with | [] => [[x]] | w :: r => (x :: w) :: r) = _
    rw [cutL_app h.2]
theorem cutL_join {c : UInt8} : ∀ {ws : List Str}, ws ≠ [] → (∀ w ∈ ws, c ∉ w) → cutL c (joinL c ws) = ws
  | [], h, _ => absurd rfl h
  | [w], _, h => cutL_one (h w (by simp))
  | w :: x :: r, _, h => by
    rw [joinL_cons c w (by simp), cutL_app (h w (by simp)), cutL_join (by simp) fun y hy => h y (by simp [hy])]
theorem joinL_mem {c : UInt8} : ∀ {ws : List Str} {x : UInt8}, x ∈ joinL c ws → x = c ∨ ∃ w ∈ ws, x ∈ w
  | [], x, h => by simp [joinL] at h
  | [w], x, h => Or.inr ⟨w, by simp, h⟩
  | w :: y :: r, x, h => by
    rw [joinL_cons c w (by simp)] at h
    rcases List.mem_append.1 h with h | h
    · exact Or.inr ⟨w, by simp, h⟩
    · rcases List.mem_cons.1 h with h | h
      · exact Or.inl h
      · rcases joinL_mem h with h | ⟨z, hz, hx⟩
        · exact Or.inl h
        · exact Or.inr ⟨z, by simp at hz ⊢; exact Or.inr hz, hx⟩
theorem devs_join (xs : List Dev) : (joinL 44 (xs.map devL)).length ≤ xs.length * 12 := by
  have h1 := joinL_len 44 (xs.map devL)
  have h2 := flat_len (ws := (xs.map devL).map (· ++ [44])) (b := 12) (by
    intro x hx
    simp only [List.map_map, List.mem_map] at hx
    obtain ⟨d, _, rfl⟩ := hx
    have := devL_len d
    simp; omega)
  refine Nat.le_trans h1 (Nat.le_trans h2 ?_)
  simp only [List.length_map]
  omega
theorem cmp_short (op : Int) : (cmpS op).length ≤ 2 := by
  unfold cmpS
  (repeat' split) <;> decide
theorem elem_short (op : Int) (xs : List Dev) : (elemL op xs).length ≤ 40 := by
  unfold elemL
  split
  · rename_i hc
    have h2 := eOk_all (op := op) (xs := xs) (by unfold eOk; rw [hc]; rfl)
    have hop : 21 ≤ op ∧ op ≤ 37 := by
      unfold coilOk at hc
      simp only [Bool.and_eq_true, decide_eq_true_eq] at hc
      omega
    obtain ⟨_, _, _, _, f5, f6, f7, f8⟩ := coil_facts op hop.1 hop.2
    have hj := devs_join xs
    have hq := h2.2
    simp only [List.length_cons, List.length_append]
    by_cases h3 : 3 ≤ arity op
    · have := f8 h3
      omega
    · omega
  · split
    · have l0 := devL_len (xD xs 0)
      have l1 := devL_len (xD xs 1)
      have l2 := cmp_short (op - 4)
      unfold conT
      (repeat' split) <;> (try simp only [List.length_cons, List.length_append]) <;> omega
    · simp
end Go.Sx
