/-
  The machine whose stacks are lists. Plain Lean: nothing of a program stands here. Conditions: none.
-/
import Derived.Test.YtmiicjgbhkjocaaGreatMd
set_option linter.unusedVariables false
set_option linter.unusedSimpArgs false
set_option maxRecDepth 100000
namespace Go.Sx
open Go

def stk (l : List Bool) : Int × Int := (valL l, (l.length : Int))
def lastB (l : List Bool) : Bool := l.getLast?.getD false
theorem valL_len (l : List Bool) : 0 ≤ valL l ∧ valL l < 2 ^ l.length := valL_bd _ l rfl
theorem stk_ok {m : Nat} {l : List Bool} (h : l.length ≤ m) : SOk m (stk l) := by
  have := valL_len l
  refine ⟨this.1, okS_iff.2 ⟨?_, ?_, ?_⟩⟩ <;> simp only [stk]
  · omega
  · omega
  · rw [Int.toNat_natCast]; exact this.2
theorem listS_stk {m : Nat} {l : List Bool} (h : l.length ≤ m) : listS m (stk l).1 (stk l).2 = l := by
  unfold listS
  rw [if_pos (stk_ok h).ok]
  simp only [stk, Int.toNat_natCast]
  exact bitsL_valL _ l rfl
theorem push_stk {m : Nat} {l : List Bool} (h : l.length < m) (x : Bool) : pushS m (goodS m (stk l).1 (stk l).2) x = stk (l ++ [x]) := by
  have hv := (stk_ok (m := m) (l := l) (by omega)).b
  rcases push_law (m := m) (b := (stk l).1) (n := (stk l).2) hv x with e | e
  · rw [← e, listS_stk (by omega), stack_list (by simp; omega)]; rfl
  · omega
theorem pop_stk {m : Nat} {l : List Bool} (h : l.length ≤ m) : popS (goodS m (stk l).1 (stk l).2) = stk l.dropLast ∧ topS (goodS m (stk l).1 (stk l).2) = lastB l := by
  have hv := (stk_ok (m := m) (l := l) h).b
  obtain ⟨e1, e2⟩ := pop_law (m := m) (b := (stk l).1) (n := (stk l).2) hv
  rw [listS_stk h] at e1 e2
  rw [← e1, ← e2, stack_list (by simp; omega)]
  exact ⟨rfl, rfl⟩
theorem turn_stk {m : Nat} {l : List Bool} (h : l.length ≤ m) (hne : l ≠ []) (x : Bool) : turnS (goodS m (stk l).1 (stk l).2) x = stk (l.dropLast ++ [x]) := by
  have hv := (stk_ok (m := m) (l := l) h).b
  have e := turn_law (m := m) (b := (stk l).1) (n := (stk l).2) hv x (by rw [listS_stk h]; exact hne)
  rw [listS_stk h] at e
  have hl : 0 < l.length := List.length_pos_iff.2 hne
  rw [← e, stack_list (by simp; omega)]; rfl
structure ID where
  m : M
  bits : List Bool
  forks : List Bool
def idJoin (code : Int) (l : List Bool) (b : Bool) : List Bool := if code = 1 then l ++ [b] else if code = 2 then l.dropLast ++ [lastB l && b] else l.dropLast ++ [lastB l || b]
def idN (t : ID) (x : Ins) (dt : Int) : ID :=
  if 1 ≤ x.code ∧ x.code ≤ 3 then ⟨testM t.m x.op (argD x.args 0) (argD x.args 1), idJoin x.code t.bits (testB t.m x.op (argD x.args 0) (argD x.args 1)), t.forks⟩
  else if x.code = 4 ∨ x.code = 5 then ⟨t.m, idJoin (x.code - 2) t.bits.dropLast (lastB t.bits), t.forks⟩
  else if x.code = 6 then ⟨t.m, t.bits.dropLast ++ [!lastB t.bits], t.forks⟩
  else if x.code = 7 then ⟨t.m, t.bits, t.forks ++ [lastB t.bits]⟩
  else if x.code = 8 then ⟨t.m, t.bits.dropLast ++ [lastB t.forks], t.forks⟩
  else if x.code = 9 then ⟨t.m, t.bits.dropLast ++ [lastB t.forks], t.forks.dropLast⟩
  else if x.code = 10 then ⟨doM t.m x.op (argD x.args 0) (argD x.args 1) (argD x.args 2) (lastB t.bits) dt, t.bits, t.forks⟩
  else if x.code = 11 then ⟨t.m, t.bits.dropLast, t.forks⟩
  else t
structure IdR (t : MS) (i : ID) : Prop where
  m : MSame t.m i.m
  s : t.s = stk i.bits
  sl : i.bits.length ≤ 16
  f : t.f = stk i.forks
  fl : i.forks.length ≤ 8
theorem len_drop1 {l : List Bool} : l.dropLast.length = l.length - 1 := List.length_dropLast
theorem join_stk {l : List Bool} {code : Int} (b : Bool) (h1 : code = 1 → l.length < 16) (h2 : code ≠ 1 → l ≠ [] ∧ l.length ≤ 16) : joinB code (stk l) b = stk (idJoin code l b) ∧ (idJoin code l b).length ≤ 16 := by
  unfold joinB idJoin
  by_cases c1 : code = 1
  · rw [if_pos c1, if_pos c1]
    have := h1 c1
    exact ⟨push_stk this b, by simp; omega⟩
  · rw [if_neg c1, if_neg c1]
    obtain ⟨g1, g2⟩ := h2 c1
    have hl : 0 < l.length := List.length_pos_iff.2 g1
    have e : topB (stk l) = lastB l := (pop_stk g2).2
    by_cases c2 : code = 2
    · rw [if_pos c2, if_pos c2, e]
      exact ⟨turn_stk g2 g1 _, by simp; omega⟩
    · rw [if_neg c2, if_neg c2, e]
      exact ⟨turn_stk g2 g1 _, by simp; omega⟩
theorem idN_step {t : MS} {i : ID} {x : Ins} (dt : Int) (h : IdR t i) (hh : haltN i.bits.length i.forks.length x = 0) : IdR (machN t x dt) (idN i x dt) := by
  obtain ⟨m, s, f⟩ := t
  obtain ⟨m', bits, forks⟩ := i
  obtain ⟨hm, hs, hsl, hf, hfl⟩ := h
  simp only at hm hs hsl hf hfl hh
  subst hs hf
  unfold haltN at hh
  by_cases hc : 1 ≤ x.code ∧ x.code ≤ 11
  · rw [if_neg (by simpa using hc)] at hh
    split at hh
    · omega
    rename_i q1
    split at hh
    · omega
    rename_i q2
    clear hh
    unfold needsN at q1
    have ne : (bits.length : Int) ≠ 0 → bits ≠ [] := fun h e => by subst e; simp at h
    have nf : (forks.length : Int) ≠ 0 → forks ≠ [] := fun h e => by subst e; simp at h
    have pS : popB (stk bits) = stk bits.dropLast := (pop_stk hsl).1
    have tS : topB (stk bits) = lastB bits := (pop_stk hsl).2
    have pF : popF (stk forks) = stk forks.dropLast := (pop_stk hfl).1
    have tF : topF (stk forks) = lastB forks := (pop_stk hfl).2
    have hd : bits.dropLast.length = bits.length - 1 := List.length_dropLast
    have hd' : forks.dropLast.length = forks.length - 1 := List.length_dropLast
    unfold machN idN
    simp only
    by_cases c3 : x.code ≤ 3
    · have k1 : 1 ≤ x.code ∧ x.code ≤ 3 := ⟨hc.1, c3⟩
      rw [if_pos k1, if_pos k1, testB_same hm]
      have j := join_stk (l := bits) (code := x.code) (testB m' x.op (argD x.args 0) (argD x.args 1)) (fun e => by omega) (fun e => ⟨ne (by
        rw [if_neg (by omega), if_neg e] at q1; omega), hsl⟩)
      exact ⟨testM_same hm _ _ _, j.1, j.2, rfl, hfl⟩
    have k1 : ¬ (1 ≤ x.code ∧ x.code ≤ 3) := by omega
    rw [if_neg k1, if_neg k1]
    by_cases c4 : x.code = 4 ∨ x.code = 5
    · rw [if_pos c4, if_pos c4, pS, tS]
      rw [if_pos c4] at q1
      have j := join_stk (l := bits.dropLast) (code := x.code - 2) (lastB bits) (fun e => by omega) (fun e => ⟨fun e => by
        have := congrArg List.length e
        rw [hd] at this; simp at this; omega, by omega⟩)
      exact ⟨hm, j.1, j.2, rfl, hfl⟩
    rw [if_neg c4, if_neg c4]
    rw [if_neg c4, if_neg (by omega)] at q1
    have hb := ne (by omega)
    have hlb : 0 < bits.length := List.length_pos_iff.2 hb
    have tu : ∀ y, turnB (stk bits) y = stk (bits.dropLast ++ [y]) := fun y => turn_stk hsl hb y
    have tl : ∀ y, (bits.dropLast ++ [y]).length ≤ 16 := fun y => by simp; omega
    by_cases c6 : x.code = 6
    · rw [if_pos c6, if_pos c6, tS]
      exact ⟨hm, tu _, tl _, rfl, hfl⟩
    rw [if_neg c6, if_neg c6]
    by_cases c7 : x.code = 7
    · rw [if_pos c7, if_pos c7, tS]
      have hlt : forks.length < 8 := by omega
      exact ⟨hm, rfl, hsl, push_stk hlt _, by simp; omega⟩
    rw [if_neg c7, if_neg c7]
    by_cases c8 : x.code = 8
    · rw [if_pos c8, if_pos c8, tF]
      exact ⟨hm, tu _, tl _, rfl, hfl⟩
    rw [if_neg c8, if_neg c8]
    by_cases c9 : x.code = 9
    · rw [if_pos c9, if_pos c9, tF, pF]
      exact ⟨hm, tu _, tl _, rfl, by simp only; omega⟩
    rw [if_neg c9, if_neg c9]
    by_cases c10 : x.code = 10
    · rw [if_pos c10, if_pos c10, tS]
      exact ⟨doM_same hm _ _ _ _ _ _, rfl, hsl, rfl, hfl⟩
    rw [if_neg c10, if_neg c10]
    have c11 : x.code = 11 := by omega
    rw [if_pos c11, if_pos c11, pS]
    exact ⟨hm, rfl, by simp only; omega, rfl, hfl⟩
  · have e1 : ∀ t : MS, machN t x dt = t := fun t => by
      unfold machN
      rw [if_neg (by omega), if_neg (by omega), if_neg (by omega), if_neg (by omega), if_neg (by omega), if_neg (by omega), if_neg (by omega), if_neg (by omega)]
    have e2 : ∀ t : ID, idN t x dt = t := fun t => by
      unfold idN
      rw [if_neg (by omega), if_neg (by omega), if_neg (by omega), if_neg (by omega), if_neg (by omega), if_neg (by omega), if_neg (by omega), if_neg (by omega)]
    rw [e1, e2]
    exact ⟨hm, rfl, hsl, rfl, hfl⟩
end Go.Sx
