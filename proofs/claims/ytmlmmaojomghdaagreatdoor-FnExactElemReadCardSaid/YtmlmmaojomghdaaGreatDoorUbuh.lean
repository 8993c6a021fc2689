/-
  Plainly: what the reference guesses of a contact's or coil's text is right wherever there is one. Nothing of a program stands here.
-/
import Derived.Test.YtmlmmaojomghdaaGreatDoorTguh
set_option linter.unusedVariables false
set_option linter.unusedSimpArgs false
set_option maxHeartbeats 1000000
namespace Go.Sx
open Go

theorem txt_get (l : Str) (i : Nat) : (txt l)[i]? = l[i]? := by
  by_cases h : i < l.length
  · have h' : i < (txt l).size := h
    rw [getElem?_pos (txt l) i h', List.getElem?_eq_getElem h]; rfl
  · have h' : ¬ i < (txt l).size := h
    rw [getElem?_neg (txt l) i h', List.getElem?_eq_none (by omega)]
def argsS (t : Str) (c : UInt8) : List Dev := ((cutL c t).take 4).map fun w => (devRd w).getD ⟨0, 0, 0⟩
def Hit (t : Str) (op : Int) (xs : List Dev) : Prop := ∀ o ys, eOk o ys = true → elemL o ys = t → op = o ∧ xs = ys
theorem argsS_join {xs : List Dev} {c : UInt8} (hc : devCh c = false) (h0 : xs ≠ []) (h4 : xs.length ≤ 4) (h : ∀ d ∈ xs, dOk d = true) : argsS (joinL c (xs.map devL)) c = xs := by
  unfold argsS
  rw [cutL_join (by simpa using h0) (fun w hw => by obtain ⟨d, _, rfl⟩ := List.mem_map.1 hw; exact devL_not hc), List.take_of_length_le (by simpa using h4), List.map_map]
  conv => rhs; rw [← List.map_id xs]
  exact List.map_congr_left fun d hd => by simp [devRd_dev (h d hd)]
theorem argsS_one {a : Dev} {c : UInt8} (hc : devCh c = false) (h : dOk a = true) : argsS (devL a) c = [a] := argsS_join (xs := [a]) hc (by simp) (by simp) (by simpa using h)
theorem argsS_two {a b : Dev} {c : UInt8} (hc : devCh c = false) (h : dOk a = true) (h2 : dOk b = true) : argsS (devL a ++ c :: devL b) c = [a, b] := argsS_join (xs := [a, b]) hc (by simp) (by simp) (by simp [h, h2])
theorem bit_head {a : Dev} (h : isBit a = true) : (devL a).head? ≠ some 45 := by
  unfold isBit at h
  simp only [Bool.and_eq_true, decide_eq_true_eq] at h
  rw [devL_ok h.2]
  have e : devT a = letterU a.k :: decZ a.n := by
    unfold devT
    rw [if_neg (by omega), if_neg (by omega), if_neg (by omega)]
  rw [e]
  obtain ⟨_, _, _, _, f, _⟩ := letter_facts a.k (by omega) (by omega)
  simpa using f
inductive Shape (o : Int) (ys : List Dev) : Prop where
  | coil (h : 21 ≤ o ∧ o ≤ 37) (e : elemL o ys = coilName o ++ 58 :: joinL 44 (ys.map devL)) (h0 : ys ≠ []) (h4 : ys.length ≤ 4) (hd : ∀ d ∈ ys, dOk d = true)
  | plain (a : Dev) (h : o = 1) (e : ys = [a]) (ha : dOk a = true) (ht : elemL o ys = devL a) (hh : (devL a).head? ≠ some 45)
  | shut (a : Dev) (h : o = 2) (e : ys = [a]) (ha : dOk a = true) (ht : elemL o ys = 47 :: devL a)
  | up (a b : Dev) (h : o = 3) (e : ys = [a, b]) (ha : dOk a = true) (hb : dOk b = true) (ht : elemL o ys = 43 :: (devL a ++ 58 :: devL b))
  | down (a b : Dev) (h : o = 4) (e : ys = [a, b]) (ha : dOk a = true) (hb : dOk b = true) (ht : elemL o ys = 45 :: (devL a ++ 58 :: devL b))
  | cmp (a b : Dev) (h : 5 ≤ o ∧ o ≤ 10) (e : ys = [a, b]) (ha : dOk a = true) (hb : dOk b = true) (ht : elemL o ys = devL a ++ (cmpS (o - 4) ++ devL b))
theorem shape_of {o : Int} {ys : List Dev} (h : eOk o ys = true) : Shape o ys := by
  have hall := eOk_all h
  by_cases hc : coilOk o ys = true
  · have hop : 21 ≤ o ∧ o ≤ 37 := by
      unfold coilOk at hc
      simp only [Bool.and_eq_true, decide_eq_true_eq] at hc
      exact ⟨hc.1.1.1, hc.1.1.2.1⟩
    obtain ⟨_, _, _, _, _, f6, f7, _⟩ := coil_facts o hop.1 hop.2
    refine .coil hop (by unfold elemL; rw [if_pos hc]) ?_ (by omega) hall.1
    rintro rfl
    simp at hall; omega
  · have hk : conOk o ys = true := by
      unfold eOk at h
      simpa [hc] using h
    have e : elemL o ys = conT o ys := by unfold elemL; rw [if_neg hc, if_pos hk]
    rcases con_shape hk with ⟨ho, a, rfl⟩ | ⟨h3, h10, a, b, rfl⟩
    · have ha : dOk a = true := hall.1 a (by simp)
      rcases ho with rfl | rfl
      · refine .plain a rfl rfl ha (by rw [e]; rfl) (bit_head ?_)
        unfold conOk at hk
        simp only [Bool.and_eq_true] at hk
        exact hk.2
      · exact .shut a rfl rfl ha (by rw [e]; rfl)
    · have ha : dOk a = true := hall.1 a (by simp)
      have hb : dOk b = true := hall.1 b (by simp)
      by_cases o3 : o = 3
      · subst o3; exact .up a b rfl rfl ha hb (by rw [e]; rfl)
      by_cases o4 : o = 4
      · subst o4; exact .down a b rfl rfl ha hb (by rw [e]; rfl)
      refine .cmp a b ⟨by omega, h10⟩ rfl ha hb ?_
      rw [e]; unfold conT
      rw [if_neg (by omega), if_neg (by omega), if_neg o3, if_neg o4]; rfl
theorem coilName_nocmp {o : Int} (h : 21 ≤ o ∧ o ≤ 37) : (∀ c ∈ coilName o, cmpCh c = false) ∧ (coilName o).head? ≠ some 47 ∧ (coilName o).head? ≠ some 43 ∧ (coilName o).head? ≠ some 45 ∧ coilName o ≠ [] ∧ (58 : UInt8) ∉ coilName o := by
  have : o = 21 ∨ o = 22 ∨ o = 23 ∨ o = 24 ∨ o = 25 ∨ o = 26 ∨ o = 27 ∨ o = 28 ∨ o = 29 ∨ o = 30 ∨ o = 31 ∨ o = 32 ∨ o = 33 ∨ o = 34 ∨ o = 35 ∨ o = 36 ∨ o = 37 := by omega
  rcases this with rfl | rfl | rfl | rfl | rfl | rfl | rfl | rfl | rfl | rfl | rfl | rfl | rfl | rfl | rfl | rfl | rfl <;> decide
theorem nocmp_shape {o : Int} {ys : List Dev} (h : eOk o ys = true) (hn : ¬ (5 ≤ o ∧ o ≤ 10)) : ∀ c ∈ elemL o ys, cmpCh c = false := by
  intro c hc
  cases shape_of h with
  | coil hh e h0 h4 hd =>
    rw [e] at hc
    rcases List.mem_append.1 hc with hc | hc
    · exact (coilName_nocmp hh).1 c hc
    · rcases List.mem_cons.1 hc with rfl | hc
      · decide
      · rcases joinL_mem hc with rfl | ⟨w, hw, hx⟩
        · decide
        · obtain ⟨d, _, rfl⟩ := List.mem_map.1 hw
          exact dev_nocmp d c hx
  | plain a h1 e ha ht hh => rw [ht] at hc; exact dev_nocmp a c hc
  | shut a h1 e ha ht =>
    rw [ht] at hc
    rcases List.mem_cons.1 hc with rfl | hc
    · decide
    · exact dev_nocmp a c hc
  | up a b h1 e ha hb ht =>
    rw [ht] at hc
    rcases List.mem_cons.1 hc with rfl | hc
    · decide
    · rcases List.mem_append.1 hc with hc | hc
      · exact dev_nocmp a c hc
      · rcases List.mem_cons.1 hc with rfl | hc
        · decide
        · exact dev_nocmp b c hc
  | down a b h1 e ha hb ht =>
    rw [ht] at hc
    rcases List.mem_cons.1 hc with rfl | hc
    · decide
    · rcases List.mem_append.1 hc with hc | hc
      · exact dev_nocmp a c hc
      · rcases List.mem_cons.1 hc with rfl | hc
        · decide
        · exact dev_nocmp b c hc
  | cmp a b h1 e ha hb ht => exact absurd h1 hn
def cmpN (t : Str) (i : Nat) : Nat := match t[i + 1]? with
  | some c => if c = 61 ∨ c = 62 then 2 else 1
  | none => 1
theorem cmp_first {o : Int} {a b : Dev} (h : 5 ≤ o ∧ o ≤ 10) {i : Nat} {c : UInt8} (h1 : ∀ j x, j < i → (devL a ++ (cmpS (o - 4) ++ devL b))[j]? = some x → cmpCh x = false) (h2 : (devL a ++ (cmpS (o - 4) ++ devL b))[i]? = some c) (h3 : cmpCh c = true) :
    i = (devL a).length ∧ cmpN (devL a ++ (cmpS (o - 4) ++ devL b)) i = (cmpS (o - 4)).length := by
  obtain ⟨f1, f2, f3⟩ := cmpS_facts (o - 4) (by omega) (by omega)
  have hge : (devL a).length ≤ i := by
    rcases Nat.lt_or_ge i (devL a).length with hl | hl
    · rw [List.getElem?_append_left hl] at h2
      rw [dev_nocmp a c (List.mem_of_getElem? h2)] at h3; cases h3
    · exact hl
  obtain ⟨x, r, hx⟩ : ∃ x r, cmpS (o - 4) = x :: r := by
    cases hq : cmpS (o - 4) with
    | nil => exact absurd hq f1
    | cons x r => exact ⟨x, r, rfl⟩
  have hle : i ≤ (devL a).length := by
    rcases Nat.lt_or_ge (devL a).length i with hl | hl
    · have := h1 (devL a).length x hl (by rw [List.getElem?_append_right (by omega), hx]; simp)
      rw [f2 x (by rw [hx]; simp)] at this; cases this
    · exact hl
  have hi : i = (devL a).length := by omega
  subst hi
  refine ⟨rfl, ?_⟩
  unfold cmpN
  rw [List.getElem?_append_right (by omega), show (devL a).length + 1 - (devL a).length = 1 by omega]
  have hb : ∀ y, (devL b : List UInt8)[0]? = some y → ¬ (y = 61 ∨ y = 62) := fun y hy hh => by
    have := dev_nocmp b y (List.mem_of_getElem? hy)
    rcases hh with rfl | rfl <;> cases this
  have hb0 : (match (devL b : List UInt8)[0]? with | some (c : UInt8) => if c = 61 ∨ c = 62 then 2 else 1 | none => 1) = 1 := by
    cases hq : (devL b : List UInt8)[0]? with
    | none => rfl
    | some y => simp only; rw [if_neg (hb y hq)]
  have : o = 5 ∨ o = 6 ∨ o = 7 ∨ o = 8 ∨ o = 9 ∨ o = 10 := by omega
  rcases this with rfl | rfl | rfl | rfl | rfl | rfl
  · exact hb0
  · rfl
  · exact hb0
  · rfl
  · rfl
  · exact hb0
theorem hit_cmp {t : Str} {op : Int} {i : Nat} {c : UInt8} (hop : 5 ≤ op ∧ op ≤ 10) (h1 : ∀ j x, j < i → t[j]? = some x → cmpCh x = false) (h2 : t[i]? = some c) (h3 : cmpCh c = true)
    (h4 : (t.take (i + cmpN t i)).drop i = cmpS (op - 4)) : Hit t op (argsS (t.take i) 32 ++ argsS (t.drop (i + cmpN t i)) 32) := by
  intro o ys hk e
  subst e
  by_cases ho : 5 ≤ o ∧ o ≤ 10
  · cases shape_of hk with
    | coil hh => omega
    | plain a h => omega
    | shut a h => omega
    | up a b h => omega
    | down a b h => omega
    | cmp a b _ e ha hb ht =>
      subst e
      rw [ht] at h1 h2 h4 ⊢
      obtain ⟨rfl, hn⟩ := cmp_first ho h1 h2 h3
      rw [hn] at h4 ⊢
      have e1 : ((devL a ++ (cmpS (o - 4) ++ devL b)).take ((devL a).length + (cmpS (o - 4)).length)).drop (devL a).length = cmpS (o - 4) := by
        rw [List.drop_take, List.drop_left, Nat.add_sub_cancel_left, List.take_left]
      rw [e1] at h4
      have := cmpS_inj (a := o - 4) (b := op - 4) (by omega) (by omega) h4
      obtain rfl : op = o := by omega
      refine ⟨rfl, ?_⟩
      rw [List.take_left, ← List.append_assoc, List.drop_left' (by simp), argsS_one (by decide) ha, argsS_one (by decide) hb]
      rfl
  · have := nocmp_shape hk ho c (List.mem_of_getElem? h2)
    rw [this] at h3; cases h3
theorem hit_none {t : Str} {i : Nat} {c : UInt8} (h1 : ∀ j x, j < i → t[j]? = some x → cmpCh x = false) (h2 : t[i]? = some c) (h3 : cmpCh c = true)
    (h4 : ∀ op : Int, 5 ≤ op → op ≤ 10 → (t.take (i + cmpN t i)).drop i ≠ cmpS (op - 4)) {q : Int} {zs : List Dev} : Hit t q zs := by
  intro o ys hk e
  subst e
  by_cases ho : 5 ≤ o ∧ o ≤ 10
  · cases shape_of hk with
    | coil hh => omega
    | plain a h => omega
    | shut a h => omega
    | up a b h => omega
    | down a b h => omega
    | cmp a b _ e ha hb ht =>
      subst e
      rw [ht] at h1 h2
      have h4' := h4 o ho.1 ho.2
      rw [ht] at h4'
      obtain ⟨rfl, hn⟩ := cmp_first ho h1 h2 h3
      rw [hn] at h4'
      exact absurd (by rw [List.drop_take, List.drop_left, Nat.add_sub_cancel_left, List.take_left]) h4'
  · have := nocmp_shape hk ho c (List.mem_of_getElem? h2)
    rw [this] at h3; cases h3
def NameAt (t : Str) (op : Int) : Prop := t.take (coilName op).length = coilName op ∧ t[(coilName op).length]? = some 58
theorem name_split {t : Str} {op : Int} (h : NameAt t op) : t = coilName op ++ 58 :: t.drop ((coilName op).length + 1) := by
  obtain ⟨h1, h2⟩ := h
  conv => lhs; rw [← List.take_append_drop (coilName op).length t, h1]
  congr 1
  obtain ⟨hl, he⟩ := List.getElem?_eq_some_iff.1 h2
  rw [List.drop_eq_getElem_cons hl, he]
theorem name_of {op : Int} {r : Str} : NameAt (coilName op ++ 58 :: r) op := by
  refine ⟨List.take_left, ?_⟩
  rw [List.getElem?_append_right (by omega)]
  simp
theorem name_uniq {t : Str} {op o : Int} (hp : 21 ≤ op ∧ op ≤ 37) (ho : 21 ≤ o ∧ o ≤ 37) (h : NameAt t op) (h' : NameAt t o) : op = o := by
  have h1 : cutAt 58 t = (coilName o, t.drop ((coilName o).length + 1), true) := by
    conv => lhs; rw [name_split h']
    exact cutAt_hit (coilName_nocmp ho).2.2.2.2.2
  have h2 : cutAt 58 t = (coilName op, t.drop ((coilName op).length + 1), true) := by
    conv => lhs; rw [name_split h]
    exact cutAt_hit (coilName_nocmp hp).2.2.2.2.2
  rw [h1] at h2
  have h3 : coilName o = coilName op := (Prod.mk.inj h2).1
  have i1 := names17_idx o ho.1 ho.2
  have i2 := names17_idx op hp.1 hp.2
  rw [h3] at i1
  omega
theorem hit_coil {t : Str} {op : Int} (hp : 21 ≤ op ∧ op ≤ 37) (hn : NameAt t op) (hc : ∀ c ∈ t, cmpCh c = false) : Hit t op (argsS (t.drop ((coilName op).length + 1)) 44) := by
  intro o ys hk e
  subst e
  have hs := name_split hn
  obtain ⟨_, c2, c3, c4, c5, c6⟩ := coilName_nocmp hp
  obtain ⟨x, r, hx⟩ : ∃ x r, coilName op = x :: r := by
    cases hq : coilName op with
    | nil => exact absurd hq c5
    | cons x r => exact ⟨x, r, rfl⟩
  have hh : (elemL o ys).head? = (coilName op).head? := by rw [hs, hx]; rfl
  cases shape_of hk with
  | coil ho e h0 h4 hd =>
    have : op = o := name_uniq hp ho hn (by rw [e]; exact name_of)
    subst this
    refine ⟨rfl, ?_⟩
    rw [e, show coilName op ++ 58 :: joinL 44 (ys.map devL) = (coilName op ++ [58]) ++ joinL 44 (ys.map devL) by simp, List.drop_left' (by simp)]
    exact argsS_join (by decide) h0 h4 hd
  | plain a h1 e ha ht hh2 =>
    exfalso
    have : (58 : UInt8) ∈ devL a := by rw [← ht, hs]; simp
    exact devL_no58 a this
  | shut a h1 e ha ht => exfalso; rw [ht] at hh; exact c2 hh.symm
  | up a b h1 e ha hb ht => exfalso; rw [ht] at hh; exact c3 hh.symm
  | down a b h1 e ha hb ht => exfalso; rw [ht] at hh; exact c4 hh.symm
  | cmp a b h1 e ha hb ht =>
    exfalso
    obtain ⟨f1, f2, _⟩ := cmpS_facts (o - 4) (by omega) (by omega)
    obtain ⟨y, q, hy⟩ : ∃ y q, cmpS (o - 4) = y :: q := by
      cases hq : cmpS (o - 4) with
      | nil => exact absurd hq f1
      | cons y q => exact ⟨y, q, rfl⟩
    have := hc y (by rw [ht, hy]; simp)
    rw [f2 y (by rw [hy]; simp)] at this; cases this
theorem hit_head {t : Str} (hc : ∀ c ∈ t, cmpCh c = false) (hn : ∀ op : Int, 21 ≤ op → op ≤ 37 → ¬ NameAt t op) :
    (t.head? = some 47 → Hit t 2 (argsS (t.drop 1) 32)) ∧ (t.head? = some 43 → Hit t 3 (argsS (t.drop 1) 58)) ∧ (t.head? = some 45 → Hit t 4 (argsS (t.drop 1) 58)) ∧
    (t.head? ≠ some 47 → t.head? ≠ some 43 → t.head? ≠ some 45 → Hit t 1 (argsS t 32)) := by
  have key : ∀ o ys, eOk o ys = true → elemL o ys = t →
      (∃ a, o = 1 ∧ ys = [a] ∧ dOk a = true ∧ t = devL a ∧ t.head? ≠ some 45) ∨ (∃ a, o = 2 ∧ ys = [a] ∧ dOk a = true ∧ t = 47 :: devL a) ∨
      (∃ a b, o = 3 ∧ ys = [a, b] ∧ dOk a = true ∧ dOk b = true ∧ t = 43 :: (devL a ++ 58 :: devL b)) ∨ (∃ a b, o = 4 ∧ ys = [a, b] ∧ dOk a = true ∧ dOk b = true ∧ t = 45 :: (devL a ++ 58 :: devL b)) := by
    intro o ys hk e
    cases shape_of hk with
    | coil ho e' h0 h4 hd => exact absurd (by rw [← e, e']; exact name_of) (hn o ho.1 ho.2)
    | plain a h1 e' ha ht hh => exact Or.inl ⟨a, h1, e', ha, by rw [← e, ht], by rw [← e, ht]; exact hh⟩
    | shut a h1 e' ha ht => exact Or.inr (Or.inl ⟨a, h1, e', ha, by rw [← e, ht]⟩)
    | up a b h1 e' ha hb ht => exact Or.inr (Or.inr (Or.inl ⟨a, b, h1, e', ha, hb, by rw [← e, ht]⟩))
    | down a b h1 e' ha hb ht => exact Or.inr (Or.inr (Or.inr ⟨a, b, h1, e', ha, hb, by rw [← e, ht]⟩))
    | cmp a b h1 e' ha hb ht =>
      exfalso
      obtain ⟨f1, f2, _⟩ := cmpS_facts (o - 4) (by omega) (by omega)
      obtain ⟨y, q, hy⟩ : ∃ y q, cmpS (o - 4) = y :: q := by
        cases hq : cmpS (o - 4) with
        | nil => exact absurd hq f1
        | cons y q => exact ⟨y, q, rfl⟩
      have := hc y (by rw [← e, ht, hy]; simp)
      rw [f2 y (by rw [hy]; simp)] at this; cases this
  have hd : ∀ (a : Dev) (c : UInt8), devCh c = false → (devL a).head? ≠ some c := fun a c h => devL_head h
  refine ⟨fun h o ys hk e => ?_, fun h o ys hk e => ?_, fun h o ys hk e => ?_, fun h1 h2 h3 o ys hk e => ?_⟩
  · rcases key o ys hk e with ⟨a, rfl, rfl, ha, rfl, hh⟩ | ⟨a, rfl, rfl, ha, rfl⟩ | ⟨a, b, rfl, rfl, ha, hb, rfl⟩ | ⟨a, b, rfl, rfl, ha, hb, rfl⟩
    · exact absurd h (hd a 47 (by decide))
    · exact ⟨rfl, by rw [List.drop_one, List.tail_cons]; exact argsS_one (by decide) ha⟩
    · exact absurd h (by simp)
    · exact absurd h (by simp)
  · rcases key o ys hk e with ⟨a, rfl, rfl, ha, rfl, hh⟩ | ⟨a, rfl, rfl, ha, rfl⟩ | ⟨a, b, rfl, rfl, ha, hb, rfl⟩ | ⟨a, b, rfl, rfl, ha, hb, rfl⟩
    · exact absurd h (hd a 43 (by decide))
    · exact absurd h (by simp)
    · exact ⟨rfl, by rw [List.drop_one, List.tail_cons]; exact argsS_two (by decide) ha hb⟩
    · exact absurd h (by simp)
  · rcases key o ys hk e with ⟨a, rfl, rfl, ha, rfl, hh⟩ | ⟨a, rfl, rfl, ha, rfl⟩ | ⟨a, b, rfl, rfl, ha, hb, rfl⟩ | ⟨a, b, rfl, rfl, ha, hb, rfl⟩
    · exact absurd h hh
    · exact absurd h (by simp)
    · exact absurd h (by simp)
    · exact ⟨rfl, by rw [List.drop_one, List.tail_cons]; exact argsS_two (by decide) ha hb⟩
  · rcases key o ys hk e with ⟨a, rfl, rfl, ha, rfl, hh⟩ | ⟨a, rfl, rfl, ha, rfl⟩ | ⟨a, b, rfl, rfl, ha, hb, rfl⟩ | ⟨a, b, rfl, rfl, ha, hb, rfl⟩
    · exact ⟨rfl, argsS_one (by decide) ha⟩
    · exact absurd rfl h1
    · exact absurd rfl h2
    · exact absurd rfl h3
theorem elemRd_long {t : Str} (h : 100 < t.length) : elemRd t = none := by
  cases hq : elemRd t with
  | none => rfl
  | some e =>
    have h2 := (elemRd_some hq).2
    have h3 := elem_short e.1 e.2
    rw [h2] at h3; omega
theorem elemRd_nil : elemRd [] = none := by
  cases hq : elemRd [] with
  | none => rfl
  | some e =>
    obtain ⟨h1, h2⟩ := elemRd_some hq
    exact absurd h2 (elemL_ne.2 h1)
theorem elemRd_hit {t : Str} {op : Int} {xs : List Dev} (h : Hit t op xs) : (if t ≠ [] ∧ elemL op xs = t then some (op, xs) else none) = elemRd t := elemRd_of h
end Go.Sx
namespace Go.Sx
open Go

theorem idxL_step {c x : UInt8} {s : Str} {i : Nat} (h : s[i]? = some x) : idxL c (s.drop i) = if x = c then 0 else if idxL c (s.drop (i + 1)) = -1 then -1 else idxL c (s.drop (i + 1)) + 1 := by
  obtain ⟨hl, he⟩ := List.getElem?_eq_some_iff.1 h
  rw [List.drop_eq_getElem_cons hl, he, idxL]
theorem idxL_bd (c : UInt8) : ∀ s : Str, -1 ≤ idxL c s ∧ idxL c s < s.length
  | [] => by simp [idxL]
  | x :: s => by
    have := idxL_bd c s
    rw [idxL, List.length_cons]
    split
    · omega
    · split <;> omega
theorem valF_take {s : Str} {i : Nat} {x : UInt8} (h : s[i]? = some x) : valF 0 (s.take (i + 1)) = 10 * valF 0 (s.take i) + (x.toNat - 48) := by
  rw [List.take_add_one, h, Option.toList_some, valF_app]
  rfl
theorem valF_lt : ∀ (l : Str) (acc : Nat), Digs l → valF acc l < (acc + 1) * 10 ^ l.length
  | [], acc, _ => by simp [valF]
  | c :: l, acc, h => by
    rw [valF_cons]
    have hc := h c (by simp)
    have := valF_lt l (10 * acc + (c.toNat - 48)) fun x hx => h x (by simp [hx])
    refine Nat.lt_of_lt_of_le this ?_
    rw [List.length_cons, Nat.pow_succ, ← Nat.mul_assoc, Nat.mul_right_comm]
    exact Nat.mul_le_mul_right _ (by omega)
theorem valF_17 {l : Str} (h : Digs l) (hl : l.length ≤ 17) : valF 0 l < 100000000000000000 := by
  have := valF_lt l 0 h
  have h2 : 10 ^ l.length ≤ 10 ^ 17 := Nat.pow_le_pow_right (by decide) hl
  rw [Nat.zero_add, Nat.one_mul] at this
  have e : (10 : Nat) ^ 17 = 100000000000000000 := by decide
  omega
theorem digs_take {s : Str} {i : Nat} {x : UInt8} (h : s[i]? = some x) (hd : Digs (s.take i)) (hx : 48 ≤ x.toNat ∧ x.toNat ≤ 57) : Digs (s.take (i + 1)) := by
  rw [List.take_add_one, h, Option.toList_some]
  intro c hc
  rcases List.mem_append.1 hc with hc | hc
  · exact hd c hc
  · rw [List.mem_singleton] at hc; subst hc; exact hx
theorem word_mem {s : Str} (h : 0 ≤ idxW s words4) : s = [110, 97, 110] ∨ s = [105, 110, 102] ∨ s = [45, 105, 110, 102] ∨ s = [45, 48, 46, 48] := by
  have : s ∈ words4 := Decidable.byContradiction fun hn => by rw [idxW_miss hn] at h; omega
  simpa [words4] using this
theorem word_guess {s : Str} (h : 0 ≤ idxW s words4) : guessI s = ⟨13, idxW s words4, 0⟩ ∧ devL ⟨13, idxW s words4, 0⟩ = s ∧ s ≠ [] := by
  rcases word_mem h with rfl | rfl | rfl | rfl <;> exact ⟨rfl, rfl, by decide⟩
theorem word_rd {s : Str} (h : 0 ≤ idxW s words4) : devRd s = some ⟨13, idxW s words4, 0⟩ := by
  obtain ⟨h1, h2, h3⟩ := word_guess h
  unfold devRd
  rw [h1, if_pos ⟨h3, h2⟩]
theorem word_no {s : Str} (h : ¬ 0 ≤ idxW s words4) : words4.contains s = false := by
  rw [Bool.eq_false_iff]
  intro hc
  have hm : s ∈ words4 := List.contains_iff_mem.1 hc
  simp only [words4, List.mem_cons, List.not_mem_nil, or_false] at hm
  rcases hm with rfl | rfl | rfl | rfl <;> exact h (by decide)
theorem devRd_nil : devRd [] = none := by
  unfold devRd
  rw [if_neg fun h => h.1 rfl]
theorem devRd_by {s : Str} {g : Dev} (hs : s ≠ []) (hg : guessI s = g) : devRd s = if devL g = s then some g else none := by
  unfold devRd
  rw [hg]
  by_cases h : devL g = s
  · rw [if_pos ⟨hs, h⟩, if_pos h]
  · rw [if_neg fun e => h e.2, if_neg h]
theorem devRd_byS {s : Str} {g : Dev} (hs : s ≠ []) (hg : guessS s = g) : devRd s = if devL g = s then some g else none := by
  rw [← devRd_guess s, hg]
  by_cases h : devL g = s
  · rw [if_pos ⟨hs, h⟩, if_pos h]
  · rw [if_neg fun e => h e.2, if_neg h]
theorem guess_letter {x : UInt8} {r : Str} (hw : ¬ 0 ≤ idxW (x :: r) words4) (h : 0 ≤ idxL x letters) : guessI (x :: r) = ⟨1 + idxL x letters, atoiV r, 0⟩ := by
  unfold guessI
  rw [word_no hw]
  simp [h]
theorem guess_dec {x : UInt8} {r : Str} (hw : ¬ 0 ≤ idxW (x :: r) words4) (h : ¬ 0 ≤ idxL x letters) (hc : (cutAt 46 (x :: r)).2.2 = true) : guessI (x :: r) = ⟨12, atoiV ((cutAt 46 (x :: r)).1 ++ (cutAt 46 (x :: r)).2.1), (cutAt 46 (x :: r)).2.1.length⟩ := by
  unfold guessI
  rw [word_no hw, hc]
  simp [h]
theorem guess_int {x : UInt8} {r : Str} (hw : ¬ 0 ≤ idxW (x :: r) words4) (h : ¬ 0 ≤ idxL x letters) (hc : (cutAt 46 (x :: r)).2.2 = false) : guessI (x :: r) = ⟨11, atoiV (x :: r), 0⟩ := by
  unfold guessI
  rw [word_no hw, hc]
  simp [h]
theorem cutAt_len (c : UInt8) (s : Str) : (cutAt c s).1.length ≤ s.length ∧ (cutAt c s).2.1.length ≤ s.length ∧ (cutAt c s).1.length + (cutAt c s).2.1.length ≤ s.length := by
  unfold cutAt
  split
  · have h1 : (s.takeWhile (· != c)).length + (s.dropWhile (· != c)).length = s.length := by rw [← List.length_append, List.takeWhile_append_dropWhile]
    simp only [List.length_drop]
    omega
  · simp
theorem word_guessS {s : Str} (h : 0 ≤ idxW s words4) : guessS s = ⟨13, idxW s words4, 0⟩ := by
  rcases word_mem h with rfl | rfl | rfl | rfl <;> rfl
theorem letters_none {x : UInt8} (h : ∀ k : Int, 1 ≤ k → k ≤ 10 → letterU k ≠ x) : idxL x letters = -1 := by
  refine idxL_miss fun hm => ?_
  simp only [letters, List.mem_cons, List.not_mem_nil, or_false] at hm
  rcases hm with rfl | rfl | rfl | rfl | rfl | rfl | rfl | rfl | rfl | rfl
  · exact h 1 (by decide) (by decide) rfl
  · exact h 2 (by decide) (by decide) rfl
  · exact h 3 (by decide) (by decide) rfl
  · exact h 4 (by decide) (by decide) rfl
  · exact h 5 (by decide) (by decide) rfl
  · exact h 6 (by decide) (by decide) rfl
  · exact h 7 (by decide) (by decide) rfl
  · exact h 8 (by decide) (by decide) rfl
  · exact h 9 (by decide) (by decide) rfl
  · exact h 10 (by decide) (by decide) rfl
theorem guessS_letter {x : UInt8} {r : Str} (hw : ¬ 0 ≤ idxW (x :: r) words4) (h : 0 ≤ idxL x letters) : guessS (x :: r) = ⟨1 + idxL x letters, digS r, 0⟩ := by
  unfold guessS
  rw [word_no hw]
  simp [h]
theorem guessS_num {x : UInt8} {r : Str} (hw : ¬ 0 ≤ idxW (x :: r) words4) (h : ¬ 0 ≤ idxL x letters) : guessS (x :: r) =
    if idxL 46 (if x = 45 then r else x :: r) < 0 then ⟨11, (if x = 45 then -1 else 1) * digS (if x = 45 then r else x :: r), 0⟩
    else ⟨12, (if x = 45 then -1 else 1) * digS ((if x = 45 then r else x :: r).take (idxL 46 (if x = 45 then r else x :: r)).toNat ++ (if x = 45 then r else x :: r).drop ((idxL 46 (if x = 45 then r else x :: r)).toNat + 1)),
      (if x = 45 then r else x :: r).length - idxL 46 (if x = 45 then r else x :: r) - 1⟩ := by
  unfold guessS
  rw [word_no hw]
  simp [h]
theorem guessS_nil : guessS [] = ⟨11, -1, 0⟩ := rfl
theorem digS_bd (l : Str) : -1 ≤ digS l ∧ digS l < 100000000000000000 := by
  unfold digS
  split
  · omega
  · rename_i h
    have h17 : ¬ 17 < l.length := fun e => h (Or.inr (Or.inl e))
    have hd : Digs l := Decidable.byContradiction fun e => h (Or.inr (Or.inr e))
    have := valF_17 hd (by omega)
    rw [valD_eq]
    omega
def devTup (o : Option Dev) : Value := match o with
  | some d => .tuple #[.agg #[.int .i64 d.k, .int .i64 d.n, .int .i64 d.p], .bool true]
  | none => .tuple #[.agg #[.int .i64 0, .int .i64 0, .int .i64 0], .bool false]
end Go.Sx
