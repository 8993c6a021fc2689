/-
  Contacts and coils, read out of their texts as the program does it. Plain Lean: nothing of a program stands here. Conditions: none.
-/
import Derived.Test.YtmlmmaojomghdaaGreatDoorTduh
import Derived.Lib.Split
set_option linter.unusedVariables false
set_option linter.unusedSimpArgs false
namespace Go.Sx
open Go

theorem index_one (c : UInt8) : ∀ s : Str, Lib.index s [c] = idxL c s
  | [] => rfl
  | x :: s => by
    rw [Lib.index, idxL, index_one c s]
    simp only [List.isPrefixOf, Bool.and_true, beq_iff_eq]
    by_cases h : x = c
    · rw [if_pos h.symm, if_pos h]
    · rw [if_neg (fun e => h e.symm), if_neg h]
theorem splitK_join {c : UInt8} : ∀ (ws : List Str) (k : Nat), ws ≠ [] → ws.length ≤ k + 1 → (∀ w ∈ ws, c ∉ w) → Lib.splitK [c] 0 k (joinL c ws) = ws
  | [], _, h, _, _ => absurd rfl h
  | [w], k, _, _, h => by
    have hw : c ∉ w := h w (by simp)
    cases k with
    | zero => rfl
    | succ k =>
      show Lib.splitK [c] 0 (k + 1) w = [w]
      rw [Lib.splitK, index_one, idxL_miss hw]
      simp
  | w :: x :: r, k, _, hl, h => by
    have hw : c ∉ w := h w (by simp)
    match k, hl with
    | k + 1, hl =>
      rw [joinL_cons c w (by simp), Lib.splitK, index_one, idxL_hit hw]
      rw [if_neg (by simp only [beq_iff_eq]; omega)]
      simp only [Int.toNat_natCast, Nat.add_zero, List.length_cons, List.length_nil, Nat.zero_add]
      rw [List.take_left, show w ++ c :: joinL c (x :: r) = (w ++ [c]) ++ joinL c (x :: r) by simp, show w.length + 1 = (w ++ [c]).length by simp, List.drop_left,
        splitK_join (x :: r) k (by simp) (by simpa using hl) fun y hy => h y (by simp [hy])]
theorem joinL_count (c : UInt8) : ∀ (ws : List Str), ws ≠ [] → ws.length ≤ (joinL c ws).length + 1
  | [], h => absurd rfl h
  | [w], _ => by simp
  | w :: x :: r, _ => by
    have := joinL_count c (x :: r) (by simp)
    rw [joinL_cons c w (by simp), List.length_append, List.length_cons (a := w), List.length_cons (a := c)]
    omega
theorem splitN_join {c : UInt8} {ws : List Str} {n : Nat} (h0 : ws ≠ []) (hn : ws.length ≤ n) (h : ∀ w ∈ ws, c ∉ w) : Lib.splitN (joinL c ws) [c] n = ws := by
  unfold Lib.splitN
  have := joinL_count c ws h0
  have h1 : 0 < ws.length := List.length_pos_iff.2 h0
  exact splitK_join ws _ h0 (by omega) h
theorem cut_hit {s sep : Str} {x y : Str} (h : Lib.cut s sep = (x, y, true)) : s = x ++ (sep ++ y) := by
  unfold Lib.cut at h
  split at h
  · rename_i h0
    rcases Lib.index_spec s sep with ⟨e, _⟩ | ⟨i, e, hi, ho, _⟩
    · omega
    · rw [e] at h
      injection h with h1 h2
      injection h2 with h2 _
      rw [Int.toNat_natCast] at h1 h2
      unfold Lib.occAt at ho
      obtain ⟨t, ht⟩ := List.isPrefixOf_iff_prefix.1 ho
      have hd : s.drop (i + sep.length) = t := by
        rw [← List.drop_drop, ← ht, List.drop_left]
      rw [← h1, ← h2, hd, ht, List.take_append_drop]
  · injection h with _ h2
    injection h2 with _ h3
    cases h3
theorem cut_one (c : UInt8) (s : Str) : Lib.cut s [c] = cutAt c s := by
  unfold Lib.cut
  rw [index_one]
  by_cases hm : c ∈ s
  · obtain ⟨a, b, rfl, ha⟩ := List.eq_append_cons_of_mem hm
    rw [cutAt_hit ha, idxL_hit ha, if_pos (by omega), Int.toNat_natCast, List.take_left]
    have : (a ++ c :: b).drop (a.length + [c].length) = b := by
      rw [show a ++ c :: b = (a ++ [c]) ++ b by simp, show a.length + [c].length = (a ++ [c]).length by simp, List.drop_left]
    rw [this]
  · rw [cutAt_miss hm, idxL_miss hm, if_neg (by omega)]
def cmpCh (c : UInt8) : Bool := decide (c = 60 ∨ c = 61 ∨ c = 62)
theorem devCh_cmp {c : UInt8} (h : cmpCh c = true) : devCh c = false := by
  unfold cmpCh at h
  rcases of_decide_eq_true h with rfl | rfl | rfl <;> decide
theorem cut_first {a s b : Str} (hs : s ≠ []) (h : ∀ c ∈ s, cmpCh c = true) (ha : ∀ c ∈ a, cmpCh c = false) : Lib.cut (a ++ (s ++ b)) s = (a, b, true) := by
  have hi : Lib.index (a ++ (s ++ b)) s = a.length := by
    refine Lib.index_first (by simp) ?_ fun j hj => ?_
    · unfold Lib.occAt
      rw [List.drop_left]
      exact List.isPrefixOf_iff_prefix.2 (List.prefix_append _ _)
    · rw [Bool.eq_false_iff]
      intro ho
      unfold Lib.occAt at ho
      obtain ⟨t, ht⟩ := List.isPrefixOf_iff_prefix.1 ho
      obtain ⟨c, s', rfl⟩ : ∃ c s', s = c :: s' := by cases s with
        | nil => exact absurd rfl hs
        | cons c s' => exact ⟨c, s', rfl⟩
      have h1 : (a ++ (c :: s' ++ b))[j]? = some c := by
        have := congrArg (fun l => l[0]?) ht
        simp only [List.cons_append, List.getElem?_cons_zero, List.getElem?_drop, Nat.add_zero] at this
        rw [List.cons_append, ← this]
      rw [List.getElem?_append_left hj] at h1
      have h2 := ha c (List.mem_of_getElem? h1)
      rw [h c (by simp)] at h2
      cases h2
  unfold Lib.cut
  rw [hi, if_pos (by omega), Int.toNat_natCast, List.take_left]
  have : (a ++ (s ++ b)).drop (a.length + s.length) = b := by
    rw [← List.drop_drop, List.drop_left, List.drop_left]
  rw [this]
def eOk (op : Int) (xs : List Dev) : Bool := coilOk op xs || conOk op xs
theorem eOk_all {op : Int} {xs : List Dev} (h : eOk op xs = true) : (∀ d ∈ xs, dOk d = true) ∧ (xs.length : Int) = arity op := by
  unfold eOk coilOk conOk at h
  simp only [Bool.or_eq_true, Bool.and_eq_true, decide_eq_true_eq, List.all_eq_true] at h
  rcases h with ⟨⟨⟨_, _, h⟩, h2⟩, _⟩ | ⟨⟨⟨_, _, h⟩, h2⟩, _⟩ <;> exact ⟨h2, h⟩
theorem coil_facts : ∀ op : Int, 21 ≤ op → op ≤ 37 → coilName op ≠ [] ∧ (58 : UInt8) ∉ coilName op ∧ (coilName op).headD 0 ≠ 43 ∧ (coilName op).headD 0 ≠ 45 ∧ (coilName op).length ≤ 5 ∧ (1 : Int) ≤ arity op ∧ arity op ≤ 3 ∧ (3 ≤ arity op → (coilName op).length ≤ 3) := by
  intro op h1 h2
  have : op = 21 ∨ op = 22 ∨ op = 23 ∨ op = 24 ∨ op = 25 ∨ op = 26 ∨ op = 27 ∨ op = 28 ∨ op = 29 ∨ op = 30 ∨ op = 31 ∨ op = 32 ∨ op = 33 ∨ op = 34 ∨ op = 35 ∨ op = 36 ∨ op = 37 := by omega
  rcases this with rfl | rfl | rfl | rfl | rfl | rfl | rfl | rfl | rfl | rfl | rfl | rfl | rfl | rfl | rfl | rfl | rfl <;> decide
theorem elemL_ne {op : Int} {xs : List Dev} : elemL op xs ≠ [] ↔ eOk op xs = true := by
  unfold elemL eOk
  cases h1 : coilOk op xs
  · cases h2 : conOk op xs
    · simp
    · simp only [Bool.false_eq_true, if_false, if_true, Bool.or_true, iff_true]
      have ha := eOk_all (op := op) (xs := xs) (by unfold eOk; rw [h2]; simp)
      have hd : ∀ d ∈ xs, devL d ≠ [] := fun d hd => devL_ne.2 (ha.1 d hd)
      have hx : ∀ j : Nat, (j : Int) < arity op → devL (xD xs j) ≠ [] := fun j hj => by
        have : j < xs.length := by omega
        unfold xD
        rw [List.getD_eq_getElem?_getD, List.getElem?_eq_getElem this]
        exact hd _ (List.getElem_mem _)
      have hop : 1 ≤ op ∧ op ≤ 10 := by
        unfold conOk at h2
        simp only [Bool.and_eq_true, decide_eq_true_eq] at h2
        exact ⟨h2.1.1.1, h2.1.1.2.1⟩
      unfold conT
      split
      · rename_i h
        exact hx 0 (by rw [h]; decide)
      · split
        · simp
        · split
          · simp
          · split
            · simp
            · have : arity op = 2 := by unfold arity; rw [if_neg (by omega), if_neg (by omega), if_pos (by omega)]
              have hx0 := hx 0 (by omega)
              simp [hx0]
  · simp
def tryE (op : Int) (ws : List Str) (t : Str) : Option (Int × List Dev) :=
  match ws.mapM devRd with
  | some ds => if t ≠ [] ∧ elemL op ds = t then some (op, ds) else none
  | none => none
theorem tryE_some {op : Int} {ws : List Str} {t : Str} {e : Int × List Dev} (h : tryE op ws t = some e) : eOk e.1 e.2 = true ∧ elemL e.1 e.2 = t := by
  unfold tryE at h
  split at h
  · rename_i ds _
    split at h
    · rename_i h1
      cases h
      exact ⟨elemL_ne.1 (by rw [h1.2]; exact h1.1), h1.2⟩
    · cases h
  · cases h
theorem mapM_dev : ∀ {xs : List Dev}, (∀ d ∈ xs, dOk d = true) → (xs.map devL).mapM devRd = some xs
  | [], _ => rfl
  | d :: xs, h => by
    rw [List.map_cons, List.mapM_cons, devRd_dev (h d (by simp)), mapM_dev fun x hx => h x (by simp [hx])]
    rfl
theorem tryE_ok {op : Int} {xs : List Dev} (h : eOk op xs = true) : tryE op (xs.map devL) (elemL op xs) = some (op, xs) := by
  unfold tryE
  rw [mapM_dev (eOk_all h).1]
  simp only
  rw [if_pos ⟨elemL_ne.2 h, trivial⟩]
def names17 : List Str := (List.range 17).map fun (i : Nat) => coilName (21 + i)
def idxW (w : Str) : List Str → Int
  | [] => -1
  | x :: l => if x = w then 0 else if idxW w l = -1 then -1 else idxW w l + 1
theorem idxW_miss {w : Str} : ∀ {l : List Str}, w ∉ l → idxW w l = -1
  | [], _ => rfl
  | x :: l, h => by
    have h1 : ¬ x = w := fun e => h (by simp [e])
    rw [idxW, if_neg h1, if_pos (idxW_miss fun e => h (by simp [e]))]
theorem idxW_hit {w : Str} : ∀ {l : List Str} {i : Nat}, l[i]? = some w → (∀ j, j < i → l[j]? ≠ some w) → idxW w l = i
  | [], i, h, _ => by simp at h
  | x :: l, 0, h, _ => by
    have : x = w := by simpa using h
    rw [idxW, if_pos this]; rfl
  | x :: l, i + 1, h, hn => by
    have h0 : ¬ x = w := fun e => hn 0 (by omega) (by simp [e])
    rw [idxW, if_neg h0, idxW_hit (i := i) (by simpa using h) (fun j hj => by have := hn (j + 1) (by omega); simpa using this), if_neg (by omega)]
    omega
theorem idxW_bd (w : Str) (l : List Str) : -1 ≤ idxW w l ∧ idxW w l < l.length := by
  induction l with
  | nil => simp [idxW]
  | cons x l ih =>
    rw [idxW, List.length_cons]
    split
    · omega
    · split <;> omega
def cmpTry (t : Str) : Nat → Int → Option (Int × List Dev)
  | 0, _ => none
  | n + 1, op =>
    if (Lib.cut t (cmpS op)).2.2 then match tryE (op + 4) [(Lib.cut t (cmpS op)).1, (Lib.cut t (cmpS op)).2.1] t with
      | some e => some e
      | none => cmpTry t n (op + 1)
    else cmpTry t n (op + 1)
def elemRd (t : Str) : Option (Int × List Dev) :=
  if (cutAt 58 t).2.2 = true ∧ 0 ≤ idxW (cutAt 58 t).1 names17 then tryE (21 + idxW (cutAt 58 t).1 names17) (Lib.splitN (cutAt 58 t).2.1 [44] 4) t
  else if (cutAt 58 t).2.2 = true ∧ (cutAt 58 t).1.head? = some 43 then tryE 3 [(cutAt 58 t).1.drop 1, (cutAt 58 t).2.1] t
  else if (cutAt 58 t).2.2 = true ∧ (cutAt 58 t).1.head? = some 45 then tryE 4 [(cutAt 58 t).1.drop 1, (cutAt 58 t).2.1] t
  else if t.head? = some 47 then tryE 2 [t.drop 1] t
  else match cmpTry t 6 1 with
    | some e => some e
    | none => tryE 1 [t] t
theorem cmpTry_some {t : Str} : ∀ {n : Nat} {op : Int} {e : Int × List Dev}, cmpTry t n op = some e → eOk e.1 e.2 = true ∧ elemL e.1 e.2 = t
  | 0, _, _, h => by cases h
  | n + 1, op, e, h => by
    rw [cmpTry] at h
    split at h
    · split at h
      · rename_i h1
        cases h
        exact tryE_some h1
      · exact cmpTry_some h
    · exact cmpTry_some h
theorem elemRd_some {t : Str} {e : Int × List Dev} (h : elemRd t = some e) : eOk e.1 e.2 = true ∧ elemL e.1 e.2 = t := by
  unfold elemRd at h
  split at h
  · exact tryE_some h
  · split at h
    · exact tryE_some h
    · split at h
      · exact tryE_some h
      · split at h
        · exact tryE_some h
        · split at h
          · rename_i h1
            cases h
            exact cmpTry_some h1
          · exact tryE_some h
theorem cmpS_facts : ∀ op : Int, 1 ≤ op → op ≤ 6 → cmpS op ≠ [] ∧ (∀ c ∈ cmpS op, cmpCh c = true) ∧ (cmpS op).length ≤ 2 := by
  intro op h1 h2
  have : op = 1 ∨ op = 2 ∨ op = 3 ∨ op = 4 ∨ op = 5 ∨ op = 6 := by omega
  rcases this with rfl | rfl | rfl | rfl | rfl | rfl <;> decide
theorem cmpS_inj {a b : Int} (ha : 1 ≤ a ∧ a ≤ 6) (hb : 1 ≤ b ∧ b ≤ 6) (h : cmpS a = cmpS b) : a = b := by
  have h1 : a = 1 ∨ a = 2 ∨ a = 3 ∨ a = 4 ∨ a = 5 ∨ a = 6 := by omega
  have h2 : b = 1 ∨ b = 2 ∨ b = 3 ∨ b = 4 ∨ b = 5 ∨ b = 6 := by omega
  rcases h1 with rfl | rfl | rfl | rfl | rfl | rfl <;> rcases h2 with rfl | rfl | rfl | rfl | rfl | rfl <;> first | rfl | exact absurd h (by decide)
theorem dev_nocmp (d : Dev) : ∀ c ∈ devL d, cmpCh c = false := fun c hc => by
  cases h : cmpCh c
  · rfl
  · have := devL_ch d c hc
    rw [devCh_cmp h] at this; cases this
theorem filter_none {l : Str} (h : ∀ c ∈ l, cmpCh c = false) : l.filter cmpCh = [] := List.filter_eq_nil_iff.2 fun c hc => by rw [h c hc]; simp
theorem filter_all {l : Str} (h : ∀ c ∈ l, cmpCh c = true) : l.filter cmpCh = l := List.filter_eq_self.2 h
theorem rd_nocmp {w : Str} {d : Dev} (h : devRd w = some d) : ∀ c ∈ w, cmpCh c = false := by
  obtain ⟨_, rfl⟩ := devRd_some h
  exact dev_nocmp d
theorem cmp_other {a b : Str} {op op0 : Int} {q : Int} (h0 : 1 ≤ op0 ∧ op0 ≤ 6) (h1 : 1 ≤ op ∧ op ≤ 6) (hne : op ≠ op0) (ha : ∀ c ∈ a, cmpCh c = false) (hb : ∀ c ∈ b, cmpCh c = false) {x y : Str}
    (hc : Lib.cut (a ++ (cmpS op0 ++ b)) (cmpS op) = (x, y, true)) : tryE q [x, y] (a ++ (cmpS op0 ++ b)) = none := by
  have e := cut_hit hc
  cases hx : devRd x with
  | none => unfold tryE; rw [List.mapM_cons, hx]; rfl
  | some dx =>
    cases hy : devRd y with
    | none => unfold tryE; rw [List.mapM_cons, List.mapM_cons, hx, hy]; rfl
    | some dy =>
      refine absurd (cmpS_inj h1 h0 ?_) hne
      have e2 := congrArg (List.filter cmpCh) e
      rw [List.filter_append, List.filter_append, filter_none ha, filter_none hb, filter_all (cmpS_facts op0 h0.1 h0.2).2.1, List.filter_append, List.filter_append, filter_none (rd_nocmp hx), filter_none (rd_nocmp hy),
        filter_all (cmpS_facts op h1.1 h1.2).2.1] at e2
      simpa using e2.symm
theorem cmpTry_hit {xs : List Dev} {op0 : Int} (h0 : 1 ≤ op0 ∧ op0 ≤ 6) (a b : Dev) (ht : tryE (op0 + 4) [devL a, devL b] (devL a ++ (cmpS op0 ++ devL b)) = some (op0 + 4, [a, b])) :
    ∀ (n : Nat) (op : Int), 1 ≤ op → op ≤ op0 → op + n = 7 → cmpTry (devL a ++ (cmpS op0 ++ devL b)) n op = some (op0 + 4, [a, b])
  | 0, op, _, _, _ => by omega
  | n + 1, op, h1, h2, h3 => by
    rw [cmpTry]
    by_cases e : op = op0
    · subst e
      obtain ⟨f1, f2, _⟩ := cmpS_facts op h0.1 h0.2
      have hc := cut_first (b := devL b) f1 f2 (dev_nocmp a)
      rw [hc]
      simp only [if_true]
      rw [ht]
    · have ih := cmpTry_hit (xs := xs) h0 a b ht n (op + 1) (by omega) (by omega) (by omega)
      split
      · rename_i h
        obtain ⟨x, y, hxy⟩ : ∃ x y, Lib.cut (devL a ++ (cmpS op0 ++ devL b)) (cmpS op) = (x, y, true) := ⟨_, _, by rw [← h]⟩
        rw [hxy]
        simp only
        rw [cmp_other h0 ⟨by omega, by omega⟩ e (dev_nocmp a) (dev_nocmp b) hxy]
        exact ih
      · exact ih
theorem cmpTry_none {t : Str} (h : ∀ c ∈ t, cmpCh c = false) : ∀ (n : Nat) (op : Int), 1 ≤ op → op + n = 7 → cmpTry t n op = none
  | 0, _, _, _ => rfl
  | n + 1, op, h1, h2 => by
    rw [cmpTry, if_neg]
    · exact cmpTry_none h n (op + 1) (by omega) (by omega)
    · intro hc
      obtain ⟨x, y, hxy⟩ : ∃ x y, Lib.cut t (cmpS op) = (x, y, true) := ⟨_, _, by rw [← hc]⟩
      have e := cut_hit hxy
      obtain ⟨f1, f2, _⟩ := cmpS_facts op (by omega) (by omega)
      obtain ⟨c, s', ec⟩ : ∃ c s', cmpS op = c :: s' := by cases hs : cmpS op with
        | nil => exact absurd hs f1
        | cons c s' => exact ⟨c, s', rfl⟩
      have := h c (by rw [e, ec]; simp)
      rw [f2 c (by rw [ec]; simp)] at this
      cases this
theorem names17_idx : ∀ op : Int, 21 ≤ op → op ≤ 37 → idxW (coilName op) names17 = op - 21 := by
  intro op h1 h2
  have : op = 21 ∨ op = 22 ∨ op = 23 ∨ op = 24 ∨ op = 25 ∨ op = 26 ∨ op = 27 ∨ op = 28 ∨ op = 29 ∨ op = 30 ∨ op = 31 ∨ op = 32 ∨ op = 33 ∨ op = 34 ∨ op = 35 ∨ op = 36 ∨ op = 37 := by omega
  rcases this with rfl | rfl | rfl | rfl | rfl | rfl | rfl | rfl | rfl | rfl | rfl | rfl | rfl | rfl | rfl | rfl | rfl <;> decide
theorem names17_head {w : Str} (h : w.headD 0 = 43 ∨ w.headD 0 = 45) : idxW w names17 = -1 := by
  refine idxW_miss fun hm => ?_
  have hl : ∀ x ∈ names17, x.headD 0 ≠ 43 ∧ x.headD 0 ≠ 45 := by decide
  have := hl w hm
  rcases h with h | h
  · exact this.1 h
  · exact this.2 h
theorem devL_no58 (d : Dev) : (58 : UInt8) ∉ devL d := devL_not (by decide)
theorem devL_head {d : Dev} {c : UInt8} (h : devCh c = false) : (devL d).head? ≠ some c := fun e => devL_not h (List.mem_of_mem_head? e)
theorem con_shape {op : Int} {xs : List Dev} (h : conOk op xs = true) : ((op = 1 ∨ op = 2) ∧ ∃ a, xs = [a]) ∨ (3 ≤ op ∧ op ≤ 10 ∧ ∃ a b, xs = [a, b]) := by
  unfold conOk at h
  simp only [Bool.and_eq_true, decide_eq_true_eq] at h
  obtain ⟨⟨⟨h1, h2, h3⟩, _⟩, _⟩ := h
  by_cases e : op = 1 ∨ op = 2
  · left
    have : arity op = 1 := by unfold arity; rw [if_pos (by omega)]
    exact ⟨e, list_one (by omega)⟩
  · right
    have : arity op = 2 := by unfold arity; rw [if_neg (by omega), if_neg (by omega), if_pos (by omega)]
    exact ⟨by omega, h2, list_two (by omega)⟩
theorem elemRd_elem {op : Int} {xs : List Dev} (h : eOk op xs = true) : elemRd (elemL op xs) = some (op, xs) := by
  have htry := tryE_ok h
  by_cases hc : coilOk op xs = true
  · have hop : 21 ≤ op ∧ op ≤ 37 := by
      unfold coilOk at hc
      simp only [Bool.and_eq_true, decide_eq_true_eq] at hc
      exact ⟨hc.1.1.1, hc.1.1.2.1⟩
    obtain ⟨f1, f2, f3, f4, f5, f6, f7, _⟩ := coil_facts op hop.1 hop.2
    have e : elemL op xs = coilName op ++ 58 :: joinL 44 (xs.map devL) := by unfold elemL; rw [if_pos hc]
    have hcut : cutAt 58 (elemL op xs) = (coilName op, joinL 44 (xs.map devL), true) := by rw [e]; exact cutAt_hit f2
    have ha := eOk_all h
    have hne : xs.map devL ≠ [] := by
      intro e
      have : xs.length = 0 := by simpa using congrArg List.length e
      omega
    unfold elemRd
    rw [hcut]
    simp only
    rw [names17_idx op hop.1 hop.2, if_pos ⟨trivial, by omega⟩, splitN_join hne (by rw [List.length_map]; omega) fun w hw => by
      obtain ⟨d, _, rfl⟩ := List.mem_map.1 hw
      exact devL_not (by decide)]
    rw [show 21 + (op - 21) = op by omega]
    exact htry
  · have hk : conOk op xs = true := by
      unfold eOk at h
      simpa [hc] using h
    have e : elemL op xs = conT op xs := by unfold elemL; rw [if_neg hc, if_pos hk]
    rcases con_shape hk with ⟨ho, a, rfl⟩ | ⟨h3, h10, a, b, rfl⟩
    · rcases ho with rfl | rfl
      · have e2 : elemL 1 [a] = devL a := by rw [e]; rfl
        rw [e2] at htry ⊢
        unfold elemRd
        rw [cutAt_miss (devL_no58 a)]
        simp only [Bool.false_eq_true, false_and, if_false]
        rw [if_neg (devL_head (by decide)), cmpTry_none (dev_nocmp a) 6 1 (by omega) (by omega)]
        exact htry
      · have e2 : elemL 2 [a] = 47 :: devL a := by rw [e]; rfl
        rw [e2] at htry ⊢
        have h58 : (58 : UInt8) ∉ (47 :: devL a) := by
          intro hm
          rcases List.mem_cons.1 hm with hm | hm
          · exact absurd hm (by decide)
          · exact devL_no58 a hm
        unfold elemRd
        rw [cutAt_miss h58]
        simp only [Bool.false_eq_true, false_and, if_false, List.head?_cons, if_true, List.drop_one, List.tail_cons]
        exact htry
    · by_cases o3 : op = 3
      · subst o3
        have e2 : elemL 3 [a, b] = 43 :: (devL a ++ 58 :: devL b) := by rw [e]; rfl
        rw [e2] at htry ⊢
        have hcut : cutAt 58 (43 :: (devL a ++ 58 :: devL b)) = (43 :: devL a, devL b, true) := by
          rw [← List.cons_append]
          refine cutAt_hit fun hm => ?_
          rcases List.mem_cons.1 hm with hm | hm
          · exact absurd hm (by decide)
          · exact devL_no58 a hm
        unfold elemRd
        rw [hcut]
        simp only [true_and]
        rw [names17_head (Or.inl rfl), if_neg (by omega)]
        simp only [List.head?_cons, if_true, List.drop_one, List.tail_cons]
        exact htry
      · by_cases o4 : op = 4
        · subst o4
          have e2 : elemL 4 [a, b] = 45 :: (devL a ++ 58 :: devL b) := by rw [e]; rfl
          rw [e2] at htry ⊢
          have hcut : cutAt 58 (45 :: (devL a ++ 58 :: devL b)) = (45 :: devL a, devL b, true) := by
            rw [← List.cons_append]
            refine cutAt_hit fun hm => ?_
            rcases List.mem_cons.1 hm with hm | hm
            · exact absurd hm (by decide)
            · exact devL_no58 a hm
          unfold elemRd
          rw [hcut]
          simp only [true_and]
          rw [names17_head (Or.inr rfl), if_neg (by omega)]
          simp only [List.head?_cons, Option.some.injEq, if_true, List.drop_one, List.tail_cons]
          rw [if_neg (by decide)]
          exact htry
        · have e2 : elemL op [a, b] = devL a ++ (cmpS (op - 4) ++ devL b) := by
            rw [e]; unfold conT
            rw [if_neg (by omega), if_neg (by omega), if_neg o3, if_neg o4]; rfl
          obtain ⟨f1, f2, _⟩ := cmpS_facts (op - 4) (by omega) (by omega)
          rw [e2] at htry ⊢
          have h58 : (58 : UInt8) ∉ (devL a ++ (cmpS (op - 4) ++ devL b)) := by
            intro hm
            rcases List.mem_append.1 hm with hm | hm
            · exact devL_no58 a hm
            · rcases List.mem_append.1 hm with hm | hm
              · exact absurd (f2 58 hm) (by decide)
              · exact devL_no58 b hm
          have hne : devL a ≠ [] := devL_ne.2 ((eOk_all h).1 a (by simp))
          have h47 : (devL a ++ (cmpS (op - 4) ++ devL b)).head? ≠ some 47 := by
            rw [List.head?_append]
            cases hd : (devL a).head? with
            | none => exact absurd (List.head?_eq_none_iff.1 hd) hne
            | some c =>
              rw [Option.some_or]
              intro he
              cases he
              exact devL_head (d := a) (c := 47) (by decide) hd
          unfold elemRd
          rw [cutAt_miss h58]
          simp only [Bool.false_eq_true, false_and, if_false]
          rw [if_neg h47]
          have ho : op - 4 + 4 = op := by omega
          have := cmpTry_hit (xs := [a, b]) (op0 := op - 4) ⟨by omega, by omega⟩ a b (by rw [ho]; exact htry) 6 1 (by omega) (by omega) (by omega)
          rw [this, ho]
theorem elemRd_none {t : Str} (h : elemRd t = none) {op : Int} {xs : List Dev} (hk : eOk op xs = true) : elemL op xs ≠ t := fun e => by
  rw [← e, elemRd_elem hk] at h; cases h
theorem elemRd_of {t : Str} {op : Int} {xs : List Dev} (hg : ∀ o ys, eOk o ys = true → elemL o ys = t → op = o ∧ xs = ys) : (if t ≠ [] ∧ elemL op xs = t then some (op, xs) else none) = elemRd t := by
  cases h : elemRd t with
  | some e =>
    obtain ⟨h1, h2⟩ := elemRd_some h
    obtain ⟨rfl, rfl⟩ := hg e.1 e.2 h1 h2
    rw [if_pos ⟨by rw [← h2]; exact elemL_ne.2 h1, h2⟩]
  | none =>
    rw [if_neg]
    rintro ⟨h1, h2⟩
    exact elemRd_none h (op := op) (xs := xs) (elemL_ne.1 (by rw [h2]; exact h1)) h2
end Go.Sx
