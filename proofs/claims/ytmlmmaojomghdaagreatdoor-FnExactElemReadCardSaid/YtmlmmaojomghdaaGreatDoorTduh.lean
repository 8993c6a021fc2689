/-
  Operands read as the reference guesses; contacts and coils out of their texts. Plain Lean: nothing of a program stands here. Conditions: none.
-/
import Derived.Test.YtmlmmaojomghdaaGreatDoorTcuh
set_option linter.unusedVariables false
set_option linter.unusedSimpArgs false
namespace Go.Sx
open Go

instance (l : Str) : Decidable (Digs l) := inferInstanceAs (Decidable (∀ c ∈ l, 48 ≤ c.toNat ∧ c.toNat ≤ 57))
def digS (l : Str) : Int := if l = [] ∨ 17 < l.length ∨ ¬ Digs l then -1 else valD l
theorem digS_of {l : Str} (h1 : l ≠ []) (h2 : l.length ≤ 17) (h3 : Digs l) : digS l = valD l := by
  unfold digS
  rw [if_neg]
  rintro (h | h | h)
  · exact h1 h
  · omega
  · exact h h3
theorem digS_decL {n : Nat} (h : n < 10 ^ 17) : digS (decL n) = n := by
  rw [digS_of (decL_ne n) (decL_len n 16 h) (decL_dig n), valD_dec]
def guessS (t : Str) : Dev :=
  if words4.contains t then ⟨13, words4.findIdx (· == t), 0⟩
  else if 0 ≤ idxL (t.headD 0) letters then ⟨1 + idxL (t.headD 0) letters, digS (t.drop 1), 0⟩
  else
    let sg : Int := if t.headD 0 = 45 then -1 else 1
    let u := if t.headD 0 = 45 then t.drop 1 else t
    if idxL 46 u < 0 then ⟨11, sg * digS u, 0⟩ else ⟨12, sg * digS (u.take (idxL 46 u).toNat ++ u.drop ((idxL 46 u).toNat + 1)), u.length - idxL 46 u - 1⟩
theorem idxL_hit {c : UInt8} {a b : Str} (h : c ∉ a) : idxL c (a ++ c :: b) = a.length := by
  induction a with
  | nil => simp [idxL]
  | cons x a ih =>
    have h1 : ¬ x = c := fun e => h (by simp [e])
    have h2 : c ∉ a := fun e => h (by simp [e])
    rw [List.cons_append, idxL, if_neg h1, ih h2, if_neg (by omega)]
    simp
theorem guessS_devT {d : Dev} (h : dOk d = true) : guessS (devT d) = d := by
  obtain ⟨k, n, p⟩ := d
  rcases dOk_cases h with ⟨h1, h2, h3, h4, h5⟩ | ⟨h1, h2, h3, h4⟩ | ⟨h1, h2, h3, h4, h5, h6⟩ | ⟨h1, h2, h3, h4⟩ <;> simp only at *
  · subst h5
    have hg := guessI_devT (d := ⟨k, n, 0⟩) h
    obtain ⟨l1, l2, l3, l4, l5, l6, _⟩ := letter_facts k h1 h2
    have hz := devSize_le k
    have e : devT ⟨k, n, 0⟩ = letterU k :: decZ n := by
      unfold devT
      simp only
      rw [if_neg (by omega), if_neg (by omega), if_neg (by omega)]
    have ez : decZ n = decL n.toNat := by unfold decZ; rw [if_neg (by omega)]; congr 1; omega
    rw [e] at hg ⊢
    have hw : words4.contains (letterU k :: decZ n) = false := by
      rw [Bool.eq_false_iff]
      intro hc
      simp [words4] at hc
      rcases hc with ⟨a, _⟩ | ⟨a, _⟩ | ⟨a, _⟩ | ⟨a, _⟩
      · exact l3 a
      · exact l4 a
      · exact l5 a
      · exact l5 a
    unfold guessS
    rw [hw]
    simp only [List.headD_cons, List.drop_one, List.tail_cons, Bool.false_eq_true, if_false]
    rw [l1, if_pos (by omega), ez, digS_decL (by omega)]
    congr 1 <;> omega
  · subst h1; subst h4
    have e : devT ⟨11, n, 0⟩ = decZ n := rfl
    rw [e]
    obtain ⟨c, r, e1, e2, e3, _⟩ := decZ_head n
    have hi := digit_idx e2
    have hh : (decZ n).headD 0 = c := by rw [e1]; rfl
    have hdot : (46 : UInt8) ∉ decZ n := by
      rw [e1]
      intro hm
      rcases List.mem_cons.1 hm with rfl | hm
      · exact absurd e2 (by decide)
      · exact absurd (e3 46 hm) (by decide)
    unfold guessS
    rw [decZ_words]
    simp only [Bool.false_eq_true, if_false]
    rw [hh, hi, if_neg (by omega)]
    by_cases hn : n < 0
    · have ez : decZ n = 45 :: decL n.natAbs := by unfold decZ; rw [if_pos hn]
      have hc : c = 45 := by rw [ez] at e1; injection e1 with a b; exact a.symm
      rw [if_pos hc, if_pos hc, ez]
      simp only [List.drop_one, List.tail_cons]
      rw [idxL_miss (decL_not (by decide)), if_pos (by omega), digS_decL (by omega)]
      congr 1; omega
    · have ez : decZ n = decL n.natAbs := by unfold decZ; rw [if_neg hn]
      have hc : ¬ c = 45 := fun hc => by
        have := decL_dig n.natAbs c (by rw [← ez, e1]; simp)
        subst hc; exact absurd this (by decide)
      rw [if_neg hc, if_neg hc, ez, idxL_miss (decL_not (by decide)), if_pos (by omega), digS_decL (by omega)]
      congr 1; omega
  · subst h1
    have hgI := guessI_devT (d := ⟨12, n, p⟩) h
    have e : devT ⟨12, n, p⟩ = decT n p.toNat := rfl
    rw [e] at hgI ⊢
    obtain ⟨a, b, ed, g1, g2, g3⟩ := decT_split n p.toNat
    have hd : Digs (a ++ b) := by rw [g3]; exact padS_digs (decL_dig _)
    have hval : valD (a ++ b) = n.natAbs := by rw [g3, padS_val, valD_dec]
    have hlen : (a ++ b).length ≤ 17 := by
      rw [g3, padS_len]
      have := decL_len n.natAbs 8 (by omega)
      omega
    obtain ⟨c, r, ea⟩ : ∃ c r, a = c :: r := by cases a with
      | nil => exact absurd rfl g1
      | cons c r => exact ⟨c, r, rfl⟩
    have hc : 48 ≤ c.toNat ∧ c.toNat ≤ 57 := hd c (by rw [ea]; simp)
    have hdot : (46 : UInt8) ∉ a := digs_not hd.app.1 (by decide)
    have hw : words4.contains (decT n p.toNat) = false := by
      rw [Bool.eq_false_iff]
      intro hm
      unfold guessI at hgI
      rw [if_pos hm] at hgI
      injection hgI with k1 k2 k3
      omega
    have hi : idxL ((decT n p.toNat).headD 0) letters = -1 := by
      refine digit_idx ?_
      rw [ed, ea]; unfold signS; split
      · right; rfl
      · left; exact hc
    unfold guessS
    rw [hw]
    simp only [Bool.false_eq_true, if_false]
    rw [hi, if_neg (by omega)]
    by_cases hn : n < 0
    · have es : decT n p.toNat = 45 :: (a ++ 46 :: b) := by rw [ed]; unfold signS; rw [if_pos hn]; simp
      have hh : (decT n p.toNat).headD 0 = 45 := by rw [es]; rfl
      rw [if_pos hh, if_pos hh, es]
      simp only [List.drop_one, List.tail_cons]
      rw [idxL_hit hdot, if_neg (by omega), Int.toNat_natCast, List.take_left, show a.length + 1 = (a ++ [46]).length by simp, show a ++ 46 :: b = (a ++ [46]) ++ b by simp, List.drop_left,
        digS_of (by rw [ea]; simp) hlen hd, hval]
      simp only [List.length_append, List.length_cons, List.length_nil]
      congr 1 <;> omega
    · have es : decT n p.toNat = a ++ 46 :: b := by rw [ed]; unfold signS; rw [if_neg hn]; simp
      have hh : ¬ (decT n p.toNat).headD 0 = 45 := by
        rw [es, ea]
        intro e
        have : c = 45 := e
        subst this; exact absurd hc (by decide)
      rw [if_neg hh, if_neg hh, es]
      rw [idxL_hit hdot, if_neg (by omega), Int.toNat_natCast, List.take_left, show a.length + 1 = (a ++ [46]).length by simp, show a ++ 46 :: b = (a ++ [46]) ++ b by simp, List.drop_left,
        digS_of (by rw [ea]; simp) hlen hd, hval]
      simp only [List.length_append, List.length_cons, List.length_nil]
      congr 1 <;> omega
  · subst h1; subst h4
    have : n = 0 ∨ n = 1 ∨ n = 2 ∨ n = 3 := by omega
    rcases this with rfl | rfl | rfl | rfl <;> decide
theorem guessS_dev {d : Dev} (h : dOk d = true) : guessS (devL d) = d := by rw [devL_ok h]; exact guessS_devT h
theorem devRd_guess (t : Str) : (if t ≠ [] ∧ devL (guessS t) = t then some (guessS t) else none) = devRd t := devRd_of fun d hd e => by rw [← e, guessS_dev hd]
def devCh (c : UInt8) : Bool := (decide (48 ≤ c.toNat) && decide (c.toNat ≤ 57)) || [45, 46, 97, 102, 105, 110, 88, 89, 77, 83, 69, 71, 84, 67, 68, 82].contains c
theorem digs_devCh {c : UInt8} (h : 48 ≤ c.toNat ∧ c.toNat ≤ 57) : devCh c = true := by unfold devCh; simp [h]
theorem devT_ch {d : Dev} (h : dOk d = true) : ∀ c ∈ devT d, devCh c = true := by
  obtain ⟨k, n, p⟩ := d
  have hz : ∀ (n : Int), ∀ c ∈ decZ n, devCh c = true := fun n c hc => by
    unfold decZ at hc
    split at hc
    · rcases List.mem_cons.1 hc with rfl | hc
      · decide
      · exact digs_devCh (decL_dig _ c hc)
    · exact digs_devCh (decL_dig _ c hc)
  rcases dOk_cases h with ⟨h1, h2, h3, h4, h5⟩ | ⟨h1, h2, h3, h4⟩ | ⟨h1, h2, h3, h4, h5, h6⟩ | ⟨h1, h2, h3, h4⟩ <;> simp only at *
  · have e : devT ⟨k, n, p⟩ = letterU k :: decZ n := by
      unfold devT
      simp only
      rw [if_neg (by omega), if_neg (by omega), if_neg (by omega)]
    rw [e]
    intro c hc
    rcases List.mem_cons.1 hc with rfl | hc
    · have : k = 1 ∨ k = 2 ∨ k = 3 ∨ k = 4 ∨ k = 5 ∨ k = 6 ∨ k = 7 ∨ k = 8 ∨ k = 9 ∨ k = 10 := by omega
      rcases this with rfl | rfl | rfl | rfl | rfl | rfl | rfl | rfl | rfl | rfl <;> decide
    · exact hz n c hc
  · subst h1
    exact hz n
  · subst h1
    have e : devT ⟨12, n, p⟩ = decT n p.toNat := rfl
    obtain ⟨a, b, ed, g1, g2, g3⟩ := decT_split n p.toNat
    have hd : Digs (a ++ b) := by rw [g3]; exact padS_digs (decL_dig _)
    rw [e, ed]
    intro c hc
    rcases List.mem_append.1 hc with hc | hc
    · rcases List.mem_append.1 hc with hc | hc
      · unfold signS at hc
        split at hc
        · rw [List.mem_singleton] at hc; subst hc; decide
        · simp at hc
      · exact digs_devCh (hd.app.1 c hc)
    · rcases List.mem_cons.1 hc with rfl | hc
      · decide
      · exact digs_devCh (hd.app.2 c hc)
  · subst h1; subst h4
    have : n = 0 ∨ n = 1 ∨ n = 2 ∨ n = 3 := by omega
    rcases this with rfl | rfl | rfl | rfl <;> decide
theorem devL_ch (d : Dev) : ∀ c ∈ devL d, devCh c = true := by
  cases h : dOk d
  · rw [devL_bad h]; simp
  · rw [devL_ok h]; exact devT_ch h
theorem devL_not {d : Dev} {c : UInt8} (h : devCh c = false) : c ∉ devL d := fun hm => by rw [devL_ch d c hm] at h; cases h
theorem devT_len {d : Dev} (h : dOk d = true) : (devT d).length ≤ 11 := by
  obtain ⟨k, n, p⟩ := d
  rcases dOk_cases h with ⟨h1, h2, h3, h4, h5⟩ | ⟨h1, h2, h3, h4⟩ | ⟨h1, h2, h3, h4, h5, h6⟩ | ⟨h1, h2, h3, h4⟩ <;> simp only at *
  · have e : devT ⟨k, n, p⟩ = letterU k :: decZ n := by
      unfold devT
      simp only
      rw [if_neg (by omega), if_neg (by omega), if_neg (by omega)]
    have hz := devSize_le k
    have := decZ_short (n := n) (k := 4) (by omega)
    rw [e, List.length_cons]; omega
  · subst h1
    have := decZ_short (n := n) (k := 4) (by omega)
    have e : devT ⟨11, n, p⟩ = decZ n := rfl
    rw [e]; omega
  · subst h1
    have e : devT ⟨12, n, p⟩ = decT n p.toNat := rfl
    obtain ⟨a, b, ed, g1, g2, g3⟩ := decT_split n p.toNat
    have hl : (a ++ b).length ≤ 9 := by
      rw [g3, padS_len]
      have := decL_len n.natAbs 8 (by omega)
      omega
    have hs : (signS n).length ≤ 1 := by unfold signS; split <;> simp
    rw [e, ed]
    simp only [List.length_append, List.length_cons] at hl ⊢
    omega
  · subst h1; subst h4
    have : n = 0 ∨ n = 1 ∨ n = 2 ∨ n = 3 := by omega
    rcases this with rfl | rfl | rfl | rfl <;> decide
theorem devL_len (d : Dev) : (devL d).length ≤ 11 := by
  cases h : dOk d
  · rw [devL_bad h]; simp
  · rw [devL_ok h]; exact devT_len h
end Go.Sx
