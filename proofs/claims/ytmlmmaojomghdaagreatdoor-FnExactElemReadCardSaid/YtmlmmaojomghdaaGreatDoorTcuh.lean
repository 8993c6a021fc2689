/-
  Numbers and operands, read out of their texts. Plain Lean: nothing of a program stands here. Conditions: none.
-/
import Derived.Test.YtmlmmaojomghdaaGreatDoorTauh
import Derived.Lib.AtoiAll
import Derived.Lib.ItoaNum
import Derived.Lib.ParseIntB
import Derived.Lib.IndexMore
import Derived.Lib.IndexLaws
set_option linter.unusedVariables false
set_option linter.unusedSimpArgs false
namespace Go.Sx
open Go

def Digs (l : Str) : Prop := ∀ c ∈ l, 48 ≤ c.toNat ∧ c.toNat ≤ 57
theorem itoa_dec (n : Nat) : Lib.decDigits n = decL n := by
  induction n using Nat.strongRecOn with
  | _ n ih =>
    rw [Lib.decDigits, decL]
    by_cases h : n < 10
    · rw [dif_pos h, dif_pos (by omega)]; rfl
    · rw [dif_neg h, dif_neg (by omega), ih (n / 10) (by omega)]; rfl
def valF (acc : Nat) (l : Str) : Nat := l.foldl (fun v c => 10 * v + (c.toNat - 48)) acc
theorem valF_cons (acc : Nat) (c : UInt8) (l : Str) : valF acc (c :: l) = valF (10 * acc + (c.toNat - 48)) l := by unfold valF; rw [List.foldl_cons]
theorem valF_ge : ∀ (l : Str) (acc : Nat), acc ≤ valF acc l
  | [], acc => Nat.le_refl _
  | c :: l, acc => by
    rw [valF_cons]
    have := valF_ge l (10 * acc + (c.toNat - 48)); omega
theorem valF_app (acc : Nat) (a b : Str) : valF acc (a ++ b) = valF (valF acc a) b := by unfold valF; rw [List.foldl_append]
theorem valD_eq (l : Str) : valD l = valF 0 l := rfl
theorem valF_zeros : ∀ (k : Nat) (l : Str), valF 0 (List.replicate k 48 ++ l) = valF 0 l
  | 0, l => rfl
  | k + 1, l => by
    have e : 10 * 0 + ((48 : UInt8).toNat - 48) = 0 := by decide
    rw [List.replicate_succ, List.cons_append, valF_cons, e, valF_zeros k l]
theorem parse_digs : ∀ (l : Str) (acc : Nat), Digs l → valF acc l < 18446744073709551616 → Lib.parseUint10 acc l = .ok (valF acc l)
  | [], acc, _, _ => rfl
  | c :: l, acc, h, hv => by
    have hc := h c (by simp)
    rw [valF_cons] at hv ⊢
    have hg := valF_ge l (10 * acc + (c.toNat - 48))
    rw [Lib.parseUint10, if_pos hc, if_neg (by omega), if_neg (by omega), Nat.mul_comm acc 10]
    exact parse_digs l _ (fun x hx => h x (by simp [hx])) hv
def atoiV (l : Str) : Int := match Lib.atoiAll l with
  | .ok v => v
  | .syntax => 0
  | .range => Lib.atoiSat l
theorem atoi_digs {l : Str} (h : Digs l) (hne : l ≠ []) (hv : valD l ≤ 9223372036854775807) : Lib.atoiAll l = .ok (valD l) := by
  match l, hne with
  | c :: r, _ =>
    have hc := h c (by simp)
    unfold Lib.atoiAll
    simp only
    rw [if_neg (by omega)]
    unfold Lib.parseMag
    rw [if_neg (by simp), parse_digs _ _ h (by rw [← valD_eq]; omega)]
    simp only
    rw [← valD_eq, if_neg (by omega), if_neg (by omega), if_neg (by omega)]
theorem atoi_neg {l : Str} (h : Digs l) (hne : l ≠ []) (hv : valD l ≤ 9223372036854775807) : Lib.atoiAll (45 :: l) = .ok (-(valD l : Int)) := by
  unfold Lib.atoiAll
  simp only
  rw [if_pos (by decide)]
  unfold Lib.parseMag
  rw [if_neg hne, parse_digs _ _ h (by rw [← valD_eq]; omega)]
  simp only
  have e : (45 : UInt8).toNat = 45 := rfl
  rw [← valD_eq, if_neg (by simp [e]), if_neg (by simp [e]; omega), if_pos e]
theorem decL_ne (n : Nat) : decL n ≠ [] := fun h => by have := decL_len1 n; rw [h] at this; simp at this
theorem atoi_decZ {n : Int} (h : n.natAbs ≤ 9223372036854775807) : Lib.atoiAll (decZ n) = .ok n := by
  unfold decZ
  split
  · rw [atoi_neg (decL_dig _) (decL_ne _) (by rw [valD_dec]; exact h), valD_dec]; congr 1; omega
  · rw [atoi_digs (decL_dig _) (decL_ne _) (by rw [valD_dec]; exact h), valD_dec]; congr 1; omega
theorem atoiV_decZ {n : Int} (h : n.natAbs ≤ 9223372036854775807) : atoiV (decZ n) = n := by unfold atoiV; rw [atoi_decZ h]
/-! ### decimals -/
theorem padS_digs {p : Nat} {l : Str} (h : Digs l) : Digs (padS p l) := by
  intro c hc
  unfold padS at hc
  rcases List.mem_append.1 hc with hc | hc
  · rw [List.eq_of_mem_replicate hc]; decide
  · exact h c hc
theorem padS_val (p : Nat) (l : Str) : valD (padS p l) = valD l := valF_zeros _ _
theorem padS_len (p : Nat) (l : Str) : (padS p l).length = max (p + 1) l.length := by unfold padS; simp; omega
def signS (n : Int) : Str := if n < 0 then [45] else []
theorem decT_split (n : Int) (p : Nat) : ∃ a b, decT n p = signS n ++ a ++ 46 :: b ∧ a ≠ [] ∧ b.length = p ∧ a ++ b = padS p (decL n.natAbs) := by
  have h := padS_len p (decL n.natAbs)
  refine ⟨_, _, by unfold decT fracS signS; rw [← List.append_assoc], ?_, ?_, List.take_append_drop _ _⟩
  · intro e
    have := congrArg List.length e
    simp at this
    have h1 := decL_len1 n.natAbs
    omega
  · rw [List.length_drop]; omega
def cutAt (c : UInt8) (s : Str) : Str × Str × Bool := if s.contains c then (s.takeWhile (· != c), (s.dropWhile (· != c)).drop 1, true) else (s, [], false)
theorem cutAt_hit {c : UInt8} {a b : Str} (h : c ∉ a) : cutAt c (a ++ c :: b) = (a, b, true) := by
  unfold cutAt
  rw [if_pos (by simp)]
  have h1 : (a ++ c :: b).takeWhile (· != c) = a := by
    rw [List.takeWhile_append_of_pos (by intro x hx; simp; rintro rfl; exact h hx)]
    simp
  have h2 : (a ++ c :: b).dropWhile (· != c) = c :: b := by
    rw [List.dropWhile_append_of_pos (by intro x hx; simp; rintro rfl; exact h hx)]
    simp
  rw [h1, h2]; rfl
theorem cutAt_miss {c : UInt8} {s : Str} (h : c ∉ s) : cutAt c s = (s, [], false) := by
  unfold cutAt
  rw [if_neg (by simpa using h)]
theorem digs_not {l : Str} (h : Digs l) {c : UInt8} (hc : c.toNat < 48 ∨ 57 < c.toNat) : c ∉ l := fun hm => by have := h c hm; omega
theorem Digs.app {a b : Str} (h : Digs (a ++ b)) : Digs a ∧ Digs b := ⟨fun c hc => h c (by simp [hc]), fun c hc => h c (by simp [hc])⟩
theorem signS_not (n : Int) {c : UInt8} (hc : c ≠ 45) : c ∉ signS n := by
  unfold signS; split <;> simp [hc]
theorem decT_cut (n : Int) (p : Nat) : ∃ a b, cutAt 46 (decT n p) = (signS n ++ a, b, true) ∧ a ≠ [] ∧ b.length = p ∧ a ++ b = padS p (decL n.natAbs) := by
  obtain ⟨a, b, e, h1, h2, h3⟩ := decT_split n p
  refine ⟨a, b, ?_, h1, h2, h3⟩
  rw [e]
  refine cutAt_hit fun hm => ?_
  have hd : Digs (a ++ b) := by rw [h3]; exact padS_digs (decL_dig _)
  rcases List.mem_append.1 hm with hm | hm
  · exact signS_not n (by decide) hm
  · exact digs_not hd.app.1 (by decide) hm
theorem atoiV_frac {n : Int} {a b : Str} {p : Nat} (hn : n.natAbs ≤ 9223372036854775807) (h1 : a ≠ []) (h3 : a ++ b = padS p (decL n.natAbs)) : atoiV (signS n ++ a ++ b) = n := by
  have hd : Digs (a ++ b) := by rw [h3]; exact padS_digs (decL_dig _)
  have hv : valD (a ++ b) = n.natAbs := by rw [h3, padS_val, valD_dec]
  have hne : a ++ b ≠ [] := by simp [h1]
  by_cases h0 : n < 0
  · have e : signS n ++ a ++ b = 45 :: (a ++ b) := by unfold signS; rw [if_pos h0]; simp
    unfold atoiV
    rw [e, atoi_neg hd hne (by omega), hv]
    simp only
    omega
  · have e : signS n ++ a ++ b = a ++ b := by unfold signS; rw [if_neg h0]; simp
    unfold atoiV
    rw [e, atoi_digs hd hne (by omega), hv]
    simp only
    omega
def idxL (c : UInt8) : Str → Int
  | [] => -1
  | x :: l => if x = c then 0 else if idxL c l = -1 then -1 else idxL c l + 1
theorem idxL_lib (c : UInt8) : ∀ l, Lib.indexByte l c = idxL c l
  | [] => rfl
  | x :: l => by
    rw [Lib.indexByte, idxL, idxL_lib c l]
    simp only [beq_iff_eq]
theorem idxL_miss {c : UInt8} : ∀ {l : Str}, c ∉ l → idxL c l = -1
  | [], _ => rfl
  | x :: l, h => by
    have h1 : ¬ x = c := fun e => h (by simp [e])
    have h2 : c ∉ l := fun e => h (by simp [e])
    rw [idxL, if_neg h1, if_pos (idxL_miss h2)]
def letters : Str := [88, 89, 77, 83, 69, 71, 84, 67, 68, 82]
def words4 : List Str := [[110, 97, 110], [105, 110, 102], [45, 105, 110, 102], [45, 48, 46, 48]]
def guessI (t : Str) : Dev :=
  if words4.contains t then ⟨13, words4.findIdx (· == t), 0⟩
  else if 0 ≤ idxL (t.headD 0) letters then ⟨1 + idxL (t.headD 0) letters, atoiV (t.drop 1), 0⟩
  else if (cutAt 46 t).2.2 then ⟨12, atoiV ((cutAt 46 t).1 ++ (cutAt 46 t).2.1), (cutAt 46 t).2.1.length⟩
  else ⟨11, atoiV t, 0⟩
theorem dOk_cases {d : Dev} (h : dOk d = true) : (1 ≤ d.k ∧ d.k ≤ 10 ∧ 0 ≤ d.n ∧ d.n < devSize d.k ∧ d.p = 0) ∨ (d.k = 11 ∧ -32768 ≤ d.n ∧ d.n ≤ 32767 ∧ d.p = 0) ∨
    (d.k = 12 ∧ -999999999 ≤ d.n ∧ d.n ≤ 999999999 ∧ 1 ≤ d.p ∧ d.p ≤ 6 ∧ (d.p = 1 ∨ d.n.tmod 10 ≠ 0)) ∨ (d.k = 13 ∧ 0 ≤ d.n ∧ d.n ≤ 3 ∧ d.p = 0) := by
  unfold dOk devOk at h
  exact of_decide_eq_true h
theorem devSize_le (k : Int) : devSize k ≤ 64 := by unfold devSize; (repeat' split) <;> omega
theorem letter_facts : ∀ k : Int, 1 ≤ k → k ≤ 10 → idxL (letterU k) letters = k - 1 ∧ ¬ (48 ≤ (letterU k).toNat ∧ (letterU k).toNat ≤ 57) ∧ letterU k ≠ 110 ∧ letterU k ≠ 105 ∧ letterU k ≠ 45 ∧ letterU k ≠ 46 ∧ 65 ≤ (letterU k).toNat ∧ (letterU k).toNat ≤ 90 := by
  intro k h1 h2
  have : k = 1 ∨ k = 2 ∨ k = 3 ∨ k = 4 ∨ k = 5 ∨ k = 6 ∨ k = 7 ∨ k = 8 ∨ k = 9 ∨ k = 10 := by omega
  rcases this with rfl | rfl | rfl | rfl | rfl | rfl | rfl | rfl | rfl | rfl <;> decide
theorem digit_idx {c : UInt8} (h : (48 ≤ c.toNat ∧ c.toNat ≤ 57) ∨ c = 45) : idxL c letters = -1 := by
  refine idxL_miss fun hm => ?_
  have hl : ∀ x ∈ letters, 65 ≤ x.toNat := by decide
  have := hl c hm
  rcases h with h | h
  · omega
  · subst h; exact absurd this (by decide)
theorem decZ_head (n : Int) : ∃ c r, decZ n = c :: r ∧ ((48 ≤ c.toNat ∧ c.toNat ≤ 57) ∨ c = 45) ∧ (∀ x ∈ r, 48 ≤ x.toNat ∧ x.toNat ≤ 57) ∧ (c = 45 → r ≠ []) := by
  unfold decZ
  split
  · exact ⟨45, _, rfl, Or.inr rfl, decL_dig _, fun _ => decL_ne _⟩
  · obtain ⟨c, r, e, h1, h2⟩ := decL_cons n.natAbs
    refine ⟨c, r, e, Or.inl ⟨h1, h2⟩, fun x hx => decL_dig n.natAbs x (by rw [e]; simp [hx]), fun hc => ?_⟩
    subst hc; exact absurd h1 (by decide)
theorem decZ_words (n : Int) : words4.contains (decZ n) = false := by
  obtain ⟨c, r, e, h1, h2, h3⟩ := decZ_head n
  rw [e, Bool.eq_false_iff]
  intro hc
  simp [words4] at hc
  rcases hc with ⟨rfl, rfl⟩ | ⟨rfl, rfl⟩ | ⟨rfl, rfl⟩ | ⟨rfl, rfl⟩
  · exact absurd h1 (by decide)
  · exact absurd h1 (by decide)
  · exact absurd (h2 105 (by simp)) (by decide)
  · exact absurd (h2 46 (by simp)) (by decide)
theorem guessI_devT {d : Dev} (h : dOk d = true) : guessI (devT d) = d := by
  obtain ⟨k, n, p⟩ := d
  rcases dOk_cases h with ⟨h1, h2, h3, h4, h5⟩ | ⟨h1, h2, h3, h4⟩ | ⟨h1, h2, h3, h4, h5, h6⟩ | ⟨h1, h2, h3, h4⟩ <;> simp only at *
  · subst h5
    obtain ⟨l1, l2, l3, l4, l5, l6, _⟩ := letter_facts k h1 h2
    have hz := devSize_le k
    have e : devT ⟨k, n, 0⟩ = letterU k :: decZ n := by
      unfold devT
      simp only
      rw [if_neg (by omega), if_neg (by omega), if_neg (by omega)]
    rw [e]
    have hw : words4.contains (letterU k :: decZ n) = false := by
      rw [Bool.eq_false_iff]
      intro hc
      simp [words4] at hc
      rcases hc with ⟨a, _⟩ | ⟨a, _⟩ | ⟨a, _⟩ | ⟨a, _⟩
      · exact l3 a
      · exact l4 a
      · exact l5 a
      · exact l5 a
    unfold guessI
    rw [hw]
    simp only [List.headD_cons, List.drop_one, List.tail_cons, Bool.false_eq_true, if_false]
    rw [l1, if_pos (by omega), atoiV_decZ (by omega)]
    congr 1; omega
  · subst h1; subst h4
    have e : devT ⟨11, n, 0⟩ = decZ n := rfl
    rw [e]
    obtain ⟨c, r, e1, e2, e3, _⟩ := decZ_head n
    have hi := digit_idx e2
    have hdot : (46 : UInt8) ∉ decZ n := by
      rw [e1]
      intro hm
      rcases List.mem_cons.1 hm with rfl | hm
      · exact absurd e2 (by decide)
      · exact absurd (e3 46 hm) (by decide)
    unfold guessI
    rw [decZ_words, cutAt_miss hdot]
    simp only [Bool.false_eq_true, if_false]
    have hh : (decZ n).headD 0 = c := by rw [e1]; rfl
    rw [hh, hi, if_neg (by omega), atoiV_decZ (by omega)]
  · subst h1
    have e : devT ⟨12, n, p⟩ = decT n p.toNat := rfl
    rw [e]
    obtain ⟨a, b, ec, g1, g2, g3⟩ := decT_cut n p.toNat
    have hv := atoiV_frac (n := n) (by omega) g1 g3
    obtain ⟨a', b', ed, g1', g2', g3'⟩ := decT_split n p.toNat
    have hd : Digs (a' ++ b') := by rw [g3']; exact padS_digs (decL_dig _)
    obtain ⟨c, r, ea⟩ : ∃ c r, a' = c :: r := by cases a' with
      | nil => exact absurd rfl g1'
      | cons c r => exact ⟨c, r, rfl⟩
    subst ea
    have hc : 48 ≤ c.toNat ∧ c.toNat ≤ 57 := hd c (by simp)
    have hh : ((decT n p.toNat).headD 0 = 45) ∨ ((decT n p.toNat).headD 0 = c) := by
      rw [ed]; unfold signS; split
      · left; rfl
      · right; rfl
    have hi : idxL ((decT n p.toNat).headD 0) letters = -1 := by
      rcases hh with hh | hh <;> rw [hh]
      · exact digit_idx (Or.inr rfl)
      · exact digit_idx (Or.inl hc)
    have hw : words4.contains (decT n p.toNat) = false := by
      rw [Bool.eq_false_iff]
      intro hm
      have hval : atoiV ((cutAt 46 (decT n p.toNat)).1 ++ (cutAt 46 (decT n p.toNat)).2.1) = n := by rw [ec]; exact hv
      have hcut : (cutAt 46 (decT n p.toNat)).2.2 = true := by rw [ec]
      simp only [words4, List.contains_cons, List.contains_nil, Bool.or_false, Bool.or_eq_true, beq_iff_eq] at hm
      rcases hm with hm | hm | hm | hm
      · rw [hm] at hcut; exact absurd hcut (by decide)
      · rw [hm] at hcut; exact absurd hcut (by decide)
      · rw [hm] at hcut; exact absurd hcut (by decide)
      · rw [hm] at hval
        have : n = 0 := by rw [← hval]; decide
        subst this
        rw [ed] at hm
        unfold signS at hm
        simp at hm
        have := hm.1
        subst this
        exact absurd hc (by decide)
    unfold guessI
    rw [hw, ec]
    simp only [Bool.false_eq_true, if_false, if_true]
    rw [hi, if_neg (by omega), hv, g2]
    congr 1; omega
  · subst h1; subst h4
    have : n = 0 ∨ n = 1 ∨ n = 2 ∨ n = 3 := by omega
    rcases this with rfl | rfl | rfl | rfl <;> decide
theorem devL_ok {d : Dev} (h : dOk d = true) : devL d = devT d := by unfold devL; rw [if_pos h]
theorem guessI_dev {d : Dev} (h : dOk d = true) : guessI (devL d) = d := by rw [devL_ok h]; exact guessI_devT h
theorem devL_bad {d : Dev} (h : dOk d = false) : devL d = [] := by unfold devL; rw [h]; rfl
theorem devT_ne (d : Dev) : devT d ≠ [] := by
  unfold devT
  split
  · unfold decZ; split
    · simp
    · exact decL_ne _
  · split
    · obtain ⟨a, b, e, _⟩ := decT_split d.n d.p.toNat
      rw [e]; simp
    · split
      · unfold wordS; (repeat' split) <;> simp
      · simp
theorem devL_ne {d : Dev} : devL d ≠ [] ↔ dOk d = true := by
  cases h : dOk d
  · rw [devL_bad h]; simp
  · rw [devL_ok h]; simp [devT_ne]
def devRd (t : Str) : Option Dev := if t ≠ [] ∧ devL (guessI t) = t then some (guessI t) else none
theorem devRd_some {t : Str} {d : Dev} (h : devRd t = some d) : dOk d = true ∧ devL d = t := by
  unfold devRd at h
  split at h
  · rename_i h1
    cases h
    exact ⟨devL_ne.1 (by rw [h1.2]; exact h1.1), h1.2⟩
  · cases h
theorem devRd_dev {d : Dev} (h : dOk d = true) : devRd (devL d) = some d := by
  unfold devRd
  rw [if_pos ⟨devL_ne.2 h, by rw [guessI_dev h]⟩, guessI_dev h]
theorem devRd_none {t : Str} (h : devRd t = none) {d : Dev} (hd : dOk d = true) : devL d ≠ t := fun e => by
  rw [← e, devRd_dev hd] at h; cases h
theorem devRd_of {t : Str} {g : Dev} (hg : ∀ d, dOk d = true → devL d = t → g = d) : (if t ≠ [] ∧ devL g = t then some g else none) = devRd t := by
  cases h : devRd t with
  | some d =>
    obtain ⟨h1, h2⟩ := devRd_some h
    have e := hg d h1 h2
    subst e
    rw [if_pos ⟨by rw [← h2]; exact devL_ne.2 h1, h2⟩]
  | none =>
    rw [if_neg]
    rintro ⟨h1, h2⟩
    exact devRd_none h (d := g) (devL_ne.1 (by rw [h2]; exact h1)) h2
end Go.Sx
