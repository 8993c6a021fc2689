/-
  Plainly: what the reference guesses of a contact's or coil's text is right wherever there is one. Nothing of a program stands here.
-/
import Derived.Test.YtclbanhoiaieaaaGreatDoorTava
import Derived.Lib.AtoiAll
import Derived.Lib.ItoaNum
import Derived.Lib.ParseIntB
import Derived.Lib.IndexMore
import Derived.Lib.IndexLaws
import Derived.Lib.Split
set_option linter.unusedVariables false
set_option linter.unusedSimpArgs false
set_option maxHeartbeats 1000000
namespace Go.Sx
open Go

def Digs (l : Str) : Prop := ∀ c ∈ l, 48 ≤ c.toNat ∧ c.toNat ≤ 57
theorem itoa_dec (n : Nat) : Lib.decDigits n = decL n := by
  induction n using Nat.strongRecOn with
  | _ n ih =>
    rw [Lib.decDigits, decL]
    by_cases h : n < 10
    · rw [dif_pos h, dif_pos (by omega)]; rfl
    · rw [dif_neg h, dif_neg (by omega), ih (n / 10) (by omega)]; rfl
def valF (acc : Nat) (l : Str) : Nat := l.foldl (fun v c => 10 * v + (c.toNat - 48)) acc
theorem valF_cons (acc : Nat) (c : UInt8) (l : Str) : valF acc (c :: l) = valF (10 * acc + (c.toNat - 48)) l := by unfold valF; rw [List.foldl_cons]
theorem valF_ge : ∀ (l : Str) (acc : Nat), acc ≤ valF acc l
  | [], acc => Nat.le_refl _
  | c :: l, acc => by
    rw [valF_cons]
    have := valF_ge l (10 * acc + (c.toNat - 48)); omega
theorem valF_app (acc : Nat) (a b : Str) : valF acc (a ++ b) = valF (valF acc a) b := by unfold valF; rw [List.foldl_append]
theorem valD_eq (l : Str) : valD l = valF 0 l := rfl
theorem valF_zeros : ∀ (k : Nat) (l : Str), valF 0 (List.replicate k 48 ++ l) = valF 0 l
  | 0, l => rfl
  | k + 1, l => by
    have e : 10 * 0 + ((48 : UInt8).toNat - 48) = 0 := by decide
    rw [List.replicate_succ, List.cons_append, valF_cons, e, valF_zeros k l]
theorem parse_digs : ∀ (l : Str) (acc : Nat), Digs l → valF acc l < 18446744073709551616 → Lib.parseUint10 acc l = .ok (valF acc l)
  | [], acc, _, _ => rfl
  | c :: l, acc, h, hv => by
    have hc := h c (by simp)
    rw [valF_cons] at hv ⊢
    have hg := valF_ge l (10 * acc + (c.toNat - 48))
    rw [Lib.parseUint10, if_pos hc, if_neg (by omega), if_neg (by omega), Nat.mul_comm acc 10]
    exact parse_digs l _ (fun x hx => h x (by simp [hx])) hv
def atoiV (l : Str) : Int := match Lib.atoiAll l with
  | .ok v => v
  | .range => Lib.atoiSat l
  | _ => 0
theorem atoi_digs {l : Str} (h : Digs l) (hne : l ≠ []) (hv : valD l ≤ 9223372036854775807) : Lib.atoiAll l = .ok (valD l) := by
  match l, hne with
  | c :: r, _ =>
    have hc := h c (by simp)
    unfold Lib.atoiAll
    simp only
    rw [if_neg (by omega)]
    unfold Lib.parseMag
    rw [if_neg (by simp), parse_digs _ _ h (by rw [← valD_eq]; omega)]
    simp only
    rw [← valD_eq, if_neg (by omega), if_neg (by omega), if_neg (by omega)]
theorem atoi_neg {l : Str} (h : Digs l) (hne : l ≠ []) (hv : valD l ≤ 9223372036854775807) : Lib.atoiAll (45 :: l) = .ok (-(valD l : Int)) := by
  unfold Lib.atoiAll
  simp only
  rw [if_pos (by decide)]
  unfold Lib.parseMag
  rw [if_neg hne, parse_digs _ _ h (by rw [← valD_eq]; omega)]
  simp only
  have e : (45 : UInt8).toNat = 45 := rfl
  rw [← valD_eq, if_neg (by simp [e]), if_neg (by simp [e]; omega), if_pos e]
theorem decL_ne (n : Nat) : decL n ≠ [] := fun h => by have := decL_len1 n; rw [h] at this; simp at this
theorem atoi_decZ {n : Int} (h : n.natAbs ≤ 9223372036854775807) : Lib.atoiAll (decZ n) = .ok n := by
  unfold decZ
  split
  · rw [atoi_neg (decL_dig _) (decL_ne _) (by rw [valD_dec]; exact h), valD_dec]; congr 1; omega
  · rw [atoi_digs (decL_dig _) (decL_ne _) (by rw [valD_dec]; exact h), valD_dec]; congr 1; omega
theorem atoiV_decZ {n : Int} (h : n.natAbs ≤ 9223372036854775807) : atoiV (decZ n) = n := by unfold atoiV; rw [atoi_decZ h]
/-! ### decimals -/
theorem padS_digs {p : Nat} {l : Str} (h : Digs l) : Digs (padS p l) := by
  intro c hc
  unfold padS at hc
  rcases List.mem_append.1 hc with hc | hc
  · rw [List.eq_of_mem_replicate hc]; decide
  · exact h c hc
theorem padS_val (p : Nat) (l : Str) : valD (padS p l) = valD l := valF_zeros _ _
theorem padS_len (p : Nat) (l : Str) : (padS p l).length = max (p + 1) l.length := by unfold padS; simp; omega
def signS (n : Int) : Str := if n < 0 then [45] else []
theorem decT_split (n : Int) (p : Nat) : ∃ a b, decT n p = signS n ++ a ++ 46 :: b ∧ a ≠ [] ∧ b.length = p ∧ a ++ b = padS p (decL n.natAbs) := by
  have h := padS_len p (decL n.natAbs)
  refine ⟨_, _, by unfold decT fracS signS; rw [← List.append_assoc], ?_, ?_, List.take_append_drop _ _⟩
  · intro e
    have := congrArg List.length e
    simp at this
    have h1 := decL_len1 n.natAbs
    omega
  · rw [List.length_drop]; omega
def cutAt (c : UInt8) (s : Str) : Str × Str × Bool := if s.contains c then (s.takeWhile (· != c), (s.dropWhile (· != c)).drop 1, true) else (s, [], false)
theorem cutAt_hit {c : UInt8} {a b : Str} (h : c ∉ a) : cutAt c (a ++ c :: b) = (a, b, true) := by
  unfold cutAt
  rw [if_pos (by simp)]
  have h1 : (a ++ c :: b).takeWhile (· != c) = a := by
    rw [List.takeWhile_append_of_pos (by intro x hx; simp; rintro rfl; exact h hx)]
    simp
  have h2 : (a ++ c :: b).dropWhile (· != c) = c :: b := by
    rw [List.dropWhile_append_of_pos (by intro x hx; simp; rintro rfl; exact h hx)]
    simp
  rw [h1, h2]; rfl
theorem cutAt_miss {c : UInt8} {s : Str} (h : c ∉ s) : cutAt c s = (s, [], false) := by
  unfold cutAt
  rw [if_neg (by simpa using h)]
theorem digs_not {l : Str} (h : Digs l) {c : UInt8} (hc : c.toNat < 48 ∨ 57 < c.toNat) : c ∉ l := fun hm => by have := h c hm; omega
theorem Digs.app {a b : Str} (h : Digs (a ++ b)) : Digs a ∧ Digs b := ⟨fun c hc => h c (by simp [hc]), fun c hc => h c (by simp [hc])⟩
theorem signS_not (n : Int) {c : UInt8} (hc : c ≠ 45) : c ∉ signS n := by
  unfold signS; split <;> simp [hc]
theorem decT_cut (n : Int) (p : Nat) : ∃ a b, cutAt 46 (decT n p) = (signS n ++ a, b, true) ∧ a ≠ [] ∧ b.length = p ∧ a ++ b = padS p (decL n.natAbs) := by
  obtain ⟨a, b, e, h1, h2, h3⟩ := decT_split n p
  refine ⟨a, b, ?_, h1, h2, h3⟩
  rw [e]
  refine cutAt_hit fun hm => ?_
  have hd : Digs (a ++ b) := by rw [h3]; exact padS_digs (decL_dig _)
  rcases List.mem_append.1 hm with hm | hm
  · exact signS_not n (by decide) hm
  · exact digs_not hd.app.1 (by decide) hm
theorem atoiV_frac {n : Int} {a b : Str} {p : Nat} (hn : n.natAbs ≤ 9223372036854775807) (h1 : a ≠ []) (h3 : a ++ b = padS p (decL n.natAbs)) : atoiV (signS n ++ a ++ b) = n := by
  have hd : Digs (a ++ b) := by rw [h3]; exact padS_digs (decL_dig _)
  have hv : valD (a ++ b) = n.natAbs := by rw [h3, padS_val, valD_dec]
  have hne : a ++ b ≠ [] := by simp [h1]
  by_cases h0 : n < 0
  · have e : signS n ++ a ++ b = 45 :: (a ++ b) := by unfold signS; rw [if_pos h0]; simp
    unfold atoiV
    rw [e, atoi_neg hd hne (by omega), hv]
    simp only
    omega
  · have e : signS n ++ a ++ b = a ++ b := by unfold signS; rw [if_neg h0]; simp
    unfold atoiV
    rw [e, atoi_digs hd hne (by omega), hv]
    simp only
    omega
def idxL (c : UInt8) : Str → Int
  | [] => -1
  | x :: l => if x = c then 0 else if idxL c l = -1 then -1 else idxL c l + 1
theorem idxL_lib (c : UInt8) : ∀ l, Lib.indexByte l c = idxL c l
  | [] => rfl
  | x :: l => by
    rw [Lib.indexByte, idxL, idxL_lib c l]
    simp only [beq_iff_eq]
theorem idxL_miss {c : UInt8} : ∀ {l : Str}, c ∉ l → idxL c l = -1
  | [], _ => rfl
  | x :: l, h => by
    have h1 : ¬ x = c := fun e => h (by simp [e])
    have h2 : c ∉ l := fun e => h (by simp [e])
    rw [idxL, if_neg h1, if_pos (idxL_miss h2)]
def letters : Str := [88, 89, 77, 83, 69, 71, 84, 67, 68, 82]
def words4 : List Str := [[110, 97, 110], [105, 110, 102], [45, 105, 110, 102], [45, 48, 46, 48]]
def guessI (t : Str) : Dev :=
  if words4.contains t then ⟨13, words4.findIdx (· == t), 0⟩
  else if 0 ≤ idxL (t.headD 0) letters then ⟨1 + idxL (t.headD 0) letters, atoiV (t.drop 1), 0⟩
  else if (cutAt 46 t).2.2 then ⟨12, atoiV ((cutAt 46 t).1 ++ (cutAt 46 t).2.1), (cutAt 46 t).2.1.length⟩
  else ⟨11, atoiV t, 0⟩
theorem dOk_cases {d : Dev} (h : dOk d = true) : (1 ≤ d.k ∧ d.k ≤ 10 ∧ 0 ≤ d.n ∧ d.n < devSize d.k ∧ d.p = 0) ∨ (d.k = 11 ∧ -32768 ≤ d.n ∧ d.n ≤ 32767 ∧ d.p = 0) ∨
    (d.k = 12 ∧ -999999999 ≤ d.n ∧ d.n ≤ 999999999 ∧ 1 ≤ d.p ∧ d.p ≤ 6 ∧ (d.p = 1 ∨ d.n.tmod 10 ≠ 0)) ∨ (d.k = 13 ∧ 0 ≤ d.n ∧ d.n ≤ 3 ∧ d.p = 0) := by
  unfold dOk devOk at h
  exact of_decide_eq_true h
theorem devSize_le (k : Int) : devSize k ≤ 64 := by unfold devSize; (repeat' split) <;> omega
theorem letter_facts : ∀ k : Int, 1 ≤ k → k ≤ 10 → idxL (letterU k) letters = k - 1 ∧ ¬ (48 ≤ (letterU k).toNat ∧ (letterU k).toNat ≤ 57) ∧ letterU k ≠ 110 ∧ letterU k ≠ 105 ∧ letterU k ≠ 45 ∧ letterU k ≠ 46 ∧ 65 ≤ (letterU k).toNat ∧ (letterU k).toNat ≤ 90 := by
  intro k h1 h2
  have : k = 1 ∨ k = 2 ∨ k = 3 ∨ k = 4 ∨ k = 5 ∨ k = 6 ∨ k = 7 ∨ k = 8 ∨ k = 9 ∨ k = 10 := by omega
  rcases this with rfl | rfl | rfl | rfl | rfl | rfl | rfl | rfl | rfl | rfl <;> decide
theorem digit_idx {c : UInt8} (h : (48 ≤ c.toNat ∧ c.toNat ≤ 57) ∨ c = 45) : idxL c letters = -1 := by
  refine idxL_miss fun hm => ?_
  have hl : ∀ x ∈ letters, 65 ≤ x.toNat := by decide
  have := hl c hm
  rcases h with h | h
  · omega
  · subst h; exact absurd this (by decide)
theorem decZ_head (n : Int) : ∃ c r, decZ n = c :: r ∧ ((48 ≤ c.toNat ∧ c.toNat ≤ 57) ∨ c = 45) ∧ (∀ x ∈ r, 48 ≤ x.toNat ∧ x.toNat ≤ 57) ∧ (c = 45 → r ≠ []) := by
  unfold decZ
  split
  · exact ⟨45, _, rfl, Or.inr rfl, decL_dig _, fun _ => decL_ne _⟩
  · obtain ⟨c, r, e, h1, h2⟩ := decL_cons n.natAbs
    refine ⟨c, r, e, Or.inl ⟨h1, h2⟩, fun x hx => decL_dig n.natAbs x (by rw [e]; simp [hx]), fun hc => ?_⟩
    subst hc; exact absurd h1 (by decide)
theorem decZ_words (n : Int) : words4.contains (decZ n) = false := by
  obtain ⟨c, r, e, h1, h2, h3⟩ := decZ_head n
  rw [e, Bool.eq_false_iff]
  intro hc
  simp [words4] at hc
  rcases hc with ⟨rfl, rfl⟩ | ⟨rfl, rfl⟩ | ⟨rfl, rfl⟩ | ⟨rfl, rfl⟩
  · exact absurd h1 (by decide)
  · exact absurd h1 (by decide)
  · exact absurd (h2 105 (by simp)) (by decide)
  · exact absurd (h2 46 (by simp)) (by decide)
theorem guessI_devT {d : Dev} (h : dOk d = true) : guessI (devT d) = d := by
  obtain ⟨k, n, p⟩ := d
  rcases dOk_cases h with ⟨h1, h2, h3, h4, h5⟩ | ⟨h1, h2, h3, h4⟩ | ⟨h1, h2, h3, h4, h5, h6⟩ | ⟨h1, h2, h3, h4⟩ <;> simp only at *
  · subst h5
    obtain ⟨l1, l2, l3, l4, l5, l6, _⟩ := letter_facts k h1 h2
    have hz := devSize_le k
    have e : devT ⟨k, n, 0⟩ = letterU k :: decZ n := by
      unfold devT
      simp only
      rw [if_neg (by omega), if_neg (by omega), if_neg (by omega)]
    rw [e]
    have hw : words4.contains (letterU k :: decZ n) = false := by
      rw [Bool.eq_false_iff]
      intro hc
      simp [words4] at hc
      rcases hc with ⟨a, _⟩ | ⟨a, _⟩ | ⟨a, _⟩ | ⟨a, _⟩
      · exact l3 a
      · exact l4 a
      · exact l5 a
      · exact l5 a
    unfold guessI
    rw [hw]
    simp only [List.headD_cons, List.drop_one, List.tail_cons, Bool.false_eq_true, if_false]
    rw [l1, if_pos (by omega), atoiV_decZ (by omega)]
    congr 1; omega
  · subst h1; subst h4
    have e : devT ⟨11, n, 0⟩ = decZ n := rfl
    rw [e]
    obtain ⟨c, r, e1, e2, e3, _⟩ := decZ_head n
    have hi := digit_idx e2
    have hdot : (46 : UInt8) ∉ decZ n := by
      rw [e1]
      intro hm
      rcases List.mem_cons.1 hm with rfl | hm
      · exact absurd e2 (by decide)
      · exact absurd (e3 46 hm) (by decide)
    unfold guessI
    rw [decZ_words, cutAt_miss hdot]
    simp only [Bool.false_eq_true, if_false]
    have hh : (decZ n).headD 0 = c := by rw [e1]; rfl
    rw [hh, hi, if_neg (by omega), atoiV_decZ (by omega)]
  · subst h1
    have e : devT ⟨12, n, p⟩ = decT n p.toNat := rfl
    rw [e]
    obtain ⟨a, b, ec, g1, g2, g3⟩ := decT_cut n p.toNat
    have hv := atoiV_frac (n := n) (by omega) g1 g3
    obtain ⟨a', b', ed, g1', g2', g3'⟩ := decT_split n p.toNat
    have hd : Digs (a' ++ b') := by rw [g3']; exact padS_digs (decL_dig _)
    obtain ⟨c, r, ea⟩ : ∃ c r, a' = c :: r := by cases a' with
      | nil => exact absurd rfl g1'
      | cons c r => exact ⟨c, r, rfl⟩
    subst ea
    have hc : 48 ≤ c.toNat ∧ c.toNat ≤ 57 := hd c (by simp)
    have hh : ((decT n p.toNat).headD 0 = 45) ∨ ((decT n p.toNat).headD 0 = c) := by
      rw [ed]; unfold signS; split
      · left; rfl
      · right; rfl
    have hi : idxL ((decT n p.toNat).headD 0) letters = -1 := by
      rcases hh with hh | hh <;> rw [hh]
      · exact digit_idx (Or.inr rfl)
      · exact digit_idx (Or.inl hc)
    have hw : words4.contains (decT n p.toNat) = false := by
      rw [Bool.eq_false_iff]
      intro hm
      have hval : atoiV ((cutAt 46 (decT n p.toNat)).1 ++ (cutAt 46 (decT n p.toNat)).2.1) = n := by rw [ec]; exact hv
      have hcut : (cutAt 46 (decT n p.toNat)).2.2 = true := by rw [ec]
      simp only [words4, List.contains_cons, List.contains_nil, Bool.or_false, Bool.or_eq_true, beq_iff_eq] at hm
      rcases hm with hm | hm | hm | hm
      · rw [hm] at hcut; exact absurd hcut (by decide)
      · rw [hm] at hcut; exact absurd hcut (by decide)
      · rw [hm] at hcut; exact absurd hcut (by decide)
      · rw [hm] at hval
        have : n = 0 := by rw [← hval]; decide
        subst this
        rw [ed] at hm
        unfold signS at hm
        simp at hm
        have := hm.1
        subst this
        exact absurd hc (by decide)
    unfold guessI
    rw [hw, ec]
    simp only [Bool.false_eq_true, if_false, if_true]
    rw [hi, if_neg (by omega), hv, g2]
    congr 1; omega
  · subst h1; subst h4
    have : n = 0 ∨ n = 1 ∨ n = 2 ∨ n = 3 := by omega
    rcases this with rfl | rfl | rfl | rfl <;> decide
theorem devL_ok {d : Dev} (h : dOk d = true) : devL d = devT d := by unfold devL; rw [if_pos h]
theorem guessI_dev {d : Dev} (h : dOk d = true) : guessI (devL d) = d := by rw [devL_ok h]; exact guessI_devT h
theorem devL_bad {d : Dev} (h : dOk d = false) : devL d = [] := by unfold devL; rw [h]; rfl
theorem devT_ne (d : Dev) : devT d ≠ [] := by
  unfold devT
  split
  · unfold decZ; split
    · simp
    · exact decL_ne _
  · split
    · obtain ⟨a, b, e, _⟩ := decT_split d.n d.p.toNat
      rw [e]; simp
    · split
      · unfold wordS; (repeat' split) <;> simp
      · simp
theorem devL_ne {d : Dev} : devL d ≠ [] ↔ dOk d = true := by
  cases h : dOk d
  · rw [devL_bad h]; simp
  · rw [devL_ok h]; simp [devT_ne]
def devRd (t : Str) : Option Dev := if t ≠ [] ∧ devL (guessI t) = t then some (guessI t) else none
theorem devRd_some {t : Str} {d : Dev} (h : devRd t = some d) : dOk d = true ∧ devL d = t := by
  unfold devRd at h
  split at h
  · rename_i h1
    cases h
    exact ⟨devL_ne.1 (by rw [h1.2]; exact h1.1), h1.2⟩
  · cases h
theorem devRd_dev {d : Dev} (h : dOk d = true) : devRd (devL d) = some d := by
  unfold devRd
  rw [if_pos ⟨devL_ne.2 h, by rw [guessI_dev h]⟩, guessI_dev h]
theorem devRd_none {t : Str} (h : devRd t = none) {d : Dev} (hd : dOk d = true) : devL d ≠ t := fun e => by
  rw [← e, devRd_dev hd] at h; cases h
theorem devRd_of {t : Str} {g : Dev} (hg : ∀ d, dOk d = true → devL d = t → g = d) : (if t ≠ [] ∧ devL g = t then some g else none) = devRd t := by
  cases h : devRd t with
  | some d =>
    obtain ⟨h1, h2⟩ := devRd_some h
    have e := hg d h1 h2
    subst e
    rw [if_pos ⟨by rw [← h2]; exact devL_ne.2 h1, h2⟩]
  | none =>
    rw [if_neg]
    rintro ⟨h1, h2⟩
    exact devRd_none h (d := g) (devL_ne.1 (by rw [h2]; exact h1)) h2
end Go.Sx
namespace Go.Sx
open Go

instance (l : Str) : Decidable (Digs l) := inferInstanceAs (Decidable (∀ c ∈ l, 48 ≤ c.toNat ∧ c.toNat ≤ 57))
def digS (l : Str) : Int := if l = [] ∨ 17 < l.length ∨ ¬ Digs l then -1 else valD l
theorem digS_of {l : Str} (h1 : l ≠ []) (h2 : l.length ≤ 17) (h3 : Digs l) : digS l = valD l := by
  unfold digS
  rw [if_neg]
  rintro (h | h | h)
  · exact h1 h
  · omega
  · exact h h3
theorem digS_decL {n : Nat} (h : n < 10 ^ 17) : digS (decL n) = n := by
  rw [digS_of (decL_ne n) (decL_len n 16 h) (decL_dig n), valD_dec]
def guessS (t : Str) : Dev :=
  if words4.contains t then ⟨13, words4.findIdx (· == t), 0⟩
  else if 0 ≤ idxL (t.headD 0) letters then ⟨1 + idxL (t.headD 0) letters, digS (t.drop 1), 0⟩
  else
    let sg : Int := if t.headD 0 = 45 then -1 else 1
    let u := if t.headD 0 = 45 then t.drop 1 else t
    if idxL 46 u < 0 then ⟨11, sg * digS u, 0⟩ else ⟨12, sg * digS (u.take (idxL 46 u).toNat ++ u.drop ((idxL 46 u).toNat + 1)), u.length - idxL 46 u - 1⟩
theorem idxL_hit {c : UInt8} {a b : Str} (h : c ∉ a) : idxL c (a ++ c :: b) = a.length := by
  induction a with
  | nil => simp [idxL]
  | cons x a ih =>
    have h1 : ¬ x = c := fun e => h (by simp [e])
    have h2 : c ∉ a := fun e => h (by simp [e])
    rw [List.cons_append, idxL, if_neg h1, ih h2, if_neg (by omega)]
    simp
theorem guessS_devT {d : Dev} (h : dOk d = true) : guessS (devT d) = d := by
  obtain ⟨k, n, p⟩ := d
  rcases dOk_cases h with ⟨h1, h2, h3, h4, h5⟩ | ⟨h1, h2, h3, h4⟩ | ⟨h1, h2, h3, h4, h5, h6⟩ | ⟨h1, h2, h3, h4⟩ <;> simp only at *
  · subst h5
    have hg := guessI_devT (d := ⟨k, n, 0⟩) h
    obtain ⟨l1, l2, l3, l4, l5, l6, _⟩ := letter_facts k h1 h2
    have hz := devSize_le k
    have e : devT ⟨k, n, 0⟩ = letterU k :: decZ n := by
      unfold devT
      simp only
      rw [if_neg (by omega), if_neg (by omega), if_neg (by omega)]
    have ez : decZ n = decL n.toNat := by unfold decZ; rw [if_neg (by omega)]; congr 1; omega
    rw [e] at hg ⊢
    have hw : words4.contains (letterU k :: decZ n) = false := by
      rw [Bool.eq_false_iff]
      intro hc
      simp [words4] at hc
      rcases hc with ⟨a, _⟩ | ⟨a, _⟩ | ⟨a, _⟩ | ⟨a, _⟩
      · exact l3 a
      · exact l4 a
      · exact l5 a
      · exact l5 a
    unfold guessS
    rw [hw]
    simp only [List.headD_cons, List.drop_one, List.tail_cons, Bool.false_eq_true, if_false]
    rw [l1, if_pos (by omega), ez, digS_decL (by omega)]
    congr 1 <;> omega
  · subst h1; subst h4
    have e : devT ⟨11, n, 0⟩ = decZ n := rfl
    rw [e]
    obtain ⟨c, r, e1, e2, e3, _⟩ := decZ_head n
    have hi := digit_idx e2
    have hh : (decZ n).headD 0 = c := by rw [e1]; rfl
    have hdot : (46 : UInt8) ∉ decZ n := by
      rw [e1]
      intro hm
      rcases List.mem_cons.1 hm with rfl | hm
      · exact absurd e2 (by decide)
      · exact absurd (e3 46 hm) (by decide)
    unfold guessS
    rw [decZ_words]
    simp only [Bool.false_eq_true, if_false]
    rw [hh, hi, if_neg (by omega)]
    by_cases hn : n < 0
    · have ez : decZ n = 45 :: decL n.natAbs := by unfold decZ; rw [if_pos hn]
      have hc : c = 45 := by rw [ez] at e1; injection e1 with a b; exact a.symm
      rw [if_pos hc, if_pos hc, ez]
      simp only [List.drop_one, List.tail_cons]
      rw [idxL_miss (decL_not (by decide)), if_pos (by omega), digS_decL (by omega)]
      congr 1; omega
    · have ez : decZ n = decL n.natAbs := by unfold decZ; rw [if_neg hn]
      have hc : ¬ c = 45 := fun hc => by
        have := decL_dig n.natAbs c (by rw [← ez, e1]; simp)
        subst hc; exact absurd this (by decide)
      rw [if_neg hc, if_neg hc, ez, idxL_miss (decL_not (by decide)), if_pos (by omega), digS_decL (by omega)]
      congr 1; omega
  · subst h1
    have hgI := guessI_devT (d := ⟨12, n, p⟩) h
    have e : devT ⟨12, n, p⟩ = decT n p.toNat := rfl
    rw [e] at hgI ⊢
    obtain ⟨a, b, ed, g1, g2, g3⟩ := decT_split n p.toNat
    have hd : Digs (a ++ b) := by rw [g3]; exact padS_digs (decL_dig _)
    have hval : valD (a ++ b) = n.natAbs := by rw [g3, padS_val, valD_dec]
    have hlen : (a ++ b).length ≤ 17 := by
      rw [g3, padS_len]
      have := decL_len n.natAbs 8 (by omega)
      omega
    obtain ⟨c, r, ea⟩ : ∃ c r, a = c :: r := by cases a with
      | nil => exact absurd rfl g1
      | cons c r => exact ⟨c, r, rfl⟩
    have hc : 48 ≤ c.toNat ∧ c.toNat ≤ 57 := hd c (by rw [ea]; simp)
    have hdot : (46 : UInt8) ∉ a := digs_not hd.app.1 (by decide)
    have hw : words4.contains (decT n p.toNat) = false := by
      rw [Bool.eq_false_iff]
      intro hm
      unfold guessI at hgI
      rw [if_pos hm] at hgI
      injection hgI with k1 k2 k3
      omega
    have hi : idxL ((decT n p.toNat).headD 0) letters = -1 := by
      refine digit_idx ?_
      rw [ed, ea]; unfold signS; split
      · right; rfl
      · left; exact hc
    unfold guessS
    rw [hw]
    simp only [Bool.false_eq_true, if_false]
    rw [hi, if_neg (by omega)]
    by_cases hn : n < 0
    · have es : decT n p.toNat = 45 :: (a ++ 46 :: b) := by rw [ed]; unfold signS; rw [if_pos hn]; simp
      have hh : (decT n p.toNat).headD 0 = 45 := by rw [es]; rfl
      rw [if_pos hh, if_pos hh, es]
      simp only [List.drop_one, List.tail_cons]
      rw [idxL_hit hdot, if_neg (by omega), Int.toNat_natCast, List.take_left, show a.length + 1 = (a ++ [46]).length by simp, show a ++ 46 :: b = (a ++ [46]) ++ b by simp, List.drop_left,
        digS_of (by rw [ea]; simp) hlen hd, hval]
      simp only [List.length_append, List.length_cons, List.length_nil]
      congr 1 <;> omega
    · have es : decT n p.toNat = a ++ 46 :: b := by rw [ed]; unfold signS; rw [if_neg hn]; simp
      have hh : ¬ (decT n p.toNat).headD 0 = 45 := by
        rw [es, ea]
        intro e
        have : c = 45 := e
        subst this; exact absurd hc (by decide)
      rw [if_neg hh, if_neg hh, es]
      rw [idxL_hit hdot, if_neg (by omega), Int.toNat_natCast, List.take_left, show a.length + 1 = (a ++ [46]).length by simp, show a ++ 46 :: b = (a ++ [46]) ++ b by simp, List.drop_left,
        digS_of (by rw [ea]; simp) hlen hd, hval]
      simp only [List.length_append, List.length_cons, List.length_nil]
      congr 1 <;> omega
  · subst h1; subst h4
    have : n = 0 ∨ n = 1 ∨ n = 2 ∨ n = 3 := by omega
    rcases this with rfl | rfl | rfl | rfl <;> decide
theorem guessS_dev {d : Dev} (h : dOk d = true) : guessS (devL d) = d := by rw [devL_ok h]; exact guessS_devT h
theorem devRd_guess (t : Str) : (if t ≠ [] ∧ devL (guessS t) = t then some (guessS t) else none) = devRd t := devRd_of fun d hd e => by rw [← e, guessS_dev hd]
def devCh (c : UInt8) : Bool := (decide (48 ≤ c.toNat) && decide (c.toNat ≤ 57)) || [45, 46, 97, 102, 105, 110, 88, 89, 77, 83, 69, 71, 84, 67, 68, 82].contains c
theorem digs_devCh {c : UInt8} (h : 48 ≤ c.toNat ∧ c.toNat ≤ 57) : devCh c = true := by unfold devCh; simp [h]
theorem devT_ch {d : Dev} (h : dOk d = true) : ∀ c ∈ devT d, devCh c = true := by
  obtain ⟨k, n, p⟩ := d
  have hz : ∀ (n : Int), ∀ c ∈ decZ n, devCh c = true := fun n c hc => by
    unfold decZ at hc
    split at hc
    · rcases List.mem_cons.1 hc with rfl | hc
      · decide
      · exact digs_devCh (decL_dig _ c hc)
    · exact digs_devCh (decL_dig _ c hc)
  rcases dOk_cases h with ⟨h1, h2, h3, h4, h5⟩ | ⟨h1, h2, h3, h4⟩ | ⟨h1, h2, h3, h4, h5, h6⟩ | ⟨h1, h2, h3, h4⟩ <;> simp only at *
  · have e : devT ⟨k, n, p⟩ = letterU k :: decZ n := by
      unfold devT
      simp only
      rw [if_neg (by omega), if_neg (by omega), if_neg (by omega)]
    rw [e]
    intro c hc
    rcases List.mem_cons.1 hc with rfl | hc
    · have : k = 1 ∨ k = 2 ∨ k = 3 ∨ k = 4 ∨ k = 5 ∨ k = 6 ∨ k = 7 ∨ k = 8 ∨ k = 9 ∨ k = 10 := by omega
      rcases this with rfl | rfl | rfl | rfl | rfl | rfl | rfl | rfl | rfl | rfl <;> decide
    · exact hz n c hc
  · subst h1
    exact hz n
  · subst h1
    have e : devT ⟨12, n, p⟩ = decT n p.toNat := rfl
    obtain ⟨a, b, ed, g1, g2, g3⟩ := decT_split n p.toNat
    have hd : Digs (a ++ b) := by rw [g3]; exact padS_digs (decL_dig _)
    rw [e, ed]
    intro c hc
    rcases List.mem_append.1 hc with hc | hc
    · rcases List.mem_append.1 hc with hc | hc
      · unfold signS at hc
        split at hc
        · rw [List.mem_singleton] at hc; subst hc; decide
        · simp at hc
      · exact digs_devCh (hd.app.1 c hc)
    · rcases List.mem_cons.1 hc with rfl | hc
      · decide
      · exact digs_devCh (hd.app.2 c hc)
  · subst h1; subst h4
    have : n = 0 ∨ n = 1 ∨ n = 2 ∨ n = 3 := by omega
    rcases this with rfl | rfl | rfl | rfl <;> decide
theorem devL_ch (d : Dev) : ∀ c ∈ devL d, devCh c = true := by
  cases h : dOk d
  · rw [devL_bad h]; simp
  · rw [devL_ok h]; exact devT_ch h
theorem devL_not {d : Dev} {c : UInt8} (h : devCh c = false) : c ∉ devL d := fun hm => by rw [devL_ch d c hm] at h; cases h
theorem devT_len {d : Dev} (h : dOk d = true) : (devT d).length ≤ 11 := by
  obtain ⟨k, n, p⟩ := d
  rcases dOk_cases h with ⟨h1, h2, h3, h4, h5⟩ | ⟨h1, h2, h3, h4⟩ | ⟨h1, h2, h3, h4, h5, h6⟩ | ⟨h1, h2, h3, h4⟩ <;> simp only at *
  · have e : devT ⟨k, n, p⟩ = letterU k :: decZ n := by
      unfold devT
      simp only
      rw [if_neg (by omega), if_neg (by omega), if_neg (by omega)]
    have hz := devSize_le k
    have := decZ_short (n := n) (k := 4) (by omega)
    rw [e, List.length_cons]; omega
  · subst h1
    have := decZ_short (n := n) (k := 4) (by omega)
    have e : devT ⟨11, n, p⟩ = decZ n := rfl
    rw [e]; omega
  · subst h1
    have e : devT ⟨12, n, p⟩ = decT n p.toNat := rfl
    obtain ⟨a, b, ed, g1, g2, g3⟩ := decT_split n p.toNat
    have hl : (a ++ b).length ≤ 9 := by
      rw [g3, padS_len]
      have := decL_len n.natAbs 8 (by omega)
      omega
    have hs : (signS n).length ≤ 1 := by unfold signS; split <;> simp
    rw [e, ed]
    simp only [List.length_append, List.length_cons] at hl ⊢
    omega
  · subst h1; subst h4
    have : n = 0 ∨ n = 1 ∨ n = 2 ∨ n = 3 := by omega
    rcases this with rfl | rfl | rfl | rfl <;> decide
theorem devL_len (d : Dev) : (devL d).length ≤ 11 := by
  cases h : dOk d
  · rw [devL_bad h]; simp
  · rw [devL_ok h]; exact devT_len h
end Go.Sx
namespace Go.Sx
open Go

theorem index_one (c : UInt8) : ∀ s : Str, Lib.index s [c] = idxL c s
  | [] => rfl
  | x :: s => by
    rw [Lib.index, idxL, index_one c s]
    simp only [List.isPrefixOf, Bool.and_true, beq_iff_eq]
    by_cases h : x = c
    · rw [if_pos h.symm, if_pos h]
    · rw [if_neg (fun e => h e.symm), if_neg h]
theorem splitK_join {c : UInt8} : ∀ (ws : List Str) (k : Nat), ws ≠ [] → ws.length ≤ k + 1 → (∀ w ∈ ws, c ∉ w) → Lib.splitK [c] 0 k (joinL c ws) = ws
  | [], _, h, _, _ => absurd rfl h
  | [w], k, _, _, h => by
    have hw : c ∉ w := h w (by simp)
    cases k with
    | zero => rfl
    | succ k =>
      show Lib.splitK [c] 0 (k + 1) w = [w]
      rw [Lib.splitK, index_one, idxL_miss hw]
      simp
  | w :: x :: r, k, _, hl, h => by
    have hw : c ∉ w := h w (by simp)
    match k, hl with
    | k + 1, hl =>
      rw [joinL_cons c w (by simp), Lib.splitK, index_one, idxL_hit hw]
      rw [if_neg (by simp only [beq_iff_eq]; omega)]
      simp only [Int.toNat_natCast, Nat.add_zero, List.length_cons, List.length_nil, Nat.zero_add]
      rw [List.take_left, show w ++ c :: joinL c (x :: r) = (w ++ [c]) ++ joinL c (x :: r) by simp, show w.length + 1 = (w ++ [c]).length by simp, List.drop_left,
        splitK_join (x :: r) k (by simp) (by simpa using hl) fun y hy => h y (by simp [hy])]
theorem joinL_count (c : UInt8) : ∀ (ws : List Str), ws ≠ [] → ws.length ≤ (joinL c ws).length + 1
  | [], h => absurd rfl h
  | [w], _ => by simp
  | w :: x :: r, _ => by
    have := joinL_count c (x :: r) (by simp)
    rw [joinL_cons c w (by simp), List.length_append, List.length_cons (a := w), List.length_cons (a := c)]
    omega
theorem splitN_join {c : UInt8} {ws : List Str} {n : Nat} (h0 : ws ≠ []) (hn : ws.length ≤ n) (h : ∀ w ∈ ws, c ∉ w) : Lib.splitN (joinL c ws) [c] n = ws := by
  unfold Lib.splitN
  have := joinL_count c ws h0
  have h1 : 0 < ws.length := List.length_pos_iff.2 h0
  exact splitK_join ws _ h0 (by omega) h
theorem cut_hit {s sep : Str} {x y : Str} (h : Lib.cut s sep = (x, y, true)) : s = x ++ (sep ++ y) := by
  unfold Lib.cut at h
  split at h
  · rename_i h0
    rcases Lib.index_spec s sep with ⟨e, _⟩ | ⟨i, e, hi, ho, _⟩
    · omega
    · rw [e] at h
      injection h with h1 h2
      injection h2 with h2 _
      rw [Int.toNat_natCast] at h1 h2
      unfold Lib.occAt at ho
      obtain ⟨t, ht⟩ := List.isPrefixOf_iff_prefix.1 ho
      have hd : s.drop (i + sep.length) = t := by
        rw [← List.drop_drop, ← ht, List.drop_left]
      rw [← h1, ← h2, hd, ht, List.take_append_drop]
  · injection h with _ h2
    injection h2 with _ h3
    cases h3
theorem cut_one (c : UInt8) (s : Str) : Lib.cut s [c] = cutAt c s := by
  unfold Lib.cut
  rw [index_one]
  by_cases hm : c ∈ s
  · obtain ⟨a, b, rfl, ha⟩ := List.eq_append_cons_of_mem hm
    rw [cutAt_hit ha, idxL_hit ha, if_pos (by omega), Int.toNat_natCast, List.take_left]
    have : (a ++ c :: b).drop (a.length + [c].length) = b := by
      rw [show a ++ c :: b = (a ++ [c]) ++ b by simp, show a.length + [c].length = (a ++ [c]).length by simp, List.drop_left]
    rw [this]
  · rw [cutAt_miss hm, idxL_miss hm, if_neg (by omega)]
def cmpCh (c : UInt8) : Bool := decide (c = 60 ∨ c = 61 ∨ c = 62)
theorem devCh_cmp {c : UInt8} (h : cmpCh c = true) : devCh c = false := by
  unfold cmpCh at h
  rcases of_decide_eq_true h with rfl | rfl | rfl <;> decide
theorem cut_first {a s b : Str} (hs : s ≠ []) (h : ∀ c ∈ s, cmpCh c = true) (ha : ∀ c ∈ a, cmpCh c = false) : Lib.cut (a ++ (s ++ b)) s = (a, b, true) := by
  have hi : Lib.index (a ++ (s ++ b)) s = a.length := by
    refine Lib.index_first (by simp) ?_ fun j hj => ?_
    · unfold Lib.occAt
      rw [List.drop_left]
      exact List.isPrefixOf_iff_prefix.2 (List.prefix_append _ _)
    · rw [Bool.eq_false_iff]
      intro ho
      unfold Lib.occAt at ho
      obtain ⟨t, ht⟩ := List.isPrefixOf_iff_prefix.1 ho
      obtain ⟨c, s', rfl⟩ : ∃ c s', s = c :: s' := by cases s with
        | nil => exact absurd rfl hs
        | cons c s' => exact ⟨c, s', rfl⟩
      have h1 : (a ++ (c :: s' ++ b))[j]? = some c := by
        have := congrArg (fun l => l[0]?) ht
        simp only [List.cons_append, List.getElem?_cons_zero, List.getElem?_drop, Nat.add_zero] at this
        rw [List.cons_append, ← this]
      rw [List.getElem?_append_left hj] at h1
      have h2 := ha c (List.mem_of_getElem? h1)
      rw [h c (by simp)] at h2
      cases h2
  unfold Lib.cut
  rw [hi, if_pos (by omega), Int.toNat_natCast, List.take_left]
  have : (a ++ (s ++ b)).drop (a.length + s.length) = b := by
    rw [← List.drop_drop, List.drop_left, List.drop_left]
  rw [this]
def eOk (op : Int) (xs : List Dev) : Bool := coilOk op xs || conOk op xs
theorem eOk_all {op : Int} {xs : List Dev} (h : eOk op xs = true) : (∀ d ∈ xs, dOk d = true) ∧ (xs.length : Int) = arity op := by
  unfold eOk coilOk conOk at h
  simp only [Bool.or_eq_true, Bool.and_eq_true, decide_eq_true_eq, List.all_eq_true] at h
  rcases h with ⟨⟨⟨_, _, h⟩, h2⟩, _⟩ | ⟨⟨⟨_, _, h⟩, h2⟩, _⟩ <;> exact ⟨h2, h⟩
theorem coil_facts : ∀ op : Int, 21 ≤ op → op ≤ 37 → coilName op ≠ [] ∧ (58 : UInt8) ∉ coilName op ∧ (coilName op).headD 0 ≠ 43 ∧ (coilName op).headD 0 ≠ 45 ∧ (coilName op).length ≤ 5 ∧ (1 : Int) ≤ arity op ∧ arity op ≤ 3 ∧ (3 ≤ arity op → (coilName op).length ≤ 3) := by
  intro op h1 h2
  have : op = 21 ∨ op = 22 ∨ op = 23 ∨ op = 24 ∨ op = 25 ∨ op = 26 ∨ op = 27 ∨ op = 28 ∨ op = 29 ∨ op = 30 ∨ op = 31 ∨ op = 32 ∨ op = 33 ∨ op = 34 ∨ op = 35 ∨ op = 36 ∨ op = 37 := by omega
  rcases this with rfl | rfl | rfl | rfl | rfl | rfl | rfl | rfl | rfl | rfl | rfl | rfl | rfl | rfl | rfl | rfl | rfl <;> decide
theorem elemL_ne {op : Int} {xs : List Dev} : elemL op xs ≠ [] ↔ eOk op xs = true := by
  unfold elemL eOk
  cases h1 : coilOk op xs
  · cases h2 : conOk op xs
    · simp
    · simp only [Bool.false_eq_true, if_false, if_true, Bool.or_true, iff_true]
      have ha := eOk_all (op := op) (xs := xs) (by unfold eOk; rw [h2]; simp)
      have hd : ∀ d ∈ xs, devL d ≠ [] := fun d hd => devL_ne.2 (ha.1 d hd)
      have hx : ∀ j : Nat, (j : Int) < arity op → devL (xD xs j) ≠ [] := fun j hj => by
        have : j < xs.length := by omega
        unfold xD
        rw [List.getD_eq_getElem?_getD, List.getElem?_eq_getElem this]
        exact hd _ (List.getElem_mem _)
      have hop : 1 ≤ op ∧ op ≤ 10 := by
        unfold conOk at h2
        simp only [Bool.and_eq_true, decide_eq_true_eq] at h2
        exact ⟨h2.1.1.1, h2.1.1.2.1⟩
      unfold conT
      split
      · rename_i h
        exact hx 0 (by rw [h]; decide)
      · split
        · simp
        · split
          · simp
          · split
            · simp
            · have : arity op = 2 := by unfold arity; rw [if_neg (by omega), if_neg (by omega), if_pos (by omega)]
              have hx0 := hx 0 (by omega)
              simp [hx0]
  · simp
def tryE (op : Int) (ws : List Str) (t : Str) : Option (Int × List Dev) :=
  match ws.mapM devRd with
  | some ds => if t ≠ [] ∧ elemL op ds = t then some (op, ds) else none
  | none => none
theorem tryE_some {op : Int} {ws : List Str} {t : Str} {e : Int × List Dev} (h : tryE op ws t = some e) : eOk e.1 e.2 = true ∧ elemL e.1 e.2 = t := by
  unfold tryE at h
  split at h
  · rename_i ds _
    split at h
    · rename_i h1
      cases h
      exact ⟨elemL_ne.1 (by rw [h1.2]; exact h1.1), h1.2⟩
    · cases h
  · cases h
theorem mapM_dev : ∀ {xs : List Dev}, (∀ d ∈ xs, dOk d = true) → (xs.map devL).mapM devRd = some xs
  | [], _ => rfl
  | d :: xs, h => by
    rw [List.map_cons, List.mapM_cons, devRd_dev (h d (by simp)), mapM_dev fun x hx => h x (by simp [hx])]
    rfl
theorem tryE_ok {op : Int} {xs : List Dev} (h : eOk op xs = true) : tryE op (xs.map devL) (elemL op xs) = some (op, xs) := by
  unfold tryE
  rw [mapM_dev (eOk_all h).1]
  simp only
  rw [if_pos ⟨elemL_ne.2 h, trivial⟩]
def names17 : List Str := (List.range 17).map fun (i : Nat) => coilName (21 + i)
def idxW (w : Str) : List Str → Int
  | [] => -1
  | x :: l => if x = w then 0 else if idxW w l = -1 then -1 else idxW w l + 1
theorem idxW_miss {w : Str} : ∀ {l : List Str}, w ∉ l → idxW w l = -1
  | [], _ => rfl
  | x :: l, h => by
    have h1 : ¬ x = w := fun e => h (by simp [e])
    rw [idxW, if_neg h1, if_pos (idxW_miss fun e => h (by simp [e]))]
theorem idxW_hit {w : Str} : ∀ {l : List Str} {i : Nat}, l[i]? = some w → (∀ j, j < i → l[j]? ≠ some w) → idxW w l = i
  | [], i, h, _ => by simp at h
  | x :: l, 0, h, _ => by
    have : x = w := by simpa using h
    rw [idxW, if_pos this]; rfl
  | x :: l, i + 1, h, hn => by
    have h0 : ¬ x = w := fun e => hn 0 (by omega) (by simp [e])
    rw [idxW, if_neg h0, idxW_hit (i := i) (by simpa using h) (fun j hj => by have := hn (j + 1) (by omega); simpa using this), if_neg (by omega)]
    omega
theorem idxW_bd (w : Str) (l : List Str) : -1 ≤ idxW w l ∧ idxW w l < l.length := by
  induction l with
  | nil => simp [idxW]
  | cons x l ih =>
    rw [idxW, List.length_cons]
    split
    · omega
    · split <;> omega
def cmpTry (t : Str) : Nat → Int → Option (Int × List Dev)
  | 0, _ => none
  | n + 1, op =>
    if (Lib.cut t (cmpS op)).2.2 then match tryE (op + 4) [(Lib.cut t (cmpS op)).1, (Lib.cut t (cmpS op)).2.1] t with
      | some e => some e
      | none => cmpTry t n (op + 1)
    else cmpTry t n (op + 1)
def elemRd (t : Str) : Option (Int × List Dev) :=
  if (cutAt 58 t).2.2 = true ∧ 0 ≤ idxW (cutAt 58 t).1 names17 then tryE (21 + idxW (cutAt 58 t).1 names17) (Lib.splitN (cutAt 58 t).2.1 [44] 4) t
  else if (cutAt 58 t).2.2 = true ∧ (cutAt 58 t).1.head? = some 43 then tryE 3 [(cutAt 58 t).1.drop 1, (cutAt 58 t).2.1] t
  else if (cutAt 58 t).2.2 = true ∧ (cutAt 58 t).1.head? = some 45 then tryE 4 [(cutAt 58 t).1.drop 1, (cutAt 58 t).2.1] t
  else if t.head? = some 47 then tryE 2 [t.drop 1] t
  else match cmpTry t 6 1 with
    | some e => some e
    | none => tryE 1 [t] t
theorem cmpTry_some {t : Str} : ∀ {n : Nat} {op : Int} {e : Int × List Dev}, cmpTry t n op = some e → eOk e.1 e.2 = true ∧ elemL e.1 e.2 = t
  | 0, _, _, h => by cases h
  | n + 1, op, e, h => by
    rw [cmpTry] at h
    split at h
    · split at h
      · rename_i h1
        cases h
        exact tryE_some h1
      · exact cmpTry_some h
    · exact cmpTry_some h
theorem elemRd_some {t : Str} {e : Int × List Dev} (h : elemRd t = some e) : eOk e.1 e.2 = true ∧ elemL e.1 e.2 = t := by
  unfold elemRd at h
  split at h
  · exact tryE_some h
  · split at h
    · exact tryE_some h
    · split at h
      · exact tryE_some h
      · split at h
        · exact tryE_some h
        · split at h
          · rename_i h1
            cases h
            exact cmpTry_some h1
          · exact tryE_some h
theorem cmpS_facts : ∀ op : Int, 1 ≤ op → op ≤ 6 → cmpS op ≠ [] ∧ (∀ c ∈ cmpS op, cmpCh c = true) ∧ (cmpS op).length ≤ 2 := by
  intro op h1 h2
  have : op = 1 ∨ op = 2 ∨ op = 3 ∨ op = 4 ∨ op = 5 ∨ op = 6 := by omega
  rcases this with rfl | rfl | rfl | rfl | rfl | rfl <;> decide
theorem cmpS_inj {a b : Int} (ha : 1 ≤ a ∧ a ≤ 6) (hb : 1 ≤ b ∧ b ≤ 6) (h : cmpS a = cmpS b) : a = b := by
  have h1 : a = 1 ∨ a = 2 ∨ a = 3 ∨ a = 4 ∨ a = 5 ∨ a = 6 := by omega
  have h2 : b = 1 ∨ b = 2 ∨ b = 3 ∨ b = 4 ∨ b = 5 ∨ b = 6 := by omega
  rcases h1 with rfl | rfl | rfl | rfl | rfl | rfl <;> rcases h2 with rfl | rfl | rfl | rfl | rfl | rfl <;> first | rfl | exact absurd h (by decide)
theorem dev_nocmp (d : Dev) : ∀ c ∈ devL d, cmpCh c = false := fun c hc => by
  cases h : cmpCh c
  · rfl
  · have := devL_ch d c hc
    rw [devCh_cmp h] at this; cases this
theorem filter_none {l : Str} (h : ∀ c ∈ l, cmpCh c = false) : l.filter cmpCh = [] := List.filter_eq_nil_iff.2 fun c hc => by rw [h c hc]; simp
theorem filter_all {l : Str} (h : ∀ c ∈ l, cmpCh c = true) : l.filter cmpCh = l := List.filter_eq_self.2 h
theorem rd_nocmp {w : Str} {d : Dev} (h : devRd w = some d) : ∀ c ∈ w, cmpCh c = false := by
  obtain ⟨_, rfl⟩ := devRd_some h
  exact dev_nocmp d
theorem cmp_other {a b : Str} {op op0 : Int} {q : Int} (h0 : 1 ≤ op0 ∧ op0 ≤ 6) (h1 : 1 ≤ op ∧ op ≤ 6) (hne : op ≠ op0) (ha : ∀ c ∈ a, cmpCh c = false) (hb : ∀ c ∈ b, cmpCh c = false) {x y : Str}
    (hc : Lib.cut (a ++ (cmpS op0 ++ b)) (cmpS op) = (x, y, true)) : tryE q [x, y] (a ++ (cmpS op0 ++ b)) = none := by
  have e := cut_hit hc
  cases hx : devRd x with
  | none => unfold tryE; rw [List.mapM_cons, hx]; rfl
  | some dx =>
    cases hy : devRd y with
    | none => unfold tryE; rw [List.mapM_cons, List.mapM_cons, hx, hy]; rfl
    | some dy =>
      refine absurd (cmpS_inj h1 h0 ?_) hne
      have e2 := congrArg (List.filter cmpCh) e
      rw [List.filter_append, List.filter_append, filter_none ha, filter_none hb, filter_all (cmpS_facts op0 h0.1 h0.2).2.1, List.filter_append, List.filter_append, filter_none (rd_nocmp hx), filter_none (rd_nocmp hy),
        filter_all (cmpS_facts op h1.1 h1.2).2.1] at e2
      simpa using e2.symm
theorem cmpTry_hit {xs : List Dev} {op0 : Int} (h0 : 1 ≤ op0 ∧ op0 ≤ 6) (a b : Dev) (ht : tryE (op0 + 4) [devL a, devL b] (devL a ++ (cmpS op0 ++ devL b)) = some (op0 + 4, [a, b])) :
    ∀ (n : Nat) (op : Int), 1 ≤ op → op ≤ op0 → op + n = 7 → cmpTry (devL a ++ (cmpS op0 ++ devL b)) n op = some (op0 + 4, [a, b])
  | 0, op, _, _, _ => by omega
  | n + 1, op, h1, h2, h3 => by
    rw [cmpTry]
    by_cases e : op = op0
    · subst e
      obtain ⟨f1, f2, _⟩ := cmpS_facts op h0.1 h0.2
      have hc := cut_first (b := devL b) f1 f2 (dev_nocmp a)
      rw [hc]
      simp only [if_true]
      rw [ht]
    · have ih := cmpTry_hit (xs := xs) h0 a b ht n (op + 1) (by omega) (by omega) (by omega)
      split
      · rename_i h
        obtain ⟨x, y, hxy⟩ : ∃ x y, Lib.cut (devL a ++ (cmpS op0 ++ devL b)) (cmpS op) = (x, y, true) := ⟨_, _, by rw [← h]⟩
        rw [hxy]
        simp only
        rw [cmp_other h0 ⟨by omega, by omega⟩ e (dev_nocmp a) (dev_nocmp b) hxy]
        exact ih
      · exact ih
theorem cmpTry_none {t : Str} (h : ∀ c ∈ t, cmpCh c = false) : ∀ (n : Nat) (op : Int), 1 ≤ op → op + n = 7 → cmpTry t n op = none
  | 0, _, _, _ => rfl
  | n + 1, op, h1, h2 => by
    rw [cmpTry, if_neg]
    · exact cmpTry_none h n (op + 1) (by omega) (by omega)
    · intro hc
      obtain ⟨x, y, hxy⟩ : ∃ x y, Lib.cut t (cmpS op) = (x, y, true) := ⟨_, _, by rw [← hc]⟩
      have e := cut_hit hxy
      obtain ⟨f1, f2, _⟩ := cmpS_facts op (by omega) (by omega)
      obtain ⟨c, s', ec⟩ : ∃ c s', cmpS op = c :: s' := by cases hs : cmpS op with
        | nil => exact absurd hs f1
        | cons c s' => exact ⟨c, s', rfl⟩
      have := h c (by rw [e, ec]; simp)
      rw [f2 c (by rw [ec]; simp)] at this
      cases this
theorem names17_idx : ∀ op : Int, 21 ≤ op → op ≤ 37 → idxW (coilName op) names17 = op - 21 := by
  intro op h1 h2
  have : op = 21 ∨ op = 22 ∨ op = 23 ∨ op = 24 ∨ op = 25 ∨ op = 26 ∨ op = 27 ∨ op = 28 ∨ op = 29 ∨ op = 30 ∨ op = 31 ∨ op = 32 ∨ op = 33 ∨ op = 34 ∨ op = 35 ∨ op = 36 ∨ op = 37 := by omega
  rcases this with rfl | rfl | rfl | rfl | rfl | rfl | rfl | rfl | rfl | rfl | rfl | rfl | rfl | rfl | rfl | rfl | rfl <;> decide
theorem names17_head {w : Str} (h : w.headD 0 = 43 ∨ w.headD 0 = 45) : idxW w names17 = -1 := by
  refine idxW_miss fun hm => ?_
  have hl : ∀ x ∈ names17, x.headD 0 ≠ 43 ∧ x.headD 0 ≠ 45 := by decide
  have := hl w hm
  rcases h with h | h
  · exact this.1 h
  · exact this.2 h
theorem devL_no58 (d : Dev) : (58 : UInt8) ∉ devL d := devL_not (by decide)
theorem devL_head {d : Dev} {c : UInt8} (h : devCh c = false) : (devL d).head? ≠ some c := fun e => devL_not h (List.mem_of_mem_head? e)
theorem con_shape {op : Int} {xs : List Dev} (h : conOk op xs = true) : ((op = 1 ∨ op = 2) ∧ ∃ a, xs = [a]) ∨ (3 ≤ op ∧ op ≤ 10 ∧ ∃ a b, xs = [a, b]) := by
  unfold conOk at h
  simp only [Bool.and_eq_true, decide_eq_true_eq] at h
  obtain ⟨⟨⟨h1, h2, h3⟩, _⟩, _⟩ := h
  by_cases e : op = 1 ∨ op = 2
  · left
    have : arity op = 1 := by unfold arity; rw [if_pos (by omega)]
    exact ⟨e, list_one (by omega)⟩
  · right
    have : arity op = 2 := by unfold arity; rw [if_neg (by omega), if_neg (by omega), if_pos (by omega)]
    exact ⟨by omega, h2, list_two (by omega)⟩
theorem elemRd_elem {op : Int} {xs : List Dev} (h : eOk op xs = true) : elemRd (elemL op xs) = some (op, xs) := by
  have htry := tryE_ok h
  by_cases hc : coilOk op xs = true
  · have hop : 21 ≤ op ∧ op ≤ 37 := by
      unfold coilOk at hc
      simp only [Bool.and_eq_true, decide_eq_true_eq] at hc
      exact ⟨hc.1.1.1, hc.1.1.2.1⟩
    obtain ⟨f1, f2, f3, f4, f5, f6, f7, _⟩ := coil_facts op hop.1 hop.2
    have e : elemL op xs = coilName op ++ 58 :: joinL 44 (xs.map devL) := by unfold elemL; rw [if_pos hc]
    have hcut : cutAt 58 (elemL op xs) = (coilName op, joinL 44 (xs.map devL), true) := by rw [e]; exact cutAt_hit f2
    have ha := eOk_all h
    have hne : xs.map devL ≠ [] := by
      intro e
      have : xs.length = 0 := by simpa using congrArg List.length e
      omega
    unfold elemRd
    rw [hcut]
    simp only
    rw [names17_idx op hop.1 hop.2, if_pos ⟨trivial, by omega⟩, splitN_join hne (by rw [List.length_map]; omega) fun w hw => by
      obtain ⟨d, _, rfl⟩ := List.mem_map.1 hw
      exact devL_not (by decide)]
    rw [show 21 + (op - 21) = op by omega]
    exact htry
  · have hk : conOk op xs = true := by
      unfold eOk at h
      simpa [hc] using h
    have e : elemL op xs = conT op xs := by unfold elemL; rw [if_neg hc, if_pos hk]
    rcases con_shape hk with ⟨ho, a, rfl⟩ | ⟨h3, h10, a, b, rfl⟩
    · rcases ho with rfl | rfl
      · have e2 : elemL 1 [a] = devL a := by rw [e]; rfl
        rw [e2] at htry ⊢
        unfold elemRd
        rw [cutAt_miss (devL_no58 a)]
        simp only [Bool.false_eq_true, false_and, if_false]
        rw [if_neg (devL_head (by decide)), cmpTry_none (dev_nocmp a) 6 1 (by omega) (by omega)]
        exact htry
      · have e2 : elemL 2 [a] = 47 :: devL a := by rw [e]; rfl
        rw [e2] at htry ⊢
        have h58 : (58 : UInt8) ∉ (47 :: devL a) := by
          intro hm
          rcases List.mem_cons.1 hm with hm | hm
          · exact absurd hm (by decide)
          · exact devL_no58 a hm
        unfold elemRd
        rw [cutAt_miss h58]
        simp only [Bool.false_eq_true, false_and, if_false, List.head?_cons, if_true, List.drop_one, List.tail_cons]
        exact htry
    · by_cases o3 : op = 3
      · subst o3
        have e2 : elemL 3 [a, b] = 43 :: (devL a ++ 58 :: devL b) := by rw [e]; rfl
        rw [e2] at htry ⊢
        have hcut : cutAt 58 (43 :: (devL a ++ 58 :: devL b)) = (43 :: devL a, devL b, true) := by
          rw [← List.cons_append]
          refine cutAt_hit fun hm => ?_
          rcases List.mem_cons.1 hm with hm | hm
          · exact absurd hm (by decide)
          · exact devL_no58 a hm
        unfold elemRd
        rw [hcut]
        simp only [true_and]
        rw [names17_head (Or.inl rfl), if_neg (by omega)]
        simp only [List.head?_cons, if_true, List.drop_one, List.tail_cons]
        exact htry
      · by_cases o4 : op = 4
        · subst o4
          have e2 : elemL 4 [a, b] = 45 :: (devL a ++ 58 :: devL b) := by rw [e]; rfl
          rw [e2] at htry ⊢
          have hcut : cutAt 58 (45 :: (devL a ++ 58 :: devL b)) = (45 :: devL a, devL b, true) := by
            rw [← List.cons_append]
            refine cutAt_hit fun hm => ?_
            rcases List.mem_cons.1 hm with hm | hm
            · exact absurd hm (by decide)
            · exact devL_no58 a hm
          unfold elemRd
          rw [hcut]
          simp only [true_and]
          rw [names17_head (Or.inr rfl), if_neg (by omega)]
          simp only [List.head?_cons, Option.some.injEq, if_true, List.drop_one, List.tail_cons]
          rw [if_neg (by decide)]
          exact htry
        · have e2 : elemL op [a, b] = devL a ++ (cmpS (op - 4) ++ devL b) := by
            rw [e]; unfold conT
            rw [if_neg (by omega), if_neg (by omega), if_neg o3, if_neg o4]; rfl
          obtain ⟨f1, f2, _⟩ := cmpS_facts (op - 4) (by omega) (by omega)
          rw [e2] at htry ⊢
          have h58 : (58 : UInt8) ∉ (devL a ++ (cmpS (op - 4) ++ devL b)) := by
            intro hm
            rcases List.mem_append.1 hm with hm | hm
            · exact devL_no58 a hm
            · rcases List.mem_append.1 hm with hm | hm
              · exact absurd (f2 58 hm) (by decide)
              · exact devL_no58 b hm
          have hne : devL a ≠ [] := devL_ne.2 ((eOk_all h).1 a (by simp))
          have h47 : (devL a ++ (cmpS (op - 4) ++ devL b)).head? ≠ some 47 := by
            rw [List.head?_append]
            cases hd : (devL a).head? with
            | none => exact absurd (List.head?_eq_none_iff.1 hd) hne
            | some c =>
              rw [Option.some_or]
              intro he
              cases he
              exact devL_head (d := a) (c := 47) (by decide) hd
          unfold elemRd
          rw [cutAt_miss h58]
          simp only [Bool.false_eq_true, false_and, if_false]
          rw [if_neg h47]
          have ho : op - 4 + 4 = op := by omega
          have := cmpTry_hit (xs := [a, b]) (op0 := op - 4) ⟨by omega, by omega⟩ a b (by rw [ho]; exact htry) 6 1 (by omega) (by omega) (by omega)
          rw [this, ho]
theorem elemRd_none {t : Str} (h : elemRd t = none) {op : Int} {xs : List Dev} (hk : eOk op xs = true) : elemL op xs ≠ t := fun e => by
  rw [← e, elemRd_elem hk] at h; cases h
theorem elemRd_of {t : Str} {op : Int} {xs : List Dev} (hg : ∀ o ys, eOk o ys = true → elemL o ys = t → op = o ∧ xs = ys) : (if t ≠ [] ∧ elemL op xs = t then some (op, xs) else none) = elemRd t := by
  cases h : elemRd t with
  | some e =>
    obtain ⟨h1, h2⟩ := elemRd_some h
    obtain ⟨rfl, rfl⟩ := hg e.1 e.2 h1 h2
    rw [if_pos ⟨by rw [← h2]; exact elemL_ne.2 h1, h2⟩]
  | none =>
    rw [if_neg]
    rintro ⟨h1, h2⟩
    exact elemRd_none h (op := op) (xs := xs) (elemL_ne.1 (by rw [h2]; exact h1)) h2
end Go.Sx
namespace Go.Sx
open Go

def cutL (c : UInt8) : Str → List Str
  | [] => [[]]
  | x :: s => if x = c then [] :: cutL c s else match cutL c s with
    | [] => [[x]]
    | w :: r => (x :: w) :: r
theorem cutL_ne (c : UInt8) : ∀ s, cutL c s ≠ []
  | [] => by simp [cutL]
  | x :: s => by
    unfold cutL
    split
    · simp
    · split <;> simp
theorem cutL_one {c : UInt8} : ∀ {w : Str}, c ∉ w → cutL c w = [w]
  | [], _ => rfl
  | x :: s, h => by
    simp only [List.mem_cons, not_or] at h
    unfold cutL
    rw [if_neg (fun e => h.1 e.symm), cutL_one h.2]
theorem cutL_app {c : UInt8} {s : Str} : ∀ {w : Str}, c ∉ w → cutL c (w ++ c :: s) = w :: cutL c s
  | [], _ => by
    show (if c = c then _ else _) = _
    rw [if_pos rfl]
  | x :: w, h => by
    simp only [List.mem_cons, not_or] at h
    show (if x = c then _ else _) = _
    rw [if_neg (fun e => h.1 e.symm)]
    show (match cutL c (w ++ c :: s) with | [] => [[x]] | w :: r => (x :: w) :: r) = _
    rw [cutL_app h.2]
theorem cutL_join {c : UInt8} : ∀ {ws : List Str}, ws ≠ [] → (∀ w ∈ ws, c ∉ w) → cutL c (joinL c ws) = ws
  | [], h, _ => absurd rfl h
  | [w], _, h => cutL_one (h w (by simp))
  | w :: x :: r, _, h => by
    rw [joinL_cons c w (by simp), cutL_app (h w (by simp)), cutL_join (by simp) fun y hy => h y (by simp [hy])]
theorem cutL_lines {c : UInt8} : ∀ {ws : List Str}, (∀ w ∈ ws, c ∉ w) → cutL c ((ws.map (· ++ [c])).flatten) = ws ++ [[]]
  | [], _ => rfl
  | w :: r, h => by
    rw [List.map_cons, List.flatten_cons]
    simp only [List.append_assoc, List.singleton_append]
    rw [cutL_app (h w (by simp)), cutL_lines fun y hy => h y (by simp [hy])]
    rfl
def wordsL (s : Str) : List Str := (cutL 32 s).filter (fun w => decide (w ≠ []))
def words11' : List Str := [[108, 100], [97, 110, 100], [111, 114], [97, 110, 98], [111, 114, 98], [105, 110, 118], [109, 112, 115], [109, 114, 100], [109, 112, 112], [99, 111, 105, 108], [101, 110, 100]]
def codeRd (w : Str) : Int := idxW w words11' + 1
def lineRd (ws : List Str) : Option Ins := match ws with
  | [w] => if insOk ⟨codeRd w, 0, []⟩ then some ⟨codeRd w, 0, []⟩ else none
  | [w, t] => match elemRd t with
    | none => none
    | some e => if insOk ⟨codeRd w, e.1, e.2⟩ then some ⟨codeRd w, e.1, e.2⟩ else none
  | _ => none
def listGo : List Str → Nat → List Ins → List Ins × Int × Int
  | [], _, out => (out, 0, 0)
  | l :: r, k, out => if wordsL l = [] then listGo r (k + 1) out else match lineRd (wordsL l) with
    | none => ([], (k : Int) + 1, 2)
    | some x => if out.length = 1000 then ([], (k : Int) + 1, 3) else listGo r (k + 1) (out ++ [x])
def listRd (t : Str) : List Ins × Int × Int := if 50000 < t.length then ([], 0, 1) else listGo (cutL 10 t) 0 []

theorem code_word {c : Int} (h : 1 ≤ c ∧ c ≤ 11) : codeRd (wordOf c) = c ∧ wordOf c ≠ [] ∧ (32 : UInt8) ∉ wordOf c ∧ (10 : UInt8) ∉ wordOf c := by
  have : c = 1 ∨ c = 2 ∨ c = 3 ∨ c = 4 ∨ c = 5 ∨ c = 6 ∨ c = 7 ∨ c = 8 ∨ c = 9 ∨ c = 10 ∨ c = 11 := by omega
  rcases this with rfl | rfl | rfl | rfl | rfl | rfl | rfl | rfl | rfl | rfl | rfl <;> decide
theorem coil_not {op : Int} {c : UInt8} (hc : c = 32 ∨ c = 10) : c ∉ coilName op := by
  by_cases h : 21 ≤ op ∧ op ≤ 37
  · have : op = 21 ∨ op = 22 ∨ op = 23 ∨ op = 24 ∨ op = 25 ∨ op = 26 ∨ op = 27 ∨ op = 28 ∨ op = 29 ∨ op = 30 ∨ op = 31 ∨ op = 32 ∨ op = 33 ∨ op = 34 ∨ op = 35 ∨ op = 36 ∨ op = 37 := by omega
    rcases this with rfl | rfl | rfl | rfl | rfl | rfl | rfl | rfl | rfl | rfl | rfl | rfl | rfl | rfl | rfl | rfl | rfl <;> rcases hc with rfl | rfl <;> decide
  · have e : coilName op = [] := by
      unfold coilName
      (repeat' rw [if_neg (by omega)])
    rw [e]; simp
theorem cmp_not {op : Int} {c : UInt8} (hc : c = 32 ∨ c = 10) : c ∉ cmpS op := by
  by_cases h : 1 ≤ op ∧ op ≤ 6
  · have : op = 1 ∨ op = 2 ∨ op = 3 ∨ op = 4 ∨ op = 5 ∨ op = 6 := by omega
    rcases this with rfl | rfl | rfl | rfl | rfl | rfl <;> rcases hc with rfl | rfl <;> decide
  · have e : cmpS op = [] := by
      unfold cmpS
      (repeat' rw [if_neg (by omega)])
    rw [e]; simp
theorem joinL_mem {c : UInt8} : ∀ {ws : List Str} {x : UInt8}, x ∈ joinL c ws → x = c ∨ ∃ w ∈ ws, x ∈ w
  | [], x, h => by simp [joinL] at h
  | [w], x, h => Or.inr ⟨w, by simp, h⟩
  | w :: y :: r, x, h => by
    rw [joinL_cons c w (by simp)] at h
    rcases List.mem_append.1 h with h | h
    · exact Or.inr ⟨w, by simp, h⟩
    · rcases List.mem_cons.1 h with h | h
      · exact Or.inl h
      · rcases joinL_mem h with h | ⟨z, hz, hx⟩
        · exact Or.inl h
        · exact Or.inr ⟨z, by simp at hz ⊢; exact Or.inr hz, hx⟩
theorem elem_not {op : Int} {xs : List Dev} {c : UInt8} (hc : c = 32 ∨ c = 10) : c ∉ elemL op xs := by
  have hd : ∀ d, c ∉ devL d := fun d => devL_not (by rcases hc with rfl | rfl <;> decide)
  have h0 : c ≠ 58 ∧ c ≠ 44 ∧ c ≠ 47 ∧ c ≠ 43 ∧ c ≠ 45 := by rcases hc with rfl | rfl <;> decide
  obtain ⟨a1, a2, a3, a4, a5⟩ := h0
  unfold elemL
  split
  · simp only [List.mem_append, List.mem_cons, not_or]
    refine ⟨coil_not hc, a1, fun h => ?_⟩
    rcases joinL_mem h with h | ⟨w, hw, hx⟩
    · exact a2 h
    · obtain ⟨d, _, rfl⟩ := List.mem_map.1 hw
      exact hd d hx
  · split
    · unfold conT
      (repeat' split) <;> simp [hd, a1, a2, a3, a4, a5, cmp_not hc]
    · simp
theorem ins_code {x : Ins} (h : insOk x = true) : 1 ≤ x.code ∧ x.code ≤ 11 := by
  unfold insOk at h
  split at h
  · omega
  · split at h
    · omega
    · have := of_decide_eq_true h
      omega
theorem words_line {x : Ins} (h : insOk x = true) : wordsL (lineL x) = (if (1 ≤ x.code ∧ x.code ≤ 3) ∨ x.code = 10 then [wordOf x.code, elemL x.op x.args] else [wordOf x.code]) := by
  obtain ⟨_, c2, c3, _⟩ := code_word (ins_code h)
  unfold lineL
  rw [if_pos h]
  by_cases hq : (1 ≤ x.code ∧ x.code ≤ 3) ∨ x.code = 10
  · rw [if_pos hq, if_pos hq]
    have hne : elemL x.op x.args ≠ [] := by
      rw [elemL_ne]
      unfold eOk
      unfold insOk at h
      split at h
      · rw [h]; simp
      · split at h
        · rw [h]; simp
        · omega
    unfold wordsL
    rw [cutL_app c3, cutL_one (elem_not (Or.inl rfl))]
    simp [c2, hne]
  · rw [if_neg hq, if_neg hq]
    unfold wordsL
    rw [cutL_one c3]
    simp [c2]
theorem lineRd_line {x : Ins} (h : insOk x = true) : lineRd (wordsL (lineL x)) = some x := by
  obtain ⟨c1, _, _, _⟩ := code_word (ins_code h)
  rw [words_line h]
  have h' := h
  obtain ⟨code, op, args⟩ := x
  simp only at c1 ⊢
  by_cases hq : (1 ≤ code ∧ code ≤ 3) ∨ code = 10
  · rw [if_pos hq]
    have he : eOk op args = true := by
      unfold eOk
      unfold insOk at h
      simp only at h
      split at h
      · rw [h]; simp
      · split at h
        · rw [h]; simp
        · omega
    show (match elemRd (elemL op args) with | none => none | some e => if insOk (⟨codeRd (wordOf code), e.1, e.2⟩ : Ins) then some (⟨codeRd (wordOf code), e.1, e.2⟩ : Ins) else none) = _
    rw [elemRd_elem he, c1]
    simp only
    rw [if_pos h']
  · rw [if_neg hq]
    have hz : op = 0 ∧ args = [] := by
      unfold insOk at h
      simp only at h
      rw [if_neg (by omega), if_neg (by omega)] at h
      have := of_decide_eq_true h
      exact ⟨this.2.2.1, List.eq_nil_of_length_eq_zero this.2.2.2⟩
    obtain ⟨rfl, rfl⟩ := hz
    show (if insOk (⟨codeRd (wordOf code), 0, []⟩ : Ins) then some (⟨codeRd (wordOf code), 0, []⟩ : Ins) else none) = _
    rw [c1, if_pos h']
theorem line_not10 (x : Ins) : (10 : UInt8) ∉ lineL x := by
  unfold lineL
  split
  · rename_i h
    obtain ⟨_, _, _, c4⟩ := code_word (ins_code h)
    split
    · simp only [List.mem_append, List.mem_cons, not_or]
      exact ⟨c4, by decide, elem_not (Or.inr rfl)⟩
    · exact c4
  · simp
theorem listGo_lines : ∀ {xs : List Ins} {k : Nat} {out : List Ins}, (∀ x ∈ xs, insOk x = true) → out.length + xs.length ≤ 1000 → listGo (xs.map lineL ++ [[]]) k out = (out ++ xs, 0, 0)
  | [], k, out, _, _ => by
    show (if wordsL [] = [] then _ else _) = _
    rw [if_pos (by decide)]
    simp [listGo]
  | x :: r, k, out, h, hl => by
    have hx := h x (by simp)
    simp only [List.length_cons] at hl
    have hw : wordsL (lineL x) ≠ [] := by rw [words_line hx]; split <;> simp
    show (if wordsL (lineL x) = [] then _ else match lineRd (wordsL (lineL x)) with | none => _ | some x => _) = _
    rw [if_neg hw, lineRd_line hx]
    simp only
    rw [if_neg (by omega)]
    show listGo (r.map lineL ++ [[]]) (k + 1) (out ++ [x]) = _
    rw [listGo_lines (fun y hy => h y (by simp [hy])) (by simp; omega)]
    simp
theorem listRd_list {xs : List Ins} (h : ∀ x ∈ xs, insOk x = true) (hl : xs.length ≤ 1000) (ht : (listL xs).length ≤ 50000) : listRd (listL xs) = (xs, 0, 0) := by
  unfold listRd
  rw [if_neg (by omega)]
  have e : listL xs = ((xs.map lineL).map (· ++ [10])).flatten := by
    unfold listL linesL
    rw [if_pos ⟨hl, List.all_eq_true.2 h⟩, List.map_map]
    rfl
  rw [e, cutL_lines (by
    intro w hw
    obtain ⟨x, _, rfl⟩ := List.mem_map.1 hw
    exact line_not10 x), listGo_lines h (by simpa using hl)]
  rfl
theorem lineRd_ok {ws : List Str} {x : Ins} (h : lineRd ws = some x) : insOk x = true := by
  unfold lineRd at h
  split at h
  · split at h
    · cases h; assumption
    · cases h
  · split at h
    · cases h
    · split at h
      · cases h; assumption
      · cases h
  · cases h
theorem listGo_ok : ∀ {ls : List Str} {k : Nat} {out : List Ins}, (∀ x ∈ out, insOk x = true) → out.length ≤ 1000 →
    ((listGo ls k out).2.2 = 0 ∧ (listGo ls k out).2.1 = 0 ∧ (∀ x ∈ (listGo ls k out).1, insOk x = true) ∧ (listGo ls k out).1.length ≤ 1000) ∨
    (((listGo ls k out).2.2 = 2 ∨ (listGo ls k out).2.2 = 3) ∧ (listGo ls k out).1 = [] ∧ 1 ≤ (listGo ls k out).2.1 ∧ (listGo ls k out).2.1 ≤ k + ls.length)
  | [], k, out, h, hl => Or.inl ⟨rfl, rfl, h, hl⟩
  | l :: r, k, out, h, hl => by
    unfold listGo
    by_cases hw : wordsL l = []
    · rw [if_pos hw]
      rcases listGo_ok (ls := r) (k := k + 1) h hl with g | ⟨g1, g2, g3, g4⟩
      · exact Or.inl g
      · exact Or.inr ⟨g1, g2, g3, by simp only [List.length_cons]; omega⟩
    · rw [if_neg hw]
      cases hx : lineRd (wordsL l) with
      | none => exact Or.inr ⟨Or.inl rfl, rfl, by simp only; omega, by simp only [List.length_cons]; omega⟩
      | some x =>
        simp only
        by_cases hk : out.length = 1000
        · rw [if_pos hk]
          exact Or.inr ⟨Or.inr rfl, rfl, by simp only; omega, by simp only [List.length_cons]; omega⟩
        · rw [if_neg hk]
          rcases listGo_ok (ls := r) (k := k + 1) (out := out ++ [x]) (fun y hy => by
            rcases List.mem_append.1 hy with hy | hy
            · exact h y hy
            · rw [List.mem_singleton] at hy; subst hy; exact lineRd_ok hx) (by simp; omega) with g | ⟨g1, g2, g3, g4⟩
          · exact Or.inl g
          · exact Or.inr ⟨g1, g2, g3, by simp only [List.length_cons]; omega⟩
theorem cutL_count (c : UInt8) : ∀ s : Str, (cutL c s).length = (s.filter fun x => x == c).length + 1
  | [] => rfl
  | x :: s => by
    have ih := cutL_count c s
    unfold cutL
    by_cases h : x = c
    · rw [if_pos h, List.length_cons, ih, List.filter_cons, if_pos (by simp [h])]
      simp
    · rw [if_neg h, List.filter_cons, if_neg (by simp [h])]
      cases hc : cutL c s with
      | nil => exact absurd hc (cutL_ne c s)
      | cons w r => rw [hc] at ih; simpa using ih
theorem devs_join (xs : List Dev) : (joinL 44 (xs.map devL)).length ≤ xs.length * 12 := by
  have h1 := joinL_len 44 (xs.map devL)
  have h2 := flat_len (ws := (xs.map devL).map (· ++ [44])) (b := 12) (by
    intro x hx
    simp only [List.map_map, List.mem_map] at hx
    obtain ⟨d, _, rfl⟩ := hx
    have := devL_len d
    simp; omega)
  refine Nat.le_trans h1 (Nat.le_trans h2 ?_)
  simp only [List.length_map]
  omega
theorem cmp_short (op : Int) : (cmpS op).length ≤ 2 := by
  unfold cmpS
  (repeat' split) <;> decide
theorem elem_short (op : Int) (xs : List Dev) : (elemL op xs).length ≤ 40 := by
  unfold elemL
  split
  · rename_i hc
    have h2 := eOk_all (op := op) (xs := xs) (by unfold eOk; rw [hc]; rfl)
    have hop : 21 ≤ op ∧ op ≤ 37 := by
      unfold coilOk at hc
      simp only [Bool.and_eq_true, decide_eq_true_eq] at hc
      omega
    obtain ⟨_, _, _, _, f5, f6, f7, f8⟩ := coil_facts op hop.1 hop.2
    have hj := devs_join xs
    have hq := h2.2
    simp only [List.length_cons, List.length_append]
    by_cases h3 : 3 ≤ arity op
    · have := f8 h3
      omega
    · omega
  · split
    · have l0 := devL_len (xD xs 0)
      have l1 := devL_len (xD xs 1)
      have l2 := cmp_short (op - 4)
      unfold conT
      (repeat' split) <;> (try simp only [List.length_cons, List.length_append]) <;> omega
    · simp
theorem line_short (x : Ins) : (lineL x).length ≤ 45 := by
  unfold lineL
  split
  · rename_i h
    have hw : (wordOf x.code).length ≤ 4 := by
      have h1 := ins_code h
      have : x.code = 1 ∨ x.code = 2 ∨ x.code = 3 ∨ x.code = 4 ∨ x.code = 5 ∨ x.code = 6 ∨ x.code = 7 ∨ x.code = 8 ∨ x.code = 9 ∨ x.code = 10 ∨ x.code = 11 := by omega
      rcases this with e | e | e | e | e | e | e | e | e | e | e <;> rw [e] <;> decide
    have he := elem_short x.op x.args
    split
    · simp only [List.length_cons, List.length_append]; omega
    · omega
  · simp
theorem list_short (xs : List Ins) : (listL xs).length ≤ 50000 := by
  unfold listL
  split
  · rename_i h
    have h2 := flat_len (ws := xs.map fun x => lineL x ++ [10]) (b := 46) (by
      intro y hy
      obtain ⟨x, _, rfl⟩ := List.mem_map.1 hy
      have := line_short x
      simp; omega)
    simp only [List.length_map] at h2
    have h3 := h.1
    show (linesL xs).length ≤ 50000
    unfold linesL
    refine Nat.le_trans h2 ?_
    omega
  · simp
end Go.Sx
namespace Go.Sx
open Go

theorem txt_get (l : Str) (i : Nat) : (txt l)[i]? = l[i]? := by
  by_cases h : i < l.length
  · have h' : i < (txt l).size := h
    rw [getElem?_pos (txt l) i h', List.getElem?_eq_getElem h]; rfl
  · have h' : ¬ i < (txt l).size := h
    rw [getElem?_neg (txt l) i h', List.getElem?_eq_none (by omega)]
def argsS (t : Str) (c : UInt8) : List Dev := ((cutL c t).take 4).map fun w => (devRd w).getD ⟨0, 0, 0⟩
def Hit (t : Str) (op : Int) (xs : List Dev) : Prop := ∀ o ys, eOk o ys = true → elemL o ys = t → op = o ∧ xs = ys
theorem argsS_join {xs : List Dev} {c : UInt8} (hc : devCh c = false) (h0 : xs ≠ []) (h4 : xs.length ≤ 4) (h : ∀ d ∈ xs, dOk d = true) : argsS (joinL c (xs.map devL)) c = xs := by
  unfold argsS
  rw [cutL_join (by simpa using h0) (fun w hw => by obtain ⟨d, _, rfl⟩ := List.mem_map.1 hw; exact devL_not hc), List.take_of_length_le (by simpa using h4), List.map_map]
  conv => rhs; rw [← List.map_id xs]
  exact List.map_congr_left fun d hd => by simp [devRd_dev (h d hd)]
theorem argsS_one {a : Dev} {c : UInt8} (hc : devCh c = false) (h : dOk a = true) : argsS (devL a) c = [a] := argsS_join (xs := [a]) hc (by simp) (by simp) (by simpa using h)
theorem argsS_two {a b : Dev} {c : UInt8} (hc : devCh c = false) (h : dOk a = true) (h2 : dOk b = true) : argsS (devL a ++ c :: devL b) c = [a, b] := argsS_join (xs := [a, b]) hc (by simp) (by simp) (by simp [h, h2])
theorem bit_head {a : Dev} (h : isBit a = true) : (devL a).head? ≠ some 45 := by
  unfold isBit at h
  simp only [Bool.and_eq_true, decide_eq_true_eq] at h
  rw [devL_ok h.2]
  have e : devT a = letterU a.k :: decZ a.n := by
    unfold devT
    rw [if_neg (by omega), if_neg (by omega), if_neg (by omega)]
  rw [e]
  obtain ⟨_, _, _, _, f, _⟩ := letter_facts a.k (by omega) (by omega)
  simpa using f
inductive Shape (o : Int) (ys : List Dev) : Prop where
  | coil (h : 21 ≤ o ∧ o ≤ 37) (e : elemL o ys = coilName o ++ 58 :: joinL 44 (ys.map devL)) (h0 : ys ≠ []) (h4 : ys.length ≤ 4) (hd : ∀ d ∈ ys, dOk d = true)
  | plain (a : Dev) (h : o = 1) (e : ys = [a]) (ha : dOk a = true) (ht : elemL o ys = devL a) (hh : (devL a).head? ≠ some 45)
  | shut (a : Dev) (h : o = 2) (e : ys = [a]) (ha : dOk a = true) (ht : elemL o ys = 47 :: devL a)
  | up (a b : Dev) (h : o = 3) (e : ys = [a, b]) (ha : dOk a = true) (hb : dOk b = true) (ht : elemL o ys = 43 :: (devL a ++ 58 :: devL b))
  | down (a b : Dev) (h : o = 4) (e : ys = [a, b]) (ha : dOk a = true) (hb : dOk b = true) (ht : elemL o ys = 45 :: (devL a ++ 58 :: devL b))
  | cmp (a b : Dev) (h : 5 ≤ o ∧ o ≤ 10) (e : ys = [a, b]) (ha : dOk a = true) (hb : dOk b = true) (ht : elemL o ys = devL a ++ (cmpS (o - 4) ++ devL b))
theorem shape_of {o : Int} {ys : List Dev} (h : eOk o ys = true) : Shape o ys := by
  have hall := eOk_all h
  by_cases hc : coilOk o ys = true
  · have hop : 21 ≤ o ∧ o ≤ 37 := by
      unfold coilOk at hc
      simp only [Bool.and_eq_true, decide_eq_true_eq] at hc
      exact ⟨hc.1.1.1, hc.1.1.2.1⟩
    obtain ⟨_, _, _, _, _, f6, f7, _⟩ := coil_facts o hop.1 hop.2
    refine .coil hop (by unfold elemL; rw [if_pos hc]) ?_ (by omega) hall.1
    rintro rfl
    simp at hall; omega
  · have hk : conOk o ys = true := by
      unfold eOk at h
      simpa [hc] using h
    have e : elemL o ys = conT o ys := by unfold elemL; rw [if_neg hc, if_pos hk]
    rcases con_shape hk with ⟨ho, a, rfl⟩ | ⟨h3, h10, a, b, rfl⟩
    · have ha : dOk a = true := hall.1 a (by simp)
      rcases ho with rfl | rfl
      · refine .plain a rfl rfl ha (by rw [e]; rfl) (bit_head ?_)
        unfold conOk at hk
        simp only [Bool.and_eq_true] at hk
        exact hk.2
      · exact .shut a rfl rfl ha (by rw [e]; rfl)
    · have ha : dOk a = true := hall.1 a (by simp)
      have hb : dOk b = true := hall.1 b (by simp)
      by_cases o3 : o = 3
      · subst o3; exact .up a b rfl rfl ha hb (by rw [e]; rfl)
      by_cases o4 : o = 4
      · subst o4; exact .down a b rfl rfl ha hb (by rw [e]; rfl)
      refine .cmp a b ⟨by omega, h10⟩ rfl ha hb ?_
      rw [e]; unfold conT
      rw [if_neg (by omega), if_neg (by omega), if_neg o3, if_neg o4]; rfl
theorem coilName_nocmp {o : Int} (h : 21 ≤ o ∧ o ≤ 37) : (∀ c ∈ coilName o, cmpCh c = false) ∧ (coilName o).head? ≠ some 47 ∧ (coilName o).head? ≠ some 43 ∧ (coilName o).head? ≠ some 45 ∧ coilName o ≠ [] ∧ (58 : UInt8) ∉ coilName o := by
  have : o = 21 ∨ o = 22 ∨ o = 23 ∨ o = 24 ∨ o = 25 ∨ o = 26 ∨ o = 27 ∨ o = 28 ∨ o = 29 ∨ o = 30 ∨ o = 31 ∨ o = 32 ∨ o = 33 ∨ o = 34 ∨ o = 35 ∨ o = 36 ∨ o = 37 := by omega
  rcases this with rfl | rfl | rfl | rfl | rfl | rfl | rfl | rfl | rfl | rfl | rfl | rfl | rfl | rfl | rfl | rfl | rfl <;> decide
theorem nocmp_shape {o : Int} {ys : List Dev} (h : eOk o ys = true) (hn : ¬ (5 ≤ o ∧ o ≤ 10)) : ∀ c ∈ elemL o ys, cmpCh c = false := by
  intro c hc
  cases shape_of h with
  | coil hh e h0 h4 hd =>
    rw [e] at hc
    rcases List.mem_append.1 hc with hc | hc
    · exact (coilName_nocmp hh).1 c hc
    · rcases List.mem_cons.1 hc with rfl | hc
      · decide
      · rcases joinL_mem hc with rfl | ⟨w, hw, hx⟩
        · decide
        · obtain ⟨d, _, rfl⟩ := List.mem_map.1 hw
          exact dev_nocmp d c hx
  | plain a h1 e ha ht hh => rw [ht] at hc; exact dev_nocmp a c hc
  | shut a h1 e ha ht =>
    rw [ht] at hc
    rcases List.mem_cons.1 hc with rfl | hc
    · decide
    · exact dev_nocmp a c hc
  | up a b h1 e ha hb ht =>
    rw [ht] at hc
    rcases List.mem_cons.1 hc with rfl | hc
    · decide
    · rcases List.mem_append.1 hc with hc | hc
      · exact dev_nocmp a c hc
      · rcases List.mem_cons.1 hc with rfl | hc
        · decide
        · exact dev_nocmp b c hc
  | down a b h1 e ha hb ht =>
    rw [ht] at hc
    rcases List.mem_cons.1 hc with rfl | hc
    · decide
    · rcases List.mem_append.1 hc with hc | hc
      · exact dev_nocmp a c hc
      · rcases List.mem_cons.1 hc with rfl | hc
        · decide
        · exact dev_nocmp b c hc
  | cmp a b h1 e ha hb ht => exact absurd h1 hn
def cmpN (t : Str) (i : Nat) : Nat := match t[i + 1]? with
  | some c => if c = 61 ∨ c = 62 then 2 else 1
  | none => 1
theorem cmp_first {o : Int} {a b : Dev} (h : 5 ≤ o ∧ o ≤ 10) {i : Nat} {c : UInt8} (h1 : ∀ j x, j < i → (devL a ++ (cmpS (o - 4) ++ devL b))[j]? = some x → cmpCh x = false) (h2 : (devL a ++ (cmpS (o - 4) ++ devL b))[i]? = some c) (h3 : cmpCh c = true) :
    i = (devL a).length ∧ cmpN (devL a ++ (cmpS (o - 4) ++ devL b)) i = (cmpS (o - 4)).length := by
  obtain ⟨f1, f2, f3⟩ := cmpS_facts (o - 4) (by omega) (by omega)
  have hge : (devL a).length ≤ i := by
    rcases Nat.lt_or_ge i (devL a).length with hl | hl
    · rw [List.getElem?_append_left hl] at h2
      rw [dev_nocmp a c (List.mem_of_getElem? h2)] at h3; cases h3
    · exact hl
  obtain ⟨x, r, hx⟩ : ∃ x r, cmpS (o - 4) = x :: r := by
    cases hq : cmpS (o - 4) with
    | nil => exact absurd hq f1
    | cons x r => exact ⟨x, r, rfl⟩
  have hle : i ≤ (devL a).length := by
    rcases Nat.lt_or_ge (devL a).length i with hl | hl
    · have := h1 (devL a).length x hl (by rw [List.getElem?_append_right (by omega), hx]; simp)
      rw [f2 x (by rw [hx]; simp)] at this; cases this
    · exact hl
  have hi : i = (devL a).length := by omega
  subst hi
  refine ⟨rfl, ?_⟩
  unfold cmpN
  rw [List.getElem?_append_right (by omega), show (devL a).length + 1 - (devL a).length = 1 by omega]
  have hb : ∀ y, (devL b : List UInt8)[0]? = some y → ¬ (y = 61 ∨ y = 62) := fun y hy hh => by
    have := dev_nocmp b y (List.mem_of_getElem? hy)
    rcases hh with rfl | rfl <;> cases this
  have hb0 : (match (devL b : List UInt8)[0]? with | some (c : UInt8) => if c = 61 ∨ c = 62 then 2 else 1 | none => 1) = 1 := by
    cases hq : (devL b : List UInt8)[0]? with
    | none => rfl
    | some y => simp only; rw [if_neg (hb y hq)]
  have : o = 5 ∨ o = 6 ∨ o = 7 ∨ o = 8 ∨ o = 9 ∨ o = 10 := by omega
  rcases this with rfl | rfl | rfl | rfl | rfl | rfl
  · exact hb0
  · rfl
  · exact hb0
  · rfl
  · rfl
  · exact hb0
theorem hit_cmp {t : Str} {op : Int} {i : Nat} {c : UInt8} (hop : 5 ≤ op ∧ op ≤ 10) (h1 : ∀ j x, j < i → t[j]? = some x → cmpCh x = false) (h2 : t[i]? = some c) (h3 : cmpCh c = true)
    (h4 : (t.take (i + cmpN t i)).drop i = cmpS (op - 4)) : Hit t op (argsS (t.take i) 32 ++ argsS (t.drop (i + cmpN t i)) 32) := by
  intro o ys hk e
  subst e
  by_cases ho : 5 ≤ o ∧ o ≤ 10
  · cases shape_of hk with
    | coil hh => omega
    | plain a h => omega
    | shut a h => omega
    | up a b h => omega
    | down a b h => omega
    | cmp a b _ e ha hb ht =>
      subst e
      rw [ht] at h1 h2 h4 ⊢
      obtain ⟨rfl, hn⟩ := cmp_first ho h1 h2 h3
      rw [hn] at h4 ⊢
      have e1 : ((devL a ++ (cmpS (o - 4) ++ devL b)).take ((devL a).length + (cmpS (o - 4)).length)).drop (devL a).length = cmpS (o - 4) := by
        rw [List.drop_take, List.drop_left, Nat.add_sub_cancel_left, List.take_left]
      rw [e1] at h4
      have := cmpS_inj (a := o - 4) (b := op - 4) (by omega) (by omega) h4
      obtain rfl : op = o := by omega
      refine ⟨rfl, ?_⟩
      rw [List.take_left, ← List.append_assoc, List.drop_left' (by simp), argsS_one (by decide) ha, argsS_one (by decide) hb]
      rfl
  · have := nocmp_shape hk ho c (List.mem_of_getElem? h2)
    rw [this] at h3; cases h3
theorem hit_none {t : Str} {i : Nat} {c : UInt8} (h1 : ∀ j x, j < i → t[j]? = some x → cmpCh x = false) (h2 : t[i]? = some c) (h3 : cmpCh c = true)
    (h4 : ∀ op : Int, 5 ≤ op → op ≤ 10 → (t.take (i + cmpN t i)).drop i ≠ cmpS (op - 4)) {q : Int} {zs : List Dev} : Hit t q zs := by
  intro o ys hk e
  subst e
  by_cases ho : 5 ≤ o ∧ o ≤ 10
  · cases shape_of hk with
    | coil hh => omega
    | plain a h => omega
    | shut a h => omega
    | up a b h => omega
    | down a b h => omega
    | cmp a b _ e ha hb ht =>
      subst e
      rw [ht] at h1 h2
      have h4' := h4 o ho.1 ho.2
      rw [ht] at h4'
      obtain ⟨rfl, hn⟩ := cmp_first ho h1 h2 h3
      rw [hn] at h4'
      exact absurd (by rw [List.drop_take, List.drop_left, Nat.add_sub_cancel_left, List.take_left]) h4'
  · have := nocmp_shape hk ho c (List.mem_of_getElem? h2)
    rw [this] at h3; cases h3
def NameAt (t : Str) (op : Int) : Prop := t.take (coilName op).length = coilName op ∧ t[(coilName op).length]? = some 58
theorem name_split {t : Str} {op : Int} (h : NameAt t op) : t = coilName op ++ 58 :: t.drop ((coilName op).length + 1) := by
  obtain ⟨h1, h2⟩ := h
  conv => lhs; rw [← List.take_append_drop (coilName op).length t, h1]
  congr 1
  obtain ⟨hl, he⟩ := List.getElem?_eq_some_iff.1 h2
  rw [List.drop_eq_getElem_cons hl, he]
theorem name_of {op : Int} {r : Str} : NameAt (coilName op ++ 58 :: r) op := by
  refine ⟨List.take_left, ?_⟩
  rw [List.getElem?_append_right (by omega)]
  simp
theorem name_uniq {t : Str} {op o : Int} (hp : 21 ≤ op ∧ op ≤ 37) (ho : 21 ≤ o ∧ o ≤ 37) (h : NameAt t op) (h' : NameAt t o) : op = o := by
  have h1 : cutAt 58 t = (coilName o, t.drop ((coilName o).length + 1), true) := by
    conv => lhs; rw [name_split h']
    exact cutAt_hit (coilName_nocmp ho).2.2.2.2.2
  have h2 : cutAt 58 t = (coilName op, t.drop ((coilName op).length + 1), true) := by
    conv => lhs; rw [name_split h]
    exact cutAt_hit (coilName_nocmp hp).2.2.2.2.2
  rw [h1] at h2
  have h3 : coilName o = coilName op := (Prod.mk.inj h2).1
  have i1 := names17_idx o ho.1 ho.2
  have i2 := names17_idx op hp.1 hp.2
  rw [h3] at i1
  omega
theorem hit_coil {t : Str} {op : Int} (hp : 21 ≤ op ∧ op ≤ 37) (hn : NameAt t op) (hc : ∀ c ∈ t, cmpCh c = false) : Hit t op (argsS (t.drop ((coilName op).length + 1)) 44) := by
  intro o ys hk e
  subst e
  have hs := name_split hn
  obtain ⟨_, c2, c3, c4, c5, c6⟩ := coilName_nocmp hp
  obtain ⟨x, r, hx⟩ : ∃ x r, coilName op = x :: r := by
    cases hq : coilName op with
    | nil => exact absurd hq c5
    | cons x r => exact ⟨x, r, rfl⟩
  have hh : (elemL o ys).head? = (coilName op).head? := by rw [hs, hx]; rfl
  cases shape_of hk with
  | coil ho e h0 h4 hd =>
    have : op = o := name_uniq hp ho hn (by rw [e]; exact name_of)
    subst this
    refine ⟨rfl, ?_⟩
    rw [e, show coilName op ++ 58 :: joinL 44 (ys.map devL) = (coilName op ++ [58]) ++ joinL 44 (ys.map devL) by simp, List.drop_left' (by simp)]
    exact argsS_join (by decide) h0 h4 hd
  | plain a h1 e ha ht hh2 =>
    exfalso
    have : (58 : UInt8) ∈ devL a := by rw [← ht, hs]; simp
    exact devL_no58 a this
  | shut a h1 e ha ht => exfalso; rw [ht] at hh; exact c2 hh.symm
  | up a b h1 e ha hb ht => exfalso; rw [ht] at hh; exact c3 hh.symm
  | down a b h1 e ha hb ht => exfalso; rw [ht] at hh; exact c4 hh.symm
  | cmp a b h1 e ha hb ht =>
    exfalso
    obtain ⟨f1, f2, _⟩ := cmpS_facts (o - 4) (by omega) (by omega)
    obtain ⟨y, q, hy⟩ : ∃ y q, cmpS (o - 4) = y :: q := by
      cases hq : cmpS (o - 4) with
      | nil => exact absurd hq f1
      | cons y q => exact ⟨y, q, rfl⟩
    have := hc y (by rw [ht, hy]; simp)
    rw [f2 y (by rw [hy]; simp)] at this; cases this
theorem hit_head {t : Str} (hc : ∀ c ∈ t, cmpCh c = false) (hn : ∀ op : Int, 21 ≤ op → op ≤ 37 → ¬ NameAt t op) :
    (t.head? = some 47 → Hit t 2 (argsS (t.drop 1) 32)) ∧ (t.head? = some 43 → Hit t 3 (argsS (t.drop 1) 58)) ∧ (t.head? = some 45 → Hit t 4 (argsS (t.drop 1) 58)) ∧
    (t.head? ≠ some 47 → t.head? ≠ some 43 → t.head? ≠ some 45 → Hit t 1 (argsS t 32)) := by
  have key : ∀ o ys, eOk o ys = true → elemL o ys = t →
      (∃ a, o = 1 ∧ ys = [a] ∧ dOk a = true ∧ t = devL a ∧ t.head? ≠ some 45) ∨ (∃ a, o = 2 ∧ ys = [a] ∧ dOk a = true ∧ t = 47 :: devL a) ∨
      (∃ a b, o = 3 ∧ ys = [a, b] ∧ dOk a = true ∧ dOk b = true ∧ t = 43 :: (devL a ++ 58 :: devL b)) ∨ (∃ a b, o = 4 ∧ ys = [a, b] ∧ dOk a = true ∧ dOk b = true ∧ t = 45 :: (devL a ++ 58 :: devL b)) := by
    intro o ys hk e
    cases shape_of hk with
    | coil ho e' h0 h4 hd => exact absurd (by rw [← e, e']; exact name_of) (hn o ho.1 ho.2)
    | plain a h1 e' ha ht hh => exact Or.inl ⟨a, h1, e', ha, by rw [← e, ht], by rw [← e, ht]; exact hh⟩
    | shut a h1 e' ha ht => exact Or.inr (Or.inl ⟨a, h1, e', ha, by rw [← e, ht]⟩)
    | up a b h1 e' ha hb ht => exact Or.inr (Or.inr (Or.inl ⟨a, b, h1, e', ha, hb, by rw [← e, ht]⟩))
    | down a b h1 e' ha hb ht => exact Or.inr (Or.inr (Or.inr ⟨a, b, h1, e', ha, hb, by rw [← e, ht]⟩))
    | cmp a b h1 e' ha hb ht =>
      exfalso
      obtain ⟨f1, f2, _⟩ := cmpS_facts (o - 4) (by omega) (by omega)
      obtain ⟨y, q, hy⟩ : ∃ y q, cmpS (o - 4) = y :: q := by
        cases hq : cmpS (o - 4) with
        | nil => exact absurd hq f1
        | cons y q => exact ⟨y, q, rfl⟩
      have := hc y (by rw [← e, ht, hy]; simp)
      rw [f2 y (by rw [hy]; simp)] at this; cases this
  have hd : ∀ (a : Dev) (c : UInt8), devCh c = false → (devL a).head? ≠ some c := fun a c h => devL_head h
  refine ⟨fun h o ys hk e => ?_, fun h o ys hk e => ?_, fun h o ys hk e => ?_, fun h1 h2 h3 o ys hk e => ?_⟩
  · rcases key o ys hk e with ⟨a, rfl, rfl, ha, rfl, hh⟩ | ⟨a, rfl, rfl, ha, rfl⟩ | ⟨a, b, rfl, rfl, ha, hb, rfl⟩ | ⟨a, b, rfl, rfl, ha, hb, rfl⟩
    · exact absurd h (hd a 47 (by decide))
    · exact ⟨rfl, by rw [List.drop_one, List.tail_cons]; exact argsS_one (by decide) ha⟩
    · exact absurd h (by simp)
    · exact absurd h (by simp)
  · rcases key o ys hk e with ⟨a, rfl, rfl, ha, rfl, hh⟩ | ⟨a, rfl, rfl, ha, rfl⟩ | ⟨a, b, rfl, rfl, ha, hb, rfl⟩ | ⟨a, b, rfl, rfl, ha, hb, rfl⟩
    · exact absurd h (hd a 43 (by decide))
    · exact absurd h (by simp)
    · exact ⟨rfl, by rw [List.drop_one, List.tail_cons]; exact argsS_two (by decide) ha hb⟩
    · exact absurd h (by simp)
  · rcases key o ys hk e with ⟨a, rfl, rfl, ha, rfl, hh⟩ | ⟨a, rfl, rfl, ha, rfl⟩ | ⟨a, b, rfl, rfl, ha, hb, rfl⟩ | ⟨a, b, rfl, rfl, ha, hb, rfl⟩
    · exact absurd h hh
    · exact absurd h (by simp)
    · exact absurd h (by simp)
    · exact ⟨rfl, by rw [List.drop_one, List.tail_cons]; exact argsS_two (by decide) ha hb⟩
  · rcases key o ys hk e with ⟨a, rfl, rfl, ha, rfl, hh⟩ | ⟨a, rfl, rfl, ha, rfl⟩ | ⟨a, b, rfl, rfl, ha, hb, rfl⟩ | ⟨a, b, rfl, rfl, ha, hb, rfl⟩
    · exact ⟨rfl, argsS_one (by decide) ha⟩
    · exact absurd rfl h1
    · exact absurd rfl h2
    · exact absurd rfl h3
theorem elemRd_long {t : Str} (h : 100 < t.length) : elemRd t = none := by
  cases hq : elemRd t with
  | none => rfl
  | some e =>
    have h2 := (elemRd_some hq).2
    have h3 := elem_short e.1 e.2
    rw [h2] at h3; omega
theorem elemRd_nil : elemRd [] = none := by
  cases hq : elemRd [] with
  | none => rfl
  | some e =>
    obtain ⟨h1, h2⟩ := elemRd_some hq
    exact absurd h2 (elemL_ne.2 h1)
theorem elemRd_hit {t : Str} {op : Int} {xs : List Dev} (h : Hit t op xs) : (if t ≠ [] ∧ elemL op xs = t then some (op, xs) else none) = elemRd t := elemRd_of h
end Go.Sx
namespace Go.Sx
open Go

theorem idxL_step {c x : UInt8} {s : Str} {i : Nat} (h : s[i]? = some x) : idxL c (s.drop i) = if x = c then 0 else if idxL c (s.drop (i + 1)) = -1 then -1 else idxL c (s.drop (i + 1)) + 1 := by
  obtain ⟨hl, he⟩ := List.getElem?_eq_some_iff.1 h
  rw [List.drop_eq_getElem_cons hl, he, idxL]
theorem idxL_bd (c : UInt8) : ∀ s : Str, -1 ≤ idxL c s ∧ idxL c s < s.length
  | [] => by simp [idxL]
  | x :: s => by
    have := idxL_bd c s
    rw [idxL, List.length_cons]
    split
    · omega
    · split <;> omega
theorem valF_take {s : Str} {i : Nat} {x : UInt8} (h : s[i]? = some x) : valF 0 (s.take (i + 1)) = 10 * valF 0 (s.take i) + (x.toNat - 48) := by
  rw [List.take_add_one, h, Option.toList_some, valF_app]
  rfl
theorem valF_lt : ∀ (l : Str) (acc : Nat), Digs l → valF acc l < (acc + 1) * 10 ^ l.length
  | [], acc, _ => by simp [valF]
  | c :: l, acc, h => by
    rw [valF_cons]
    have hc := h c (by simp)
    have := valF_lt l (10 * acc + (c.toNat - 48)) fun x hx => h x (by simp [hx])
    refine Nat.lt_of_lt_of_le this ?_
    rw [List.length_cons, Nat.pow_succ, ← Nat.mul_assoc, Nat.mul_right_comm]
    exact Nat.mul_le_mul_right _ (by omega)
theorem valF_17 {l : Str} (h : Digs l) (hl : l.length ≤ 17) : valF 0 l < 100000000000000000 := by
  have := valF_lt l 0 h
  have h2 : 10 ^ l.length ≤ 10 ^ 17 := Nat.pow_le_pow_right (by decide) hl
  rw [Nat.zero_add, Nat.one_mul] at this
  have e : (10 : Nat) ^ 17 = 100000000000000000 := by decide
  omega
theorem digs_take {s : Str} {i : Nat} {x : UInt8} (h : s[i]? = some x) (hd : Digs (s.take i)) (hx : 48 ≤ x.toNat ∧ x.toNat ≤ 57) : Digs (s.take (i + 1)) := by
  rw [List.take_add_one, h, Option.toList_some]
  intro c hc
  rcases List.mem_append.1 hc with hc | hc
  · exact hd c hc
  · rw [List.mem_singleton] at hc; subst hc; exact hx
theorem word_mem {s : Str} (h : 0 ≤ idxW s words4) : s = [110, 97, 110] ∨ s = [105, 110, 102] ∨ s = [45, 105, 110, 102] ∨ s = [45, 48, 46, 48] := by
  have : s ∈ words4 := Decidable.byContradiction fun hn => by rw [idxW_miss hn] at h; omega
  simpa [words4] using this
theorem word_guess {s : Str} (h : 0 ≤ idxW s words4) : guessI s = ⟨13, idxW s words4, 0⟩ ∧ devL ⟨13, idxW s words4, 0⟩ = s ∧ s ≠ [] := by
  rcases word_mem h with rfl | rfl | rfl | rfl <;> exact ⟨rfl, rfl, by decide⟩
theorem word_rd {s : Str} (h : 0 ≤ idxW s words4) : devRd s = some ⟨13, idxW s words4, 0⟩ := by
  obtain ⟨h1, h2, h3⟩ := word_guess h
  unfold devRd
  rw [h1, if_pos ⟨h3, h2⟩]
theorem word_no {s : Str} (h : ¬ 0 ≤ idxW s words4) : words4.contains s = false := by
  rw [Bool.eq_false_iff]
  intro hc
  have hm : s ∈ words4 := List.contains_iff_mem.1 hc
  simp only [words4, List.mem_cons, List.not_mem_nil, or_false] at hm
  rcases hm with rfl | rfl | rfl | rfl <;> exact h (by decide)
theorem devRd_nil : devRd [] = none := by
  unfold devRd
  rw [if_neg fun h => h.1 rfl]
theorem devRd_by {s : Str} {g : Dev} (hs : s ≠ []) (hg : guessI s = g) : devRd s = if devL g = s then some g else none := by
  unfold devRd
  rw [hg]
  by_cases h : devL g = s
  · rw [if_pos ⟨hs, h⟩, if_pos h]
  · rw [if_neg fun e => h e.2, if_neg h]
theorem devRd_byS {s : Str} {g : Dev} (hs : s ≠ []) (hg : guessS s = g) : devRd s = if devL g = s then some g else none := by
  rw [← devRd_guess s, hg]
  by_cases h : devL g = s
  · rw [if_pos ⟨hs, h⟩, if_pos h]
  · rw [if_neg fun e => h e.2, if_neg h]
theorem guess_letter {x : UInt8} {r : Str} (hw : ¬ 0 ≤ idxW (x :: r) words4) (h : 0 ≤ idxL x letters) : guessI (x :: r) = ⟨1 + idxL x letters, atoiV r, 0⟩ := by
  unfold guessI
  rw [word_no hw]
  simp [h]
theorem guess_dec {x : UInt8} {r : Str} (hw : ¬ 0 ≤ idxW (x :: r) words4) (h : ¬ 0 ≤ idxL x letters) (hc : (cutAt 46 (x :: r)).2.2 = true) : guessI (x :: r) = ⟨12, atoiV ((cutAt 46 (x :: r)).1 ++ (cutAt 46 (x :: r)).2.1), (cutAt 46 (x :: r)).2.1.length⟩ := by
  unfold guessI
  rw [word_no hw, hc]
  simp [h]
theorem guess_int {x : UInt8} {r : Str} (hw : ¬ 0 ≤ idxW (x :: r) words4) (h : ¬ 0 ≤ idxL x letters) (hc : (cutAt 46 (x :: r)).2.2 = false) : guessI (x :: r) = ⟨11, atoiV (x :: r), 0⟩ := by
  unfold guessI
  rw [word_no hw, hc]
  simp [h]
theorem cutAt_len (c : UInt8) (s : Str) : (cutAt c s).1.length ≤ s.length ∧ (cutAt c s).2.1.length ≤ s.length ∧ (cutAt c s).1.length + (cutAt c s).2.1.length ≤ s.length := by
  unfold cutAt
  split
  · have h1 : (s.takeWhile (· != c)).length + (s.dropWhile (· != c)).length = s.length := by rw [← List.length_append, List.takeWhile_append_dropWhile]
    simp only [List.length_drop]
    omega
  · simp
theorem word_guessS {s : Str} (h : 0 ≤ idxW s words4) : guessS s = ⟨13, idxW s words4, 0⟩ := by
  rcases word_mem h with rfl | rfl | rfl | rfl <;> rfl
theorem letters_none {x : UInt8} (h : ∀ k : Int, 1 ≤ k → k ≤ 10 → letterU k ≠ x) : idxL x letters = -1 := by
  refine idxL_miss fun hm => ?_
  simp only [letters, List.mem_cons, List.not_mem_nil, or_false] at hm
  rcases hm with rfl | rfl | rfl | rfl | rfl | rfl | rfl | rfl | rfl | rfl
  · exact h 1 (by decide) (by decide) rfl
  · exact h 2 (by decide) (by decide) rfl
  · exact h 3 (by decide) (by decide) rfl
  · exact h 4 (by decide) (by decide) rfl
  · exact h 5 (by decide) (by decide) rfl
  · exact h 6 (by decide) (by decide) rfl
  · exact h 7 (by decide) (by decide) rfl
  · exact h 8 (by decide) (by decide) rfl
  · exact h 9 (by decide) (by decide) rfl
  · exact h 10 (by decide) (by decide) rfl
theorem guessS_letter {x : UInt8} {r : Str} (hw : ¬ 0 ≤ idxW (x :: r) words4) (h : 0 ≤ idxL x letters) : guessS (x :: r) = ⟨1 + idxL x letters, digS r, 0⟩ := by
  unfold guessS
  rw [word_no hw]
  simp [h]
theorem guessS_num {x : UInt8} {r : Str} (hw : ¬ 0 ≤ idxW (x :: r) words4) (h : ¬ 0 ≤ idxL x letters) : guessS (x :: r) =
    if idxL 46 (if x = 45 then r else x :: r) < 0 then ⟨11, (if x = 45 then -1 else 1) * digS (if x = 45 then r else x :: r), 0⟩
    else ⟨12, (if x = 45 then -1 else 1) * digS ((if x = 45 then r else x :: r).take (idxL 46 (if x = 45 then r else x :: r)).toNat ++ (if x = 45 then r else x :: r).drop ((idxL 46 (if x = 45 then r else x :: r)).toNat + 1)),
      (if x = 45 then r else x :: r).length - idxL 46 (if x = 45 then r else x :: r) - 1⟩ := by
  unfold guessS
  rw [word_no hw]
  simp [h]
theorem guessS_nil : guessS [] = ⟨11, -1, 0⟩ := rfl
theorem digS_bd (l : Str) : -1 ≤ digS l ∧ digS l < 100000000000000000 := by
  unfold digS
  split
  · omega
  · rename_i h
    have h17 : ¬ 17 < l.length := fun e => h (Or.inr (Or.inl e))
    have hd : Digs l := Decidable.byContradiction fun e => h (Or.inr (Or.inr e))
    have := valF_17 hd (by omega)
    rw [valD_eq]
    omega
def devTup (o : Option Dev) : Value := match o with
  | some d => .tuple #[.agg #[.int .i64 d.k, .int .i64 d.n, .int .i64 d.p], .bool true]
  | none => .tuple #[.agg #[.int .i64 0, .int .i64 0, .int .i64 0], .bool false]
end Go.Sx
