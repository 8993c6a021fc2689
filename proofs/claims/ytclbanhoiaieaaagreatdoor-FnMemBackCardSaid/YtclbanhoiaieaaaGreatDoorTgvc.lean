/-
  Plainly: what the reference guesses of a contact's or coil's text is right wherever there is one. Nothing of a program stands here.
-/
import Derived.Test.YtclbanhoiaieaaaGreatDoorTavc
import Derived.Lib.AtoiAll
import Derived.Lib.ItoaNum
import Derived.Lib.ParseIntB
import Derived.Lib.IndexMore
import Derived.Lib.IndexLaws
import Derived.Lib.Split
set_option linter.unusedVariables false
set_option linter.unusedSimpArgs false
set_option maxHeartbeats 1000000
namespace Go.Sx
open Go

def Digs (l : Str) : Prop := ∀ c ∈ l, 48 ≤ c.toNat ∧ c.toNat ≤ 57
theorem itoa_dec (n : Nat) : Lib.decDigits n = decL n := by
  induction n using Nat.strongRecOn with
  | _ n ih =>
    rw [Lib.decDigits, decL]
    by_cases h : n < 10
    · rw [dif_pos h, dif_pos (by omega)]; rfl
    · rw [dif_neg h, dif_neg (by omega), ih (n / 10) (by omega)]; rfl
def valF (acc : Nat) (l : Str) : Nat := l.foldl (fun v c => 10 * v + (c.toNat - 48)) acc
theorem valF_cons (acc : Nat) (c : UInt8) (l : Str) : valF acc (c :: l) = valF (10 * acc + (c.toNat - 48)) l := by unfold valF; rw [List.foldl_cons]
theorem valF_ge : ∀ (l : Str) (acc : Nat), acc ≤ valF acc l
  | [], acc => Nat.le_refl _
  | c :: l, acc => by
    rw [valF_cons]
    have := valF_ge l (10 * acc + (c.toNat - 48)); omega
theorem valF_app (acc : Nat) (a b : Str) : valF acc (a ++ b) = valF (valF acc a) b := by unfold valF; rw [List.foldl_append]
theorem valD_eq (l : Str) : valD l = valF 0 l := rfl
theorem valF_zeros : ∀ (k : Nat) (l : Str), valF 0 (List.replicate k 48 ++ l) = valF 0 l
  | 0, l => rfl
  | k + 1, l => by
    have e : 10 * 0 + ((48 : UInt8).toNat - 48) = 0 := by decide
    rw [List.replicate_succ, List.cons_append, valF_cons, e, valF_zeros k l]
theorem parse_digs : ∀ (l : Str) (acc : Nat), Digs l → valF acc l < 18446744073709551616 → Lib.parseUint10 acc l = .ok (valF acc l)
  | [], acc, _, _ => rfl
  | c :: l, acc, h, hv => by
    have hc := h c (by simp)
    rw [valF_cons] at hv ⊢
    have hg := valF_ge l (10 * acc + (c.toNat - 48))
    rw [Lib.parseUint10, if_pos hc, if_neg (by omega), if_neg (by omega), Nat.mul_comm acc 10]
    exact parse_digs l _ (fun x hx => h x (by simp [hx])) hv
def atoiV (l : Str) : Int := match Lib.atoiAll l with
  | .ok v => v
  | .range => Lib.atoiSat l
  | _ => 0
theorem atoi_digs {l : Str} (h : Digs l) (hne : l ≠ []) (hv : valD l ≤ 9223372036854775807) : Lib.atoiAll l = .ok (valD l) := by
  match l, hne with
  | c :: r, _ =>
    have hc := h c (by simp)
    unfold Lib.atoiAll
    simp only
    rw [if_neg (by omega)]
    unfold Lib.parseMag
    rw [if_neg (by simp), parse_digs _ _ h (by rw [← valD_eq]; omega)]
    simp only
    rw [← valD_eq, if_neg (by omega), if_neg (by omega), if_neg (by omega)]
theorem atoi_neg {l : Str} (h : Digs l) (hne : l ≠ []) (hv : valD l ≤ 9223372036854775807) : Lib.atoiAll (45 :: l) = .ok (-(valD l : Int)) := by
  unfold Lib.atoiAll
  simp only
  rw [if_pos (by decide)]
  unfold Lib.parseMag
  rw [if_neg hne, parse_digs _ _ h (by rw [← valD_eq]; omega)]
  simp only
  have e : (45 : UInt8).toNat = 45 := rfl
  rw [← valD_eq, if_neg (by simp [e]), if_neg (by simp [e]; omega), if_pos e]
theorem decL_ne (n : Nat) : decL n ≠ [] := fun h => by have := decL_len1 n; rw [h] at this; simp at this
theorem atoi_decZ {n : Int} (h : n.natAbs ≤ 9223372036854775807) : Lib.atoiAll (decZ n) = .ok n := by
  unfold decZ
  split
  · rw [atoi_neg (decL_dig _) (decL_ne _) (by rw [valD_dec]; exact h), valD_dec]; congr 1; omega
  · rw [atoi_digs (decL_dig _) (decL_ne _) (by rw [valD_dec]; exact h), valD_dec]; congr 1; omega
theorem atoiV_decZ {n : Int} (h : n.natAbs ≤ 9223372036854775807) : atoiV (decZ n) = n := by unfold atoiV; rw [atoi_decZ h]
/-! ### decimals -/
theorem padS_digs {p : Nat} {l : Str} (h : Digs l) : Digs (padS p l) := by
  intro c hc
  unfold padS at hc
  rcases List.mem_append.1 hc with hc | hc
  · rw [List.eq_of_mem_replicate hc]; decide
  · exact h c hc
theorem padS_val (p : Nat) (l : Str) : valD (padS p l) = valD l := valF_zeros _ _
theorem padS_len (p : Nat) (l : Str) : (padS p l).length = max (p + 1) l.length := by unfold padS; simp; omega
def signS (n : Int) : Str := if n < 0 then [45] else []
theorem decT_split (n : Int) (p : Nat) : ∃ a b, decT n p = signS n ++ a ++ 46 :: b ∧ a ≠ [] ∧ b.length = p ∧ a ++ b = padS p (decL n.natAbs) := by
  have h := padS_len p (decL n.natAbs)
  refine ⟨_, _, by unfold decT fracS signS; rw [← List.append_assoc], ?_, ?_, List.take_append_drop _ _⟩
  · intro e
    have := congrArg List.length e
    simp at this
    have h1 := decL_len1 n.natAbs
    omega
  · rw [List.length_drop]; omega
def cutAt (c : UInt8) (s : Str) : Str × Str × Bool := if s.contains c then (s.takeWhile (· != c), (s.dropWhile (· != c)).drop 1, true) else (s, [], false)
theorem cutAt_hit {c : UInt8} {a b : Str} (h : c ∉ a) : cutAt c (a ++ c :: b) = (a, b, true) := by
  unfold cutAt
  rw [if_pos (by simp)]
  have h1 : (a ++ c :: b).takeWhile (· != c) = a := by
    rw [List.takeWhile_append_of_pos (by intro x hx; simp; rintro rfl; exact h hx)]
    simp
  have h2 : (a ++ c :: b).dropWhile (· != c) = c :: b := by
    rw [List.dropWhile_append_of_pos (by intro x hx; simp; rintro rfl; exact h hx)]
    simp
  rw [h1, h2]; rfl
theorem cutAt_miss {c : UInt8} {s : Str} (h : c ∉ s) : cutAt c s = (s, [], false) := by
  unfold cutAt
  rw [if_neg (by simpa using h)]
theorem digs_not {l : Str} (h : Digs l) {c : UInt8} (hc : c.toNat < 48 ∨ 57 < c.toNat) : c ∉ l := fun hm => by have := h c hm; omega
theorem Digs.app {a b : Str} (h : Digs (a ++ b)) : Digs a ∧ Digs b := ⟨fun c hc => h c (by simp [hc]), fun c hc => h c (by simp [hc])⟩
theorem signS_not (n : Int) {c : UInt8} (hc : c ≠ 45) : c ∉ signS n := by
  unfold signS; split <;> simp [hc]
theorem decT_cut (n : Int) (p : Nat) : ∃ a b, cutAt 46 (decT n p) = (signS n ++ a, b, true) ∧ a ≠ [] ∧ b.length = p ∧ a ++ b = padS p (decL n.natAbs) := by
  obtain ⟨a, b, e, h1, h2, h3⟩ := decT_split n p
  refine ⟨a, b, ?_, h1, h2, h3⟩
  rw [e]
  refine cutAt_hit fun hm => ?_
  have hd : Digs (a ++ b) := by rw [h3]; exact padS_digs (decL_dig _)
  rcases List.mem_append.1 hm with hm | hm
  · exact signS_not n (by decide) hm
  · exact digs_not hd.app.1 (by decide) hm
theorem atoiV_frac {n : Int} {a b : Str} {p : Nat} (hn : n.natAbs ≤ 9223372036854775807) (h1 : a ≠ []) (h3 : a ++ b = padS p (decL n.natAbs)) : atoiV (signS n ++ a ++ b) = n := by
  have hd : Digs (a ++ b) := by rw [h3]; exact padS_digs (decL_dig _)
  have hv : valD (a ++ b) = n.natAbs := by rw [h3, padS_val, valD_dec]
  have hne : a ++ b ≠ [] := by simp [h1]
  by_cases h0 : n < 0
  · have e : signS n ++ a ++ b = 45 :: (a ++ b) := by unfold signS; rw [if_pos h0]; simp
    unfold atoiV
    rw [e, atoi_neg hd hne (by omega), hv]
    simp only
    omega
  · have e : signS n ++ a ++ b = a ++ b := by unfold signS; rw [if_neg h0]; simp
    unfold atoiV
    rw [e, atoi_digs hd hne (by omega), hv]
    simp only
    omega
def idxL (c : UInt8) : Str → Int
  | [] => -1
  | x :: l => if x = c then 0 else if idxL c l = -1 then -1 else idxL c l + 1
theorem idxL_lib (c : UInt8) : ∀ l, Lib.indexByte l c = idxL c l
  | [] => rfl
  | x :: l => by
    rw [Lib.indexByte, idxL, idxL_lib c l]
    simp only [beq_iff_eq]
theorem idxL_miss {c : UInt8} : ∀ {l : Str}, c ∉ l → idxL c l = -1
  | [], _ => rfl
  | x :: l, h => by
    have h1 : ¬ x = c := fun e => h (by simp [e])
    have h2 : c ∉ l := fun e => h (by simp [e])
    rw [idxL, if_neg h1, if_pos (idxL_miss h2)]
def letters : Str := [88, 89, 77, 83, 69, 71, 84, 67, 68, 82]
def words4 : List Str := [[110, 97, 110], [105, 110, 102], [45, 105, 110, 102], [45, 48, 46, 48]]
def guessI (t : Str) : Dev :=
  if words4.contains t then ⟨13, words4.findIdx (· == t), 0⟩
  else if 0 ≤ idxL (t.headD 0) letters then ⟨1 + idxL (t.headD 0) letters, atoiV (t.drop 1), 0⟩
  else if (cutAt 46 t).2.2 then ⟨12, atoiV ((cutAt 46 t).1 ++ (cutAt 46 t).2.1), (cutAt 46 t).2.1.length⟩
  else ⟨11, atoiV t, 0⟩
theorem dOk_cases {d : Dev} (h : dOk d = true) : (1 ≤ d.k ∧ d.k ≤ 10 ∧ 0 ≤ d.n ∧ d.n < devSize d.k ∧ d.p = 0) ∨ (d.k = 11 ∧ -32768 ≤ d.n ∧ d.n ≤ 32767 ∧ d.p = 0) ∨
    (d.k = 12 ∧ -999999999 ≤ d.n ∧ d.n ≤ 999999999 ∧ 1 ≤ d.p ∧ d.p ≤ 6 ∧ (d.p = 1 ∨ d.n.tmod 10 ≠ 0)) ∨ (d.k = 13 ∧ 0 ≤ d.n ∧ d.n ≤ 3 ∧ d.p = 0) := by
  unfold dOk devOk at h
  exact of_decide_eq_true h
theorem devSize_le (k : Int) : devSize k ≤ 64 := by unfold devSize; (repeat' split) <;> omega
theorem letter_facts : ∀ k : Int, 1 ≤ k → k ≤ 10 → idxL (letterU k) letters = k - 1 ∧ ¬ (48 ≤ (letterU k).toNat ∧ (letterU k).toNat ≤ 57) ∧ letterU k ≠ 110 ∧ letterU k ≠ 105 ∧ letterU k ≠ 45 ∧ letterU k ≠ 46 ∧ 65 ≤ (letterU k).toNat ∧ (letterU k).toNat ≤ 90 := by
  intro k h1 h2
  have : k = 1 ∨ k = 2 ∨ k = 3 ∨ k = 4 ∨ k = 5 ∨ k = 6 ∨ k = 7 ∨ k = 8 ∨ k = 9 ∨ k = 10 := by omega
  rcases this with rfl | rfl | rfl | rfl | rfl | rfl | rfl | rfl | rfl | rfl <;> decide
theorem digit_idx {c : UInt8} (h : (48 ≤ c.toNat ∧ c.toNat ≤ 57) ∨ c = 45) : idxL c letters = -1 := by
  refine idxL_miss fun hm => ?_
  have hl : ∀ x ∈ letters, 65 ≤ x.toNat := by decide
  have := hl c hm
  rcases h with h | h
  · omega
  · subst h; exact absurd this (by decide)
theorem decZ_head (n : Int) : ∃ c r, decZ n = c :: r ∧ ((48 ≤ c.toNat ∧ c.toNat ≤ 57) ∨ c = 45) ∧ (∀ x ∈ r, 48 ≤ x.toNat ∧ x.toNat ≤ 57) ∧ (c = 45 → r ≠ []) := by
  unfold decZ
  split
  · exact ⟨45, _, rfl, Or.inr rfl, decL_dig _, fun _ => decL_ne _⟩
  · obtain ⟨c, r, e, h1, h2⟩ := decL_cons n.natAbs
    refine ⟨c, r, e, Or.inl ⟨h1, h2⟩, fun x hx => decL_dig n.natAbs x (by rw [e]; simp [hx]), fun hc => ?_⟩
    subst hc; exact absurd h1 (by decide)
theorem decZ_words (n : Int) : words4.contains (decZ n) = false := by
  obtain ⟨c, r, e, h1, h2, h3⟩ := decZ_head n
  rw [e, Bool.eq_false_iff]
  intro hc
  simp [words4] at hc
  rcases hc with ⟨rfl, rfl⟩ | ⟨rfl, rfl⟩ | ⟨rfl, rfl⟩ | ⟨rfl, rfl⟩
  · exact absurd h1 (by decide)
  · exact absurd h1 (by decide)
  · exact absurd (h2 105 (by simp)) (by decide)
  · exact absurd (h2 46 (by simp)) (by decide)
theorem guessI_devT {d : Dev} (h : dOk d = true) : guessI (devT d) = d := by
  obtain ⟨k, n, p⟩ := d
  rcases dOk_cases h with ⟨h1, h2, h3, h4, h5⟩ | ⟨h1, h2, h3, h4⟩ | ⟨h1, h2, h3, h4, h5, h6⟩ | ⟨h1, h2, h3, h4⟩ <;> simp only at *
  · subst h5
    obtain ⟨l1, l2, l3, l4, l5, l6, _⟩ := letter_facts k h1 h2
    have hz := devSize_le k
    have e : devT ⟨k, n, 0⟩ = letterU k :: decZ n := by
      unfold devT
      simp only
      rw [if_neg (by omega), if_neg (by omega), if_neg (by omega)]
    rw [e]
    have hw : words4.contains (letterU k :: decZ n) = false := by
      rw [Bool.eq_false_iff]
      intro hc
      simp [words4] at hc
      rcases hc with ⟨a, _⟩ | ⟨a, _⟩ | ⟨a, _⟩ | ⟨a, _⟩
      · exact l3 a
      · exact l4 a
      · exact l5 a
      · exact l5 a
    unfold guessI
    rw [hw]
    simp only [List.headD_cons, List.drop_one, List.tail_cons, Bool.false_eq_true, if_false]
    rw [l1, if_pos (by omega), atoiV_decZ (by omega)]
    congr 1; omega
  · subst h1; subst h4
    have e : devT ⟨11, n, 0⟩ = decZ n := rfl
    rw [e]
    obtain ⟨c, r, e1, e2, e3, _⟩ := decZ_head n
    have hi := digit_idx e2
    have hdot : (46 : UInt8) ∉ decZ n := by
      rw [e1]
      intro hm
      rcases List.mem_cons.1 hm with rfl | hm
      · exact absurd e2 (by decide)
      · exact absurd (e3 46 hm) (by decide)
    unfold guessI
    rw [decZ_words, cutAt_miss hdot]
    simp only [Bool.false_eq_true, if_false]
    have hh : (decZ n).headD 0 = c := by rw [e1]; rfl
    rw [hh, hi, if_neg (by omega), atoiV_decZ (by omega)]
  · subst h1
    have e : devT ⟨12, n, p⟩ = decT n p.toNat := rfl
    rw [e]
    obtain ⟨a, b, ec, g1, g2, g3⟩ := decT_cut n p.toNat
    have hv := atoiV_frac (n := n) (by omega) g1 g3
    obtain ⟨a', b', ed, g1', g2', g3'⟩ := decT_split n p.toNat
    have hd : Digs (a' ++ b') := by rw [g3']; exact padS_digs (decL_dig _)
    obtain ⟨c, r, ea⟩ : ∃ c r, a' = c :: r := by cases a' with
      | nil => exact absurd rfl g1'
      | cons c r => exact ⟨c, r, rfl⟩
    subst ea
    have hc : 48 ≤ c.toNat ∧ c.toNat ≤ 57 := hd c (by simp)
    have hh : ((decT n p.toNat).headD 0 = 45) ∨ ((decT n p.toNat).headD 0 = c) := by
      rw [ed]; unfold signS; split
      · left; rfl
      · right; rfl
    have hi : idxL ((decT n p.toNat).headD 0) letters = -1 := by
      rcases hh with hh | hh <;> rw [hh]
      · exact digit_idx (Or.inr rfl)
      · exact digit_idx (Or.inl hc)
    have hw : words4.contains (decT n p.toNat) = false := by
      rw [Bool.eq_false_iff]
      intro hm
      have hval : atoiV ((cutAt 46 (decT n p.toNat)).1 ++ (cutAt 46 (decT n p.toNat)).2.1) = n := by rw [ec]; exact hv
      have hcut : (cutAt 46 (decT n p.toNat)).2.2 = true := by rw [ec]
      simp only [words4, List.contains_cons, List.contains_nil, Bool.or_false, Bool.or_eq_true, beq_iff_eq] at hm
      rcases hm with hm | hm | hm | hm
      · rw [hm] at hcut; exact absurd hcut (by decide)
      · rw [hm] at hcut; exact absurd hcut (by decide)
      · rw [hm] at hcut; exact absurd hcut (by decide)
      · rw [hm] at hval
        have : n = 0 := by rw [← hval]; decide
        subst this
        rw [ed] at hm
        unfold signS at hm
        simp at hm
        have := hm.1
        subst this
        exact absurd hc (by decide)
    unfold guessI
    rw [hw, ec]
    simp only [Bool.false_eq_true, if_false, if_true]
    rw [hi, if_neg (by omega), hv, g2]
    congr 1; omega
  · subst h1; subst h4
    have : n = 0 ∨ n = 1 ∨ n = 2 ∨ n = 3 := by omega
    rcases this with rfl | rfl | rfl | rfl <;> decide
theorem devL_ok {d : Dev} (h : dOk d = true) : devL d = devT d := by unfold devL; rw [if_pos h]
theorem guessI_dev {d : Dev} (h : dOk d = true) : guessI (devL d) = d := by rw [devL_ok h]; exact guessI_devT h
theorem devL_bad {d : Dev} (h : dOk d = false) : devL d = [] := by unfold devL; rw [h]; rfl
theorem devT_ne (d : Dev) : devT d ≠ [] := by
  unfold devT
  split
  · unfold decZ; split
    · simp
    · exact decL_ne _
  · split
    · obtain ⟨a, b, e, _⟩ := decT_split d.n d.p.toNat
      rw [e]; simp
    · split
      · unfold wordS; (repeat' split) <;> simp
      · simp
theorem devL_ne {d : Dev} : devL d ≠ [] ↔ dOk d = true := by
  cases h : dOk d
  · rw [devL_bad h]; simp
  · rw [devL_ok h]; simp [devT_ne]
def devRd (t : Str) : Option Dev := if t ≠ [] ∧ devL (guessI t) = t then some (guessI t) else none
theorem devRd_some {t : Str} {d : Dev} (h : devRd t = some d) : dOk d = true ∧ devL d = t := by
  unfold devRd at h
  split at h
  · rename_i h1
    cases h
    exact ⟨devL_ne.1 (by rw [h1.2]; exact h1.1), h1.2⟩
  · cases h
theorem devRd_dev {d : Dev} (h : dOk d = true) : devRd (devL d) = some d := by
  unfold devRd
  rw [if_pos ⟨devL_ne.2 h, by rw [guessI_dev h]⟩, guessI_dev h]
theorem devRd_none {t : Str} (h : devRd t = none) {d : Dev} (hd : dOk d = true) : devL d ≠ t := fun e => by
  rw [← e, devRd_dev hd] at h; cases h
theorem devRd_of {t : Str} {g : Dev} (hg : ∀ d, dOk d = true → devL d = t → g = d) : (if t ≠ [] ∧ devL g = t then some g else none) = devRd t := by
  cases h : devRd t with
  | some d =>
    obtain ⟨h1, h2⟩ := devRd_some h
    have e := hg d h1 h2
    subst e
    rw [if_pos ⟨by rw [← h2]; exact devL_ne.2 h1, h2⟩]
  | none =>
    rw [if_neg]
    rintro ⟨h1, h2⟩
    exact devRd_none h (d := g) (devL_ne.1 (by rw [h2]; exact h1)) h2
end Go.Sx
namespace Go.Sx
open Go

instance (l : Str) : Decidable (Digs l) := inferInstanceAs (Decidable (∀ c ∈ l, 48 ≤ c.toNat ∧ c.toNat ≤ 57))
def digS (l : Str) : Int := if l = [] ∨ 17 < l.length ∨ ¬ Digs l then -1 else valD l
theorem digS_of {l : Str} (h1 : l ≠ []) (h2 : l.length ≤ 17) (h3 : Digs l) : digS l = valD l := by
  unfold digS
  rw [if_neg]
  rintro (h | h | h)
  · exact h1 h
  · omega
  · exact h h3
theorem digS_decL {n : Nat} (h : n < 10 ^ 17) : digS (decL n) = n := by
  rw [digS_of (decL_ne n) (decL_len n 16 h) (decL_dig n), valD_dec]
def guessS (t : Str) : Dev :=
  if words4.contains t then ⟨13, words4.findIdx (· == t), 0⟩
  else if 0 ≤ idxL (t.headD 0) letters then ⟨1 + idxL (t.headD 0) letters, digS (t.drop 1), 0⟩
  else
    let sg : Int := if t.headD 0 = 45 then -1 else 1
    let u := if t.headD 0 = 45 then t.drop 1 else t
    if idxL 46 u < 0 then ⟨11, sg * digS u, 0⟩ else ⟨12, sg * digS (u.take (idxL 46 u).toNat ++ u.drop ((idxL 46 u).toNat + 1)), u.length - idxL 46 u - 1⟩
theorem idxL_hit {c : UInt8} {a b : Str} (h : c ∉ a) : idxL c (a ++ c :: b) = a.length := by
  induction a with
  | nil => simp [idxL]
  | cons x a ih =>
    have h1 : ¬ x = c := fun e => h (by simp [e])
    have h2 : c ∉ a := fun e => h (by simp [e])
    rw [List.cons_append, idxL, if_neg h1, ih h2, if_neg (by omega)]
    simp
theorem guessS_devT {d : Dev} (h : dOk d = true) : guessS (devT d) = d := by
  obtain ⟨k, n, p⟩ := d
  rcases dOk_cases h with ⟨h1, h2, h3, h4, h5⟩ | ⟨h1, h2, h3, h4⟩ | ⟨h1, h2, h3, h4, h5, h6⟩ | ⟨h1, h2, h3, h4⟩ <;> simp only at *
  · subst h5
    have hg := guessI_devT (d := ⟨k, n, 0⟩) h
    obtain ⟨l1, l2, l3, l4, l5, l6, _⟩ := letter_facts k h1 h2
    have hz := devSize_le k
    have e : devT ⟨k, n, 0⟩ = letterU k :: decZ n := by
      unfold devT
      simp only
      rw [if_neg (by omega), if_neg (by omega), if_neg (by omega)]
    have ez : decZ n = decL n.toNat := by unfold decZ; rw [if_neg (by omega)]; congr 1; omega
    rw [e] at hg ⊢
    have hw : words4.contains (letterU k :: decZ n) = false := by
      rw [Bool.eq_false_iff]
      intro hc
      simp [words4] at hc
      rcases hc with ⟨a, _⟩ | ⟨a, _⟩ | ⟨a, _⟩ | ⟨a, _⟩
      · exact l3 a
      · exact l4 a
      · exact l5 a
      · exact l5 a
    unfold guessS
    rw [hw]
    simp only [List.headD_cons, List.drop_one, List.tail_cons, Bool.false_eq_true, if_false]
    rw [l1, if_pos (by omega), ez, digS_decL (by omega)]
    congr 1 <;> omega
  · subst h1; subst h4
    have e : devT ⟨11, n, 0⟩ = decZ n := rfl
    rw [e]
    obtain ⟨c, r, e1, e2, e3, _⟩ := decZ_head n
    have hi := digit_idx e2
    have hh : (decZ n).headD 0 = c := by rw [e1]; rfl
    have hdot : (46 : UInt8) ∉ decZ n := by
      rw [e1]
      intro hm
      rcases List.mem_cons.1 hm with rfl | hm
      · exact absurd e2 (by decide)
      · exact absurd (e3 46 hm) (by decide)
    unfold guessS
    rw [decZ_words]
    simp only [Bool.false_eq_true, if_false]
    rw [hh, hi, if_neg (by omega)]
    by_cases hn : n < 0
    · have ez : decZ n = 45 :: decL n.natAbs := by unfold decZ; rw [if_pos hn]
      have hc : c = 45 := by rw [ez] at e1; injection e1 with a b; exact a.symm
      rw [if_pos hc, if_pos hc, ez]
      simp only [List.drop_one, List.tail_cons]
      rw [idxL_miss (decL_not (by decide)), if_pos (by omega), digS_decL (by omega)]
      congr 1; omega
    · have ez : decZ n = decL n.natAbs := by unfold decZ; rw [if_neg hn]
      have hc : ¬ c = 45 := fun hc => by
        have := decL_dig n.natAbs c (by rw [← ez, e1]; simp)
        subst hc; exact absurd this (by decide)
      rw [if_neg hc, if_neg hc, ez, idxL_miss (decL_not (by decide)), if_pos (by omega), digS_decL (by omega)]
      congr 1; omega
  · subst h1
    have hgI := guessI_devT (d := ⟨12, n, p⟩) h
    have e : devT ⟨12, n, p⟩ = decT n p.toNat := rfl
    rw [e] at hgI ⊢
    obtain ⟨a, b, ed, g1, g2, g3⟩ := decT_split n p.toNat
    have hd : Digs (a ++ b) := by rw [g3]; exact padS_digs (decL_dig _)
    have hval : valD (a ++ b) = n.natAbs := by rw [g3, padS_val, valD_dec]
    have hlen : (a ++ b).length ≤ 17 := by
      rw [g3, padS_len]
      have := decL_len n.natAbs 8 (by omega)
      omega
    obtain ⟨c, r, ea⟩ : ∃ c r, a = c :: r := by cases a with
      | nil => exact absurd rfl g1
      | cons c r => exact ⟨c, r, rfl⟩
    have hc : 48 ≤ c.toNat ∧ c.toNat ≤ 57 := hd c (by rw [ea]; simp)
    have hdot : (46 : UInt8) ∉ a := digs_not hd.app.1 (by decide)
    have hw : words4.contains (decT n p.toNat) = false := by
      rw [Bool.eq_false_iff]
      intro hm
      unfold guessI at hgI
      rw [if_pos hm] at hgI
      injection hgI with k1 k2 k3
      omega
    have hi : idxL ((decT n p.toNat).headD 0) letters = -1 := by
      refine digit_idx ?_
      rw [ed, ea]; unfold signS; split
      · right; rfl
      · left; exact hc
    unfold guessS
    rw [hw]
    simp only [Bool.false_eq_true, if_false]
    rw [hi, if_neg (by omega)]
    by_cases hn : n < 0
    · have es : decT n p.toNat = 45 :: (a ++ 46 :: b) := by rw [ed]; unfold signS; rw [if_pos hn]; simp
      have hh : (decT n p.toNat).headD 0 = 45 := by rw [es]; rfl
      rw [if_pos hh, if_pos hh, es]
      simp only [List.drop_one, List.tail_cons]
      rw [idxL_hit hdot, if_neg (by omega), Int.toNat_natCast, List.take_left, show a.length + 1 = (a ++ [46]).length by simp, show a ++ 46 :: b = (a ++ [46]) ++ b by simp, List.drop_left,
        digS_of (by rw [ea]; simp) hlen hd, hval]
      simp only [List.length_append, List.length_cons, List.length_nil]
      congr 1 <;> omega
    · have es : decT n p.toNat = a ++ 46 :: b := by rw [ed]; unfold signS; rw [if_neg hn]; simp
      have hh : ¬ (decT n p.toNat).headD 0 = 45 := by
        rw [es, ea]
        intro e
        have : c = 45 := e
        subst this; exact absurd hc (by decide)
      rw [if_neg hh, if_neg hh, es]
      rw [idxL_hit hdot, if_neg (by omega), Int.toNat_natCast, List.take_left, show a.length + 1 = (a ++ [46]).length by simp, show a ++ 46 :: b = (a ++ [46]) ++ b by simp, List.drop_left,
        digS_of (by rw [ea]; simp) hlen hd, hval]
      simp only [List.length_append, List.length_cons, List.length_nil]
      congr 1 <;> omega
  · subst h1; subst h4
    have : n = 0 ∨ n = 1 ∨ n = 2 ∨ n = 3 := by omega
    rcases this with rfl | rfl | rfl | rfl <;> decide
theorem guessS_dev {d : Dev} (h : dOk d = true) : guessS (devL d) = d := by rw [devL_ok h]; exact guessS_devT h
theorem devRd_guess (t : Str) : (if t ≠ [] ∧ devL (guessS t) = t then some (guessS t) else none) = devRd t := devRd_of fun d hd e => by rw [← e, guessS_dev hd]
def devCh (c : UInt8) : Bool := (decide (48 ≤ c.toNat) && decide (c.toNat ≤ 57)) || [45, 46, 97, 102, 105, 110, 88, 89, 77, 83, 69, 71, 84, 67, 68, 82].contains c
theorem digs_devCh {c : UInt8} (h : 48 ≤ c.toNat ∧ c.toNat ≤ 57) : devCh c = true := by unfold devCh; simp [h]
theorem devT_ch {d : Dev} (h : dOk d = true) : ∀ c ∈ devT d, devCh c = true := by
  obtain ⟨k, n, p⟩ := d
  have hz : ∀ (n : Int), ∀ c ∈ decZ n, devCh c = true := fun n c hc => by
    unfold decZ at hc
    split at hc
    · rcases List.mem_cons.1 hc with rfl | hc
      · decide
      · exact digs_devCh (decL_dig _ c hc)
    · exact digs_devCh (decL_dig _ c hc)
  rcases dOk_cases h with ⟨h1, h2, h3, h4, h5⟩ | ⟨h1, h2, h3, h4⟩ | ⟨h1, h2, h3, h4, h5, h6⟩ | ⟨h1, h2, h3, h4⟩ <;> simp only at *
  · have e : devT ⟨k, n, p⟩ = letterU k :: decZ n := by
      unfold devT
      simp only
      rw [if_neg (by omega), if_neg (by omega), if_neg (by omega)]
    rw [e]
    intro c hc
    rcases List.mem_cons.1 hc with rfl | hc
    · have : k = 1 ∨ k = 2 ∨ k = 3 ∨ k = 4 ∨ k = 5 ∨ k = 6 ∨ k = 7 ∨ k = 8 ∨ k = 9 ∨ k = 10 := by omega
      rcases this with rfl | rfl | rfl | rfl | rfl | rfl | rfl | rfl | rfl | rfl <;> decide
    · exact hz n c hc
  · subst h1
    exact hz n
  · subst h1
    have e : devT ⟨12, n, p⟩ = decT n p.toNat := rfl
    obtain ⟨a, b, ed, g1, g2, g3⟩ := decT_split n p.toNat
    have hd : Digs (a ++ b) := by rw [g3]; exact padS_digs (decL_dig _)
    rw [e, ed]
    intro c hc
    rcases List.mem_append.1 hc with hc | hc
    · rcases List.mem_append.1 hc with hc | hc
      · unfold signS at hc
        split at hc
        · rw [List.mem_singleton] at hc; subst hc; decide
        · simp at hc
      · exact digs_devCh (hd.app.1 c hc)
    · rcases List.mem_cons.1 hc with rfl | hc
      · decide
      · exact digs_devCh (hd.app.2 c hc)
  · subst h1; subst h4
    have : n = 0 ∨ n = 1 ∨ n = 2 ∨ n = 3 := by omega
    rcases this with rfl | rfl | rfl | rfl <;> decide
theorem devL_ch (d : Dev) : ∀ c ∈ devL d, devCh c = true := by
  cases h : dOk d
  · rw [devL_bad h]; simp
  · rw [devL_ok h]; exact devT_ch h
theorem devL_not {d : Dev} {c : UInt8} (h : devCh c = false) : c ∉ devL d := fun hm => by rw [devL_ch d c hm] at h; cases h
theorem devRd_not {t : Str} {c : UInt8} (h : devCh c = false) (hm : c ∈ t) : devRd t = none := by
  cases e : devRd t with
  | none => rfl
  | some d =>
    obtain ⟨_, h2⟩ := devRd_some e
    exact absurd (by rw [h2]; exact hm) (devL_not (d := d) h)
end Go.Sx
namespace Go.Sx
open Go

theorem index_one (c : UInt8) : ∀ s : Str, Lib.index s [c] = idxL c s
  | [] => rfl
  | x :: s => by
    rw [Lib.index, idxL, index_one c s]
    simp only [List.isPrefixOf, Bool.and_true, beq_iff_eq]
    by_cases h : x = c
    · rw [if_pos h.symm, if_pos h]
    · rw [if_neg (fun e => h e.symm), if_neg h]
theorem splitK_join {c : UInt8} : ∀ (ws : List Str) (k : Nat), ws ≠ [] → ws.length ≤ k + 1 → (∀ w ∈ ws, c ∉ w) → Lib.splitK [c] 0 k (joinL c ws) = ws
  | [], _, h, _, _ => absurd rfl h
  | [w], k, _, _, h => by
    have hw : c ∉ w := h w (by simp)
    cases k with
    | zero => rfl
    | succ k =>
      show Lib.splitK [c] 0 (k + 1) w = [w]
      rw [Lib.splitK, index_one, idxL_miss hw]
      simp
  | w :: x :: r, k, _, hl, h => by
    have hw : c ∉ w := h w (by simp)
    match k, hl with
    | k + 1, hl =>
      rw [joinL_cons c w (by simp), Lib.splitK, index_one, idxL_hit hw]
      rw [if_neg (by simp only [beq_iff_eq]; omega)]
      simp only [Int.toNat_natCast, Nat.add_zero, List.length_cons, List.length_nil, Nat.zero_add]
      rw [List.take_left, show w ++ c :: joinL c (x :: r) = (w ++ [c]) ++ joinL c (x :: r) by simp, show w.length + 1 = (w ++ [c]).length by simp, List.drop_left,
        splitK_join (x :: r) k (by simp) (by simpa using hl) fun y hy => h y (by simp [hy])]
theorem joinL_count (c : UInt8) : ∀ (ws : List Str), ws ≠ [] → ws.length ≤ (joinL c ws).length + 1
  | [], h => absurd rfl h
  | [w], _ => by simp
  | w :: x :: r, _ => by
    have := joinL_count c (x :: r) (by simp)
    rw [joinL_cons c w (by simp), List.length_append, List.length_cons (a := w), List.length_cons (a := c)]
    omega
theorem splitN_join {c : UInt8} {ws : List Str} {n : Nat} (h0 : ws ≠ []) (hn : ws.length ≤ n) (h : ∀ w ∈ ws, c ∉ w) : Lib.splitN (joinL c ws) [c] n = ws := by
  unfold Lib.splitN
  have := joinL_count c ws h0
  have h1 : 0 < ws.length := List.length_pos_iff.2 h0
  exact splitK_join ws _ h0 (by omega) h
theorem cut_one (c : UInt8) (s : Str) : Lib.cut s [c] = cutAt c s := by
  unfold Lib.cut
  rw [index_one]
  by_cases hm : c ∈ s
  · obtain ⟨a, b, rfl, ha⟩ := List.eq_append_cons_of_mem hm
    rw [cutAt_hit ha, idxL_hit ha, if_pos (by omega), Int.toNat_natCast, List.take_left]
    have : (a ++ c :: b).drop (a.length + [c].length) = b := by
      rw [show a ++ c :: b = (a ++ [c]) ++ b by simp, show a.length + [c].length = (a ++ [c]).length by simp, List.drop_left]
    rw [this]
  · rw [cutAt_miss hm, idxL_miss hm, if_neg (by omega)]
def eOk (op : Int) (xs : List Dev) : Bool := coilOk op xs || conOk op xs
def idxW (w : Str) : List Str → Int
  | [] => -1
  | x :: l => if x = w then 0 else if idxW w l = -1 then -1 else idxW w l + 1
theorem idxW_miss {w : Str} : ∀ {l : List Str}, w ∉ l → idxW w l = -1
  | [], _ => rfl
  | x :: l, h => by
    have h1 : ¬ x = w := fun e => h (by simp [e])
    rw [idxW, if_neg h1, if_pos (idxW_miss fun e => h (by simp [e]))]
theorem idxW_hit {w : Str} : ∀ {l : List Str} {i : Nat}, l[i]? = some w → (∀ j, j < i → l[j]? ≠ some w) → idxW w l = i
  | [], i, h, _ => by simp at h
  | x :: l, 0, h, _ => by
    have : x = w := by simpa using h
    rw [idxW, if_pos this]; rfl
  | x :: l, i + 1, h, hn => by
    have h0 : ¬ x = w := fun e => hn 0 (by omega) (by simp [e])
    rw [idxW, if_neg h0, idxW_hit (i := i) (by simpa using h) (fun j hj => by have := hn (j + 1) (by omega); simpa using this), if_neg (by omega)]
    omega
theorem idxW_bd (w : Str) (l : List Str) : -1 ≤ idxW w l ∧ idxW w l < l.length := by
  induction l with
  | nil => simp [idxW]
  | cons x l ih =>
    rw [idxW, List.length_cons]
    split
    · omega
    · split <;> omega
end Go.Sx
namespace Go.Sx
open Go

def cutL (c : UInt8) : Str → List Str
  | [] => [[]]
  | x :: s => if x = c then [] :: cutL c s else match cutL c s with
    | [] => [[x]]
    | w :: r => (x :: w) :: r
theorem cutL_ne (c : UInt8) : ∀ s, cutL c s ≠ []
  | [] => by simp [cutL]
  | x :: s => by
    unfold cutL
    split
    · simp
    · split <;> simp
theorem cutL_one {c : UInt8} : ∀ {w : Str}, c ∉ w → cutL c w = [w]
  | [], _ => rfl
  | x :: s, h => by
    simp only [List.mem_cons, not_or] at h
    unfold cutL
    rw [if_neg (fun e => h.1 e.symm), cutL_one h.2]
theorem cutL_app {c : UInt8} {s : Str} : ∀ {w : Str}, c ∉ w → cutL c (w ++ c :: s) = w :: cutL c s
  | [], _ => by
    show (if c = c then _ else _) = _
    rw [if_pos rfl]
  | x :: w, h => by
    simp only [List.mem_cons, not_or] at h
    show (if x = c then _ else _) = _
    rw [if_neg (fun e => h.1 e.symm)]
    show (match cutL c (w ++ c :: s) with | [] => [[x]] | w :: r => (x :: w) :: r) = _
    rw [cutL_app h.2]
theorem cutL_join {c : UInt8} : ∀ {ws : List Str}, ws ≠ [] → (∀ w ∈ ws, c ∉ w) → cutL c (joinL c ws) = ws
  | [], h, _ => absurd rfl h
  | [w], _, h => cutL_one (h w (by simp))
  | w :: x :: r, _, h => by
    rw [joinL_cons c w (by simp), cutL_app (h w (by simp)), cutL_join (by simp) fun y hy => h y (by simp [hy])]
def wordsL (s : Str) : List Str := (cutL 32 s).filter (fun w => decide (w ≠ []))
theorem cutL_count (c : UInt8) : ∀ s : Str, (cutL c s).length = (s.filter fun x => x == c).length + 1
  | [] => rfl
  | x :: s => by
    have ih := cutL_count c s
    unfold cutL
    by_cases h : x = c
    · rw [if_pos h, List.length_cons, ih, List.filter_cons, if_pos (by simp [h])]
      simp
    · rw [if_neg h, List.filter_cons, if_neg (by simp [h])]
      cases hc : cutL c s with
      | nil => exact absurd hc (cutL_ne c s)
      | cons w r => rw [hc] at ih; simpa using ih
end Go.Sx
namespace Go.Sx
open Go

theorem txt_get (l : Str) (i : Nat) : (txt l)[i]? = l[i]? := by
  by_cases h : i < l.length
  · have h' : i < (txt l).size := h
    rw [getElem?_pos (txt l) i h', List.getElem?_eq_getElem h]; rfl
  · have h' : ¬ i < (txt l).size := h
    rw [getElem?_neg (txt l) i h', List.getElem?_eq_none (by omega)]
def Hit (t : Str) (op : Int) (xs : List Dev) : Prop := ∀ o ys, eOk o ys = true → elemL o ys = t → op = o ∧ xs = ys
end Go.Sx
namespace Go.Sx
open Go

theorem idxL_step {c x : UInt8} {s : Str} {i : Nat} (h : s[i]? = some x) : idxL c (s.drop i) = if x = c then 0 else if idxL c (s.drop (i + 1)) = -1 then -1 else idxL c (s.drop (i + 1)) + 1 := by
  obtain ⟨hl, he⟩ := List.getElem?_eq_some_iff.1 h
  rw [List.drop_eq_getElem_cons hl, he, idxL]
theorem idxL_bd (c : UInt8) : ∀ s : Str, -1 ≤ idxL c s ∧ idxL c s < s.length
  | [] => by simp [idxL]
  | x :: s => by
    have := idxL_bd c s
    rw [idxL, List.length_cons]
    split
    · omega
    · split <;> omega
theorem valF_take {s : Str} {i : Nat} {x : UInt8} (h : s[i]? = some x) : valF 0 (s.take (i + 1)) = 10 * valF 0 (s.take i) + (x.toNat - 48) := by
  rw [List.take_add_one, h, Option.toList_some, valF_app]
  rfl
theorem valF_lt : ∀ (l : Str) (acc : Nat), Digs l → valF acc l < (acc + 1) * 10 ^ l.length
  | [], acc, _ => by simp [valF]
  | c :: l, acc, h => by
    rw [valF_cons]
    have hc := h c (by simp)
    have := valF_lt l (10 * acc + (c.toNat - 48)) fun x hx => h x (by simp [hx])
    refine Nat.lt_of_lt_of_le this ?_
    rw [List.length_cons, Nat.pow_succ, ← Nat.mul_assoc, Nat.mul_right_comm]
    exact Nat.mul_le_mul_right _ (by omega)
theorem valF_17 {l : Str} (h : Digs l) (hl : l.length ≤ 17) : valF 0 l < 100000000000000000 := by
  have := valF_lt l 0 h
  have h2 : 10 ^ l.length ≤ 10 ^ 17 := Nat.pow_le_pow_right (by decide) hl
  rw [Nat.zero_add, Nat.one_mul] at this
  have e : (10 : Nat) ^ 17 = 100000000000000000 := by decide
  omega
theorem digs_take {s : Str} {i : Nat} {x : UInt8} (h : s[i]? = some x) (hd : Digs (s.take i)) (hx : 48 ≤ x.toNat ∧ x.toNat ≤ 57) : Digs (s.take (i + 1)) := by
  rw [List.take_add_one, h, Option.toList_some]
  intro c hc
  rcases List.mem_append.1 hc with hc | hc
  · exact hd c hc
  · rw [List.mem_singleton] at hc; subst hc; exact hx
theorem word_mem {s : Str} (h : 0 ≤ idxW s words4) : s = [110, 97, 110] ∨ s = [105, 110, 102] ∨ s = [45, 105, 110, 102] ∨ s = [45, 48, 46, 48] := by
  have : s ∈ words4 := Decidable.byContradiction fun hn => by rw [idxW_miss hn] at h; omega
  simpa [words4] using this
theorem word_guess {s : Str} (h : 0 ≤ idxW s words4) : guessI s = ⟨13, idxW s words4, 0⟩ ∧ devL ⟨13, idxW s words4, 0⟩ = s ∧ s ≠ [] := by
  rcases word_mem h with rfl | rfl | rfl | rfl <;> exact ⟨rfl, rfl, by decide⟩
theorem word_rd {s : Str} (h : 0 ≤ idxW s words4) : devRd s = some ⟨13, idxW s words4, 0⟩ := by
  obtain ⟨h1, h2, h3⟩ := word_guess h
  unfold devRd
  rw [h1, if_pos ⟨h3, h2⟩]
theorem word_no {s : Str} (h : ¬ 0 ≤ idxW s words4) : words4.contains s = false := by
  rw [Bool.eq_false_iff]
  intro hc
  have hm : s ∈ words4 := List.contains_iff_mem.1 hc
  simp only [words4, List.mem_cons, List.not_mem_nil, or_false] at hm
  rcases hm with rfl | rfl | rfl | rfl <;> exact h (by decide)
theorem devRd_nil : devRd [] = none := by
  unfold devRd
  rw [if_neg fun h => h.1 rfl]
theorem devRd_by {s : Str} {g : Dev} (hs : s ≠ []) (hg : guessI s = g) : devRd s = if devL g = s then some g else none := by
  unfold devRd
  rw [hg]
  by_cases h : devL g = s
  · rw [if_pos ⟨hs, h⟩, if_pos h]
  · rw [if_neg fun e => h e.2, if_neg h]
theorem devRd_byS {s : Str} {g : Dev} (hs : s ≠ []) (hg : guessS s = g) : devRd s = if devL g = s then some g else none := by
  rw [← devRd_guess s, hg]
  by_cases h : devL g = s
  · rw [if_pos ⟨hs, h⟩, if_pos h]
  · rw [if_neg fun e => h e.2, if_neg h]
theorem guess_letter {x : UInt8} {r : Str} (hw : ¬ 0 ≤ idxW (x :: r) words4) (h : 0 ≤ idxL x letters) : guessI (x :: r) = ⟨1 + idxL x letters, atoiV r, 0⟩ := by
  unfold guessI
  rw [word_no hw]
  simp [h]
theorem guess_dec {x : UInt8} {r : Str} (hw : ¬ 0 ≤ idxW (x :: r) words4) (h : ¬ 0 ≤ idxL x letters) (hc : (cutAt 46 (x :: r)).2.2 = true) : guessI (x :: r) = ⟨12, atoiV ((cutAt 46 (x :: r)).1 ++ (cutAt 46 (x :: r)).2.1), (cutAt 46 (x :: r)).2.1.length⟩ := by
  unfold guessI
  rw [word_no hw, hc]
  simp [h]
theorem guess_int {x : UInt8} {r : Str} (hw : ¬ 0 ≤ idxW (x :: r) words4) (h : ¬ 0 ≤ idxL x letters) (hc : (cutAt 46 (x :: r)).2.2 = false) : guessI (x :: r) = ⟨11, atoiV (x :: r), 0⟩ := by
  unfold guessI
  rw [word_no hw, hc]
  simp [h]
theorem cutAt_len (c : UInt8) (s : Str) : (cutAt c s).1.length ≤ s.length ∧ (cutAt c s).2.1.length ≤ s.length ∧ (cutAt c s).1.length + (cutAt c s).2.1.length ≤ s.length := by
  unfold cutAt
  split
  · have h1 : (s.takeWhile (· != c)).length + (s.dropWhile (· != c)).length = s.length := by rw [← List.length_append, List.takeWhile_append_dropWhile]
    simp only [List.length_drop]
    omega
  · simp
theorem word_guessS {s : Str} (h : 0 ≤ idxW s words4) : guessS s = ⟨13, idxW s words4, 0⟩ := by
  rcases word_mem h with rfl | rfl | rfl | rfl <;> rfl
theorem letters_none {x : UInt8} (h : ∀ k : Int, 1 ≤ k → k ≤ 10 → letterU k ≠ x) : idxL x letters = -1 := by
  refine idxL_miss fun hm => ?_
  simp only [letters, List.mem_cons, List.not_mem_nil, or_false] at hm
  rcases hm with rfl | rfl | rfl | rfl | rfl | rfl | rfl | rfl | rfl | rfl
  · exact h 1 (by decide) (by decide) rfl
  · exact h 2 (by decide) (by decide) rfl
  · exact h 3 (by decide) (by decide) rfl
  · exact h 4 (by decide) (by decide) rfl
  · exact h 5 (by decide) (by decide) rfl
  · exact h 6 (by decide) (by decide) rfl
  · exact h 7 (by decide) (by decide) rfl
  · exact h 8 (by decide) (by decide) rfl
  · exact h 9 (by decide) (by decide) rfl
  · exact h 10 (by decide) (by decide) rfl
theorem guessS_letter {x : UInt8} {r : Str} (hw : ¬ 0 ≤ idxW (x :: r) words4) (h : 0 ≤ idxL x letters) : guessS (x :: r) = ⟨1 + idxL x letters, digS r, 0⟩ := by
  unfold guessS
  rw [word_no hw]
  simp [h]
theorem guessS_num {x : UInt8} {r : Str} (hw : ¬ 0 ≤ idxW (x :: r) words4) (h : ¬ 0 ≤ idxL x letters) : guessS (x :: r) =
    if idxL 46 (if x = 45 then r else x :: r) < 0 then ⟨11, (if x = 45 then -1 else 1) * digS (if x = 45 then r else x :: r), 0⟩
    else ⟨12, (if x = 45 then -1 else 1) * digS ((if x = 45 then r else x :: r).take (idxL 46 (if x = 45 then r else x :: r)).toNat ++ (if x = 45 then r else x :: r).drop ((idxL 46 (if x = 45 then r else x :: r)).toNat + 1)),
      (if x = 45 then r else x :: r).length - idxL 46 (if x = 45 then r else x :: r) - 1⟩ := by
  unfold guessS
  rw [word_no hw]
  simp [h]
theorem guessS_nil : guessS [] = ⟨11, -1, 0⟩ := rfl
theorem digS_bd (l : Str) : -1 ≤ digS l ∧ digS l < 100000000000000000 := by
  unfold digS
  split
  · omega
  · rename_i h
    have h17 : ¬ 17 < l.length := fun e => h (Or.inr (Or.inl e))
    have hd : Digs l := Decidable.byContradiction fun e => h (Or.inr (Or.inr e))
    have := valF_17 hd (by omega)
    rw [valD_eq]
    omega
def devTup (o : Option Dev) : Value := match o with
  | some d => .tuple #[.agg #[.int .i64 d.k, .int .i64 d.n, .int .i64 d.p], .bool true]
  | none => .tuple #[.agg #[.int .i64 0, .int .i64 0, .int .i64 0], .bool false]
end Go.Sx
