/-
  Contracts: numbers as texts, by the reference; memories compared by their texts.
-/
import Derived.Test.YtclbanhoiaieaaaGreatDoorVva
import Derived.Test.YtclbanhoiaieaaaGreatDoorPva
import Derived.Test.YtclbanhoiaieaaaGreatDoorHva
import Derived.Test.YtclbanhoiaieaaaGreatDoorInva
import Derived.Test.YtclbanhoiaieaaaGreatDoorMcva
import Derived.Test.YtclbanhoiaieaaaGreatDoorIva
import Derived.Test.YtclbanhoiaieaaaGreatDoorFactsva
import Derived.Test.YtclbanhoiaieaaaGreatDoorAva
import Derived.Test.YtclbanhoiaieaaaGreatDoorSwva
set_option linter.unusedVariables false
set_option linter.unusedSimpArgs false
set_option maxRecDepth 100000
set_option maxHeartbeats 4000000
namespace Go.Sx
open Go

structure Norm (m : Nat) (i : Int) : Prop where
  lo : -1074 ≤ i
  hi : i ≤ 971
  sm : m < 9007199254740992
  nr : 4503599627370496 ≤ m ∨ i = -1074
theorem read_norm {x : Nat} {s : Bool} {m : Nat} {i : Int} (h : dbl.read x = .number s m i) : Norm m i := by
  obtain ⟨c1, c2, c3, c4⟩ := consts
  unfold Ieee.Format.read at h
  simp only [c1, c2, c3, c4] at h
  split at h
  · injection h with h1 h2 h3
    refine ⟨?_, ?_, ?_, ?_⟩ <;> omega
  split at h
  · injection h with h1 h2 h3
    refine ⟨?_, ?_, ?_, ?_⟩ <;> omega
  split at h <;> cases h
def rungOf (m : Nat) (i : Int) : Nat := (i + 1074).toNat * 4503599627370496 + m
theorem read_word {neg : Bool} {m : Nat} {i : Int} (h : Norm m i) : dbl.read (dbl.word neg (rungOf m i)) = .number neg m i := by
  obtain ⟨c1, c2, c3, c4⟩ := consts
  obtain ⟨h1, h2, h3, h4⟩ := h
  unfold Ieee.Format.read Ieee.Format.word rungOf
  simp only [c1, c2, c3, c4]
  obtain ⟨e, rfl⟩ : ∃ e : Nat, i = (e : Int) - 1074 := ⟨(i + 1074).toNat, by omega⟩
  have ee : ((e : Int) - 1074 + 1074).toNat = e := by omega
  rw [ee]
  have hr : (if neg = true then 9223372036854775808 + (e * 4503599627370496 + m) else e * 4503599627370496 + m) % 9223372036854775808 = e * 4503599627370496 + m := by
    cases neg <;> simp <;> omega
  have hn : ((if neg = true then 9223372036854775808 + (e * 4503599627370496 + m) else e * 4503599627370496 + m) / 9223372036854775808 % 2 == 1) = neg := by
    cases neg <;> simp <;> omega
  rw [hr, hn]
  rcases h4 with h4 | h4
  · rw [if_neg (by omega), if_pos (by omega)]
    have g1 : 4503599627370496 + (e * 4503599627370496 + m) % 4503599627370496 = m := by omega
    have g2 : (-1074 : Int) + (((e * 4503599627370496 + m) / 4503599627370496 - 1 : Nat) : Int) = (e : Int) - 1074 := by omega
    rw [g1, g2]
  · have he : e = 0 := by omega
    subst he
    by_cases hm : m < 4503599627370496
    · rw [if_pos (by omega)]
      simp
    · rw [if_neg (by omega), if_pos (by omega)]
      have g1 : 4503599627370496 + (0 * 4503599627370496 + m) % 4503599627370496 = m := by omega
      have g2 : (-1074 : Int) + (((0 * 4503599627370496 + m) / 4503599627370496 - 1 : Nat) : Int) = ((0 : Nat) : Int) - 1074 := by omega
      rw [g1, g2]
theorem log2_pow {m : Nat} (h : m ≠ 0) : ∀ a, (m * 2 ^ a).log2 = m.log2 + a
  | 0 => by simp
  | a + 1 => by
    have h0 : m * 2 ^ a ≠ 0 := Nat.mul_ne_zero h (Nat.ne_of_gt (Nat.two_pow_pos a))
    rw [Nat.pow_succ, ← Nat.mul_assoc, Nat.mul_comm (m * 2 ^ a) 2, Nat.log2_two_mul h0, log2_pow h a]; omega
theorem cut_exact {neg : Bool} {m a : Nat} (h : m ≠ 0) : Ieee.Toward.even.cut neg (m * 2 ^ a) a = m := by
  simp only [Ieee.Toward.cut, Nat.shiftLeft_eq, Nat.one_mul]
  rw [log2_pow h, Nat.min_eq_left (by omega)]
  have hp := Nat.two_pow_pos a
  rw [Nat.mul_mod_left, Nat.mul_div_cancel _ hp]
  have h1 : ¬ 2 ^ a < 2 * 0 := by omega
  have h2 : (2 ^ a == 2 * 0) = false := by rw [beq_eq_false_iff_ne]; omega
  rw [h2]
  simp [h1]
theorem nearest_norm {neg : Bool} {mag m : Nat} {place i : Int} (h0 : m ≠ 0) (hN : Norm m i) (hv : (∃ a : Nat, place = i - a ∧ mag = m * 2 ^ a) ∨ (∃ a : Nat, place = i + a ∧ m = mag * 2 ^ a)) :
    dbl.nearest neg mag place = dbl.word neg (rungOf m i) := by
  obtain ⟨c1, c2, c3, c4⟩ := consts
  obtain ⟨n1, n2, n3, n4⟩ := hN
  have hl53 : m.log2 < 53 := (Nat.log2_lt h0).2 n3
  have hl52 : 4503599627370496 ≤ m → 52 ≤ m.log2 := by
    intro hm
    rcases Nat.lt_or_ge m.log2 52 with hl | hl
    · have := (Nat.log2_lt h0).1 hl
      have e : (2 : Nat) ^ 52 = 4503599627370496 := rfl
      omega
    · exact hl
  have hf : dbl.fractionBits = 52 := rfl
  have hlast : max (i + m.log2 - (52 : Nat)) (-1074) = i := by
    rcases n4 with n4 | n4
    · have := hl52 n4; omega
    · omega
  have hmin : min ((i + 1074).toNat * 4503599627370496 + m) 9218868437227405312 = (i + 1074).toNat * 4503599627370496 + m := by
    rw [Nat.min_eq_left]; omega
  unfold Ieee.Format.nearest rungOf
  simp only [hf, c2, c3, c4]
  rcases hv with ⟨a, rfl, rfl⟩ | ⟨a, rfl, rfl⟩
  · have hm0 : m * 2 ^ a ≠ 0 := Nat.mul_ne_zero h0 (Nat.ne_of_gt (Nat.two_pow_pos a))
    rw [if_neg hm0, log2_pow h0]
    have e1 : i - (a : Int) + ((m.log2 + a : Nat) : Int) - (52 : Nat) = i + m.log2 - (52 : Nat) := by omega
    rw [e1, hlast]
    have e2 : (i - (a : Int) - i).toNat = 0 := by omega
    have e3 : (i - (i - (a : Int))).toNat = a := by omega
    rw [e2, e3, Nat.shiftLeft_eq, Nat.pow_zero, Nat.mul_one, cut_exact h0]
    have e4 : (i - -1074).toNat = (i + 1074).toNat := by omega
    rw [e4, hmin]
  · have hm0 : mag ≠ 0 := by rintro rfl; simp at h0
    rw [if_neg hm0]
    have e1 : i + (a : Int) + (mag.log2 : Int) - (52 : Nat) = i + (mag * 2 ^ a).log2 - (52 : Nat) := by rw [log2_pow hm0]; omega
    rw [e1, hlast]
    have e2 : (i + (a : Int) - i).toNat = a := by omega
    have e3 : (i - (i + (a : Int))).toNat = 0 := by omega
    rw [e2, e3, Nat.shiftLeft_eq, cut_zero]
    have e4 : (i - -1074).toNat = (i + 1074).toNat := by omega
    rw [e4, hmin]
theorem read_two : dbl.read 4611686018427387904 = .number false 4503599627370496 (-51) := by kernel_rfl
theorem div2 {x : Nat} {s : Bool} {m : Nat} {i : Int} (h : dbl.read x = .number s m i) (hi : 1 ≤ i) : dbl.div x 4611686018427387904 = some (dbl.word s (rungOf m (i - 1))) := by
  obtain ⟨n1, n2, n3, n4⟩ := read_norm h
  have hm : 4503599627370496 ≤ m := by omega
  have h0 : m ≠ 0 := by omega
  have hl53 : m.log2 < 53 := (Nat.log2_lt h0).2 n3
  unfold Ieee.Format.div
  rw [h, read_two]
  have hl : Nat.log2 4503599627370496 = 52 := by decide +kernel
  have hf : dbl.fractionBits = 52 := rfl
  simp only [Ieee.Datum.quotient, hl, hf, Option.map_some]
  rw [if_neg (by decide)]
  simp only [Option.map_some, Option.some.injEq]
  obtain ⟨a, ha⟩ : ∃ a, 52 + 2 + 52 - m.log2 = a + 52 := ⟨52 + 2 - m.log2, by omega⟩
  rw [ha, Nat.shiftLeft_eq]
  have e1 : m * 2 ^ (a + 52) = m * 2 ^ a * 4503599627370496 := by rw [Nat.pow_add, Nat.mul_assoc]
  rw [e1, Nat.mul_div_cancel _ (by decide), Nat.mul_mod_left]
  unfold Ieee.Format.write
  simp only [Bool.xor_false]
  refine nearest_norm h0 ⟨by omega, by omega, n3, Or.inl hm⟩ (Or.inl ⟨a + 1, by omega, ?_⟩)
  rw [Nat.pow_succ]
  have : (0 != 0) = false := rfl
  rw [this]
  show 2 * (m * 2 ^ a) + 0 = m * (2 ^ a * 2)
  rw [Nat.add_zero, Nat.mul_comm 2, Nat.mul_assoc]
theorem mul2 {x : Nat} {s : Bool} {m : Nat} {i : Int} (h : dbl.read x = .number s m i) (h0 : m ≠ 0) (hi : i ≤ 970) :
    dbl.mul x 4611686018427387904 = some (if 4503599627370496 ≤ m then dbl.word s (rungOf m (i + 1)) else dbl.word s (rungOf (2 * m) i)) := by
  obtain ⟨n1, n2, n3, n4⟩ := read_norm h
  unfold Ieee.Format.mul
  rw [h, read_two]
  simp only [Ieee.Datum.product, Option.map_some, Option.some.injEq]
  unfold Ieee.Format.write
  simp only [Bool.xor_false]
  split
  · rename_i hm
    refine nearest_norm h0 ⟨by omega, by omega, n3, Or.inl hm⟩ (Or.inl ⟨52, by omega, rfl⟩)
  · rename_i hm
    have hi' : i = -1074 := by omega
    refine nearest_norm (by omega) ⟨by omega, by omega, by omega, Or.inr hi'⟩ (Or.inl ⟨51, by omega, ?_⟩)
    have : (2 : Nat) ^ 51 = 2251799813685248 := rfl
    omega
end Go.Sx
namespace Go.Sx
open Go

def unitsV (m : Nat) (i : Int) : Nat := m * 2 ^ (i + 1074).toNat
theorem units_up {m : Nat} {i : Int} (hi : -1074 ≤ i) : unitsV m (i + 1) = unitsV (2 * m) i := by
  unfold unitsV
  rw [show (i + 1 + 1074).toNat = (i + 1074).toNat + 1 by omega, Nat.pow_succ, Nat.mul_comm 2 m, Nat.mul_assoc, Nat.mul_comm 2]
def strip (m : Nat) : Nat × Nat := if h : m ≠ 0 ∧ m % 2 = 0 then ((strip (m / 2)).1, (strip (m / 2)).2 + 1) else (m, 0)
termination_by m
decreasing_by all_goals omega
theorem strip_odd {m : Nat} (h : m % 2 = 1) : strip m = (m, 0) := by
  rw [strip, dif_neg (by omega)]
theorem strip_two {m : Nat} (h : m ≠ 0) : strip (2 * m) = ((strip m).1, (strip m).2 + 1) := by
  rw [strip, dif_pos (by omega), show 2 * m / 2 = m by omega]
theorem strip_pow {m : Nat} (h : m ≠ 0) : ∀ k, strip (m * 2 ^ k) = ((strip m).1, (strip m).2 + k)
  | 0 => by simp
  | k + 1 => by
    have h0 : m * 2 ^ k ≠ 0 := Nat.mul_ne_zero h (Nat.ne_of_gt (Nat.two_pow_pos k))
    rw [Nat.pow_succ, ← Nat.mul_assoc, Nat.mul_comm (m * 2 ^ k) 2, strip_two h0, strip_pow h k]; rfl
theorem strip_end {n j m k : Nat} (hm : m ≠ 0) (hn : n % 2 = 1) (h : n * 2 ^ j = m * 2 ^ k) : n = (strip m).1 ∧ j = (strip m).2 + k := by
  have e := strip_pow (m := n) (by omega) j
  rw [h, strip_pow hm, strip_odd hn] at e
  simp at e
  omega
end Go.Sx
namespace Go.Sx
open Go

def txt (l : List UInt8) : ByteArray := ⟨l.toArray⟩
@[simp] theorem txt_size (l : List UInt8) : (txt l).size = l.length := rfl
@[simp] theorem txt_toList (l : List UInt8) : (txt l).toList = l := by rw [ByteArray.toList_eq]; rfl
@[simp] theorem txt_data (l : List UInt8) : (txt l).data.toList = l := rfl
@[simp] theorem txt_app (a b : List UInt8) : txt a ++ txt b = txt (a ++ b) := by
  apply ByteArray.ext
  simp [txt]
theorem txt_of (s : ByteArray) : s = txt s.data.toList := by
  apply ByteArray.ext
  simp [txt]
theorem txt_eta (a : Array UInt8) : (⟨a⟩ : ByteArray) = txt a.toList := by
  apply ByteArray.ext
  simp [txt]
@[simp] theorem txt_cut (l : List UInt8) (i j : Nat) : (txt l).extract i j = txt ((l.take j).drop i) := by
  apply ByteArray.ext
  rw [ByteArray.data_extract]
  simp [txt, List.extract_eq_take_drop, List.drop_take]
@[simp] theorem txt_inj {a b : List UInt8} : txt a = txt b ↔ a = b := by
  constructor
  · intro h
    have := congrArg ByteArray.toList h
    simpa using this
  · rintro rfl; rfl

def digU (n : Nat) : UInt8 := UInt8.ofNat (48 + n)
theorem digU_nat {n : Nat} (h : n ≤ 9) : (digU n).toNat = 48 + n := by
  unfold digU
  rw [UInt8.toNat_ofNat']
  omega
def decL (n : Nat) : List UInt8 := if h : n ≤ 9 then [digU n] else decL (n / 10) ++ [digU (n % 10)]
termination_by n
decreasing_by omega
theorem decL_low {n : Nat} (h : n ≤ 9) : decL n = [digU n] := by rw [decL, dif_pos h]
theorem decL_up {n : Nat} (h : ¬ n ≤ 9) : decL n = decL (n / 10) ++ [digU (n % 10)] := by rw [decL, dif_neg h]
theorem decL_dig (n : Nat) : ∀ c ∈ decL n, 48 ≤ c.toNat ∧ c.toNat ≤ 57 := by
  induction n using Nat.strongRecOn with
  | _ n ih =>
    intro c hc
    by_cases h : n ≤ 9
    · rw [decL_low h, List.mem_singleton] at hc
      rw [hc, digU_nat h]; omega
    · rw [decL_up h, List.mem_append, List.mem_singleton] at hc
      rcases hc with hc | rfl
      · exact ih (n / 10) (by omega) c hc
      · rw [digU_nat (by omega)]; omega
theorem decL_len1 (n : Nat) : 1 ≤ (decL n).length := by
  rw [decL]; split
  · simp
  · simp
theorem decL_len (n : Nat) : ∀ k, n < 10 ^ (k + 1) → (decL n).length ≤ k + 1 := by
  intro k
  induction k generalizing n with
  | zero => intro h; rw [decL_low (by omega)]; simp
  | succ k ih =>
    intro h
    by_cases h9 : n ≤ 9
    · rw [decL_low h9]; simp
    · rw [decL_up h9, List.length_append]
      have := ih (n / 10) (by rw [Nat.pow_succ] at h; omega)
      simp; omega
def valD (l : List UInt8) : Nat := l.foldl (fun v c => 10 * v + (c.toNat - 48)) 0
theorem valD_dec (n : Nat) : valD (decL n) = n := by
  induction n using Nat.strongRecOn with
  | _ n ih =>
    by_cases h : n ≤ 9
    · rw [decL_low h]; simp [valD, digU_nat h]
    · rw [decL_up h]
      unfold valD
      rw [List.foldl_append]
      have := ih (n / 10) (by omega)
      unfold valD at this
      rw [this]
      simp only [List.foldl_cons, List.foldl_nil]
      rw [digU_nat (by omega)]; omega
theorem decL_not {n : Nat} {c : UInt8} (h : c.toNat < 48 ∨ 57 < c.toNat) : c ∉ decL n := fun hc => by
  have := decL_dig n c hc; omega
theorem decL_cons (n : Nat) : ∃ c r, decL n = c :: r ∧ 48 ≤ c.toNat ∧ c.toNat ≤ 57 := by
  have h1 := decL_len1 n
  have h2 := decL_dig n
  match h : decL n with
  | [] => rw [h] at h1; simp at h1
  | c :: r => exact ⟨c, r, rfl, h2 c (by rw [h]; simp)⟩
def decZ (n : Int) : List UInt8 := if n < 0 then 45 :: decL n.natAbs else decL n.natAbs
theorem decZ_len {n : Int} (h : n.natAbs < 10 ^ 20) : (decZ n).length ≤ 21 := by
  have := decL_len n.natAbs 19 h
  unfold decZ; split
  · simp; omega
  · omega
def plainL (m : Nat) (i : Int) : List UInt8 := decL (strip m).1 ++ ([42, 50, 94] ++ decZ (i + (strip m).2))
def realL (x : Nat) : List UInt8 := match dbl.read x with
  | .nan _ _ => [110, 97, 110]
  | .infinity s => if s then [45, 105, 110, 102] else [105, 110, 102]
  | .number s m i => if m = 0 then (if s then [45, 48] else [48]) else (if s then 45 :: plainL m i else plainL m i)
structure Dn (m : Nat) (i : Int) (x : Nat) (e ic : Int) : Prop where
  rd : dbl.read x = .number false m ic
  ee : e = i - ic
  lo : 0 ≤ e
theorem Dn.step {m x : Nat} {i e ic : Int} (h : Dn m i x e ic) (hi : 1 ≤ ic) : ∃ y, dbl.div x 4611686018427387904 = some y ∧ Dn m i y (e + 1) (ic - 1) := by
  obtain ⟨n1, n2, n3, n4⟩ := read_norm h.rd
  exact ⟨_, div2 h.rd hi, read_word ⟨by omega, by omega, n3, by omega⟩, by have := h.ee; omega, by have := h.lo; omega⟩
structure Up (m : Nat) (i : Int) (x : Nat) (e : Int) (mc : Nat) (ic : Int) : Prop where
  rd : dbl.read x = .number false mc ic
  ne : mc ≠ 0
  un : unitsV mc ic = m * 2 ^ (i + 1074 - e).toNat
  le : e ≤ i + 1074
  hi : ic ≤ 0
theorem Dn.up {m x : Nat} {i e ic : Int} (h : Dn m i x e ic) (h0 : m ≠ 0) (hi : ic ≤ 0) : Up m i x e m ic := by
  obtain ⟨n1, n2, n3, n4⟩ := read_norm h.rd
  have he := h.ee
  have hl := h.lo
  refine ⟨h.rd, h0, ?_, by omega, hi⟩
  unfold unitsV; rw [show ic + 1074 = i + 1074 - e by omega]
theorem Up.bd {m x mc : Nat} {i e ic : Int} (h : Up m i x e mc ic) (hm : m ≠ 0) : i - 53 < e := by
  obtain ⟨n1, n2, n3, n4⟩ := read_norm h.rd
  have h1 := h.un
  have h2 := h.hi
  have h3 := h.le
  unfold unitsV at h1
  obtain ⟨K, hK⟩ : ∃ K : Nat, K = 1074 := ⟨_, rfl⟩
  have a1 : mc * 2 ^ (ic + 1074).toNat < 2 ^ 53 * 2 ^ K := by
    apply Nat.mul_lt_mul_of_lt_of_le (show mc < 2 ^ 53 by omega) (Nat.pow_le_pow_right (by decide) (by omega)) (Nat.two_pow_pos _)
  have a2 : 2 ^ (i + 1074 - e).toNat ≤ m * 2 ^ (i + 1074 - e).toNat := Nat.le_mul_of_pos_left _ (by omega)
  rw [h1, ← Nat.pow_add] at a1
  have a3 := (Nat.pow_lt_pow_iff_right (by decide : 1 < 2)).1 (Nat.lt_of_le_of_lt a2 a1)
  omega
def mesUp (mc : Nat) (ic : Int) : Nat := (-ic).toNat * 9007199254740992 + (9007199254740992 - mc)
theorem Up.step {m x mc : Nat} {i e ic : Int} (h : Up m i x e mc ic) (hi : ic < 0) :
    ∃ y mc' ic', dbl.mul x 4611686018427387904 = some y ∧ Up m i y (e - 1) mc' ic' ∧ mesUp mc' ic' < mesUp mc ic := by
  obtain ⟨n1, n2, n3, n4⟩ := read_norm h.rd
  have h0 := h.ne
  have h1 := h.un
  have h3 := h.le
  have hm := mul2 h.rd h0 (by omega)
  have e1 : (i + 1074 - (e - 1)).toNat = (i + 1074 - e).toNat + 1 := by omega
  by_cases hc : 4503599627370496 ≤ mc
  · rw [if_pos hc] at hm
    refine ⟨_, mc, ic + 1, hm, ⟨read_word ⟨by omega, by omega, n3, Or.inl hc⟩, h0, ?_, by omega, by omega⟩, ?_⟩
    · rw [units_up n1, e1, Nat.pow_succ, ← Nat.mul_assoc, ← h1]
      unfold unitsV
      rw [Nat.mul_comm 2 mc, Nat.mul_assoc, Nat.mul_assoc, Nat.mul_comm 2]
    · unfold mesUp
      have : (-ic).toNat = (-(ic + 1)).toNat + 1 := by omega
      rw [this]; omega
  · rw [if_neg hc] at hm
    refine ⟨_, 2 * mc, ic, hm, ⟨read_word ⟨by omega, by omega, by omega, by omega⟩, by omega, ?_, by omega, by omega⟩, ?_⟩
    · rw [e1, Nat.pow_succ, ← Nat.mul_assoc, ← h1]
      unfold unitsV
      rw [Nat.mul_comm 2 mc, Nat.mul_assoc, Nat.mul_assoc, Nat.mul_comm 2]
    · unfold mesUp; omega
structure Od (m : Nat) (i : Int) (n : Nat) (e e0 : Int) : Prop where
  ne : n ≠ 0
  ge : e0 ≤ e
  lt : n * 2 ^ (e - e0).toNat < 9007199254740992
  un : ∃ a k : Nat, n * 2 ^ a = m * 2 ^ k ∧ e = i + a - k
theorem Od.bd {m n : Nat} {i e e0 : Int} (h : Od m i n e e0) : e - e0 < 53 ∧ n < 9007199254740992 := by
  have h1 := h.lt
  have h2 := h.ne
  have h3 := h.ge
  have a1 : 2 ^ (e - e0).toNat ≤ n * 2 ^ (e - e0).toNat := Nat.le_mul_of_pos_left _ (by omega)
  have a2 : n ≤ n * 2 ^ (e - e0).toNat := Nat.le_mul_of_pos_right _ (Nat.two_pow_pos _)
  have a3 : (2 : Nat) ^ (e - e0).toNat < 2 ^ 53 := by
    have : (2 : Nat) ^ 53 = 9007199254740992 := rfl
    omega
  have := (Nat.pow_lt_pow_iff_right (by decide : 1 < 2)).1 a3
  omega
theorem Od.step {m n : Nat} {i e e0 : Int} (h : Od m i n e e0) (hn : n % 2 = 0) : Od m i (n / 2) (e + 1) e0 := by
  obtain ⟨h1, h2, h3, a, k, h4, h5⟩ := h
  have e1 : (e + 1 - e0).toNat = (e - e0).toNat + 1 := by omega
  have e2 : n = n / 2 * 2 := by omega
  refine ⟨by omega, by omega, ?_, a + 1, k, ?_, by omega⟩
  · rw [e1, Nat.pow_succ, Nat.mul_comm (2 ^ _) 2, ← Nat.mul_assoc, ← e2]; exact h3
  · rw [Nat.pow_succ, Nat.mul_comm (2 ^ _) 2, ← Nat.mul_assoc, ← e2]; exact h4
theorem Od.fin {m n : Nat} {i e e0 : Int} (h : Od m i n e e0) (hm : m ≠ 0) (hn : n % 2 = 1) : n = (strip m).1 ∧ e = i + (strip m).2 := by
  obtain ⟨h1, h2, h3, a, k, h4, h5⟩ := h
  obtain ⟨e1, e2⟩ := strip_end hm hn h4
  exact ⟨e1, by omega⟩
end Go.Sx
namespace Go.Proofs.YtclbanhoiaieaaaGreatDoor
open Go Go.Sx
attribute [local simp] Sx.vcsE1 Sx.vcsE2 Sx.vcsE3 Sx.vcsE4 Sx.vcsE5 Sx.vcsE6 Sx.vcsE7 Sx.vcsE8 Sx.vcsE9 Sx.vcsE10 Sx.vcsE11 Sx.vcsE12 Sx.vcsE13 Sx.vcsE14 Sx.vcsE15 Sx.vcsE16 Sx.vcsE17 Sx.vcsE18 Sx.vcsE19 Sx.get Sx.look Sx.put Sx.pureFn Sx.findOrd Sx.unF Sx.dstOk Sx.isFloatT Sx.endVC Sx.resFn Sx.packC Sx.newFn Sx.storeFn Sx.buildFn Sx.known Sx.aggT Sx.cellsC Sx.findCon Sx.allV Sx.partsV Sx.partsC Sx.fillL Sx.exitTo Sx.fAr Sx.eqFn Sx.eqFieldsFn Sx.eqElemsFn Sx.partFn Sx.sliceFn Sx.boundFn Sx.AppV Sx.CopyV Sx.MakeSliceV Sx.NewsV Sx.GrowV Sx.TextV Sx.bytesL Sx.notInt Sx.typeAt Sx.argAt Sx.den Go.undef Go.Value.cells Go.Value.oneCell' Sx.Con.pure Sx.Con.some Sx.Con.read Sx.Con.make Sx.Con.ext Sx.Con.rel Sx.Con.extS Sx.Con.draw Sx.Con.step Sx.C.one Sx.Draws.steps


theorem tmod_nat (k : Nat) : (k : Int).tmod 10 = ((k % 10 : Nat) : Int) := by rw [Int.tmod_eq_emod_of_nonneg (by omega)]; omega
theorem tdiv_nat (k : Nat) : (k : Int).tdiv 10 = ((k / 10 : Nat) : Int) := by rw [Int.tdiv_eq_ediv_of_nonneg (by omega)]; omega
theorem dig_byte {k : Nat} (h : k ≤ 9) : UInt8.ofNat (IntKind.u8.wrap (IntKind.i64.wrap (48 + (k : Int)))).toNat = digU k := by
  rw [wrap_i64 (by omega) (by omega), wrap_u8 (by omega) (by omega)]
  unfold digU
  congr 1
theorem sDecPC_c (n : Int) (hpre : 0 ≤ n ∧ n ≤ 9223372036854775807) (w : World) : Calls Tryz.prog 126 #[.int .i64 n] w fun e w' => e = .returned (.string (txt (decL n.toNat))) ∧ RowKit.Below w.heap.size w w' := by
  refine (plain_of_vcs ⟨[], []⟩ hmx Tryz.func126 rfl (by kernel_rfl) (args := [.int .i64 n]) (by simp [Tryz.ntmps126]) w (· = .string (txt (decL n.toNat))) 400 ?_).mono fun e w' ⟨v, h1, h2, h3⟩ => ⟨h2 ▸ h1, h3⟩
  obtain ⟨h0, h1⟩ := hpre
  have a1 : ¬ n < -9223372036854775807 := by omega
  have a2 : ¬ n < 0 := by omega
  simp (maxSteps := 4000000) -dsimp [-List.all_eq_true, -Array.all_eq_true, -Bool.exists_bool, -Bool.forall_bool, and_assoc, List.zipIdx, Tryz.f126, a1, a2, txt_eta]
  refine loop_inv (σ := ⟨[], []⟩) hmx (by kernel_rfl) (fun q cx tm mem => Le ⟨w, [], w, []⟩ cx ∧ mem = [] ∧ ∃ (k : Nat) (out : List UInt8), k = q ∧ (k : Int) ≤ n ∧ decL n.toNat = decL k ++ out ∧ Sx.look tm 0 = .v (.int .i64 k) ∧ Sx.look tm 3 = .v (.string (txt out)))
    n.toNat ⟨Le.refl _, rfl, n.toNat, [], rfl, by omega, by simp, by simp [Sx.look]; omega, by simp [Sx.look]⟩ ?_
  rintro q cx tm mem ⟨hle, rfl, k, out, hq, hk, hd, j0, j3⟩
  refine ⟨300, ?_⟩
  have hlen : (decL n.toNat).length ≤ 20 := decL_len _ 19 (by omega)
  rw [hd, List.length_append] at hlen
  have hl1 := decL_len1 k
  by_cases hlt : (9 : Int) < k
  · have e1 := dig_byte (k := k % 10) (by omega)
    have e2 := decL_up (n := k) (by omega)
    simp (maxSteps := 4000000) -dsimp [-List.all_eq_true, -Array.all_eq_true, -Bool.exists_bool, -Bool.forall_bool, and_assoc, List.zipIdx, Tryz.f126, j0, j3, hlt, tmod_nat, tdiv_nat]
    intro cx1 p hle1 hl1'
    rw [RdL.sl (hl1'.mono ((sub_new cx1).trans (sub_now _ _))) (by rfl)]
    have e0 : (k : Int) % 10 = ((k % 10 : Nat) : Int) := by omega
    simp (maxSteps := 4000000) -dsimp [-List.all_eq_true, -Array.all_eq_true, -Bool.exists_bool, -Bool.forall_bool, and_assoc, List.zipIdx, Tryz.f126, j0, j3, hlt, tmod_nat, tdiv_nat, bytesL, txt_eta]
    refine ⟨by omega, k / 10, by omega, hle.trans hle1, by omega, ?_, ?_⟩
    · rw [e0, e1, hd, e2]; simp
    · rw [wrap_i64 (by omega) (by omega)]; omega
  · have e1 := dig_byte (k := k) (by omega)
    simp (maxSteps := 4000000) -dsimp [-List.all_eq_true, -Array.all_eq_true, -Bool.exists_bool, -Bool.forall_bool, and_assoc, List.zipIdx, Tryz.f126, j0, j3, hlt]
    intro cx1 p hle1 hl1'
    rw [RdL.sl (hl1'.mono ((sub_new cx1).trans (sub_now _ _))) (by rfl)]
    simp (maxSteps := 4000000) -dsimp [-List.all_eq_true, -Array.all_eq_true, -Bool.exists_bool, -Bool.forall_bool, and_assoc, List.zipIdx, Tryz.f126, j0, j3, hlt, e1, bytesL, txt_eta]
    exact ⟨by omega, (hle.trans hle1).w0, (hle.trans hle1).g0, by rw [hd, decL_low (by omega)]; rfl⟩
def sDecPC : Con Tryz.prog := Con.pure 126 Tryz.call126 (fun (n : ((Int))) => [.int .i64 n]) (fun (n : ((Int))) => 0 ≤ n ∧ n ≤ 9223372036854775807) (fun (n : ((Int))) => .string (txt (decL n.toNat))) fun n w hp => sDecPC_c n hp w
theorem sDecNC_c (n : Int) (hpre : -9223372036854775807 ≤ n ∧ n < 0) (w : World) : Calls Tryz.prog 126 #[.int .i64 n] w fun e w' => e = .returned (.string (txt (45 :: decL n.natAbs))) ∧ RowKit.Below w.heap.size w w' := by
  refine (plain_of_vcs ⟨[sDecPC], []⟩ hmx Tryz.func126 rfl (by kernel_rfl) (args := [.int .i64 n]) (by simp [Tryz.ntmps126]) w (· = .string (txt (45 :: decL n.natAbs))) 400 ?_).mono fun e w' ⟨v, h1, h2, h3⟩ => ⟨h2 ▸ h1, h3⟩
  obtain ⟨h0, hn⟩ := hpre
  have a1 : ¬ n < -9223372036854775807 := by omega
  have hlen : (decL n.natAbs).length ≤ 20 := decL_len _ 19 (by omega)
  have e1 : IntKind.i64.wrap (-n) = -n := wrap_i64 (by omega) (by omega)
  have e2 : (-n).toNat = n.natAbs := by omega
  have e3 : 0 ≤ -n ∧ -n ≤ 9223372036854775807 := by omega
  simp (maxSteps := 4000000) -dsimp [-List.all_eq_true, -Array.all_eq_true, -Bool.exists_bool, -Bool.forall_bool, and_assoc, List.zipIdx, Tryz.f126, sDecPC, a1, hn, e1, e2, e3, txt_eta]
  omega
theorem sDecC_c (n : Int) (hpre : -9223372036854775807 ≤ n ∧ n ≤ 9223372036854775807) (w : World) : Calls Tryz.prog 126 #[.int .i64 n] w fun e w' => e = .returned (.string (txt (decZ n))) ∧ RowKit.Below w.heap.size w w' := by
  by_cases hn : n < 0
  · have e : decZ n = 45 :: decL n.natAbs := by unfold decZ; rw [if_pos hn]
    rw [e]
    exact sDecNC_c n ⟨hpre.1, hn⟩ w
  · have e : decZ n = decL n.toNat := by unfold decZ; rw [if_neg hn]; congr 1; omega
    rw [e]
    exact sDecPC_c n ⟨by omega, hpre.2⟩ w
def sDecC : Con Tryz.prog := Con.pure 126 Tryz.call126 (fun (n : Int) => [.int .i64 n]) (fun (n : Int) => -9223372036854775807 ≤ n ∧ n ≤ 9223372036854775807) (fun (n : Int) => .string (txt (decZ n))) fun n w hp => sDecC_c n hp w
end Go.Proofs.YtclbanhoiaieaaaGreatDoor
