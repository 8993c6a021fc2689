/-
  Bits that are put and asked. Plain Lean: nothing of a program stands here. Conditions: none.
-/
import Derived.Test.YtfhnbdlkiemaeaaGreatInmt
import Derived.Test.YtfhnbdlkiemaeaaGreatVmt
set_option linter.unusedVariables false
set_option linter.unusedSimpArgs false
set_option maxRecDepth 100000
namespace Go.Sx
open Go

def qnan : Nat := 9221120237041090561
def wordF (n : Int) : Nat := if n = 0 then qnan else if n = 1 then 9218868437227405312 else if n = 2 then 18442240474082181120 else 9223372036854775808
def realArgF (k n p : Int) : Nat :=
  if devOk k n p then if k = 12 then (dbl.div (FloatKind.f64.nearest n) (FloatKind.f64.nearest (10 ^ p.toNat))).getD qnan else if k = 13 then wordF n else 0 else 0
def memRealF (m : M) (k n p : Int) : Nat := if k = 10 then m.R (place k n).toNat else realArgF k n p

theorem div_some {n t : Int} (hn : n.natAbs < 9007199254740992) (ht : t.natAbs < 9007199254740992) (h0 : t ≠ 0) : (dbl.div (FloatKind.f64.nearest n) (FloatKind.f64.nearest t)).isSome = true := by
  obtain ⟨m, d, hd, hr, rfl⟩ := read_whole hn
  obtain ⟨q, e, he, hs, rfl⟩ := read_whole ht
  unfold Ieee.Format.div
  rw [hr, hs]
  have : t.natAbs * 2 ^ e ≠ 0 := Nat.mul_ne_zero (by omega) (by have := Nat.two_pow_pos e; omega)
  simp [Ieee.Datum.quotient, this]
theorem dec_some {n p : Int} (h : devOk 12 n p = true) : ∃ r, dbl.div (FloatKind.f64.nearest n) (FloatKind.f64.nearest (10 ^ p.toNat)) = some r := by
  have hd : (1 ≤ (12 : Int) ∧ (12 : Int) ≤ 10 ∧ 0 ≤ n ∧ n < devSize 12 ∧ p = 0) ∨ ((12 : Int) = 11 ∧ -32768 ≤ n ∧ n ≤ 32767 ∧ p = 0) ∨
    ((12 : Int) = 12 ∧ -999999999 ≤ n ∧ n ≤ 999999999 ∧ 1 ≤ p ∧ p ≤ 6 ∧ (p = 1 ∨ n.tmod 10 ≠ 0)) ∨ ((12 : Int) = 13 ∧ 0 ≤ n ∧ n ≤ 3 ∧ p = 0) := by unfold devOk at h; exact of_decide_eq_true h
  have hp : p = 1 ∨ p = 2 ∨ p = 3 ∨ p = 4 ∨ p = 5 ∨ p = 6 := by omega
  have := div_some (n := n) (t := 10 ^ p.toNat) (by omega) (by obtain rfl | rfl | rfl | rfl | rfl | rfl := hp <;> decide) (by obtain rfl | rfl | rfl | rfl | rfl | rfl := hp <;> decide)
  exact Option.isSome_iff_exists.1 this
theorem nan_q : isNan qnan = true ∧ qnan < 18446744073709551616 := by
  rw [isNan_iff]; decide
theorem realArgF_R (k n p : Int) : realArgR k n p (realArgF k n p) := by
  unfold realArgR realArgF
  by_cases hd : devOk k n p = true
  · simp only [hd, if_true]
    by_cases h12 : k = 12
    · subst h12
      simp only [if_true]
      obtain ⟨r, hr⟩ := dec_some hd
      rw [hr]; rfl
    · simp only [h12, if_false]
      by_cases h13 : k = 13
      · subst h13
        simp only [if_true]
        have hd' : (1 ≤ (13 : Int) ∧ (13 : Int) ≤ 10 ∧ 0 ≤ n ∧ n < devSize 13 ∧ p = 0) ∨ ((13 : Int) = 11 ∧ -32768 ≤ n ∧ n ≤ 32767 ∧ p = 0) ∨
          ((13 : Int) = 12 ∧ -999999999 ≤ n ∧ n ≤ 999999999 ∧ 1 ≤ p ∧ p ≤ 6 ∧ (p = 1 ∨ n.tmod 10 ≠ 0)) ∨ ((13 : Int) = 13 ∧ 0 ≤ n ∧ n ≤ 3 ∧ p = 0) := by unfold devOk at hd; exact of_decide_eq_true hd
        have hn : n = 0 ∨ n = 1 ∨ n = 2 ∨ n = 3 := by omega
        unfold wordR wordF
        obtain rfl | rfl | rfl | rfl := hn
        · exact Or.inl ⟨rfl, nan_q⟩
        · exact Or.inr (Or.inl ⟨rfl, rfl⟩)
        · exact Or.inr (Or.inr (Or.inl ⟨rfl, rfl⟩))
        · exact Or.inr (Or.inr (Or.inr ⟨rfl, rfl⟩))
      · simp [h13]
  · simp only [hd]; simp
theorem memRealF_R (m : M) (k n p : Int) : memRealR m k n p (memRealF m k n p) := by
  unfold memRealR memRealF
  split
  · rfl
  · exact realArgF_R k n p
theorem memRealR_F {m : M} {k n p : Int} {r : Nat} (hm : MOk m) (h : memRealR m k n p r) : sameF r (memRealF m k n p) := (memRealR_same hm h (memRealF_R m k n p)).1

theorem realArgF_dec {n p : Int} {r : Nat} {t : Int} (hd : devOk 12 n p = true) (ht : (10 : Int) ^ p.toNat = t) (h : fRes FloatKind.f64 (FloatKind.f64.format.div (FloatKind.f64.nearest n) (FloatKind.f64.nearest t)) r) : r = realArgF 12 n p := by
  obtain ⟨x, hx⟩ := dec_some hd
  unfold realArgF
  rw [if_pos hd, if_pos rfl, hx]
  subst ht
  have e : FloatKind.f64.format.div (FloatKind.f64.nearest n) (FloatKind.f64.nearest (10 ^ p.toNat)) = some x := hx
  rw [e] at h
  exact h

theorem ord_sameF {a b c d : Nat} (h : sameF a c) (h' : sameF b d) : dbl.order a b = dbl.order c d := by
  rcases h with ⟨rfl, _⟩ | ⟨ha, hc⟩
  · rcases h' with ⟨rfl, _⟩ | ⟨hb, hd⟩
    · rfl
    · rw [ord_nan_right hb, ord_nan_right hd]
  · rw [ord_nan_left ha, ord_nan_left hc]
theorem realCmp_sameF {op : Int} {a b c d : Nat} (h : sameF a c) (h' : sameF b d) : realCmp op a b = realCmp op c d := by
  unfold realCmp
  rw [ord_sameF h h']

def argD (xs : List Dev) (j : Nat) : Dev := xs.getD j default
def isRealK (k : Int) : Bool := decide (k = 10 ∨ k = 12 ∨ k = 13)
def wasB (m : M) (b : Dev) : Bool := decide (b.k = 5) && memBit m b.k b.n
def keepM (m : M) (b : Dev) (v : Bool) : M := if b.k = 5 then memPut m b.k b.n v else m
def numB (m : M) (op : Int) (a b : Dev) : Bool :=
  if isRealK a.k then realCmp (op - 4) (memRealF m a.k a.n a.p) (memRealF m b.k b.n b.p) else wholeCmp (op - 4) (memWhole m a.k a.n) (memWhole m b.k b.n)
def testB (m : M) (op : Int) (a b : Dev) : Bool :=
  if op = 1 then memBit m a.k a.n else if op = 2 then !memBit m a.k a.n
  else if op = 3 then memBit m a.k a.n && !wasB m b else if op = 4 then wasB m b && !memBit m a.k a.n
  else if 5 ≤ op ∧ op ≤ 10 then numB m op a b else false
def testM (m : M) (op : Int) (a b : Dev) : M := if op = 3 ∨ op = 4 then keepM m b (memBit m a.k a.n) else m
theorem keepM_ok {m : M} {b : Dev} {v : Bool} (h : MOk m) : MOk (keepM m b v) := by
  unfold keepM; split
  · exact memPut_ok h
  · exact h
theorem testM_ok {m : M} {op : Int} {a b : Dev} (h : MOk m) : MOk (testM m op a b) := by
  unfold testM; split
  · exact keepM_ok h
  · exact h
theorem memWhole_bd {m : M} {k n : Int} (h : MOk m) : -32768 ≤ memWhole m k n ∧ memWhole m k n ≤ 32767 := by
  unfold memWhole
  obtain ⟨l1, l2, l3, l4, l5, l6, l7, l8, l9, l10⟩ := place_lt n
  have hb := (place_bd k n).1
  split
  · subst_vars; have := h.T (place 7 n).toNat (by omega); omega
  · split
    · subst_vars; have := h.C (place 8 n).toNat (by omega); omega
    · split
      · subst_vars; have := h.D (place 9 n).toNat (by omega); omega
      · split
        · have h1 := Int.emod_nonneg n (b := 65536) (by omega)
          have h2 := Int.emod_lt_of_pos n (b := 65536) (by omega)
          simp only [IntKind.wrap, IntKind.signed, IntKind.bits]
          simp
          split <;> omega
        · omega
end Go.Sx
namespace Go.Sx
open Go

theorem bitOf_nat (X : Nat) (i : Nat) : bitOf (X : Int) i = X.testBit i := by
  unfold bitOf
  rw [Nat.testBit_eq_decide_div_mod_eq]
  congr 1
  apply propext
  have e : ((X : Int) / 2 ^ i % 2) = ((X / 2 ^ i % 2 : Nat) : Int) := by push_cast; rfl
  rw [e]
  omega
theorem bitOf_put {x : Int} {b i j : Nat} {c : Bool} (hx : 0 ≤ x) (hx2 : x < 2 ^ b) (hj : j < b) (hi : i < b) : bitOf (putBit x j c) i = if i = j then c else bitOf x i := by
  obtain ⟨X, rfl⟩ := Int.eq_ofNat_of_zero_le hx
  have hX : X < 2 ^ b := by exact_mod_cast hx2
  have e := putBit_nat (c := c) hX hj
  rw [show (((X : Nat) : Int)) = ((X : Nat) : Int) from rfl] at *
  rw [e, bitOf_nat, bitOf_nat, Nat.testBit_or, Nat.testBit_and]
  have h2 : 2 ^ j < 2 ^ b := Nat.pow_lt_pow_right (by omega) hj
  have e2 : 2 ^ b - 1 - 2 ^ j = 2 ^ b - (2 ^ j + 1) := by omega
  rw [e2, Nat.testBit_two_pow_sub_succ h2, Nat.testBit_two_pow]
  by_cases h : i = j
  · subst h
    cases c <;> simp [hi, Nat.testBit_two_pow]
  · have h' : ¬ j = i := fun h' => h h'.symm
    cases c <;> simp [hi, h, h', Nat.testBit_two_pow]

theorem zeroM_ok : MOk zeroM := by
  constructor <;> (try decide) <;> (intro k _; simp [zeroM, Arr.zero]; try decide)
end Go.Sx
