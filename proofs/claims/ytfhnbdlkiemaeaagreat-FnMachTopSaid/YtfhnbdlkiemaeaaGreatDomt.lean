/-
  What coils do, plainly. Plain Lean: nothing of a program stands here. Conditions: none.
-/
import Derived.Test.YtfhnbdlkiemaeaaGreatKmt
import Derived.Test.YtfhnbdlkiemaeaaGreatRwmt
set_option linter.unusedVariables false
set_option linter.unusedSimpArgs false
set_option maxRecDepth 100000
namespace Go.Sx
open Go

section
variable (m : M)
theorem set_TT (b : Bool) (x : Int) : ∀ k, k < 16 → splice (cellC m) (5 + k * 2) [.v (.bool b), .v (.int .u16 x)] = cellC { m with T := upd m.T k (b, x) } := by apply lt16 <;> kernel_rfl
theorem set_CC (b c : Bool) (x : Int) : ∀ k, k < 16 → splice (cellC m) (37 + k * 3) [.v (.bool b), .v (.bool c), .v (.int .u16 x)] = cellC { m with C := upd m.C k (b, c, x) } := by apply lt16 <;> kernel_rfl
theorem get_TT : ∀ k, k < 16 → List.take 2 (List.drop (5 + k * 2) (cellC m)) = [.v (.bool (m.T k).1), .v (.int .u16 (m.T k).2)] := by apply lt16 <;> kernel_rfl
theorem get_CC : ∀ k, k < 16 → List.take 3 (List.drop (37 + k * 3) (cellC m)) = [.v (.bool (m.C k).1), .v (.bool (m.C k).2.1), .v (.int .u16 (m.C k).2.2)] := by apply lt16 <;> kernel_rfl
end

theorem upd_upd {n : Nat} {α : Type} [Inhabited α] (f : Arr n α) (k : Nat) (a b : α) : upd (upd f k a) k b = upd f k b := by
  apply Arr.ext'
  intro j hj
  simp only [upd]
  by_cases h : j = k
  · subst h; simp [hj]
  · simp [h]
theorem upd_self {n : Nat} {α : Type} [Inhabited α] (f : Arr n α) (k : Nat) : upd f k (f k) = f := by
  apply Arr.ext'
  intro j hj
  simp only [upd]
  by_cases h : j = k
  · subst h; simp
  · simp [h]
def onw (c dt p : Int) : Int := min (c + dt) p
def timerT (op p : Int) (v : Bool) (dt : Int) (t : Bool × Int) : Bool × Int :=
  if op = 28 then (if v = true then (true, 0) else if t.1 = false then (false, 0) else if p ≤ onw t.2 dt p then (false, 0) else (t.1, onw t.2 dt p))
  else if v = true then (decide (p ≤ onw t.2 dt p), onw t.2 dt p) else if op = 26 then (false, 0) else t
def timerM (m : M) (op k n p : Int) (v : Bool) (dt : Int) : M := if k = 7 then { m with T := upd m.T (place 7 n).toNat (timerT op p v dt (m.T (place 7 n).toNat)) } else m
def cntN (v : Bool) (c : Bool × Bool × Int) : Int := if v = true ∧ c.2.1 = false ∧ c.2.2 < 65535 then c.2.2 + 1 else c.2.2
def cntC (p : Int) (v : Bool) (c : Bool × Bool × Int) : Bool × Bool × Int := (decide (p ≤ cntN v c), v, cntN v c)
def counterM (m : M) (k n p : Int) (v : Bool) : M := if k = 8 then { m with C := upd m.C (place 8 n).toNat (cntC p v (m.C (place 8 n).toNat)) } else m
def resetM (m : M) (k n : Int) : M :=
  if k = 7 then { m with T := upd m.T (place 7 n).toNat (false, 0) } else if k = 8 then { m with C := upd m.C (place 8 n).toNat (false, (m.C (place 8 n).toNat).2.1, 0) } else if k = 5 then m else memPut m k n false
def clr (x g : Int) : Int := if g = 0 then x - x % 256 else x % 256
def stepM (m : M) (n : Int) : M := memPut { m with S := clr m.S (place 4 n / 8) } 4 n true
def wholeCalc (op a b : Int) : Int × Bool :=
  if op = 1 then (IntKind.i16.wrap (a + b), true) else if op = 2 then (IntKind.i16.wrap (a - b), true) else if op = 3 then (IntKind.i16.wrap (a * b), true)
  else if op = 4 ∧ b ≠ 0 then (IntKind.i16.wrap (a.tdiv b), true) else if op = 5 ∧ b ≠ 0 then (a.tmod b, true) else (0, false)
def realCalcF (op : Int) (a b : Nat) : Nat :=
  if op = 1 then (dbl.add a b).getD qnan else if op = 2 then (dbl.sub a b).getD qnan else if op = 3 then (dbl.mul a b).getD qnan else if op = 4 then (dbl.div a b).getD qnan else qnan
def calcM (m : M) (op : Int) (a b c : Dev) : M :=
  if a.k = 10 then memPutReal m a.k a.n (realCalcF op (memRealF m b.k b.n b.p) (memRealF m c.k c.n c.p))
  else if (wholeCalc op (memWhole m b.k b.n) (memWhole m c.k c.n)).2 = true then memPutWhole m a.k a.n (wholeCalc op (memWhole m b.k b.n) (memWhole m c.k c.n)).1 else { m with Fault := true }
def presetOf (m : M) (b : Dev) : Int := max (memWhole m b.k b.n) 0
def putBM (m : M) (a : Dev) (v : Bool) : M := if a.k = 5 then m else memPut m a.k a.n v
def whenM (m : M) (op : Int) (a b c : Dev) : M :=
  if op = 22 then putBM m a true else if op = 23 then resetM m a.k a.n else if op = 25 then (if a.k = 4 then stepM m a.n else m)
  else if op = 30 then (if a.k = 10 then memPutReal m a.k a.n (memRealF m b.k b.n b.p) else memPutWhole m a.k a.n (memWhole m b.k b.n))
  else if 31 ≤ op ∧ op ≤ 35 then calcM m (op - 30) a b c
  else if op = 36 then memPutReal m a.k a.n (FloatKind.f64.nearest (memWhole m b.k b.n))
  else if op = 37 then (if (realWhole (memRealF m b.k b.n b.p)).2 = true then memPutWhole m a.k a.n (realWhole (memRealF m b.k b.n b.p)).1 else { m with Fault := true })
  else m
def doM (m : M) (op : Int) (a b c : Dev) (v : Bool) (dt : Int) : M :=
  if op = 21 then putBM m a v
  else if op = 24 then keepM (putBM m a (v && !wasB m b)) b v
  else if op = 26 ∨ op = 27 ∨ op = 28 then timerM m op a.k a.n (presetOf m b) v dt
  else if op = 29 then counterM m a.k a.n (presetOf m b) v
  else if v = true then whenM m op a b c else m

theorem sameF_symm {a b : Nat} (h : sameF a b) : sameF b a := by
  rcases h with ⟨rfl, h⟩ | ⟨h1, h2⟩
  · exact Or.inl ⟨rfl, h⟩
  · exact Or.inr ⟨h2, h1⟩
theorem sameF_trans {a b c : Nat} (h : sameF a b) (h' : sameF b c) : sameF a c := by
  rcases h with ⟨rfl, h⟩ | ⟨h1, h2⟩
  · exact h'
  · rcases h' with ⟨rfl, h'⟩ | ⟨h3, h4⟩
    · rw [h2] at h'; cases h'
    · exact Or.inr ⟨h1, h4⟩
theorem MSame.symm {a b : M} (h : MSame a b) : MSame b a := ⟨h.X.symm, h.Y.symm, h.Mw.symm, h.S.symm, h.E.symm, h.T.symm, h.C.symm, h.D.symm, fun k hk => sameF_symm (h.R k hk), h.Time.symm, h.Ran.symm, h.Fault.symm⟩
theorem MSame.trans {a b c : M} (h : MSame a b) (h' : MSame b c) : MSame a c := ⟨h.X.trans h'.X, h.Y.trans h'.Y, h.Mw.trans h'.Mw, h.S.trans h'.S, h.E.trans h'.E, h.T.trans h'.T, h.C.trans h'.C, h.D.trans h'.D, fun k hk => sameF_trans (h.R k hk) (h'.R k hk), h.Time.trans h'.Time, h.Ran.trans h'.Ran, h.Fault.trans h'.Fault⟩
theorem putReal_same {m : M} {k n : Int} {a b : Nat} (h : sameF a b) : MSame (memPutReal m k n a) (memPutReal m k n b) := by
  unfold memPutReal
  split
  · refine ⟨rfl, rfl, rfl, rfl, rfl, rfl, rfl, rfl, fun j hj => ?_, rfl, rfl, rfl⟩
    simp only [upd]
    split
    · exact h
    · exact sameF_refl _
  · exact MSame_refl _

theorem read_nan {a : Nat} (h : isNan a = true) : ∃ s t, dbl.read a = .nan s t := by
  unfold isNan at h
  cases e : dbl.read a with
  | nan s t => exact ⟨s, t, rfl⟩
  | infinity s => rw [e] at h; cases h
  | number s m i => rw [e] at h; cases h
theorem arith_same {a b c d : Nat} (h : sameF a c) (h' : sameF b d) : dbl.add a b = dbl.add c d ∧ dbl.sub a b = dbl.sub c d ∧ dbl.mul a b = dbl.mul c d ∧ dbl.div a b = dbl.div c d := by
  have left : ∀ {a : Nat}, isNan a = true → ∀ b, dbl.add a b = none ∧ dbl.sub a b = none ∧ dbl.mul a b = none ∧ dbl.div a b = none := by
    intro a ha b
    obtain ⟨s, t, e⟩ := read_nan ha
    simp [Ieee.Format.add, Ieee.Format.sub, Ieee.Format.mul, Ieee.Format.div, e, Ieee.Datum.sum, Ieee.Datum.product, Ieee.Datum.quotient]
  have right : ∀ {b : Nat}, isNan b = true → ∀ a, dbl.add a b = none ∧ dbl.sub a b = none ∧ dbl.mul a b = none ∧ dbl.div a b = none := by
    intro b hb a
    obtain ⟨s, t, e⟩ := read_nan hb
    simp only [Ieee.Format.add, Ieee.Format.sub, Ieee.Format.mul, Ieee.Format.div, e, Ieee.Datum.opposite]
    cases dbl.read a <;> simp [Ieee.Datum.sum, Ieee.Datum.product, Ieee.Datum.quotient]
  rcases h with ⟨rfl, _⟩ | ⟨ha, hc⟩
  · rcases h' with ⟨rfl, _⟩ | ⟨hb, hd⟩
    · exact ⟨rfl, rfl, rfl, rfl⟩
    · obtain ⟨x1, x2, x3, x4⟩ := right hb a
      obtain ⟨y1, y2, y3, y4⟩ := right hd a
      exact ⟨x1.trans y1.symm, x2.trans y2.symm, x3.trans y3.symm, x4.trans y4.symm⟩
  · obtain ⟨x1, x2, x3, x4⟩ := left ha b
    obtain ⟨y1, y2, y3, y4⟩ := left hc d
    exact ⟨x1.trans y1.symm, x2.trans y2.symm, x3.trans y3.symm, x4.trans y4.symm⟩
theorem realCalcF_same {op : Int} {a b c d : Nat} (h : sameF a c) (h' : sameF b d) : realCalcF op a b = realCalcF op c d := by
  obtain ⟨e1, e2, e3, e4⟩ := arith_same h h'
  unfold realCalcF
  rw [e1, e2, e3, e4]
theorem fRes_F {x : Option Nat} {r : Nat} (h : fRes .f64 x r) : sameF r (x.getD qnan) := by
  cases x with
  | none => obtain ⟨t, rfl⟩ := h; exact sameF_nan nan_cut.1 nan_q.1
  | some y => unfold fRes at h; simp only at h; subst h; exact sameF_refl _
theorem fRes_lt {x : Option Nat} {r : Nat} (h : fRes .f64 x r) (hx : ∀ y, x = some y → y < 18446744073709551616) : r < 18446744073709551616 := by
  cases x with
  | none => obtain ⟨t, rfl⟩ := h; exact nan_cut.2
  | some y => unfold fRes at h; simp only at h; subst h; exact hx _ rfl
theorem arith_lt {a b r : Nat} : (fRes .f64 (dbl.add a b) r → r < 18446744073709551616) ∧ (fRes .f64 (dbl.sub a b) r → r < 18446744073709551616) ∧ (fRes .f64 (dbl.mul a b) r → r < 18446744073709551616) ∧ (fRes .f64 (dbl.div a b) r → r < 18446744073709551616) :=
  ⟨fun h => fRes_lt h fun y e => Ieee.Format.map_write_lt dbl e, fun h => fRes_lt h fun y e => Ieee.Format.map_write_lt dbl e, fun h => fRes_lt h fun y e => Ieee.Format.map_write_lt dbl e, fun h => fRes_lt h fun y e => Ieee.Format.map_write_lt dbl e⟩
theorem nearest_lt {a : Int} (h : a.natAbs < 9007199254740992) : FloatKind.f64.nearest a < 18446744073709551616 := by
  have e : FloatKind.f64.nearest a = dbl.nearest (decide (a < 0)) a.natAbs 0 := rfl
  rw [e]
  by_cases h0 : a.natAbs = 0
  · rw [h0]
    cases decide (a < 0) <;> decide
  · obtain ⟨c1, c2, c3, c4⟩ := consts
    obtain ⟨e1, e2, e3, e4⟩ := nearest_int (neg := decide (a < 0)) h0 h
    rw [e1]
    unfold Ieee.Format.word
    rw [c1]
    generalize a.natAbs * 2 ^ (52 - a.natAbs.log2) = q at *
    generalize a.natAbs.log2 = l at *
    split <;> omega
theorem memRealF_lt {m : M} {k n p : Int} (hm : MOk m) : memRealF m k n p < 18446744073709551616 := by
  have := memRealR_same hm (memRealF_R m k n p) (memRealF_R m k n p)
  exact this.2

theorem onw_bd {c dt p : Int} (h1 : 0 ≤ c) (h2 : 0 ≤ dt) (h3 : 0 ≤ p ∧ p ≤ 32767) : 0 ≤ onw c dt p ∧ onw c dt p ≤ 32767 := by unfold onw; omega
theorem preset_bd {m : M} {b : Dev} (h : MOk m) : 0 ≤ presetOf m b ∧ presetOf m b ≤ 32767 := by
  have := memWhole_bd (k := b.k) (n := b.n) h
  unfold presetOf; omega
theorem timerT_bd {op p dt : Int} {v : Bool} {t : Bool × Int} (h : 0 ≤ t.2 ∧ t.2 < 65536) (hd : 0 ≤ dt) (hp : 0 ≤ p ∧ p ≤ 32767) : 0 ≤ (timerT op p v dt t).2 ∧ (timerT op p v dt t).2 < 65536 := by
  have := onw_bd h.1 hd hp
  unfold timerT
  (repeat' split) <;> first | exact h | exact ⟨by decide, by decide⟩ | (refine ⟨this.1, ?_⟩; have := this.2; simp only; omega)
theorem cntN_bd {v : Bool} {c : Bool × Bool × Int} (h : 0 ≤ c.2.2 ∧ c.2.2 < 65536) : 0 ≤ cntN v c ∧ cntN v c < 65536 := by
  unfold cntN; split <;> omega
theorem setT_ok {m : M} {j : Nat} {t : Bool × Int} (h : MOk m) (ht : 0 ≤ t.2 ∧ t.2 < 65536) : MOk { m with T := upd m.T j t } := by
  refine ⟨h.X, h.Y, h.Mw, h.S, h.E, fun k hk => ?_, h.C, h.D, h.R, h.Time⟩
  simp only [upd]; split
  · exact ht
  · exact h.T k hk
theorem setC_ok {m : M} {j : Nat} {t : Bool × Bool × Int} (h : MOk m) (ht : 0 ≤ t.2.2 ∧ t.2.2 < 65536) : MOk { m with C := upd m.C j t } := by
  refine ⟨h.X, h.Y, h.Mw, h.S, h.E, h.T, fun k hk => ?_, h.D, h.R, h.Time⟩
  simp only [upd]; split
  · exact ht
  · exact h.C k hk
theorem timerM_ok {m : M} {op k n p dt : Int} {v : Bool} (h : MOk m) (hd : 0 ≤ dt) (hp : 0 ≤ p ∧ p ≤ 32767) : MOk (timerM m op k n p v dt) := by
  unfold timerM
  split
  · exact setT_ok h (timerT_bd (h.T _ (by have := (place_lt n).2.2.2.2.2.2.1; omega)) hd hp)
  · exact h
theorem counterM_ok {m : M} {k n p : Int} {v : Bool} (h : MOk m) : MOk (counterM m k n p v) := by
  unfold counterM
  split
  · exact setC_ok h (cntN_bd (h.C _ (by have := (place_lt n).2.2.2.2.2.2.2.1; omega)))
  · exact h
theorem resetM_ok {m : M} {k n : Int} (h : MOk m) : MOk (resetM m k n) := by
  unfold resetM
  split
  · exact setT_ok h (by simp)
  · split
    · exact setC_ok h (by simp)
    · split
      · exact h
      · exact memPut_ok h
theorem putBM_ok {m : M} {a : Dev} {v : Bool} (h : MOk m) : MOk (putBM m a v) := by
  unfold putBM; split
  · exact h
  · exact memPut_ok h
theorem clr_bd {x g : Int} (h : 0 ≤ x ∧ x < 65536) : 0 ≤ clr x g ∧ clr x g < 65536 := by
  unfold clr; split <;> omega
theorem setS_ok {m : M} {x : Int} (h : MOk m) (hx : 0 ≤ x ∧ x < 65536) : MOk { m with S := x } := ⟨h.X, h.Y, h.Mw, hx, h.E, h.T, h.C, h.D, h.R, h.Time⟩
theorem stepM_ok {m : M} {n : Int} (h : MOk m) : MOk (stepM m n) := memPut_ok (setS_ok h (clr_bd h.S))
theorem fault_ok {m : M} {b : Bool} (h : MOk m) : MOk { m with Fault := b } := ⟨h.X, h.Y, h.Mw, h.S, h.E, h.T, h.C, h.D, h.R, h.Time⟩
theorem wrap16_bd (x : Int) : -32768 ≤ IntKind.i16.wrap x ∧ IntKind.i16.wrap x ≤ 32767 := by
  have h1 := Int.emod_nonneg x (b := 65536) (by omega)
  have h2 := Int.emod_lt_of_pos x (b := 65536) (by omega)
  simp only [IntKind.wrap, IntKind.signed, IntKind.bits]
  simp
  split <;> omega
theorem tmod_bd {a b : Int} (ha : -32768 ≤ a ∧ a ≤ 32767) : -32768 ≤ a.tmod b ∧ a.tmod b ≤ 32767 := by
  have h1 : (a.tmod b).natAbs ≤ a.natAbs := by
    rw [Int.natAbs_tmod]; exact Nat.mod_le _ _
  rcases Int.le_total 0 a with h | h
  · have := Int.tmod_nonneg b h; omega
  · have : a.tmod b ≤ 0 := by
      have := Int.tmod_nonneg b (a := -a) (by omega)
      rw [Int.neg_tmod] at this; omega
    omega
theorem wholeCalc_bd {op a b : Int} (ha : -32768 ≤ a ∧ a ≤ 32767) : -32768 ≤ (wholeCalc op a b).1 ∧ (wholeCalc op a b).1 ≤ 32767 := by
  unfold wholeCalc
  (repeat' split) <;> first | exact wrap16_bd _ | exact tmod_bd ha | simp
theorem and_hi {X : Nat} (h : X < 65536) : X &&& 65280 = X - X % 256 := by
  have e1 : X - X % 256 = X / 2 ^ 8 * 2 ^ 8 := by
    have e : (2 : Nat) ^ 8 = 256 := rfl
    rw [e]; omega
  rw [e1]
  apply Nat.eq_of_testBit_eq
  intro i
  have e2 : (65280 : Nat) = 2 ^ 16 - ((2 ^ 8 - 1) + 1) := rfl
  rw [Nat.testBit_and, e2, Nat.testBit_two_pow_sub_succ (by decide), Nat.testBit_two_pow_sub_one, Nat.testBit_mul_two_pow, Nat.testBit_div_two_pow]
  by_cases h8 : 8 ≤ i
  · rw [show i - 8 + 8 = i by omega]
    have hn : ¬ i < 8 := by omega
    by_cases h16 : i < 16
    · simp [h8, hn, h16]
    · have hx : X.testBit i = false := Nat.testBit_lt_two_pow (Nat.lt_of_lt_of_le h (Nat.pow_le_pow_right (n := 2) (by omega) (show 16 ≤ i by omega)))
      simp [hx]
  · have hn : i < 8 := by omega
    simp [h8, hn]
theorem and_lo (X : Nat) : X &&& 255 = X % 256 := Nat.and_two_pow_sub_one_eq_mod X 8
theorem step_sh {p : Int} (hp : 0 ≤ p) (hp2 : p < 16) : IntKind.u64.wrap (IntKind.i64.wrap (IntKind.i64.wrap (p.tdiv 8) * 8)) = p / 8 * 8 := by
  rw [Int.tdiv_eq_ediv_of_nonneg hp, wrap_i64 (x := p / 8) (by omega) (by omega), wrap_i64 (x := p / 8 * 8) (by omega) (by omega), wrap_u64 (by omega) (by omega)]
theorem step_clr {x p : Int} (hx : 0 ≤ x ∧ x < 65536) (hp : 0 ≤ p) (hp2 : p < 16) :
    IntKind.u16.wrap (((x % 2 ^ IntKind.u16.bits).toNat &&& 2 ^ IntKind.u16.bits - 1 - (IntKind.u16.wrap (255 * 2 ^ min (p / 8 * 8).toNat IntKind.u16.bits) % 2 ^ IntKind.u16.bits).toNat : Nat) : Int) = clr x (p / 8) := by
  have e16 : IntKind.u16.bits = 16 := rfl
  have e1 : (2 : Int) ^ 16 = 65536 := rfl
  have e2 : (2 : Nat) ^ 16 = 65536 := rfl
  rw [e16, e1, e2]
  have hm : x % 65536 = x := Int.emod_eq_of_lt hx.1 hx.2
  rw [hm]
  obtain ⟨X, rfl⟩ := Int.eq_ofNat_of_zero_le hx.1
  have hX : X < 65536 := by omega
  have hg : p / 8 = 0 ∨ p / 8 = 1 := by omega
  rcases hg with hg | hg
  · rw [hg]
    have e3 : IntKind.u16.wrap (255 * 2 ^ min ((0 : Int) * 8).toNat 16) = 255 := by decide
    rw [e3]
    have e4 : ((255 : Int) % 65536).toNat = 255 := rfl
    rw [e4]
    simp only [Int.ofNat_eq_natCast, Int.toNat_natCast]
    rw [show 65536 - 1 - 255 = 65280 from rfl, and_hi hX]
    unfold clr
    rw [if_pos rfl, wrap_u16 (by omega) (by omega)]
    omega
  · rw [hg]
    have e3 : IntKind.u16.wrap (255 * 2 ^ min ((1 : Int) * 8).toNat 16) = 65280 := by decide
    rw [e3]
    have e4 : ((65280 : Int) % 65536).toNat = 65280 := rfl
    rw [e4]
    simp only [Int.ofNat_eq_natCast, Int.toNat_natCast]
    rw [show 65536 - 1 - 65280 = 255 from rfl, and_lo]
    unfold clr
    rw [if_neg (by decide), wrap_u16 (by omega) (by omega)]
    omega
def putN (x : Int) (g : Nat) : Nat → Int
  | 0 => x
  | i + 1 => putBit (putN x g i) (8 * g + i) false
theorem putN_bd {x : Int} {g : Nat} (hx : 0 ≤ x ∧ x < 65536) (hg : g ≤ 1) : ∀ k, k ≤ 8 → 0 ≤ putN x g k ∧ putN x g k < 65536
  | 0, _ => hx
  | k + 1, h => by
    have ih := putN_bd hx hg k (by omega)
    exact putBit_bd (b := 16) ih.1 ih.2 (by omega)
theorem putN_bit {x : Int} {g : Nat} (hx : 0 ≤ x ∧ x < 65536) (hg : g ≤ 1) : ∀ k, k ≤ 8 → ∀ i, i < 16 → bitOf (putN x g k) i = if 8 * g ≤ i ∧ i < 8 * g + k then false else bitOf x i
  | 0, _, i, _ => by
    have : ¬ (8 * g ≤ i ∧ i < 8 * g + 0) := by omega
    rw [if_neg this]; rfl
  | k + 1, h, i, hi => by
    have ih := putN_bd hx hg k (by omega)
    have e := bitOf_put (b := 16) (i := i) (j := 8 * g + k) (c := false) ih.1 ih.2 (by omega) hi
    rw [putN, e, putN_bit hx hg k (by omega) i hi]
    by_cases h1 : i = 8 * g + k
    · have : 8 * g ≤ i ∧ i < 8 * g + (k + 1) := by omega
      rw [if_pos h1, if_pos this]
    · rw [if_neg h1]
      by_cases h2 : 8 * g ≤ i ∧ i < 8 * g + k
      · have : 8 * g ≤ i ∧ i < 8 * g + (k + 1) := by omega
        rw [if_pos h2, if_pos this]
      · have : ¬ (8 * g ≤ i ∧ i < 8 * g + (k + 1)) := by omega
        rw [if_neg h2, if_neg this]
theorem clr_bit {x : Int} {g : Nat} (hx : 0 ≤ x ∧ x < 65536) (hg : g ≤ 1) (i : Nat) (hi : i < 16) : bitOf (clr x g) i = if 8 * g ≤ i ∧ i < 8 * g + 8 then false else bitOf x i := by
  obtain ⟨X, rfl⟩ := Int.eq_ofNat_of_zero_le hx.1
  have hX : X < 65536 := by omega
  unfold clr
  have hg' : g = 0 ∨ g = 1 := by omega
  rcases hg' with rfl | rfl
  · rw [if_pos (by rfl)]
    have e : ((X : Int) - (X : Int) % 256) = ((X &&& 65280 : Nat) : Int) := by rw [and_hi hX]; omega
    have e2 : (65280 : Nat) = 2 ^ 16 - ((2 ^ 8 - 1) + 1) := rfl
    rw [e, bitOf_nat, bitOf_nat, Nat.testBit_and, e2, Nat.testBit_two_pow_sub_succ (by decide), Nat.testBit_two_pow_sub_one]
    by_cases h : i < 8
    · simp [h]
    · simp [h, hi]
  · rw [if_neg (by decide)]
    have e : ((X : Int) % 256) = ((X &&& 255 : Nat) : Int) := by rw [and_lo]; omega
    have e2 : (255 : Nat) = 2 ^ 8 - 1 := rfl
    rw [e, bitOf_nat, bitOf_nat, Nat.testBit_and, e2, Nat.testBit_two_pow_sub_one]
    by_cases h : i < 8
    · have h2 : ¬ 8 ≤ i := by omega
      simp [h, h2]
    · have h2 : 8 ≤ i := by omega
      simp [h, h2, hi]
theorem bits_ext {x y : Int} (hx : 0 ≤ x ∧ x < 65536) (hy : 0 ≤ y ∧ y < 65536) (h : ∀ i, i < 16 → bitOf x i = bitOf y i) : x = y := by
  obtain ⟨X, rfl⟩ := Int.eq_ofNat_of_zero_le hx.1
  obtain ⟨Y, rfl⟩ := Int.eq_ofNat_of_zero_le hy.1
  congr 1
  apply Nat.eq_of_testBit_eq
  intro i
  by_cases hi : i < 16
  · have := h i hi
    simp only [Int.ofNat_eq_natCast, bitOf_nat] at this
    exact this
  · have hX : X < 2 ^ i := Nat.lt_of_lt_of_le (by omega : X < 65536) (Nat.pow_le_pow_right (n := 2) (by omega) (show 16 ≤ i by omega))
    have hY : Y < 2 ^ i := Nat.lt_of_lt_of_le (by omega : Y < 65536) (Nat.pow_le_pow_right (n := 2) (by omega) (show 16 ≤ i by omega))
    rw [Nat.testBit_lt_two_pow hX, Nat.testBit_lt_two_pow hY]
theorem putN_clr {x : Int} {g : Nat} (hx : 0 ≤ x ∧ x < 65536) (hg : g ≤ 1) : putN x g 8 = clr x g :=
  bits_ext (putN_bd hx hg 8 (by omega)) (clr_bd hx) fun i hi => by rw [putN_bit hx hg 8 (by omega) i hi, clr_bit hx hg i hi]
theorem i16_mm {x : Int} (h : -32768 ≤ x ∧ x ≤ 32767) : IntKind.i16.min ≤ x ∧ x ≤ IntKind.i16.max := by
  simp [IntKind.min, IntKind.max, IntKind.signed, IntKind.bits]; omega
end Go.Sx
