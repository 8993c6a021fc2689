/-
  Real numbers cut towards 0. Plain Lean: nothing of a program stands here. Conditions: none.
-/
import Derived.Test.YtclbanhoiaieaaaGreatDoorSyvc
import Derived.Test.YtclbanhoiaieaaaGreatDoorPvc
import Derived.Test.YtclbanhoiaieaaaGreatDoorFactsvc
set_option linter.unusedVariables false
set_option linter.unusedSimpArgs false
set_option maxRecDepth 100000
set_option maxHeartbeats 4000000
namespace Go.Sx
open Go

structure Dev where
  k : Int
  n : Int
  p : Int
deriving DecidableEq
instance : Inhabited Dev := ⟨⟨0, 0, 0⟩⟩
def encD (d : Dev) : List Value := [.int .i64 d.k, .int .i64 d.n, .int .i64 d.p]
def encDs (xs : List Dev) : List Value := (xs.map encD).flatten
def RdD (F : Facts) (o : Option Addr) (xs : List Dev) : Prop := RdO F 3 o (xs.map encD)
theorem RdD.mono {F G : Facts} {o : Option Addr} {xs : List Dev} (h : RdD F o xs) (hs : Sub F G) : RdD G o xs := RdO.mono h hs
theorem encD_inj {a b : Dev} (h : encD a = encD b) : a = b := by
  obtain ⟨k, n, p⟩ := a
  obtain ⟨k', n', p'⟩ := b
  simp [encD] at h
  obtain ⟨rfl, rfl, rfl⟩ := h
  rfl
theorem map_encD_inj : ∀ {xs ys : List Dev}, xs.map encD = ys.map encD → xs = ys
  | [], [], _ => rfl
  | [], _ :: _, h => by simp at h
  | _ :: _, [], h => by simp at h
  | a :: xs, b :: ys, h => by
    simp only [List.map_cons, List.cons.injEq] at h
    rw [encD_inj h.1, map_encD_inj h.2]
theorem RdD.uniq {F : Facts} {o o' : Option Addr} {xs ys : List Dev} (h : RdD F o xs) (h' : RdD F o' ys) (ho : o = o') (hl : xs.length = ys.length) : xs = ys := by
  subst ho
  exact map_encD_inj (RdO.uniq h h' (by simpa using hl))
theorem RdD.there {F : Facts} {o : Option Addr} {xs : List Dev} (h : RdD F o xs) {i : Nat} (hi : i < xs.length) : o.isSome = true := by
  obtain ⟨_, a, rfl, _⟩ := h i (encD (xs[i])) (by simp [hi])
  rfl
theorem RdD.ld {P : Program} {d : Nat} {cx : Cx} {mem : List Blk} {o : Option Addr} {xs : List Dev} (h : RdD (factF cx) o xs) {t : TypeId} (ht : aggT P t = some true) (hs : P.cellsOf t = 3) {i : Nat} {x : Dev} (hi : xs[i]? = some x) {K : Value → Prop} :
    LoadV d P cx mem t (padd o (i * 3)) K = K (.agg #[.int .i64 x.k, .int .i64 x.n, .int .i64 x.p]) :=
  RdO.ld_agg (RdO.mono h (sub_now cx mem)) ht hs (r := encD x) (by simp [hi])
structure IsArgs (F : Facts) (v : Value) (xs : List Dev) : Prop where
  ex : ∃ o cap, v = .slice o xs.length cap ∧ RdD F o xs ∧ xs.length ≤ cap ∧ cap ≤ maxLen
theorem IsArgs.mono {F G : Facts} {v : Value} {xs : List Dev} (h : IsArgs F v xs) (hs : Sub F G) : IsArgs G v xs := by
  obtain ⟨o, cap, h1, h2, h3⟩ := h.ex
  exact ⟨o, cap, h1, h2.mono hs, h3⟩
structure IsElem (F : Facts) (v : Value) (op : Int) (xs : List Dev) : Prop where
  ex : ∃ o cap, v = .agg #[.int .i64 op, .slice o xs.length cap] ∧ RdD F o xs ∧ xs.length ≤ cap ∧ cap ≤ maxLen
theorem IsElem.mono {F G : Facts} {v : Value} {op : Int} {xs : List Dev} (h : IsElem F v op xs) (hs : Sub F G) : IsElem G v op xs := by
  obtain ⟨o, cap, h1, h2, h3⟩ := h.ex
  exact ⟨o, cap, h1, h2.mono hs, h3⟩

theorem len_encDs (xs : List Dev) : (encDs xs).length = xs.length * 3 := by
  induction xs with
  | nil => rfl
  | cons a l ih =>
    have : encDs (a :: l) = encD a ++ encDs l := rfl
    rw [this, List.length_append, ih]
    simp [encD]; omega
end Go.Sx
namespace Go.Sx
open Go

structure Ins where
  code : Int
  op : Int
  args : List Dev
deriving DecidableEq
instance : Inhabited Ins := ⟨⟨0, 0, []⟩⟩
structure RdR (F : Facts) (r : List Value) (i : Ins) : Prop where
  ex : ∃ o cap, r = [.int .i64 i.code, .int .i64 i.op, .slice o i.args.length cap] ∧ RdD F o i.args ∧ i.args.length ≤ cap ∧ cap ≤ maxLen
theorem RdR.mono {F G : Facts} {r : List Value} {i : Ins} (h : RdR F r i) (hs : Sub F G) : RdR G r i := by
  obtain ⟨o, cap, h1, h2, h3⟩ := h.ex
  exact ⟨o, cap, h1, h2.mono hs, h3⟩
theorem RdR.len {F : Facts} {r : List Value} {i : Ins} (h : RdR F r i) : r.length = 3 := by
  obtain ⟨o, cap, rfl, _⟩ := h.ex; rfl
theorem RdR.uniq {F : Facts} {r : List Value} {i j : Ins} (h : RdR F r i) (h' : RdR F r j) : i = j := by
  obtain ⟨o, cap, h1, h2, _⟩ := h.ex
  obtain ⟨o', cap', g1, g2, _⟩ := h'.ex
  rw [h1] at g1
  simp only [List.cons.injEq, Value.int.injEq, Value.slice.injEq, true_and, and_true] at g1
  obtain ⟨e1, e2, e3, e4, _⟩ := g1
  have := h2.uniq g2 e3 e4
  obtain ⟨c, o1, a⟩ := i
  obtain ⟨c', o1', a'⟩ := j
  simp at e1 e2 this
  subst e1 e2 this
  rfl
structure RdN (F : Facts) (o : Option Addr) (xs : List Ins) : Prop where
  ex : ∃ rows : List (List Value), RdO F 3 o rows ∧ rows.length = xs.length ∧ ∀ (i : Nat) r x, rows[i]? = some r → xs[i]? = some x → RdR F r x
theorem RdN.mono {F G : Facts} {o : Option Addr} {xs : List Ins} (h : RdN F o xs) (hs : Sub F G) : RdN G o xs := by
  obtain ⟨rows, h1, h2, h3⟩ := h.ex
  exact ⟨rows, h1.mono hs, h2, fun i r x hr hx => (h3 i r x hr hx).mono hs⟩
theorem RdN.uniq {F : Facts} {o o' : Option Addr} {xs ys : List Ins} (h : RdN F o xs) (h' : RdN F o' ys) (ho : o = o') (hl : xs.length = ys.length) : xs = ys := by
  subst ho
  obtain ⟨rows, h1, h2, h3⟩ := h.ex
  obtain ⟨rows', g1, g2, g3⟩ := h'.ex
  obtain rfl := h1.uniq g1 (by omega)
  apply List.ext_getElem?
  intro i
  by_cases hi : i < xs.length
  · have e1 : xs[i]? = some xs[i] := by simp [hi]
    have e2 : ys[i]? = some (ys[i]'(by omega)) := by simp [show i < ys.length by omega]
    have e3 : rows[i]? = some (rows[i]'(by omega)) := by simp [show i < rows.length by omega]
    rw [e1, e2, (h3 i _ _ e3 e1).uniq (g3 i _ _ e3 e2)]
  · rw [List.getElem?_eq_none (by omega), List.getElem?_eq_none (by omega)]
theorem RdN.there {F : Facts} {o : Option Addr} {xs : List Ins} (h : RdN F o xs) {i : Nat} (hi : i < xs.length) : o.isSome = true := by
  obtain ⟨rows, h1, h2, _⟩ := h.ex
  obtain ⟨_, a, rfl, _⟩ := h1 i (rows[i]'(by omega)) (by simp [show i < rows.length by omega])
  rfl
theorem RdN.nil (F : Facts) (o : Option Addr) : RdN F o [] := ⟨[], RdO.nil _ _ _, rfl, by simp⟩

theorem RdO.ld_sub {P : Program} {d : Nat} {cx : Cx} {mem : List Blk} {size : Nat} {o : Option Addr} {rows : List (List Value)} (h : RdO (nowF cx mem) size o rows) {t : TypeId} (ht : aggT P t = some true)
    {i j : Nat} {r : List Value} (hi : rows[i]? = some r) (hj : j + P.cellsOf t ≤ size) {K : Value → Prop} : LoadV d P cx mem t (padd o (i * size + j)) K = K (.agg ((r.drop j).take (P.cellsOf t)).toArray) := by
  obtain ⟨h1, a, rfl, h3⟩ := h i r hi
  have hlen : ((r.drop j).take (P.cellsOf t)).length = P.cellsOf t := by simp; omega
  have hc : ∀ (q : Nat) x, ((r.drop j).take (P.cellsOf t))[q]? = some x → nowF cx mem (a.add (i * size + j + q)) = some x := fun q x hq => by
    rw [List.getElem?_take] at hq
    split at hq
    · rw [List.getElem?_drop] at hq
      have := h3 (j + q) x hq
      rwa [← Nat.add_assoc] at this
    · simp at hq
  unfold LoadV
  simp only [ht, padd, Option.map_some, Option.some.injEq]
  apply propext
  constructor
  · rintro ⟨_, rfl, vs, hl, hv, hk⟩
    have : vs = (r.drop j).take (P.cellsOf t) := by
      apply List.ext_getElem?
      intro q
      by_cases hq : q < P.cellsOf t
      · have f1 : vs[q]? = some (vs[q]'(by omega)) := by simp [show q < vs.length by omega]
        have f2 : ((r.drop j).take (P.cellsOf t))[q]? = some (((r.drop j).take (P.cellsOf t))[q]'(by omega)) := by simp [hlen, hq]
        have e1 := hv q _ f1
        have e2 := hc q _ f2
        rw [addr_add_add] at e1
        rw [e1] at e2
        rw [f1, f2, Option.some.inj e2]
      · rw [List.getElem?_eq_none (by omega), List.getElem?_eq_none (by omega)]
    rw [← this]; exact hk
  · intro hk
    exact ⟨_, rfl, _, hlen, fun q v hq => by rw [addr_add_add]; exact hc q v hq, hk⟩
structure InsAt (cx : Cx) (o : Option Addr) (i : Nat) (x : Ins) (o' : Option Addr) (cap : Nat) : Prop where
  args : RdD (factF cx) o' x.args
  le : x.args.length ≤ cap ∧ cap ≤ maxLen
  all : ∀ {P : Program} {d : Nat} {mem : List Blk} {t : TypeId} {K : Value → Prop}, aggT P t = some true → P.cellsOf t = 3 → LoadV d P cx mem t (padd o (i * 3)) K = K (.agg #[.int .i64 x.code, .int .i64 x.op, .slice o' x.args.length cap])
  one : ∀ {P : Program} {d : Nat} {mem : List Blk} {t : TypeId} {K : Value → Prop}, aggT P t = some true → P.cellsOf t = 2 → LoadV d P cx mem t (padd o (i * 3 + 1)) K = K (.agg #[.int .i64 x.op, .slice o' x.args.length cap])
  code : ∀ {P : Program} {d : Nat} {mem : List Blk} {t : TypeId} {K : Value → Prop}, aggT P t = some false → LoadV d P cx mem t (padd o (i * 3)) K = K (.int .i64 x.code)
  op : ∀ {P : Program} {d : Nat} {mem : List Blk} {t : TypeId} {K : Value → Prop}, aggT P t = some false → LoadV d P cx mem t (padd o (i * 3 + 1)) K = K (.int .i64 x.op)
  sl : ∀ {P : Program} {d : Nat} {mem : List Blk} {t : TypeId} {K : Value → Prop}, aggT P t = some false → LoadV d P cx mem t (padd o (i * 3 + 2)) K = K (.slice o' x.args.length cap)
theorem RdN.at {cx : Cx} {o : Option Addr} {xs : List Ins} (h : RdN (factF cx) o xs) {i : Nat} {x : Ins} (hx : xs[i]? = some x) : ∃ o' cap, InsAt cx o i x o' cap := by
  obtain ⟨rows, h1, h2, h3⟩ := h.ex
  have hi := (List.getElem?_eq_some_iff.1 hx).1
  have hr : rows[i]? = some (rows[i]'(by omega)) := by simp [show i < rows.length by omega]
  obtain ⟨o', cap, e, g1, g2, g3⟩ := (h3 i _ x hr hx).ex
  generalize rows[i]'(by omega) = r at *
  subst e
  have hn := fun mem => h1.mono (sub_now cx mem)
  refine ⟨o', cap, g1, ⟨g2, g3⟩, fun ht hc => RdO.ld_agg (hn _) ht hc hr, fun ht hc => ?_, fun ht => RdO.ld_zero (hn _) ht hr rfl, fun ht => RdO.ld_one (hn _) ht hr rfl, fun ht => RdO.ld_one (hn _) ht hr rfl⟩
  rw [RdO.ld_sub (hn _) ht hr (by omega), hc]
  rfl
structure IsInst (F : Facts) (v : Value) (x : Ins) : Prop where
  ex : ∃ o cap, v = .agg #[.int .i64 x.code, .int .i64 x.op, .slice o x.args.length cap] ∧ RdD F o x.args ∧ x.args.length ≤ cap ∧ cap ≤ maxLen
theorem IsInst.mono {F G : Facts} {v : Value} {x : Ins} (h : IsInst F v x) (hs : Sub F G) : IsInst G v x := by
  obtain ⟨o, cap, h1, h2, h3⟩ := h.ex
  exact ⟨o, cap, h1, h2.mono hs, h3⟩
structure IsList (F : Facts) (v : Value) (xs : List Ins) : Prop where
  ex : ∃ o cap, v = .slice o xs.length cap ∧ RdN F o xs ∧ xs.length ≤ cap ∧ cap ≤ maxLen
theorem IsList.mono {F G : Facts} {v : Value} {xs : List Ins} (h : IsList F v xs) (hs : Sub F G) : IsList G v xs := by
  obtain ⟨o, cap, h1, h2, h3⟩ := h.ex
  exact ⟨o, cap, h1, h2.mono hs, h3⟩

structure RdF (F : Facts) (rs : List (List Value)) (xs : List Ins) : Prop where
  le : rs.length ≤ xs.length
  at' : ∀ (j : Nat) r x, rs[j]? = some r → xs[j]? = some x → RdR F r x
theorem RdF.mono {F G : Facts} {rs : List (List Value)} {xs : List Ins} (h : RdF F rs xs) (hs : Sub F G) : RdF G rs xs := ⟨h.le, fun j r x hr hx => (h.at' j r x hr hx).mono hs⟩
theorem RdF.len {F : Facts} {rs : List (List Value)} {xs : List Ins} (h : RdF F rs xs) : ∀ r ∈ rs, r.length = 3 := fun r hr => by
  obtain ⟨j, hj⟩ := List.getElem?_of_mem hr
  have hjl := (List.getElem?_eq_some_iff.1 hj).1
  have := h.le
  exact (h.at' j r (xs[j]'(by omega)) hj (by simp [show j < xs.length by omega])).len
theorem RdF.nil (F : Facts) (xs : List Ins) : RdF F [] xs := ⟨by simp, by simp⟩
end Go.Sx
namespace Go.Sx
open Go

def dOk (d : Dev) : Bool := devOk d.k d.n d.p
def isBit (d : Dev) : Bool := decide (d.k = 1 ∨ d.k = 2 ∨ d.k = 3 ∨ d.k = 4 ∨ d.k = 6 ∨ d.k = 7 ∨ d.k = 8) && dOk d
def isWhl (d : Dev) : Bool := decide (d.k = 7 ∨ d.k = 8 ∨ d.k = 9 ∨ d.k = 11) && dOk d
def isRl (d : Dev) : Bool := decide (d.k = 10 ∨ d.k = 12 ∨ d.k = 13) && dOk d
def arity (op : Int) : Int :=
  if op = 1 ∨ op = 2 ∨ op = 21 ∨ op = 22 ∨ op = 23 ∨ op = 25 then 1 else if op = 31 ∨ op = 32 ∨ op = 33 ∨ op = 34 ∨ op = 35 then 3 else if (1 ≤ op ∧ op ≤ 10) ∨ (21 ≤ op ∧ op ≤ 37) then 2 else 0
def pOk (d : Dev) : Bool := decide (d.k = 11 ∧ 0 ≤ d.n)
def xD (xs : List Dev) (j : Nat) : Dev := xs.getD j default
def bothB (xs : List Dev) : Bool := xs.all isWhl || xs.all isRl
def conB (op : Int) (xs : List Dev) : Bool :=
  if op ≤ 2 then isBit (xD xs 0) else if op ≤ 4 then isBit (xD xs 0) && decide ((xD xs 1).k = 5) else bothB xs
def conOk (op : Int) (xs : List Dev) : Bool := decide (1 ≤ op ∧ op ≤ 10 ∧ (xs.length : Int) = arity op) && xs.all dOk && conB op xs
def coilB (op : Int) (a : Dev) (r : List Dev) : Bool :=
  if op = 21 then decide (a.k = 2 ∨ a.k = 3) else if op = 22 then decide (a.k = 2 ∨ a.k = 3 ∨ a.k = 4) else if op = 23 then decide (a.k = 2 ∨ a.k = 3 ∨ a.k = 4 ∨ a.k = 7 ∨ a.k = 8)
  else if op = 24 then decide ((a.k = 2 ∨ a.k = 3) ∧ (xD r 0).k = 5) else if op = 25 then decide (a.k = 4)
  else if op = 26 ∨ op = 27 ∨ op = 28 then decide (a.k = 7) && pOk (xD r 0) else if op = 29 then decide (a.k = 8) && pOk (xD r 0)
  else if op = 35 then decide (a.k = 9) && r.all isWhl else if op = 36 then decide (a.k = 10) && r.all isWhl else if op = 37 then decide (a.k = 9) && r.all isRl
  else decide (a.k = 9) && r.all isWhl || decide (a.k = 10) && r.all isRl
def coilOk (op : Int) (xs : List Dev) : Bool := decide (21 ≤ op ∧ op ≤ 37 ∧ (xs.length : Int) = arity op) && xs.all dOk && coilB op (xD xs 0) (xs.drop 1)
structure DevAt (cx : Cx) (o o1 : Option Addr) (x : Dev) : Prop where
  there : o.isSome = true
  all : ∀ {P : Program} {d : Nat} {mem : List Blk} {t : TypeId} {K : Value → Prop}, aggT P t = some true → P.cellsOf t = 3 → LoadV d P cx mem t o K = K (.agg #[.int .i64 x.k, .int .i64 x.n, .int .i64 x.p])
  k : ∀ {P : Program} {d : Nat} {mem : List Blk} {t : TypeId} {K : Value → Prop}, aggT P t = some false → LoadV d P cx mem t o K = K (.int .i64 x.k)
  n : ∀ {P : Program} {d : Nat} {mem : List Blk} {t : TypeId} {K : Value → Prop}, aggT P t = some false → LoadV d P cx mem t o1 K = K (.int .i64 x.n)
theorem RdD.at {cx : Cx} {o : Option Addr} {xs : List Dev} (h : RdD (factF cx) o xs) {i : Nat} {x : Dev} (hx : xs[i]? = some x) : DevAt cx (padd o (i * 3)) (padd o (i * 3 + 1)) x := by
  have hr : (xs.map encD)[i]? = some (encD x) := by simp [hx]
  have hn := fun mem => RdO.mono h (sub_now cx mem)
  exact ⟨by rw [padd_isSome]; exact h.there (List.getElem?_eq_some_iff.1 hx).1, fun ht hc => RdO.ld_agg (hn _) ht hc hr, fun ht => RdO.ld_zero (hn _) ht hr rfl, fun ht => RdO.ld_one (hn _) ht hr rfl⟩
theorem RdD.at0 {cx : Cx} {o : Option Addr} {xs : List Dev} (h : RdD (factF cx) o xs) {x : Dev} (hx : xs[0]? = some x) : DevAt cx o (padd o 1) x := by
  have := h.at hx; simpa using this
end Go.Sx

namespace Go.Sx
open Go

theorem cut_zero (neg : Bool) (n : Nat) : Ieee.Toward.even.cut neg n 0 = n := by
  simp [Ieee.Toward.cut, Nat.mod_one]
theorem nearest_int {mag : Nat} {neg : Bool} (h0 : mag ≠ 0) (h : mag < 9007199254740992) :
    dbl.nearest neg mag 0 = dbl.word neg ((mag.log2 + 1022) * 4503599627370496 + mag * 2 ^ (52 - mag.log2)) ∧ mag.log2 ≤ 52 ∧ 4503599627370496 ≤ mag * 2 ^ (52 - mag.log2) ∧ mag * 2 ^ (52 - mag.log2) < 9007199254740992 := by
  obtain ⟨c1, c2, c3, c4⟩ := consts
  have hl : mag.log2 < 53 := (Nat.log2_lt h0).2 h
  have h1 : 2 ^ mag.log2 ≤ mag := Nat.log2_self_le h0
  have h2 : mag < 2 ^ (mag.log2 + 1) := Nat.lt_log2_self
  have e52 : 2 ^ mag.log2 * 2 ^ (52 - mag.log2) = 4503599627370496 := by
    rw [← Nat.pow_add, show mag.log2 + (52 - mag.log2) = 52 by omega]
  have e53 : 2 ^ (mag.log2 + 1) * 2 ^ (52 - mag.log2) = 9007199254740992 := by
    rw [← Nat.pow_add, show mag.log2 + 1 + (52 - mag.log2) = 53 by omega]
  have hp : 0 < 2 ^ (52 - mag.log2) := Nat.two_pow_pos _
  have hlo : 4503599627370496 ≤ mag * 2 ^ (52 - mag.log2) := by rw [← e52]; exact Nat.mul_le_mul_right _ h1
  have hhi : mag * 2 ^ (52 - mag.log2) < 9007199254740992 := by rw [← e53]; exact Nat.mul_lt_mul_of_pos_right h2 hp
  refine ⟨?_, by omega, hlo, hhi⟩
  unfold Ieee.Format.nearest
  rw [if_neg h0]
  have hf : dbl.fractionBits = 52 := rfl
  simp only [hf, c2, c3, c4]
  have hm : max ((0 : Int) + mag.log2 - (52 : Nat)) (-1074) = (mag.log2 : Int) - 52 := by omega
  rw [hm]
  have ha : ((0 : Int) - ((mag.log2 : Int) - 52)).toNat = 52 - mag.log2 := by omega
  have hb : (((mag.log2 : Int) - 52) - 0).toNat = 0 := by omega
  rw [ha, hb, cut_zero, Nat.shiftLeft_eq]
  have hc : (((mag.log2 : Int) - 52) - (-1074)).toNat = mag.log2 + 1022 := by omega
  rw [hc, Nat.min_eq_left (by omega)]
theorem read_int {mag : Nat} {neg : Bool} (h0 : mag ≠ 0) (h : mag < 9007199254740992) :
    dbl.read (dbl.nearest neg mag 0) = .number neg (mag * 2 ^ (52 - mag.log2)) ((mag.log2 : Int) - 52) := by
  obtain ⟨c1, c2, c3, c4⟩ := consts
  obtain ⟨e, hl, hlo, hhi⟩ := nearest_int (neg := neg) h0 h
  rw [e]
  generalize mag * 2 ^ (52 - mag.log2) = m at *
  generalize mag.log2 = l at *
  unfold Ieee.Format.read Ieee.Format.word
  simp only [c1, c2, c3, c4]
  have hr : (if neg = true then 9223372036854775808 + ((l + 1022) * 4503599627370496 + m) else (l + 1022) * 4503599627370496 + m) % 9223372036854775808 = (l + 1022) * 4503599627370496 + m := by
    cases neg <;> simp <;> omega
  have hn : ((if neg = true then 9223372036854775808 + ((l + 1022) * 4503599627370496 + m) else (l + 1022) * 4503599627370496 + m) / 9223372036854775808 % 2 == 1) = neg := by
    cases neg <;> simp <;> omega
  rw [hr, hn, if_neg (by omega), if_pos (by omega)]
  have h1 : 4503599627370496 + ((l + 1022) * 4503599627370496 + m) % 4503599627370496 = m := by omega
  have h2 : (-1074 : Int) + ((((l + 1022) * 4503599627370496 + m) / 4503599627370496 - 1 : Nat) : Int) = (l : Int) - 52 := by omega
  rw [h1, h2]
theorem read_whole {a : Int} (ha : a.natAbs < 9007199254740992) : ∃ (m d : Nat), d ≤ 1074 ∧ dbl.read (FloatKind.f64.nearest a) = .number (decide (a < 0)) m (-(d : Int)) ∧ m = a.natAbs * 2 ^ d := by
  by_cases h0 : a = 0
  · subst h0
    obtain ⟨d, hd⟩ : ∃ d : Nat, d = 1074 := ⟨1074, rfl⟩
    exact ⟨0, d, by omega, by subst hd; kernel_rfl, by rw [Int.natAbs_zero, Nat.zero_mul]⟩
  · have h1 : a.natAbs ≠ 0 := by omega
    refine ⟨_, 52 - a.natAbs.log2, by omega, ?_, rfl⟩
    have hr := read_int (neg := decide (a < 0)) h1 ha
    have hl := (nearest_int (neg := decide (a < 0)) h1 ha).2.1
    have e : FloatKind.f64.nearest a = dbl.nearest (decide (a < 0)) a.natAbs 0 := rfl
    rw [e, hr]
    congr 1
    omega
theorem cmp_mul {a b c : Int} (hc : 0 < c) : compare (a * c) (b * c) = compare a b := by
  simp only [compare, compareOfLessAndEq]
  have h1 : a * c < b * c ↔ a < b := Int.mul_lt_mul_right hc
  have h2 : a * c = b * c ↔ a = b := Int.mul_eq_mul_right_iff (by omega)
  simp only [h1, h2]
end Go.Sx

namespace Go.Sx
open Go

end Go.Sx
namespace Go.Sx
open Go

theorem bitOf_nat (X : Nat) (i : Nat) : bitOf (X : Int) i = X.testBit i := by
  unfold bitOf
  rw [Nat.testBit_eq_decide_div_mod_eq]
  congr 1
  apply propext
  have e : ((X : Int) / 2 ^ i % 2) = ((X / 2 ^ i % 2 : Nat) : Int) := by push_cast; rfl
  rw [e]
  omega
theorem bitOf_put {x : Int} {b i j : Nat} {c : Bool} (hx : 0 ≤ x) (hx2 : x < 2 ^ b) (hj : j < b) (hi : i < b) : bitOf (putBit x j c) i = if i = j then c else bitOf x i := by
  obtain ⟨X, rfl⟩ := Int.eq_ofNat_of_zero_le hx
  have hX : X < 2 ^ b := by exact_mod_cast hx2
  have e := putBit_nat (c := c) hX hj
  rw [show (((X : Nat) : Int)) = ((X : Nat) : Int) from rfl] at *
  rw [e, bitOf_nat, bitOf_nat, Nat.testBit_or, Nat.testBit_and]
  have h2 : 2 ^ j < 2 ^ b := Nat.pow_lt_pow_right (by omega) hj
  have e2 : 2 ^ b - 1 - 2 ^ j = 2 ^ b - (2 ^ j + 1) := by omega
  rw [e2, Nat.testBit_two_pow_sub_succ h2, Nat.testBit_two_pow]
  by_cases h : i = j
  · subst h
    cases c <;> simp [hi, Nat.testBit_two_pow]
  · have h' : ¬ j = i := fun h' => h h'.symm
    cases c <;> simp [hi, h, h', Nat.testBit_two_pow]

theorem zeroM_ok : MOk zeroM := by
  constructor <;> (try decide) <;> (intro k _; simp [zeroM, Arr.zero]; try decide)
end Go.Sx

namespace Go.Proofs.YtclbanhoiaieaaaGreatDoor
open Go Go.Sx

end Go.Proofs.YtclbanhoiaieaaaGreatDoor
namespace Go.Proofs.YtclbanhoiaieaaaGreatDoor
open Go Go.Sx
attribute [local simp] Sx.vcsE1 Sx.vcsE2 Sx.vcsE3 Sx.vcsE4 Sx.vcsE5 Sx.vcsE6 Sx.vcsE7 Sx.vcsE8 Sx.vcsE9 Sx.vcsE10 Sx.vcsE11 Sx.vcsE12 Sx.vcsE13 Sx.vcsE14 Sx.vcsE15 Sx.vcsE16 Sx.vcsE17 Sx.vcsE18 Sx.vcsE19 Sx.get Sx.look Sx.put Sx.pureFn Sx.findOrd Sx.unF Sx.dstOk Sx.isFloatT Sx.endVC Sx.resFn Sx.packC Sx.newFn Sx.storeFn Sx.buildFn Sx.known Sx.aggT Sx.cellsC Sx.findCon Sx.allV Sx.partsV Sx.partsC Sx.fillL Sx.exitTo Sx.fAr Sx.eqFn Sx.eqFieldsFn Sx.eqElemsFn Sx.partFn Sx.sliceFn Sx.boundFn Sx.AppV Sx.CopyV Sx.MakeSliceV Sx.NewsV Sx.GrowV Sx.TextV Sx.bytesL Sx.notInt Sx.typeAt Sx.argAt Sx.den Go.undef Go.Value.cells Go.Value.oneCell' Sx.Con.pure Sx.Con.some Sx.Con.read Sx.Con.make Sx.Con.ext Sx.Con.rel Sx.Con.extS Sx.Con.draw Sx.Con.step Sx.C.one Sx.Draws.steps

theorem i_succ {i : Nat} (h : i < 4611686018427387904) : IntKind.i64.wrap ((i : Int) + 1) = ((i + 1 : Nat) : Int) := by
  rw [wrap_i64 (by omega) (by omega)]; omega

end Go.Proofs.YtclbanhoiaieaaaGreatDoor

namespace Go.Sx
open Go

def wholeN (m : Nat) (i : Int) : Nat := if 0 ≤ i then m * 2 ^ i.toNat else m / 2 ^ (-i).toNat
theorem cutz (s : Bool) (n k : Nat) : Ieee.Toward.zero.cut s n k = n / 2 ^ k := by
  simp only [Ieee.Toward.cut, Bool.toNat_false, Nat.add_zero, Nat.shiftLeft_eq, Nat.one_mul]
  by_cases h : k ≤ n.log2 + 2
  · rw [Nat.min_eq_left h]
  · rw [Nat.min_eq_right (by omega)]
    have h1 : n < 2 ^ (n.log2 + 1) := Nat.lt_log2_self
    have h2 : n < 2 ^ (n.log2 + 2) := Nat.lt_of_lt_of_le h1 (Nat.pow_le_pow_right (by omega) (by omega))
    have h3 : n < 2 ^ k := Nat.lt_of_lt_of_le h2 (Nat.pow_le_pow_right (by omega) (by omega))
    rw [Nat.div_eq_of_lt h2, Nat.div_eq_of_lt h3]
theorem integral_num (s : Bool) (m : Nat) (i : Int) : (Ieee.Datum.number s m i).integral .zero = .number s (wholeN m i) 0 := by
  simp only [Ieee.Datum.integral, wholeN, cutz, Nat.shiftLeft_eq]
  congr 1
  split
  · rename_i h
    have : (-i).toNat = 0 := by omega
    rw [this]; simp
  · rename_i h
    have : i.toNat = 0 := by omega
    rw [this]; simp
theorem signed_pow (s : Bool) (m u : Nat) : Ieee.signed s m u = if s then -((m * 2 ^ u : Nat) : Int) else ((m * 2 ^ u : Nat) : Int) := by
  unfold Ieee.signed; rw [Nat.shiftLeft_eq]
theorem cmpI (a b : Int) : compare a b = if a < b then .lt else if a = b then .eq else .gt := rfl
theorem toInt_num {x : Nat} {s : Bool} {m : Nat} {i : Int} (hr : dbl.read x = .number s m i) : (dbl.read x).toInt .zero = some (if s then -(wholeN m i : Int) else (wholeN m i : Int)) := by
  rw [hr]
  unfold Ieee.Datum.toInt
  rw [integral_num]
  simp only [signed_pow, Nat.pow_zero, Nat.mul_one]
end Go.Sx
