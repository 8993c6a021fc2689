/-
  Which contacts, coils and instructions are ok, plainly. Plain Lean: nothing of a program stands here. Conditions: none.
-/
import Derived.Test.YtclbanhoiaieaaaGreatDoorSyva
import Derived.Test.YtclbanhoiaieaaaGreatDoorPva
set_option linter.unusedVariables false
set_option linter.unusedSimpArgs false
namespace Go.Sx
open Go

structure Dev where
  k : Int
  n : Int
  p : Int
deriving DecidableEq
instance : Inhabited Dev := ⟨⟨0, 0, 0⟩⟩
def encD (d : Dev) : List Value := [.int .i64 d.k, .int .i64 d.n, .int .i64 d.p]
def encDs (xs : List Dev) : List Value := (xs.map encD).flatten
def RdD (F : Facts) (o : Option Addr) (xs : List Dev) : Prop := RdO F 3 o (xs.map encD)
theorem RdD.mono {F G : Facts} {o : Option Addr} {xs : List Dev} (h : RdD F o xs) (hs : Sub F G) : RdD G o xs := RdO.mono h hs
theorem encD_inj {a b : Dev} (h : encD a = encD b) : a = b := by
  obtain ⟨k, n, p⟩ := a
  obtain ⟨k', n', p'⟩ := b
  simp [encD] at h
  obtain ⟨rfl, rfl, rfl⟩ := h
  rfl
theorem map_encD_inj : ∀ {xs ys : List Dev}, xs.map encD = ys.map encD → xs = ys
  | [], [], _ => rfl
  | [], _ :: _, h => by simp at h
  | _ :: _, [], h => by simp at h
  | a :: xs, b :: ys, h => by
    simp only [List.map_cons, List.cons.injEq] at h
    rw [encD_inj h.1, map_encD_inj h.2]
theorem RdD.uniq {F : Facts} {o o' : Option Addr} {xs ys : List Dev} (h : RdD F o xs) (h' : RdD F o' ys) (ho : o = o') (hl : xs.length = ys.length) : xs = ys := by
  subst ho
  exact map_encD_inj (RdO.uniq h h' (by simpa using hl))
theorem RdD.there {F : Facts} {o : Option Addr} {xs : List Dev} (h : RdD F o xs) {i : Nat} (hi : i < xs.length) : o.isSome = true := by
  obtain ⟨_, a, rfl, _⟩ := h i (encD (xs[i])) (by simp [hi])
  rfl
theorem RdD.ld {P : Program} {d : Nat} {cx : Cx} {mem : List Blk} {o : Option Addr} {xs : List Dev} (h : RdD (factF cx) o xs) {t : TypeId} (ht : aggT P t = some true) (hs : P.cellsOf t = 3) {i : Nat} {x : Dev} (hi : xs[i]? = some x) {K : Value → Prop} :
    LoadV d P cx mem t (padd o (i * 3)) K = K (.agg #[.int .i64 x.k, .int .i64 x.n, .int .i64 x.p]) :=
  RdO.ld_agg (RdO.mono h (sub_now cx mem)) ht hs (r := encD x) (by simp [hi])
theorem RdL.devs {F : Facts} {o : Option Addr} {vs : List Value} (h : RdL F o vs) (xs : List Dev) (hc : encDs xs = vs) : RdD F o xs :=
  RdL.rows h (by decide) (fun r hr => by
    simp only [List.mem_map] at hr
    obtain ⟨d, _, rfl⟩ := hr
    rfl) hc
structure IsArgs (F : Facts) (v : Value) (xs : List Dev) : Prop where
  ex : ∃ o cap, v = .slice o xs.length cap ∧ RdD F o xs ∧ xs.length ≤ cap ∧ cap ≤ maxLen
theorem IsArgs.mono {F G : Facts} {v : Value} {xs : List Dev} (h : IsArgs F v xs) (hs : Sub F G) : IsArgs G v xs := by
  obtain ⟨o, cap, h1, h2, h3⟩ := h.ex
  exact ⟨o, cap, h1, h2.mono hs, h3⟩
structure IsElem (F : Facts) (v : Value) (op : Int) (xs : List Dev) : Prop where
  ex : ∃ o cap, v = .agg #[.int .i64 op, .slice o xs.length cap] ∧ RdD F o xs ∧ xs.length ≤ cap ∧ cap ≤ maxLen
theorem IsElem.mono {F G : Facts} {v : Value} {op : Int} {xs : List Dev} (h : IsElem F v op xs) (hs : Sub F G) : IsElem G v op xs := by
  obtain ⟨o, cap, h1, h2, h3⟩ := h.ex
  exact ⟨o, cap, h1, h2.mono hs, h3⟩

theorem len_encDs (xs : List Dev) : (encDs xs).length = xs.length * 3 := by
  induction xs with
  | nil => rfl
  | cons a l ih =>
    have : encDs (a :: l) = encD a ++ encDs l := rfl
    rw [this, List.length_append, ih]
    simp [encD]; omega
end Go.Sx
namespace Go.Sx
open Go

structure Ins where
  code : Int
  op : Int
  args : List Dev
deriving DecidableEq
instance : Inhabited Ins := ⟨⟨0, 0, []⟩⟩
structure RdR (F : Facts) (r : List Value) (i : Ins) : Prop where
  ex : ∃ o cap, r = [.int .i64 i.code, .int .i64 i.op, .slice o i.args.length cap] ∧ RdD F o i.args ∧ i.args.length ≤ cap ∧ cap ≤ maxLen
theorem RdR.mono {F G : Facts} {r : List Value} {i : Ins} (h : RdR F r i) (hs : Sub F G) : RdR G r i := by
  obtain ⟨o, cap, h1, h2, h3⟩ := h.ex
  exact ⟨o, cap, h1, h2.mono hs, h3⟩
theorem RdR.len {F : Facts} {r : List Value} {i : Ins} (h : RdR F r i) : r.length = 3 := by
  obtain ⟨o, cap, rfl, _⟩ := h.ex; rfl
theorem RdR.uniq {F : Facts} {r : List Value} {i j : Ins} (h : RdR F r i) (h' : RdR F r j) : i = j := by
  obtain ⟨o, cap, h1, h2, _⟩ := h.ex
  obtain ⟨o', cap', g1, g2, _⟩ := h'.ex
  rw [h1] at g1
  simp only [List.cons.injEq, Value.int.injEq, Value.slice.injEq, true_and, and_true] at g1
  obtain ⟨e1, e2, e3, e4, _⟩ := g1
  have := h2.uniq g2 e3 e4
  obtain ⟨c, o1, a⟩ := i
  obtain ⟨c', o1', a'⟩ := j
  simp at e1 e2 this
  subst e1 e2 this
  rfl
structure RdN (F : Facts) (o : Option Addr) (xs : List Ins) : Prop where
  ex : ∃ rows : List (List Value), RdO F 3 o rows ∧ rows.length = xs.length ∧ ∀ (i : Nat) r x, rows[i]? = some r → xs[i]? = some x → RdR F r x
theorem RdN.mono {F G : Facts} {o : Option Addr} {xs : List Ins} (h : RdN F o xs) (hs : Sub F G) : RdN G o xs := by
  obtain ⟨rows, h1, h2, h3⟩ := h.ex
  exact ⟨rows, h1.mono hs, h2, fun i r x hr hx => (h3 i r x hr hx).mono hs⟩
theorem RdN.uniq {F : Facts} {o o' : Option Addr} {xs ys : List Ins} (h : RdN F o xs) (h' : RdN F o' ys) (ho : o = o') (hl : xs.length = ys.length) : xs = ys := by
  subst ho
  obtain ⟨rows, h1, h2, h3⟩ := h.ex
  obtain ⟨rows', g1, g2, g3⟩ := h'.ex
  obtain rfl := h1.uniq g1 (by omega)
  apply List.ext_getElem?
  intro i
  by_cases hi : i < xs.length
  · have e1 : xs[i]? = some xs[i] := by simp [hi]
    have e2 : ys[i]? = some (ys[i]'(by omega)) := by simp [show i < ys.length by omega]
    have e3 : rows[i]? = some (rows[i]'(by omega)) := by simp [show i < rows.length by omega]
    rw [e1, e2, (h3 i _ _ e3 e1).uniq (g3 i _ _ e3 e2)]
  · rw [List.getElem?_eq_none (by omega), List.getElem?_eq_none (by omega)]
theorem RdN.there {F : Facts} {o : Option Addr} {xs : List Ins} (h : RdN F o xs) {i : Nat} (hi : i < xs.length) : o.isSome = true := by
  obtain ⟨rows, h1, h2, _⟩ := h.ex
  obtain ⟨_, a, rfl, _⟩ := h1 i (rows[i]'(by omega)) (by simp [show i < rows.length by omega])
  rfl
theorem RdN.nil (F : Facts) (o : Option Addr) : RdN F o [] := ⟨[], RdO.nil _ _ _, rfl, by simp⟩

theorem RdO.ld_sub {P : Program} {d : Nat} {cx : Cx} {mem : List Blk} {size : Nat} {o : Option Addr} {rows : List (List Value)} (h : RdO (nowF cx mem) size o rows) {t : TypeId} (ht : aggT P t = some true)
    {i j : Nat} {r : List Value} (hi : rows[i]? = some r) (hj : j + P.cellsOf t ≤ size) {K : Value → Prop} : LoadV d P cx mem t (padd o (i * size + j)) K = K (.agg ((r.drop j).take (P.cellsOf t)).toArray) := by
  obtain ⟨h1, a, rfl, h3⟩ := h i r hi
  have hlen : ((r.drop j).take (P.cellsOf t)).length = P.cellsOf t := by simp; omega
  have hc : ∀ (q : Nat) x, ((r.drop j).take (P.cellsOf t))[q]? = some x → nowF cx mem (a.add (i * size + j + q)) = some x := fun q x hq => by
    rw [List.getElem?_take] at hq
    split at hq
    · rw [List.getElem?_drop] at hq
      have := h3 (j + q) x hq
      rwa [← Nat.add_assoc] at this
    · simp at hq
  unfold LoadV
  simp only [ht, padd, Option.map_some, Option.some.injEq]
  apply propext
  constructor
  · rintro ⟨_, rfl, vs, hl, hv, hk⟩
    have : vs = (r.drop j).take (P.cellsOf t) := by
      apply List.ext_getElem?
      intro q
      by_cases hq : q < P.cellsOf t
      · have f1 : vs[q]? = some (vs[q]'(by omega)) := by simp [show q < vs.length by omega]
        have f2 : ((r.drop j).take (P.cellsOf t))[q]? = some (((r.drop j).take (P.cellsOf t))[q]'(by omega)) := by simp [hlen, hq]
        have e1 := hv q _ f1
        have e2 := hc q _ f2
        rw [addr_add_add] at e1
        rw [e1] at e2
        rw [f1, f2, Option.some.inj e2]
      · rw [List.getElem?_eq_none (by omega), List.getElem?_eq_none (by omega)]
    rw [← this]; exact hk
  · intro hk
    exact ⟨_, rfl, _, hlen, fun q v hq => by rw [addr_add_add]; exact hc q v hq, hk⟩
structure InsAt (cx : Cx) (o : Option Addr) (i : Nat) (x : Ins) (o' : Option Addr) (cap : Nat) : Prop where
  args : RdD (factF cx) o' x.args
  le : x.args.length ≤ cap ∧ cap ≤ maxLen
  all : ∀ {P : Program} {d : Nat} {mem : List Blk} {t : TypeId} {K : Value → Prop}, aggT P t = some true → P.cellsOf t = 3 → LoadV d P cx mem t (padd o (i * 3)) K = K (.agg #[.int .i64 x.code, .int .i64 x.op, .slice o' x.args.length cap])
  one : ∀ {P : Program} {d : Nat} {mem : List Blk} {t : TypeId} {K : Value → Prop}, aggT P t = some true → P.cellsOf t = 2 → LoadV d P cx mem t (padd o (i * 3 + 1)) K = K (.agg #[.int .i64 x.op, .slice o' x.args.length cap])
  code : ∀ {P : Program} {d : Nat} {mem : List Blk} {t : TypeId} {K : Value → Prop}, aggT P t = some false → LoadV d P cx mem t (padd o (i * 3)) K = K (.int .i64 x.code)
  op : ∀ {P : Program} {d : Nat} {mem : List Blk} {t : TypeId} {K : Value → Prop}, aggT P t = some false → LoadV d P cx mem t (padd o (i * 3 + 1)) K = K (.int .i64 x.op)
  sl : ∀ {P : Program} {d : Nat} {mem : List Blk} {t : TypeId} {K : Value → Prop}, aggT P t = some false → LoadV d P cx mem t (padd o (i * 3 + 2)) K = K (.slice o' x.args.length cap)
theorem RdN.at {cx : Cx} {o : Option Addr} {xs : List Ins} (h : RdN (factF cx) o xs) {i : Nat} {x : Ins} (hx : xs[i]? = some x) : ∃ o' cap, InsAt cx o i x o' cap := by
  obtain ⟨rows, h1, h2, h3⟩ := h.ex
  have hi := (List.getElem?_eq_some_iff.1 hx).1
  have hr : rows[i]? = some (rows[i]'(by omega)) := by simp [show i < rows.length by omega]
  obtain ⟨o', cap, e, g1, g2, g3⟩ := (h3 i _ x hr hx).ex
  generalize rows[i]'(by omega) = r at *
  subst e
  have hn := fun mem => h1.mono (sub_now cx mem)
  refine ⟨o', cap, g1, ⟨g2, g3⟩, fun ht hc => RdO.ld_agg (hn _) ht hc hr, fun ht hc => ?_, fun ht => RdO.ld_zero (hn _) ht hr rfl, fun ht => RdO.ld_one (hn _) ht hr rfl, fun ht => RdO.ld_one (hn _) ht hr rfl⟩
  rw [RdO.ld_sub (hn _) ht hr (by omega), hc]
  rfl
structure IsInst (F : Facts) (v : Value) (x : Ins) : Prop where
  ex : ∃ o cap, v = .agg #[.int .i64 x.code, .int .i64 x.op, .slice o x.args.length cap] ∧ RdD F o x.args ∧ x.args.length ≤ cap ∧ cap ≤ maxLen
theorem IsInst.mono {F G : Facts} {v : Value} {x : Ins} (h : IsInst F v x) (hs : Sub F G) : IsInst G v x := by
  obtain ⟨o, cap, h1, h2, h3⟩ := h.ex
  exact ⟨o, cap, h1, h2.mono hs, h3⟩
structure IsList (F : Facts) (v : Value) (xs : List Ins) : Prop where
  ex : ∃ o cap, v = .slice o xs.length cap ∧ RdN F o xs ∧ xs.length ≤ cap ∧ cap ≤ maxLen
theorem IsList.mono {F G : Facts} {v : Value} {xs : List Ins} (h : IsList F v xs) (hs : Sub F G) : IsList G v xs := by
  obtain ⟨o, cap, h1, h2, h3⟩ := h.ex
  exact ⟨o, cap, h1, h2.mono hs, h3⟩

theorem len_flat {size : Nat} : ∀ {rs : List (List Value)}, (∀ r ∈ rs, r.length = size) → rs.flatten.length = rs.length * size
  | [], _ => by simp
  | r :: rs, h => by
    rw [List.flatten_cons, List.length_append, len_flat (fun r' hr' => h r' (by simp [hr'])), h r (by simp), List.length_cons, Nat.add_mul]; omega
structure RdF (F : Facts) (rs : List (List Value)) (xs : List Ins) : Prop where
  le : rs.length ≤ xs.length
  at' : ∀ (j : Nat) r x, rs[j]? = some r → xs[j]? = some x → RdR F r x
theorem RdF.mono {F G : Facts} {rs : List (List Value)} {xs : List Ins} (h : RdF F rs xs) (hs : Sub F G) : RdF G rs xs := ⟨h.le, fun j r x hr hx => (h.at' j r x hr hx).mono hs⟩
theorem RdF.len {F : Facts} {rs : List (List Value)} {xs : List Ins} (h : RdF F rs xs) : ∀ r ∈ rs, r.length = 3 := fun r hr => by
  obtain ⟨j, hj⟩ := List.getElem?_of_mem hr
  have hjl := (List.getElem?_eq_some_iff.1 hj).1
  have := h.le
  exact (h.at' j r (xs[j]'(by omega)) hj (by simp [show j < xs.length by omega])).len
theorem RdF.nil (F : Facts) (xs : List Ins) : RdF F [] xs := ⟨by simp, by simp⟩
theorem RdF.snoc {F : Facts} {rs : List (List Value)} {xs : List Ins} {r : List Value} {x : Ins} (h : RdF F rs xs) (hx : xs[rs.length]? = some x) (hr : RdR F r x) : RdF F (rs ++ [r]) xs := by
  refine ⟨by have := (List.getElem?_eq_some_iff.1 hx).1; simp; omega, fun j r' x' hr' hx' => ?_⟩
  rw [List.getElem?_append] at hr'
  split at hr'
  · exact h.at' j r' x' hr' hx'
  · have hj : j = rs.length := by
      rcases Nat.eq_zero_or_pos (j - rs.length) with e | e
      · omega
      · rw [List.getElem?_eq_none (by simp; omega)] at hr'; simp at hr'
    subst hj
    simp at hr'
    rw [hx] at hx'
    simp at hx'
    subst hr' hx'
    exact hr
end Go.Sx
namespace Go.Sx
open Go

def dOk (d : Dev) : Bool := devOk d.k d.n d.p
def isBit (d : Dev) : Bool := decide (d.k = 1 ∨ d.k = 2 ∨ d.k = 3 ∨ d.k = 4 ∨ d.k = 6 ∨ d.k = 7 ∨ d.k = 8) && dOk d
def isWhl (d : Dev) : Bool := decide (d.k = 7 ∨ d.k = 8 ∨ d.k = 9 ∨ d.k = 11) && dOk d
def isRl (d : Dev) : Bool := decide (d.k = 10 ∨ d.k = 12 ∨ d.k = 13) && dOk d
def arity (op : Int) : Int :=
  if op = 1 ∨ op = 2 ∨ op = 21 ∨ op = 22 ∨ op = 23 ∨ op = 25 then 1 else if op = 31 ∨ op = 32 ∨ op = 33 ∨ op = 34 ∨ op = 35 then 3 else if (1 ≤ op ∧ op ≤ 10) ∨ (21 ≤ op ∧ op ≤ 37) then 2 else 0
def pOk (d : Dev) : Bool := decide (d.k = 11 ∧ 0 ≤ d.n)
def xD (xs : List Dev) (j : Nat) : Dev := xs.getD j default
def bothB (xs : List Dev) : Bool := xs.all isWhl || xs.all isRl
def conB (op : Int) (xs : List Dev) : Bool :=
  if op ≤ 2 then isBit (xD xs 0) else if op ≤ 4 then isBit (xD xs 0) && decide ((xD xs 1).k = 5) else bothB xs
def conOk (op : Int) (xs : List Dev) : Bool := decide (1 ≤ op ∧ op ≤ 10 ∧ (xs.length : Int) = arity op) && xs.all dOk && conB op xs
def coilB (op : Int) (a : Dev) (r : List Dev) : Bool :=
  if op = 21 then decide (a.k = 2 ∨ a.k = 3) else if op = 22 then decide (a.k = 2 ∨ a.k = 3 ∨ a.k = 4) else if op = 23 then decide (a.k = 2 ∨ a.k = 3 ∨ a.k = 4 ∨ a.k = 7 ∨ a.k = 8)
  else if op = 24 then decide ((a.k = 2 ∨ a.k = 3) ∧ (xD r 0).k = 5) else if op = 25 then decide (a.k = 4)
  else if op = 26 ∨ op = 27 ∨ op = 28 then decide (a.k = 7) && pOk (xD r 0) else if op = 29 then decide (a.k = 8) && pOk (xD r 0)
  else if op = 35 then decide (a.k = 9) && r.all isWhl else if op = 36 then decide (a.k = 10) && r.all isWhl else if op = 37 then decide (a.k = 9) && r.all isRl
  else decide (a.k = 9) && r.all isWhl || decide (a.k = 10) && r.all isRl
def coilOk (op : Int) (xs : List Dev) : Bool := decide (21 ≤ op ∧ op ≤ 37 ∧ (xs.length : Int) = arity op) && xs.all dOk && coilB op (xD xs 0) (xs.drop 1)
def insOk (x : Ins) : Bool :=
  if 1 ≤ x.code ∧ x.code ≤ 3 then conOk x.op x.args else if x.code = 10 then coilOk x.op x.args else decide (1 ≤ x.code ∧ x.code ≤ 11 ∧ x.op = 0 ∧ x.args.length = 0)

theorem conOk_eq (op : Int) (xs : List Dev) : conOk op xs = (decide (1 ≤ op ∧ op ≤ 10) && (decide ((xs.length : Int) = arity op) && xs.all dOk) && conB op xs) := by
  unfold conOk; simp only [Bool.decide_and, Bool.and_assoc]
theorem coilOk_eq (op : Int) (xs : List Dev) : coilOk op xs = (decide (21 ≤ op ∧ op ≤ 37) && (decide ((xs.length : Int) = arity op) && xs.all dOk) && coilB op (xD xs 0) (xs.drop 1)) := by
  unfold coilOk; simp only [Bool.decide_and, Bool.and_assoc]
theorem list_one {xs : List Dev} (h : (xs.length : Int) = 1) : ∃ a, xs = [a] := by
  match xs, h with
  | [a], _ => exact ⟨a, rfl⟩
  | [], h => simp at h
  | a :: b :: r, h => simp at h; omega
theorem list_two {xs : List Dev} (h : (xs.length : Int) = 2) : ∃ a b, xs = [a, b] := by
  match xs, h with
  | [a, b], _ => exact ⟨a, b, rfl⟩
  | [], h => simp at h
  | [a], h => simp at h
  | a :: b :: c :: r, h => simp at h; omega
theorem list_three {xs : List Dev} (h : (xs.length : Int) = 3) : ∃ a b c, xs = [a, b, c] := by
  match xs, h with
  | [a, b, c], _ => exact ⟨a, b, c, rfl⟩
  | [], h => simp at h
  | [a], h => simp at h
  | [a, b], h => simp at h
  | a :: b :: c :: d :: r, h => simp at h; omega

def fIdx (g : Dev → Bool) : List Dev → Int → Int
  | [], _ => -1
  | x :: r, k => if g x = true then k else fIdx g r (k + 1)
theorem fIdx_drop {g : Dev → Bool} {xs : List Dev} {i : Nat} {x : Dev} (hx : xs[i]? = some x) : fIdx g (xs.drop i) i = if g x = true then (i : Int) else fIdx g (xs.drop (i + 1)) (i + 1 : Nat) := by
  have hi := (List.getElem?_eq_some_iff.1 hx).1
  have e := (List.getElem?_eq_some_iff.1 hx).2
  rw [List.drop_eq_getElem_cons hi, fIdx, e]; rfl
theorem fIdx_any (g : Dev → Bool) : ∀ (xs : List Dev) (k : Int), 0 ≤ k → (0 ≤ fIdx g xs k ↔ xs.any g = true)
  | [], k, _ => by simp [fIdx]
  | x :: r, k, h => by
    rw [fIdx, List.any_cons]
    by_cases hg : g x = true
    · rw [if_pos hg]; simp [hg, h]
    · rw [if_neg hg, fIdx_any g r (k + 1) (by omega)]; simp [hg]
structure DevAt (cx : Cx) (o o1 : Option Addr) (x : Dev) : Prop where
  there : o.isSome = true
  all : ∀ {P : Program} {d : Nat} {mem : List Blk} {t : TypeId} {K : Value → Prop}, aggT P t = some true → P.cellsOf t = 3 → LoadV d P cx mem t o K = K (.agg #[.int .i64 x.k, .int .i64 x.n, .int .i64 x.p])
  k : ∀ {P : Program} {d : Nat} {mem : List Blk} {t : TypeId} {K : Value → Prop}, aggT P t = some false → LoadV d P cx mem t o K = K (.int .i64 x.k)
  n : ∀ {P : Program} {d : Nat} {mem : List Blk} {t : TypeId} {K : Value → Prop}, aggT P t = some false → LoadV d P cx mem t o1 K = K (.int .i64 x.n)
theorem RdD.at {cx : Cx} {o : Option Addr} {xs : List Dev} (h : RdD (factF cx) o xs) {i : Nat} {x : Dev} (hx : xs[i]? = some x) : DevAt cx (padd o (i * 3)) (padd o (i * 3 + 1)) x := by
  have hr : (xs.map encD)[i]? = some (encD x) := by simp [hx]
  have hn := fun mem => RdO.mono h (sub_now cx mem)
  exact ⟨by rw [padd_isSome]; exact h.there (List.getElem?_eq_some_iff.1 hx).1, fun ht hc => RdO.ld_agg (hn _) ht hc hr, fun ht => RdO.ld_zero (hn _) ht hr rfl, fun ht => RdO.ld_one (hn _) ht hr rfl⟩
theorem RdD.at0 {cx : Cx} {o : Option Addr} {xs : List Dev} (h : RdD (factF cx) o xs) {x : Dev} (hx : xs[0]? = some x) : DevAt cx o (padd o 1) x := by
  have := h.at hx; simpa using this
theorem RdD.at1 {cx : Cx} {o : Option Addr} {xs : List Dev} (h : RdD (factF cx) o xs) {x : Dev} (hx : xs[1]? = some x) : DevAt cx (padd o 3) (padd o 4) x := by
  have := h.at hx; simpa using this
theorem RdD.at2 {cx : Cx} {o : Option Addr} {xs : List Dev} (h : RdD (factF cx) o xs) {x : Dev} (hx : xs[2]? = some x) : DevAt cx (padd o 6) (padd o 7) x := by
  have := h.at hx; simpa using this
theorem RdD.nil' (F : Facts) (o : Option Addr) : RdD F o [] := RdO.nil _ _ _
theorem RdD.drop1 {F : Facts} {o : Option Addr} {a : Dev} {r : List Dev} (h : RdD F o (a :: r)) : RdD F (padd o 3) r := by
  intro i x hi
  obtain ⟨h1, b, rfl, h3⟩ := h (i + 1) x (by simpa using hi)
  refine ⟨h1, b.add 3, rfl, fun j v hj => ?_⟩
  have := h3 j v hj
  rw [addr_add_add, show 3 + (i * 3 + j) = (i + 1) * 3 + j by omega]; exact this
end Go.Sx
