/-
  Operands as plain data, and slices of them in a memory. Plain Lean: nothing of a program stands here. Conditions: none.
-/
import Derived.Test.YtmiicjgbhkjocaaGreatSy
import Derived.Test.YtmiicjgbhkjocaaGreatP
set_option linter.unusedVariables false
set_option linter.unusedSimpArgs false
namespace Go.Sx
open Go

structure Dev where
  k : Int
  n : Int
  p : Int
deriving DecidableEq
instance : Inhabited Dev := ⟨⟨0, 0, 0⟩⟩
def encD (d : Dev) : List Value := [.int .i64 d.k, .int .i64 d.n, .int .i64 d.p]
def encDs (xs : List Dev) : List Value := (xs.map encD).flatten
def RdD (F : Facts) (o : Option Addr) (xs : List Dev) : Prop := RdO F 3 o (xs.map encD)
theorem RdD.mono {F G : Facts} {o : Option Addr} {xs : List Dev} (h : RdD F o xs) (hs : Sub F G) : RdD G o xs := RdO.mono h hs
theorem encD_inj {a b : Dev} (h : encD a = encD b) : a = b := by
  obtain ⟨k, n, p⟩ := a
  obtain ⟨k', n', p'⟩ := b
  simp [encD] at h
  obtain ⟨rfl, rfl, rfl⟩ := h
  rfl
theorem map_encD_inj : ∀ {xs ys : List Dev}, xs.map encD = ys.map encD → xs = ys
  | [], [], _ => rfl
  | [], _ :: _, h => by simp at h
  | _ :: _, [], h => by simp at h
  | a :: xs, b :: ys, h => by
    simp only [List.map_cons, List.cons.injEq] at h
    rw [encD_inj h.1, map_encD_inj h.2]
theorem RdD.uniq {F : Facts} {o o' : Option Addr} {xs ys : List Dev} (h : RdD F o xs) (h' : RdD F o' ys) (ho : o = o') (hl : xs.length = ys.length) : xs = ys := by
  subst ho
  exact map_encD_inj (RdO.uniq h h' (by simpa using hl))
theorem RdD.there {F : Facts} {o : Option Addr} {xs : List Dev} (h : RdD F o xs) {i : Nat} (hi : i < xs.length) : o.isSome = true := by
  obtain ⟨_, a, rfl, _⟩ := h i (encD (xs[i])) (by simp [hi])
  rfl
theorem RdD.ld {P : Program} {d : Nat} {cx : Cx} {mem : List Blk} {o : Option Addr} {xs : List Dev} (h : RdD (factF cx) o xs) {t : TypeId} (ht : aggT P t = some true) (hs : P.cellsOf t = 3) {i : Nat} {x : Dev} (hi : xs[i]? = some x) {K : Value → Prop} :
    LoadV d P cx mem t (padd o (i * 3)) K = K (.agg #[.int .i64 x.k, .int .i64 x.n, .int .i64 x.p]) :=
  RdO.ld_agg (RdO.mono h (sub_now cx mem)) ht hs (r := encD x) (by simp [hi])
theorem RdD.ld0 {P : Program} {d : Nat} {cx : Cx} {mem : List Blk} {o : Option Addr} {xs : List Dev} (h : RdD (factF cx) o xs) {t : TypeId} (ht : aggT P t = some true) (hs : P.cellsOf t = 3) {x : Dev} (hi : xs[0]? = some x) {K : Value → Prop} :
    LoadV d P cx mem t o K = K (.agg #[.int .i64 x.k, .int .i64 x.n, .int .i64 x.p]) := by
  have := h.ld (P := P) (d := d) (mem := mem) ht hs hi (K := K)
  simpa using this
/-- A literal of operands. -/
theorem RdL.devs {F : Facts} {o : Option Addr} {vs : List Value} (h : RdL F o vs) (xs : List Dev) (hc : encDs xs = vs) : RdD F o xs :=
  RdL.rows h (by decide) (fun r hr => by
    simp only [List.mem_map] at hr
    obtain ⟨d, _, rfl⟩ := hr
    rfl) hc
structure IsArgs (F : Facts) (v : Value) (xs : List Dev) : Prop where
  ex : ∃ o cap, v = .slice o xs.length cap ∧ RdD F o xs ∧ xs.length ≤ cap ∧ cap ≤ maxLen
theorem IsArgs.mono {F G : Facts} {v : Value} {xs : List Dev} (h : IsArgs F v xs) (hs : Sub F G) : IsArgs G v xs := by
  obtain ⟨o, cap, h1, h2, h3⟩ := h.ex
  exact ⟨o, cap, h1, h2.mono hs, h3⟩
/-- A contact or a coil. -/
structure IsElem (F : Facts) (v : Value) (op : Int) (xs : List Dev) : Prop where
  ex : ∃ o cap, v = .agg #[.int .i64 op, .slice o xs.length cap] ∧ RdD F o xs ∧ xs.length ≤ cap ∧ cap ≤ maxLen
theorem IsElem.mono {F G : Facts} {v : Value} {op : Int} {xs : List Dev} (h : IsElem F v op xs) (hs : Sub F G) : IsElem G v op xs := by
  obtain ⟨o, cap, h1, h2, h3⟩ := h.ex
  exact ⟨o, cap, h1, h2.mono hs, h3⟩

/-- A row of operands that is filled from its begin on. -/
def zeroD : List Value := [.int .i64 0, .int .i64 0, .int .i64 0]
def rowD (xs : List Dev) (i n : Nat) : List C := ((encDs (xs.take i)) ++ (List.replicate (n - i) zeroD).flatten).map .v
theorem len_encDs (xs : List Dev) : (encDs xs).length = xs.length * 3 := by
  induction xs with
  | nil => rfl
  | cons a l ih =>
    have : encDs (a :: l) = encD a ++ encDs l := rfl
    rw [this, List.length_append, ih]
    simp [encD]; omega
theorem len_rep (n : Nat) : (List.replicate n zeroD).flatten.length = n * 3 := by
  simp [zeroD]
theorem len_rowD {xs : List Dev} {i n : Nat} (hi : i ≤ n) (hx : i ≤ xs.length) : (rowD xs i n).length = n * 3 := by
  unfold rowD
  rw [List.length_map, List.length_append, len_encDs, len_rep, List.length_take]
  omega
theorem rowD_zero (xs : List Dev) (n : Nat) : rowD xs 0 n = ((List.replicate n zeroD).flatten).map .v := by simp [rowD, encDs]
theorem rowD_set {xs : List Dev} {i n : Nat} {d : Dev} (h : xs[i]? = some d) (hn : i < n) : splice (rowD xs i n) (i * 3) [.v (.int .i64 d.k), .v (.int .i64 d.n), .v (.int .i64 d.p)] = rowD xs (i + 1) n := by
  have hi : i < xs.length := (List.getElem?_eq_some_iff.1 h).1
  have e1 : n - i = (n - (i + 1)) + 1 := by omega
  have e2 : xs.take (i + 1) = xs.take i ++ [d] := by
    rw [List.take_succ_eq_append_getElem hi]
    congr 2
    exact (List.getElem?_eq_some_iff.1 h).2
  have e3 : encDs (xs.take i ++ [d]) = encDs (xs.take i) ++ encD d := by simp [encDs]
  have hl : (encDs (xs.take i)).length = i * 3 := by rw [len_encDs, List.length_take]; omega
  unfold rowD
  rw [e1, List.replicate_succ, List.flatten_cons, e2, e3]
  simp only [List.map_append, splice_two]
  rw [List.take_left' (by rw [List.length_map, hl]), List.drop_append, List.length_map, hl]
  have : List.drop (i * 3 + 3) (List.map C.v (encDs (List.take i xs))) = [] := List.drop_eq_nil_of_le (by rw [List.length_map, hl]; omega)
  simp only [List.length_cons, List.length_nil] at *
  rw [this]
  simp [encD, zeroD]
theorem rowD_end {xs : List Dev} {n : Nat} (hn : n = xs.length) : rowD xs n n = (encDs xs).map .v := by
  subst hn
  simp [rowD]
end Go.Sx
