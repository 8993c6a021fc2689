/-
  Lists read out of a text: the program's returns what the reference's returns, and no two answers share memory.
-/
import Derived.Test.YtclbanhoiaieaaaGreatDoorUkvb
import Derived.Test.YtclbanhoiaieaaaGreatDoorUvvb
import Derived.Test.YtclbanhoiaieaaaGreatDoorUivb
import Derived.Test.YtclbanhoiaieaaaGreatDoorIlvb
set_option linter.unusedVariables false
set_option linter.unusedSimpArgs false
set_option maxRecDepth 100000
set_option maxHeartbeats 4000000
namespace Go.Sx
open Go
def markI (q : Int) (x : Ins) : Ins := ⟨q, q + 1, marksD (q + 1 + 1) x.args.length⟩
def nextM (q : Int) (x : Ins) : Int := q + 1 + 1 + 3 * (x.args.length : Int)
def markN (q : Int) : List Ins → List Ins
  | [] => []
  | x :: r => markI q x :: markN (nextM q x) r
def endM (q : Int) : List Ins → Int
  | [] => q
  | x :: r => endM (nextM q x) r
theorem markN_len : ∀ (q : Int) (xs : List Ins), (markN q xs).length = xs.length
  | _, [] => rfl
  | q, x :: r => by rw [markN, List.length_cons, markN_len, List.length_cons]
theorem markN_at : ∀ {q : Int} {xs : List Ins} {i : Nat} {x : Ins}, xs[i]? = some x → (markN q xs)[i]? = some (markI (endM q (xs.take i)) x)
  | _, [], _, _, h => by simp at h
  | q, y :: r, 0, x, h => by simp at h; subst h; rfl
  | q, y :: r, i + 1, x, h => by
    rw [List.getElem?_cons_succ] at h
    show (markN (nextM q y) r)[i]? = some (markI (endM (nextM q y) (r.take i)) x)
    exact markN_at h
theorem endM_step : ∀ {q : Int} {xs : List Ins} {i : Nat} {x : Ins}, xs[i]? = some x → endM q (xs.take (i + 1)) = nextM (endM q (xs.take i)) x
  | _, [], _, _, h => by simp at h
  | q, y :: r, 0, x, h => by simp at h; subst h; rfl
  | q, y :: r, i + 1, x, h => by
    rw [List.getElem?_cons_succ] at h
    show endM (nextM q y) (r.take (i + 1)) = nextM (endM (nextM q y) (r.take i)) x
    exact endM_step h
theorem endM_bd : ∀ (q : Int) (xs : List Ins), (∀ x ∈ xs, x.args.length ≤ 3) → q ≤ endM q xs ∧ endM q xs ≤ q + 11 * (xs.length : Int)
  | q, [], _ => ⟨Int.le_refl _, by simp [endM]⟩
  | q, x :: r, h => by
    have h1 := h x (by simp)
    obtain ⟨h2, h3⟩ := endM_bd (nextM q x) r fun y hy => h y (by simp [hy])
    have e : endM q (x :: r) = endM (nextM q x) r := rfl
    rw [e, List.length_cons]
    unfold nextM at h2 h3 ⊢
    constructor
    · omega
    · omega
structure KX (ty : TypeId) (xs : List Ins) (cells : List C) (As : List Blk) (J : Nat → Option Nat) : Prop where
  len : xs.length * 3 ≤ cells.length
  at' : ∀ (i : Nat) x, xs[i]? = some x → cells[i * 3]? = some (.v (.int .i64 x.code)) ∧ cells[i * 3 + 1]? = some (.v (.int .i64 x.op)) ∧
    ((x.args = [] ∧ cells[i * 3 + 2]? = some (.v (.slice none 0 0)) ∧ J i = none) ∨
      (∃ (j b cp : Nat) (pad : List C), cells[i * 3 + 2]? = some (.v (.slice (some ⟨b, 0, none⟩) x.args.length cp)) ∧ J i = some j ∧ As[j]? = some ⟨b, DB x.args ++ pad, ty⟩ ∧ x.args.length ≤ cp ∧ cp ≤ maxLen ∧ pad.length = (cp - x.args.length) * 3))
  inj : ∀ (i i' j : Nat), i < xs.length → i' < xs.length → J i = some j → J i' = some j → i = i'
theorem LR.kx {ty : TypeId} {xs : List Ins} {rs : List (List Value)} {As : List Blk} (h : LR ty xs rs As) : ∃ J, (∀ pad, KX ty xs (LB rs ++ pad) As J) ∧ ∀ i j, i < xs.length → J i = some j → j < As.length := by
  induction h with
  | nil => exact ⟨fun _ => none, fun pad => ⟨by simp, fun i x h => by simp at h, fun i i' j h => by simp at h⟩, fun i j h => by simp at h⟩
  | @bare xs rs As y h hy ih =>
    obtain ⟨J, hK, hJ⟩ := ih
    have hl := h.len
    refine ⟨fun i => if i = xs.length then none else J i, fun pad => ?_, fun i j hi hj => ?_⟩
    · have hK' := hK ((.v (.int .i64 y.code)) :: (.v (.int .i64 y.op)) :: (.v (.slice none 0 0)) :: pad)
      rw [LB_push] at hK'
      have hLB := LB_len hl.2
      refine ⟨?_, fun i x hx => ?_, fun i i' j h1 h2 h3 h4 => ?_⟩
      · have := LB_push rs (.int .i64 y.code) (.int .i64 y.op) (.slice none 0 0) pad
        rw [← this]
        simp only [List.length_append, List.length_cons, List.length_nil, hLB]
        omega
      · by_cases e : i = xs.length
        · subst e
          rw [List.getElem?_append_right (Nat.le_refl _), Nat.sub_self] at hx
          cases hx
          rw [← LB_push]
          refine ⟨?_, ?_, Or.inl ⟨hy, ?_, by simp⟩⟩
          · rw [List.getElem?_append_right (by omega), hLB, ← hl.1, Nat.sub_self]; rfl
          · rw [List.getElem?_append_right (by omega), hLB, ← hl.1, Nat.add_sub_cancel_left]; rfl
          · rw [List.getElem?_append_right (by omega), hLB, ← hl.1, Nat.add_sub_cancel_left]; rfl
        · have hi := (List.getElem?_eq_some_iff.1 hx).1
          simp at hi
          rw [List.getElem?_append_left (by omega)] at hx
          have := hK'.at' i x hx
          simp only [e, if_false]
          exact this
      · by_cases e : i = xs.length
        · simp [e] at h3
        · by_cases e' : i' = xs.length
          · simp [e'] at h4
          · simp only [e, e', if_false] at h3 h4
            simp at h1 h2
            exact hK'.inj i i' j (by omega) (by omega) h3 h4
    · by_cases e : i = xs.length
      · simp [e] at hj
      · simp only [e, if_false] at hj
        simp at hi
        exact hJ i j (by omega) hj
  | @full xs rs As y b cp po h hb ih =>
    obtain ⟨J, hK, hJ⟩ := ih
    have hl := h.len
    refine ⟨fun i => if i = xs.length then some As.length else J i, fun pad => ?_, fun i j hi hj => ?_⟩
    · have hK' := hK ((.v (.int .i64 y.code)) :: (.v (.int .i64 y.op)) :: (.v (.slice (some ⟨b, 0, none⟩) y.args.length cp)) :: pad)
      rw [LB_push] at hK'
      have hLB := LB_len hl.2
      refine ⟨?_, fun i x hx => ?_, fun i i' j h1 h2 h3 h4 => ?_⟩
      · have := LB_push rs (.int .i64 y.code) (.int .i64 y.op) (.slice (some ⟨b, 0, none⟩) y.args.length cp) pad
        rw [← this]
        simp only [List.length_append, List.length_cons, List.length_nil, hLB]
        omega
      · by_cases e : i = xs.length
        · subst e
          rw [List.getElem?_append_right (Nat.le_refl _), Nat.sub_self] at hx
          cases hx
          rw [← LB_push]
          refine ⟨?_, ?_, Or.inr ⟨As.length, b, cp, po, ?_, by simp, ?_, hb⟩⟩
          · rw [List.getElem?_append_right (by omega), hLB, ← hl.1, Nat.sub_self]; rfl
          · rw [List.getElem?_append_right (by omega), hLB, ← hl.1, Nat.add_sub_cancel_left]; rfl
          · rw [List.getElem?_append_right (by omega), hLB, ← hl.1, Nat.add_sub_cancel_left]; rfl
          · rw [List.getElem?_append_right (Nat.le_refl _), Nat.sub_self]; rfl
        · have hi := (List.getElem?_eq_some_iff.1 hx).1
          simp at hi
          rw [List.getElem?_append_left (by omega)] at hx
          obtain ⟨g1, g2, g3⟩ := hK'.at' i x hx
          simp only [e, if_false]
          refine ⟨g1, g2, ?_⟩
          rcases g3 with g3 | ⟨j, b', cp', po', k1, k2, k3, k4⟩
          · exact Or.inl g3
          · exact Or.inr ⟨j, b', cp', po', k1, k2, by rw [List.getElem?_append_left (List.getElem?_eq_some_iff.1 k3).1]; exact k3, k4⟩
      · by_cases e : i = xs.length
        · by_cases e' : i' = xs.length
          · omega
          · simp only [e, e', if_true, if_false] at h3 h4
            cases h3
            simp at h2
            have := hJ i' _ (by omega) h4
            omega
        · by_cases e' : i' = xs.length
          · simp only [e, e', if_true, if_false] at h3 h4
            cases h4
            simp at h1
            have := hJ i _ (by omega) h3
            omega
          · simp only [e, e', if_false] at h3 h4
            simp at h1 h2
            exact hK'.inj i i' j (by omega) (by omega) h3 h4
    · by_cases e : i = xs.length
      · simp only [e, if_true] at hj
        cases hj
        simp
      · simp only [e, if_false] at hj
        simp at hi
        have := hJ i j (by omega) hj
        simp
        omega
def MarkedTo (q : Int) (xs : List Ins) (i : Nat) (ys : List Ins) : Prop :=
  ys.length = xs.length ∧ ∀ (k : Nat) x, xs[k]? = some x → ys[k]? = some (if k < i then markI (endM q (xs.take k)) x else x)
theorem MarkedTo.zero (q : Int) (xs : List Ins) : MarkedTo q xs 0 xs := ⟨rfl, fun k x h => by rw [if_neg (Nat.not_lt_zero k)]; exact h⟩
theorem MarkedTo.step {q : Int} {xs ys : List Ins} {i : Nat} {x : Ins} (h : MarkedTo q xs i ys) (hx : xs[i]? = some x) : MarkedTo q xs (i + 1) (ys.set i (markI (endM q (xs.take i)) x)) := by
  refine ⟨by simpa using h.1, fun k y hy => ?_⟩
  by_cases e : k = i
  · subst e
    rw [hx] at hy
    cases hy
    rw [if_pos (by omega), List.getElem?_set_self (by rw [h.1]; exact (List.getElem?_eq_some_iff.1 hx).1)]
  · rw [List.getElem?_set_ne (fun h => e h.symm), h.2 k y hy]
    by_cases h1 : k < i
    · rw [if_pos h1, if_pos (by omega)]
    · rw [if_neg h1, if_neg (by omega)]
theorem MarkedTo.fin {q : Int} {xs ys : List Ins} (h : MarkedTo q xs xs.length ys) : ys = markN q xs := by
  refine List.ext_getElem? fun k => ?_
  by_cases hk : k < xs.length
  · have hx : xs[k]? = some xs[k] := List.getElem?_eq_getElem hk
    rw [h.2 k _ hx, if_pos hk, markN_at hx]
  · rw [List.getElem?_eq_none (by rw [h.1]; omega), List.getElem?_eq_none (by rw [markN_len]; omega)]
theorem KX.bare {ty : TypeId} {ys : List Ins} {cells : List C} {As : List Blk} {J : Nat → Option Nat} (h : KX ty ys cells As J) {i : Nat} {x : Ins} (hx : ys[i]? = some x) (h0 : x.args = []) (hJ : J i = none) (a b : Int) (hc : cells[i * 3 + 2]? = some (.v (.slice none 0 0))) :
    KX ty (ys.set i ⟨a, b, []⟩) ((cells.set (i * 3) (.v (.int .i64 a))).set (i * 3 + 1) (.v (.int .i64 b))) As J := by
  have hi := (List.getElem?_eq_some_iff.1 hx).1
  have hl := h.len
  refine ⟨by simpa using h.len, fun k y hy => ?_, fun i i' j h1 h2 => h.inj i i' j (by simpa using h1) (by simpa using h2)⟩
  by_cases e : k = i
  · subst e
    rw [List.getElem?_set_self hi] at hy
    cases hy
    refine ⟨?_, ?_, Or.inl ⟨rfl, ?_, hJ⟩⟩
    · rw [List.getElem?_set_ne (by omega), List.getElem?_set_self (by omega)]
    · rw [List.getElem?_set_self (by rw [List.length_set]; omega)]
    · rw [List.getElem?_set_ne (by omega), List.getElem?_set_ne (by omega)]; exact hc
  · rw [List.getElem?_set_ne (fun h => e h.symm)] at hy
    obtain ⟨g1, g2, g3⟩ := h.at' k y hy
    have e1 : ∀ c, c < 3 → ((cells.set (i * 3) (.v (.int .i64 a))).set (i * 3 + 1) (.v (.int .i64 b)))[k * 3 + c]? = cells[k * 3 + c]? := fun c hc => by
      rw [List.getElem?_set_ne (by omega), List.getElem?_set_ne (by omega)]
    have e10 := e1 0 (by decide)
    rw [Nat.add_zero] at e10
    exact ⟨e10.trans g1, (e1 1 (by decide)).trans g2, by rw [e1 2 (by decide)]; exact g3⟩
theorem KX.full {ty : TypeId} {ys : List Ins} {cells : List C} {As : List Blk} {J : Nat → Option Nat} (h : KX ty ys cells As J) {i : Nat} {x : Ins} (hx : ys[i]? = some x) {j bo cp : Nat} {pad : List C} (hc : cells[i * 3 + 2]? = some (.v (.slice (some ⟨bo, 0, none⟩) x.args.length cp))) (hJ : J i = some j)
    (hA : As[j]? = some ⟨bo, DB x.args ++ pad, ty⟩) (h1 : x.args.length ≤ cp) (h2 : cp ≤ maxLen) (h3 : pad.length = (cp - x.args.length) * 3) (a b : Int) {ds : List Dev} (hd : ds.length = x.args.length) :
    KX ty (ys.set i ⟨a, b, ds⟩) ((cells.set (i * 3) (.v (.int .i64 a))).set (i * 3 + 1) (.v (.int .i64 b))) (As.set j ⟨bo, DB ds ++ pad, ty⟩) J := by
  have hi := (List.getElem?_eq_some_iff.1 hx).1
  have hl := h.len
  have hjl := (List.getElem?_eq_some_iff.1 hA).1
  refine ⟨by simpa using h.len, fun k y hy => ?_, fun i i' j h1 h2 => h.inj i i' j (by simpa using h1) (by simpa using h2)⟩
  by_cases e : k = i
  · subst e
    rw [List.getElem?_set_self hi] at hy
    cases hy
    refine ⟨?_, ?_, Or.inr ⟨j, bo, cp, pad, ?_, hJ, ?_, ?_, h2, ?_⟩⟩
    · rw [List.getElem?_set_ne (by omega), List.getElem?_set_self (by omega)]
    · rw [List.getElem?_set_self (by rw [List.length_set]; omega)]
    · rw [List.getElem?_set_ne (by omega), List.getElem?_set_ne (by omega), hc]
      simp only [hd]
    · rw [List.getElem?_set_self hjl]
    · simp only [hd]; exact h1
    · simp only [hd]; exact h3
  · rw [List.getElem?_set_ne (fun h => e h.symm)] at hy
    have hk := (List.getElem?_eq_some_iff.1 hy).1
    obtain ⟨g1, g2, g3⟩ := h.at' k y hy
    have e1 : ∀ c, c < 3 → ((cells.set (i * 3) (.v (.int .i64 a))).set (i * 3 + 1) (.v (.int .i64 b)))[k * 3 + c]? = cells[k * 3 + c]? := fun c hc => by
      rw [List.getElem?_set_ne (by omega), List.getElem?_set_ne (by omega)]
    have e10 := e1 0 (by decide)
    rw [Nat.add_zero] at e10
    refine ⟨e10.trans g1, (e1 1 (by decide)).trans g2, ?_⟩
    rw [e1 2 (by decide)]
    rcases g3 with g3 | ⟨j', b', cp', po', k1, k2, k3, k4⟩
    · exact Or.inl g3
    · refine Or.inr ⟨j', b', cp', po', k1, k2, ?_, k4⟩
      rw [List.getElem?_set_ne fun ej => e (h.inj k i j' hk hi k2 (by rw [hJ, ej]))]
      exact k3
theorem KX.rdn {ty : TypeId} {xs : List Ins} {cells : List C} {As : List Blk} {J : Nat → Option Nat} (h : KX ty xs cells As J) {F : Facts} {b : Nat}
    (h0 : ∀ (off : Nat) c, cells[off]? = some c → F ⟨b, off, none⟩ = some (den c)) (hF : ∀ A ∈ As, ∀ (off : Nat) c, A.cells[off]? = some c → F ⟨A.id, off, none⟩ = some (den c)) : RdN F (some ⟨b, 0, none⟩) xs := by
  have hrow : ∀ (i : Nat) x, xs[i]? = some x → ∃ s, cells[i * 3 + 2]? = some (.v s) ∧ RdR F [.int .i64 x.code, .int .i64 x.op, s] x := fun i x hx => by
    obtain ⟨_, _, g3⟩ := h.at' i x hx
    rcases g3 with ⟨k1, k2, _⟩ | ⟨j, bo, cp, po, k1, k2, k3, k4, k5, k6⟩
    · exact ⟨_, k2, none, 0, by rw [k1]; rfl, by rw [k1]; exact RdO.nil _ _ _, by rw [k1]; exact Nat.le_refl _, by decide⟩
    · exact ⟨_, k1, _, cp, rfl, DB_facts (pad := po) (hF _ (List.mem_of_getElem? k3)), k4, k5⟩
  refine ⟨(List.range xs.length).map fun i => [.int .i64 (xs.getD i ⟨0, 0, []⟩).code, .int .i64 (xs.getD i ⟨0, 0, []⟩).op, den (cells.getD (i * 3 + 2) (.v (.bool false)))], fun i r hr => ?_, by simp, fun i r x hr hx => ?_⟩
  · rw [List.getElem?_map] at hr
    obtain ⟨k, hk, rfl⟩ := Option.map_eq_some_iff.1 hr
    obtain ⟨hkl, hke⟩ := List.getElem?_eq_some_iff.1 hk
    simp at hkl hke
    subst hke
    have hx : xs[i]? = some xs[i] := List.getElem?_eq_getElem hkl
    have hxd : xs.getD i ⟨0, 0, []⟩ = xs[i] := by rw [List.getD_eq_getElem?_getD, hx]; rfl
    obtain ⟨g1, g2, _⟩ := h.at' i _ hx
    obtain ⟨s, hs, _⟩ := hrow i _ hx
    refine ⟨rfl, _, rfl, fun j v hj => ?_⟩
    rw [addr_add, Nat.zero_add]
    match j, hj with
    | 0, hj =>
      simp at hj
      subst hj
      rw [← List.getD_eq_getElem?_getD, hxd]
      exact h0 _ _ g1
    | 1, hj =>
      simp at hj
      subst hj
      rw [← List.getD_eq_getElem?_getD, hxd]
      exact h0 _ _ g2
    | 2, hj =>
      simp at hj
      subst hj
      rw [hs]
      exact h0 _ _ hs
    | j + 3, hj => simp at hj
  · rw [List.getElem?_map] at hr
    obtain ⟨k, hk, rfl⟩ := Option.map_eq_some_iff.1 hr
    obtain ⟨hkl, hke⟩ := List.getElem?_eq_some_iff.1 hk
    simp at hkl hke
    subst hke
    have hxd : xs.getD i ⟨0, 0, []⟩ = x := by rw [List.getD_eq_getElem?_getD, hx]; rfl
    obtain ⟨s, hs, hR⟩ := hrow i x hx
    rw [hxd, List.getD_eq_getElem?_getD, hs]
    exact hR
end Go.Sx
namespace Go.Sx
open Go
theorem mid_get {m1 Bs m2 : List Blk} {A X : Blk} {j : Nat} (h : Bs[j]? = some X) : (m1 ++ (A :: (Bs ++ m2)))[m1.length + (j + 1)]? = some X := by
  rw [List.getElem?_append_right (by omega), Nat.add_sub_cancel_left, List.getElem?_cons_succ, List.getElem?_append_left (List.getElem?_eq_some_iff.1 h).1]
  exact h
theorem mid_set {m1 Bs m2 : List Blk} {A Y : Blk} {j : Nat} (h : j < Bs.length) : (m1 ++ (A :: (Bs ++ m2))).set (m1.length + (j + 1)) Y = m1 ++ (A :: (Bs.set j Y ++ m2)) := by
  rw [List.set_append_right _ _ (by omega), Nat.add_sub_cancel_left, List.set_cons_succ, List.set_append_left _ _ h]
theorem ins_args {x : Ins} (h : insOk x = true) : x.args.length ≤ 3 := by
  have key : ∀ {op : Int} {xs : List Dev}, ((xs.length : Int) = arity op) → xs.length ≤ 3 := fun {op xs} e => by
    have := arity_le3' op
    omega
  unfold insOk at h
  split at h
  · unfold conOk at h
    simp only [Bool.and_eq_true, decide_eq_true_eq] at h
    exact key h.1.1.2.2
  · split at h
    · unfold coilOk at h
      simp only [Bool.and_eq_true, decide_eq_true_eq] at h
      exact key h.1.1.2.2
    · simp only [decide_eq_true_eq] at h
      omega
theorem listRd_ok (t : Str) : ((listRd t).2 = (0, 0) ∧ (∀ x ∈ (listRd t).1, insOk x = true) ∧ (listRd t).1.length ≤ 1000) ∨ ((listRd t).2.2 ≠ 0 ∧ (listRd t).1 = []) := by
  unfold listRd
  split
  · exact Or.inr ⟨by decide, rfl⟩
  · rcases listGo_ok (ls := cutL 10 t) (k := 0) (out := []) (by simp) (by simp) with ⟨h1, h2, h3, h4⟩ | ⟨h1, h2, _⟩
    · exact Or.inl ⟨Prod.ext h2 h1, h3, h4⟩
    · exact Or.inr ⟨by rcases h1 with h1 | h1 <;> rw [h1] <;> decide, h2⟩
theorem nilN {F : Facts} {o : Option Addr} : RdN F o [] := ⟨[], RdO.nil _ _ _, rfl, fun i r x h => by simp at h⟩
theorem KX.mem {cx : Cx} {mem : List Blk} {w : World} {b : Nat} {ty td : TypeId} {xs : List Ins} {cells : List C} {As : List Blk} {J : Nat → Option Nat} (h : KX td xs cells As J) (hm : MemRel cx mem w) (hk : ⟨b, cells, ty⟩ ∈ mem) (hA : ∀ A ∈ As, A ∈ mem) : RdN w.cell? (some ⟨b, 0, none⟩) xs :=
  h.rdn (fun off c hc => by
    obtain ⟨q, hq⟩ := List.getElem?_of_mem hk
    exact blk_cell hm hq hc) fun A hAm off c hc => by
    obtain ⟨q, hq⟩ := List.getElem?_of_mem (hA A hAm)
    obtain ⟨i, cs, t⟩ := A
    exact blk_cell hm hq hc
end Go.Sx
namespace Go.Proofs.YtclbanhoiaieaaaGreatDoor
open Go Go.Sx
open List renaming all_eq_true → Y1, zipIdx → Y5
open Bool renaming exists_bool → Y3, forall_bool → Y4
attribute [local simp] Sx.vcsE1 Sx.vcsE2 Sx.vcsE3 Sx.vcsE4 Sx.vcsE5 Sx.vcsE6 Sx.vcsE7 Sx.vcsE8 Sx.vcsE9 Sx.vcsE10 Sx.vcsE11 Sx.vcsE12 Sx.vcsE13 Sx.vcsE14 Sx.vcsE15 Sx.vcsE16 Sx.vcsE17 Sx.vcsE18 Sx.vcsE19 Sx.get Sx.look Sx.put Sx.pureFn Sx.findOrd Sx.unF Sx.dstOk Sx.isFloatT Sx.endVC Sx.resFn Sx.packC Sx.newFn Sx.storeFn Sx.buildFn Sx.known Sx.aggT Sx.cellsC Sx.findCon Sx.allV Sx.partsV Sx.partsC Sx.fillL Sx.exitTo Sx.fAr Sx.eqFn Sx.eqFieldsFn Sx.eqElemsFn Sx.partFn Sx.sliceFn Sx.boundFn Sx.AppV Sx.CopyV Sx.MakeSliceV Sx.NewsV Sx.GrowV Sx.TextV Sx.bytesL Sx.notInt Sx.typeAt Sx.argAt Sx.den Go.undef Go.Value.cells Go.Value.oneCell' Sx.Con.pure Sx.Con.some Sx.Con.read Sx.Con.make Sx.Con.ext Sx.Con.rel Sx.Con.extS Sx.Con.draw Sx.Con.step Sx.C.one Sx.Draws.steps

theorem markInP_c (m1 As m2 : List Blk) (b n cp : Nat) (cells : List C) (J : Nat → Option Nat) (xs : List Ins) (q : Int) (cx : Cx) (mem : List Blk) (w : World) (hpre : mem = m1 ++ (⟨b, cells, 57⟩ :: (As ++ m2)) ∧ KX 91 xs cells As J ∧ (n = List.length xs ∧ List.length cells = cp * 3 ∧ List.length xs ≤ 1000) ∧ (∀ x ∈ xs, List.length x.args ≤ 3) ∧ 0 ≤ q ∧ q ≤ 1000) (hm : MemRel cx mem w) :
    Calls Tryz.prog 28 (([.s (List.length m1) b 0 n cp, .v (.int .i64 q)] : List C).map den).toArray w fun e w' => ∃ cx' c mem', e = .returned (den c) ∧ MemRel cx' mem' w' ∧ cx' = cx ∧ c = .v (.int .i64 (endM q xs)) ∧ ∃ cells' As', KX 91 (markN q xs) cells' As' J ∧ List.length cells' = List.length cells ∧ mem' = m1 ++ (⟨b, cells', 57⟩ :: (As' ++ m2)) := by
  refine step_of_vcs ⟨[markDsU], []⟩ hmx Tryz.func28 rfl (by kernel_rfl) (args := [.s (List.length m1) b 0 n cp, .v (.int .i64 q)]) (by simp [Tryz.ntmps28]) hm (fun cx' c mem' => cx' = cx ∧ c = .v (.int .i64 (endM q xs)) ∧ ∃ cells' As', KX 91 (markN q xs) cells' As' J ∧ List.length cells' = List.length cells ∧ mem' = m1 ++ (⟨b, cells', 57⟩ :: (As' ++ m2))) 500 ?_
  obtain ⟨rfl, hK, ⟨rfl, hcl, hxl⟩, hxa, hq0, hq1⟩ := hpre
  have hkl := hK.len
  have hbd := fun i => endM_bd q (xs.take i) fun y hy => hxa y (List.mem_of_mem_take hy)
  simp (maxSteps := 4000000) -dsimp [-Y1, -Array.all_eq_true, -Y3, -Y4, and_assoc, Y5, Tryz.f28, markDsU, Con.gen]
  refine loop_inv (σ := ⟨[markDsU], []⟩) hmx (by kernel_rfl) (fun m cx' tm mem' => cx' = cx ∧ ∃ i : Nat, i ≤ xs.length ∧ m = xs.length - i ∧ ∃ ys : List Ins, MarkedTo q xs i ys ∧ ∃ (cs : List C) (Bs : List Blk), KX 91 ys cs Bs J ∧ cs.length = cp * 3 ∧ mem' = m1 ++ (⟨b, cs, 57⟩ :: (Bs ++ m2)) ∧ Sx.look tm 5 = .v (.int .i64 i) ∧ Sx.look tm 1 = .v (.int .i64 (endM q (xs.take i))) ∧ Sx.look tm 0 = .s m1.length b 0 xs.length cp)
    xs.length ⟨rfl, 0, by omega, rfl, xs, MarkedTo.zero _ _, cells, As, hK, hcl, rfl, by simp [Sx.look], by simp [Sx.look, endM], by simp [Sx.look]⟩ ?_
  rintro m cx' tm mem' ⟨rfl, i, hi, rfl, ys, hM, cs, Bs, hY, hcs, rfl, h5, h1, h0⟩
  refine ⟨500, ?_⟩
  by_cases hlt : i < xs.length
  · obtain ⟨x, hx⟩ : ∃ x, xs[i]? = some x := ⟨xs[i], by simp [hlt]⟩
    have hy := hM.2 i x hx
    rw [if_neg (Nat.lt_irrefl i)] at hy
    have hxal := hxa x (List.mem_of_getElem? hx)
    have hM' := hM.step hx
    have hst := endM_step (q := q) hx
    obtain ⟨g1, g2, g3⟩ := hY.at' i x hy
    obtain ⟨hq2, hq3⟩ := hbd i
    have htl : (xs.take i).length = i := by rw [List.length_take]; omega
    rw [htl] at hq3
    generalize endM q (xs.take i) = p at *
    have w1 : IntKind.i64.wrap (p + 1) = p + 1 := wrap_i64 (by omega) (by omega)
    have w2 : IntKind.i64.wrap (p + 1 + 1) = p + 1 + 1 := wrap_i64 (by omega) (by omega)
    have b1 : i * 3 < cp * 3 := by omega
    have b2 : i * 3 + 1 < cp * 3 := by omega
    have b3 : i * 3 + 2 < cp * 3 := by omega
    have hne : ¬ i * 3 = i * 3 + 1 + 1 := by omega
    rcases g3 with ⟨k0, k1, k2⟩ | ⟨j, bo, co, po, k1, k2, k3, k4, k5, k6⟩
    · have k1e : ∀ h : i * 3 + 2 < cs.length, cs[i * 3 + 2]'h = .v (.slice none 0 0) := fun h => (List.getElem?_eq_some_iff.1 k1).2
      have hnew := hY.bare hy k0 k2 p (p + 1) k1
      simp (maxSteps := 4000000) -dsimp [-Y1, -Array.all_eq_true, -Y3, -Y4, and_assoc, Y5, Tryz.f28, markDsU, Con.gen, h5, h1, h0, hlt, hcs, w1, w2, b1, b2, b3, k1, k1e, hne, List.getElem?_append, List.set_append, List.getElem?_set, List.getElem_set, i_succ (i := i) (by omega)]
      refine ⟨by omega, by omega, gensSum_r (markDsN_at (by omega) ?_)⟩
      rintro _ _ _ ⟨rfl, rfl, rfl⟩
      have hst' : endM q (xs.take (i + 1)) = p + 1 + 1 := by rw [hst]; unfold nextM; rw [k0]; simp
      have hmk : markI p x = ⟨p, p + 1, []⟩ := by unfold markI; rw [k0]; rfl
      rw [hmk] at hM'
      simp (maxSteps := 4000000) -dsimp [-Y1, -Array.all_eq_true, -Y3, -Y4, and_assoc, Y5, Tryz.f28, markDsU, Con.gen, h5, h1, h0, hlt, hcs, w1, w2, i_succ (i := i) (by omega)]
      exact ⟨_, xs.length - (i + 1), by omega, i + 1, by omega, rfl, _, hM', _, _, hnew, by simpa using hcs, List.take_of_length_le (Nat.le_refl _), by omega, hst'.symm⟩
    · have k1e : ∀ h : i * 3 + 2 < cs.length, cs[i * 3 + 2]'h = .v (.slice (some ⟨bo, 0, none⟩) x.args.length co) := fun h => (List.getElem?_eq_some_iff.1 k1).2
      have hnew := hY.full hy k1 k2 k3 k4 k5 k6 p (p + 1) (marksD_len (p + 1 + 1) x.args.length)
      simp (maxSteps := 4000000) -dsimp [-Y1, -Array.all_eq_true, -Y3, -Y4, and_assoc, Y5, Tryz.f28, markDsU, Con.gen, h5, h1, h0, hlt, hcs, w1, w2, b1, b2, b3, k1, k1e, hne, List.getElem?_append, List.set_append, List.getElem?_set, List.getElem_set, i_succ (i := i) (by omega)]
      refine ⟨by omega, by omega, markDsV_at (k := m1.length + (j + 1)) ⟨mid_get k3, by rw [List.length_append, DB_len]; omega, k4, by omega, by omega, by omega⟩ ?_⟩
      rw [mid_set (List.getElem?_eq_some_iff.1 k3).1, ← DB_len x.args, List.drop_left]
      have hst' : endM q (xs.take (i + 1)) = p + 1 + 1 + 3 * (x.args.length : Int) := by rw [hst]; rfl
      have hmk : markI p x = ⟨p, p + 1, marksD (p + 1 + 1) x.args.length⟩ := rfl
      rw [hmk] at hM'
      generalize hds : marksD (p + 1 + 1) x.args.length = ds at *
      simp (maxSteps := 4000000) -dsimp [-Y1, -Array.all_eq_true, -Y3, -Y4, and_assoc, Y5, Tryz.f28, markDsU, Con.gen, h5, h1, h0, hlt, hcs, w1, w2, i_succ (i := i) (by omega)]
      exact ⟨_, xs.length - (i + 1), by omega, i + 1, by omega, rfl, _, hM', _, _, hnew, by simpa using hcs, List.take_of_length_le (Nat.le_refl _), by omega, hst'.symm⟩
  · obtain rfl : i = xs.length := by omega
    rw [List.take_length] at h1
    obtain rfl := hM.fin
    simp (maxSteps := 4000000) -dsimp [-Y1, -Array.all_eq_true, -Y3, -Y4, and_assoc, Y5, Tryz.f28, markDsU, Con.gen, h5, h1, h0]
    exact EndK.all ⟨rfl, rfl, cs, Bs, hY, by omega, rfl⟩
def markInP_S : Gens Tryz.prog 28 where
  ι := ((List Blk) × (List Blk) × (List Blk) × (Nat) × (Nat) × (Nat) × (List C) × (Nat → Option Nat) × (List Ins) × (Int))
  A := fun (i : ((List Blk) × (List Blk) × (List Blk) × (Nat) × (Nat) × (Nat) × (List C) × (Nat → Option Nat) × (List Ins) × (Int))) => match i with | (m1, As, m2, b, n, cp, cells, J, xs, q) => [.s (List.length m1) b 0 n cp, .v (.int .i64 q)]
  pre := fun (i : ((List Blk) × (List Blk) × (List Blk) × (Nat) × (Nat) × (Nat) × (List C) × (Nat → Option Nat) × (List Ins) × (Int))) (cx : Cx) (mem : List Blk) => match i with | (m1, As, m2, b, n, cp, cells, J, xs, q) => mem = m1 ++ (⟨b, cells, 57⟩ :: (As ++ m2)) ∧ KX 91 xs cells As J ∧ (n = List.length xs ∧ List.length cells = cp * 3 ∧ List.length xs ≤ 1000) ∧ (∀ x ∈ xs, List.length x.args ≤ 3) ∧ 0 ≤ q ∧ q ≤ 1000
  post := fun (i : ((List Blk) × (List Blk) × (List Blk) × (Nat) × (Nat) × (Nat) × (List C) × (Nat → Option Nat) × (List Ins) × (Int))) (cx : Cx) (mem : List Blk) (cx' : Cx) (c : C) (mem' : List Blk) => match i with | (m1, As, m2, b, n, cp, cells, J, xs, q) => cx' = cx ∧ c = .v (.int .i64 (endM q xs)) ∧ ∃ cells' As', KX 91 (markN q xs) cells' As' J ∧ List.length cells' = List.length cells ∧ mem' = m1 ++ (⟨b, cells', 57⟩ :: (As' ++ m2))
  enter := Tryz.call28
  h := fun i cx mem w hp hm => markInP_c i.1 i.2.1 i.2.2.1 i.2.2.2.1 i.2.2.2.2.1 i.2.2.2.2.2.1 i.2.2.2.2.2.2.1 i.2.2.2.2.2.2.2.1 i.2.2.2.2.2.2.2.2.1 i.2.2.2.2.2.2.2.2.2 cx mem w hp hm
theorem heldInC_c (o : Option Addr) (cap : Nat) (xs : List Ins) (q : Int) (w : World) (hpre : RdN (factF ⟨w, [], w, []⟩) o (markN q xs) ∧ (xs.length ≤ 1000 ∧ (∀ x ∈ xs, x.args.length ≤ 3) ∧ 0 ≤ q ∧ q ≤ 1000)) : Calls Tryz.prog 29 #[.slice o xs.length cap, .int .i64 q] w fun e w' => ∃ v, e = .returned v ∧ (fun v => v = .int .i64 (endM q xs)) v ∧ RowKit.Below w.heap.size w w' := by
  refine plain_of_vcs ⟨[heldDsC], []⟩ hmx Tryz.func29 rfl (by kernel_rfl) (args := [.slice o xs.length cap, .int .i64 q]) (by simp [Tryz.ntmps29]) w (fun v => v = .int .i64 (endM q xs)) 500 ?_
  obtain ⟨h, hxl, hxa, hq0, hq1⟩ := hpre
  have hbd := fun i => endM_bd q (xs.take i) fun y hy => hxa y (List.mem_of_mem_take hy)
  have hml := markN_len q xs
  simp (maxSteps := 4000000) -dsimp [-Y1, -Array.all_eq_true, -Y3, -Y4, and_assoc, Y5, Tryz.f29, heldDsC]
  refine loop_inv (σ := ⟨[heldDsC], []⟩) hmx (by kernel_rfl) (fun m cx tm mem => cx = ⟨w, [], w, []⟩ ∧ mem = [] ∧ ∃ i : Nat, i ≤ xs.length ∧ m = xs.length - i ∧ Sx.look tm 5 = .v (.int .i64 i) ∧ Sx.look tm 1 = .v (.int .i64 (endM q (xs.take i))) ∧ Sx.look tm 0 = .v (.slice o xs.length cap))
    xs.length ⟨rfl, rfl, 0, by omega, rfl, by simp [Sx.look], by simp [Sx.look, endM], by simp [Sx.look]⟩ ?_
  rintro m cx tm mem ⟨rfl, rfl, i, hi, rfl, h5, h1, h0⟩
  refine ⟨500, ?_⟩
  by_cases hlt : i < xs.length
  · obtain ⟨x, hx⟩ : ∃ x, xs[i]? = some x := ⟨xs[i], by simp [hlt]⟩
    have hxal := hxa x (List.mem_of_getElem? hx)
    have hst := endM_step (q := q) hx
    obtain ⟨o', cap', hat⟩ := h.at (markN_at (q := q) hx)
    obtain ⟨hq2, hq3⟩ := hbd i
    have htl : (xs.take i).length = i := by rw [List.length_take]; omega
    rw [htl] at hq3
    generalize endM q (xs.take i) = p at *
    have hth := h.there (i := i) (by omega)
    have c1 : (markI p x).code = p := rfl
    have c2 : (markI p x).op = p + 1 := rfl
    have c3 : (markI p x).args.length = x.args.length := marksD_len _ _
    have w1 : IntKind.i64.wrap (p + 1) = p + 1 := wrap_i64 (by omega) (by omega)
    have w2 : IntKind.i64.wrap (p + 1 + 1) = p + 1 + 1 := wrap_i64 (by omega) (by omega)
    simp (maxSteps := 4000000) -dsimp [-Y1, -Array.all_eq_true, -Y3, -Y4, and_assoc, Y5, Tryz.f29, heldDsC, h5, h1, h0, hlt, hth, hat.code, hat.op, hat.sl, c1, c2, c3, w1, w2]
    refine ⟨(o', cap', x.args.length, p + 1 + 1), rfl, ⟨hat.args.mono (sub_now _ _), by omega, by omega, by omega⟩, ?_⟩
    rintro v rfl
    have hn : ¬ p + 1 + 1 + 3 * (x.args.length : Int) < 0 := by omega
    simp (maxSteps := 4000000) -dsimp [-Y1, -Array.all_eq_true, -Y3, -Y4, and_assoc, Y5, Tryz.f29, heldDsC, h5, h1, h0, hn, i_succ (i := i) (by omega)]
    exact ⟨xs.length - (i + 1), by omega, i + 1, by omega, rfl, by omega, hst.symm⟩
  · obtain rfl : i = xs.length := by omega
    rw [List.take_length] at h1
    simp (maxSteps := 4000000) -dsimp [-Y1, -Array.all_eq_true, -Y3, -Y4, and_assoc, Y5, Tryz.f29, heldDsC, h5, h1, h0]
def heldInC_S : Rels Tryz.prog 29 where
  ι := ((Option Addr) × (Nat) × (List Ins) × (Int))
  A := fun (i : ((Option Addr) × (Nat) × (List Ins) × (Int))) => match i with | (o, cap, xs, q) => [.slice o xs.length cap, .int .i64 q]
  pre := fun (i : ((Option Addr) × (Nat) × (List Ins) × (Int))) (F : Facts) => match i with | (o, cap, xs, q) => RdN F o (markN q xs) ∧ (xs.length ≤ 1000 ∧ (∀ x ∈ xs, x.args.length ≤ 3) ∧ 0 ≤ q ∧ q ≤ 1000)
  post := fun (i : ((Option Addr) × (Nat) × (List Ins) × (Int))) => match i with | (o, cap, xs, q) => fun v => v = .int .i64 (endM q xs)
  mono := by
    intro i F G hs h
    first | exact h | exact h.mono hs | exact ⟨h.1.mono hs, h.2⟩ | exact ⟨h.1.mono hs, h.2.1.mono hs, h.2.2⟩ | exact ⟨h.1.mono hs, h.2.1.mono hs⟩ | exact ⟨h.1.mono hs, h.2.1.mono hs, h.2.2.1.mono hs, h.2.2.2⟩
  enter := Tryz.call29
  h := fun i w hp => heldInC_c i.1 i.2.1 i.2.2.1 i.2.2.2 w (by rw [factF_init]; exact hp)
def markInV_S : Gens Tryz.prog 28 where
  ι := List Blk × List Blk × List Blk × Nat × Nat × Nat × List C × (Nat → Option Nat) × List Ins × Int
  A i := [.v (.slice (some ⟨i.2.2.2.1, 0, none⟩) i.2.2.2.2.1 i.2.2.2.2.2.1), .v (.int .i64 i.2.2.2.2.2.2.2.2.2)]
  pre i cx mem := markInP_S.pre i cx mem
  post i cx mem cx' c mem' := markInP_S.post i cx mem cx' c mem'
  enter := markInP_S.enter
  h := fun (m1, As, m2, b, n, cp, cells, J, xs, q) cx mem w hp hm => markInP_S.h (m1, As, m2, b, n, cp, cells, J, xs, q) cx mem w hp hm
theorem markInN_c (q : Int) (cx : Cx) (mem : List Blk) (w : World) (hpre : 0 ≤ q) (hm : MemRel cx mem w) :
    Calls Tryz.prog 28 (([.v (.slice none 0 0), .v (.int .i64 q)] : List C).map den).toArray w fun e w' => ∃ cx' c mem', e = .returned (den c) ∧ MemRel cx' mem' w' ∧ cx' = cx ∧ c = .v (.int .i64 q) ∧ mem' = mem := by
  refine step_of_vcs ⟨[markDsU], []⟩ hmx Tryz.func28 rfl (by kernel_rfl) (args := [.v (.slice none 0 0), .v (.int .i64 q)]) (by simp [Tryz.ntmps28]) hm (fun cx' c mem' => cx' = cx ∧ c = .v (.int .i64 q) ∧ mem' = mem) 200 ?_
  simp (maxSteps := 4000000) -dsimp [-Y1, -Array.all_eq_true, -Y3, -Y4, and_assoc, Y5, Tryz.f28, markDsU, Con.gen]
  refine loop_unroll (σ := ⟨[markDsU], []⟩) (n := 200) hmx (by kernel_rfl) ?_
  simp (maxSteps := 4000000) -dsimp [-Y1, -Array.all_eq_true, -Y3, -Y4, and_assoc, Y5, Tryz.f28, markDsU, Con.gen]
  exact EndK.all ⟨rfl, rfl, rfl⟩
def markInN_S : Gens Tryz.prog 28 where
  ι := ((Int))
  A := fun (q : ((Int))) => [.v (.slice none 0 0), .v (.int .i64 q)]
  pre := fun (q : ((Int))) (cx : Cx) (mem : List Blk) => 0 ≤ q
  post := fun (q : ((Int))) (cx : Cx) (mem : List Blk) (cx' : Cx) (c : C) (mem' : List Blk) => cx' = cx ∧ c = .v (.int .i64 q) ∧ mem' = mem
  enter := Tryz.call28
  h := fun q cx mem w hp hm => markInN_c q cx mem w hp hm
theorem markInN_at {q : Int} {d : Nat} {cx : Cx} {mem : List Blk} {K : Cx → C → List Blk → Prop} (hpre : 0 ≤ q) (h : ∀ cx' c mem', (cx' = cx ∧ c = .v (.int .i64 q) ∧ mem' = mem) → K cx' c mem') : GenV d markInN_S cx [.v (.slice none 0 0), .v (.int .i64 q)] mem K := ⟨q, rfl, hpre, h⟩
def markInU : Con Tryz.prog := Con.gen (gensSum markInV_S markInN_S)
theorem markInV_at {m1 As m2 : List Blk} {b n cp : Nat} {cells : List C} {J : Nat → Option Nat} {xs : List Ins} {q : Int} {d : Nat} {cx : Cx} {mem : List Blk} {K : Cx → C → List Blk → Prop} (hmem : mem = m1 ++ (⟨b, cells, 57⟩ :: (As ++ m2))) (hK : KX 91 xs cells As J) (hn : n = List.length xs) (hcl : List.length cells = cp * 3) (hxl : List.length xs ≤ 1000) (hxa : ∀ x ∈ xs, List.length x.args ≤ 3) (hq : 0 ≤ q ∧ q ≤ 1000)
    (h : ∀ cells' As', KX 91 (markN q xs) cells' As' J → K cx (.v (.int .i64 (endM q xs))) (m1 ++ (⟨b, cells', 57⟩ :: (As' ++ m2)))) : GenV d (gensSum markInV_S markInN_S) cx [.v (.slice (some ⟨b, 0, none⟩) n cp), .v (.int .i64 q)] mem K :=
  gensSum_l ⟨(m1, As, m2, b, n, cp, cells, J, xs, q), rfl, ⟨hmem, hK, ⟨hn, hcl, hxl⟩, hxa, hq⟩, by rintro _ _ _ ⟨rfl, rfl, cs, Bs, h1, h2, rfl⟩; exact h cs Bs h1⟩
def heldInU_S := gensL heldInC_S
def heldInU : Con Tryz.prog := Con.gen heldInU_S
def eqInW : Con Tryz.prog := Con.readW eqInstSC_S
theorem eqInW_at {o o2 : Option Addr} {cap cap2 n n2 : Nat} {xs : List Ins} {d : Nat} {cx : Cx} {mem : List Blk} {K : C → Prop} (hn : n = xs.length) (hn2 : n2 = xs.length) (h2 : ∀ w, MemRel cx mem w → RdN w.cell? o xs ∧ RdN w.cell? o2 xs ∧ xs.length ≤ 1048576 ∧ (∀ x ∈ xs, x.args.length ≤ 1048576)) (h : K (.v (.bool true))) :
    RdsW d eqInstSC_S cx [.v (.slice o n cap), .v (.slice o2 n2 cap2)] mem K := by
  subst hn hn2
  exact readW_at (S := eqInstSC_S) (o, cap, xs, o2, cap2) rfl h2 h
theorem eqFaultC_c (a b : Int) (w : World) : Calls Tryz.prog 27 #[.agg #[.int .i64 a, .int .i64 b], .agg #[.int .i64 a, .int .i64 b]] w fun e w' => e = .returned (.bool true) ∧ RowKit.Below w.heap.size w w' := by
  refine (plain_of_vcs ⟨[], []⟩ hmx Tryz.func27 rfl (by kernel_rfl) (args := [.agg #[.int .i64 a, .int .i64 b], .agg #[.int .i64 a, .int .i64 b]]) (by simp [Tryz.ntmps27]) w (· = .bool true) 400 ?_).mono fun e w' ⟨v, h1, h2, h3⟩ => ⟨h2 ▸ h1, h3⟩
  simp (maxSteps := 4000000) -dsimp [-Y1, -Array.all_eq_true, -Y3, -Y4, and_assoc, Y5, Tryz.f27]
def eqFaultC : Con Tryz.prog := Con.pure 27 Tryz.call27 (fun (i : ((Int) × (Int))) => match i with | (a, b) => [.agg #[.int .i64 a, .int .i64 b], .agg #[.int .i64 a, .int .i64 b]]) (fun (i : ((Int) × (Int))) => match i with | (a, b) => True) (fun (i : ((Int) × (Int))) => match i with | (a, b) => .bool true) fun i w _ => eqFaultC_c i.1 i.2 w
theorem lawListParseC_c (s : Str) (w : World) (hpre : TM (factF ⟨w, [], w, []⟩)) : Calls Tryz.prog 6 #[.string (txt s)] w fun e w' => e = .returned (.bool true) ∧ RowKit.Below w.heap.size w w' := by
  refine (plain_of_vcs ⟨[sListParseC, iListParseU, eqInW, eqFaultC, markInU, heldInU], []⟩ hmx Tryz.func6 rfl (by kernel_rfl) (args := [.string (txt s)]) (by simp [Tryz.ntmps6]) w (· = .bool true) 500 ?_).mono fun e w' ⟨v, h1, h2, h3⟩ => ⟨h2 ▸ h1, h3⟩
  have ht := hpre
  by_cases hs : 1048576 < s.length
  · have hs1 : (1048576 : Int) < s.length := by omega
    simp (maxSteps := 4000000) -dsimp [-Y1, -Array.all_eq_true, -Y3, -Y4, and_assoc, Y5, Tryz.f6, sListParseC, iListParseU, eqInW, eqFaultC, markInU, heldInU, hs1]
  have hs1 : ¬ (1048576 : Int) < s.length := by omega
  have hok := listRd_ok s
  simp (maxSteps := 4000000) -dsimp [-Y1, -Array.all_eq_true, -Y3, -Y4, and_assoc, Y5, Tryz.f6, sListParseC, iListParseU, eqInW, eqFaultC, markInU, heldInU, hs1, Con.gen, Con.readW]
  refine ⟨s, rfl, ⟨trivial, by omega⟩, ?_⟩
  rintro cx1 v hle1 hv
  obtain ⟨o, cap, rfl, hd, c1, c2⟩ := hv.ex
  replace hd := hd.mono (sub_new _)
  simp (maxSteps := 4000000) -dsimp [-Y1, -Array.all_eq_true, -Y3, -Y4, and_assoc, Y5, Tryz.f6, sListParseC, iListParseU, eqInW, eqFaultC, markInU, heldInU, Con.gen, Con.readW]
  intro b1
  refine iListParseU_at (ht.mono hle1.fact) (by omega) ?_
  intro cx2 c3 ex hle2 hE
  have again := fun (cx : Cx) (mem : List Blk) (d : Nat) (K : Cx → C → List Blk → Prop) (g : Le ⟨w, [], w, []⟩ cx) h => iListParseU_at (t := s) (d := d) (cx := cx) (mem := mem) (K := K) (ht.mono g.fact) (by omega) h
  generalize hr : listRd s = r at *
  obtain ⟨xs, l, f⟩ := r
  simp only at c1 hd hok
  rcases hE with ⟨e1, e2, rfl, rfl⟩ | ⟨e2, b, cp, pad, rs, As, rfl, rfl, hL, g1, g2, g3⟩
  · simp only at e1 e2
    subst e1
    simp (maxSteps := 4000000) -dsimp [-Y1, -Array.all_eq_true, -Y3, -Y4, and_assoc, Y5, Tryz.f6, sListParseC, iListParseU, eqInW, eqFaultC, markInU, heldInU, Con.gen, Con.readW]
    intro b3
    have hend : endM 1 [] = 1 := rfl
    refine eqInW_at (xs := []) rfl rfl (fun w hm => ⟨nilN, nilN, by simp, by simp⟩) ?_
    simp (maxSteps := 4000000) -dsimp [-Y1, -Array.all_eq_true, -Y3, -Y4, and_assoc, Y5, Tryz.f6, sListParseC, iListParseU, eqInW, eqFaultC, markInU, heldInU, Con.gen, Con.readW]
    refine gensSum_r (markInN_at (by decide) ?_)
    rintro _ _ _ ⟨rfl, rfl, rfl⟩
    simp (maxSteps := 4000000) -dsimp [-Y1, -Array.all_eq_true, -Y3, -Y4, and_assoc, Y5, Tryz.f6, sListParseC, iListParseU, eqInW, eqFaultC, markInU, heldInU, Con.gen, Con.readW]
    refine gensL_at (S := heldInC_S) (none, 0, [], 1) rfl (fun w hm => ⟨nilN, by simp, by simp, by decide, by decide⟩) ?_
    rintro v rfl
    simp (maxSteps := 4000000) -dsimp [-Y1, -Array.all_eq_true, -Y3, -Y4, and_assoc, Y5, Tryz.f6, sListParseC, iListParseU, eqInW, eqFaultC, markInU, heldInU, Con.gen, Con.readW, hend]
    refine again _ _ _ _ (hle1.trans hle2) ?_
    intro cx4 c4 ex4 hle4 hE4
    rcases hE4 with ⟨_, _, rfl, rfl⟩ | ⟨e3, _⟩
    case' inr => exact absurd (congrArg Prod.snd e3) e2
    simp (maxSteps := 4000000) -dsimp [-Y1, -Array.all_eq_true, -Y3, -Y4, and_assoc, Y5, Tryz.f6, sListParseC, iListParseU, eqInW, eqFaultC, markInU, heldInU, Con.gen, Con.readW]
    intro b5
    refine eqInW_at (xs := []) rfl rfl (fun w hm => ⟨nilN, nilN, by simp, by simp⟩) ?_
    simp (maxSteps := 4000000) -dsimp [-Y1, -Array.all_eq_true, -Y3, -Y4, and_assoc, Y5, Tryz.f6, sListParseC, iListParseU, eqInW, eqFaultC, markInU, heldInU, Con.gen, Con.readW]
    refine gensL_at (S := heldInC_S) (none, 0, [], 1) rfl (fun w hm => ⟨nilN, by simp, by simp, by decide, by decide⟩) ?_
    rintro v rfl
    have hw := ((hle1.trans hle2).trans hle4).w0
    have hg := ((hle1.trans hle2).trans hle4).g0
    simp (maxSteps := 4000000) -dsimp [-Y1, -Array.all_eq_true, -Y3, -Y4, and_assoc, Y5, Tryz.f6, sListParseC, iListParseU, eqInW, eqFaultC, markInU, heldInU, Con.gen, Con.readW, hend, hw, hg]
  · simp only [Prod.mk.injEq] at e2
    obtain ⟨rfl, rfl⟩ := e2
    rcases hok with ⟨_, okx, hxl⟩ | ⟨hno, _⟩
    case' inr => exact absurd rfl hno
    simp only at g1 g3 hL
    obtain ⟨J, hKJ, _⟩ := hL.kx
    have hK := hKJ pad
    have hx3 : ∀ x ∈ xs, x.args.length ≤ 3 := fun x hx => ins_args (okx x hx)
    have hx4 : ∀ x ∈ xs, x.args.length ≤ 1048576 := fun x hx => by have := hx3 x hx; omega
    have hend := (endM_bd 1 xs hx3).1
    have hn : ¬ endM 1 xs < 0 := by omega
    have e1 := LB_full hL.len.2 hL.len.1 g3 g1
    simp (maxSteps := 4000000) -dsimp [-Y1, -Array.all_eq_true, -Y3, -Y4, and_assoc, Y5, Tryz.f6, sListParseC, iListParseU, eqInW, eqFaultC, markInU, heldInU, Con.gen, Con.readW]
    intro b3
    refine eqInW_at (xs := xs) rfl rfl (fun w hm => ⟨hK.mem (ty := 57) hm (by simp) (by simp +contextual), (hd.mono hle2.fact).mono (fact_cell hm), by omega, hx4⟩) ?_
    simp (maxSteps := 4000000) -dsimp [-Y1, -Array.all_eq_true, -Y3, -Y4, and_assoc, Y5, Tryz.f6, sListParseC, iListParseU, eqInW, eqFaultC, markInU, heldInU, Con.gen, Con.readW]
    refine markInV_at (m1 := [⟨b1, [.v (.int .i64 0), .v (.int .i64 0)], 48⟩]) (As := As) (m2 := [⟨b3, [.v (.int .i64 0), .v (.int .i64 0)], 48⟩]) rfl hK rfl e1 hxl hx3 ⟨by decide, by decide⟩ ?_
    intro cs' As' hK'
    simp (maxSteps := 4000000) -dsimp [-Y1, -Array.all_eq_true, -Y3, -Y4, and_assoc, Y5, Tryz.f6, sListParseC, iListParseU, eqInW, eqFaultC, markInU, heldInU, Con.gen, Con.readW]
    refine gensL_at (S := heldInC_S) (some ⟨b, 0, none⟩, cp, xs, 1) rfl (fun w hm => ⟨hK'.mem (ty := 57) hm (by simp) (by simp +contextual), by omega, hx3, by decide, by decide⟩) ?_
    rintro v rfl
    simp (maxSteps := 4000000) -dsimp [-Y1, -Array.all_eq_true, -Y3, -Y4, and_assoc, Y5, Tryz.f6, sListParseC, iListParseU, eqInW, eqFaultC, markInU, heldInU, Con.gen, Con.readW, hn]
    refine again _ _ _ _ (hle1.trans hle2) ?_
    intro cx4 c4 ex4 hle4 hE4
    rcases hE4 with ⟨_, e4, _⟩ | ⟨_, b4, cp4, pad4, rs4, As4, rfl, rfl, hL4, r1, r2, r3⟩
    · exact absurd rfl e4
    obtain ⟨J4, hKJ4, _⟩ := hL4.kx
    have hK4 := hKJ4 pad4
    simp (maxSteps := 4000000) -dsimp [-Y1, -Array.all_eq_true, -Y3, -Y4, and_assoc, Y5, Tryz.f6, sListParseC, iListParseU, eqInW, eqFaultC, markInU, heldInU, Con.gen, Con.readW]
    intro b5
    refine eqInW_at (xs := xs) rfl rfl (fun w hm => ⟨KX.mem (xs := xs) (ty := 57) hK4 hm (by simp) (by simp +contextual), (hd.mono (hle2.trans hle4).fact).mono (fact_cell hm), by omega, hx4⟩) ?_
    simp (maxSteps := 4000000) -dsimp [-Y1, -Array.all_eq_true, -Y3, -Y4, and_assoc, Y5, Tryz.f6, sListParseC, iListParseU, eqInW, eqFaultC, markInU, heldInU, Con.gen, Con.readW]
    refine gensL_at (S := heldInC_S) (some ⟨b, 0, none⟩, cp, xs, 1) rfl (fun w hm => ⟨hK'.mem (ty := 57) hm (by simp) (by simp +contextual), by omega, hx3, by decide, by decide⟩) ?_
    rintro v rfl
    have hw := ((hle1.trans hle2).trans hle4).w0
    have hg := ((hle1.trans hle2).trans hle4).g0
    simp (maxSteps := 4000000) -dsimp [-Y1, -Array.all_eq_true, -Y3, -Y4, and_assoc, Y5, Tryz.f6, sListParseC, iListParseU, eqInW, eqFaultC, markInU, heldInU, Con.gen, Con.readW, hn, hw, hg]
end Go.Proofs.YtclbanhoiaieaaaGreatDoor
