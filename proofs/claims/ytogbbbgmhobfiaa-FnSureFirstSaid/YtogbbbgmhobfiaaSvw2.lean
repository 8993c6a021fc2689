/-
  What the laws of the verifier say, plainly. Plain Lean: nothing of a program stands here. Conditions: none.
-/
import Derived.Test.YtogbbbgmhobfiaaInw2
set_option linter.unusedVariables false
set_option linter.unusedSimpArgs false
namespace Go.Sx
open Go

def dB (c : Int) : Int := if c = 1 then 1 else if c = 4 ∨ c = 5 ∨ c = 11 then -1 else 0
def dF (c : Int) : Int := if c = 7 then 1 else if c = 9 then -1 else 0
def hB (xs : List Ins) (k : Nat) : Int := ((xs.take k).map fun x => dB x.code).sum
def hF (xs : List Ins) (k : Nat) : Int := ((xs.take k).map fun x => dF x.code).sum
theorem dB_abs (c : Int) : -1 ≤ dB c ∧ dB c ≤ 1 := by unfold dB; split <;> (try split) <;> omega
theorem dF_abs (c : Int) : -1 ≤ dF c ∧ dF c ≤ 1 := by unfold dF; split <;> (try split) <;> omega
theorem hB_zero (xs : List Ins) : hB xs 0 = 0 := rfl
theorem hF_zero (xs : List Ins) : hF xs 0 = 0 := rfl
theorem hB_succ {xs : List Ins} {k : Nat} {x : Ins} (hx : xs[k]? = some x) : hB xs (k + 1) = hB xs k + dB x.code := by
  unfold hB; rw [List.take_add_one, hx]; simp
theorem hF_succ {xs : List Ins} {k : Nat} {x : Ins} (hx : xs[k]? = some x) : hF xs (k + 1) = hF xs k + dF x.code := by
  unfold hF; rw [List.take_add_one, hx]; simp
theorem hB_abs (xs : List Ins) : ∀ k : Nat, k ≤ xs.length → -(k : Int) ≤ hB xs k ∧ hB xs k ≤ k
  | 0, _ => by rw [hB_zero]; omega
  | k + 1, h => by
    have hx : xs[k]? = some (xs[k]'(by omega)) := by simp [show k < xs.length by omega]
    have := hB_abs xs k (by omega)
    have := dB_abs (xs[k]'(by omega)).code
    rw [hB_succ hx]; omega
theorem hF_abs (xs : List Ins) : ∀ k : Nat, k ≤ xs.length → -(k : Int) ≤ hF xs k ∧ hF xs k ≤ k
  | 0, _ => by rw [hF_zero]; omega
  | k + 1, h => by
    have hx : xs[k]? = some (xs[k]'(by omega)) := by simp [show k < xs.length by omega]
    have := hF_abs xs k (by omega)
    have := dF_abs (xs[k]'(by omega)).code
    rw [hF_succ hx]; omega
def trRow (xs : List Ins) (k : Nat) : List Value := [.int .i64 (hB xs (k + 1)), .int .i64 (hF xs (k + 1))]
def trRows (xs : List Ins) (n : Nat) : List (List Value) := (List.range n).map (trRow xs)
def trN (xs : List Ins) : Nat := if xs.length ≤ 1000 then xs.length else 0
theorem trRows_len (xs : List Ins) (n : Nat) : (trRows xs n).length = n := by simp [trRows]
theorem trRows_two {xs : List Ins} {n : Nat} : ∀ r ∈ trRows xs n, r.length = 2 := fun r h => by
  obtain ⟨k, _, rfl⟩ := List.mem_map.1 h; rfl
theorem trRows_succ (xs : List Ins) (n : Nat) : trRows xs (n + 1) = trRows xs n ++ [trRow xs n] := by
  unfold trRows; rw [List.range_succ, List.map_append]; rfl
theorem trRows_at {xs : List Ins} {n k : Nat} (h : k < n) : (trRows xs n)[k]? = some (trRow xs k) := by
  unfold trRows; rw [List.getElem?_map, List.getElem?_range h]; rfl
theorem trRows_flat (xs : List Ins) (n : Nat) : (trRows xs n).flatten.length = n * 2 := by
  rw [len_flat trRows_two, trRows_len]
def trC (xs : List Ins) (n : Nat) : List C := (trRows xs n).flatten.map .v
theorem trC_len (xs : List Ins) (n : Nat) : (trC xs n).length = n * 2 := by unfold trC; rw [List.length_map, trRows_flat]
theorem trC_succ {xs : List Ins} {i : Nat} {x : Ins} (hx : xs[i]? = some x) : trC xs (i + 1) = trC xs i ++ [.v (.int .i64 (hB xs i + dB x.code)), .v (.int .i64 (hF xs i + dF x.code))] := by
  unfold trC; rw [trRows_succ, List.flatten_append, List.map_append]; simp [trRow, hB_succ hx, hF_succ hx]
theorem trC_den (xs : List Ins) (n : Nat) (pad : List C) : ((((trC xs n) ++ pad).map den).drop 0).take ((trRows xs n).length * 2) = (trRows xs n).flatten := by
  rw [List.drop_zero, List.map_append, List.take_left' (by rw [List.length_map, trC_len, trRows_len])]
  unfold trC; exact map_den_v _
theorem trC_take (xs : List Ins) (n : Nat) (pad : List C) : List.take (n * 2) (trC xs n ++ pad) = trC xs n := by
  rw [List.take_left' (trC_len _ _)]
structure IsTr (F : Facts) (v : Value) (xs : List Ins) : Prop where
  ex : ∃ o cap, v = .slice o (trN xs) cap ∧ RdO F 2 o (trRows xs (trN xs)) ∧ trN xs ≤ cap ∧ cap ≤ maxLen
theorem IsTr.mono {F G : Facts} {v : Value} {xs : List Ins} (h : IsTr F v xs) (hs : Sub F G) : IsTr G v xs := by
  obtain ⟨o, cap, h1, h2, h3⟩ := h.ex
  exact ⟨o, cap, h1, RdO.mono h2 hs, h3⟩
theorem RdO.some {F : Facts} {size : Nat} {o : Option Addr} {rows : List (List Value)} (h : RdO F size o rows) {i : Nat} {r : List Value} (hi : rows[i]? = some r) : o.isSome = true := by
  obtain ⟨_, a, rfl, _⟩ := h i r hi; rfl
structure TrAt (cx : Cx) (o : Option Addr) (xs : List Ins) (i : Nat) : Prop where
  there : o.isSome = true
  all : ∀ {P : Program} {d : Nat} {mem : List Blk} {t : TypeId} {K : Value → Prop}, aggT P t = some true → P.cellsOf t = 2 → LoadV d P cx mem t (padd o (i * 2)) K = K (.agg #[.int .i64 (hB xs (i + 1)), .int .i64 (hF xs (i + 1))])
  bits : ∀ {P : Program} {d : Nat} {mem : List Blk} {t : TypeId} {K : Value → Prop}, aggT P t = some false → LoadV d P cx mem t (padd o (i * 2)) K = K (.int .i64 (hB xs (i + 1)))
  forks : ∀ {P : Program} {d : Nat} {mem : List Blk} {t : TypeId} {K : Value → Prop}, aggT P t = some false → LoadV d P cx mem t (padd o (i * 2 + 1)) K = K (.int .i64 (hF xs (i + 1)))
theorem trAt {cx : Cx} {o : Option Addr} {xs : List Ins} {n i : Nat} (h : RdO (factF cx) 2 o (trRows xs n)) (hi : i < n) : TrAt cx o xs i := by
  have hr := trRows_at hi (xs := xs)
  have hn := fun mem => RdO.mono h (sub_now cx mem)
  exact ⟨RdO.some h hr, fun ht hc => RdO.ld_agg (hn _) ht hc hr, fun ht => RdO.ld_zero (hn _) ht hr rfl, fun ht => RdO.ld_one (hn _) ht hr rfl⟩
end Go.Sx
namespace Go.Sx
open Go

def needsN (c : Int) : Int := if c = 4 ∨ c = 5 then 2 else if c = 1 then 0 else 1
def wrongN (x : Ins) (b f : Int) (base coil : Bool) : Int :=
  if insOk x = false then 2 else if b < needsN x.code then 3 else if x.code = 1 ∧ 16 ≤ b then 4 else if 7 ≤ x.code ∧ 1 < b then 5
  else if base = true ∧ (((x.code = 3 ∨ x.code = 6) ∧ b = 1) ∨ (x.code = 5 ∧ b = 2)) then 6
  else if (x.code = 7 ∧ 8 ≤ f) ∨ ((x.code = 8 ∨ x.code = 9) ∧ f = 0) ∨ (x.code = 11 ∧ f ≠ 0) then 7
  else if (x.code = 8 ∨ x.code = 9 ∨ x.code = 11) ∧ coil = false then 8 else 0
def baseN (xs : List Ins) : Nat → Bool
  | 0 => false
  | i + 1 => match xs[i]? with
    | some x => x.code != 11 && (baseN xs i || x.code == 10 || x.code == 7)
    | none => baseN xs i
def lastC (xs : List Ins) : Nat → Int
  | 0 => 0
  | i + 1 => match xs[i]? with
    | some x => x.code
    | none => 0
def wrAt (xs : List Ins) (i : Nat) (x : Ins) : Int := wrongN x (hB xs i) (hF xs i) (baseN xs i) (lastC xs i == 10)
def sureGo (xs : List Ins) : Nat → Nat → Int × Int
  | 0, i => if hB xs i ≠ 0 then (9, xs.length) else (0, 0)
  | n + 1, i => match xs[i]? with
    | some x => if wrAt xs i x ≠ 0 then (wrAt xs i x, i) else sureGo xs n (i + 1)
    | none => (0, 0)
def sureN (xs : List Ins) : Int × Int := if xs.length ≤ 1000 then sureGo xs xs.length 0 else (1, 0)
theorem baseN_succ {xs : List Ins} {i : Nat} {x : Ins} (h : xs[i]? = some x) : baseN xs (i + 1) = (x.code != 11 && (baseN xs i || x.code == 10 || x.code == 7)) := by
  rw [baseN, h]
theorem lastC_succ {xs : List Ins} {i : Nat} {x : Ins} (h : xs[i]? = some x) : lastC xs (i + 1) = x.code := by
  rw [lastC, h]
theorem sureGo_succ {xs : List Ins} {i n : Nat} {x : Ins} (h : xs[i]? = some x) : sureGo xs (n + 1) i = if wrAt xs i x ≠ 0 then (wrAt xs i x, (i : Int)) else sureGo xs n (i + 1) := by
  rw [sureGo, h]
theorem insOk_code {x : Ins} (h : insOk x = true) : 1 ≤ x.code ∧ x.code ≤ 11 := by
  unfold insOk at h
  split at h
  · omega
  · split at h
    · omega
    · simp at h; omega
structure Fine (b f : Int) : Prop where
  b0 : 0 ≤ b
  b1 : b ≤ 16
  f0 : 0 ≤ f
  f1 : f ≤ 8
theorem wrong_step {x : Ins} {b f : Int} {base coil : Bool} (h : wrongN x b f base coil = 0) (hf : Fine b f) : Fine (b + dB x.code) (f + dF x.code) ∧ (x.code = 11 → b + dB x.code = 0 ∧ f + dF x.code = 0) ∧ insOk x = true := by
  obtain ⟨h1, h2, h3, h4⟩ := hf
  unfold wrongN at h
  cases hi : insOk x
  · rw [hi] at h; simp at h
  · have hc := insOk_code hi
    rw [hi] at h
    simp only [Bool.true_eq_false, if_false] at h
    split at h
    · omega
    split at h
    · omega
    split at h
    · omega
    split at h
    · omega
    split at h
    · omega
    rename_i q1 q2 q3 _ q5
    clear h
    unfold needsN at q1
    refine ⟨?_, ?_, rfl⟩
    · unfold dB dF
      constructor <;> (split at q1 <;> (repeat' split) <;> omega)
    · intro e
      unfold dB dF
      split at q1 <;> (repeat' split) <;> omega
theorem fine_zero : Fine 0 0 := ⟨by omega, by omega, by omega, by omega⟩
end Go.Sx
namespace Go.Sx
open Go

theorem wrongN_range (x : Ins) (b f : Int) (base coil : Bool) : wrongN x b f base coil = 0 ∨ (2 ≤ wrongN x b f base coil ∧ wrongN x b f base coil ≤ 8) := by
  unfold wrongN; (repeat' split) <;> omega
theorem wrAt_range (xs : List Ins) (i : Nat) (x : Ins) : wrAt xs i x = 0 ∨ (2 ≤ wrAt xs i x ∧ wrAt xs i x ≤ 8) := wrongN_range _ _ _ _ _
theorem sureGo_spec (xs : List Ins) : ∀ (n i : Nat), i + n = xs.length →
    (∃ j x, i ≤ j ∧ xs[j]? = some x ∧ wrAt xs j x ≠ 0 ∧ (∀ k y, i ≤ k → k < j → xs[k]? = some y → wrAt xs k y = 0) ∧ sureGo xs n i = (wrAt xs j x, (j : Int))) ∨
      ((∀ k y, i ≤ k → xs[k]? = some y → wrAt xs k y = 0) ∧ sureGo xs n i = if hB xs xs.length ≠ 0 then (9, (xs.length : Int)) else (0, 0))
  | 0, i, h => by
    refine Or.inr ⟨fun k y hk hy => ?_, ?_⟩
    · have := (List.getElem?_eq_some_iff.1 hy).1; omega
    · have : i = xs.length := by omega
      subst this; rfl
  | n + 1, i, h => by
    have hx : xs[i]? = some (xs[i]'(by omega)) := by simp [show i < xs.length by omega]
    rw [sureGo_succ hx]
    by_cases hw : wrAt xs i (xs[i]'(by omega)) = 0
    · have e : ∀ k y, k = i → xs[k]? = some y → wrAt xs k y = 0 := by
        rintro k y rfl hy
        rw [hx] at hy
        cases hy; exact hw
      rw [if_neg (by simp [hw])]
      rcases sureGo_spec xs n (i + 1) (by omega) with ⟨j, x, h1, h2, h3, h4, h5⟩ | ⟨h1, h2⟩
      · refine Or.inl ⟨j, x, by omega, h2, h3, fun k y hk hkj hy => ?_, h5⟩
        by_cases hki : k = i
        · exact e k y hki hy
        · exact h4 k y (by omega) hkj hy
      · refine Or.inr ⟨fun k y hk hy => ?_, h2⟩
        by_cases hki : k = i
        · exact e k y hki hy
        · exact h1 k y (by omega) hy
    · rw [if_pos hw]
      exact Or.inl ⟨i, _, by omega, hx, hw, fun k y hk hki => by omega, rfl⟩
theorem fine_at (xs : List Ins) : ∀ (i : Nat), i ≤ xs.length → (∀ k y, k < i → xs[k]? = some y → wrAt xs k y = 0) → Fine (hB xs i) (hF xs i) ∧ (hB xs i = 0 → hF xs i = 0)
  | 0, _, _ => by
    rw [hB_zero, hF_zero]; exact ⟨fine_zero, fun _ => rfl⟩
  | i + 1, h, hk => by
    obtain ⟨f1, f2⟩ := fine_at xs i (by omega) fun k y hki hy => hk k y (by omega) hy
    have hx : xs[i]? = some (xs[i]'(by omega)) := by simp [show i < xs.length by omega]
    have hw := hk i _ (by omega) hx
    generalize xs[i]'(by omega) = x at *
    rw [hB_succ hx, hF_succ hx]
    obtain ⟨g1, g2, g3⟩ := wrong_step hw f1
    refine ⟨g1, fun e => ?_⟩
    by_cases h11 : x.code = 11
    · exact (g2 h11).2
    · unfold wrAt wrongN at hw
      rw [g3] at hw
      simp only [Bool.true_eq_false, if_false] at hw
      obtain ⟨q1, q2, q3, q4⟩ := f1
      clear g1 g2 g3 hk hx
      split at hw
      · omega
      rename_i p1
      unfold needsN at p1
      unfold dB at e
      unfold dF
      clear hw
      split at p1 <;> split at e <;> (try split at e) <;> (repeat' split) <;> omega
theorem sureN_bd (xs : List Ins) : 0 ≤ (sureN xs).1 ∧ (sureN xs).1 ≤ 9 ∧ 0 ≤ (sureN xs).2 ∧ (sureN xs).2 ≤ xs.length := by
  unfold sureN
  split
  · rcases sureGo_spec xs xs.length 0 (by omega) with ⟨j, x, h1, h2, h3, h4, h5⟩ | ⟨h1, h2⟩
    · rw [h5]
      have := wrAt_range xs j x
      have := (List.getElem?_eq_some_iff.1 h2).1
      refine ⟨?_, ?_, ?_, ?_⟩ <;> simp only <;> omega
    · rw [h2]; split <;> (refine ⟨?_, ?_, ?_, ?_⟩ <;> simp only <;> omega)
  · refine ⟨?_, ?_, ?_, ?_⟩ <;> simp only <;> omega

def wsBad (x : Ins) (b f nb nf : Int) (seen coil : Bool) : Bool :=
  insOk x == false || decide (nb < 0 ∨ 16 < nb ∨ nf < 0 ∨ 8 < nf) || decide ((x.code ≠ 1 ∧ b = 0) ∨ ((x.code = 4 ∨ x.code = 5) ∧ b < 2)) || decide (7 ≤ x.code ∧ b ≠ 1) ||
    (seen && decide (((x.code = 3 ∨ x.code = 6) ∧ b = 1) ∨ (x.code = 5 ∧ b = 2))) || decide (x.code = 8 ∧ f = 0) || (decide (x.code = 8 ∨ x.code = 9 ∨ x.code = 11) && !coil) || decide (x.code = 11 ∧ (nb ≠ 0 ∨ nf ≠ 0))
def wsAt (xs : List Ins) (i : Nat) (x : Ins) : Bool := wsBad x (hB xs i) (hF xs i) (hB xs (i + 1)) (hF xs (i + 1)) (baseN xs i) (lastC xs i == 10)
theorem wsBad_iff {x : Ins} {b f : Int} {base coil : Bool} (h : Fine b f) (hz : b = 0 → f = 0) : wsBad x b f (b + dB x.code) (f + dF x.code) base coil = true ↔ wrongN x b f base coil ≠ 0 := by
  obtain ⟨h1, h2, h3, h4⟩ := h
  unfold wsBad wrongN
  cases hi : insOk x
  · simp
  · have hc := insOk_code hi
    unfold dB dF needsN
    obtain ⟨c1, c2⟩ := hc
    generalize x.code = c at *
    obtain rfl | rfl | rfl | rfl | rfl | rfl | rfl | rfl | rfl | rfl | rfl : c = 1 ∨ c = 2 ∨ c = 3 ∨ c = 4 ∨ c = 5 ∨ c = 6 ∨ c = 7 ∨ c = 8 ∨ c = 9 ∨ c = 10 ∨ c = 11 := by omega
    all_goals
      cases base <;> cases coil <;> simp <;> (try (repeat' split)) <;> (try simp) <;> (try omega)
def wsGo (xs : List Ins) : Nat → Nat → Bool
  | 0, i => decide (hB xs i = 0 ∧ hF xs i = 0)
  | n + 1, i => match xs[i]? with
    | some x => if wsAt xs i x = true then false else wsGo xs n (i + 1)
    | none => false
def wsN (xs : List Ins) : Bool := if xs.length ≤ 1000 then wsGo xs xs.length 0 else false
theorem wsGo_succ {xs : List Ins} {i n : Nat} {x : Ins} (h : xs[i]? = some x) : wsGo xs (n + 1) i = if wsAt xs i x = true then false else wsGo xs n (i + 1) := by rw [wsGo, h]
theorem wsGo_iff (xs : List Ins) : ∀ (n i : Nat), i + n = xs.length → (∀ k y, k < i → xs[k]? = some y → wrAt xs k y = 0) → (wsGo xs n i = true ↔ (sureGo xs n i).1 = 0)
  | 0, i, h, hk => by
    obtain ⟨f1, f2⟩ := fine_at xs i (by omega) hk
    rw [wsGo, sureGo]
    by_cases hb : hB xs i = 0
    · simp [hb, f2 hb]
    · simp [hb]
  | n + 1, i, h, hk => by
    have hx : xs[i]? = some (xs[i]'(by omega)) := by simp [show i < xs.length by omega]
    generalize xs[i]'(by omega) = x at *
    obtain ⟨f1, f2⟩ := fine_at xs i (by omega) hk
    rw [wsGo_succ hx, sureGo_succ hx]
    have e : wsAt xs i x = true ↔ wrAt xs i x ≠ 0 := by
      unfold wsAt wrAt
      rw [hB_succ hx, hF_succ hx]
      exact wsBad_iff f1 f2
    by_cases hw : wrAt xs i x = 0
    · have h1 : ¬ wsAt xs i x = true := fun h => (e.1 h) hw
      rw [if_neg h1, if_neg (by simp [hw])]
      refine wsGo_iff xs n (i + 1) (by omega) fun k y hki hy => ?_
      by_cases hkk : k = i
      · subst hkk; rw [hx] at hy; cases hy; exact hw
      · exact hk k y (by omega) hy
    · rw [if_pos (e.2 hw), if_pos hw]
      simp [hw]
theorem wsN_iff (xs : List Ins) : wsN xs = decide ((sureN xs).1 = 0) := by
  unfold wsN sureN
  by_cases hl : xs.length ≤ 1000
  · rw [if_pos hl, if_pos hl]
    have := wsGo_iff xs xs.length 0 (by omega) (by intro k y h; omega)
    by_cases h : (sureGo xs xs.length 0).1 = 0
    · rw [this.2 h]; simp [h]
    · have h' : ¬ wsGo xs xs.length 0 = true := fun e => h (this.1 e)
      simp at h'
      rw [h']; simp [h]
  · rw [if_neg hl, if_neg hl]; rfl

theorem hB_take {xs ys : List Ins} {n : Nat} (h : xs.take n = ys.take n) {i : Nat} (hi : i ≤ n) : hB xs i = hB ys i ∧ hF xs i = hF ys i := by
  have e : xs.take i = ys.take i := by
    have := congrArg (List.take i) h
    rwa [List.take_take, List.take_take, Nat.min_eq_left hi] at this
  unfold hB hF; rw [e]; exact ⟨rfl, rfl⟩
theorem get_take {xs ys : List Ins} {n : Nat} (h : xs.take n = ys.take n) {i : Nat} (hi : i < n) : xs[i]? = ys[i]? := by
  have := congrArg (·[i]?) h
  simpa [List.getElem?_take, hi] using this
theorem baseN_take {xs ys : List Ins} {n : Nat} (h : xs.take n = ys.take n) : ∀ {i : Nat}, i ≤ n → baseN xs i = baseN ys i ∧ lastC xs i = lastC ys i
  | 0, _ => ⟨rfl, rfl⟩
  | i + 1, hi => by
    have e := get_take h (i := i) (by omega)
    have ih := (baseN_take h (i := i) (by omega)).1
    rw [baseN, baseN, lastC, lastC, e]
    cases ys[i]? <;> simp [ih]
theorem wrAt_take {xs ys : List Ins} {n : Nat} (h : xs.take n = ys.take n) {i : Nat} (hi : i ≤ n) (x : Ins) : wrAt xs i x = wrAt ys i x := by
  obtain ⟨e1, e2⟩ := hB_take h hi
  obtain ⟨e3, e4⟩ := baseN_take h hi
  unfold wrAt; rw [e1, e2, e3, e4]
theorem sure_first {a c : List Ins} {code at' : Int} (h : sureN a = (code, at')) (h0 : code ≠ 0) (h1 : code ≠ 1) (h9 : code ≠ 9) :
    ∃ j : Nat, at' = j ∧ j < a.length ∧ j < 1000 ∧ ((sureN (a.take j)).1 = 0 ∧ (sureN (a.take j)).2 = 0 ∨ sureN (a.take j) = (9, (j : Int))) ∧ (1000 < (a.take (j + 1) ++ c).length ∨ sureN (a.take (j + 1) ++ c) = (code, at')) := by
  unfold sureN at h
  by_cases hl : a.length ≤ 1000
  · rw [if_pos hl] at h
    rcases sureGo_spec a a.length 0 (by omega) with ⟨j, x, g1, g2, g3, g4, g5⟩ | ⟨g1, g2⟩
    · rw [g5] at h
      simp only [Prod.mk.injEq] at h
      obtain ⟨rfl, rfl⟩ := h
      have hj := (List.getElem?_eq_some_iff.1 g2).1
      refine ⟨j, rfl, hj, by omega, ?_, ?_⟩
      · have et : (a.take j).take j = a.take j := by rw [List.take_take, Nat.min_self]
        have hlen : (a.take j).length = j := by rw [List.length_take]; omega
        have key : ∀ k y, (a.take j)[k]? = some y → wrAt (a.take j) k y = 0 := by
          intro k y hy
          have hk := (List.getElem?_eq_some_iff.1 hy).1
          rw [hlen] at hk
          rw [wrAt_take et (by omega)]
          rw [get_take et hk] at hy
          exact g4 k y (by omega) hk hy
        unfold sureN
        rw [if_pos (by omega)]
        rcases sureGo_spec (a.take j) (a.take j).length 0 (by omega) with ⟨j', x', p1, p2, p3, p4, p5⟩ | ⟨p1, p2⟩
        · exact absurd (key _ _ p2) p3
        · rw [p2]
          split
          · rw [hlen]; exact Or.inr rfl
          · exact Or.inl ⟨rfl, rfl⟩
      · by_cases hbig : 1000 < (a.take (j + 1) ++ c).length
        · exact Or.inl hbig
        · refine Or.inr ?_
          have et : (a.take (j + 1) ++ c).take (j + 1) = a.take (j + 1) := by
            rw [List.take_left' (by rw [List.length_take]; omega)]
          have hx : (a.take (j + 1) ++ c)[j]? = some x := by
            rw [get_take et (by omega)]; exact g2
          unfold sureN
          rw [if_pos (by omega)]
          rcases sureGo_spec (a.take (j + 1) ++ c) (a.take (j + 1) ++ c).length 0 (by omega) with ⟨j', x', p1, p2, p3, p4, p5⟩ | ⟨p1, p2⟩
          · have hjj : j' = j := by
              rcases Nat.lt_trichotomy j' j with hlt | rfl | hgt
              · rw [wrAt_take et (by omega)] at p3
                rw [get_take et (by omega)] at p2
                exact absurd (g4 j' x' (by omega) hlt p2) p3
              · rfl
              · have := p4 j x (by omega) hgt hx
                rw [wrAt_take et (by omega)] at this
                exact absurd this g3
            subst hjj
            rw [hx] at p2
            cases p2
            rw [p5, wrAt_take et (by omega)]
          · have := p1 j x (by omega) hx
            rw [wrAt_take et (by omega)] at this
            exact absurd this g3
    · rw [g2] at h
      split at h <;> (simp only [Prod.mk.injEq] at h; omega)
  · rw [if_neg hl] at h
    simp only [Prod.mk.injEq] at h
    omega
end Go.Sx
