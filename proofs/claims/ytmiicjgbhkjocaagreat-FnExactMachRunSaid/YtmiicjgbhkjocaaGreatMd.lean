/-
  Runs of the machine, the machine that looks, and the one whose stacks are lists; what the verifier says of them. Plain Lean: nothing of a program stands here. Conditions: none.
-/
import Derived.Test.YtmiicjgbhkjocaaGreatMc
import Derived.Test.YtmiicjgbhkjocaaGreatSv
import Derived.Test.YtmiicjgbhkjocaaGreatEp
set_option linter.unusedVariables false
set_option linter.unusedSimpArgs false
set_option maxRecDepth 100000
namespace Go.Sx
open Go

def runN (t : MS) (dt : Int) (xs : List Ins) : MS := xs.foldl (fun t x => machN t x dt) t
theorem runN_snoc (t : MS) (dt : Int) (xs : List Ins) (x : Ins) : runN t dt (xs ++ [x]) = machN (runN t dt xs) x dt := by unfold runN; rw [List.foldl_append]; rfl
theorem runN_take {t : MS} {dt : Int} {xs : List Ins} {i : Nat} {x : Ins} (h : xs[i]? = some x) : runN t dt (xs.take (i + 1)) = machN (runN t dt (xs.take i)) x dt := by
  rw [List.take_add_one, h]; exact runN_snoc _ _ _ _
theorem runN_same {a b : MS} (h : MSt a b) (dt : Int) (xs : List Ins) : MSt (runN a dt xs) (runN b dt xs) := by
  induction xs generalizing a b with
  | nil => exact h
  | cons x xs ih => exact ih (machN_same h x dt)
def bootN (m : M) : MS := ⟨m, (0, 0), (0, 0)⟩
structure Smp where
  x : Int
  dt : Int
  f : Arr 4 Nat
def startN (m : M) (s : Smp) : MS := bootN (actStart m s.x s.dt s.f)
/-- A scan. -/
def scanN (xs : List Ins) (m : M) (s : Smp) : M := if xs.length ≤ 1000 then { (runN (startN m s) s.dt xs).m with Ran := true } else m
theorem scanN_same {a b : M} (h : MSame a b) (xs : List Ins) (s : Smp) : MSame (scanN xs a s) (scanN xs b s) := by
  unfold scanN
  split
  · exact ran_same (runN_same (a := startN a s) (b := startN b s) ⟨actStart_same h _ _ _, rfl, rfl⟩ _ _).m
  · exact h
def scansN (xs : List Ins) (m : M) (ss : List Smp) : M := ss.foldl (scanN xs) m
theorem scansN_same {a b : M} (h : MSame a b) (xs : List Ins) (ss : List Smp) : MSame (scansN xs a ss) (scansN xs b ss) := by
  induction ss generalizing a b with
  | nil => exact h
  | cons s ss ih => exact ih (scanN_same h xs s)
def machRunN (xs : List Ins) (m : M) (ss : List Smp) : M := if xs.length ≤ 1000 ∧ ss.length ≤ 100 then scansN xs m ss else m
theorem scansN_app (xs : List Ins) (m : M) (s t : List Smp) : scansN xs m (s ++ t) = scansN xs (scansN xs m s) t := by unfold scansN; rw [List.foldl_append]

/-- Heights and all that the verifier says. -/
structure AtH (t : MS) (b f : Int) : Prop where
  so : SOk 16 t.s
  fo : SOk 8 t.f
  hb : t.s.2 = b
  hf : t.f.2 = f
theorem atH_boot (m : M) : AtH (bootN m) 0 0 := ⟨⟨by simp [bootN], by simp [bootN, okS]⟩, ⟨by simp [bootN], by simp [bootN, okS]⟩, rfl, rfl⟩
theorem gS_self {s : Int × Int} (h : SOk 16 s) : gS s = s := okS_good h.ok
theorem gF_self {s : Int × Int} (h : SOk 8 s) : gF s = s := okS_good h.ok
theorem pushB_h {s : Int × Int} (h : SOk 16 s) (x : Bool) (hl : s.2 < 16) : (pushB s x).2 = s.2 + 1 := by unfold pushB; rw [gS_self h]; unfold pushS; simp only; omega
theorem popB_h {s : Int × Int} (h : SOk 16 s) (hl : s.2 ≠ 0) : (popB s).2 = s.2 - 1 := by unfold popB; rw [gS_self h]; unfold popS; rw [if_neg hl]
theorem turnB_h {s : Int × Int} (h : SOk 16 s) (x : Bool) : (turnB s x).2 = s.2 := by unfold turnB; rw [gS_self h]; unfold turnS; split <;> simp_all
theorem pushF_h {s : Int × Int} (h : SOk 8 s) (x : Bool) (hl : s.2 < 8) : (pushF s x).2 = s.2 + 1 := by unfold pushF; rw [gF_self h]; unfold pushS; simp only; omega
theorem popF_h {s : Int × Int} (h : SOk 8 s) (hl : s.2 ≠ 0) : (popF s).2 = s.2 - 1 := by unfold popF; rw [gF_self h]; unfold popS; rw [if_neg hl]
theorem atH_step {t : MS} {b f : Int} {x : Ins} {base coil : Bool} (dt : Int) (h : AtH t b f) (hw : wrongN x b f base coil = 0) : AtH (machN t x dt) (b + dB x.code) (f + dF x.code) := by
  obtain ⟨h1, h2, rfl, rfl⟩ := h
  have hi : insOk x = true := by
    cases hi : insOk x
    · unfold wrongN at hw; rw [hi] at hw; simp at hw
    · rfl
  have hc := insOk_code hi
  unfold wrongN at hw
  rw [hi] at hw
  simp only [Bool.true_eq_false, if_false] at hw
  have b1 := h1.bd
  have b2 := h2.bd
  split at hw
  · omega
  split at hw
  · omega
  split at hw
  · omega
  split at hw
  · omega
  split at hw
  · omega
  rename_i q1 q2 q3 _ q5
  clear hw
  unfold needsN at q1
  unfold machN dB dF
  by_cases c1 : x.code = 1
  · have := pushB_h h1 (testB t.m x.op (argD x.args 0) (argD x.args 1)) (by omega)
    simp only [c1] at *
    simp [joinB]
    exact ⟨pushB_ok h1.b _, h2, this, by simp⟩
  by_cases c2 : x.code = 2 ∨ x.code = 3
  · have k1 : 1 ≤ x.code ∧ x.code ≤ 3 := by omega
    have k2 : ¬ (x.code = 4 ∨ x.code = 5 ∨ x.code = 11) ∧ ¬ x.code = 7 ∧ ¬ x.code = 9 := by omega
    rw [if_pos k1, if_neg c1, if_neg k2.1, if_neg k2.2.1, if_neg k2.2.2]
    refine ⟨joinB_ok h1.b _ _, h2, ?_, by simp⟩
    simp only [joinB, if_neg c1]
    split <;> rw [turnB_h h1] <;> omega
  have k1 : ¬ (1 ≤ x.code ∧ x.code ≤ 3) := by omega
  rw [if_neg k1, if_neg c1]
  by_cases c4 : x.code = 4 ∨ x.code = 5
  · have k2 : (x.code = 4 ∨ x.code = 5 ∨ x.code = 11) ∧ ¬ x.code = 7 ∧ ¬ x.code = 9 ∧ ¬ x.code - 2 = 1 := by omega
    rw [if_pos c4, if_pos k2.1, if_neg k2.2.1, if_neg k2.2.2.1]
    rw [if_pos c4] at q1
    have hp := popB_h h1 (by omega)
    have ho := popB_ok h1.b
    refine ⟨joinB_ok ho.b _ _, h2, ?_, by simp⟩
    simp only [joinB, if_neg k2.2.2.2]
    split <;> rw [turnB_h ho, hp] <;> omega
  rw [if_neg c4]
  rw [if_neg c4, if_neg c1] at q1
  by_cases c6 : x.code = 6
  · have k2 : ¬ (x.code = 4 ∨ x.code = 5 ∨ x.code = 11) ∧ ¬ x.code = 7 ∧ ¬ x.code = 9 := by omega
    rw [if_pos c6, if_neg k2.1, if_neg k2.2.1, if_neg k2.2.2]
    exact ⟨turnB_ok h1.b _, h2, by simp only; rw [turnB_h h1]; omega, by simp⟩
  rw [if_neg c6]
  by_cases c7 : x.code = 7
  · have k2 : ¬ (x.code = 4 ∨ x.code = 5 ∨ x.code = 11) := by omega
    rw [if_pos c7, if_neg k2, if_pos c7]
    exact ⟨h1, pushF_ok h2.b _, by simp, by simp only; rw [pushF_h h2 _ (by omega)]⟩
  rw [if_neg c7, if_neg c7]
  by_cases c8 : x.code = 8
  · have k2 : ¬ (x.code = 4 ∨ x.code = 5 ∨ x.code = 11) ∧ ¬ x.code = 9 := by omega
    rw [if_pos c8, if_neg k2.1, if_neg k2.2]
    exact ⟨turnB_ok h1.b _, h2, by simp only; rw [turnB_h h1]; omega, by simp⟩
  rw [if_neg c8]
  by_cases c9 : x.code = 9
  · have k2 : ¬ (x.code = 4 ∨ x.code = 5 ∨ x.code = 11) := by omega
    rw [if_pos c9, if_neg k2, if_pos c9]
    exact ⟨turnB_ok h1.b _, popF_ok h2.b, by simp only; rw [turnB_h h1]; omega, by simp only; rw [popF_h h2 (by omega)]; omega⟩
  rw [if_neg c9, if_neg c9]
  by_cases c10 : x.code = 10
  · have k2 : ¬ (x.code = 4 ∨ x.code = 5 ∨ x.code = 11) := by omega
    rw [if_pos c10, if_neg k2]
    exact ⟨h1, h2, by simp, by simp⟩
  rw [if_neg c10]
  have c11 : x.code = 11 := by omega
  rw [if_pos c11, if_pos (Or.inr (Or.inr c11))]
  exact ⟨popB_ok h1.b, h2, by simp only; rw [popB_h h1 (by omega)]; omega, by simp⟩
/-- The heights of a verified list, all along. -/
theorem atH_run {xs : List Ins} {m : M} {dt : Int} (hk : ∀ k y, xs[k]? = some y → wrAt xs k y = 0) : ∀ i, i ≤ xs.length → AtH (runN (bootN m) dt (xs.take i)) (hB xs i) (hF xs i)
  | 0, _ => by rw [hB_zero, hF_zero, List.take_zero]; exact atH_boot m
  | i + 1, h => by
    have hx : xs[i]? = some (xs[i]'(by omega)) := by simp [show i < xs.length by omega]
    rw [runN_take hx, hB_succ hx, hF_succ hx]
    exact atH_step dt (atH_run hk i (by omega)) (hk i _ hx)
theorem zero_h {m : Nat} {s : Int × Int} (h : SOk m s) (h0 : s.2 = 0) : s = (0, 0) := by
  obtain ⟨b, n⟩ := s
  simp only at h0
  subst h0
  have := h.bd
  simp at this
  have : b = 0 := by omega
  rw [this]

/-- The machine that looks. -/
def outD (d : Dev) : Bool := decide (1 ≤ d.k ∧ d.k ≤ 10 ∧ (d.n < 0 ∨ devSize d.k ≤ d.n))
def haltN (b f : Int) (x : Ins) : Int :=
  if ¬ (1 ≤ x.code ∧ x.code ≤ 11) then 0
  else if b < needsN x.code ∨ ((x.code = 8 ∨ x.code = 9) ∧ f = 0) then 1
  else if (x.code = 1 ∧ b = 16) ∨ (x.code = 7 ∧ f = 8) then 2
  else if x.args.any outD then 3 else 0
theorem haltN_range (b f : Int) (x : Ins) : 0 ≤ haltN b f x ∧ haltN b f x ≤ 3 := by unfold haltN; (repeat' split) <;> omega
theorem outD_ok {d : Dev} (h : devOk d.k d.n d.p = true) : outD d = false := by
  unfold devOk at h
  rw [decide_eq_true_eq] at h
  unfold outD
  rw [decide_eq_false_iff_not]
  omega
/-- Where the watch stops: code and place; or it does not. -/
def watchGo (dt : Int) (xs : List Ins) : Nat → Nat → MS → (Int × Int) × MS
  | 0, i, t => ((0, 0), t)
  | n + 1, i, t => match xs[i]? with
    | some x => if haltN t.s.2 t.f.2 x ≠ 0 then ((haltN t.s.2 t.f.2 x, (i : Int)), t) else watchGo dt xs n (i + 1) (machN t x dt)
    | none => ((0, 0), t)
def watchN (xs : List Ins) (m : M) (s : Smp) : M × (Int × Int) :=
  if xs.length ≤ 1000 then (if (watchGo s.dt xs xs.length 0 (startN m s)).1.1 ≠ 0 then (m, (watchGo s.dt xs xs.length 0 (startN m s)).1) else ({ (watchGo s.dt xs xs.length 0 (startN m s)).2.m with Ran := true }, (0, 0))) else (m, (0, 0))
theorem watchGo_succ {dt : Int} {xs : List Ins} {i n : Nat} {x : Ins} {t : MS} (h : xs[i]? = some x) : watchGo dt xs (n + 1) i t = if haltN t.s.2 t.f.2 x ≠ 0 then ((haltN t.s.2 t.f.2 x, (i : Int)), t) else watchGo dt xs n (i + 1) (machN t x dt) := by rw [watchGo, h]
theorem watchGo_same {dt : Int} {xs : List Ins} : ∀ (n i : Nat) {a b : MS}, MSt a b → (watchGo dt xs n i a).1 = (watchGo dt xs n i b).1 ∧ MSt (watchGo dt xs n i a).2 (watchGo dt xs n i b).2
  | 0, i, a, b, h => ⟨rfl, h⟩
  | n + 1, i, a, b, h => by
    rw [watchGo, watchGo]
    cases xs[i]? with
    | none => exact ⟨rfl, h⟩
    | some x =>
      simp only [h.s, h.f]
      split
      · exact ⟨rfl, h⟩
      · exact watchGo_same n (i + 1) (machN_same h x dt)
/-- It runs like the other one, if it does not stop; where it stops is within the list. -/
theorem watchGo_spec {dt : Int} {xs : List Ins} : ∀ (n i : Nat) (t : MS), i + n = xs.length →
    ((watchGo dt xs n i t).1.1 = 0 ∧ (watchGo dt xs n i t).1.2 = 0 ∧ (watchGo dt xs n i t).2 = runN t dt (xs.drop i)) ∨ (1 ≤ (watchGo dt xs n i t).1.1 ∧ (watchGo dt xs n i t).1.1 ≤ 3 ∧ 0 ≤ (watchGo dt xs n i t).1.2 ∧ (watchGo dt xs n i t).1.2 < xs.length)
  | 0, i, t, h => by
    refine Or.inl ⟨rfl, rfl, ?_⟩
    rw [List.drop_eq_nil_of_le (by omega)]; rfl
  | n + 1, i, t, h => by
    have hx : xs[i]? = some (xs[i]'(by omega)) := by simp [show i < xs.length by omega]
    rw [watchGo_succ hx]
    split
    · rename_i hh
      have := haltN_range t.s.2 t.f.2 (xs[i]'(by omega))
      refine Or.inr ⟨?_, ?_, ?_, ?_⟩ <;> simp only <;> omega
    · rw [List.drop_eq_getElem_cons (by omega)]
      exact watchGo_spec n (i + 1) _ (by omega)
theorem insOk_args {x : Ins} (h : insOk x = true) : x.args.any outD = false := by
  have key : x.args.all dOk = true → x.args.any outD = false := by
    intro ha
    rw [List.any_eq_false]
    intro d hd
    have := List.all_eq_true.1 ha d hd
    rw [outD_ok this]; simp
  unfold insOk at h
  split at h
  · unfold conOk at h
    simp only [Bool.and_eq_true] at h
    exact key h.1.2
  · split at h
    · unfold coilOk at h
      simp only [Bool.and_eq_true] at h
      exact key h.1.2
    · simp only [decide_eq_true_eq] at h
      rw [List.length_eq_zero_iff.1 h.2.2.2]; rfl
theorem halt_fine {x : Ins} {b f : Int} {base coil : Bool} (hw : wrongN x b f base coil = 0) : haltN b f x = 0 := by
  have hi : insOk x = true := by
    cases hi : insOk x
    · unfold wrongN at hw; rw [hi] at hw; simp at hw
    · rfl
  have hc := insOk_code hi
  have ha := insOk_args hi
  unfold wrongN at hw
  rw [hi] at hw
  simp only [Bool.true_eq_false, if_false] at hw
  split at hw
  · omega
  split at hw
  · omega
  split at hw
  · omega
  split at hw
  · omega
  split at hw
  · omega
  clear hw
  unfold haltN
  rw [if_neg (by omega), if_neg (by omega), if_neg (by omega), ha]
  simp
theorem watch_sure {xs : List Ins} {m : M} {dt : Int} (hk : ∀ k y, xs[k]? = some y → wrAt xs k y = 0) : ∀ (n i : Nat), i + n = xs.length → (watchGo dt xs n i (runN (bootN m) dt (xs.take i))).1.1 = 0
  | 0, i, h => rfl
  | n + 1, i, h => by
    have hx : xs[i]? = some (xs[i]'(by omega)) := by simp [show i < xs.length by omega]
    have ha := atH_run (m := m) (dt := dt) hk i (by omega)
    have hw := hk i _ hx
    rw [watchGo_succ hx, ha.hb, ha.hf, halt_fine hw, if_neg (by simp), ← runN_take hx]
    exact watch_sure hk n (i + 1) (by omega)
end Go.Sx
