/-
  What the law of a machine's step says, plainly. Plain Lean: nothing of a program stands here. Conditions: none.
-/
import Derived.Test.YtfhnbdlkiemaeaaGreatMcmt
import Derived.Test.YtfhnbdlkiemaeaaGreatSvmt
import Derived.Test.YtfhnbdlkiemaeaaGreatInmt
set_option linter.unusedVariables false
set_option linter.unusedSimpArgs false
set_option maxRecDepth 100000
namespace Go.Sx
open Go

def runN (t : MS) (dt : Int) (xs : List Ins) : MS := xs.foldl (fun t x => machN t x dt) t
theorem runN_snoc (t : MS) (dt : Int) (xs : List Ins) (x : Ins) : runN t dt (xs ++ [x]) = machN (runN t dt xs) x dt := by unfold runN; rw [List.foldl_append]; rfl
theorem runN_take {t : MS} {dt : Int} {xs : List Ins} {i : Nat} {x : Ins} (h : xs[i]? = some x) : runN t dt (xs.take (i + 1)) = machN (runN t dt (xs.take i)) x dt := by
  rw [List.take_add_one, h]; exact runN_snoc _ _ _ _
def bootN (m : M) : MS := ⟨m, (0, 0), (0, 0)⟩
structure Smp where
  x : Int
  dt : Int
  f : Arr 4 Nat
def startN (m : M) (s : Smp) : MS := bootN (actStart m s.x s.dt s.f)
def scanN (xs : List Ins) (m : M) (s : Smp) : M := if xs.length ≤ 1000 then { (runN (startN m s) s.dt xs).m with Ran := true } else m
structure AtH (t : MS) (b f : Int) : Prop where
  so : SOk 16 t.s
  fo : SOk 8 t.f
  hb : t.s.2 = b
  hf : t.f.2 = f
theorem atH_boot (m : M) : AtH (bootN m) 0 0 := ⟨⟨by simp [bootN], by simp [bootN, okS]⟩, ⟨by simp [bootN], by simp [bootN, okS]⟩, rfl, rfl⟩
theorem gS_self {s : Int × Int} (h : SOk 16 s) : gS s = s := okS_good h.ok
theorem gF_self {s : Int × Int} (h : SOk 8 s) : gF s = s := okS_good h.ok
theorem pushB_h {s : Int × Int} (h : SOk 16 s) (x : Bool) (hl : s.2 < 16) : (pushB s x).2 = s.2 + 1 := by unfold pushB; rw [gS_self h]; unfold pushS; simp only; omega
theorem popB_h {s : Int × Int} (h : SOk 16 s) (hl : s.2 ≠ 0) : (popB s).2 = s.2 - 1 := by unfold popB; rw [gS_self h]; unfold popS; rw [if_neg hl]
theorem turnB_h {s : Int × Int} (h : SOk 16 s) (x : Bool) : (turnB s x).2 = s.2 := by unfold turnB; rw [gS_self h]; unfold turnS; split <;> simp_all
theorem pushF_h {s : Int × Int} (h : SOk 8 s) (x : Bool) (hl : s.2 < 8) : (pushF s x).2 = s.2 + 1 := by unfold pushF; rw [gF_self h]; unfold pushS; simp only; omega
theorem popF_h {s : Int × Int} (h : SOk 8 s) (hl : s.2 ≠ 0) : (popF s).2 = s.2 - 1 := by unfold popF; rw [gF_self h]; unfold popS; rw [if_neg hl]
theorem atH_step {t : MS} {b f : Int} {x : Ins} {base coil : Bool} (dt : Int) (h : AtH t b f) (hw : wrongN x b f base coil = 0) : AtH (machN t x dt) (b + dB x.code) (f + dF x.code) := by
  obtain ⟨h1, h2, rfl, rfl⟩ := h
  have hi : insOk x = true := by
    cases hi : insOk x
    · unfold wrongN at hw; rw [hi] at hw; simp at hw
    · rfl
  have hc := insOk_code hi
  unfold wrongN at hw
  rw [hi] at hw
  simp only [Bool.true_eq_false, if_false] at hw
  have b1 := h1.bd
  have b2 := h2.bd
  split at hw
  · omega
  split at hw
  · omega
  split at hw
  · omega
  split at hw
  · omega
  split at hw
  · omega
  rename_i q1 q2 q3 _ q5
  clear hw
  unfold needsN at q1
  unfold machN dB dF
  by_cases c1 : x.code = 1
  · have := pushB_h h1 (testB t.m x.op (argD x.args 0) (argD x.args 1)) (by omega)
    simp only [c1] at *
    simp [joinB]
    exact ⟨pushB_ok h1.b _, h2, this, by simp⟩
  by_cases c2 : x.code = 2 ∨ x.code = 3
  · have k1 : 1 ≤ x.code ∧ x.code ≤ 3 := by omega
    have k2 : ¬ (x.code = 4 ∨ x.code = 5 ∨ x.code = 11) ∧ ¬ x.code = 7 ∧ ¬ x.code = 9 := by omega
    rw [if_pos k1, if_neg c1, if_neg k2.1, if_neg k2.2.1, if_neg k2.2.2]
    refine ⟨joinB_ok h1.b _ _, h2, ?_, by simp⟩
    simp only [joinB, if_neg c1]
    split <;> rw [turnB_h h1] <;> omega
  have k1 : ¬ (1 ≤ x.code ∧ x.code ≤ 3) := by omega
  rw [if_neg k1, if_neg c1]
  by_cases c4 : x.code = 4 ∨ x.code = 5
  · have k2 : (x.code = 4 ∨ x.code = 5 ∨ x.code = 11) ∧ ¬ x.code = 7 ∧ ¬ x.code = 9 ∧ ¬ x.code - 2 = 1 := by omega
    rw [if_pos c4, if_pos k2.1, if_neg k2.2.1, if_neg k2.2.2.1]
    rw [if_pos c4] at q1
    have hp := popB_h h1 (by omega)
    have ho := popB_ok h1.b
    refine ⟨joinB_ok ho.b _ _, h2, ?_, by simp⟩
    simp only [joinB, if_neg k2.2.2.2]
    split <;> rw [turnB_h ho, hp] <;> omega
  rw [if_neg c4]
  rw [if_neg c4, if_neg c1] at q1
  by_cases c6 : x.code = 6
  · have k2 : ¬ (x.code = 4 ∨ x.code = 5 ∨ x.code = 11) ∧ ¬ x.code = 7 ∧ ¬ x.code = 9 := by omega
    rw [if_pos c6, if_neg k2.1, if_neg k2.2.1, if_neg k2.2.2]
    exact ⟨turnB_ok h1.b _, h2, by simp only; rw [turnB_h h1]; omega, by simp⟩
  rw [if_neg c6]
  by_cases c7 : x.code = 7
  · have k2 : ¬ (x.code = 4 ∨ x.code = 5 ∨ x.code = 11) := by omega
    rw [if_pos c7, if_neg k2, if_pos c7]
    exact ⟨h1, pushF_ok h2.b _, by simp, by simp only; rw [pushF_h h2 _ (by omega)]⟩
  rw [if_neg c7, if_neg c7]
  by_cases c8 : x.code = 8
  · have k2 : ¬ (x.code = 4 ∨ x.code = 5 ∨ x.code = 11) ∧ ¬ x.code = 9 := by omega
    rw [if_pos c8, if_neg k2.1, if_neg k2.2]
    exact ⟨turnB_ok h1.b _, h2, by simp only; rw [turnB_h h1]; omega, by simp⟩
  rw [if_neg c8]
  by_cases c9 : x.code = 9
  · have k2 : ¬ (x.code = 4 ∨ x.code = 5 ∨ x.code = 11) := by omega
    rw [if_pos c9, if_neg k2, if_pos c9]
    exact ⟨turnB_ok h1.b _, popF_ok h2.b, by simp only; rw [turnB_h h1]; omega, by simp only; rw [popF_h h2 (by omega)]; omega⟩
  rw [if_neg c9, if_neg c9]
  by_cases c10 : x.code = 10
  · have k2 : ¬ (x.code = 4 ∨ x.code = 5 ∨ x.code = 11) := by omega
    rw [if_pos c10, if_neg k2]
    exact ⟨h1, h2, by simp, by simp⟩
  rw [if_neg c10]
  have c11 : x.code = 11 := by omega
  rw [if_pos c11, if_pos (Or.inr (Or.inr c11))]
  exact ⟨popB_ok h1.b, h2, by simp only; rw [popB_h h1 (by omega)]; omega, by simp⟩
theorem atH_run {xs : List Ins} {m : M} {dt : Int} (hk : ∀ k y, xs[k]? = some y → wrAt xs k y = 0) : ∀ i, i ≤ xs.length → AtH (runN (bootN m) dt (xs.take i)) (hB xs i) (hF xs i)
  | 0, _ => by rw [hB_zero, hF_zero, List.take_zero]; exact atH_boot m
  | i + 1, h => by
    have hx : xs[i]? = some (xs[i]'(by omega)) := by simp [show i < xs.length by omega]
    rw [runN_take hx, hB_succ hx, hF_succ hx]
    exact atH_step dt (atH_run hk i (by omega)) (hk i _ hx)
def outD (d : Dev) : Bool := decide (1 ≤ d.k ∧ d.k ≤ 10 ∧ (d.n < 0 ∨ devSize d.k ≤ d.n))
def haltN (b f : Int) (x : Ins) : Int :=
  if ¬ (1 ≤ x.code ∧ x.code ≤ 11) then 0
  else if b < needsN x.code ∨ ((x.code = 8 ∨ x.code = 9) ∧ f = 0) then 1
  else if (x.code = 1 ∧ b = 16) ∨ (x.code = 7 ∧ f = 8) then 2
  else if x.args.any outD then 3 else 0
theorem haltN_range (b f : Int) (x : Ins) : 0 ≤ haltN b f x ∧ haltN b f x ≤ 3 := by unfold haltN; (repeat' split) <;> omega
theorem outD_ok {d : Dev} (h : devOk d.k d.n d.p = true) : outD d = false := by
  unfold devOk at h
  rw [decide_eq_true_eq] at h
  unfold outD
  rw [decide_eq_false_iff_not]
  omega
def watchGo (dt : Int) (xs : List Ins) : Nat → Nat → MS → (Int × Int) × MS
  | 0, i, t => ((0, 0), t)
  | n + 1, i, t => match xs[i]? with
    | some x => if haltN t.s.2 t.f.2 x ≠ 0 then ((haltN t.s.2 t.f.2 x, (i : Int)), t) else watchGo dt xs n (i + 1) (machN t x dt)
    | none => ((0, 0), t)
def watchN (xs : List Ins) (m : M) (s : Smp) : M × (Int × Int) :=
  if xs.length ≤ 1000 then (if (watchGo s.dt xs xs.length 0 (startN m s)).1.1 ≠ 0 then (m, (watchGo s.dt xs xs.length 0 (startN m s)).1) else ({ (watchGo s.dt xs xs.length 0 (startN m s)).2.m with Ran := true }, (0, 0))) else (m, (0, 0))
theorem watchGo_succ {dt : Int} {xs : List Ins} {i n : Nat} {x : Ins} {t : MS} (h : xs[i]? = some x) : watchGo dt xs (n + 1) i t = if haltN t.s.2 t.f.2 x ≠ 0 then ((haltN t.s.2 t.f.2 x, (i : Int)), t) else watchGo dt xs n (i + 1) (machN t x dt) := by rw [watchGo, h]
theorem watchGo_spec {dt : Int} {xs : List Ins} : ∀ (n i : Nat) (t : MS), i + n = xs.length →
    ((watchGo dt xs n i t).1.1 = 0 ∧ (watchGo dt xs n i t).1.2 = 0 ∧ (watchGo dt xs n i t).2 = runN t dt (xs.drop i)) ∨ (1 ≤ (watchGo dt xs n i t).1.1 ∧ (watchGo dt xs n i t).1.1 ≤ 3 ∧ 0 ≤ (watchGo dt xs n i t).1.2 ∧ (watchGo dt xs n i t).1.2 < xs.length)
  | 0, i, t, h => by
    refine Or.inl ⟨rfl, rfl, ?_⟩
    rw [List.drop_eq_nil_of_le (by omega)]; rfl
  | n + 1, i, t, h => by
    have hx : xs[i]? = some (xs[i]'(by omega)) := by simp [show i < xs.length by omega]
    rw [watchGo_succ hx]
    split
    · rename_i hh
      have := haltN_range t.s.2 t.f.2 (xs[i]'(by omega))
      refine Or.inr ⟨?_, ?_, ?_, ?_⟩ <;> simp only <;> omega
    · rw [List.drop_eq_getElem_cons (by omega)]
      exact watchGo_spec n (i + 1) _ (by omega)
theorem insOk_args {x : Ins} (h : insOk x = true) : x.args.any outD = false := by
  have key : x.args.all dOk = true → x.args.any outD = false := by
    intro ha
    rw [List.any_eq_false]
    intro d hd
    have := List.all_eq_true.1 ha d hd
    rw [outD_ok this]; simp
  unfold insOk at h
  split at h
  · unfold conOk at h
    simp only [Bool.and_eq_true] at h
    exact key h.1.2
  · split at h
    · unfold coilOk at h
      simp only [Bool.and_eq_true] at h
      exact key h.1.2
    · simp only [decide_eq_true_eq] at h
      rw [List.length_eq_zero_iff.1 h.2.2.2]; rfl
theorem halt_fine {x : Ins} {b f : Int} {base coil : Bool} (hw : wrongN x b f base coil = 0) : haltN b f x = 0 := by
  have hi : insOk x = true := by
    cases hi : insOk x
    · unfold wrongN at hw; rw [hi] at hw; simp at hw
    · rfl
  have hc := insOk_code hi
  have ha := insOk_args hi
  unfold wrongN at hw
  rw [hi] at hw
  simp only [Bool.true_eq_false, if_false] at hw
  split at hw
  · omega
  split at hw
  · omega
  split at hw
  · omega
  split at hw
  · omega
  split at hw
  · omega
  clear hw
  unfold haltN
  rw [if_neg (by omega), if_neg (by omega), if_neg (by omega), ha]
  simp
theorem watch_sure {xs : List Ins} {m : M} {dt : Int} (hk : ∀ k y, xs[k]? = some y → wrAt xs k y = 0) : ∀ (n i : Nat), i + n = xs.length → (watchGo dt xs n i (runN (bootN m) dt (xs.take i))).1.1 = 0
  | 0, i, h => rfl
  | n + 1, i, h => by
    have hx : xs[i]? = some (xs[i]'(by omega)) := by simp [show i < xs.length by omega]
    have ha := atH_run (m := m) (dt := dt) hk i (by omega)
    have hw := hk i _ hx
    rw [watchGo_succ hx, ha.hb, ha.hf, halt_fine hw, if_neg (by simp), ← runN_take hx]
    exact watch_sure hk n (i + 1) (by omega)
end Go.Sx
namespace Go.Sx
open Go

def stk (l : List Bool) : Int × Int := (valL l, (l.length : Int))
def lastB (l : List Bool) : Bool := l.getLast?.getD false
theorem valL_len (l : List Bool) : 0 ≤ valL l ∧ valL l < 2 ^ l.length := valL_bd _ l rfl
theorem stk_ok {m : Nat} {l : List Bool} (h : l.length ≤ m) : SOk m (stk l) := by
  have := valL_len l
  refine ⟨this.1, okS_iff.2 ⟨?_, ?_, ?_⟩⟩ <;> simp only [stk]
  · omega
  · omega
  · rw [Int.toNat_natCast]; exact this.2
theorem listS_stk {m : Nat} {l : List Bool} (h : l.length ≤ m) : listS m (stk l).1 (stk l).2 = l := by
  unfold listS
  rw [if_pos (stk_ok h).ok]
  simp only [stk, Int.toNat_natCast]
  exact bitsL_valL _ l rfl
theorem push_stk {m : Nat} {l : List Bool} (h : l.length < m) (x : Bool) : pushS m (goodS m (stk l).1 (stk l).2) x = stk (l ++ [x]) := by
  have hv := (stk_ok (m := m) (l := l) (by omega)).b
  rcases push_law (m := m) (b := (stk l).1) (n := (stk l).2) hv x with e | e
  · rw [← e, listS_stk (by omega), stack_list (by simp; omega)]; rfl
  · omega
theorem pop_stk {m : Nat} {l : List Bool} (h : l.length ≤ m) : popS (goodS m (stk l).1 (stk l).2) = stk l.dropLast ∧ topS (goodS m (stk l).1 (stk l).2) = lastB l := by
  have hv := (stk_ok (m := m) (l := l) h).b
  obtain ⟨e1, e2⟩ := pop_law (m := m) (b := (stk l).1) (n := (stk l).2) hv
  rw [listS_stk h] at e1 e2
  rw [← e1, ← e2, stack_list (by simp; omega)]
  exact ⟨rfl, rfl⟩
theorem turn_stk {m : Nat} {l : List Bool} (h : l.length ≤ m) (hne : l ≠ []) (x : Bool) : turnS (goodS m (stk l).1 (stk l).2) x = stk (l.dropLast ++ [x]) := by
  have hv := (stk_ok (m := m) (l := l) h).b
  have e := turn_law (m := m) (b := (stk l).1) (n := (stk l).2) hv x (by rw [listS_stk h]; exact hne)
  rw [listS_stk h] at e
  have hl : 0 < l.length := List.length_pos_iff.2 hne
  rw [← e, stack_list (by simp; omega)]; rfl
structure ID where
  m : M
  bits : List Bool
  forks : List Bool
def idJoin (code : Int) (l : List Bool) (b : Bool) : List Bool := if code = 1 then l ++ [b] else if code = 2 then l.dropLast ++ [lastB l && b] else l.dropLast ++ [lastB l || b]
def idN (t : ID) (x : Ins) (dt : Int) : ID :=
  if 1 ≤ x.code ∧ x.code ≤ 3 then ⟨testM t.m x.op (argD x.args 0) (argD x.args 1), idJoin x.code t.bits (testB t.m x.op (argD x.args 0) (argD x.args 1)), t.forks⟩
  else if x.code = 4 ∨ x.code = 5 then ⟨t.m, idJoin (x.code - 2) t.bits.dropLast (lastB t.bits), t.forks⟩
  else if x.code = 6 then ⟨t.m, t.bits.dropLast ++ [!lastB t.bits], t.forks⟩
  else if x.code = 7 then ⟨t.m, t.bits, t.forks ++ [lastB t.bits]⟩
  else if x.code = 8 then ⟨t.m, t.bits.dropLast ++ [lastB t.forks], t.forks⟩
  else if x.code = 9 then ⟨t.m, t.bits.dropLast ++ [lastB t.forks], t.forks.dropLast⟩
  else if x.code = 10 then ⟨doM t.m x.op (argD x.args 0) (argD x.args 1) (argD x.args 2) (lastB t.bits) dt, t.bits, t.forks⟩
  else if x.code = 11 then ⟨t.m, t.bits.dropLast, t.forks⟩
  else t
structure IdR (t : MS) (i : ID) : Prop where
  m : MSame t.m i.m
  s : t.s = stk i.bits
  sl : i.bits.length ≤ 16
  f : t.f = stk i.forks
  fl : i.forks.length ≤ 8
theorem join_stk {l : List Bool} {code : Int} (b : Bool) (h1 : code = 1 → l.length < 16) (h2 : code ≠ 1 → l ≠ [] ∧ l.length ≤ 16) : joinB code (stk l) b = stk (idJoin code l b) ∧ (idJoin code l b).length ≤ 16 := by
  unfold joinB idJoin
  by_cases c1 : code = 1
  · rw [if_pos c1, if_pos c1]
    have := h1 c1
    exact ⟨push_stk this b, by simp; omega⟩
  · rw [if_neg c1, if_neg c1]
    obtain ⟨g1, g2⟩ := h2 c1
    have hl : 0 < l.length := List.length_pos_iff.2 g1
    have e : topB (stk l) = lastB l := (pop_stk g2).2
    by_cases c2 : code = 2
    · rw [if_pos c2, if_pos c2, e]
      exact ⟨turn_stk g2 g1 _, by simp; omega⟩
    · rw [if_neg c2, if_neg c2, e]
      exact ⟨turn_stk g2 g1 _, by simp; omega⟩
theorem idN_step {t : MS} {i : ID} {x : Ins} (dt : Int) (h : IdR t i) (hh : haltN i.bits.length i.forks.length x = 0) : IdR (machN t x dt) (idN i x dt) := by
  obtain ⟨m, s, f⟩ := t
  obtain ⟨m', bits, forks⟩ := i
  obtain ⟨hm, hs, hsl, hf, hfl⟩ := h
  simp only at hm hs hsl hf hfl hh
  subst hs hf
  unfold haltN at hh
  by_cases hc : 1 ≤ x.code ∧ x.code ≤ 11
  · rw [if_neg (by simpa using hc)] at hh
    split at hh
    · omega
    rename_i q1
    split at hh
    · omega
    rename_i q2
    clear hh
    unfold needsN at q1
    have ne : (bits.length : Int) ≠ 0 → bits ≠ [] := fun h e => by subst e; simp at h
    have nf : (forks.length : Int) ≠ 0 → forks ≠ [] := fun h e => by subst e; simp at h
    have pS : popB (stk bits) = stk bits.dropLast := (pop_stk hsl).1
    have tS : topB (stk bits) = lastB bits := (pop_stk hsl).2
    have pF : popF (stk forks) = stk forks.dropLast := (pop_stk hfl).1
    have tF : topF (stk forks) = lastB forks := (pop_stk hfl).2
    have hd : bits.dropLast.length = bits.length - 1 := List.length_dropLast
    have hd' : forks.dropLast.length = forks.length - 1 := List.length_dropLast
    unfold machN idN
    simp only
    by_cases c3 : x.code ≤ 3
    · have k1 : 1 ≤ x.code ∧ x.code ≤ 3 := ⟨hc.1, c3⟩
      rw [if_pos k1, if_pos k1, testB_same hm]
      have j := join_stk (l := bits) (code := x.code) (testB m' x.op (argD x.args 0) (argD x.args 1)) (fun e => by omega) (fun e => ⟨ne (by
        rw [if_neg (by omega), if_neg e] at q1; omega), hsl⟩)
      exact ⟨testM_same hm _ _ _, j.1, j.2, rfl, hfl⟩
    have k1 : ¬ (1 ≤ x.code ∧ x.code ≤ 3) := by omega
    rw [if_neg k1, if_neg k1]
    by_cases c4 : x.code = 4 ∨ x.code = 5
    · rw [if_pos c4, if_pos c4, pS, tS]
      rw [if_pos c4] at q1
      have j := join_stk (l := bits.dropLast) (code := x.code - 2) (lastB bits) (fun e => by omega) (fun e => ⟨fun e => by
        have := congrArg List.length e
        rw [hd] at this; simp at this; omega, by omega⟩)
      exact ⟨hm, j.1, j.2, rfl, hfl⟩
    rw [if_neg c4, if_neg c4]
    rw [if_neg c4, if_neg (by omega)] at q1
    have hb := ne (by omega)
    have hlb : 0 < bits.length := List.length_pos_iff.2 hb
    have tu : ∀ y, turnB (stk bits) y = stk (bits.dropLast ++ [y]) := fun y => turn_stk hsl hb y
    have tl : ∀ y, (bits.dropLast ++ [y]).length ≤ 16 := fun y => by simp; omega
    by_cases c6 : x.code = 6
    · rw [if_pos c6, if_pos c6, tS]
      exact ⟨hm, tu _, tl _, rfl, hfl⟩
    rw [if_neg c6, if_neg c6]
    by_cases c7 : x.code = 7
    · rw [if_pos c7, if_pos c7, tS]
      have hlt : forks.length < 8 := by omega
      exact ⟨hm, rfl, hsl, push_stk hlt _, by simp; omega⟩
    rw [if_neg c7, if_neg c7]
    by_cases c8 : x.code = 8
    · rw [if_pos c8, if_pos c8, tF]
      exact ⟨hm, tu _, tl _, rfl, hfl⟩
    rw [if_neg c8, if_neg c8]
    by_cases c9 : x.code = 9
    · rw [if_pos c9, if_pos c9, tF, pF]
      exact ⟨hm, tu _, tl _, rfl, by simp only; omega⟩
    rw [if_neg c9, if_neg c9]
    by_cases c10 : x.code = 10
    · rw [if_pos c10, if_pos c10, tS]
      exact ⟨doM_same hm _ _ _ _ _ _, rfl, hsl, rfl, hfl⟩
    rw [if_neg c10, if_neg c10]
    have c11 : x.code = 11 := by omega
    rw [if_pos c11, if_pos c11, pS]
    exact ⟨hm, rfl, by simp only; omega, rfl, hfl⟩
  · have e1 : ∀ t : MS, machN t x dt = t := fun t => by
      unfold machN
      rw [if_neg (by omega), if_neg (by omega), if_neg (by omega), if_neg (by omega), if_neg (by omega), if_neg (by omega), if_neg (by omega), if_neg (by omega)]
    have e2 : ∀ t : ID, idN t x dt = t := fun t => by
      unfold idN
      rw [if_neg (by omega), if_neg (by omega), if_neg (by omega), if_neg (by omega), if_neg (by omega), if_neg (by omega), if_neg (by omega), if_neg (by omega)]
    rw [e1, e2]
    exact ⟨hm, rfl, hsl, rfl, hfl⟩
end Go.Sx
namespace Go.Sx
open Go

def stL (t : MS) : List Value := cellL t.m ++ [.int .u16 t.s.1, .int .i64 t.s.2, .int .u8 t.f.1, .int .i64 t.f.2]
def stA (t : MS) : Array Value := (stL t).toArray
def stC (t : MS) : List C := (stL t).map .v
theorem len_stL (t : MS) : (stL t).length = 140 := by kernel_rfl
@[simp] theorem len_stC (t : MS) : (stC t).length = 140 := by kernel_rfl
@[simp] theorem size_stA (t : MS) : (stA t).size = 140 := by kernel_rfl
@[simp] theorem cellsC_stA (t : MS) : cellsC (.v (.agg (stA t))) = stC t := by kernel_rfl
@[simp] theorem toList_stA (t : MS) : (stA t).toList = stL t := by kernel_rfl
@[simp] theorem toArray_stL (t : MS) : (stL t).toArray = stA t := by kernel_rfl
@[simp] theorem map_stL (t : MS) : List.map C.v (stL t) = stC t := by kernel_rfl
@[simp] theorem allV_stC (t : MS) : allV (stC t) = some (stL t) := allV_map _
@[simp] theorem take_stC (t : MS) : List.take 140 (stC t) = stC t := by kernel_rfl
@[simp] theorem one_stC (t : MS) : ((stC t).all C.one) = true := by kernel_rfl
@[simp] theorem st_mem (t : MS) : List.take 136 (stC t) = cellC t.m := by kernel_rfl
@[simp] theorem st_stack (t : MS) : List.take 2 (List.drop 136 (stC t)) = [.v (.int .u16 t.s.1), .v (.int .i64 t.s.2)] := by kernel_rfl
@[simp] theorem st_forks (t : MS) : List.take 2 (List.drop 138 (stC t)) = [.v (.int .u8 t.f.1), .v (.int .i64 t.f.2)] := by kernel_rfl
theorem st_put (t : MS) (m : M) : splice (stC t) 0 (cellC m) = stC ⟨m, t.s, t.f⟩ := by kernel_rfl
@[simp] theorem st_all (t u : MS) : splice (stC t) 0 (stC u) = stC u := by kernel_rfl
theorem st_putS (t : MS) (a b : Int) : splice (stC t) 136 [.v (.int .u16 a), .v (.int .i64 b)] = stC ⟨t.m, (a, b), t.f⟩ := by kernel_rfl
theorem st_putF (t : MS) (a b : Int) : splice (stC t) 138 [.v (.int .u8 a), .v (.int .i64 b)] = stC ⟨t.m, t.s, (a, b)⟩ := by kernel_rfl
@[simp] theorem st_get136 (t : MS) : (stC t)[136]? = some (.v (.int .u16 t.s.1)) := by kernel_rfl
@[simp] theorem st_get137 (t : MS) : (stC t)[137]? = some (.v (.int .i64 t.s.2)) := by kernel_rfl
@[simp] theorem st_get138 (t : MS) : (stC t)[138]? = some (.v (.int .u8 t.f.1)) := by kernel_rfl
@[simp] theorem st_get139 (t : MS) : (stC t)[139]? = some (.v (.int .i64 t.f.2)) := by kernel_rfl
@[simp] theorem st_gete136 (t : MS) (h : 136 < (stC t).length) : (stC t)[136]'h = .v (.int .u16 t.s.1) := by kernel_rfl
@[simp] theorem st_gete137 (t : MS) (h : 137 < (stC t).length) : (stC t)[137]'h = .v (.int .i64 t.s.2) := by kernel_rfl
@[simp] theorem st_gete138 (t : MS) (h : 138 < (stC t).length) : (stC t)[138]'h = .v (.int .u8 t.f.1) := by kernel_rfl
@[simp] theorem st_gete139 (t : MS) (h : 139 < (stC t).length) : (stC t)[139]'h = .v (.int .i64 t.f.2) := by kernel_rfl
theorem spl2 (a b c d : C) : splice [a, b] 0 [c, d] = [c, d] := rfl
@[simp] theorem stA_inj {t u : MS} : stA t = stA u ↔ t = u := by
  constructor
  · intro h
    have h1 : stL t = stL u := by
      have := congrArg Array.toList h
      simpa using this
    unfold stL at h1
    obtain ⟨e1, e2⟩ := List.append_inj h1 (by rw [len_cellL, len_cellL])
    have e3 : cells t.m = cells u.m := by unfold cells; rw [e1]
    have e4 := cells_inj.1 e3
    simp only [List.cons.injEq, Value.int.injEq, true_and, and_true] at e2
    obtain ⟨a, b, c, d⟩ := e2
    obtain ⟨m, ⟨s1, s2⟩, ⟨f1, f2⟩⟩ := t
    obtain ⟨m', ⟨s1', s2'⟩, ⟨f1', f2'⟩⟩ := u
    simp only at e4 a b c d
    subst e4 a b c d
    rfl
  · rintro rfl; rfl
structure IsSt (v : Value) (d : MS) : Prop where
  ex : ∃ t, v = .agg (stA t) ∧ MSt t d ∧ MSOk t
theorem machN_low {t : MS} {x : Ins} {dt : Int} (h : 1 ≤ x.code ∧ x.code ≤ 3) : machN t x dt = ⟨testM t.m x.op (argD x.args 0) (argD x.args 1), joinB x.code t.s (testB t.m x.op (argD x.args 0) (argD x.args 1)), t.f⟩ := by unfold machN; rw [if_pos h]
theorem machN_45 {t : MS} {x : Ins} {dt : Int} (h : x.code = 4 ∨ x.code = 5) : machN t x dt = ⟨t.m, joinB (x.code - 2) (popB t.s) (topB t.s), t.f⟩ := by unfold machN; rw [if_neg (by omega), if_pos h]
theorem machN_6 {t : MS} {x : Ins} {dt : Int} (h : x.code = 6) : machN t x dt = ⟨t.m, turnB t.s (!topB t.s), t.f⟩ := by unfold machN; rw [if_neg (by omega), if_neg (by omega), if_pos h]
theorem machN_7 {t : MS} {x : Ins} {dt : Int} (h : x.code = 7) : machN t x dt = ⟨t.m, t.s, pushF t.f (topB t.s)⟩ := by unfold machN; rw [if_neg (by omega), if_neg (by omega), if_neg (by omega), if_pos h]
theorem machN_8 {t : MS} {x : Ins} {dt : Int} (h : x.code = 8) : machN t x dt = ⟨t.m, turnB t.s (topF t.f), t.f⟩ := by unfold machN; rw [if_neg (by omega), if_neg (by omega), if_neg (by omega), if_neg (by omega), if_pos h]
theorem machN_9 {t : MS} {x : Ins} {dt : Int} (h : x.code = 9) : machN t x dt = ⟨t.m, turnB t.s (topF t.f), popF t.f⟩ := by unfold machN; rw [if_neg (by omega), if_neg (by omega), if_neg (by omega), if_neg (by omega), if_neg (by omega), if_pos h]
theorem machN_10 {t : MS} {x : Ins} {dt : Int} (h : x.code = 10) : machN t x dt = ⟨doM t.m x.op (argD x.args 0) (argD x.args 1) (argD x.args 2) (topB t.s) dt, t.s, t.f⟩ := by unfold machN; rw [if_neg (by omega), if_neg (by omega), if_neg (by omega), if_neg (by omega), if_neg (by omega), if_neg (by omega), if_pos h]
theorem machN_11 {t : MS} {x : Ins} {dt : Int} (h : x.code = 11) : machN t x dt = ⟨t.m, popB t.s, t.f⟩ := by unfold machN; rw [if_neg (by omega), if_neg (by omega), if_neg (by omega), if_neg (by omega), if_neg (by omega), if_neg (by omega), if_neg (by omega), if_pos h]
theorem machN_no {t : MS} {x : Ins} {dt : Int} (h : x.code < 1 ∨ 11 < x.code) : machN t x dt = t := by unfold machN; rw [if_neg (by omega), if_neg (by omega), if_neg (by omega), if_neg (by omega), if_neg (by omega), if_neg (by omega), if_neg (by omega), if_neg (by omega)]
end Go.Sx
namespace Go.Sx
open Go

end Go.Sx
