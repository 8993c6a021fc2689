/-
  What the law of a machine's step says, plainly. Plain Lean: nothing of a program stands here. Conditions: none.
-/
import Derived.Test.YtfhnbdlkiemaeaaGreatMcpk
import Derived.Test.YtfhnbdlkiemaeaaGreatSvpk
import Derived.Test.YtfhnbdlkiemaeaaGreatInpk
set_option linter.unusedVariables false
set_option linter.unusedSimpArgs false
set_option maxRecDepth 100000
namespace Go.Sx
open Go

def runN (t : MS) (dt : Int) (xs : List Ins) : MS := xs.foldl (fun t x => machN t x dt) t
theorem runN_snoc (t : MS) (dt : Int) (xs : List Ins) (x : Ins) : runN t dt (xs ++ [x]) = machN (runN t dt xs) x dt := by unfold runN; rw [List.foldl_append]; rfl
theorem runN_take {t : MS} {dt : Int} {xs : List Ins} {i : Nat} {x : Ins} (h : xs[i]? = some x) : runN t dt (xs.take (i + 1)) = machN (runN t dt (xs.take i)) x dt := by
  rw [List.take_add_one, h]; exact runN_snoc _ _ _ _
theorem runN_same {a b : MS} (h : MSt a b) (dt : Int) (xs : List Ins) : MSt (runN a dt xs) (runN b dt xs) := by
  induction xs generalizing a b with
  | nil => exact h
  | cons x xs ih => exact ih (machN_same h x dt)
def bootN (m : M) : MS := ⟨m, (0, 0), (0, 0)⟩
structure Smp where
  x : Int
  dt : Int
  f : Arr 4 Nat
def startN (m : M) (s : Smp) : MS := bootN (actStart m s.x s.dt s.f)
def scanN (xs : List Ins) (m : M) (s : Smp) : M := if xs.length ≤ 1000 then { (runN (startN m s) s.dt xs).m with Ran := true } else m
theorem scanN_same {a b : M} (h : MSame a b) (xs : List Ins) (s : Smp) : MSame (scanN xs a s) (scanN xs b s) := by
  unfold scanN
  split
  · exact ran_same (runN_same (a := startN a s) (b := startN b s) ⟨actStart_same h _ _ _, rfl, rfl⟩ _ _).m
  · exact h
def scansN (xs : List Ins) (m : M) (ss : List Smp) : M := ss.foldl (scanN xs) m
theorem scansN_same {a b : M} (h : MSame a b) (xs : List Ins) (ss : List Smp) : MSame (scansN xs a ss) (scansN xs b ss) := by
  induction ss generalizing a b with
  | nil => exact h
  | cons s ss ih => exact ih (scanN_same h xs s)
def machRunN (xs : List Ins) (m : M) (ss : List Smp) : M := if xs.length ≤ 1000 ∧ ss.length ≤ 100 then scansN xs m ss else m
theorem scansN_app (xs : List Ins) (m : M) (s t : List Smp) : scansN xs m (s ++ t) = scansN xs (scansN xs m s) t := by unfold scansN; rw [List.foldl_append]

structure AtH (t : MS) (b f : Int) : Prop where
  so : SOk 16 t.s
  fo : SOk 8 t.f
  hb : t.s.2 = b
  hf : t.f.2 = f
theorem atH_boot (m : M) : AtH (bootN m) 0 0 := ⟨⟨by simp [bootN], by simp [bootN, okS]⟩, ⟨by simp [bootN], by simp [bootN, okS]⟩, rfl, rfl⟩
theorem gS_self {s : Int × Int} (h : SOk 16 s) : gS s = s := okS_good h.ok
theorem gF_self {s : Int × Int} (h : SOk 8 s) : gF s = s := okS_good h.ok
theorem pushB_h {s : Int × Int} (h : SOk 16 s) (x : Bool) (hl : s.2 < 16) : (pushB s x).2 = s.2 + 1 := by unfold pushB; rw [gS_self h]; unfold pushS; simp only; omega
theorem popB_h {s : Int × Int} (h : SOk 16 s) (hl : s.2 ≠ 0) : (popB s).2 = s.2 - 1 := by unfold popB; rw [gS_self h]; unfold popS; rw [if_neg hl]
theorem turnB_h {s : Int × Int} (h : SOk 16 s) (x : Bool) : (turnB s x).2 = s.2 := by unfold turnB; rw [gS_self h]; unfold turnS; split <;> simp_all
theorem pushF_h {s : Int × Int} (h : SOk 8 s) (x : Bool) (hl : s.2 < 8) : (pushF s x).2 = s.2 + 1 := by unfold pushF; rw [gF_self h]; unfold pushS; simp only; omega
theorem popF_h {s : Int × Int} (h : SOk 8 s) (hl : s.2 ≠ 0) : (popF s).2 = s.2 - 1 := by unfold popF; rw [gF_self h]; unfold popS; rw [if_neg hl]
theorem atH_step {t : MS} {b f : Int} {x : Ins} {base coil : Bool} (dt : Int) (h : AtH t b f) (hw : wrongN x b f base coil = 0) : AtH (machN t x dt) (b + dB x.code) (f + dF x.code) := by
  obtain ⟨h1, h2, rfl, rfl⟩ := h
  have hi : insOk x = true := by
    cases hi : insOk x
    · unfold wrongN at hw; rw [hi] at hw; simp at hw
    · rfl
  have hc := insOk_code hi
  unfold wrongN at hw
  rw [hi] at hw
  simp only [Bool.true_eq_false, if_false] at hw
  have b1 := h1.bd
  have b2 := h2.bd
  split at hw
  · omega
  split at hw
  · omega
  split at hw
  · omega
  split at hw
  · omega
  split at hw
  · omega
  rename_i q1 q2 q3 _ q5
  clear hw
  unfold needsN at q1
  unfold machN dB dF
  by_cases c1 : x.code = 1
  · have := pushB_h h1 (testB t.m x.op (argD x.args 0) (argD x.args 1)) (by omega)
    simp only [c1] at *
    simp [joinB]
    exact ⟨pushB_ok h1.b _, h2, this, by simp⟩
  by_cases c2 : x.code = 2 ∨ x.code = 3
  · have k1 : 1 ≤ x.code ∧ x.code ≤ 3 := by omega
    have k2 : ¬ (x.code = 4 ∨ x.code = 5 ∨ x.code = 11) ∧ ¬ x.code = 7 ∧ ¬ x.code = 9 := by omega
    rw [if_pos k1, if_neg c1, if_neg k2.1, if_neg k2.2.1, if_neg k2.2.2]
    refine ⟨joinB_ok h1.b _ _, h2, ?_, by simp⟩
    simp only [joinB, if_neg c1]
    split <;> rw [turnB_h h1] <;> omega
  have k1 : ¬ (1 ≤ x.code ∧ x.code ≤ 3) := by omega
  rw [if_neg k1, if_neg c1]
  by_cases c4 : x.code = 4 ∨ x.code = 5
  · have k2 : (x.code = 4 ∨ x.code = 5 ∨ x.code = 11) ∧ ¬ x.code = 7 ∧ ¬ x.code = 9 ∧ ¬ x.code - 2 = 1 := by omega
    rw [if_pos c4, if_pos k2.1, if_neg k2.2.1, if_neg k2.2.2.1]
    rw [if_pos c4] at q1
    have hp := popB_h h1 (by omega)
    have ho := popB_ok h1.b
    refine ⟨joinB_ok ho.b _ _, h2, ?_, by simp⟩
    simp only [joinB, if_neg k2.2.2.2]
    split <;> rw [turnB_h ho, hp] <;> omega
  rw [if_neg c4]
  rw [if_neg c4, if_neg c1] at q1
  by_cases c6 : x.code = 6
  · have k2 : ¬ (x.code = 4 ∨ x.code = 5 ∨ x.code = 11) ∧ ¬ x.code = 7 ∧ ¬ x.code = 9 := by omega
    rw [if_pos c6, if_neg k2.1, if_neg k2.2.1, if_neg k2.2.2]
    exact ⟨turnB_ok h1.b _, h2, by simp only; rw [turnB_h h1]; omega, by simp⟩
  rw [if_neg c6]
  by_cases c7 : x.code = 7
  · have k2 : ¬ (x.code = 4 ∨ x.code = 5 ∨ x.code = 11) := by omega
    rw [if_pos c7, if_neg k2, if_pos c7]
    exact ⟨h1, pushF_ok h2.b _, by simp, by simp only; rw [pushF_h h2 _ (by omega)]⟩
  rw [if_neg c7, if_neg c7]
  by_cases c8 : x.code = 8
  · have k2 : ¬ (x.code = 4 ∨ x.code = 5 ∨ x.code = 11) ∧ ¬ x.code = 9 := by omega
    rw [if_pos c8, if_neg k2.1, if_neg k2.2]
    exact ⟨turnB_ok h1.b _, h2, by simp only; rw [turnB_h h1]; omega, by simp⟩
  rw [if_neg c8]
  by_cases c9 : x.code = 9
  · have k2 : ¬ (x.code = 4 ∨ x.code = 5 ∨ x.code = 11) := by omega
    rw [if_pos c9, if_neg k2, if_pos c9]
    exact ⟨turnB_ok h1.b _, popF_ok h2.b, by simp only; rw [turnB_h h1]; omega, by simp only; rw [popF_h h2 (by omega)]; omega⟩
  rw [if_neg c9, if_neg c9]
  by_cases c10 : x.code = 10
  · have k2 : ¬ (x.code = 4 ∨ x.code = 5 ∨ x.code = 11) := by omega
    rw [if_pos c10, if_neg k2]
    exact ⟨h1, h2, by simp, by simp⟩
  rw [if_neg c10]
  have c11 : x.code = 11 := by omega
  rw [if_pos c11, if_pos (Or.inr (Or.inr c11))]
  exact ⟨popB_ok h1.b, h2, by simp only; rw [popB_h h1 (by omega)]; omega, by simp⟩
theorem atH_run {xs : List Ins} {m : M} {dt : Int} (hk : ∀ k y, xs[k]? = some y → wrAt xs k y = 0) : ∀ i, i ≤ xs.length → AtH (runN (bootN m) dt (xs.take i)) (hB xs i) (hF xs i)
  | 0, _ => by rw [hB_zero, hF_zero, List.take_zero]; exact atH_boot m
  | i + 1, h => by
    have hx : xs[i]? = some (xs[i]'(by omega)) := by simp [show i < xs.length by omega]
    rw [runN_take hx, hB_succ hx, hF_succ hx]
    exact atH_step dt (atH_run hk i (by omega)) (hk i _ hx)
theorem zero_h {m : Nat} {s : Int × Int} (h : SOk m s) (h0 : s.2 = 0) : s = (0, 0) := by
  obtain ⟨b, n⟩ := s
  simp only at h0
  subst h0
  have := h.bd
  simp at this
  have : b = 0 := by omega
  rw [this]

end Go.Sx
namespace Go.Sx
open Go

end Go.Sx
namespace Go.Sx
open Go

def stL (t : MS) : List Value := cellL t.m ++ [.int .u16 t.s.1, .int .i64 t.s.2, .int .u8 t.f.1, .int .i64 t.f.2]
def stA (t : MS) : Array Value := (stL t).toArray
def stC (t : MS) : List C := (stL t).map .v
theorem len_stL (t : MS) : (stL t).length = 140 := by kernel_rfl
@[simp] theorem len_stC (t : MS) : (stC t).length = 140 := by kernel_rfl
@[simp] theorem size_stA (t : MS) : (stA t).size = 140 := by kernel_rfl
@[simp] theorem cellsC_stA (t : MS) : cellsC (.v (.agg (stA t))) = stC t := by kernel_rfl
@[simp] theorem toList_stA (t : MS) : (stA t).toList = stL t := by kernel_rfl
@[simp] theorem toArray_stL (t : MS) : (stL t).toArray = stA t := by kernel_rfl
@[simp] theorem map_stL (t : MS) : List.map C.v (stL t) = stC t := by kernel_rfl
@[simp] theorem allV_stC (t : MS) : allV (stC t) = some (stL t) := allV_map _
@[simp] theorem take_stC (t : MS) : List.take 140 (stC t) = stC t := by kernel_rfl
@[simp] theorem one_stC (t : MS) : ((stC t).all C.one) = true := by kernel_rfl
@[simp] theorem st_mem (t : MS) : List.take 136 (stC t) = cellC t.m := by kernel_rfl
@[simp] theorem st_stack (t : MS) : List.take 2 (List.drop 136 (stC t)) = [.v (.int .u16 t.s.1), .v (.int .i64 t.s.2)] := by kernel_rfl
@[simp] theorem st_forks (t : MS) : List.take 2 (List.drop 138 (stC t)) = [.v (.int .u8 t.f.1), .v (.int .i64 t.f.2)] := by kernel_rfl
theorem st_put (t : MS) (m : M) : splice (stC t) 0 (cellC m) = stC ⟨m, t.s, t.f⟩ := by kernel_rfl
@[simp] theorem st_all (t u : MS) : splice (stC t) 0 (stC u) = stC u := by kernel_rfl
theorem st_putS (t : MS) (a b : Int) : splice (stC t) 136 [.v (.int .u16 a), .v (.int .i64 b)] = stC ⟨t.m, (a, b), t.f⟩ := by kernel_rfl
theorem st_putF (t : MS) (a b : Int) : splice (stC t) 138 [.v (.int .u8 a), .v (.int .i64 b)] = stC ⟨t.m, t.s, (a, b)⟩ := by kernel_rfl
@[simp] theorem st_get136 (t : MS) : (stC t)[136]? = some (.v (.int .u16 t.s.1)) := by kernel_rfl
@[simp] theorem st_get137 (t : MS) : (stC t)[137]? = some (.v (.int .i64 t.s.2)) := by kernel_rfl
@[simp] theorem st_get138 (t : MS) : (stC t)[138]? = some (.v (.int .u8 t.f.1)) := by kernel_rfl
@[simp] theorem st_get139 (t : MS) : (stC t)[139]? = some (.v (.int .i64 t.f.2)) := by kernel_rfl
@[simp] theorem st_gete136 (t : MS) (h : 136 < (stC t).length) : (stC t)[136]'h = .v (.int .u16 t.s.1) := by kernel_rfl
@[simp] theorem st_gete137 (t : MS) (h : 137 < (stC t).length) : (stC t)[137]'h = .v (.int .i64 t.s.2) := by kernel_rfl
@[simp] theorem st_gete138 (t : MS) (h : 138 < (stC t).length) : (stC t)[138]'h = .v (.int .u8 t.f.1) := by kernel_rfl
@[simp] theorem st_gete139 (t : MS) (h : 139 < (stC t).length) : (stC t)[139]'h = .v (.int .i64 t.f.2) := by kernel_rfl
theorem spl2 (a b c d : C) : splice [a, b] 0 [c, d] = [c, d] := rfl
@[simp] theorem stA_inj {t u : MS} : stA t = stA u ↔ t = u := by
  constructor
  · intro h
    have h1 : stL t = stL u := by
      have := congrArg Array.toList h
      simpa using this
    unfold stL at h1
    obtain ⟨e1, e2⟩ := List.append_inj h1 (by rw [len_cellL, len_cellL])
    have e3 : cells t.m = cells u.m := by unfold cells; rw [e1]
    have e4 := cells_inj.1 e3
    simp only [List.cons.injEq, Value.int.injEq, true_and, and_true] at e2
    obtain ⟨a, b, c, d⟩ := e2
    obtain ⟨m, ⟨s1, s2⟩, ⟨f1, f2⟩⟩ := t
    obtain ⟨m', ⟨s1', s2'⟩, ⟨f1', f2'⟩⟩ := u
    simp only at e4 a b c d
    subst e4 a b c d
    rfl
  · rintro rfl; rfl
structure IsSt (v : Value) (d : MS) : Prop where
  ex : ∃ t, v = .agg (stA t) ∧ MSt t d ∧ MSOk t
theorem machN_low {t : MS} {x : Ins} {dt : Int} (h : 1 ≤ x.code ∧ x.code ≤ 3) : machN t x dt = ⟨testM t.m x.op (argD x.args 0) (argD x.args 1), joinB x.code t.s (testB t.m x.op (argD x.args 0) (argD x.args 1)), t.f⟩ := by unfold machN; rw [if_pos h]
theorem machN_45 {t : MS} {x : Ins} {dt : Int} (h : x.code = 4 ∨ x.code = 5) : machN t x dt = ⟨t.m, joinB (x.code - 2) (popB t.s) (topB t.s), t.f⟩ := by unfold machN; rw [if_neg (by omega), if_pos h]
theorem machN_6 {t : MS} {x : Ins} {dt : Int} (h : x.code = 6) : machN t x dt = ⟨t.m, turnB t.s (!topB t.s), t.f⟩ := by unfold machN; rw [if_neg (by omega), if_neg (by omega), if_pos h]
theorem machN_7 {t : MS} {x : Ins} {dt : Int} (h : x.code = 7) : machN t x dt = ⟨t.m, t.s, pushF t.f (topB t.s)⟩ := by unfold machN; rw [if_neg (by omega), if_neg (by omega), if_neg (by omega), if_pos h]
theorem machN_8 {t : MS} {x : Ins} {dt : Int} (h : x.code = 8) : machN t x dt = ⟨t.m, turnB t.s (topF t.f), t.f⟩ := by unfold machN; rw [if_neg (by omega), if_neg (by omega), if_neg (by omega), if_neg (by omega), if_pos h]
theorem machN_9 {t : MS} {x : Ins} {dt : Int} (h : x.code = 9) : machN t x dt = ⟨t.m, turnB t.s (topF t.f), popF t.f⟩ := by unfold machN; rw [if_neg (by omega), if_neg (by omega), if_neg (by omega), if_neg (by omega), if_neg (by omega), if_pos h]
theorem machN_10 {t : MS} {x : Ins} {dt : Int} (h : x.code = 10) : machN t x dt = ⟨doM t.m x.op (argD x.args 0) (argD x.args 1) (argD x.args 2) (topB t.s) dt, t.s, t.f⟩ := by unfold machN; rw [if_neg (by omega), if_neg (by omega), if_neg (by omega), if_neg (by omega), if_neg (by omega), if_neg (by omega), if_pos h]
theorem machN_11 {t : MS} {x : Ins} {dt : Int} (h : x.code = 11) : machN t x dt = ⟨t.m, popB t.s, t.f⟩ := by unfold machN; rw [if_neg (by omega), if_neg (by omega), if_neg (by omega), if_neg (by omega), if_neg (by omega), if_neg (by omega), if_neg (by omega), if_pos h]
theorem machN_no {t : MS} {x : Ins} {dt : Int} (h : x.code < 1 ∨ 11 < x.code) : machN t x dt = t := by unfold machN; rw [if_neg (by omega), if_neg (by omega), if_neg (by omega), if_neg (by omega), if_neg (by omega), if_neg (by omega), if_neg (by omega), if_neg (by omega)]
end Go.Sx
namespace Go.Sx
open Go

theorem top_turn {m : Nat} {s : Int × Int} (h : SOk m s) (x : Bool) : topS (turnS s x) = if s.2 = 0 then false else x := by
  have hx := b2i_bd x
  unfold turnS topS
  split
  · simp
  · rename_i h0
    have e : (s.1 / 2 * 2 + b2i x) % 2 = b2i x := by omega
    cases x <;> simp [b2i, h0] <;> omega
theorem top_push {m : Nat} (hm : 1 ≤ m) {s : Int × Int} (h : SOk m s) (x : Bool) : topS (pushS m s x) = x := by
  obtain ⟨h1, h2, h3, h4, h5⟩ := h.bd
  obtain ⟨k, rfl⟩ : ∃ k, m = k + 1 := ⟨m - 1, by omega⟩
  have e : (2 * s.1 + b2i x) % 2 ^ (k + 1) % 2 = b2i x := by
    rw [pow_succ2, Int.emod_emod_of_dvd _ (Int.dvd_mul_right 2 _)]
    have hx := b2i_bd x
    omega
  unfold pushS topS
  simp only
  rw [e]
  have : min (s.2 + 1) ((k + 1 : Nat) : Int) ≠ 0 := by omega
  rw [if_neg this]
  cases x <;> rfl
theorem pop_push {m : Nat} {s : Int × Int} (h : SOk m s) (hl : s.2 < m) (x : Bool) : popS (pushS m s x) = s := by
  obtain ⟨h1, h2, h3, h4, h5⟩ := h.bd
  have hx := b2i_bd x
  have hp : (2 : Int) ^ (s.2.toNat + 1) ≤ 2 ^ m := pow_mono2 (by omega)
  rw [pow_succ2] at hp
  unfold pushS popS
  simp only
  rw [Int.emod_eq_of_lt (by omega) (by omega), Int.min_eq_left (by omega), if_neg (by omega)]
  obtain ⟨a, b⟩ := s
  simp only at *
  have : (2 * a + b2i x) / 2 = a := by omega
  rw [this]
  congr 1
  omega
theorem turn_h {s : Int × Int} (x : Bool) : (turnS s x).2 = s.2 := by unfold turnS; split <;> simp_all
theorem top_zero {s : Int × Int} (h : s.2 = 0) : topS s = false := by unfold topS; simp [h]
theorem kept_back {t : MS} (hs : 0 ≤ t.s.1) (hf : 0 ≤ t.f.1) :
    let k : Int × Int := pushF t.f (topB t.s)
    let u : Int × Int := turnB t.s (!topB t.s)
    let r : Int × Int := turnB u (topF k)
    let b : Int × Int := turnB r (topF k)
    topB r = topB t.s ∧ topB b = topB t.s ∧ (okS 8 t.f.1 t.f.2 = true → t.f.2 ≠ 8 → popF k = t.f) := by
  intro k u r b
  have hS := gS_ok hs
  have hF := gF_ok hf
  have hu : SOk 16 u := turnB_ok hs _
  have hk : SOk 8 k := pushF_ok hf _
  have hr : SOk 16 r := turnB_ok hu.b _
  have hb : SOk 16 b := turnB_ok hr.b _
  have ek : topF k = topB t.s := by
    show topS (gF k) = _
    rw [gF_self hk]
    exact top_push (by decide) hF _
  have eu : u.2 = (gS t.s).2 := turn_h _
  have er : r.2 = (gS t.s).2 := by
    show (turnS (gS u) _).2 = _
    rw [turn_h, gS_self hu, eu]
  have key : ∀ {s' : Int × Int}, SOk 16 s' → s'.2 = (gS t.s).2 → topB (turnB s' (topF k)) = topB t.s := by
    intro s' h' e
    show topS (gS (turnS (gS s') (topF k))) = topS (gS t.s)
    rw [gS_self h', gS_self (h'.turn _), top_turn h', ek]
    split
    · rename_i h0
      rw [top_zero (by rw [← e]; exact h0)]
    · rfl
  refine ⟨key hu eu, key hr er, fun ho hn => ?_⟩
  show popS (gF k) = _
  rw [gF_self hk]
  have hg : gF t.f = t.f := okS_good ho
  have hok : SOk 8 t.f := ⟨hf, ho⟩
  have := hok.bd
  show popS (pushS 8 (gF t.f) _) = _
  rw [hg]
  exact pop_push hok (by omega) _
theorem mach_mem {t : MS} {x : Ins} {dt : Int} (h : x.code < 1 ∨ 3 < x.code) (h' : x.code ≠ 10) : (machN t x dt).m = t.m := by
  unfold machN
  rw [if_neg (by omega)]
  (repeat' split) <;> first | rfl | (exfalso; omega)
end Go.Sx
