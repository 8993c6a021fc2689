/-
  The machine's steps, plainly. Plain Lean: nothing of a program stands here. Conditions: none.
-/
import Derived.Test.YtmiicjgbhkjocaaGreatMp
import Derived.Test.YtmiicjgbhkjocaaGreatBp
import Derived.Test.YtmiicjgbhkjocaaGreatIn
set_option linter.unusedVariables false
set_option linter.unusedSimpArgs false
set_option maxRecDepth 100000
namespace Go.Sx
open Go

theorem MSame.eqR {a b : M} (h : MSame a b) : b = { a with R := b.R } := by
  obtain ⟨h1, h2, h3, h4, h5, h6, h7, h8, _, h10, h11, h12⟩ := h
  cases a; cases b
  simp only at h1 h2 h3 h4 h5 h6 h7 h8 h10 h11 h12
  subst h1 h2 h3 h4 h5 h6 h7 h8 h10 h11 h12
  rfl
theorem same_R {m : M} {R' : Arr 16 Nat} (h : ∀ k, k < 16 → sameF (m.R k) (R' k)) : MSame m { m with R := R' } := ⟨rfl, rfl, rfl, rfl, rfl, rfl, rfl, rfl, h, rfl, rfl, rfl⟩
theorem memPut_R (m : M) (R' : Arr 16 Nat) (k n : Int) (b : Bool) : memPut { m with R := R' } k n b = { memPut m k n b with R := R' } ∧ (memPut m k n b).R = m.R := by
  unfold memPut
  by_cases h2 : k = 2
  · simp [h2]
  by_cases h3 : k = 3
  · simp [h3]
  by_cases h4 : k = 4
  · simp [h4]
  by_cases h5 : k = 5
  · simp [h5]
  simp [h2, h3, h4, h5]
theorem putBM_same {a b : M} (h : MSame a b) (x : Dev) (v : Bool) : MSame (putBM a x v) (putBM b x v) := by
  have hR := h.R
  rw [h.eqR]
  unfold putBM
  split
  · exact same_R hR
  · obtain ⟨e1, e2⟩ := memPut_R a b.R x.k x.n v
    rw [e1]
    exact same_R fun k hk => by rw [e2]; exact hR k hk
theorem memPut_same {a b : M} (h : MSame a b) (k n : Int) (v : Bool) : MSame (memPut a k n v) (memPut b k n v) := by
  have hR := h.R
  rw [h.eqR]
  obtain ⟨e1, e2⟩ := memPut_R a b.R k n v
  rw [e1]
  exact same_R fun k hk => by rw [e2]; exact hR k hk
theorem keepM_same {a b : M} (h : MSame a b) (x : Dev) (v : Bool) : MSame (keepM a x v) (keepM b x v) := by
  unfold keepM
  split
  · exact memPut_same h _ _ _
  · exact h
theorem wasB_same {a b : M} (h : MSame a b) (x : Dev) : wasB a x = wasB b x := by unfold wasB; rw [memBit_same h]
theorem memRealF_same {a b : M} (h : MSame a b) (k n p : Int) : sameF (memRealF a k n p) (memRealF b k n p) := memReal_same h k n p fun _ _ _ => sameF_refl _
theorem testB_same {a b : M} (h : MSame a b) (op : Int) (x y : Dev) : testB a op x y = testB b op x y := by
  unfold testB numB
  rw [memBit_same h, wasB_same h, memWhole_same h, memWhole_same h y.k, realCmp_sameF (memRealF_same h x.k x.n x.p) (memRealF_same h y.k y.n y.p)]
theorem testM_same {a b : M} (h : MSame a b) (op : Int) (x y : Dev) : MSame (testM a op x y) (testM b op x y) := by
  unfold testM
  rw [memBit_same h]
  split
  · exact keepM_same h _ _
  · exact h
theorem putReal_same2 {a b : M} (h : MSame a b) {k n : Int} {x y : Nat} (hs : sameF x y) : MSame (memPutReal a k n x) (memPutReal b k n y) := by
  unfold memPutReal
  split
  · refine ⟨h.X, h.Y, h.Mw, h.S, h.E, h.T, h.C, h.D, fun j hj => ?_, h.Time, h.Ran, h.Fault⟩
    simp only [upd]
    split
    · exact hs
    · exact h.R j hj
  · exact h
theorem putWhole_same2 {a b : M} (h : MSame a b) (k n x : Int) : MSame (memPutWhole a k n x) (memPutWhole b k n x) := by
  unfold memPutWhole
  split
  · exact ⟨h.X, h.Y, h.Mw, h.S, h.E, h.T, h.C, by rw [h.D], h.R, h.Time, h.Ran, h.Fault⟩
  · exact h
theorem fault_same {a b : M} (h : MSame a b) (v : Bool) : MSame { a with Fault := v } { b with Fault := v } := ⟨h.X, h.Y, h.Mw, h.S, h.E, h.T, h.C, h.D, h.R, h.Time, h.Ran, rfl⟩
theorem resetM_same {a b : M} (h : MSame a b) (k n : Int) : MSame (resetM a k n) (resetM b k n) := by
  unfold resetM
  split
  · exact ⟨h.X, h.Y, h.Mw, h.S, h.E, by rw [h.T], h.C, h.D, h.R, h.Time, h.Ran, h.Fault⟩
  · split
    · exact ⟨h.X, h.Y, h.Mw, h.S, h.E, h.T, by rw [h.C], h.D, h.R, h.Time, h.Ran, h.Fault⟩
    · split
      · exact h
      · exact memPut_same h _ _ _
theorem stepM_same {a b : M} (h : MSame a b) (n : Int) : MSame (stepM a n) (stepM b n) := by
  unfold stepM
  have h' : MSame { a with S := clr a.S (place 4 n / 8) } { b with S := clr b.S (place 4 n / 8) } := ⟨h.X, h.Y, h.Mw, by simp only; rw [h.S], h.E, h.T, h.C, h.D, h.R, h.Time, h.Ran, h.Fault⟩
  exact memPut_same h' 4 n true
theorem realWhole_same2 {a b : Nat} (h : sameF a b) : realWhole a = realWhole b := by
  rcases h with ⟨rfl, _⟩ | ⟨ha, hb⟩
  · rfl
  · obtain ⟨s, t, e⟩ := read_nan ha
    obtain ⟨s', t', e'⟩ := read_nan hb
    unfold realWhole
    rw [e, e']
theorem whenM_same {a b : M} (h : MSame a b) (op : Int) (x y z : Dev) : MSame (whenM a op x y z) (whenM b op x y z) := by
  have r1 := memRealF_same h y.k y.n y.p
  have r2 := memRealF_same h z.k z.n z.p
  have w1 := memWhole_same h y.k y.n
  have w2 := memWhole_same h z.k z.n
  unfold whenM
  split
  · exact putBM_same h _ _
  split
  · exact resetM_same h _ _
  split
  · split
    · exact stepM_same h _
    · exact h
  split
  · split
    · exact putReal_same2 h r1
    · rw [w1]; exact putWhole_same2 h _ _ _
  split
  · unfold calcM
    split
    · rw [realCalcF_same r1 r2]; exact putReal_same2 h (sameF_refl _)
    · rw [w1, w2]
      split
      · exact putWhole_same2 h _ _ _
      · exact fault_same h _
  split
  · rw [w1]; exact putReal_same2 h (sameF_refl _)
  split
  · rw [realWhole_same2 r1]
    split
    · exact putWhole_same2 h _ _ _
    · exact fault_same h _
  · exact h
theorem doM_same {a b : M} (h : MSame a b) (op : Int) (x y z : Dev) (v : Bool) (dt : Int) : MSame (doM a op x y z v dt) (doM b op x y z v dt) := by
  have pr : presetOf a y = presetOf b y := by unfold presetOf; rw [memWhole_same h]
  unfold doM
  split
  · exact putBM_same h _ _
  split
  · rw [wasB_same h]; exact keepM_same (putBM_same h _ _) _ _
  split
  · rw [pr]
    unfold timerM
    split
    · exact ⟨h.X, h.Y, h.Mw, h.S, h.E, by rw [h.T], h.C, h.D, h.R, h.Time, h.Ran, h.Fault⟩
    · exact h
  split
  · rw [pr]
    unfold counterM
    split
    · exact ⟨h.X, h.Y, h.Mw, h.S, h.E, h.T, by rw [h.C], h.D, h.R, h.Time, h.Ran, h.Fault⟩
    · exact h
  split
  · exact whenM_same h _ _ _ _
  · exact h
theorem actStart_same {a b : M} (h : MSame a b) (x t : Int) (f : Arr 4 Nat) : MSame (actStart a x t f) (actStart b x t f) := by
  unfold actStart
  refine ⟨rfl, h.Y, h.Mw, h.S, h.E, h.T, h.C, h.D, fun k hk => ?_, by simp only; rw [h.Time], h.Ran, rfl⟩
  have hk := h.R k hk
  simp only [upd]
  (repeat' split) <;> first | exact sameF_refl _ | exact hk
theorem ran_same {a b : M} (h : MSame a b) : MSame { a with Ran := true } { b with Ran := true } := ⟨h.X, h.Y, h.Mw, h.S, h.E, h.T, h.C, h.D, h.R, h.Time, rfl, h.Fault⟩

/-- The machine: its memory, its stacks as numbers and heights. -/
structure MS where
  m : M
  s : Int × Int
  f : Int × Int
def gS (s : Int × Int) : Int × Int := goodS 16 s.1 s.2
def gF (s : Int × Int) : Int × Int := goodS 8 s.1 s.2
def pushB (s : Int × Int) (x : Bool) : Int × Int := pushS 16 (gS s) x
def popB (s : Int × Int) : Int × Int := popS (gS s)
def topB (s : Int × Int) : Bool := topS (gS s)
def turnB (s : Int × Int) (x : Bool) : Int × Int := turnS (gS s) x
def pushF (s : Int × Int) (x : Bool) : Int × Int := pushS 8 (gF s) x
def popF (s : Int × Int) : Int × Int := popS (gF s)
def topF (s : Int × Int) : Bool := topS (gF s)
def joinB (code : Int) (s : Int × Int) (b : Bool) : Int × Int := if code = 1 then pushB s b else if code = 2 then turnB s (topB s && b) else turnB s (topB s || b)
def machN (t : MS) (x : Ins) (dt : Int) : MS :=
  if 1 ≤ x.code ∧ x.code ≤ 3 then ⟨testM t.m x.op (argD x.args 0) (argD x.args 1), joinB x.code t.s (testB t.m x.op (argD x.args 0) (argD x.args 1)), t.f⟩
  else if x.code = 4 ∨ x.code = 5 then ⟨t.m, joinB (x.code - 2) (popB t.s) (topB t.s), t.f⟩
  else if x.code = 6 then ⟨t.m, turnB t.s (!topB t.s), t.f⟩
  else if x.code = 7 then ⟨t.m, t.s, pushF t.f (topB t.s)⟩
  else if x.code = 8 then ⟨t.m, turnB t.s (topF t.f), t.f⟩
  else if x.code = 9 then ⟨t.m, turnB t.s (topF t.f), popF t.f⟩
  else if x.code = 10 then ⟨doM t.m x.op (argD x.args 0) (argD x.args 1) (argD x.args 2) (topB t.s) dt, t.s, t.f⟩
  else if x.code = 11 then ⟨t.m, popB t.s, t.f⟩
  else t
structure MSt (a b : MS) : Prop where
  m : MSame a.m b.m
  s : a.s = b.s
  f : a.f = b.f
theorem MSt.refl (a : MS) : MSt a a := ⟨MSame_refl _, rfl, rfl⟩
theorem MSt.symm {a b : MS} (h : MSt a b) : MSt b a := ⟨h.m.symm, h.s.symm, h.f.symm⟩
theorem MSt.trans {a b c : MS} (h : MSt a b) (h' : MSt b c) : MSt a c := ⟨h.m.trans h'.m, h.s.trans h'.s, h.f.trans h'.f⟩
theorem machN_same {a b : MS} (h : MSt a b) (x : Ins) (dt : Int) : MSt (machN a x dt) (machN b x dt) := by
  obtain ⟨ma, sa, fa⟩ := a
  obtain ⟨mb, sb, fb⟩ := b
  obtain ⟨hm, hs, hf⟩ := h
  simp only at hm hs hf
  subst hs hf
  unfold machN
  simp only
  split
  · rw [testB_same hm]; exact ⟨testM_same hm _ _ _, rfl, rfl⟩
  split
  · exact ⟨hm, rfl, rfl⟩
  split
  · exact ⟨hm, rfl, rfl⟩
  split
  · exact ⟨hm, rfl, rfl⟩
  split
  · exact ⟨hm, rfl, rfl⟩
  split
  · exact ⟨hm, rfl, rfl⟩
  split
  · exact ⟨doM_same hm _ _ _ _ _ _, rfl, rfl⟩
  split
  · exact ⟨hm, rfl, rfl⟩
  · exact ⟨hm, rfl, rfl⟩
/-- Values of the right size. -/
structure MSOk (t : MS) : Prop where
  m : MOk t.m
  s : 0 ≤ t.s.1 ∧ t.s.1 < 65536
  f : 0 ≤ t.f.1 ∧ t.f.1 < 256
theorem goodS_bd {m : Nat} {b n : Int} (hb : 0 ≤ b) : 0 ≤ (goodS m b n).1 ∧ 0 ≤ (goodS m b n).2 ∧ (goodS m b n).2 ≤ m ∧ (goodS m b n).1 < 2 ^ ((goodS m b n).2).toNat := by
  unfold goodS
  split
  · rename_i h; have := okS_iff.1 h; exact ⟨hb, this.1, this.2.1, this.2.2⟩
  · simp
theorem okS_good {m : Nat} {b n : Int} (h : okS m b n = true) : goodS m b n = (b, n) := by unfold goodS; rw [if_pos h]
/-- A stack that is ok. -/
structure SOk (m : Nat) (s : Int × Int) : Prop where
  b : 0 ≤ s.1
  ok : okS m s.1 s.2 = true
theorem SOk.bd {m : Nat} {s : Int × Int} (h : SOk m s) : 0 ≤ s.1 ∧ s.1 < 2 ^ m ∧ 0 ≤ s.2 ∧ s.2 ≤ m ∧ s.1 < 2 ^ s.2.toNat := by
  obtain ⟨h1, h2, h3⟩ := okS_iff.1 h.ok
  refine ⟨h.b, ?_, h1, h2, h3⟩
  have := pow_mono2 (j := s.2.toNat) (k := m) (by omega)
  omega
theorem SOk.good {m : Nat} {b n : Int} (hb : 0 ≤ b) : SOk m (goodS m b n) := by
  obtain ⟨h1, h2, h3, h4⟩ := goodS_bd (m := m) (n := n) hb
  exact ⟨h1, okS_iff.2 ⟨h2, h3, h4⟩⟩
theorem SOk.push {m : Nat} {s : Int × Int} (h : SOk m s) (x : Bool) (hm : 1 ≤ m) : SOk m (pushS m s x) := by
  obtain ⟨h1, h2, h3, h4, h5⟩ := h.bd
  have hp := pow_pos2 m
  have e1 := Int.emod_nonneg (2 * s.1 + b2i x) (b := 2 ^ m) (by omega)
  have e2 := Int.emod_lt_of_pos (2 * s.1 + b2i x) hp
  have hx := b2i_bd x
  refine ⟨e1, okS_iff.2 ⟨?_, ?_, ?_⟩⟩
  · unfold pushS; simp only; omega
  · unfold pushS; simp only; omega
  · unfold pushS
    simp only
    by_cases hc : s.2 + 1 ≤ m
    · rw [Int.min_eq_left hc]
      have e : (s.2 + 1).toNat = s.2.toNat + 1 := by omega
      have e3 : (2 * s.1 + b2i x) % 2 ^ m ≤ 2 * s.1 + b2i x := by
        by_cases hv : 2 * s.1 + b2i x < 2 ^ m
        · rw [Int.emod_eq_of_lt (by omega) hv]; omega
        · omega
      rw [e, pow_succ2]; omega
    · rw [Int.min_eq_right (by omega)]
      simpa using e2
theorem SOk.pop {m : Nat} {s : Int × Int} (h : SOk m s) : SOk m (popS s) := by
  obtain ⟨h1, h2, h3, h4, h5⟩ := h.bd
  unfold popS
  split
  · exact ⟨by simp, okS_iff.2 ⟨by simp, by simp, by simp⟩⟩
  · have e : s.2.toNat = (s.2 - 1).toNat + 1 := by omega
    rw [e, pow_succ2] at h5
    exact ⟨by simp only; omega, okS_iff.2 ⟨by simp only; omega, by simp only; omega, by simp only; omega⟩⟩
theorem SOk.turn {m : Nat} {s : Int × Int} (h : SOk m s) (x : Bool) : SOk m (turnS s x) := by
  obtain ⟨h1, h2, h3, h4, h5⟩ := h.bd
  have hx := b2i_bd x
  unfold turnS
  split
  · exact ⟨by simp, okS_iff.2 ⟨by simp, by simp, by simp⟩⟩
  · have e : s.2.toNat = (s.2 - 1).toNat + 1 := by omega
    rw [e, pow_succ2] at h5
    exact ⟨by simp only; omega, okS_iff.2 ⟨h3, h4, by simp only; rw [e, pow_succ2]; omega⟩⟩
theorem gS_ok {s : Int × Int} (h : 0 ≤ s.1) : SOk 16 (gS s) := SOk.good h
theorem gF_ok {s : Int × Int} (h : 0 ≤ s.1) : SOk 8 (gF s) := SOk.good h
theorem pushB_ok {s : Int × Int} (h : 0 ≤ s.1) (x : Bool) : SOk 16 (pushB s x) := (gS_ok h).push x (by decide)
theorem popB_ok {s : Int × Int} (h : 0 ≤ s.1) : SOk 16 (popB s) := (gS_ok h).pop
theorem turnB_ok {s : Int × Int} (h : 0 ≤ s.1) (x : Bool) : SOk 16 (turnB s x) := (gS_ok h).turn x
theorem pushF_ok {s : Int × Int} (h : 0 ≤ s.1) (x : Bool) : SOk 8 (pushF s x) := (gF_ok h).push x (by decide)
theorem popF_ok {s : Int × Int} (h : 0 ≤ s.1) : SOk 8 (popF s) := (gF_ok h).pop
theorem joinB_ok {s : Int × Int} (h : 0 ≤ s.1) (code : Int) (x : Bool) : SOk 16 (joinB code s x) := by
  unfold joinB
  split
  · exact pushB_ok h x
  · split <;> exact turnB_ok h _
theorem SOk.bd16 {s : Int × Int} (h : SOk 16 s) : 0 ≤ s.1 ∧ s.1 < 65536 := by have := h.bd; omega
theorem SOk.bd8 {s : Int × Int} (h : SOk 8 s) : 0 ≤ s.1 ∧ s.1 < 256 := by have := h.bd; omega
end Go.Sx
