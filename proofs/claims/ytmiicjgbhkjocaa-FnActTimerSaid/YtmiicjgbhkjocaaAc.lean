/-
  Counters and timers, plainly. Plain Lean: nothing of a program stands here. Conditions: none.
-/
import Derived.Test.YtmiicjgbhkjocaaDo
set_option linter.unusedVariables false
set_option linter.unusedSimpArgs false
set_option maxRecDepth 100000
namespace Go.Sx
open Go

theorem RdB.ld0 {P : Program} {d : Nat} {cx : Cx} {mem : List Blk} {o : Option Addr} {ks : List Int} (h : RdB (factF cx) o ks) {t : TypeId} (ht : aggT P t = some false) {v : Int} (hi : ks[0]? = some v) {K : Value → Prop} : LoadV d P cx mem t o K = K (.int .u8 v) := by
  have := RdB.ld (d := d) (mem := mem) h ht hi (K := K)
  simpa using this
theorem preset_int {m : M} {p : Int} (h0 : 0 ≤ p) (h1 : p ≤ 32767) : presetOf m ⟨11, p, 0⟩ = p := by
  have e : IntKind.i16.wrap p = p := by simp only [IntKind.wrap, IntKind.signed, IntKind.bits]; simp; omega
  unfold presetOf memWhole
  simp [e]
  omega
structure CntI (m : M) (n : Int) (was : Bool) : Prop where
  ok : MOk m
  cnt : (m.C 2).2.2 = n
  last : (m.C 2).2.1 = was
theorem cnt_zero : CntI zeroM 0 false := ⟨zeroM_ok, rfl, rfl⟩
theorem pl82 : (place 8 2).toNat = 2 := by decide
def cntNext (n : Int) (was r v : Bool) : Int := (if r then 0 else n) + (if v && !was then 1 else 0)
theorem cnt_step {m m1 m2 : M} {n p : Int} {was v r : Bool} {b c d : Dev} (h : CntI m n was) (hn : n < 60000) (h0 : 0 ≤ n) (hp0 : 0 ≤ p) (hp1 : p ≤ 32767)
    (h1 : MSame m1 (doM m 23 ⟨8, 2, 0⟩ b c r 1)) (o1 : MOk m1) (h2 : MSame m2 (doM m1 29 ⟨8, 2, 0⟩ ⟨11, p, 0⟩ d v 1)) (o2 : MOk m2) :
    m2.C 2 = (decide (p ≤ cntNext n was r v), v, cntNext n was r v) ∧ CntI m2 (cntNext n was r v) v := by
  have e1 : m1.C 2 = (if r then (false, was, 0) else m.C 2) := by
    rw [h1.C]
    have hl := h.last
    cases r
    · simp [doM]
    · simp [doM, whenM, resetM, pl82, upd, hl]
  have c1 : (m1.C 2).2.2 = if r then 0 else n := by rw [e1]; cases r <;> simp [h.cnt]
  have c2 : (m1.C 2).2.1 = was := by rw [e1]; cases r <;> simp [h.last]
  have e2 : m2.C 2 = cntC p v (m1.C 2) := by
    rw [h2.C]
    simp [doM, counterM, pl82, upd, preset_int hp0 hp1]
  have e3 : cntN v (m1.C 2) = cntNext n was r v := by
    unfold cntN cntNext
    rw [c1, c2]
    cases r <;> cases v <;> cases was <;> simp <;> omega
  have e4 : m2.C 2 = (decide (p ≤ cntNext n was r v), v, cntNext n was r v) := by rw [e2]; unfold cntC; rw [e3]
  exact ⟨e4, o2, by rw [e4], by rw [e4]⟩

/-- Timers: one that starts anew, one that holds, one that is late. -/
structure TimI (m : M) (p run all since : Int) (done : Bool) : Prop where
  ok : MOk m
  on : (m.T 3).2 = min run p
  hold : m.T 4 = (done, min all p)
  late : ((m.T 5).1 = true ∧ (m.T 5).2 = since ∧ (since < p ∨ p = 0)) ∨ (m.T 5 = (false, 0) ∧ p ≤ since)
theorem tim_zero {p : Int} (hp : 0 ≤ p) : TimI zeroM p 0 0 p false := by
  refine ⟨zeroM_ok, ?_, ?_, Or.inr ⟨rfl, by omega⟩⟩
  · show (0 : Int) = _; omega
  · show (false, (0 : Int)) = _
    rw [show min 0 p = 0 by omega]
theorem pl7 : (place 7 3).toNat = 3 ∧ (place 7 4).toNat = 4 ∧ (place 7 5).toNat = 5 := by decide
theorem tim_T {m m1 : M} {op n p dt : Int} {v : Bool} {d : Dev} (hop : op = 26 ∨ op = 27 ∨ op = 28) (hp0 : 0 ≤ p) (hp1 : p ≤ 32767) (h1 : MSame m1 (doM m op ⟨7, n, 0⟩ ⟨11, p, 0⟩ d v dt)) :
    m1.T = upd m.T (place 7 n).toNat (timerT op p v dt (m.T (place 7 n).toNat)) := by
  rw [h1.T]
  rcases hop with rfl | rfl | rfl <;> simp [doM, timerM, preset_int hp0 hp1]
def runNext (run dt : Int) (v : Bool) : Int := if v then run + dt else 0
def allNext (all dt : Int) (v : Bool) : Int := if v then all + dt else all
def doneNext (all p dt : Int) (done v : Bool) : Bool := if v then decide (p ≤ all + dt) else done
def sinceNext (since p dt : Int) (v : Bool) : Int := if v then 0 else if since < p then since + dt else since
theorem tim_step {m m1 m2 m3 : M} {p run all since dt : Int} {done v : Bool} {d1 d2 d3 : Dev} (h : TimI m p run all since done) (hp0 : 0 ≤ p) (hp1 : p ≤ 32767) (hr : 0 ≤ run) (ha : 0 ≤ all) (hs : 0 ≤ since) (hs0 : p = 0 → since = 0) (hd : 0 ≤ dt)
    (h1 : MSame m1 (doM m 26 ⟨7, 3, 0⟩ ⟨11, p, 0⟩ d1 v dt)) (h2 : MSame m2 (doM m1 27 ⟨7, 4, 0⟩ ⟨11, p, 0⟩ d2 v dt)) (h3 : MSame m3 (doM m2 28 ⟨7, 5, 0⟩ ⟨11, p, 0⟩ d3 v dt)) (o3 : MOk m3) :
    m3.T 3 = (v && decide (p ≤ runNext run dt v), min (runNext run dt v) p) ∧ m3.T 4 = (doneNext all p dt done v, min (allNext all dt v) p) ∧ (m3.T 5).1 = (v || decide (sinceNext since p dt v < p)) ∧
      TimI m3 p (runNext run dt v) (allNext all dt v) (sinceNext since p dt v) (doneNext all p dt done v) := by
  obtain ⟨p3, p4, p5⟩ := pl7
  have t1 := tim_T (by simp) hp0 hp1 h1
  have t2 := tim_T (by simp) hp0 hp1 h2
  have t3 := tim_T (by simp) hp0 hp1 h3
  rw [p3] at t1; rw [p4] at t2; rw [p5] at t3
  have a3 : m3.T 3 = timerT 26 p v dt (m.T 3) := by rw [t3, t2, t1]; simp [upd]
  have a4 : m3.T 4 = timerT 27 p v dt (m.T 4) := by rw [t3, t2, t1]; simp [upd]
  have a5 : m3.T 5 = timerT 28 p v dt (m.T 5) := by rw [t3, t2, t1]; simp [upd]
  have b3 : m3.T 3 = (v && decide (p ≤ runNext run dt v), min (runNext run dt v) p) := by
    rw [a3]
    unfold timerT runNext onw
    rw [h.on]
    cases v
    · simp; omega
    · simp
      exact ⟨by omega, by omega⟩
  have b4 : m3.T 4 = (doneNext all p dt done v, min (allNext all dt v) p) := by
    rw [a4]
    unfold timerT doneNext allNext onw
    rw [h.hold]
    cases v
    · simp
    · simp
      exact ⟨by omega, by omega⟩
  have b5 : ((m3.T 5).1 = true ∧ (m3.T 5).2 = sinceNext since p dt v ∧ (sinceNext since p dt v < p ∨ p = 0 ∧ v = true)) ∨ (m3.T 5 = (false, 0) ∧ p ≤ sinceNext since p dt v ∧ v = false) := by
    rw [a5]
    unfold timerT sinceNext onw
    cases v
    · rcases h.late with ⟨l1, l2, l3⟩ | ⟨l1, l2⟩
      · simp only [l1, l2]
        by_cases hq : p ≤ min (since + dt) p
        · right
          simp [hq]
          split <;> omega
        · left
          have : since < p := by omega
          simp [this, hq]
          omega
      · right
        simp only [l1]
        simp
        split <;> omega
    · left
      simp
      omega
  refine ⟨b3, b4, ?_, o3, by rw [b3], b4, ?_⟩
  · rcases b5 with ⟨l1, l2, l3⟩ | ⟨l1, l2, l3⟩
    · rw [l1]
      rcases l3 with l3 | ⟨_, l3⟩
      · simp [l3]
      · simp [l3]
    · rw [l1, l3]
      have : ¬ sinceNext since p dt v < p := by omega
      rw [l3] at this
      simp [this]
  · rcases b5 with ⟨l1, l2, l3⟩ | ⟨l1, l2, l3⟩
    · exact Or.inl ⟨l1, l2, by omega⟩
    · exact Or.inr ⟨l1, l2⟩
theorem tim_bd {p run all since dt : Int} {v : Bool} {i : Int} (hp0 : 0 ≤ p) (hr : 0 ≤ run ∧ run ≤ 63 * i) (ha : 0 ≤ all ∧ all ≤ 63 * i) (hs : 0 ≤ since ∧ since ≤ p + 63) (hs0 : p = 0 → since = 0) (hd : 0 ≤ dt ∧ dt ≤ 63) :
    (0 ≤ runNext run dt v ∧ runNext run dt v ≤ 63 * (i + 1)) ∧ (0 ≤ allNext all dt v ∧ allNext all dt v ≤ 63 * (i + 1)) ∧ (0 ≤ sinceNext since p dt v ∧ sinceNext since p dt v ≤ p + 63) ∧ (p = 0 → sinceNext since p dt v = 0) := by
  unfold runNext allNext sinceNext
  cases v <;> simp <;> (try split) <;> omega
end Go.Sx
