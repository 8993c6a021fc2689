/-
  What a coil may change, plainly. Plain Lean: nothing of a program stands here. Conditions: none.
-/
import Derived.Test.YtfhnbdlkiemaeaaGreatPmt
import Derived.Test.YtfhnbdlkiemaeaaGreatDomt
import Derived.Test.YtfhnbdlkiemaeaaGreatInmt
set_option linter.unusedVariables false
set_option linter.unusedSimpArgs false
set_option maxRecDepth 100000
namespace Go.Sx
open Go

def okS (m : Nat) (b n : Int) : Bool := decide (0 ≤ n ∧ n ≤ m ∧ b < 2 ^ n.toNat)
def b2i (x : Bool) : Int := if x then 1 else 0
def bitsL : Nat → Int → List Bool
  | 0, _ => []
  | k + 1, b => bitsL k (b / 2) ++ [decide (b % 2 = 1)]
def valL (l : List Bool) : Int := l.foldl (fun a x => 2 * a + b2i x) 0
def listS (m : Nat) (b n : Int) : List Bool := if okS m b n then bitsL n.toNat b else []
def stackS (m : Nat) (l : List Bool) : Int × Int := (valL (l.drop (l.length - m)), ((l.drop (l.length - m)).length : Int))

theorem bitsL_len : ∀ (k : Nat) (b : Int), (bitsL k b).length = k
  | 0, _ => rfl
  | k + 1, b => by rw [bitsL, List.length_append, bitsL_len k]; rfl
theorem valL_snoc (l : List Bool) (x : Bool) : valL (l ++ [x]) = 2 * valL l + b2i x := by unfold valL; rw [List.foldl_append]; rfl
theorem b2i_bd (x : Bool) : 0 ≤ b2i x ∧ b2i x ≤ 1 := by cases x <;> decide
theorem b2i_mod (b : Int) : b2i (decide (b % 2 = 1)) = b % 2 := by
  unfold b2i
  have := Int.emod_two_eq b
  split
  · rename_i h; simp at h; omega
  · rename_i h; simp at h; omega
theorem pow_succ2 (k : Nat) : (2 : Int) ^ (k + 1) = 2 * 2 ^ k := by rw [Int.pow_succ, Int.mul_comm]
theorem pow_pos2 (k : Nat) : (0 : Int) < 2 ^ k := Int.pow_pos (by decide)
theorem valL_bitsL : ∀ (k : Nat) (b : Int), 0 ≤ b → b < 2 ^ k → valL (bitsL k b) = b
  | 0, b, h0, h1 => by simp at h1; rw [bitsL]; show (0 : Int) = b; omega
  | k + 1, b, h0, h1 => by
    rw [pow_succ2] at h1
    rw [bitsL, valL_snoc, valL_bitsL k (b / 2) (by omega) (by omega), b2i_mod]; omega
theorem valL_bd : ∀ (n : Nat) (l : List Bool), l.length = n → 0 ≤ valL l ∧ valL l < 2 ^ n
  | 0, l, h => by rw [List.length_eq_zero_iff.1 h]; exact ⟨Int.le_refl 0, by decide⟩
  | n + 1, l, h => by
    rcases List.eq_nil_or_concat l with rfl | ⟨l', x, rfl⟩
    · simp at h
    · rw [List.concat_eq_append] at h ⊢
      rw [valL_snoc, pow_succ2]
      have := valL_bd n l' (by simpa using h)
      have := b2i_bd x
      omega
theorem bitsL_valL : ∀ (n : Nat) (l : List Bool), l.length = n → bitsL n (valL l) = l
  | 0, l, h => by rw [List.length_eq_zero_iff.1 h]; rfl
  | n + 1, l, h => by
    rcases List.eq_nil_or_concat l with rfl | ⟨l', x, rfl⟩
    · simp at h
    · rw [List.concat_eq_append] at h ⊢
      have hl : l'.length = n := by simpa using h
      rw [valL_snoc, bitsL]
      have e1 : (2 * valL l' + b2i x) / 2 = valL l' := by have := b2i_bd x; omega
      have e2 : decide ((2 * valL l' + b2i x) % 2 = 1) = x := by
        have : (2 * valL l' + b2i x) % 2 = b2i x := by have := b2i_bd x; omega
        rw [this]; cases x <;> rfl
      rw [e1, e2, bitsL_valL n l' hl]
theorem valL_cons (x : Bool) (l : List Bool) : valL (x :: l) = b2i x * 2 ^ l.length + valL l := by
  have key : ∀ (l : List Bool) (a : Int), l.foldl (fun a x => 2 * a + b2i x) a = a * 2 ^ l.length + l.foldl (fun a x => 2 * a + b2i x) 0 := by
    intro l
    induction l with
    | nil => intro a; simp
    | cons y l ih =>
      intro a
      rw [List.foldl_cons, ih, List.foldl_cons, ih (2 * 0 + b2i y), List.length_cons, pow_succ2]
      rw [Int.add_mul, Int.mul_zero, Int.zero_add]
      have : 2 * a * 2 ^ l.length = a * (2 * 2 ^ l.length) := by rw [Int.mul_comm 2 a, Int.mul_assoc]
      omega
  unfold valL
  rw [List.foldl_cons, key]
  simp
def goodS (m : Nat) (b n : Int) : Int × Int := if okS m b n then (b, n) else (0, 0)
def pushS (m : Nat) (s : Int × Int) (x : Bool) : Int × Int := ((2 * s.1 + b2i x) % 2 ^ m, min (s.2 + 1) m)
def popS (s : Int × Int) : Int × Int := if s.2 = 0 then (0, 0) else (s.1 / 2, s.2 - 1)
def topS (s : Int × Int) : Bool := if s.2 = 0 then false else decide (s.1 % 2 = 1)
def turnS (s : Int × Int) (x : Bool) : Int × Int := if s.2 = 0 then (0, 0) else (2 * (s.1 / 2) + b2i x, s.2)
theorem okS_iff {m : Nat} {b n : Int} : okS m b n = true ↔ (0 ≤ n ∧ n ≤ m ∧ b < 2 ^ n.toNat) := by unfold okS; simp
theorem listS_len {m : Nat} {b n : Int} : ((listS m b n).length : Int) = (goodS m b n).2 := by
  unfold listS goodS
  by_cases h : okS m b n = true
  · rw [if_pos h, if_pos h, bitsL_len]
    have := okS_iff.1 h; simp; omega
  · rw [if_neg h, if_neg h]; rfl
theorem pow_mono2 {j k : Nat} (h : j ≤ k) : (2 : Int) ^ j ≤ 2 ^ k := by
  obtain ⟨d, rfl⟩ := Nat.le.dest h
  induction d with
  | zero => simp
  | succ d ih =>
    have := ih (by omega)
    have hp := pow_pos2 (j + d)
    rw [← Nat.add_assoc, pow_succ2]; omega
theorem stack_list {m : Nat} {l : List Bool} (h : l.length ≤ m) : stackS m l = (valL l, (l.length : Int)) := by
  unfold stackS
  rw [show l.length - m = 0 by omega]; rfl
theorem push_law {m : Nat} {b n : Int} (hb : 0 ≤ b) (x : Bool) : stackS m (listS m b n ++ [x]) = pushS m (goodS m b n) x ∨ m = 0 := by
  by_cases hm : m = 0
  · exact Or.inr hm
  refine Or.inl ?_
  have hx := b2i_bd x
  have h1 : listS m b n = bitsL ((goodS m b n).2).toNat (goodS m b n).1 := by
    unfold listS goodS
    split <;> rfl
  have hg : 0 ≤ (goodS m b n).1 ∧ 0 ≤ (goodS m b n).2 ∧ (goodS m b n).2 ≤ m ∧ (goodS m b n).1 < 2 ^ ((goodS m b n).2).toNat := by
    unfold goodS
    by_cases h : okS m b n = true
    · rw [if_pos h]; have := okS_iff.1 h; exact ⟨hb, this.1, this.2.1, this.2.2⟩
    · rw [if_neg h]; simp
  generalize goodS m b n = s at *
  obtain ⟨b', n'⟩ := s
  simp only at hg h1
  obtain ⟨g1, g2, g3, g4⟩ := hg
  rw [h1]
  obtain ⟨k, rfl⟩ := Int.eq_ofNat_of_zero_le g2
  simp only [Int.toNat_natCast, Int.ofNat_le] at g3 g4 ⊢
  have hlen : (bitsL k b' ++ [x]).length = k + 1 := by rw [List.length_append, bitsL_len]; rfl
  have hv : valL (bitsL k b' ++ [x]) = 2 * b' + b2i x := by rw [valL_snoc, valL_bitsL k b' g1 g4]
  by_cases hk : k + 1 ≤ m
  · rw [stack_list (by omega), hv, hlen]
    unfold pushS
    have h2 : 2 * b' + b2i x < 2 ^ m := by
      have := pow_mono2 hk
      rw [pow_succ2] at this; omega
    rw [Int.emod_eq_of_lt (by omega) h2]
    congr 1
    simp only
    omega
  · have hkm : k = m := by omega
    subst hkm
    unfold stackS pushS
    rw [hlen, show k + 1 - k = 1 by omega]
    obtain ⟨y, l, hyl⟩ : ∃ y l, bitsL k b' ++ [x] = y :: l := by
      cases h : bitsL k b' ++ [x] with
      | nil => simp at h
      | cons y l => exact ⟨y, l, rfl⟩
    rw [hyl] at hlen hv ⊢
    have hl : l.length = k := by simpa using hlen
    rw [valL_cons, hl] at hv
    have hbd := valL_bd k l hl
    rw [List.drop_one, List.tail_cons, hl]
    have : (2 * b' + b2i x) % 2 ^ k = valL l := by
      rw [← hv, Int.add_comm, Int.add_mul_emod_self_right, Int.emod_eq_of_lt hbd.1 hbd.2]
    simp only [this]
    congr 1
    omega
theorem pop_law {m : Nat} {b n : Int} (hb : 0 ≤ b) : stackS m ((listS m b n).dropLast) = popS (goodS m b n) ∧ ((listS m b n).getLast?.getD false) = topS (goodS m b n) := by
  unfold listS goodS
  by_cases h : okS m b n = true
  · rw [if_pos h, if_pos h]
    obtain ⟨h1, h2, h3⟩ := okS_iff.1 h
    obtain ⟨k, rfl⟩ := Int.eq_ofNat_of_zero_le h1
    simp only [Int.toNat_natCast, Int.ofNat_le] at h2 h3 ⊢
    cases k with
    | zero => simp [bitsL, popS, topS, stackS, valL]
    | succ k =>
      rw [pow_succ2] at h3
      rw [bitsL, List.dropLast_concat]
      have hl := bitsL_len k (b / 2)
      rw [stack_list (by omega), valL_bitsL k (b / 2) (by omega) (by omega), hl]
      unfold popS topS
      have hne : ¬ ((k + 1 : Nat) : Int) = 0 := by omega
      rw [if_neg hne, if_neg hne]
      refine ⟨?_, by simp⟩
      congr 1
      simp only
      omega
  · rw [if_neg h, if_neg h]
    simp [popS, topS, stackS, valL]
theorem turn_law {m : Nat} {b n : Int} (hb : 0 ≤ b) (x : Bool) (h : listS m b n ≠ []) : stackS m ((listS m b n).dropLast ++ [x]) = turnS (goodS m b n) x := by
  unfold listS goodS at *
  by_cases ho : okS m b n = true
  · rw [if_pos ho] at h ⊢
    rw [if_pos ho]
    obtain ⟨h1, h2, h3⟩ := okS_iff.1 ho
    obtain ⟨k, rfl⟩ := Int.eq_ofNat_of_zero_le h1
    simp only [Int.toNat_natCast, Int.ofNat_le] at h h2 h3 ⊢
    cases k with
    | zero => simp [bitsL] at h
    | succ k =>
      rw [pow_succ2] at h3
      rw [bitsL, List.dropLast_concat]
      have hl : (bitsL k (b / 2) ++ [x]).length = k + 1 := by rw [List.length_append, bitsL_len]; rfl
      rw [stack_list (by omega), valL_snoc, valL_bitsL k (b / 2) (by omega) (by omega), hl]
      unfold turnS
      have hne : ¬ ((k + 1 : Nat) : Int) = 0 := by omega
      rw [if_neg hne]
  · rw [if_neg ho] at h; simp at h
end Go.Sx
namespace Go.Sx
open Go

theorem memBit_same {a b : M} (h : MSame a b) (k n : Int) : memBit a k n = memBit b k n := by
  unfold memBit given
  rw [h.X, h.Y, h.Mw, h.S, h.E, h.T, h.C, h.Time, h.Ran, h.Fault]
theorem memWhole_same {a b : M} (h : MSame a b) (k n : Int) : memWhole a k n = memWhole b k n := by
  unfold memWhole
  rw [h.T, h.C, h.D]
theorem memReal_same {a b : M} (h : MSame a b) (k n p : Int) (hs : ∀ k n p, sameF (realArgF k n p) (realArgF k n p)) : sameF (memRealF a k n p) (memRealF b k n p) := by
  unfold memRealF
  split
  · rename_i hk
    subst hk
    have := (place_lt n).2.2.2.2.2.2.2.2.2
    have := (place_bd 10 n).1
    exact h.R _ (by omega)
  · exact hs _ _ _
end Go.Sx
namespace Go.Sx
open Go

theorem MSame.eqR {a b : M} (h : MSame a b) : b = { a with R := b.R } := by
  obtain ⟨h1, h2, h3, h4, h5, h6, h7, h8, _, h10, h11, h12⟩ := h
  cases a; cases b
  simp only at h1 h2 h3 h4 h5 h6 h7 h8 h10 h11 h12
  subst h1 h2 h3 h4 h5 h6 h7 h8 h10 h11 h12
  rfl
theorem same_R {m : M} {R' : Arr 16 Nat} (h : ∀ k, k < 16 → sameF (m.R k) (R' k)) : MSame m { m with R := R' } := ⟨rfl, rfl, rfl, rfl, rfl, rfl, rfl, rfl, h, rfl, rfl, rfl⟩
theorem memPut_R (m : M) (R' : Arr 16 Nat) (k n : Int) (b : Bool) : memPut { m with R := R' } k n b = { memPut m k n b with R := R' } ∧ (memPut m k n b).R = m.R := by
  unfold memPut
  by_cases h2 : k = 2
  · simp [h2]
  by_cases h3 : k = 3
  · simp [h3]
  by_cases h4 : k = 4
  · simp [h4]
  by_cases h5 : k = 5
  · simp [h5]
  simp [h2, h3, h4, h5]
theorem putBM_same {a b : M} (h : MSame a b) (x : Dev) (v : Bool) : MSame (putBM a x v) (putBM b x v) := by
  have hR := h.R
  rw [h.eqR]
  unfold putBM
  split
  · exact same_R hR
  · obtain ⟨e1, e2⟩ := memPut_R a b.R x.k x.n v
    rw [e1]
    exact same_R fun k hk => by rw [e2]; exact hR k hk
theorem memPut_same {a b : M} (h : MSame a b) (k n : Int) (v : Bool) : MSame (memPut a k n v) (memPut b k n v) := by
  have hR := h.R
  rw [h.eqR]
  obtain ⟨e1, e2⟩ := memPut_R a b.R k n v
  rw [e1]
  exact same_R fun k hk => by rw [e2]; exact hR k hk
theorem keepM_same {a b : M} (h : MSame a b) (x : Dev) (v : Bool) : MSame (keepM a x v) (keepM b x v) := by
  unfold keepM
  split
  · exact memPut_same h _ _ _
  · exact h
theorem wasB_same {a b : M} (h : MSame a b) (x : Dev) : wasB a x = wasB b x := by unfold wasB; rw [memBit_same h]
theorem memRealF_same {a b : M} (h : MSame a b) (k n p : Int) : sameF (memRealF a k n p) (memRealF b k n p) := memReal_same h k n p fun _ _ _ => sameF_refl _
theorem testB_same {a b : M} (h : MSame a b) (op : Int) (x y : Dev) : testB a op x y = testB b op x y := by
  unfold testB numB
  rw [memBit_same h, wasB_same h, memWhole_same h, memWhole_same h y.k, realCmp_sameF (memRealF_same h x.k x.n x.p) (memRealF_same h y.k y.n y.p)]
theorem testM_same {a b : M} (h : MSame a b) (op : Int) (x y : Dev) : MSame (testM a op x y) (testM b op x y) := by
  unfold testM
  rw [memBit_same h]
  split
  · exact keepM_same h _ _
  · exact h
theorem putReal_same2 {a b : M} (h : MSame a b) {k n : Int} {x y : Nat} (hs : sameF x y) : MSame (memPutReal a k n x) (memPutReal b k n y) := by
  unfold memPutReal
  split
  · refine ⟨h.X, h.Y, h.Mw, h.S, h.E, h.T, h.C, h.D, fun j hj => ?_, h.Time, h.Ran, h.Fault⟩
    simp only [upd]
    split
    · exact hs
    · exact h.R j hj
  · exact h
theorem putWhole_same2 {a b : M} (h : MSame a b) (k n x : Int) : MSame (memPutWhole a k n x) (memPutWhole b k n x) := by
  unfold memPutWhole
  split
  · exact ⟨h.X, h.Y, h.Mw, h.S, h.E, h.T, h.C, by rw [h.D], h.R, h.Time, h.Ran, h.Fault⟩
  · exact h
theorem fault_same {a b : M} (h : MSame a b) (v : Bool) : MSame { a with Fault := v } { b with Fault := v } := ⟨h.X, h.Y, h.Mw, h.S, h.E, h.T, h.C, h.D, h.R, h.Time, h.Ran, rfl⟩
theorem resetM_same {a b : M} (h : MSame a b) (k n : Int) : MSame (resetM a k n) (resetM b k n) := by
  unfold resetM
  split
  · exact ⟨h.X, h.Y, h.Mw, h.S, h.E, by rw [h.T], h.C, h.D, h.R, h.Time, h.Ran, h.Fault⟩
  · split
    · exact ⟨h.X, h.Y, h.Mw, h.S, h.E, h.T, by rw [h.C], h.D, h.R, h.Time, h.Ran, h.Fault⟩
    · split
      · exact h
      · exact memPut_same h _ _ _
theorem stepM_same {a b : M} (h : MSame a b) (n : Int) : MSame (stepM a n) (stepM b n) := by
  unfold stepM
  have h' : MSame { a with S := clr a.S (place 4 n / 8) } { b with S := clr b.S (place 4 n / 8) } := ⟨h.X, h.Y, h.Mw, by simp only; rw [h.S], h.E, h.T, h.C, h.D, h.R, h.Time, h.Ran, h.Fault⟩
  exact memPut_same h' 4 n true
theorem realWhole_same2 {a b : Nat} (h : sameF a b) : realWhole a = realWhole b := by
  rcases h with ⟨rfl, _⟩ | ⟨ha, hb⟩
  · rfl
  · obtain ⟨s, t, e⟩ := read_nan ha
    obtain ⟨s', t', e'⟩ := read_nan hb
    unfold realWhole
    rw [e, e']
theorem whenM_same {a b : M} (h : MSame a b) (op : Int) (x y z : Dev) : MSame (whenM a op x y z) (whenM b op x y z) := by
  have r1 := memRealF_same h y.k y.n y.p
  have r2 := memRealF_same h z.k z.n z.p
  have w1 := memWhole_same h y.k y.n
  have w2 := memWhole_same h z.k z.n
  unfold whenM
  split
  · exact putBM_same h _ _
  split
  · exact resetM_same h _ _
  split
  · split
    · exact stepM_same h _
    · exact h
  split
  · split
    · exact putReal_same2 h r1
    · rw [w1]; exact putWhole_same2 h _ _ _
  split
  · unfold calcM
    split
    · rw [realCalcF_same r1 r2]; exact putReal_same2 h (sameF_refl _)
    · rw [w1, w2]
      split
      · exact putWhole_same2 h _ _ _
      · exact fault_same h _
  split
  · rw [w1]; exact putReal_same2 h (sameF_refl _)
  split
  · rw [realWhole_same2 r1]
    split
    · exact putWhole_same2 h _ _ _
    · exact fault_same h _
  · exact h
theorem doM_same {a b : M} (h : MSame a b) (op : Int) (x y z : Dev) (v : Bool) (dt : Int) : MSame (doM a op x y z v dt) (doM b op x y z v dt) := by
  have pr : presetOf a y = presetOf b y := by unfold presetOf; rw [memWhole_same h]
  unfold doM
  split
  · exact putBM_same h _ _
  split
  · rw [wasB_same h]; exact keepM_same (putBM_same h _ _) _ _
  split
  · rw [pr]
    unfold timerM
    split
    · exact ⟨h.X, h.Y, h.Mw, h.S, h.E, by rw [h.T], h.C, h.D, h.R, h.Time, h.Ran, h.Fault⟩
    · exact h
  split
  · rw [pr]
    unfold counterM
    split
    · exact ⟨h.X, h.Y, h.Mw, h.S, h.E, h.T, by rw [h.C], h.D, h.R, h.Time, h.Ran, h.Fault⟩
    · exact h
  split
  · exact whenM_same h _ _ _ _
  · exact h
theorem ran_same {a b : M} (h : MSame a b) : MSame { a with Ran := true } { b with Ran := true } := ⟨h.X, h.Y, h.Mw, h.S, h.E, h.T, h.C, h.D, h.R, h.Time, rfl, h.Fault⟩

structure MS where
  m : M
  s : Int × Int
  f : Int × Int
def gS (s : Int × Int) : Int × Int := goodS 16 s.1 s.2
def gF (s : Int × Int) : Int × Int := goodS 8 s.1 s.2
def pushB (s : Int × Int) (x : Bool) : Int × Int := pushS 16 (gS s) x
def popB (s : Int × Int) : Int × Int := popS (gS s)
def topB (s : Int × Int) : Bool := topS (gS s)
def turnB (s : Int × Int) (x : Bool) : Int × Int := turnS (gS s) x
def pushF (s : Int × Int) (x : Bool) : Int × Int := pushS 8 (gF s) x
def popF (s : Int × Int) : Int × Int := popS (gF s)
def topF (s : Int × Int) : Bool := topS (gF s)
def joinB (code : Int) (s : Int × Int) (b : Bool) : Int × Int := if code = 1 then pushB s b else if code = 2 then turnB s (topB s && b) else turnB s (topB s || b)
def machN (t : MS) (x : Ins) (dt : Int) : MS :=
  if 1 ≤ x.code ∧ x.code ≤ 3 then ⟨testM t.m x.op (argD x.args 0) (argD x.args 1), joinB x.code t.s (testB t.m x.op (argD x.args 0) (argD x.args 1)), t.f⟩
  else if x.code = 4 ∨ x.code = 5 then ⟨t.m, joinB (x.code - 2) (popB t.s) (topB t.s), t.f⟩
  else if x.code = 6 then ⟨t.m, turnB t.s (!topB t.s), t.f⟩
  else if x.code = 7 then ⟨t.m, t.s, pushF t.f (topB t.s)⟩
  else if x.code = 8 then ⟨t.m, turnB t.s (topF t.f), t.f⟩
  else if x.code = 9 then ⟨t.m, turnB t.s (topF t.f), popF t.f⟩
  else if x.code = 10 then ⟨doM t.m x.op (argD x.args 0) (argD x.args 1) (argD x.args 2) (topB t.s) dt, t.s, t.f⟩
  else if x.code = 11 then ⟨t.m, popB t.s, t.f⟩
  else t
structure MSt (a b : MS) : Prop where
  m : MSame a.m b.m
  s : a.s = b.s
  f : a.f = b.f
theorem MSt.refl (a : MS) : MSt a a := ⟨MSame_refl _, rfl, rfl⟩
theorem MSt.symm {a b : MS} (h : MSt a b) : MSt b a := ⟨h.m.symm, h.s.symm, h.f.symm⟩
theorem MSt.trans {a b c : MS} (h : MSt a b) (h' : MSt b c) : MSt a c := ⟨h.m.trans h'.m, h.s.trans h'.s, h.f.trans h'.f⟩
theorem machN_same {a b : MS} (h : MSt a b) (x : Ins) (dt : Int) : MSt (machN a x dt) (machN b x dt) := by
  obtain ⟨ma, sa, fa⟩ := a
  obtain ⟨mb, sb, fb⟩ := b
  obtain ⟨hm, hs, hf⟩ := h
  simp only at hm hs hf
  subst hs hf
  unfold machN
  simp only
  split
  · rw [testB_same hm]; exact ⟨testM_same hm _ _ _, rfl, rfl⟩
  split
  · exact ⟨hm, rfl, rfl⟩
  split
  · exact ⟨hm, rfl, rfl⟩
  split
  · exact ⟨hm, rfl, rfl⟩
  split
  · exact ⟨hm, rfl, rfl⟩
  split
  · exact ⟨hm, rfl, rfl⟩
  split
  · exact ⟨doM_same hm _ _ _ _ _ _, rfl, rfl⟩
  split
  · exact ⟨hm, rfl, rfl⟩
  · exact ⟨hm, rfl, rfl⟩
structure MSOk (t : MS) : Prop where
  m : MOk t.m
  s : 0 ≤ t.s.1 ∧ t.s.1 < 65536
  f : 0 ≤ t.f.1 ∧ t.f.1 < 256
theorem goodS_bd {m : Nat} {b n : Int} (hb : 0 ≤ b) : 0 ≤ (goodS m b n).1 ∧ 0 ≤ (goodS m b n).2 ∧ (goodS m b n).2 ≤ m ∧ (goodS m b n).1 < 2 ^ ((goodS m b n).2).toNat := by
  unfold goodS
  split
  · rename_i h; have := okS_iff.1 h; exact ⟨hb, this.1, this.2.1, this.2.2⟩
  · simp
theorem okS_good {m : Nat} {b n : Int} (h : okS m b n = true) : goodS m b n = (b, n) := by unfold goodS; rw [if_pos h]
structure SOk (m : Nat) (s : Int × Int) : Prop where
  b : 0 ≤ s.1
  ok : okS m s.1 s.2 = true
theorem SOk.bd {m : Nat} {s : Int × Int} (h : SOk m s) : 0 ≤ s.1 ∧ s.1 < 2 ^ m ∧ 0 ≤ s.2 ∧ s.2 ≤ m ∧ s.1 < 2 ^ s.2.toNat := by
  obtain ⟨h1, h2, h3⟩ := okS_iff.1 h.ok
  refine ⟨h.b, ?_, h1, h2, h3⟩
  have := pow_mono2 (j := s.2.toNat) (k := m) (by omega)
  omega
theorem SOk.good {m : Nat} {b n : Int} (hb : 0 ≤ b) : SOk m (goodS m b n) := by
  obtain ⟨h1, h2, h3, h4⟩ := goodS_bd (m := m) (n := n) hb
  exact ⟨h1, okS_iff.2 ⟨h2, h3, h4⟩⟩
theorem SOk.push {m : Nat} {s : Int × Int} (h : SOk m s) (x : Bool) (hm : 1 ≤ m) : SOk m (pushS m s x) := by
  obtain ⟨h1, h2, h3, h4, h5⟩ := h.bd
  have hp := pow_pos2 m
  have e1 := Int.emod_nonneg (2 * s.1 + b2i x) (b := 2 ^ m) (by omega)
  have e2 := Int.emod_lt_of_pos (2 * s.1 + b2i x) hp
  have hx := b2i_bd x
  refine ⟨e1, okS_iff.2 ⟨?_, ?_, ?_⟩⟩
  · unfold pushS; simp only; omega
  · unfold pushS; simp only; omega
  · unfold pushS
    simp only
    by_cases hc : s.2 + 1 ≤ m
    · rw [Int.min_eq_left hc]
      have e : (s.2 + 1).toNat = s.2.toNat + 1 := by omega
      have e3 : (2 * s.1 + b2i x) % 2 ^ m ≤ 2 * s.1 + b2i x := by
        by_cases hv : 2 * s.1 + b2i x < 2 ^ m
        · rw [Int.emod_eq_of_lt (by omega) hv]; omega
        · omega
      rw [e, pow_succ2]; omega
    · rw [Int.min_eq_right (by omega)]
      simpa using e2
theorem SOk.pop {m : Nat} {s : Int × Int} (h : SOk m s) : SOk m (popS s) := by
  obtain ⟨h1, h2, h3, h4, h5⟩ := h.bd
  unfold popS
  split
  · exact ⟨by simp, okS_iff.2 ⟨by simp, by simp, by simp⟩⟩
  · have e : s.2.toNat = (s.2 - 1).toNat + 1 := by omega
    rw [e, pow_succ2] at h5
    exact ⟨by simp only; omega, okS_iff.2 ⟨by simp only; omega, by simp only; omega, by simp only; omega⟩⟩
theorem SOk.turn {m : Nat} {s : Int × Int} (h : SOk m s) (x : Bool) : SOk m (turnS s x) := by
  obtain ⟨h1, h2, h3, h4, h5⟩ := h.bd
  have hx := b2i_bd x
  unfold turnS
  split
  · exact ⟨by simp, okS_iff.2 ⟨by simp, by simp, by simp⟩⟩
  · have e : s.2.toNat = (s.2 - 1).toNat + 1 := by omega
    rw [e, pow_succ2] at h5
    exact ⟨by simp only; omega, okS_iff.2 ⟨h3, h4, by simp only; rw [e, pow_succ2]; omega⟩⟩
theorem gS_ok {s : Int × Int} (h : 0 ≤ s.1) : SOk 16 (gS s) := SOk.good h
theorem gF_ok {s : Int × Int} (h : 0 ≤ s.1) : SOk 8 (gF s) := SOk.good h
theorem pushB_ok {s : Int × Int} (h : 0 ≤ s.1) (x : Bool) : SOk 16 (pushB s x) := (gS_ok h).push x (by decide)
theorem popB_ok {s : Int × Int} (h : 0 ≤ s.1) : SOk 16 (popB s) := (gS_ok h).pop
theorem turnB_ok {s : Int × Int} (h : 0 ≤ s.1) (x : Bool) : SOk 16 (turnB s x) := (gS_ok h).turn x
theorem pushF_ok {s : Int × Int} (h : 0 ≤ s.1) (x : Bool) : SOk 8 (pushF s x) := (gF_ok h).push x (by decide)
theorem popF_ok {s : Int × Int} (h : 0 ≤ s.1) : SOk 8 (popF s) := (gF_ok h).pop
theorem joinB_ok {s : Int × Int} (h : 0 ≤ s.1) (code : Int) (x : Bool) : SOk 16 (joinB code s x) := by
  unfold joinB
  split
  · exact pushB_ok h x
  · split <;> exact turnB_ok h _
theorem SOk.bd16 {s : Int × Int} (h : SOk 16 s) : 0 ≤ s.1 ∧ s.1 < 65536 := by have := h.bd; omega
theorem SOk.bd8 {s : Int × Int} (h : SOk 8 s) : 0 ≤ s.1 ∧ s.1 < 256 := by have := h.bd; omega
end Go.Sx
namespace Go.Sx
open Go

end Go.Sx
