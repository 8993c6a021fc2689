/-
  What a coil may change, plainly. Plain Lean: nothing of a program stands here. Conditions: none.
-/
import Derived.Test.YtfhnbdlkiemaeaaP
import Derived.Test.YtfhnbdlkiemaeaaDo
import Derived.Test.YtfhnbdlkiemaeaaIn
set_option linter.unusedVariables false
set_option linter.unusedSimpArgs false
set_option maxRecDepth 100000
namespace Go.Sx
open Go

def okS (m : Nat) (b n : Int) : Bool := decide (0 ≤ n ∧ n ≤ m ∧ b < 2 ^ n.toNat)
def b2i (x : Bool) : Int := if x then 1 else 0
/-- The k lowest bits of a number, the lowest last. -/
def bitsL : Nat → Int → List Bool
  | 0, _ => []
  | k + 1, b => bitsL k (b / 2) ++ [decide (b % 2 = 1)]
def valL (l : List Bool) : Int := l.foldl (fun a x => 2 * a + b2i x) 0
/-- The list of a stack of at most m bits. -/
def listS (m : Nat) (b n : Int) : List Bool := if okS m b n then bitsL n.toNat b else []
/-- The stack of a list: its last m bits. -/
def stackS (m : Nat) (l : List Bool) : Int × Int := (valL (l.drop (l.length - m)), ((l.drop (l.length - m)).length : Int))

theorem bitsL_len : ∀ (k : Nat) (b : Int), (bitsL k b).length = k
  | 0, _ => rfl
  | k + 1, b => by rw [bitsL, List.length_append, bitsL_len k]; rfl
theorem valL_snoc (l : List Bool) (x : Bool) : valL (l ++ [x]) = 2 * valL l + b2i x := by unfold valL; rw [List.foldl_append]; rfl
theorem b2i_bd (x : Bool) : 0 ≤ b2i x ∧ b2i x ≤ 1 := by cases x <;> decide
theorem b2i_mod (b : Int) : b2i (decide (b % 2 = 1)) = b % 2 := by
  unfold b2i
  have := Int.emod_two_eq b
  split
  · rename_i h; simp at h; omega
  · rename_i h; simp at h; omega
theorem pow_succ2 (k : Nat) : (2 : Int) ^ (k + 1) = 2 * 2 ^ k := by rw [Int.pow_succ, Int.mul_comm]
theorem pow_pos2 (k : Nat) : (0 : Int) < 2 ^ k := Int.pow_pos (by decide)
theorem valL_bitsL : ∀ (k : Nat) (b : Int), 0 ≤ b → b < 2 ^ k → valL (bitsL k b) = b
  | 0, b, h0, h1 => by simp at h1; rw [bitsL]; show (0 : Int) = b; omega
  | k + 1, b, h0, h1 => by
    rw [pow_succ2] at h1
    rw [bitsL, valL_snoc, valL_bitsL k (b / 2) (by omega) (by omega), b2i_mod]; omega
theorem valL_bd : ∀ (n : Nat) (l : List Bool), l.length = n → 0 ≤ valL l ∧ valL l < 2 ^ n
  | 0, l, h => by rw [List.length_eq_zero_iff.1 h]; exact ⟨Int.le_refl 0, by decide⟩
  | n + 1, l, h => by
    rcases List.eq_nil_or_concat l with rfl | ⟨l', x, rfl⟩
    · simp at h
    · rw [List.concat_eq_append] at h ⊢
      rw [valL_snoc, pow_succ2]
      have := valL_bd n l' (by simpa using h)
      have := b2i_bd x
      omega
theorem bitsL_valL : ∀ (n : Nat) (l : List Bool), l.length = n → bitsL n (valL l) = l
  | 0, l, h => by rw [List.length_eq_zero_iff.1 h]; rfl
  | n + 1, l, h => by
    rcases List.eq_nil_or_concat l with rfl | ⟨l', x, rfl⟩
    · simp at h
    · rw [List.concat_eq_append] at h ⊢
      have hl : l'.length = n := by simpa using h
      rw [valL_snoc, bitsL]
      have e1 : (2 * valL l' + b2i x) / 2 = valL l' := by have := b2i_bd x; omega
      have e2 : decide ((2 * valL l' + b2i x) % 2 = 1) = x := by
        have : (2 * valL l' + b2i x) % 2 = b2i x := by have := b2i_bd x; omega
        rw [this]; cases x <;> rfl
      rw [e1, e2, bitsL_valL n l' hl]
theorem valL_cons (x : Bool) (l : List Bool) : valL (x :: l) = b2i x * 2 ^ l.length + valL l := by
  have key : ∀ (l : List Bool) (a : Int), l.foldl (fun a x => 2 * a + b2i x) a = a * 2 ^ l.length + l.foldl (fun a x => 2 * a + b2i x) 0 := by
    intro l
    induction l with
    | nil => intro a; simp
    | cons y l ih =>
      intro a
      rw [List.foldl_cons, ih, List.foldl_cons, ih (2 * 0 + b2i y), List.length_cons, pow_succ2]
      rw [Int.add_mul, Int.mul_zero, Int.zero_add]
      have : 2 * a * 2 ^ l.length = a * (2 * 2 ^ l.length) := by rw [Int.mul_comm 2 a, Int.mul_assoc]
      omega
  unfold valL
  rw [List.foldl_cons, key]
  simp
/-- A value on a stack. -/
def goodS (m : Nat) (b n : Int) : Int × Int := if okS m b n then (b, n) else (0, 0)
def pushS (m : Nat) (s : Int × Int) (x : Bool) : Int × Int := ((2 * s.1 + b2i x) % 2 ^ m, min (s.2 + 1) m)
def popS (s : Int × Int) : Int × Int := if s.2 = 0 then (0, 0) else (s.1 / 2, s.2 - 1)
def topS (s : Int × Int) : Bool := if s.2 = 0 then false else decide (s.1 % 2 = 1)
def turnS (s : Int × Int) (x : Bool) : Int × Int := if s.2 = 0 then (0, 0) else (2 * (s.1 / 2) + b2i x, s.2)
theorem okS_iff {m : Nat} {b n : Int} : okS m b n = true ↔ (0 ≤ n ∧ n ≤ m ∧ b < 2 ^ n.toNat) := by unfold okS; simp
theorem listS_len {m : Nat} {b n : Int} : ((listS m b n).length : Int) = (goodS m b n).2 := by
  unfold listS goodS
  by_cases h : okS m b n = true
  · rw [if_pos h, if_pos h, bitsL_len]
    have := okS_iff.1 h; simp; omega
  · rw [if_neg h, if_neg h]; rfl
theorem pow_mono2 {j k : Nat} (h : j ≤ k) : (2 : Int) ^ j ≤ 2 ^ k := by
  obtain ⟨d, rfl⟩ := Nat.le.dest h
  induction d with
  | zero => simp
  | succ d ih =>
    have := ih (by omega)
    have hp := pow_pos2 (j + d)
    rw [← Nat.add_assoc, pow_succ2]; omega
theorem stack_list {m : Nat} {l : List Bool} (h : l.length ≤ m) : stackS m l = (valL l, (l.length : Int)) := by
  unfold stackS
  rw [show l.length - m = 0 by omega]; rfl
theorem push_law {m : Nat} {b n : Int} (hb : 0 ≤ b) (x : Bool) : stackS m (listS m b n ++ [x]) = pushS m (goodS m b n) x ∨ m = 0 := by
  by_cases hm : m = 0
  · exact Or.inr hm
  refine Or.inl ?_
  have hx := b2i_bd x
  have h1 : listS m b n = bitsL ((goodS m b n).2).toNat (goodS m b n).1 := by
    unfold listS goodS
    split <;> rfl
  have hg : 0 ≤ (goodS m b n).1 ∧ 0 ≤ (goodS m b n).2 ∧ (goodS m b n).2 ≤ m ∧ (goodS m b n).1 < 2 ^ ((goodS m b n).2).toNat := by
    unfold goodS
    by_cases h : okS m b n = true
    · rw [if_pos h]; have := okS_iff.1 h; exact ⟨hb, this.1, this.2.1, this.2.2⟩
    · rw [if_neg h]; simp
  generalize goodS m b n = s at *
  obtain ⟨b', n'⟩ := s
  simp only at hg h1
  obtain ⟨g1, g2, g3, g4⟩ := hg
  rw [h1]
  obtain ⟨k, rfl⟩ := Int.eq_ofNat_of_zero_le g2
  simp only [Int.toNat_natCast, Int.ofNat_le] at g3 g4 ⊢
  have hlen : (bitsL k b' ++ [x]).length = k + 1 := by rw [List.length_append, bitsL_len]; rfl
  have hv : valL (bitsL k b' ++ [x]) = 2 * b' + b2i x := by rw [valL_snoc, valL_bitsL k b' g1 g4]
  by_cases hk : k + 1 ≤ m
  · rw [stack_list (by omega), hv, hlen]
    unfold pushS
    have h2 : 2 * b' + b2i x < 2 ^ m := by
      have := pow_mono2 hk
      rw [pow_succ2] at this; omega
    rw [Int.emod_eq_of_lt (by omega) h2]
    congr 1
    simp only
    omega
  · have hkm : k = m := by omega
    subst hkm
    unfold stackS pushS
    rw [hlen, show k + 1 - k = 1 by omega]
    obtain ⟨y, l, hyl⟩ : ∃ y l, bitsL k b' ++ [x] = y :: l := by
      cases h : bitsL k b' ++ [x] with
      | nil => simp at h
      | cons y l => exact ⟨y, l, rfl⟩
    rw [hyl] at hlen hv ⊢
    have hl : l.length = k := by simpa using hlen
    rw [valL_cons, hl] at hv
    have hbd := valL_bd k l hl
    rw [List.drop_one, List.tail_cons, hl]
    have : (2 * b' + b2i x) % 2 ^ k = valL l := by
      rw [← hv, Int.add_comm, Int.add_mul_emod_self_right, Int.emod_eq_of_lt hbd.1 hbd.2]
    simp only [this]
    congr 1
    omega
theorem pop_law {m : Nat} {b n : Int} (hb : 0 ≤ b) : stackS m ((listS m b n).dropLast) = popS (goodS m b n) ∧ ((listS m b n).getLast?.getD false) = topS (goodS m b n) := by
  unfold listS goodS
  by_cases h : okS m b n = true
  · rw [if_pos h, if_pos h]
    obtain ⟨h1, h2, h3⟩ := okS_iff.1 h
    obtain ⟨k, rfl⟩ := Int.eq_ofNat_of_zero_le h1
    simp only [Int.toNat_natCast, Int.ofNat_le] at h2 h3 ⊢
    cases k with
    | zero => simp [bitsL, popS, topS, stackS, valL]
    | succ k =>
      rw [pow_succ2] at h3
      rw [bitsL, List.dropLast_concat]
      have hl := bitsL_len k (b / 2)
      rw [stack_list (by omega), valL_bitsL k (b / 2) (by omega) (by omega), hl]
      unfold popS topS
      have hne : ¬ ((k + 1 : Nat) : Int) = 0 := by omega
      rw [if_neg hne, if_neg hne]
      refine ⟨?_, by simp⟩
      congr 1
      simp only
      omega
  · rw [if_neg h, if_neg h]
    simp [popS, topS, stackS, valL]
theorem turn_law {m : Nat} {b n : Int} (hb : 0 ≤ b) (x : Bool) (h : listS m b n ≠ []) : stackS m ((listS m b n).dropLast ++ [x]) = turnS (goodS m b n) x := by
  unfold listS goodS at *
  by_cases ho : okS m b n = true
  · rw [if_pos ho] at h ⊢
    rw [if_pos ho]
    obtain ⟨h1, h2, h3⟩ := okS_iff.1 ho
    obtain ⟨k, rfl⟩ := Int.eq_ofNat_of_zero_le h1
    simp only [Int.toNat_natCast, Int.ofNat_le] at h h2 h3 ⊢
    cases k with
    | zero => simp [bitsL] at h
    | succ k =>
      rw [pow_succ2] at h3
      rw [bitsL, List.dropLast_concat]
      have hl : (bitsL k (b / 2) ++ [x]).length = k + 1 := by rw [List.length_append, bitsL_len]; rfl
      rw [stack_list (by omega), valL_snoc, valL_bitsL k (b / 2) (by omega) (by omega), hl]
      unfold turnS
      have hne : ¬ ((k + 1 : Nat) : Int) = 0 := by omega
      rw [if_neg hne]
  · rw [if_neg ho] at h; simp at h
end Go.Sx
namespace Go.Sx
open Go

theorem memBit_same {a b : M} (h : MSame a b) (k n : Int) : memBit a k n = memBit b k n := by
  unfold memBit given
  rw [h.X, h.Y, h.Mw, h.S, h.E, h.T, h.C, h.Time, h.Ran, h.Fault]
theorem memWhole_same {a b : M} (h : MSame a b) (k n : Int) : memWhole a k n = memWhole b k n := by
  unfold memWhole
  rw [h.T, h.C, h.D]
theorem memReal_same {a b : M} (h : MSame a b) (k n p : Int) (hs : ∀ k n p, sameF (realArgF k n p) (realArgF k n p)) : sameF (memRealF a k n p) (memRealF b k n p) := by
  unfold memRealF
  split
  · rename_i hk
    subst hk
    have := (place_lt n).2.2.2.2.2.2.2.2.2
    have := (place_bd 10 n).1
    exact h.R _ (by omega)
  · exact hs _ _ _
theorem memPut_no {m : M} {k n : Int} {b : Bool} (h : ¬ isPutK k) : memPut m k n b = m := by
  unfold isPutK at h
  have h1 : k ≠ 2 := fun e => h (Or.inl e)
  have h2 : k ≠ 3 := fun e => h (Or.inr (Or.inl e))
  have h3 : k ≠ 4 := fun e => h (Or.inr (Or.inr (Or.inl e)))
  have h4 : k ≠ 5 := fun e => h (Or.inr (Or.inr (Or.inr e)))
  unfold memPut
  simp [h1, h2, h3, h4]
/-- Two devices that are there lie at one place only if they are one. -/
theorem place_inj {k n p n' p' : Int} (hk : isPutK k) (h : devOk k n p = true) (h' : devOk k n' p' = true) (e : place k n' = place k n) : n' = n ∧ p' = p := by
  unfold devOk at h h'
  rw [decide_eq_true_eq] at h h'
  rcases hk with rfl | rfl | rfl | rfl <;> simp [place, ring, devSize] at h h' e <;> omega
theorem memBit_other {m : M} {k n p k' n' p' : Int} {b : Bool} (hm : MOk m) (hk : isPutK k) (h : devOk k n p = true) (h' : devOk k' n' p' = true) (hne : ¬ (k' = k ∧ n' = n ∧ p' = p)) : memBit (memPut m k n b) k' n' = memBit m k' n' := by
  rw [memBit_put hm hk, if_neg]
  rintro ⟨rfl, e⟩
  obtain ⟨e1, e2⟩ := place_inj hk h h' e
  exact hne ⟨rfl, e1, e2⟩
theorem memBit_self {m : M} {k n : Int} {b : Bool} (hm : MOk m) (hk : isPutK k) : memBit (memPut m k n b) k n = b := by rw [memBit_put hm hk]; simp
theorem memPutWhole_no {m : M} {k n v : Int} (h : k ≠ 9) : memPutWhole m k n v = m := by unfold memPutWhole; rw [if_neg h]
theorem memWhole_self {m : M} {n v : Int} : memWhole (memPutWhole m 9 n v) 9 n = v := by
  have h1 := (place_lt n).2.2.2.2.2.2.2.2.1
  have h2 := (place_bd 9 n).1
  unfold memWhole memPutWhole
  simp [upd]; omega
theorem memPutWhole_back {m : M} {n v : Int} : memPutWhole (memPutWhole m 9 n v) 9 n (memWhole m 9 n) = m := by
  unfold memWhole memPutWhole
  simp [upd_upd, upd_self]
theorem memPutReal_no {m : M} {k n : Int} {v : Nat} (h : k ≠ 10) : memPutReal m k n v = m := by unfold memPutReal; rw [if_neg h]
theorem memReal_self {m : M} {n p : Int} {v : Nat} : memRealF (memPutReal m 10 n v) 10 n p = v := by
  have h1 := (place_lt n).2.2.2.2.2.2.2.2.2
  have h2 := (place_bd 10 n).1
  unfold memRealF memPutReal
  simp [upd]; omega
theorem memPutReal_back {m : M} {n p : Int} {v : Nat} : memPutReal (memPutReal m 10 n v) 10 n (memRealF m 10 n p) = m := by
  unfold memRealF memPutReal
  simp [upd_upd, upd_self]
/-- Places are counted round. -/
theorem place_round {k n j : Int} : place k (n + j * ring k) = place k n := by
  unfold place
  split
  · rfl
  · rw [Int.add_mul_emod_self_right]
theorem memBit_round {m : M} {k n n' : Int} (h : place k n' = place k n) : memBit m k n' = memBit m k n := by unfold memBit; rw [h]
theorem memWhole_round {m : M} {k n n' : Int} (h : place k n' = place k n) (hk : k ≠ 11) : memWhole m k n' = memWhole m k n := by unfold memWhole; rw [h]; simp [hk]

theorem clrS_bd {x g : Int} (hx : 0 ≤ x ∧ x < 65536) : 0 ≤ clr x g ∧ clr x g < 65536 := by unfold clr; split <;> omega
theorem clrS_bit {x : Int} (hx : 0 ≤ x ∧ x < 65536) {g : Int} (hg : g = 0 ∨ g = 1) {i : Nat} (hi : i < 16) : bitOf (clr x g) i = if (i : Int) / 8 = g then false else bitOf x i := by
  have hc : i = 0 ∨ i = 1 ∨ i = 2 ∨ i = 3 ∨ i = 4 ∨ i = 5 ∨ i = 6 ∨ i = 7 ∨ i = 8 ∨ i = 9 ∨ i = 10 ∨ i = 11 ∨ i = 12 ∨ i = 13 ∨ i = 14 ∨ i = 15 := by omega
  unfold bitOf clr
  rcases hg with rfl | rfl
  · rcases hc with rfl | rfl | rfl | rfl | rfl | rfl | rfl | rfl | rfl | rfl | rfl | rfl | rfl | rfl | rfl | rfl <;> simp <;> omega
  · rcases hc with rfl | rfl | rfl | rfl | rfl | rfl | rfl | rfl | rfl | rfl | rfl | rfl | rfl | rfl | rfl | rfl <;> simp <;> omega
/-- A step: of its eight it alone is on, the others are as they were. -/
theorem step_bit {m : M} (hm : MOk m) {k i : Int} (hk : 0 ≤ k ∧ k < 16) (hi : 0 ≤ i ∧ i < 16) : memBit (stepM m k) 4 i = if i / 8 = k / 8 then decide (i = k) else memBit m 4 i := by
  have pk : place 4 k = k := by simp [place, ring, devSize]; omega
  have pi : place 4 i = i := by simp [place, ring, devSize]; omega
  have hg : k / 8 = 0 ∨ k / 8 = 1 := by omega
  unfold stepM
  rw [pk]
  have hm' : MOk { m with S := clr m.S (k / 8) } := ⟨hm.X, hm.Y, hm.Mw, clrS_bd hm.S, hm.E, hm.T, hm.C, hm.D, hm.R, hm.Time⟩
  rw [memBit_put hm' (by simp [isPutK]), pk, pi]
  have e : memBit { m with S := clr m.S (k / 8) } 4 i = bitOf (clr m.S (k / 8)) i.toNat := by
    unfold memBit; simp [pi]
  have e' : memBit m 4 i = bitOf m.S i.toNat := by unfold memBit; simp [pi]
  have hc := clrS_bit hm.S hg (i := i.toNat) (by omega)
  rw [show ((i.toNat : Nat) : Int) = i by omega] at hc
  rw [e, e', hc]
  by_cases hik : i = k
  · simp [hik]
  · simp [hik]
end Go.Sx
namespace Go.Sx
open Go

theorem MSame.eqR {a b : M} (h : MSame a b) : b = { a with R := b.R } := by
  obtain ⟨h1, h2, h3, h4, h5, h6, h7, h8, _, h10, h11, h12⟩ := h
  cases a; cases b
  simp only at h1 h2 h3 h4 h5 h6 h7 h8 h10 h11 h12
  subst h1 h2 h3 h4 h5 h6 h7 h8 h10 h11 h12
  rfl
theorem same_R {m : M} {R' : Arr 16 Nat} (h : ∀ k, k < 16 → sameF (m.R k) (R' k)) : MSame m { m with R := R' } := ⟨rfl, rfl, rfl, rfl, rfl, rfl, rfl, rfl, h, rfl, rfl, rfl⟩
theorem memPut_R (m : M) (R' : Arr 16 Nat) (k n : Int) (b : Bool) : memPut { m with R := R' } k n b = { memPut m k n b with R := R' } ∧ (memPut m k n b).R = m.R := by
  unfold memPut
  by_cases h2 : k = 2
  · simp [h2]
  by_cases h3 : k = 3
  · simp [h3]
  by_cases h4 : k = 4
  · simp [h4]
  by_cases h5 : k = 5
  · simp [h5]
  simp [h2, h3, h4, h5]
theorem putBM_same {a b : M} (h : MSame a b) (x : Dev) (v : Bool) : MSame (putBM a x v) (putBM b x v) := by
  have hR := h.R
  rw [h.eqR]
  unfold putBM
  split
  · exact same_R hR
  · obtain ⟨e1, e2⟩ := memPut_R a b.R x.k x.n v
    rw [e1]
    exact same_R fun k hk => by rw [e2]; exact hR k hk
theorem memPut_same {a b : M} (h : MSame a b) (k n : Int) (v : Bool) : MSame (memPut a k n v) (memPut b k n v) := by
  have hR := h.R
  rw [h.eqR]
  obtain ⟨e1, e2⟩ := memPut_R a b.R k n v
  rw [e1]
  exact same_R fun k hk => by rw [e2]; exact hR k hk
theorem keepM_same {a b : M} (h : MSame a b) (x : Dev) (v : Bool) : MSame (keepM a x v) (keepM b x v) := by
  unfold keepM
  split
  · exact memPut_same h _ _ _
  · exact h
theorem wasB_same {a b : M} (h : MSame a b) (x : Dev) : wasB a x = wasB b x := by unfold wasB; rw [memBit_same h]
theorem memRealF_same {a b : M} (h : MSame a b) (k n p : Int) : sameF (memRealF a k n p) (memRealF b k n p) := memReal_same h k n p fun _ _ _ => sameF_refl _
theorem testB_same {a b : M} (h : MSame a b) (op : Int) (x y : Dev) : testB a op x y = testB b op x y := by
  unfold testB numB
  rw [memBit_same h, wasB_same h, memWhole_same h, memWhole_same h y.k, realCmp_sameF (memRealF_same h x.k x.n x.p) (memRealF_same h y.k y.n y.p)]
theorem testM_same {a b : M} (h : MSame a b) (op : Int) (x y : Dev) : MSame (testM a op x y) (testM b op x y) := by
  unfold testM
  rw [memBit_same h]
  split
  · exact keepM_same h _ _
  · exact h
theorem putReal_same2 {a b : M} (h : MSame a b) {k n : Int} {x y : Nat} (hs : sameF x y) : MSame (memPutReal a k n x) (memPutReal b k n y) := by
  unfold memPutReal
  split
  · refine ⟨h.X, h.Y, h.Mw, h.S, h.E, h.T, h.C, h.D, fun j hj => ?_, h.Time, h.Ran, h.Fault⟩
    simp only [upd]
    split
    · exact hs
    · exact h.R j hj
  · exact h
theorem putWhole_same2 {a b : M} (h : MSame a b) (k n x : Int) : MSame (memPutWhole a k n x) (memPutWhole b k n x) := by
  unfold memPutWhole
  split
  · exact ⟨h.X, h.Y, h.Mw, h.S, h.E, h.T, h.C, by rw [h.D], h.R, h.Time, h.Ran, h.Fault⟩
  · exact h
theorem fault_same {a b : M} (h : MSame a b) (v : Bool) : MSame { a with Fault := v } { b with Fault := v } := ⟨h.X, h.Y, h.Mw, h.S, h.E, h.T, h.C, h.D, h.R, h.Time, h.Ran, rfl⟩
theorem resetM_same {a b : M} (h : MSame a b) (k n : Int) : MSame (resetM a k n) (resetM b k n) := by
  unfold resetM
  split
  · exact ⟨h.X, h.Y, h.Mw, h.S, h.E, by rw [h.T], h.C, h.D, h.R, h.Time, h.Ran, h.Fault⟩
  · split
    · exact ⟨h.X, h.Y, h.Mw, h.S, h.E, h.T, by rw [h.C], h.D, h.R, h.Time, h.Ran, h.Fault⟩
    · split
      · exact h
      · exact memPut_same h _ _ _
theorem stepM_same {a b : M} (h : MSame a b) (n : Int) : MSame (stepM a n) (stepM b n) := by
  unfold stepM
  have h' : MSame { a with S := clr a.S (place 4 n / 8) } { b with S := clr b.S (place 4 n / 8) } := ⟨h.X, h.Y, h.Mw, by simp only; rw [h.S], h.E, h.T, h.C, h.D, h.R, h.Time, h.Ran, h.Fault⟩
  exact memPut_same h' 4 n true
theorem realWhole_same2 {a b : Nat} (h : sameF a b) : realWhole a = realWhole b := by
  rcases h with ⟨rfl, _⟩ | ⟨ha, hb⟩
  · rfl
  · obtain ⟨s, t, e⟩ := read_nan ha
    obtain ⟨s', t', e'⟩ := read_nan hb
    unfold realWhole
    rw [e, e']
theorem whenM_same {a b : M} (h : MSame a b) (op : Int) (x y z : Dev) : MSame (whenM a op x y z) (whenM b op x y z) := by
  have r1 := memRealF_same h y.k y.n y.p
  have r2 := memRealF_same h z.k z.n z.p
  have w1 := memWhole_same h y.k y.n
  have w2 := memWhole_same h z.k z.n
  unfold whenM
  split
  · exact putBM_same h _ _
  split
  · exact resetM_same h _ _
  split
  · split
    · exact stepM_same h _
    · exact h
  split
  · split
    · exact putReal_same2 h r1
    · rw [w1]; exact putWhole_same2 h _ _ _
  split
  · unfold calcM
    split
    · rw [realCalcF_same r1 r2]; exact putReal_same2 h (sameF_refl _)
    · rw [w1, w2]
      split
      · exact putWhole_same2 h _ _ _
      · exact fault_same h _
  split
  · rw [w1]; exact putReal_same2 h (sameF_refl _)
  split
  · rw [realWhole_same2 r1]
    split
    · exact putWhole_same2 h _ _ _
    · exact fault_same h _
  · exact h
theorem doM_same {a b : M} (h : MSame a b) (op : Int) (x y z : Dev) (v : Bool) (dt : Int) : MSame (doM a op x y z v dt) (doM b op x y z v dt) := by
  have pr : presetOf a y = presetOf b y := by unfold presetOf; rw [memWhole_same h]
  unfold doM
  split
  · exact putBM_same h _ _
  split
  · rw [wasB_same h]; exact keepM_same (putBM_same h _ _) _ _
  split
  · rw [pr]
    unfold timerM
    split
    · exact ⟨h.X, h.Y, h.Mw, h.S, h.E, by rw [h.T], h.C, h.D, h.R, h.Time, h.Ran, h.Fault⟩
    · exact h
  split
  · rw [pr]
    unfold counterM
    split
    · exact ⟨h.X, h.Y, h.Mw, h.S, h.E, h.T, by rw [h.C], h.D, h.R, h.Time, h.Ran, h.Fault⟩
    · exact h
  split
  · exact whenM_same h _ _ _ _
  · exact h
theorem actStart_same {a b : M} (h : MSame a b) (x t : Int) (f : Arr 4 Nat) : MSame (actStart a x t f) (actStart b x t f) := by
  unfold actStart
  refine ⟨rfl, h.Y, h.Mw, h.S, h.E, h.T, h.C, h.D, fun k hk => ?_, by simp only; rw [h.Time], h.Ran, rfl⟩
  have hk := h.R k hk
  simp only [upd]
  (repeat' split) <;> first | exact sameF_refl _ | exact hk
theorem ran_same {a b : M} (h : MSame a b) : MSame { a with Ran := true } { b with Ran := true } := ⟨h.X, h.Y, h.Mw, h.S, h.E, h.T, h.C, h.D, h.R, h.Time, rfl, h.Fault⟩

/-- The machine: its memory, its stacks as numbers and heights. -/
structure MS where
  m : M
  s : Int × Int
  f : Int × Int
def gS (s : Int × Int) : Int × Int := goodS 16 s.1 s.2
def gF (s : Int × Int) : Int × Int := goodS 8 s.1 s.2
def pushB (s : Int × Int) (x : Bool) : Int × Int := pushS 16 (gS s) x
def popB (s : Int × Int) : Int × Int := popS (gS s)
def topB (s : Int × Int) : Bool := topS (gS s)
def turnB (s : Int × Int) (x : Bool) : Int × Int := turnS (gS s) x
def pushF (s : Int × Int) (x : Bool) : Int × Int := pushS 8 (gF s) x
def popF (s : Int × Int) : Int × Int := popS (gF s)
def topF (s : Int × Int) : Bool := topS (gF s)
def joinB (code : Int) (s : Int × Int) (b : Bool) : Int × Int := if code = 1 then pushB s b else if code = 2 then turnB s (topB s && b) else turnB s (topB s || b)
def machN (t : MS) (x : Ins) (dt : Int) : MS :=
  if 1 ≤ x.code ∧ x.code ≤ 3 then ⟨testM t.m x.op (argD x.args 0) (argD x.args 1), joinB x.code t.s (testB t.m x.op (argD x.args 0) (argD x.args 1)), t.f⟩
  else if x.code = 4 ∨ x.code = 5 then ⟨t.m, joinB (x.code - 2) (popB t.s) (topB t.s), t.f⟩
  else if x.code = 6 then ⟨t.m, turnB t.s (!topB t.s), t.f⟩
  else if x.code = 7 then ⟨t.m, t.s, pushF t.f (topB t.s)⟩
  else if x.code = 8 then ⟨t.m, turnB t.s (topF t.f), t.f⟩
  else if x.code = 9 then ⟨t.m, turnB t.s (topF t.f), popF t.f⟩
  else if x.code = 10 then ⟨doM t.m x.op (argD x.args 0) (argD x.args 1) (argD x.args 2) (topB t.s) dt, t.s, t.f⟩
  else if x.code = 11 then ⟨t.m, popB t.s, t.f⟩
  else t
structure MSt (a b : MS) : Prop where
  m : MSame a.m b.m
  s : a.s = b.s
  f : a.f = b.f
theorem MSt.refl (a : MS) : MSt a a := ⟨MSame_refl _, rfl, rfl⟩
theorem MSt.symm {a b : MS} (h : MSt a b) : MSt b a := ⟨h.m.symm, h.s.symm, h.f.symm⟩
theorem MSt.trans {a b c : MS} (h : MSt a b) (h' : MSt b c) : MSt a c := ⟨h.m.trans h'.m, h.s.trans h'.s, h.f.trans h'.f⟩
theorem machN_same {a b : MS} (h : MSt a b) (x : Ins) (dt : Int) : MSt (machN a x dt) (machN b x dt) := by
  obtain ⟨ma, sa, fa⟩ := a
  obtain ⟨mb, sb, fb⟩ := b
  obtain ⟨hm, hs, hf⟩ := h
  simp only at hm hs hf
  subst hs hf
  unfold machN
  simp only
  split
  · rw [testB_same hm]; exact ⟨testM_same hm _ _ _, rfl, rfl⟩
  split
  · exact ⟨hm, rfl, rfl⟩
  split
  · exact ⟨hm, rfl, rfl⟩
  split
  · exact ⟨hm, rfl, rfl⟩
  split
  · exact ⟨hm, rfl, rfl⟩
  split
  · exact ⟨hm, rfl, rfl⟩
  split
  · exact ⟨doM_same hm _ _ _ _ _ _, rfl, rfl⟩
  split
  · exact ⟨hm, rfl, rfl⟩
  · exact ⟨hm, rfl, rfl⟩
/-- Values of the right size. -/
structure MSOk (t : MS) : Prop where
  m : MOk t.m
  s : 0 ≤ t.s.1 ∧ t.s.1 < 65536
  f : 0 ≤ t.f.1 ∧ t.f.1 < 256
theorem goodS_bd {m : Nat} {b n : Int} (hb : 0 ≤ b) : 0 ≤ (goodS m b n).1 ∧ 0 ≤ (goodS m b n).2 ∧ (goodS m b n).2 ≤ m ∧ (goodS m b n).1 < 2 ^ ((goodS m b n).2).toNat := by
  unfold goodS
  split
  · rename_i h; have := okS_iff.1 h; exact ⟨hb, this.1, this.2.1, this.2.2⟩
  · simp
theorem okS_good {m : Nat} {b n : Int} (h : okS m b n = true) : goodS m b n = (b, n) := by unfold goodS; rw [if_pos h]
/-- A stack that is ok. -/
structure SOk (m : Nat) (s : Int × Int) : Prop where
  b : 0 ≤ s.1
  ok : okS m s.1 s.2 = true
theorem SOk.bd {m : Nat} {s : Int × Int} (h : SOk m s) : 0 ≤ s.1 ∧ s.1 < 2 ^ m ∧ 0 ≤ s.2 ∧ s.2 ≤ m ∧ s.1 < 2 ^ s.2.toNat := by
  obtain ⟨h1, h2, h3⟩ := okS_iff.1 h.ok
  refine ⟨h.b, ?_, h1, h2, h3⟩
  have := pow_mono2 (j := s.2.toNat) (k := m) (by omega)
  omega
theorem SOk.good {m : Nat} {b n : Int} (hb : 0 ≤ b) : SOk m (goodS m b n) := by
  obtain ⟨h1, h2, h3, h4⟩ := goodS_bd (m := m) (n := n) hb
  exact ⟨h1, okS_iff.2 ⟨h2, h3, h4⟩⟩
theorem SOk.push {m : Nat} {s : Int × Int} (h : SOk m s) (x : Bool) (hm : 1 ≤ m) : SOk m (pushS m s x) := by
  obtain ⟨h1, h2, h3, h4, h5⟩ := h.bd
  have hp := pow_pos2 m
  have e1 := Int.emod_nonneg (2 * s.1 + b2i x) (b := 2 ^ m) (by omega)
  have e2 := Int.emod_lt_of_pos (2 * s.1 + b2i x) hp
  have hx := b2i_bd x
  refine ⟨e1, okS_iff.2 ⟨?_, ?_, ?_⟩⟩
  · unfold pushS; simp only; omega
  · unfold pushS; simp only; omega
  · unfold pushS
    simp only
    by_cases hc : s.2 + 1 ≤ m
    · rw [Int.min_eq_left hc]
      have e : (s.2 + 1).toNat = s.2.toNat + 1 := by omega
      have e3 : (2 * s.1 + b2i x) % 2 ^ m ≤ 2 * s.1 + b2i x := by
        by_cases hv : 2 * s.1 + b2i x < 2 ^ m
        · rw [Int.emod_eq_of_lt (by omega) hv]; omega
        · omega
      rw [e, pow_succ2]; omega
    · rw [Int.min_eq_right (by omega)]
      simpa using e2
theorem SOk.pop {m : Nat} {s : Int × Int} (h : SOk m s) : SOk m (popS s) := by
  obtain ⟨h1, h2, h3, h4, h5⟩ := h.bd
  unfold popS
  split
  · exact ⟨by simp, okS_iff.2 ⟨by simp, by simp, by simp⟩⟩
  · have e : s.2.toNat = (s.2 - 1).toNat + 1 := by omega
    rw [e, pow_succ2] at h5
    exact ⟨by simp only; omega, okS_iff.2 ⟨by simp only; omega, by simp only; omega, by simp only; omega⟩⟩
theorem SOk.turn {m : Nat} {s : Int × Int} (h : SOk m s) (x : Bool) : SOk m (turnS s x) := by
  obtain ⟨h1, h2, h3, h4, h5⟩ := h.bd
  have hx := b2i_bd x
  unfold turnS
  split
  · exact ⟨by simp, okS_iff.2 ⟨by simp, by simp, by simp⟩⟩
  · have e : s.2.toNat = (s.2 - 1).toNat + 1 := by omega
    rw [e, pow_succ2] at h5
    exact ⟨by simp only; omega, okS_iff.2 ⟨h3, h4, by simp only; rw [e, pow_succ2]; omega⟩⟩
theorem gS_ok {s : Int × Int} (h : 0 ≤ s.1) : SOk 16 (gS s) := SOk.good h
theorem gF_ok {s : Int × Int} (h : 0 ≤ s.1) : SOk 8 (gF s) := SOk.good h
theorem pushB_ok {s : Int × Int} (h : 0 ≤ s.1) (x : Bool) : SOk 16 (pushB s x) := (gS_ok h).push x (by decide)
theorem popB_ok {s : Int × Int} (h : 0 ≤ s.1) : SOk 16 (popB s) := (gS_ok h).pop
theorem turnB_ok {s : Int × Int} (h : 0 ≤ s.1) (x : Bool) : SOk 16 (turnB s x) := (gS_ok h).turn x
theorem pushF_ok {s : Int × Int} (h : 0 ≤ s.1) (x : Bool) : SOk 8 (pushF s x) := (gF_ok h).push x (by decide)
theorem popF_ok {s : Int × Int} (h : 0 ≤ s.1) : SOk 8 (popF s) := (gF_ok h).pop
theorem joinB_ok {s : Int × Int} (h : 0 ≤ s.1) (code : Int) (x : Bool) : SOk 16 (joinB code s x) := by
  unfold joinB
  split
  · exact pushB_ok h x
  · split <;> exact turnB_ok h _
theorem SOk.bd16 {s : Int × Int} (h : SOk 16 s) : 0 ≤ s.1 ∧ s.1 < 65536 := by have := h.bd; omega
theorem SOk.bd8 {s : Int × Int} (h : SOk 8 s) : 0 ≤ s.1 ∧ s.1 < 256 := by have := h.bd; omega
end Go.Sx
namespace Go.Sx
open Go

def butK (m f : M) (a : Dev) : M :=
  if a.k = 7 then { m with Fault := f.Fault, T := upd m.T a.n.toNat (f.T a.n.toNat) }
  else if a.k = 8 then { m with Fault := f.Fault, C := upd m.C a.n.toNat (f.C a.n.toNat) }
  else if a.k = 9 then { m with Fault := f.Fault, D := upd m.D a.n.toNat (f.D a.n.toNat) }
  else if a.k = 10 then { m with Fault := f.Fault, R := upd m.R a.n.toNat (f.R a.n.toNat) }
  else { m with Fault := f.Fault }
def butG (f : M) (g : Int) : Nat → M → M
  | 0, m => m
  | i + 1, m => memPut (butG f g i m) 4 (g + i) (memBit f 4 (g + i))
def butS (m f : M) (op : Int) (a : Dev) : M := if op = 25 then butG f (a.n / 8 * 8) 8 m else m
def butE (m f : M) (op : Int) (b : Dev) : M := if op = 24 then memPut m b.k b.n (memBit f b.k b.n) else m
/-- A memory with what a coil may change taken from another one. -/
def butN (m f : M) (op : Int) (a b : Dev) : M := butE (butS (memPut (butK m f a) a.k a.n (memBit f a.k a.n)) f op a) f op b
theorem butK_same {p d : M} (h : MSame p d) (f : M) (a : Dev) : MSame (butK p f a) (butK d f a) := by
  unfold butK
  split
  · exact ⟨h.X, h.Y, h.Mw, h.S, h.E, by rw [h.T], h.C, h.D, h.R, h.Time, h.Ran, rfl⟩
  split
  · exact ⟨h.X, h.Y, h.Mw, h.S, h.E, h.T, by rw [h.C], h.D, h.R, h.Time, h.Ran, rfl⟩
  split
  · exact ⟨h.X, h.Y, h.Mw, h.S, h.E, h.T, h.C, by rw [h.D], h.R, h.Time, h.Ran, rfl⟩
  split
  · refine ⟨h.X, h.Y, h.Mw, h.S, h.E, h.T, h.C, h.D, fun k hk => ?_, h.Time, h.Ran, rfl⟩
    simp only [upd]
    split
    · exact sameF_refl _
    · exact h.R k hk
  · exact ⟨h.X, h.Y, h.Mw, h.S, h.E, h.T, h.C, h.D, h.R, h.Time, h.Ran, rfl⟩
theorem butG_same (f : M) (g : Int) {p d : M} (h : MSame p d) : ∀ k, MSame (butG f g k p) (butG f g k d)
  | 0 => h
  | k + 1 => memPut_same (butG_same f g h k) _ _ _
theorem butN_same {p d : M} (h : MSame p d) (f : M) (op : Int) (a b : Dev) : MSame (butN p f op a b) (butN d f op a b) := by
  have h1 := memPut_same (butK_same h f a) a.k a.n (memBit f a.k a.n)
  have h2 : MSame (butS (memPut (butK p f a) a.k a.n (memBit f a.k a.n)) f op a) (butS (memPut (butK d f a) a.k a.n (memBit f a.k a.n)) f op a) := by
    unfold butS
    split
    · exact butG_same _ _ h1 _
    · exact h1
  unfold butN butE
  split
  · exact memPut_same h2 _ _ _
  · exact h2
theorem butK_ok {m f : M} (h : MOk m) (hf : MOk f) (a : Dev) : MOk (butK m f a) := by
  unfold butK
  split
  · by_cases hn : a.n.toNat < 16
    · exact fault_ok (setT_ok h (hf.T _ hn))
    · have : upd m.T a.n.toNat (f.T a.n.toNat) = m.T := Arr.ext' fun k hk => by simp only [upd]; rw [if_neg (by omega)]
      rw [this]; exact fault_ok h
  split
  · by_cases hn : a.n.toNat < 16
    · exact fault_ok (setC_ok h (hf.C _ hn))
    · have : upd m.C a.n.toNat (f.C a.n.toNat) = m.C := Arr.ext' fun k hk => by simp only [upd]; rw [if_neg (by omega)]
      rw [this]; exact fault_ok h
  split
  · refine ⟨h.X, h.Y, h.Mw, h.S, h.E, h.T, h.C, fun k hk => ?_, h.R, h.Time⟩
    simp only [upd]
    split
    · rename_i e; rw [← e.1]; exact hf.D k hk
    · exact h.D k hk
  split
  · refine ⟨h.X, h.Y, h.Mw, h.S, h.E, h.T, h.C, h.D, fun k hk => ?_, h.Time⟩
    simp only [upd]
    split
    · rename_i e; rw [← e.1]; exact hf.R k hk
    · exact h.R k hk
  · exact fault_ok h
theorem butG_ok (f : M) (g : Int) {m : M} (h : MOk m) : ∀ k, MOk (butG f g k m)
  | 0 => h
  | k + 1 => memPut_ok (butG_ok f g h k)
theorem place_dev {k n p : Int} (hk : 1 ≤ k ∧ k ≤ 10) (h : devOk k n p = true) : place k n = n := by
  unfold devOk at h
  rw [decide_eq_true_eq] at h
  have h1 : 0 ≤ n ∧ n < devSize k := by omega
  unfold place ring
  have hd := devSize_pos hk.1 hk.2
  by_cases h6 : k = 6
  · subst h6
    have : devSize 6 = 5 := by decide
    rw [if_pos rfl, if_neg (by decide)]
    exact Int.emod_eq_of_lt h1.1 (by omega)
  · rw [if_neg h6, if_neg (by omega)]
    exact Int.emod_eq_of_lt h1.1 h1.2
theorem butK_bits {m f : M} {a : Dev} (h : a.k = 2 ∨ a.k = 3 ∨ a.k = 4) (hf : m.Fault = f.Fault) : butK m f a = m := by
  unfold butK
  rw [if_neg (by omega), if_neg (by omega), if_neg (by omega), if_neg (by omega), ← hf]
theorem memPut_fault (m : M) (k n : Int) (b : Bool) : (memPut m k n b).Fault = m.Fault := by
  unfold memPut; (repeat' split) <;> rfl
theorem memPut_self {m : M} {k n : Int} (hk : isPutK k) : memPut m k n (memBit m k n) = m := by
  have h : ∀ (x : Int) (j : Nat), putBit x j (bitOf x j) = x := fun x j => by unfold putBit; rw [if_pos rfl]
  obtain rfl | rfl | rfl | rfl := hk <;> simp [memPut, memBit, h]
theorem butG_S (f : M) (g : Int) (m : M) : ∀ k, butG f g k m = { m with S := (butG f g k m).S }
  | 0 => rfl
  | k + 1 => by
    rw [butG, butG_S f g m k]
    simp [memPut]
theorem butG_bit (f : M) {g : Int} (hg : g = 0 ∨ g = 8) {m : M} (h : MOk m) : ∀ k, k ≤ 8 → ∀ i : Nat, i < 16 → bitOf (butG f g k m).S i = if g ≤ i ∧ i < g + k then bitOf f.S i else bitOf m.S i
  | 0, _, i, _ => by rw [if_neg (by omega)]; rfl
  | k + 1, hk, i, hi => by
    have ih := butG_bit f hg h k (by omega) i hi
    have ho := butG_ok f g h k
    have hp : place 4 (g + k) = g + k := by
      unfold place
      have : ring 4 = 16 := by decide
      rw [if_neg (by omega), this]
      exact Int.emod_eq_of_lt (by omega) (by omega)
    rw [butG]
    simp only [memPut, memBit]
    rw [hp]
    simp only [show ¬ (4 : Int) = 2 by decide, show ¬ (4 : Int) = 3 by decide, show ¬ (4 : Int) = 1 by decide, if_false, if_true]
    rw [bitOf_put (b := 16) ho.S.1 ho.S.2 (by omega) hi, ih]
    by_cases e : i = (g + k).toNat
    · rw [if_pos e, if_pos (by omega), e]
    · rw [if_neg e]
      by_cases e2 : g ≤ i ∧ i < g + k
      · rw [if_pos e2, if_pos (by omega)]
      · rw [if_neg e2, if_neg (by omega)]
theorem butN_no {d f : M} {op : Int} {a b : Dev} (h4 : op ≠ 24) (h5 : op ≠ 25) : butN d f op a b = memPut (butK d f a) a.k a.n (memBit f a.k a.n) := by
  unfold butN butE butS; rw [if_neg h4, if_neg h5]
theorem butN_bit {m : M} (hm : MOk m) {op : Int} {a b : Dev} (h4 : op ≠ 24) (h5 : op ≠ 25) (hk : a.k = 2 ∨ a.k = 3 ∨ a.k = 4) (w : Bool) : butN (memPut m a.k a.n w) m op a b = m := by
  rw [butN_no h4 h5, butK_bits hk (memPut_fault _ _ _ _), memPut_back hm (by unfold isPutK; omega)]
theorem butN_id {m : M} {op : Int} {a b : Dev} (h4 : op ≠ 24) (h5 : op ≠ 25) : butN m m op a b = m := by
  have e : butK m m a = m := by
    unfold butK
    (repeat' split) <;> simp [upd_self]
  rw [butN_no h4 h5, e]
  by_cases hp : isPutK a.k
  · exact memPut_self hp
  · exact memPut_no hp
theorem butN_T {m : M} {op : Int} {a b : Dev} (h4 : op ≠ 24) (h5 : op ≠ 25) (hk : a.k = 7) (t : Bool × Int) : butN { m with T := upd m.T a.n.toNat t } m op a b = m := by
  rw [butN_no h4 h5, memPut_no (by unfold isPutK; omega)]
  unfold butK
  rw [if_pos hk]
  simp [upd_upd, upd_self]
theorem butN_C {m : M} {op : Int} {a b : Dev} (h4 : op ≠ 24) (h5 : op ≠ 25) (hk : a.k = 8) (t : Bool × Bool × Int) : butN { m with C := upd m.C a.n.toNat t } m op a b = m := by
  rw [butN_no h4 h5, memPut_no (by unfold isPutK; omega)]
  unfold butK
  rw [if_neg (by omega), if_pos hk]
  simp [upd_upd, upd_self]
theorem butN_D {m : M} {op : Int} {a b : Dev} (h4 : op ≠ 24) (h5 : op ≠ 25) (hk : a.k = 9) (hp : place 9 a.n = a.n) (t : Int) : butN (memPutWhole m a.k a.n t) m op a b = m := by
  rw [butN_no h4 h5, memPut_no (by unfold isPutK; omega)]
  unfold butK memPutWhole
  rw [if_neg (by omega), if_neg (by omega), if_pos hk, if_pos hk, hk, hp]
  simp [upd_upd, upd_self]
theorem butN_R {m : M} {op : Int} {a b : Dev} (h4 : op ≠ 24) (h5 : op ≠ 25) (hk : a.k = 10) (hp : place 10 a.n = a.n) (t : Nat) : butN (memPutReal m a.k a.n t) m op a b = m := by
  rw [butN_no h4 h5, memPut_no (by unfold isPutK; omega)]
  unfold butK memPutReal
  rw [if_neg (by omega), if_neg (by omega), if_neg (by omega), if_pos hk, if_pos hk, hk, hp]
  simp [upd_upd, upd_self]
theorem butN_F {m : M} {op : Int} {a b : Dev} (h4 : op ≠ 24) (h5 : op ≠ 25) (w : Bool) : butN { m with Fault := w } m op a b = m := by
  have e : butK { m with Fault := w } m a = m := by
    unfold butK
    (repeat' split) <;> simp [upd_self]
  rw [butN_no h4 h5, e]
  by_cases hp : isPutK a.k
  · exact memPut_self hp
  · exact memPut_no hp
theorem butN_pulse {m : M} (hm : MOk m) {a b : Dev} (hk : a.k = 2 ∨ a.k = 3) (hb : b.k = 5) (w v : Bool) : butN (memPut (memPut m a.k a.n w) b.k b.n v) m 24 a b = m := by
  unfold butN butE butS
  rw [if_pos rfl, if_neg (by decide), butK_bits (by omega) (by rw [memPut_fault, memPut_fault])]
  obtain ⟨l1, l2, l3, l4, l5, l6, l7, l8, l9, l10⟩ := place_lt a.n
  obtain ⟨l1', l2', l3', l4', l5', l6', l7', l8', l9', l10'⟩ := place_lt b.n
  have hp := (place_bd a.k a.n).1
  have hp' := (place_bd 5 b.n).1
  have e5 := putBit_back (b := 32) (j := (place 5 b.n).toNat) (c := v) hm.E.1 (by have := hm.E.2; omega) (by omega)
  rw [hb]
  rcases hk with hk | hk <;> rw [hk] at hp ⊢
  · have e2 := putBit_back (b := 32) (j := (place 2 a.n).toNat) (c := w) hm.Y.1 (by have := hm.Y.2; omega) (by omega)
    simp [memPut, memBit, e2, e5]
  · have e2 := putBit_back (b := 64) (j := (place 3 a.n).toNat) (c := w) hm.Mw.1 (by have := hm.Mw.2; omega) (by omega)
    simp [memPut, memBit, e2, e5]
theorem butN_step {m d : M} (hm : MOk m) (hd : MOk d) {a b : Dev} (hk : a.k = 4) (hn : 0 ≤ a.n ∧ a.n < 16) (he : d = { m with S := d.S }) (hb : ∀ i : Nat, i < 16 → (i : Int) / 8 ≠ a.n / 8 → bitOf d.S i = bitOf m.S i) : butN d m 25 a b = m := by
  unfold butN butE butS
  have hf : d.Fault = m.Fault := by rw [he]
  rw [if_neg (by decide), if_pos rfl, butK_bits (by omega) hf, hk]
  have hg : a.n / 8 * 8 = 0 ∨ a.n / 8 * 8 = 8 := by omega
  have h1 := memPut_ok (k := 4) (n := a.n) (b := memBit m 4 a.n) hd
  have h2 := butG_bit m hg h1 8 (by omega)
  have h3 := (butG_ok m (a.n / 8 * 8) h1 8).S
  rw [butG_S]
  have hp : place 4 a.n = a.n := by
    unfold place
    have : ring 4 = 16 := by decide
    rw [if_neg (by omega), this]
    exact Int.emod_eq_of_lt (by omega) (by omega)
  have key : (butG m (a.n / 8 * 8) 8 (memPut d 4 a.n (memBit m 4 a.n))).S = m.S := by
    refine bits_ext h3 hm.S fun i hi => ?_
    rw [h2 i hi]
    by_cases hc : a.n / 8 * 8 ≤ i ∧ (i : Int) < a.n / 8 * 8 + (8 : Nat)
    · rw [if_pos hc]
    · rw [if_neg hc]
      have hne : (i : Int) / 8 ≠ a.n / 8 := by omega
      have e := hb i hi hne
      simp only [memPut, show ¬ (4 : Int) = 2 by decide, show ¬ (4 : Int) = 3 by decide, if_false, if_true]
      rw [bitOf_put (b := 16) hd.S.1 hd.S.2 (by omega) hi, if_neg (by omega), e]
  rw [key]
  have e4 : ∀ x, memPut d 4 a.n x = { m with S := (memPut d 4 a.n x).S } := fun x => by
    conv => lhs; rw [he]
    simp [memPut]
  rw [e4]
/-- A coil changes nothing but what it may. -/
theorem but_do {m : M} (hm : MOk m) {op : Int} {xs : List Dev} (h : coilOk op xs = true) (v : Bool) (dt : Int) : butN (doM m op (argD xs 0) (argD xs 1) (argD xs 2) v dt) m op (argD xs 0) (argD xs 1) = m := by
  unfold coilOk at h
  simp only [Bool.and_eq_true, decide_eq_true_eq] at h
  obtain ⟨⟨⟨h1, h2, h3⟩, h4⟩, h5⟩ := h
  have har : 1 ≤ arity op := by unfold arity; (repeat' split) <;> omega
  have hx0 : xs[0]? = some (argD xs 0) := by
    unfold argD
    rw [List.getElem?_eq_getElem (by omega)]
    simp [show 0 < xs.length by omega]
  have ha : devOk (argD xs 0).k (argD xs 0).n (argD xs 0).p = true := List.all_eq_true.1 h4 _ (List.mem_of_getElem? hx0)
  have e0 : xD xs 0 = argD xs 0 := rfl
  have e1 : xD (xs.drop 1) 0 = argD xs 1 := by unfold xD argD; simp [List.getD_eq_getElem?_getD, List.getElem?_drop]
  rw [e0] at h5
  generalize argD xs 0 = a at *
  generalize hbb : argD xs 1 = b at *
  generalize argD xs 2 = c at *
  have hpl : 1 ≤ a.k ∧ a.k ≤ 10 → place a.k a.n = a.n := fun hk => place_dev hk ha
  unfold coilB at h5
  unfold doM
  by_cases o21 : op = 21
  · rw [if_pos o21] at h5 ⊢
    have hk : a.k = 2 ∨ a.k = 3 := by simpa using h5
    unfold putBM
    rw [if_neg (by omega)]
    exact butN_bit hm (by omega) (by omega) (by omega) _
  rw [if_neg o21] at h5 ⊢
  by_cases o24 : op = 24
  · subst o24
    rw [e1] at h5
    simp at h5
    rw [if_pos rfl]
    unfold keepM
    rw [if_pos h5.2]
    unfold putBM
    rw [if_neg (by omega)]
    exact butN_pulse hm h5.1 h5.2 _ _
  rw [if_neg o24]
  by_cases o26 : op = 26 ∨ op = 27 ∨ op = 28
  · rw [if_pos o26]
    rw [if_neg (by omega), if_neg (by omega), if_neg (by omega), if_neg (by omega), if_pos o26] at h5
    simp at h5
    have hp := hpl (by omega)
    unfold timerM
    rw [if_pos h5.1]
    rw [h5.1] at hp
    rw [hp]
    exact butN_T (by omega) (by omega) h5.1 _
  rw [if_neg o26]
  by_cases o29 : op = 29
  · rw [if_pos o29]
    rw [if_neg (by omega), if_neg (by omega), if_neg (by omega), if_neg (by omega), if_neg (by omega), if_pos o29] at h5
    simp at h5
    have hp := hpl (by omega)
    unfold counterM
    rw [if_pos h5.1]
    rw [h5.1] at hp
    rw [hp]
    exact butN_C (by omega) (by omega) h5.1 _
  rw [if_neg o29]
  by_cases o25 : op = 25
  · subst o25
    rw [if_neg (by decide), if_neg (by decide), if_neg (by decide), if_pos rfl] at h5
    simp at h5
    have hp := hpl (by omega)
    have hn := (place_bd a.k a.n)
    have hl := (place_lt a.n).2.2.2.1
    rw [hp] at hn
    rw [h5] at hp
    rw [hp] at hl
    by_cases hv : v = true
    · rw [if_pos hv]
      unfold whenM
      rw [if_neg (by decide), if_neg (by decide), if_pos rfl, if_pos h5]
      refine butN_step hm (stepM_ok hm) h5 ⟨hn.1, hl⟩ (by unfold stepM; simp [memPut]) fun i hi hne => ?_
      have := step_bit hm (k := a.n) (i := i) ⟨hn.1, hl⟩ ⟨by omega, by omega⟩
      rw [if_neg hne] at this
      have hpi : place 4 (i : Int) = i := by
        unfold place
        have : ring 4 = 16 := by decide
        rw [if_neg (by omega), this]
        exact Int.emod_eq_of_lt (by omega) (by omega)
      unfold memBit at this
      simp only [show ¬ (4 : Int) = 1 by decide, show ¬ (4 : Int) = 2 by decide, show ¬ (4 : Int) = 3 by decide, if_false, if_true] at this
      rw [hpi, Int.toNat_natCast] at this
      exact this
    · rw [if_neg hv]
      exact butN_step hm hm h5 ⟨hn.1, hl⟩ rfl fun i hi hne => rfl
  by_cases hv : v = true
  · rw [if_pos hv]
    unfold whenM
    by_cases o22 : op = 22
    · rw [if_pos o22] at h5 ⊢
      have hk : a.k = 2 ∨ a.k = 3 ∨ a.k = 4 := by simpa using h5
      unfold putBM
      rw [if_neg (by omega)]
      exact butN_bit hm (by omega) (by omega) (by omega) _
    rw [if_neg o22] at h5 ⊢
    by_cases o23 : op = 23
    · rw [if_pos o23] at h5 ⊢
      have hk : a.k = 2 ∨ a.k = 3 ∨ a.k = 4 ∨ a.k = 7 ∨ a.k = 8 := by simpa using h5
      have hp := hpl (by omega)
      unfold resetM
      by_cases k7 : a.k = 7
      · rw [if_pos k7]
        rw [k7] at hp
        rw [hp]
        exact butN_T (by omega) (by omega) k7 _
      rw [if_neg k7]
      by_cases k8 : a.k = 8
      · rw [if_pos k8]
        rw [k8] at hp
        rw [hp]
        exact butN_C (by omega) (by omega) k8 _
      rw [if_neg k8, if_neg (by omega)]
      exact butN_bit hm (by omega) (by omega) (by omega) _
    rw [if_neg o23, if_neg o24, if_neg o25, if_neg o26, if_neg o29] at h5
    rw [if_neg o23, if_neg o25]
    have hk : (a.k = 9 ∨ a.k = 10) ∧ (op = 36 → a.k = 10) ∧ (op = 37 → a.k = 9) := by
      split at h5
      · rename_i e; simp at h5; omega
      split at h5
      · rename_i e; simp at h5; omega
      split at h5
      · rename_i e; simp at h5; omega
      · simp at h5; omega
    have hD : ∀ w, a.k = 9 → butN (memPutWhole m a.k a.n w) m op a b = m := fun w k9 => butN_D (by omega) (by omega) k9 (by have := hpl (by omega); rw [k9] at this; exact this) w
    have hR : ∀ w, a.k = 10 → butN (memPutReal m a.k a.n w) m op a b = m := fun w k9 => butN_R (by omega) (by omega) k9 (by have := hpl (by omega); rw [k9] at this; exact this) w
    have hF : butN { m with Fault := true } m op a b = m := butN_F (by omega) (by omega) true
    by_cases o30 : op = 30
    · rw [if_pos o30]
      split
      · exact hR _ (by assumption)
      · exact hD _ (by omega)
    rw [if_neg o30]
    by_cases o31 : 31 ≤ op ∧ op ≤ 35
    · rw [if_pos o31]
      unfold calcM
      split
      · exact hR _ (by assumption)
      split
      · exact hD _ (by omega)
      · exact hF
    rw [if_neg o31]
    by_cases o36 : op = 36
    · rw [if_pos o36]; exact hR _ (hk.2.1 o36)
    rw [if_neg o36]
    split
    · split
      · exact hD _ (hk.2.2 (by assumption))
      · exact hF
    · exact butN_id (by omega) (by omega)
  · rw [if_neg hv]
    exact butN_id (by omega) (by omega)
theorem do_off {m : M} {op : Int} {a b c : Dev} {dt : Int} (h : op = 22 ∨ op = 23 ∨ op = 25 ∨ 30 ≤ op) : doM m op a b c false dt = m := by
  unfold doM
  rw [if_neg (by omega), if_neg (by omega), if_neg (by omega), if_neg (by omega), if_neg (by decide)]
end Go.Sx
