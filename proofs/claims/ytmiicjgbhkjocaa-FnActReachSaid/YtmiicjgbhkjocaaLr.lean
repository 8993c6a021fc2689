/-
  What a coil may change, plainly. Plain Lean: nothing of a program stands here. Conditions: none.
-/
import Derived.Test.YtmiicjgbhkjocaaMp
import Derived.Test.YtmiicjgbhkjocaaMc
import Derived.Test.YtmiicjgbhkjocaaEp
set_option linter.unusedVariables false
set_option linter.unusedSimpArgs false
set_option maxRecDepth 100000
namespace Go.Sx
open Go

def butK (m f : M) (a : Dev) : M :=
  if a.k = 7 then { m with Fault := f.Fault, T := upd m.T a.n.toNat (f.T a.n.toNat) }
  else if a.k = 8 then { m with Fault := f.Fault, C := upd m.C a.n.toNat (f.C a.n.toNat) }
  else if a.k = 9 then { m with Fault := f.Fault, D := upd m.D a.n.toNat (f.D a.n.toNat) }
  else if a.k = 10 then { m with Fault := f.Fault, R := upd m.R a.n.toNat (f.R a.n.toNat) }
  else { m with Fault := f.Fault }
def butG (f : M) (g : Int) : Nat → M → M
  | 0, m => m
  | i + 1, m => memPut (butG f g i m) 4 (g + i) (memBit f 4 (g + i))
def butS (m f : M) (op : Int) (a : Dev) : M := if op = 25 then butG f (a.n / 8 * 8) 8 m else m
def butE (m f : M) (op : Int) (b : Dev) : M := if op = 24 then memPut m b.k b.n (memBit f b.k b.n) else m
/-- A memory with what a coil may change taken from another one. -/
def butN (m f : M) (op : Int) (a b : Dev) : M := butE (butS (memPut (butK m f a) a.k a.n (memBit f a.k a.n)) f op a) f op b
theorem butK_same {p d : M} (h : MSame p d) (f : M) (a : Dev) : MSame (butK p f a) (butK d f a) := by
  unfold butK
  split
  · exact ⟨h.X, h.Y, h.Mw, h.S, h.E, by rw [h.T], h.C, h.D, h.R, h.Time, h.Ran, rfl⟩
  split
  · exact ⟨h.X, h.Y, h.Mw, h.S, h.E, h.T, by rw [h.C], h.D, h.R, h.Time, h.Ran, rfl⟩
  split
  · exact ⟨h.X, h.Y, h.Mw, h.S, h.E, h.T, h.C, by rw [h.D], h.R, h.Time, h.Ran, rfl⟩
  split
  · refine ⟨h.X, h.Y, h.Mw, h.S, h.E, h.T, h.C, h.D, fun k hk => ?_, h.Time, h.Ran, rfl⟩
    simp only [upd]
    split
    · exact sameF_refl _
    · exact h.R k hk
  · exact ⟨h.X, h.Y, h.Mw, h.S, h.E, h.T, h.C, h.D, h.R, h.Time, h.Ran, rfl⟩
theorem butG_same (f : M) (g : Int) {p d : M} (h : MSame p d) : ∀ k, MSame (butG f g k p) (butG f g k d)
  | 0 => h
  | k + 1 => memPut_same (butG_same f g h k) _ _ _
theorem butN_same {p d : M} (h : MSame p d) (f : M) (op : Int) (a b : Dev) : MSame (butN p f op a b) (butN d f op a b) := by
  have h1 := memPut_same (butK_same h f a) a.k a.n (memBit f a.k a.n)
  have h2 : MSame (butS (memPut (butK p f a) a.k a.n (memBit f a.k a.n)) f op a) (butS (memPut (butK d f a) a.k a.n (memBit f a.k a.n)) f op a) := by
    unfold butS
    split
    · exact butG_same _ _ h1 _
    · exact h1
  unfold butN butE
  split
  · exact memPut_same h2 _ _ _
  · exact h2
theorem butK_ok {m f : M} (h : MOk m) (hf : MOk f) (a : Dev) : MOk (butK m f a) := by
  unfold butK
  split
  · by_cases hn : a.n.toNat < 16
    · exact fault_ok (setT_ok h (hf.T _ hn))
    · have : upd m.T a.n.toNat (f.T a.n.toNat) = m.T := Arr.ext' fun k hk => by simp only [upd]; rw [if_neg (by omega)]
      rw [this]; exact fault_ok h
  split
  · by_cases hn : a.n.toNat < 16
    · exact fault_ok (setC_ok h (hf.C _ hn))
    · have : upd m.C a.n.toNat (f.C a.n.toNat) = m.C := Arr.ext' fun k hk => by simp only [upd]; rw [if_neg (by omega)]
      rw [this]; exact fault_ok h
  split
  · refine ⟨h.X, h.Y, h.Mw, h.S, h.E, h.T, h.C, fun k hk => ?_, h.R, h.Time⟩
    simp only [upd]
    split
    · rename_i e; rw [← e.1]; exact hf.D k hk
    · exact h.D k hk
  split
  · refine ⟨h.X, h.Y, h.Mw, h.S, h.E, h.T, h.C, h.D, fun k hk => ?_, h.Time⟩
    simp only [upd]
    split
    · rename_i e; rw [← e.1]; exact hf.R k hk
    · exact h.R k hk
  · exact fault_ok h
theorem butG_ok (f : M) (g : Int) {m : M} (h : MOk m) : ∀ k, MOk (butG f g k m)
  | 0 => h
  | k + 1 => memPut_ok (butG_ok f g h k)
theorem place_dev {k n p : Int} (hk : 1 ≤ k ∧ k ≤ 10) (h : devOk k n p = true) : place k n = n := by
  unfold devOk at h
  rw [decide_eq_true_eq] at h
  have h1 : 0 ≤ n ∧ n < devSize k := by omega
  unfold place ring
  have hd := devSize_pos hk.1 hk.2
  by_cases h6 : k = 6
  · subst h6
    have : devSize 6 = 5 := by decide
    rw [if_pos rfl, if_neg (by decide)]
    exact Int.emod_eq_of_lt h1.1 (by omega)
  · rw [if_neg h6, if_neg (by omega)]
    exact Int.emod_eq_of_lt h1.1 h1.2
theorem butK_bits {m f : M} {a : Dev} (h : a.k = 2 ∨ a.k = 3 ∨ a.k = 4) (hf : m.Fault = f.Fault) : butK m f a = m := by
  unfold butK
  rw [if_neg (by omega), if_neg (by omega), if_neg (by omega), if_neg (by omega), ← hf]
theorem memPut_fault (m : M) (k n : Int) (b : Bool) : (memPut m k n b).Fault = m.Fault := by
  unfold memPut; (repeat' split) <;> rfl
theorem memPut_self {m : M} {k n : Int} (hk : isPutK k) : memPut m k n (memBit m k n) = m := by
  have h : ∀ (x : Int) (j : Nat), putBit x j (bitOf x j) = x := fun x j => by unfold putBit; rw [if_pos rfl]
  obtain rfl | rfl | rfl | rfl := hk <;> simp [memPut, memBit, h]
theorem butG_S (f : M) (g : Int) (m : M) : ∀ k, butG f g k m = { m with S := (butG f g k m).S }
  | 0 => rfl
  | k + 1 => by
    rw [butG, butG_S f g m k]
    simp [memPut]
theorem butG_bit (f : M) {g : Int} (hg : g = 0 ∨ g = 8) {m : M} (h : MOk m) : ∀ k, k ≤ 8 → ∀ i : Nat, i < 16 → bitOf (butG f g k m).S i = if g ≤ i ∧ i < g + k then bitOf f.S i else bitOf m.S i
  | 0, _, i, _ => by rw [if_neg (by omega)]; rfl
  | k + 1, hk, i, hi => by
    have ih := butG_bit f hg h k (by omega) i hi
    have ho := butG_ok f g h k
    have hp : place 4 (g + k) = g + k := by
      unfold place
      have : ring 4 = 16 := by decide
      rw [if_neg (by omega), this]
      exact Int.emod_eq_of_lt (by omega) (by omega)
    rw [butG]
    simp only [memPut, memBit]
    rw [hp]
    simp only [show ¬ (4 : Int) = 2 by decide, show ¬ (4 : Int) = 3 by decide, show ¬ (4 : Int) = 1 by decide, if_false, if_true]
    rw [bitOf_put (b := 16) ho.S.1 ho.S.2 (by omega) hi, ih]
    by_cases e : i = (g + k).toNat
    · rw [if_pos e, if_pos (by omega), e]
    · rw [if_neg e]
      by_cases e2 : g ≤ i ∧ i < g + k
      · rw [if_pos e2, if_pos (by omega)]
      · rw [if_neg e2, if_neg (by omega)]
theorem butN_no {d f : M} {op : Int} {a b : Dev} (h4 : op ≠ 24) (h5 : op ≠ 25) : butN d f op a b = memPut (butK d f a) a.k a.n (memBit f a.k a.n) := by
  unfold butN butE butS; rw [if_neg h4, if_neg h5]
theorem butN_bit {m : M} (hm : MOk m) {op : Int} {a b : Dev} (h4 : op ≠ 24) (h5 : op ≠ 25) (hk : a.k = 2 ∨ a.k = 3 ∨ a.k = 4) (w : Bool) : butN (memPut m a.k a.n w) m op a b = m := by
  rw [butN_no h4 h5, butK_bits hk (memPut_fault _ _ _ _), memPut_back hm (by unfold isPutK; omega)]
theorem butN_id {m : M} {op : Int} {a b : Dev} (h4 : op ≠ 24) (h5 : op ≠ 25) : butN m m op a b = m := by
  have e : butK m m a = m := by
    unfold butK
    (repeat' split) <;> simp [upd_self]
  rw [butN_no h4 h5, e]
  by_cases hp : isPutK a.k
  · exact memPut_self hp
  · exact memPut_no hp
theorem butN_T {m : M} {op : Int} {a b : Dev} (h4 : op ≠ 24) (h5 : op ≠ 25) (hk : a.k = 7) (t : Bool × Int) : butN { m with T := upd m.T a.n.toNat t } m op a b = m := by
  rw [butN_no h4 h5, memPut_no (by unfold isPutK; omega)]
  unfold butK
  rw [if_pos hk]
  simp [upd_upd, upd_self]
theorem butN_C {m : M} {op : Int} {a b : Dev} (h4 : op ≠ 24) (h5 : op ≠ 25) (hk : a.k = 8) (t : Bool × Bool × Int) : butN { m with C := upd m.C a.n.toNat t } m op a b = m := by
  rw [butN_no h4 h5, memPut_no (by unfold isPutK; omega)]
  unfold butK
  rw [if_neg (by omega), if_pos hk]
  simp [upd_upd, upd_self]
theorem butN_D {m : M} {op : Int} {a b : Dev} (h4 : op ≠ 24) (h5 : op ≠ 25) (hk : a.k = 9) (hp : place 9 a.n = a.n) (t : Int) : butN (memPutWhole m a.k a.n t) m op a b = m := by
  rw [butN_no h4 h5, memPut_no (by unfold isPutK; omega)]
  unfold butK memPutWhole
  rw [if_neg (by omega), if_neg (by omega), if_pos hk, if_pos hk, hk, hp]
  simp [upd_upd, upd_self]
theorem butN_R {m : M} {op : Int} {a b : Dev} (h4 : op ≠ 24) (h5 : op ≠ 25) (hk : a.k = 10) (hp : place 10 a.n = a.n) (t : Nat) : butN (memPutReal m a.k a.n t) m op a b = m := by
  rw [butN_no h4 h5, memPut_no (by unfold isPutK; omega)]
  unfold butK memPutReal
  rw [if_neg (by omega), if_neg (by omega), if_neg (by omega), if_pos hk, if_pos hk, hk, hp]
  simp [upd_upd, upd_self]
theorem butN_F {m : M} {op : Int} {a b : Dev} (h4 : op ≠ 24) (h5 : op ≠ 25) (w : Bool) : butN { m with Fault := w } m op a b = m := by
  have e : butK { m with Fault := w } m a = m := by
    unfold butK
    (repeat' split) <;> simp [upd_self]
  rw [butN_no h4 h5, e]
  by_cases hp : isPutK a.k
  · exact memPut_self hp
  · exact memPut_no hp
theorem butN_pulse {m : M} (hm : MOk m) {a b : Dev} (hk : a.k = 2 ∨ a.k = 3) (hb : b.k = 5) (w v : Bool) : butN (memPut (memPut m a.k a.n w) b.k b.n v) m 24 a b = m := by
  unfold butN butE butS
  rw [if_pos rfl, if_neg (by decide), butK_bits (by omega) (by rw [memPut_fault, memPut_fault])]
  obtain ⟨l1, l2, l3, l4, l5, l6, l7, l8, l9, l10⟩ := place_lt a.n
  obtain ⟨l1', l2', l3', l4', l5', l6', l7', l8', l9', l10'⟩ := place_lt b.n
  have hp := (place_bd a.k a.n).1
  have hp' := (place_bd 5 b.n).1
  have e5 := putBit_back (b := 32) (j := (place 5 b.n).toNat) (c := v) hm.E.1 (by have := hm.E.2; omega) (by omega)
  rw [hb]
  rcases hk with hk | hk <;> rw [hk] at hp ⊢
  · have e2 := putBit_back (b := 32) (j := (place 2 a.n).toNat) (c := w) hm.Y.1 (by have := hm.Y.2; omega) (by omega)
    simp [memPut, memBit, e2, e5]
  · have e2 := putBit_back (b := 64) (j := (place 3 a.n).toNat) (c := w) hm.Mw.1 (by have := hm.Mw.2; omega) (by omega)
    simp [memPut, memBit, e2, e5]
theorem butN_step {m d : M} (hm : MOk m) (hd : MOk d) {a b : Dev} (hk : a.k = 4) (hn : 0 ≤ a.n ∧ a.n < 16) (he : d = { m with S := d.S }) (hb : ∀ i : Nat, i < 16 → (i : Int) / 8 ≠ a.n / 8 → bitOf d.S i = bitOf m.S i) : butN d m 25 a b = m := by
  unfold butN butE butS
  have hf : d.Fault = m.Fault := by rw [he]
  rw [if_neg (by decide), if_pos rfl, butK_bits (by omega) hf, hk]
  have hg : a.n / 8 * 8 = 0 ∨ a.n / 8 * 8 = 8 := by omega
  have h1 := memPut_ok (k := 4) (n := a.n) (b := memBit m 4 a.n) hd
  have h2 := butG_bit m hg h1 8 (by omega)
  have h3 := (butG_ok m (a.n / 8 * 8) h1 8).S
  rw [butG_S]
  have hp : place 4 a.n = a.n := by
    unfold place
    have : ring 4 = 16 := by decide
    rw [if_neg (by omega), this]
    exact Int.emod_eq_of_lt (by omega) (by omega)
  have key : (butG m (a.n / 8 * 8) 8 (memPut d 4 a.n (memBit m 4 a.n))).S = m.S := by
    refine bits_ext h3 hm.S fun i hi => ?_
    rw [h2 i hi]
    by_cases hc : a.n / 8 * 8 ≤ i ∧ (i : Int) < a.n / 8 * 8 + (8 : Nat)
    · rw [if_pos hc]
    · rw [if_neg hc]
      have hne : (i : Int) / 8 ≠ a.n / 8 := by omega
      have e := hb i hi hne
      simp only [memPut, show ¬ (4 : Int) = 2 by decide, show ¬ (4 : Int) = 3 by decide, if_false, if_true]
      rw [bitOf_put (b := 16) hd.S.1 hd.S.2 (by omega) hi, if_neg (by omega), e]
  rw [key]
  have e4 : ∀ x, memPut d 4 a.n x = { m with S := (memPut d 4 a.n x).S } := fun x => by
    conv => lhs; rw [he]
    simp [memPut]
  rw [e4]
/-- A coil changes nothing but what it may. -/
theorem but_do {m : M} (hm : MOk m) {op : Int} {xs : List Dev} (h : coilOk op xs = true) (v : Bool) (dt : Int) : butN (doM m op (argD xs 0) (argD xs 1) (argD xs 2) v dt) m op (argD xs 0) (argD xs 1) = m := by
  unfold coilOk at h
  simp only [Bool.and_eq_true, decide_eq_true_eq] at h
  obtain ⟨⟨⟨h1, h2, h3⟩, h4⟩, h5⟩ := h
  have har : 1 ≤ arity op := by unfold arity; (repeat' split) <;> omega
  have hx0 : xs[0]? = some (argD xs 0) := by
    unfold argD
    rw [List.getElem?_eq_getElem (by omega)]
    simp [show 0 < xs.length by omega]
  have ha : devOk (argD xs 0).k (argD xs 0).n (argD xs 0).p = true := List.all_eq_true.1 h4 _ (List.mem_of_getElem? hx0)
  have e0 : xD xs 0 = argD xs 0 := rfl
  have e1 : xD (xs.drop 1) 0 = argD xs 1 := by unfold xD argD; simp [List.getD_eq_getElem?_getD, List.getElem?_drop]
  rw [e0] at h5
  generalize argD xs 0 = a at *
  generalize hbb : argD xs 1 = b at *
  generalize argD xs 2 = c at *
  have hpl : 1 ≤ a.k ∧ a.k ≤ 10 → place a.k a.n = a.n := fun hk => place_dev hk ha
  unfold coilB at h5
  unfold doM
  by_cases o21 : op = 21
  · rw [if_pos o21] at h5 ⊢
    have hk : a.k = 2 ∨ a.k = 3 := by simpa using h5
    unfold putBM
    rw [if_neg (by omega)]
    exact butN_bit hm (by omega) (by omega) (by omega) _
  rw [if_neg o21] at h5 ⊢
  by_cases o24 : op = 24
  · subst o24
    rw [e1] at h5
    simp at h5
    rw [if_pos rfl]
    unfold keepM
    rw [if_pos h5.2]
    unfold putBM
    rw [if_neg (by omega)]
    exact butN_pulse hm h5.1 h5.2 _ _
  rw [if_neg o24]
  by_cases o26 : op = 26 ∨ op = 27 ∨ op = 28
  · rw [if_pos o26]
    rw [if_neg (by omega), if_neg (by omega), if_neg (by omega), if_neg (by omega), if_pos o26] at h5
    simp at h5
    have hp := hpl (by omega)
    unfold timerM
    rw [if_pos h5.1]
    rw [h5.1] at hp
    rw [hp]
    exact butN_T (by omega) (by omega) h5.1 _
  rw [if_neg o26]
  by_cases o29 : op = 29
  · rw [if_pos o29]
    rw [if_neg (by omega), if_neg (by omega), if_neg (by omega), if_neg (by omega), if_neg (by omega), if_pos o29] at h5
    simp at h5
    have hp := hpl (by omega)
    unfold counterM
    rw [if_pos h5.1]
    rw [h5.1] at hp
    rw [hp]
    exact butN_C (by omega) (by omega) h5.1 _
  rw [if_neg o29]
  by_cases o25 : op = 25
  · subst o25
    rw [if_neg (by decide), if_neg (by decide), if_neg (by decide), if_pos rfl] at h5
    simp at h5
    have hp := hpl (by omega)
    have hn := (place_bd a.k a.n)
    have hl := (place_lt a.n).2.2.2.1
    rw [hp] at hn
    rw [h5] at hp
    rw [hp] at hl
    by_cases hv : v = true
    · rw [if_pos hv]
      unfold whenM
      rw [if_neg (by decide), if_neg (by decide), if_pos rfl, if_pos h5]
      refine butN_step hm (stepM_ok hm) h5 ⟨hn.1, hl⟩ (by unfold stepM; simp [memPut]) fun i hi hne => ?_
      have := step_bit hm (k := a.n) (i := i) ⟨hn.1, hl⟩ ⟨by omega, by omega⟩
      rw [if_neg hne] at this
      have hpi : place 4 (i : Int) = i := by
        unfold place
        have : ring 4 = 16 := by decide
        rw [if_neg (by omega), this]
        exact Int.emod_eq_of_lt (by omega) (by omega)
      unfold memBit at this
      simp only [show ¬ (4 : Int) = 1 by decide, show ¬ (4 : Int) = 2 by decide, show ¬ (4 : Int) = 3 by decide, if_false, if_true] at this
      rw [hpi, Int.toNat_natCast] at this
      exact this
    · rw [if_neg hv]
      exact butN_step hm hm h5 ⟨hn.1, hl⟩ rfl fun i hi hne => rfl
  by_cases hv : v = true
  · rw [if_pos hv]
    unfold whenM
    by_cases o22 : op = 22
    · rw [if_pos o22] at h5 ⊢
      have hk : a.k = 2 ∨ a.k = 3 ∨ a.k = 4 := by simpa using h5
      unfold putBM
      rw [if_neg (by omega)]
      exact butN_bit hm (by omega) (by omega) (by omega) _
    rw [if_neg o22] at h5 ⊢
    by_cases o23 : op = 23
    · rw [if_pos o23] at h5 ⊢
      have hk : a.k = 2 ∨ a.k = 3 ∨ a.k = 4 ∨ a.k = 7 ∨ a.k = 8 := by simpa using h5
      have hp := hpl (by omega)
      unfold resetM
      by_cases k7 : a.k = 7
      · rw [if_pos k7]
        rw [k7] at hp
        rw [hp]
        exact butN_T (by omega) (by omega) k7 _
      rw [if_neg k7]
      by_cases k8 : a.k = 8
      · rw [if_pos k8]
        rw [k8] at hp
        rw [hp]
        exact butN_C (by omega) (by omega) k8 _
      rw [if_neg k8, if_neg (by omega)]
      exact butN_bit hm (by omega) (by omega) (by omega) _
    rw [if_neg o23, if_neg o24, if_neg o25, if_neg o26, if_neg o29] at h5
    rw [if_neg o23, if_neg o25]
    have hk : (a.k = 9 ∨ a.k = 10) ∧ (op = 36 → a.k = 10) ∧ (op = 37 → a.k = 9) := by
      split at h5
      · rename_i e; simp at h5; omega
      split at h5
      · rename_i e; simp at h5; omega
      split at h5
      · rename_i e; simp at h5; omega
      · simp at h5; omega
    have hD : ∀ w, a.k = 9 → butN (memPutWhole m a.k a.n w) m op a b = m := fun w k9 => butN_D (by omega) (by omega) k9 (by have := hpl (by omega); rw [k9] at this; exact this) w
    have hR : ∀ w, a.k = 10 → butN (memPutReal m a.k a.n w) m op a b = m := fun w k9 => butN_R (by omega) (by omega) k9 (by have := hpl (by omega); rw [k9] at this; exact this) w
    have hF : butN { m with Fault := true } m op a b = m := butN_F (by omega) (by omega) true
    by_cases o30 : op = 30
    · rw [if_pos o30]
      split
      · exact hR _ (by assumption)
      · exact hD _ (by omega)
    rw [if_neg o30]
    by_cases o31 : 31 ≤ op ∧ op ≤ 35
    · rw [if_pos o31]
      unfold calcM
      split
      · exact hR _ (by assumption)
      split
      · exact hD _ (by omega)
      · exact hF
    rw [if_neg o31]
    by_cases o36 : op = 36
    · rw [if_pos o36]; exact hR _ (hk.2.1 o36)
    rw [if_neg o36]
    split
    · split
      · exact hD _ (hk.2.2 (by assumption))
      · exact hF
    · exact butN_id (by omega) (by omega)
  · rw [if_neg hv]
    exact butN_id (by omega) (by omega)
theorem do_off {m : M} {op : Int} {a b c : Dev} {dt : Int} (h : op = 22 ∨ op = 23 ∨ op = 25 ∨ 30 ≤ op) : doM m op a b c false dt = m := by
  unfold doM
  rw [if_neg (by omega), if_neg (by omega), if_neg (by omega), if_neg (by omega), if_neg (by decide)]
end Go.Sx
