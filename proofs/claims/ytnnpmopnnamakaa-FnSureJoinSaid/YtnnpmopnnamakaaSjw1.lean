/-
  Verified lists: put one behind the other, and cut at their rungs. Plain Lean: nothing of a program stands here. Conditions: none.
-/
import Derived.Test.YtnnpmopnnamakaaSvw1
set_option linter.unusedVariables false
set_option linter.unusedSimpArgs false
namespace Go.Sx
open Go

structure VS where
  b : Int
  f : Int
  base : Bool
  coil : Bool
def zS : VS := ⟨0, 0, false, false⟩
def nxS (x : Ins) (s : VS) : VS := ⟨s.b + dB x.code, s.f + dF x.code, x.code != 11 && (s.base || x.code == 10 || x.code == 7), x.code == 10⟩
def runV : List Ins → VS → Option VS
  | [], s => some s
  | x :: r, s => if wrongN x s.b s.f s.base s.coil = 0 then runV r (nxS x s) else none
theorem runV_app : ∀ (a b : List Ins) (s : VS), runV (a ++ b) s = (runV a s).bind (runV b)
  | [], b, s => rfl
  | x :: a, b, s => by
    rw [List.cons_append, runV, runV]
    split
    · exact runV_app a b _
    · rfl
structure VOk (s : VS) : Prop where
  fine : Fine s.b s.f
  z : s.b = 0 → s = zS
theorem vok_zero : VOk zS := ⟨fine_zero, fun _ => rfl⟩
theorem nx_pos {x : Ins} {s : VS} (h : VOk s) (hw : wrongN x s.b s.f s.base s.coil = 0) (hc : x.code ≠ 11) : 1 ≤ (nxS x s).b := by
  obtain ⟨_, _, hi⟩ := wrong_step hw h.fine
  have h0 := h.fine.b0
  have hcode := insOk_code hi
  unfold wrongN at hw
  rw [hi] at hw
  simp only [Bool.true_eq_false, if_false] at hw
  split at hw
  · omega
  rename_i p1
  clear hw
  unfold needsN at p1
  unfold nxS dB
  simp only
  split at p1 <;> (repeat' split) <;> (try split at p1) <;> omega
theorem vok_step {x : Ins} {s : VS} (h : VOk s) (hw : wrongN x s.b s.f s.base s.coil = 0) : VOk (nxS x s) := by
  obtain ⟨g1, g2, g3⟩ := wrong_step hw h.fine
  refine ⟨g1, fun e => ?_⟩
  by_cases hc : x.code = 11
  · obtain ⟨e1, e2⟩ := g2 hc
    unfold nxS
    rw [e1, e2, hc]
    rfl
  · have := nx_pos h hw hc; omega
theorem runV_ok : ∀ {xs : List Ins} {s t : VS}, VOk s → runV xs s = some t → VOk t
  | [], s, t, h, e => by rw [runV] at e; cases e; exact h
  | x :: r, s, t, h, e => by
    rw [runV] at e
    split at e
    · rename_i hw; exact runV_ok (vok_step h hw) e
    · cases e
def stAt (xs : List Ins) (i : Nat) : VS := ⟨hB xs i, hF xs i, baseN xs i, lastC xs i == 10⟩
theorem stAt_succ {xs : List Ins} {i : Nat} {x : Ins} (h : xs[i]? = some x) : stAt xs (i + 1) = nxS x (stAt xs i) := by
  unfold stAt nxS
  rw [hB_succ h, hF_succ h, baseN_succ h, lastC_succ h]
theorem runV_drop {xs : List Ins} : ∀ (n i : Nat), i + n = xs.length → (∀ k y, i ≤ k → xs[k]? = some y → wrAt xs k y = 0) → runV (xs.drop i) (stAt xs i) = some (stAt xs xs.length)
  | 0, i, h, _ => by
    rw [List.drop_eq_nil_of_le (by omega), show i = xs.length by omega]; rfl
  | n + 1, i, h, hw => by
    have hx : xs[i]? = some (xs[i]'(by omega)) := by simp [show i < xs.length by omega]
    have := hw i _ (Nat.le_refl _) hx
    rw [List.drop_eq_getElem_cons (by omega), runV]
    rw [if_pos (by exact this), ← stAt_succ hx]
    exact runV_drop n (i + 1) (by omega) fun k y hk hy => hw k y (by omega) hy
theorem drop_runV {xs : List Ins} {t : VS} : ∀ (n i : Nat), i + n = xs.length → runV (xs.drop i) (stAt xs i) = some t → (∀ k y, i ≤ k → xs[k]? = some y → wrAt xs k y = 0) ∧ t = stAt xs xs.length
  | 0, i, h, e => by
    rw [List.drop_eq_nil_of_le (by omega), runV] at e
    refine ⟨fun k y hk hy => ?_, ?_⟩
    · have := (List.getElem?_eq_some_iff.1 hy).1; omega
    · cases e; rw [show i = xs.length by omega]
  | n + 1, i, h, e => by
    have hx : xs[i]? = some (xs[i]'(by omega)) := by simp [show i < xs.length by omega]
    rw [List.drop_eq_getElem_cons (by omega), runV] at e
    split at e
    · rename_i hw
      rw [← stAt_succ hx] at e
      obtain ⟨h1, h2⟩ := drop_runV n (i + 1) (by omega) e
      refine ⟨fun k y hk hy => ?_, h2⟩
      by_cases hki : k = i
      · subst hki
        rw [hx] at hy
        cases hy; exact hw
      · exact h1 k y (by omega) hy
    · cases e
theorem sure_run {xs : List Ins} : (sureN xs).1 = 0 ↔ xs.length ≤ 1000 ∧ runV xs zS = some zS := by
  constructor
  · intro h
    obtain ⟨h1, h2, h3, h4, h5⟩ := sureN_zero h
    have := runV_drop (xs := xs) xs.length 0 (by omega) fun k y _ hy => h2 k y hy
    have e : stAt xs 0 = zS := rfl
    rw [e, List.drop_zero] at this
    have hz := (runV_ok vok_zero this).z h3
    rw [hz] at this
    exact ⟨h1, this⟩
  · rintro ⟨h1, h2⟩
    obtain ⟨h3, h4⟩ := drop_runV (xs := xs) (t := zS) xs.length 0 (by omega) (by rw [List.drop_zero]; exact h2)
    have hb : hB xs xs.length = 0 := by
      have := congrArg VS.b h4
      exact this.symm
    unfold sureN
    rw [if_pos h1]
    rcases sureGo_spec xs xs.length 0 (by omega) with ⟨j, x, g1, g2, g3, g4, g5⟩ | ⟨g1, g2⟩
    · exact absurd (h3 j x g1 g2) g3
    · rw [g2, if_neg (by simp [hb])]
theorem sure_zero_iff {xs : List Ins} : sureN xs = (0, 0) ↔ (sureN xs).1 = 0 := ⟨fun h => by rw [h], fun h => (sureN_zero h).2.2.2.2⟩
def cutG : List Ins → List Ins → List (List Ins)
  | [], _ => []
  | x :: r, cur => if x.code = 11 then (cur ++ [x]) :: cutG r [] else cutG r (cur ++ [x])
def rungsN (xs : List Ins) : List (List Ins) := if (sureN xs).1 = 0 then cutG xs [] else []
def NoEnd (xs : List Ins) : Prop := ∀ x ∈ xs, x.code ≠ 11
theorem noEnd_snoc {c : List Ins} {x : Ins} (h : NoEnd c) (hx : x.code ≠ 11) : NoEnd (c ++ [x]) := by
  intro y hy
  rcases List.mem_append.1 hy with h1 | h1
  · exact h y h1
  · rw [List.mem_singleton] at h1; rw [h1]; exact hx
theorem pos_noEnd : ∀ {c : List Ins} {s t : VS}, VOk s → runV c s = some t → NoEnd c → c ≠ [] → 1 ≤ t.b
  | [], _, _, _, _, _, h => absurd rfl h
  | x :: r, s, t, h, e, hn, _ => by
    rw [runV] at e
    split at e
    · rename_i hw
      have hx : x.code ≠ 11 := hn x (by simp)
      by_cases hr : r = []
      · subst hr
        rw [runV] at e
        cases e
        exact nx_pos h hw hx
      · exact pos_noEnd (vok_step h hw) e (fun y hy => hn y (by simp [hy])) hr
    · cases e
theorem run_snoc {c : List Ins} {x : Ins} {s t : VS} (h : runV c s = some t) (hw : wrongN x t.b t.f t.base t.coil = 0) : runV (c ++ [x]) s = some (nxS x t) := by
  rw [runV_app, h]
  show runV [x] t = _
  rw [runV, if_pos hw]; rfl
theorem end_zero {x : Ins} {s : VS} (h : VOk s) (hw : wrongN x s.b s.f s.base s.coil = 0) (hc : x.code = 11) : nxS x s = zS :=
  (vok_step h hw).z ((wrong_step hw h.fine).2.1 hc).1
theorem cutG_spec : ∀ (xs cur : List Ins) (s : VS), NoEnd cur → runV cur zS = some s → runV xs s = some zS →
    (∀ r ∈ cutG xs cur, runV r zS = some zS ∧ ∃ c e, r = c ++ [e] ∧ NoEnd c ∧ e.code = 11) ∧ (cutG xs cur).flatten = cur ++ xs
  | [], cur, s, hn, h1, h2 => by
    rw [runV] at h2
    cases h2
    have : cur = [] := Classical.byContradiction fun hc => by
      have := pos_noEnd vok_zero h1 hn hc
      have e : zS.b = 0 := rfl
      omega
    subst this
    exact ⟨fun r hr => by simp [cutG] at hr, rfl⟩
  | x :: xs, cur, s, hn, h1, h2 => by
    rw [runV] at h2
    split at h2
    · rename_i hw
      have hs := runV_ok vok_zero h1
      have h3 := run_snoc h1 hw
      rw [cutG]
      by_cases hc : x.code = 11
      · rw [if_pos hc]
        have hz := end_zero hs hw hc
        rw [hz] at h2 h3
        obtain ⟨g1, g2⟩ := cutG_spec xs [] zS (fun y hy => by simp at hy) rfl h2
        refine ⟨fun r hr => ?_, ?_⟩
        · rcases List.mem_cons.1 hr with rfl | hr
          · exact ⟨h3, cur, x, rfl, hn, hc⟩
          · exact g1 r hr
        · rw [List.flatten_cons, g2]; simp
      · rw [if_neg hc]
        obtain ⟨g1, g2⟩ := cutG_spec xs (cur ++ [x]) _ (noEnd_snoc hn hc) h3 h2
        exact ⟨g1, by rw [g2]; simp⟩
    · cases h2
theorem cutG_app : ∀ (a b cur : List Ins) (s : VS), NoEnd cur → runV cur zS = some s → runV a s = some zS → cutG (a ++ b) cur = cutG a cur ++ cutG b []
  | [], b, cur, s, hn, h1, h2 => by
    rw [runV] at h2
    cases h2
    have : cur = [] := Classical.byContradiction fun hc => by
      have := pos_noEnd vok_zero h1 hn hc
      have e : zS.b = 0 := rfl
      omega
    subst this
    rfl
  | x :: a, b, cur, s, hn, h1, h2 => by
    rw [runV] at h2
    split at h2
    · rename_i hw
      have hs := runV_ok vok_zero h1
      have h3 := run_snoc h1 hw
      rw [List.cons_append, cutG, cutG]
      by_cases hc : x.code = 11
      · rw [if_pos hc, if_pos hc]
        have hz := end_zero hs hw hc
        rw [hz] at h2
        rw [cutG_app a b [] zS (fun y hy => by simp at hy) rfl h2]; rfl
      · rw [if_neg hc, if_neg hc]
        exact cutG_app a b _ _ (noEnd_snoc hn hc) h3 h2
    · cases h2
theorem cutG_one {e : Ins} (he : e.code = 11) : ∀ (c cur : List Ins), NoEnd c → cutG (c ++ [e]) cur = [cur ++ c ++ [e]]
  | [], cur, _ => by simp [cutG, he]
  | x :: c, cur, h => by
    rw [List.cons_append, cutG, if_neg (h x (by simp)), cutG_one he c _ fun y hy => h y (by simp [hy])]
    simp
theorem len_mem_flat {l : List (List Ins)} {r : List Ins} (h : r ∈ l) : r.length ≤ l.flatten.length := by
  induction l with
  | nil => simp at h
  | cons a l ih =>
    rw [List.flatten_cons, List.length_append]
    rcases List.mem_cons.1 h with rfl | h
    · omega
    · have := ih h; omega
theorem rung_sure {a r : List Ins} (h : r ∈ rungsN a) : sureN r = (0, 0) ∧ rungsN r = [r] := by
  unfold rungsN at h
  split at h
  · rename_i ha
    obtain ⟨h1, h2⟩ := sure_run.1 ha
    obtain ⟨g1, g2⟩ := cutG_spec a [] zS (fun y hy => by simp at hy) rfl h2
    obtain ⟨k1, c, e, rfl, k2, k3⟩ := g1 r h
    have hl := len_mem_flat h
    rw [g2, List.nil_append] at hl
    have hs : (sureN (c ++ [e])).1 = 0 := sure_run.2 ⟨by omega, k1⟩
    refine ⟨sure_zero_iff.2 hs, ?_⟩
    unfold rungsN
    rw [if_pos hs, cutG_one k3 c [] k2]; rfl
  · simp at h
theorem rungs_flat {a : List Ins} (h : (sureN a).1 = 0) : (rungsN a).flatten = a := by
  unfold rungsN
  rw [if_pos h]
  have := (cutG_spec a [] zS (fun y hy => by simp at hy) rfl (sure_run.1 h).2).2
  simpa using this
theorem rungs_none {a : List Ins} (h : (sureN a).1 ≠ 0) : rungsN a = [] := by unfold rungsN; rw [if_neg h]
theorem sure_join {a b : List Ins} (ha : (sureN a).1 = 0) (hb : (sureN b).1 = 0) (hl : a.length + b.length ≤ 1000) : sureN (a ++ b) = (0, 0) ∧ rungsN (a ++ b) = rungsN a ++ rungsN b := by
  obtain ⟨a1, a2⟩ := sure_run.1 ha
  obtain ⟨b1, b2⟩ := sure_run.1 hb
  have h : (sureN (a ++ b)).1 = 0 := sure_run.2 ⟨by rw [List.length_append]; omega, by rw [runV_app, a2]; exact b2⟩
  refine ⟨sure_zero_iff.2 h, ?_⟩
  unfold rungsN
  rw [if_pos h, if_pos ha, if_pos hb]
  exact cutG_app a b [] zS (fun y hy => by simp at hy) rfl a2
theorem rungs_len {a r : List Ins} (h : r ∈ rungsN a) : r.length ≤ a.length ∧ ∀ x ∈ r, x ∈ a := by
  have ha : (sureN a).1 = 0 := Classical.byContradiction fun hc => by rw [rungs_none hc] at h; simp at h
  have := rungs_flat ha
  refine ⟨by rw [← this]; exact len_mem_flat h, fun x hx => ?_⟩
  rw [← this]
  exact List.mem_flatten.2 ⟨r, h, hx⟩
end Go.Sx
