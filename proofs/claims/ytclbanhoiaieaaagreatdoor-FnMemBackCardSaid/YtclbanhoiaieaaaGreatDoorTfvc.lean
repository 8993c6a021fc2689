/-
  Plainly: two memories have one text if and only if they are one. Nothing of a program stands here. Conditions: both are memories.
-/
import Derived.Test.YtclbanhoiaieaaaGreatDoorTbvc
import Derived.Test.YtclbanhoiaieaaaGreatDoorTgvc
set_option linter.unusedVariables false
set_option linter.unusedSimpArgs false
set_option maxHeartbeats 1000000
namespace Go.Sx
open Go

def numP (c : UInt8) : Bool := c == 45 || (decide (48 ≤ c.toNat) && decide (c.toNat ≤ 57))
theorem decZ_num (n : Int) : ∀ x ∈ decZ n, numP x = true := by
  intro x hx
  obtain ⟨c, r, e, hc, hr, _⟩ := decZ_head n
  rw [e] at hx
  unfold numP
  rcases List.mem_cons.1 hx with rfl | hx
  · rcases hc with h | rfl
    · simp [h]
    · rfl
  · simp [hr x hx]
theorem filt_split {p : UInt8 → Bool} {a t a' t' : Str} (h1 : ∀ x ∈ a, p x = true) (h2 : ∀ x ∈ t, p x = false) (g1 : ∀ x ∈ a', p x = true) (g2 : ∀ x ∈ t', p x = false) (h : a ++ t = a' ++ t') : a = a' ∧ t = t' := by
  have e : a = a' := by
    have e1 := congrArg (List.filter p) h
    rw [List.filter_append, List.filter_append, List.filter_eq_self.2 h1, List.filter_eq_self.2 g1, List.filter_eq_nil_iff.2 (fun x hx => by rw [h2 x hx]; simp), List.filter_eq_nil_iff.2 (fun x hx => by rw [g2 x hx]; simp), List.append_nil, List.append_nil] at e1
    exact e1
  subst e
  exact ⟨rfl, List.append_cancel_left h⟩
theorem eq_split {i j : Nat} {s t : Str} (h : decL i ++ 61 :: s = decL j ++ 61 :: t) : i = j ∧ s = t := by
  have e := congrArg (cutAt 61) h
  rw [cutAt_hit (decL_not (by decide)), cutAt_hit (decL_not (by decide))] at e
  simp only [Prod.mk.injEq] at e
  exact ⟨decL_inj e.1, e.2.1⟩
def MW.ok : MW → Prop
  | .bit k _ => k = 1 ∨ k = 2 ∨ k = 3 ∨ k = 4 ∨ k = 5
  | .real _ x => x < 18446744073709551616
  | _ => True
theorem mark_num (d : Bool) : ∀ x ∈ (if d then [33] else ([] : Str)), numP x = false := by cases d <;> decide
theorem marks_num (d l : Bool) : ∀ x ∈ (if d then [33] else []) ++ (if l then [43] else ([] : Str)), numP x = false := by cases d <;> cases l <;> decide
theorem mark_inj {d e : Bool} (h : (if d then [33] else ([] : Str)) = (if e then [33] else [])) : d = e := by cases d <;> cases e <;> first | rfl | simp at h
theorem marks_inj {d l e m : Bool} (h : (if d then [33] else []) ++ (if l then [43] else ([] : Str)) = (if e then [33] else []) ++ (if m then [43] else [])) : d = e ∧ l = m := by
  cases d <;> cases l <;> cases e <;> cases m <;> first | exact ⟨rfl, rfl⟩ | simp at h
theorem text_inj {z y : MW} (hz : z.ok) (hy : y.ok) (h : z.text = y.text) : z = y ∨ ∃ i x x', z = .real i x ∧ y = .real i x' ∧ sameF x x' := by
  cases z with
  | bit k n =>
    cases y with
    | bit k' n' =>
      obtain ⟨h1, h2⟩ := List.cons.inj h
      have e := decL_inj h2
      subst e
      rcases hz with rfl | rfl | rfl | rfl | rfl <;> rcases hy with rfl | rfl | rfl | rfl | rfl <;> first | exact Or.inl rfl | exact absurd h1 (by decide)
    | _ => exfalso; rcases hz with rfl | rfl | rfl | rfl | rfl <;> simp [MW.text, letterU] at h
  | tim i d c =>
    cases y with
    | bit k' n' => exfalso; rcases hy with rfl | rfl | rfl | rfl | rfl <;> simp [MW.text, letterU] at h
    | tim j e f =>
      obtain ⟨rfl, h2⟩ := eq_split (List.cons.inj h).2
      obtain ⟨h3, h4⟩ := filt_split (decZ_num c) (mark_num d) (decZ_num f) (mark_num e) h2
      rw [decZ_inj h3, mark_inj h4]; exact Or.inl rfl
    | _ => simp [MW.text] at h
  | cnt i d l c =>
    cases y with
    | bit k' n' => exfalso; rcases hy with rfl | rfl | rfl | rfl | rfl <;> simp [MW.text, letterU] at h
    | cnt j e m f =>
      obtain ⟨rfl, h2⟩ := eq_split (List.cons.inj h).2
      obtain ⟨h3, h4⟩ := filt_split (decZ_num c) (marks_num d l) (decZ_num f) (marks_num e m) h2
      obtain ⟨rfl, rfl⟩ := marks_inj h4
      rw [decZ_inj h3]; exact Or.inl rfl
    | _ => simp [MW.text] at h
  | dat i v =>
    cases y with
    | bit k' n' => exfalso; rcases hy with rfl | rfl | rfl | rfl | rfl <;> simp [MW.text, letterU] at h
    | dat j v' =>
      obtain ⟨rfl, h2⟩ := eq_split (List.cons.inj h).2
      rw [decZ_inj h2]; exact Or.inl rfl
    | _ => simp [MW.text] at h
  | real i x =>
    cases y with
    | bit k' n' => exfalso; rcases hy with rfl | rfl | rfl | rfl | rfl <;> simp [MW.text, letterU] at h
    | real j x' =>
      obtain ⟨rfl, h2⟩ := eq_split (List.cons.inj h).2
      exact Or.inr ⟨i, x, x', rfl, rfl, realL_inj hz hy h2⟩
    | _ => simp [MW.text] at h
  | time t =>
    cases y with
    | bit k' n' => exfalso; rcases hy with rfl | rfl | rfl | rfl | rfl <;> simp [MW.text, letterU] at h
    | time t' =>
      simp only [MW.text, List.append_cancel_left_eq] at h
      rw [decZ_inj h]; exact Or.inl rfl
    | _ => simp [MW.text] at h
  | ran =>
    cases y with
    | bit k' n' => exfalso; rcases hy with rfl | rfl | rfl | rfl | rfl <;> simp [MW.text, letterU] at h
    | ran => exact Or.inl rfl
    | _ => simp [MW.text] at h
  | fault =>
    cases y with
    | bit k' n' => exfalso; rcases hy with rfl | rfl | rfl | rfl | rfl <;> simp [MW.text, letterU] at h
    | fault => exact Or.inl rfl
    | _ => simp [MW.text] at h
theorem texts_same : ∀ {W V : List MW} {a b : M}, (∀ z ∈ W, z.ok) → (∀ z ∈ V, z.ok) → W.map MW.text = V.map MW.text → MSame a b → MSame (putW a W) (putW b V)
  | [], [], _, _, _, _, _, h => h
  | [], _ :: _, _, _, _, _, e, _ => by simp at e
  | _ :: _, [], _, _, _, _, e, _ => by simp at e
  | z :: W, y :: V, a, b, hW, hV, e, h => by
    simp only [List.map_cons, List.cons.injEq] at e
    refine texts_same (W := W) (V := V) (fun x hx => hW x (by simp [hx])) (fun x hx => hV x (by simp [hx])) e.2 ?_
    rcases text_inj (hW z (by simp)) (hV y (by simp)) e.1 with rfl | ⟨i, x, x', rfl, rfl, hs⟩
    · exact put_cong h _
    · exact put_same h hs
theorem memW_ok {m : M} (hm : MOk m) : ∀ z ∈ memW m, z.ok := by
  intro z hz
  have hb : ∀ k : Int, (k = 1 ∨ k = 2 ∨ k = 3 ∨ k = 4 ∨ k = 5) → z ∈ bitsW m k → z.ok := fun k hk h => by
    unfold bitsW at h
    obtain ⟨n, hn, rfl⟩ := List.mem_map.1 h
    exact hk
  unfold memW at hz
  simp only [List.mem_append] at hz
  rcases hz with h | h | h | h | h | h | h | h | h | h
  · exact hb 1 (by omega) h
  · exact hb 2 (by omega) h
  · exact hb 3 (by omega) h
  · exact hb 4 (by omega) h
  · exact hb 5 (by omega) h
  · obtain ⟨i, hi, rfl⟩ := List.mem_map.1 h
    trivial
  · obtain ⟨i, hi, rfl⟩ := List.mem_map.1 h
    trivial
  · obtain ⟨i, hi, rfl⟩ := List.mem_map.1 h
    trivial
  · obtain ⟨i, hi, rfl⟩ := List.mem_map.1 h
    have hi2 : i < 16 := by have := (List.mem_filter.1 hi).1; simpa using this
    exact hm.R i hi2
  · unfold endW at h
    simp only [List.mem_append] at h
    rcases h with h | h | h
    all_goals
      split at h
      · rw [List.mem_singleton] at h; subst h; trivial
      · simp at h
theorem decZ_not {n : Int} {c : UInt8} (h : numP c = false) : c ∉ decZ n := fun hm => by rw [decZ_num n c hm] at h; cases h
theorem realL_no32 (x : Nat) : (32 : UInt8) ∉ realL x := by
  have hp : ∀ m i, (32 : UInt8) ∉ plainL m i := fun m i => by
    unfold plainL
    simp only [List.mem_append, not_or]
    exact ⟨decL_not (by decide), by decide, decZ_not (by decide)⟩
  unfold realL
  split
  · decide
  · split <;> decide
  · split
    · split <;> decide
    · split
      · simp only [List.mem_cons, not_or]; exact ⟨by decide, hp _ _⟩
      · exact hp _ _
theorem text_no32 {z : MW} (hz : z.ok) : (32 : UInt8) ∉ z.text := by
  cases z with
  | bit k n =>
    have h1 : (32 : UInt8) ∉ decL n := decL_not (by decide)
    rcases hz with rfl | rfl | rfl | rfl | rfl <;> (unfold MW.text; simp only [List.mem_cons, not_or]; exact ⟨by decide, h1⟩)
  | tim i d c =>
    unfold MW.text
    simp only [List.mem_cons, List.mem_append, not_or]
    exact ⟨by decide, decL_not (by decide), by decide, decZ_not (by decide), by cases d <;> decide⟩
  | cnt i d l c =>
    unfold MW.text
    simp only [List.mem_cons, List.mem_append, not_or]
    exact ⟨by decide, decL_not (by decide), by decide, decZ_not (by decide), by cases d <;> decide, by cases l <;> decide⟩
  | dat i v =>
    unfold MW.text
    simp only [List.mem_cons, List.mem_append, not_or]
    exact ⟨by decide, decL_not (by decide), by decide, decZ_not (by decide)⟩
  | real i x =>
    unfold MW.text
    simp only [List.mem_cons, List.mem_append, not_or]
    exact ⟨by decide, decL_not (by decide), by decide, realL_no32 x⟩
  | time t =>
    unfold MW.text
    simp only [List.mem_append, not_or]
    exact ⟨by decide, decZ_not (by decide)⟩
  | ran => decide
  | fault => decide
theorem text_ne (z : MW) : z.text ≠ [] := by cases z <;> simp [MW.text]
theorem joinL_inj {c : UInt8} {ws vs : List Str} (h1 : ∀ w ∈ ws, c ∉ w) (h2 : ∀ w ∈ vs, c ∉ w) (n1 : ∀ w ∈ ws, w ≠ []) (n2 : ∀ w ∈ vs, w ≠ []) (h : joinL c ws = joinL c vs) : ws = vs := by
  have hne : ∀ {l : List Str}, (∀ w ∈ l, w ≠ []) → joinL c l = [] → l = [] := fun {l} hl e => by
    cases l with
    | nil => rfl
    | cons w r =>
      exfalso
      cases r with
      | nil => exact hl w (by simp) e
      | cons x r => rw [joinL_cons c w (by simp)] at e; simp at e
  by_cases e1 : ws = []
  · subst e1
    exact (hne n2 (by rw [← h]; rfl)).symm
  · by_cases e2 : vs = []
    · subst e2
      exact absurd (hne n1 (by rw [h]; rfl)) e1
    · have a1 := splitN_join (n := ws.length + vs.length) e1 (by omega) h1
      have a2 := splitN_join (n := ws.length + vs.length) e2 (by omega) h2
      exact a1.symm.trans ((congrArg (fun s => Lib.splitN s [c] (ws.length + vs.length)) h).trans a2)
theorem memL_words {m : M} (hm : MOk m) : (∀ w ∈ (memW m).map MW.text, (32 : UInt8) ∉ w) ∧ (∀ w ∈ (memW m).map MW.text, w ≠ []) := by
  constructor
  · intro w hw
    obtain ⟨z, hz, rfl⟩ := List.mem_map.1 hw
    exact text_no32 (memW_ok hm z hz)
  · intro w hw
    obtain ⟨z, hz, rfl⟩ := List.mem_map.1 hw
    exact text_ne z
theorem memL_inj {a b : M} (ha : MOk a) (hb : MOk b) (h : memL a = memL b) : MSame a b := by
  have e := joinL_inj (memL_words ha).1 (memL_words hb).1 (memL_words ha).2 (memL_words hb).2 h
  have := texts_same (memW_ok ha) (memW_ok hb) e (MSame_refl zeroM)
  rwa [putW_mem ha, putW_mem hb] at this
theorem same_zero {x y : Nat} (h : sameF x y) : (x = 0) ↔ (y = 0) := by
  rcases h with ⟨rfl, _⟩ | ⟨h1, h2⟩
  · exact Iff.rfl
  · constructor
    · rintro rfl; exact absurd h1 (by decide)
    · rintro rfl; exact absurd h2 (by decide)
theorem memL_same {a b : M} (h : MSame a b) : memL a = memL b := by
  have e : a = { b with R := a.R } := by
    cases a; cases b
    obtain ⟨h1, h2, h3, h4, h5, h6, h7, h8, _, h10, h11, h12⟩ := h
    simp only at h1 h2 h3 h4 h5 h6 h7 h8 h10 h11 h12
    subst h1 h2 h3 h4 h5 h6 h7 h8 h10 h11 h12
    rfl
  have hr : (realW a).map MW.text = (realW b).map MW.text := by
    unfold realW
    rw [List.map_map, List.map_map]
    have hf : (List.range 16).filter (fun i => decide (a.R i ≠ 0)) = (List.range 16).filter (fun i => decide (b.R i ≠ 0)) := by
      refine List.filter_congr fun i hi => ?_
      have := same_zero (h.R i (by simpa using hi))
      simp [this]
    rw [hf]
    refine List.map_congr_left fun i hi => ?_
    have hi2 : i < 16 := by have := (List.mem_filter.1 hi).1; simpa using this
    show 82 :: (decL i ++ 61 :: realL (a.R i)) = 82 :: (decL i ++ 61 :: realL (b.R i))
    rw [realL_same (h.R i hi2)]
  have hw : (memW a).map MW.text = (memW b).map MW.text := by
    unfold memW
    simp only [List.map_append]
    rw [hr]
    rw [e]
    rfl
  unfold memL
  rw [hw]
end Go.Sx
