/-
  Plainly: the text of a real number, read. Nothing of a program stands here. Conditions: none.
-/
import Derived.Test.YtclbanhoiaieaaaGreatDoorTfvc
import Derived.Test.YtclbanhoiaieaaaGreatDoorMcvc
import Derived.Test.YtclbanhoiaieaaaGreatDoorAvc
import Derived.Lib.ParseIntB
import Derived.Lib.Strings
set_option linter.unusedVariables false
set_option linter.unusedSimpArgs false
set_option maxHeartbeats 1000000
namespace Go.Sx
open Go Go.Proofs.YtclbanhoiaieaaaGreatDoor

def MW.fit : MW → Prop
  | .bit k n => (k = 1 ∨ k = 2 ∨ k = 3 ∨ k = 4 ∨ k = 5) ∧ (n : Int) < devSize k
  | .tim i _ c => i < 16 ∧ 0 ≤ c ∧ c < 65536
  | .cnt i _ _ c => i < 16 ∧ 0 ≤ c ∧ c < 65536
  | .dat i v => i < 32 ∧ -32768 ≤ v ∧ v < 32768
  | .real i x => i < 16 ∧ x < 18446744073709551616
  | .time t => 0 ≤ t ∧ t < 4294967296
  | .ran => True
  | .fault => True
theorem memW_fit {m : M} (hm : MOk m) : ∀ z ∈ memW m, z.fit := by
  intro z hz
  have hb : ∀ k : Int, (k = 1 ∨ k = 2 ∨ k = 3 ∨ k = 4 ∨ k = 5) → z ∈ bitsW m k → z.fit := fun k hk h => by
    unfold bitsW at h
    obtain ⟨n, hn, rfl⟩ := List.mem_map.1 h
    have h1 := (List.mem_filter.1 hn).1
    rw [List.mem_range] at h1
    have := devSize_pos (k := k) (by omega) (by omega)
    exact ⟨hk, by omega⟩
  unfold memW at hz
  simp only [List.mem_append] at hz
  rcases hz with h | h | h | h | h | h | h | h | h | h
  · exact hb 1 (by omega) h
  · exact hb 2 (by omega) h
  · exact hb 3 (by omega) h
  · exact hb 4 (by omega) h
  · exact hb 5 (by omega) h
  · obtain ⟨i, hi, rfl⟩ := List.mem_map.1 h
    have hi2 : i < 16 := by have := (List.mem_filter.1 hi).1; simpa using this
    have := hm.T i hi2
    exact ⟨hi2, this.1, this.2⟩
  · obtain ⟨i, hi, rfl⟩ := List.mem_map.1 h
    have hi2 : i < 16 := by have := (List.mem_filter.1 hi).1; simpa using this
    have := hm.C i hi2
    exact ⟨hi2, this.1, this.2⟩
  · obtain ⟨i, hi, rfl⟩ := List.mem_map.1 h
    have hi2 : i < 32 := by have := (List.mem_filter.1 hi).1; simpa using this
    have := hm.D i hi2
    exact ⟨hi2, this.1, this.2⟩
  · obtain ⟨i, hi, rfl⟩ := List.mem_map.1 h
    have hi2 : i < 16 := by have := (List.mem_filter.1 hi).1; simpa using this
    exact ⟨hi2, hm.R i hi2⟩
  · unfold endW at h
    simp only [List.mem_append] at h
    rcases h with h | h | h
    all_goals
      split at h
      · rw [List.mem_singleton] at h; subst h; first | exact hm.Time | trivial
      · simp at h

def WordTo (m : M) (t : Str) (m' : M) : Prop := MOk m' ∧ (t = [] → m' = m) ∧ ∀ z : MW, z.fit → z.text = t → MSame m' (MW.put m z)
def MemTo (ws : List Str) (i : Nat) (m : M) : Prop :=
  MOk m ∧ ((∀ w ∈ ws.take i, w = []) → m = zeroM) ∧ ∀ zs : List MW, (∀ z ∈ zs, z.fit) → ws.take i = zs.map MW.text → MSame m (putW zeroM zs)
theorem MemTo.zero (ws : List Str) : MemTo ws 0 zeroM := ⟨zeroM_ok, fun _ => rfl, fun zs _ h => by
  have : zs = [] := by cases zs with
    | nil => rfl
    | cons z r => simp at h
  subst this; exact MSame_refl _⟩
theorem MemTo.congr {ws vs : List Str} {i : Nat} {m : M} (h : ws.take i = vs.take i) (hm : MemTo ws i m) : MemTo vs i m := by
  unfold MemTo at *
  rwa [← h]
theorem MemTo.step {ws : List Str} {i : Nat} {m m' : M} {t : Str} (h : MemTo ws i m) (ht : ws[i]? = some t) (hw : WordTo m t m') : MemTo ws (i + 1) m' := by
  obtain ⟨h1, h2, h3⟩ := h
  obtain ⟨g1, g2, g3⟩ := hw
  have e : ws.take (i + 1) = ws.take i ++ [t] := by rw [List.take_add_one, ht]; rfl
  refine ⟨g1, fun ha => ?_, fun zs hz hzs => ?_⟩
  · rw [e] at ha
    rw [g2 (ha t (by simp)), h2 fun w hw => ha w (by simp [hw])]
  · rw [e] at hzs
    obtain ⟨ys, y, hy, e1, e2⟩ := List.map_eq_append_iff.1 hzs.symm
    have hy1 : ∃ x, y = [x] := by
      cases y with
      | nil => simp at e2
      | cons x r => cases r with
        | nil => exact ⟨x, rfl⟩
        | cons a b => simp at e2
    obtain ⟨x, rfl⟩ := hy1
    simp only [List.map_cons, List.map_nil, List.cons.injEq, and_true] at e2
    subst hy
    have k1 := h3 ys (fun z hz' => hz z (by simp [hz'])) e1.symm
    have k2 := g3 x (hz x (by simp)) e2
    rw [putW_app]
    exact k2.trans (put_cong k1 x)
theorem MemTo.fin {t : Str} {ws : List Str} {m : M} (h : MemTo ws ws.length m) (hws : ws = cutL 32 t ∨ ws = wordsL t) {x : M} (hx : MOk x) (ht : memL x = t) : MSame m x := by
  obtain ⟨h1, h2, h3⟩ := h
  rw [List.take_length] at h2 h3
  have hw := memL_words hx
  by_cases h0 : memW x = []
  · have ht0 : t = [] := by rw [← ht]; unfold memL; rw [h0]; rfl
    have hm : m = zeroM := h2 fun w hw => by
      rcases hws with e | e
      · rw [e, ht0] at hw; simpa [cutL] using hw
      · rw [e, ht0] at hw; simp [wordsL, cutL] at hw
    have hz := putW_mem hx
    rw [h0] at hz
    rw [hm, ← hz]; exact MSame_refl _
  · have hc : cutL 32 t = (memW x).map MW.text := by
      rw [← ht]
      exact cutL_join (by simpa using h0) hw.1
    have e : ws = (memW x).map MW.text := by
      rcases hws with e | e
      · rw [e, hc]
      · rw [e]
        unfold wordsL
        rw [hc]
        exact List.filter_eq_self.2 fun w hw' => by simpa using hw.2 w hw'
    have := h3 (memW x) (memW_fit hx) e
    rwa [putW_mem hx] at this

/-! ### how long a text is -/
theorem text_short {z : MW} (hz : z.fit) : z.text.length ≤ 65 ∧ ((∀ i x, z ≠ .real i x) → z.text.length ≤ 16) := by
  have d2 : ∀ n : Nat, n < 100 → (decL n).length ≤ 2 := fun n h => decL_len n 1 (by omega)
  have z5 : ∀ n : Int, n.natAbs < 100000 → (decZ n).length ≤ 6 := fun n h => decZ_short (k := 4) (by omega)
  cases z with
  | bit k n =>
    have h2 := d2 n (by have := hz.2; have := devSize_bd k; omega)
    simp only [MW.text, List.length_cons]
    exact ⟨by omega, fun _ => by omega⟩
  | tim i d c =>
    obtain ⟨h1, h2, h3⟩ := hz
    have a := d2 i (by omega)
    have b := z5 c (by omega)
    cases d <;> simp only [MW.text, List.length_cons, List.length_append, if_true, Bool.false_eq_true, if_false, List.length_nil] <;> exact ⟨by omega, fun _ => by omega⟩
  | cnt i d l c =>
    obtain ⟨h1, h2, h3⟩ := hz
    have a := d2 i (by omega)
    have b := z5 c (by omega)
    cases d <;> cases l <;> simp only [MW.text, List.length_cons, List.length_append, if_true, Bool.false_eq_true, if_false, List.length_nil] <;> exact ⟨by omega, fun _ => by omega⟩
  | dat i v =>
    obtain ⟨h1, h2, h3⟩ := hz
    have a := d2 i (by omega)
    have b := z5 v (by omega)
    simp only [MW.text, List.length_cons, List.length_append]
    exact ⟨by omega, fun _ => by omega⟩
  | real i x =>
    have a := d2 i (by have := hz.1; omega)
    have b := realL_len x
    simp only [MW.text, List.length_cons, List.length_append]
    exact ⟨by omega, fun h => absurd rfl (h i x)⟩
  | time t =>
    obtain ⟨h1, h2⟩ := hz
    have b : (decZ t).length ≤ 11 := decZ_short (k := 9) (by omega)
    simp only [MW.text, List.length_append, List.length_cons, List.length_nil]
    exact ⟨by omega, fun _ => by omega⟩
  | ran => exact ⟨by decide, fun _ => by decide⟩
  | fault => exact ⟨by decide, fun _ => by decide⟩
theorem texts_short {l : List MW} {b n : Nat} (hn : l.length ≤ n) (h : ∀ z ∈ l, z.text.length ≤ b) : ((l.map MW.text).map (· ++ [(32 : UInt8)])).flatten.length ≤ n * (b + 1) := by
  refine Nat.le_trans (flat_len (b := b + 1) fun w hw => ?_) ?_
  · rw [List.map_map] at hw
    obtain ⟨z, hz, rfl⟩ := List.mem_map.1 hw
    have := h z hz
    simp; omega
  · simp only [List.length_map]; exact Nat.mul_le_mul_right _ hn
theorem memL_short {m : M} (hm : MOk m) : (memL m).length ≤ 6000 := by
  have hf := memW_fit hm
  refine Nat.le_trans (joinL_len 32 _) ?_
  have fl : ∀ (n : Nat) (p : Nat → Bool), ((List.range n).filter p).length ≤ n := fun n p => Nat.le_trans (List.length_filter_le _ _) (by simp)
  have hb : ∀ k : Int, (k = 1 ∨ k = 2 ∨ k = 3 ∨ k = 4 ∨ k = 5) → (∀ z ∈ bitsW m k, z ∈ memW m) → (((bitsW m k).map MW.text).map (· ++ [(32 : UInt8)])).flatten.length ≤ (devSize k).toNat * 17 := fun k hk hs =>
    texts_short (by unfold bitsW; rw [List.length_map]; exact fl _ _) fun z hz => (text_short (hf z (hs z hz))).2 fun i x e => by
      unfold bitsW at hz
      obtain ⟨n, _, rfl⟩ := List.mem_map.1 hz
      cases e
  have b1 := hb 1 (by omega) fun z hz => by unfold memW; simp [hz]
  have b2 := hb 2 (by omega) fun z hz => by unfold memW; simp [hz]
  have b3 := hb 3 (by omega) fun z hz => by unfold memW; simp [hz]
  have b4 := hb 4 (by omega) fun z hz => by unfold memW; simp [hz]
  have b5 := hb 5 (by omega) fun z hz => by unfold memW; simp [hz]
  have c1 : (((timW m).map MW.text).map (· ++ [(32 : UInt8)])).flatten.length ≤ 16 * 17 := texts_short (by unfold timW; rw [List.length_map]; exact fl _ _) fun z hz =>
    (text_short (hf z (by unfold memW; simp [hz]))).2 fun i x e => by unfold timW at hz; obtain ⟨n, _, rfl⟩ := List.mem_map.1 hz; cases e
  have c2 : (((cntW m).map MW.text).map (· ++ [(32 : UInt8)])).flatten.length ≤ 16 * 17 := texts_short (by unfold cntW; rw [List.length_map]; exact fl _ _) fun z hz =>
    (text_short (hf z (by unfold memW; simp [hz]))).2 fun i x e => by unfold cntW at hz; obtain ⟨n, _, rfl⟩ := List.mem_map.1 hz; cases e
  have c3 : (((datW m).map MW.text).map (· ++ [(32 : UInt8)])).flatten.length ≤ 32 * 17 := texts_short (by unfold datW; rw [List.length_map]; exact fl _ _) fun z hz =>
    (text_short (hf z (by unfold memW; simp [hz]))).2 fun i x e => by unfold datW at hz; obtain ⟨n, _, rfl⟩ := List.mem_map.1 hz; cases e
  have c4 : (((realW m).map MW.text).map (· ++ [(32 : UInt8)])).flatten.length ≤ 16 * 66 := texts_short (by unfold realW; rw [List.length_map]; exact fl _ _) fun z hz =>
    (text_short (hf z (by unfold memW; simp [hz]))).1
  have c5 : (((endW m).map MW.text).map (· ++ [(32 : UInt8)])).flatten.length ≤ 3 * 17 := texts_short (by unfold endW; (repeat' split) <;> simp) fun z hz =>
    (text_short (hf z (by unfold memW; simp [hz]))).2 fun i x e => by
      subst e
      unfold endW at hz
      simp only [List.mem_append] at hz
      rcases hz with h | h | h
      all_goals
        split at h
        · rw [List.mem_singleton] at h; cases h
        · simp at h
  have s1 : devSize 1 = 32 := rfl
  have s2 : devSize 2 = 32 := rfl
  have s3 : devSize 3 = 64 := rfl
  have s4 : devSize 4 = 16 := rfl
  have s5 : devSize 5 = 32 := rfl
  rw [s1] at b1
  rw [s2] at b2
  rw [s3] at b3
  rw [s4] at b4
  rw [s5] at b5
  have t32 : (32 : Int).toNat = 32 := rfl
  have t64 : (64 : Int).toNat = 64 := rfl
  have t16 : (16 : Int).toNat = 16 := rfl
  rw [t32] at b1 b2 b5
  rw [t64] at b3
  rw [t16] at b4
  unfold memW
  simp only [List.map_append, List.flatten_append, List.length_append]
  omega

/-! ### what is read -/
def ReadsTo (t : Str) (m : M) (ok : Bool) : Prop := MOk m ∧ (ok = true → memL m = t) ∧ (ok = false → m = zeroM ∧ ∀ x, MOk x → memL x ≠ t)
theorem reads_yes {t : Str} {m : M} (hm : MOk m) (h : memL m = t) : ReadsTo t m true := ⟨hm, fun _ => h, fun e => by cases e⟩
theorem reads_no {t : Str} {m : M} (hr : ∀ x, MOk x → memL x = t → MSame m x) (h : memL m ≠ t) : ReadsTo t zeroM false :=
  ⟨zeroM_ok, fun e => (by cases e), fun _ => ⟨rfl, fun x hx e => h ((memL_same (hr x hx e)).trans e)⟩⟩
theorem reads_long {t : Str} (h : 6000 < t.length) : ReadsTo t zeroM false :=
  ⟨zeroM_ok, fun e => (by cases e), fun _ => ⟨rfl, fun x hx e => by have := memL_short hx; rw [e] at this; omega⟩⟩
theorem ReadsTo.uniq {t : Str} {a b : M} {p q : Bool} (ha : ReadsTo t a p) (hb : ReadsTo t b q) : p = q ∧ MSame a b := by
  obtain ⟨a1, a2, a3⟩ := ha
  obtain ⟨b1, b2, b3⟩ := hb
  cases p <;> cases q
  · rw [(a3 rfl).1, (b3 rfl).1]; exact ⟨rfl, MSame_refl _⟩
  · exact absurd (b2 rfl) ((a3 rfl).2 b b1)
  · exact absurd (a2 rfl) ((b3 rfl).2 a a1)
  · exact ⟨rfl, memL_inj a1 b1 ((a2 rfl).trans (b2 rfl).symm)⟩
theorem ReadsTo.back {m b : M} {p : Bool} (hm : MOk m) (h : ReadsTo (memL m) b p) : p = true ∧ MSame b m := by
  have := h.uniq (reads_yes hm rfl)
  exact this

/-! ### the parts of a word -/
def markS (d : Bool) (c : UInt8) : Str := if d then [c] else []
theorem text_parts {z : MW} (hz : z.fit) : cutAt 61 z.text = match z with
    | .bit k n => (devL ⟨k, n, 0⟩, [], false)
    | .tim i d c => (devL ⟨7, i, 0⟩, decZ c ++ markS d 33, true)
    | .cnt i d l c => (devL ⟨8, i, 0⟩, decZ c ++ (markS d 33 ++ markS l 43), true)
    | .dat i v => (devL ⟨9, i, 0⟩, decZ v, true)
    | .real i x => (devL ⟨10, i, 0⟩, realL x, true)
    | .time t => ([116, 105, 109, 101], decZ t, true)
    | .ran => ([114, 97, 110], [], false)
    | .fault => ([102, 97, 117, 108, 116], [], false) := by
  have hdev : ∀ (k : Int) (n : Nat), (1 ≤ k ∧ k ≤ 10) → (n : Int) < devSize k → devL ⟨k, n, 0⟩ = letterU k :: decL n := fun k n hk hn => by
    have hd : dOk ⟨k, n, 0⟩ = true := (devOk_iff k n 0).2 (Or.inl ⟨hk.1, hk.2, by omega, hn, rfl⟩)
    unfold devL
    rw [if_pos hd]
    unfold devT
    simp only
    rw [if_neg (by omega), if_neg (by omega), if_neg (by omega)]
    unfold decZ
    rw [if_neg (by omega), Int.natAbs_natCast]
  have h61 : ∀ n : Nat, (61 : UInt8) ∉ decL n := fun n => decL_not (by decide)
  cases z with
  | bit k n =>
    have e := hdev k n (by have := hz.1; omega) hz.2
    show cutAt 61 (letterU k :: decL n) = _
    rw [← e]
    refine cutAt_miss ?_
    rw [e]
    simp only [List.mem_cons, not_or]
    refine ⟨?_, h61 n⟩
    rcases hz.1 with rfl | rfl | rfl | rfl | rfl <;> decide
  | tim i d c =>
    have e := hdev 7 i (by omega) (by have := hz.1; have : devSize 7 = 16 := rfl; omega)
    show cutAt 61 (84 :: (decL i ++ 61 :: (decZ c ++ markS d 33))) = _
    simp only
    rw [e]
    exact cutAt_hit (a := 84 :: decL i) (by simp only [List.mem_cons, not_or]; exact ⟨by decide, h61 i⟩)
  | cnt i d l c =>
    have e := hdev 8 i (by omega) (by have := hz.1; have : devSize 8 = 16 := rfl; omega)
    show cutAt 61 (67 :: (decL i ++ 61 :: (decZ c ++ (markS d 33 ++ markS l 43)))) = _
    simp only
    rw [e]
    exact cutAt_hit (a := 67 :: decL i) (by simp only [List.mem_cons, not_or]; exact ⟨by decide, h61 i⟩)
  | dat i v =>
    have e := hdev 9 i (by omega) (by have := hz.1; have : devSize 9 = 32 := rfl; omega)
    show cutAt 61 (68 :: (decL i ++ 61 :: decZ v)) = _
    simp only
    rw [e]
    exact cutAt_hit (a := 68 :: decL i) (by simp only [List.mem_cons, not_or]; exact ⟨by decide, h61 i⟩)
  | real i x =>
    have e := hdev 10 i (by omega) (by have := hz.1; have : devSize 10 = 16 := rfl; omega)
    show cutAt 61 (82 :: (decL i ++ 61 :: realL x)) = _
    simp only
    rw [e]
    exact cutAt_hit (a := 82 :: decL i) (by simp only [List.mem_cons, not_or]; exact ⟨by decide, h61 i⟩)
  | time t => exact cutAt_hit (a := [116, 105, 109, 101]) (by decide)
  | ran => exact cutAt_miss (by decide)
  | fault => exact cutAt_miss (by decide)
theorem dev_fit {k : Int} {n : Nat} (hk : 1 ≤ k ∧ k ≤ 10) (hn : (n : Int) < devSize k) : devRd (devL ⟨k, n, 0⟩) = some ⟨k, n, 0⟩ := devRd_dev ((devOk_iff k n 0).2 (Or.inl ⟨hk.1, hk.2, by omega, hn, rfl⟩))
theorem dev_word {k : Int} {n : Nat} (hk : 1 ≤ k ∧ k ≤ 10) (hn : (n : Int) < devSize k) : ∃ r, devL ⟨k, n, 0⟩ = letterU k :: r ∧ (devL ⟨k, n, 0⟩).length ≤ 3 := by
  have hd : dOk ⟨k, n, 0⟩ = true := (devOk_iff k n 0).2 (Or.inl ⟨hk.1, hk.2, by omega, hn, rfl⟩)
  refine ⟨decL n, ?_⟩
  have e : devL ⟨k, n, 0⟩ = letterU k :: decL n := by
    unfold devL
    rw [if_pos hd]
    unfold devT
    simp only
    rw [if_neg (by omega), if_neg (by omega), if_neg (by omega)]
    unfold decZ
    rw [if_neg (by omega), Int.natAbs_natCast]
  refine ⟨e, ?_⟩
  rw [e]
  have h2 : (decL n).length ≤ 2 := decL_len n 1 (by have := devSize_bd k; omega)
  simp; omega
end Go.Sx

namespace Go.Sx
open Go Go.Proofs.YtclbanhoiaieaaaGreatDoor

theorem put_ok {m : M} {z : MW} (hm : MOk m) (hz : z.fit) : MOk (MW.put m z) := by
  cases z with
  | bit k n =>
    obtain ⟨hk, hn⟩ := hz
    rcases hk with rfl | rfl | rfl | rfl | rfl
    · have hp := putBit_bd (b := 32) (j := n) (c := true) hm.X.1 hm.X.2 (by have : devSize 1 = 32 := rfl; omega)
      exact ⟨hp, hm.Y, hm.Mw, hm.S, hm.E, hm.T, hm.C, hm.D, hm.R, hm.Time⟩
    · have hp := putBit_bd (b := 32) (j := n) (c := true) hm.Y.1 hm.Y.2 (by have : devSize 2 = 32 := rfl; omega)
      exact ⟨hm.X, hp, hm.Mw, hm.S, hm.E, hm.T, hm.C, hm.D, hm.R, hm.Time⟩
    · have hp := putBit_bd (b := 64) (j := n) (c := true) hm.Mw.1 hm.Mw.2 (by have : devSize 3 = 64 := rfl; omega)
      exact ⟨hm.X, hm.Y, hp, hm.S, hm.E, hm.T, hm.C, hm.D, hm.R, hm.Time⟩
    · have hp := putBit_bd (b := 16) (j := n) (c := true) hm.S.1 hm.S.2 (by have : devSize 4 = 16 := rfl; omega)
      exact ⟨hm.X, hm.Y, hm.Mw, hp, hm.E, hm.T, hm.C, hm.D, hm.R, hm.Time⟩
    · have hp := putBit_bd (b := 32) (j := n) (c := true) hm.E.1 hm.E.2 (by have : devSize 5 = 32 := rfl; omega)
      exact ⟨hm.X, hm.Y, hm.Mw, hm.S, hp, hm.T, hm.C, hm.D, hm.R, hm.Time⟩
  | tim i d c =>
    refine ⟨hm.X, hm.Y, hm.Mw, hm.S, hm.E, fun k hk => ?_, hm.C, hm.D, hm.R, hm.Time⟩
    show 0 ≤ (if k = i ∧ k < 16 then (d, c) else m.T k).2 ∧ (if k = i ∧ k < 16 then (d, c) else m.T k).2 < 65536
    split
    · exact hz.2
    · exact hm.T k hk
  | cnt i d l c =>
    refine ⟨hm.X, hm.Y, hm.Mw, hm.S, hm.E, hm.T, fun k hk => ?_, hm.D, hm.R, hm.Time⟩
    show 0 ≤ (if k = i ∧ k < 16 then (d, l, c) else m.C k).2.2 ∧ (if k = i ∧ k < 16 then (d, l, c) else m.C k).2.2 < 65536
    split
    · exact hz.2
    · exact hm.C k hk
  | dat i v =>
    refine ⟨hm.X, hm.Y, hm.Mw, hm.S, hm.E, hm.T, hm.C, fun k hk => ?_, hm.R, hm.Time⟩
    show -32768 ≤ (if k = i ∧ k < 32 then v else m.D k) ∧ (if k = i ∧ k < 32 then v else m.D k) < 32768
    split
    · exact hz.2
    · exact hm.D k hk
  | real i x =>
    refine ⟨hm.X, hm.Y, hm.Mw, hm.S, hm.E, hm.T, hm.C, hm.D, fun k hk => ?_, hm.Time⟩
    show (if k = i ∧ k < 16 then x else m.R k) < 18446744073709551616
    split
    · exact hz.2
    · exact hm.R k hk
  | time t => exact ⟨hm.X, hm.Y, hm.Mw, hm.S, hm.E, hm.T, hm.C, hm.D, hm.R, hz⟩
  | ran => exact ⟨hm.X, hm.Y, hm.Mw, hm.S, hm.E, hm.T, hm.C, hm.D, hm.R, hm.Time⟩
  | fault => exact ⟨hm.X, hm.Y, hm.Mw, hm.S, hm.E, hm.T, hm.C, hm.D, hm.R, hm.Time⟩
theorem fit_ok {z : MW} (hz : z.fit) : z.ok := by
  cases z with
  | bit k n => exact hz.1
  | real i x => exact hz.2
  | _ => trivial

theorem word_none {m : M} {t : Str} (hm : MOk m) (h : ∀ z : MW, z.fit → z.text ≠ t) : WordTo m t m := ⟨hm, fun _ => rfl, fun z hz e => absurd e (h z hz)⟩
theorem word_ran {m : M} (hm : MOk m) : WordTo m [114, 97, 110] { m with Ran := true } := by
  refine ⟨put_ok (z := .ran) hm trivial, fun e => (by cases e), fun z hz e => ?_⟩
  rcases text_inj (y := .ran) (fit_ok hz) trivial e with rfl | ⟨i, x, x', rfl, h, _⟩
  · exact MSame_refl _
  · cases h
theorem word_fault {m : M} (hm : MOk m) : WordTo m [102, 97, 117, 108, 116] { m with Fault := true } := by
  refine ⟨put_ok (z := .fault) hm trivial, fun e => (by cases e), fun z hz e => ?_⟩
  rcases text_inj (y := .fault) (fit_ok hz) trivial e with rfl | ⟨i, x, x', rfl, h, _⟩
  · exact MSame_refl _
  · cases h
theorem dev_no_time {k : Int} {n : Nat} (hk : 1 ≤ k ∧ k ≤ 10) (hn : (n : Int) < devSize k) : devL ⟨k, n, 0⟩ ≠ [116, 105, 109, 101] := by
  intro e
  have := (dev_word hk hn).choose_spec.2
  rw [e] at this
  simp at this
theorem time_of {t : Str} (hc : (cutAt 61 t).1 = [116, 105, 109, 101]) {z : MW} (hz : z.fit) (ht : z.text = t) : ∃ x, z = .time x ∧ decZ x = (cutAt 61 t).2.1 ∧ (cutAt 61 t).2.2 = true := by
  have hp := text_parts hz
  rw [ht] at hp
  cases z with
  | bit k n => rw [hp] at hc; exact absurd hc (dev_no_time (by have := hz.1; omega) hz.2)
  | tim i d c => rw [hp] at hc; exact absurd hc (dev_no_time (by omega) (by have := hz.1; have : devSize 7 = 16 := rfl; omega))
  | cnt i d l c => rw [hp] at hc; exact absurd hc (dev_no_time (by omega) (by have := hz.1; have : devSize 8 = 16 := rfl; omega))
  | dat i v => rw [hp] at hc; exact absurd hc (dev_no_time (by omega) (by have := hz.1; have : devSize 9 = 32 := rfl; omega))
  | real i x => rw [hp] at hc; exact absurd hc (dev_no_time (by omega) (by have := hz.1; have : devSize 10 = 16 := rfl; omega))
  | time x => rw [hp]; exact ⟨x, rfl, rfl, rfl⟩
  | ran => rw [hp] at hc; simp at hc
  | fault => rw [hp] at hc; simp at hc
theorem word_time {m : M} {t : Str} {n : Int} (hm : MOk m) (hc : (cutAt 61 t).1 = [116, 105, 109, 101]) (h0 : 0 ≤ n ∧ n < 4294967296) (h : ∀ x : Int, 0 ≤ x → x < 4294967296 → (cutAt 61 t).2.1 = decZ x → n = x) :
    WordTo m t { m with Time := n } := by
  refine ⟨put_ok (z := .time n) hm h0, fun e => ?_, fun z hz e => ?_⟩
  · subst e; simp [cutAt] at hc
  · obtain ⟨x, rfl, h1, _⟩ := time_of hc hz e
    obtain ⟨g1, g2⟩ := hz
    rw [h x g1 g2 h1.symm]; exact MSame_refl _

def DevWord (t : Str) (k n : Int) : MW → Prop
  | .bit k' n' => k' = k ∧ (n' : Int) = n ∧ cutAt 61 t = (t, [], false)
  | .tim i d c => k = 7 ∧ (i : Int) = n ∧ (cutAt 61 t).2 = (decZ c ++ markS d 33, true)
  | .cnt i d l c => k = 8 ∧ (i : Int) = n ∧ (cutAt 61 t).2 = (decZ c ++ (markS d 33 ++ markS l 43), true)
  | .dat i v => k = 9 ∧ (i : Int) = n ∧ (cutAt 61 t).2 = (decZ v, true)
  | .real i x => k = 10 ∧ (i : Int) = n ∧ (cutAt 61 t).2 = (realL x, true)
  | _ => False
theorem devRd_ran : devRd [114, 97, 110] = none := devRd_not (c := 114) (by decide) (by decide)
theorem devRd_fault : devRd [102, 97, 117, 108, 116] = none := devRd_not (c := 117) (by decide) (by decide)
theorem devRd_time : devRd [116, 105, 109, 101] = none := devRd_not (c := 116) (by decide) (by decide)
theorem dev_of {t : Str} {k n p : Int} (h : devRd (cutAt 61 t).1 = some ⟨k, n, p⟩) {z : MW} (hz : z.fit) (ht : z.text = t) : DevWord t k n z := by
  have hp := text_parts hz
  rw [ht] at hp
  have key : ∀ {k' : Int} {n' : Nat}, (cutAt 61 t).1 = devL ⟨k', n', 0⟩ → 1 ≤ k' ∧ k' ≤ 10 → (n' : Int) < devSize k' → k' = k ∧ (n' : Int) = n := fun e a b => by
    rw [e, dev_fit a b] at h
    simp only [Option.some.injEq, Dev.mk.injEq] at h
    exact ⟨h.1, h.2.1⟩
  cases z with
  | bit k' n' =>
    have := key (by rw [hp]) (by have := hz.1; omega) hz.2
    refine ⟨this.1, this.2, ?_⟩
    have hc : (61 : UInt8) ∉ t := fun hm => by
      have e : (cutAt 61 t).2.2 = true := by unfold cutAt; rw [if_pos (by simpa using hm)]
      rw [hp] at e; cases e
    exact cutAt_miss hc
  | tim i d c => have := key (by rw [hp]) (by omega) (by have := hz.1; have : devSize 7 = 16 := rfl; omega); exact ⟨this.1.symm, this.2, by rw [hp]⟩
  | cnt i d l c => have := key (by rw [hp]) (by omega) (by have := hz.1; have : devSize 8 = 16 := rfl; omega); exact ⟨this.1.symm, this.2, by rw [hp]⟩
  | dat i v => have := key (by rw [hp]) (by omega) (by have := hz.1; have : devSize 9 = 32 := rfl; omega); exact ⟨this.1.symm, this.2, by rw [hp]⟩
  | real i x => have := key (by rw [hp]) (by omega) (by have := hz.1; have : devSize 10 = 16 := rfl; omega); exact ⟨this.1.symm, this.2, by rw [hp]⟩
  | time x => rw [hp, devRd_time] at h; cases h
  | ran => rw [hp, devRd_ran] at h; cases h
  | fault => rw [hp, devRd_fault] at h; cases h
theorem name_ne {t : Str} {d : Dev} (h : devRd (cutAt 61 t).1 = some d) : t ≠ [] := fun e => by
  subst e
  have : cutAt 61 ([] : Str) = ([], [], false) := rfl
  rw [this, devRd_nil] at h; cases h
theorem dev_ok {t : Str} {k n p : Int} (h : devRd t = some ⟨k, n, p⟩) : devOk k n p = true := (devRd_some h).1
theorem word_dull {m : M} {t : Str} (hm : MOk m) (h : devRd (cutAt 61 t).1 = none) (h1 : t ≠ [114, 97, 110]) (h2 : t ≠ [102, 97, 117, 108, 116]) (h3 : (cutAt 61 t).1 ≠ [116, 105, 109, 101]) : WordTo m t m := by
  refine word_none hm fun z hz ht => ?_
  have hp := text_parts hz
  rw [ht] at hp
  have key : ∀ {k' : Int} {n' : Nat}, (cutAt 61 t).1 = devL ⟨k', n', 0⟩ → 1 ≤ k' ∧ k' ≤ 10 → (n' : Int) < devSize k' → False := fun e a b => by
    rw [e, dev_fit a b] at h; cases h
  cases z with
  | bit k' n' => exact key (by rw [hp]) (by have := hz.1; omega) hz.2
  | tim i d c => exact key (by rw [hp]) (by omega) (by have := hz.1; have : devSize 7 = 16 := rfl; omega)
  | cnt i d l c => exact key (by rw [hp]) (by omega) (by have := hz.1; have : devSize 8 = 16 := rfl; omega)
  | dat i v => exact key (by rw [hp]) (by omega) (by have := hz.1; have : devSize 9 = 32 := rfl; omega)
  | real i x => exact key (by rw [hp]) (by omega) (by have := hz.1; have : devSize 10 = 16 := rfl; omega)
  | time x => rw [hp] at h3; exact h3 rfl
  | ran => exact h1 ht.symm
  | fault => exact h2 ht.symm
theorem word_other {m : M} {t : Str} {k n p : Int} (hm : MOk m) (h : devRd (cutAt 61 t).1 = some ⟨k, n, p⟩) (hk : k = 6 ∨ 10 < k ∨ k < 1) : WordTo m t m := by
  refine word_none hm fun z hz ht => ?_
  have := dev_of h hz ht
  cases z with
  | bit k' n' => have h1 := this.1; have h2 := hz.1; omega
  | tim i d c => have h1 := this.1; omega
  | cnt i d l c => have h1 := this.1; omega
  | dat i v => have h1 := this.1; omega
  | real i x => have h1 := this.1; omega
  | _ => exact this
theorem word_bare {m : M} {t : Str} {k n p : Int} (hm : MOk m) (h : devRd (cutAt 61 t).1 = some ⟨k, n, p⟩) (hk : 7 ≤ k ∧ k ≤ 10) (hv : (cutAt 61 t).2.2 = false) : WordTo m t m := by
  refine word_none hm fun z hz ht => ?_
  have := dev_of h hz ht
  cases z with
  | bit k' n' => have h1 := this.1; have h2 := hz.1; omega
  | tim i d c => have h1 := this.2.2; rw [h1] at hv; cases hv
  | cnt i d l c => have h1 := this.2.2; rw [h1] at hv; cases hv
  | dat i v => have h1 := this.2.2; rw [h1] at hv; cases hv
  | real i x => have h1 := this.2.2; rw [h1] at hv; cases hv
  | _ => exact this
theorem word_x {m : M} {t : Str} {n p : Int} (hm : MOk m) (h : devRd (cutAt 61 t).1 = some ⟨1, n, p⟩) : WordTo m t { m with X := putBit m.X n.toNat true } := by
  have hd := (devOk_iff _ _ _).1 (dev_ok h)
  have e1 : devSize 1 = 32 := rfl
  obtain ⟨j, rfl⟩ : ∃ j : Nat, n = j := ⟨n.toNat, by omega⟩
  refine ⟨put_ok (z := .bit 1 j) hm ⟨Or.inl rfl, by omega⟩, fun e => absurd e (name_ne h), fun z hz ht => ?_⟩
  have := dev_of h hz ht
  cases z with
  | bit k' n' =>
    obtain ⟨rfl, e, _⟩ := this
    have : n' = j := by omega
    subst this
    exact MSame_refl _
  | tim i d c => have h1 := this.1; omega
  | cnt i d l c => have h1 := this.1; omega
  | dat i v => have h1 := this.1; omega
  | real i x => have h1 := this.1; omega
  | time x => exact this.elim
  | ran => exact this.elim
  | fault => exact this.elim
theorem memPut_put {m : M} {k : Int} {n : Nat} (hk : k = 2 ∨ k = 3 ∨ k = 4 ∨ k = 5) (hn : (n : Int) < devSize k) : memPut m k n true = MW.put m (.bit k n) := by
  have hp := place_lt' (k := k) (n := n) (by omega) hn
  unfold memPut MW.put
  rw [hp]
  rcases hk with rfl | rfl | rfl | rfl <;> simp
theorem word_bits {m : M} {t : Str} {k n p : Int} (hm : MOk m) (h : devRd (cutAt 61 t).1 = some ⟨k, n, p⟩) (hk : 2 ≤ k ∧ k ≤ 5) : WordTo m t (memPut m k n true) := by
  have hd := (devOk_iff _ _ _).1 (dev_ok h)
  obtain ⟨j, rfl⟩ : ∃ j : Nat, n = j := ⟨n.toNat, by omega⟩
  have hj : (j : Int) < devSize k := by omega
  refine ⟨memPut_ok hm, fun e => absurd e (name_ne h), fun z hz ht => ?_⟩
  have := dev_of h hz ht
  cases z with
  | bit k' n' =>
    obtain ⟨rfl, e, _⟩ := this
    have : n' = j := by omega
    subst this
    rw [memPut_put (by omega) hj]
    exact MSame_refl _
  | tim i d c => have h1 := this.1; omega
  | cnt i d l c => have h1 := this.1; omega
  | dat i v => have h1 := this.1; omega
  | real i x => have h1 := this.1; omega
  | time x => exact this.elim
  | ran => exact this.elim
  | fault => exact this.elim
theorem word_tim {m : M} {t : Str} {n p c : Int} {d : Bool} (hm : MOk m) (h : devRd (cutAt 61 t).1 = some ⟨7, n, p⟩) (h0 : 0 ≤ c ∧ c < 65536)
    (hv : ∀ (c' : Int) (d' : Bool), 0 ≤ c' → c' < 65536 → (cutAt 61 t).2.1 = decZ c' ++ markS d' 33 → d = d' ∧ c = c') : WordTo m t { m with T := upd m.T n.toNat (d, c) } := by
  have hd := (devOk_iff _ _ _).1 (dev_ok h)
  have e1 : devSize 7 = 16 := rfl
  obtain ⟨j, rfl⟩ : ∃ j : Nat, n = j := ⟨n.toNat, by omega⟩
  refine ⟨put_ok (z := .tim j d c) hm ⟨by omega, h0⟩, fun e => absurd e (name_ne h), fun z hz ht => ?_⟩
  have := dev_of h hz ht
  cases z with
  | bit k' n' => have h1 := this.1; have h2 := hz.1; omega
  | tim i d' c' =>
    obtain ⟨_, e, e2⟩ := this
    have : i = j := by omega
    subst this
    obtain ⟨rfl, rfl⟩ := hv c' d' hz.2.1 hz.2.2 (by rw [e2])
    exact MSame_refl _
  | cnt i d l c => have h1 := this.1; omega
  | dat i v => have h1 := this.1; omega
  | real i x => have h1 := this.1; omega
  | time x => exact this.elim
  | ran => exact this.elim
  | fault => exact this.elim
theorem word_cnt {m : M} {t : Str} {n p c : Int} {d l : Bool} (hm : MOk m) (h : devRd (cutAt 61 t).1 = some ⟨8, n, p⟩) (h0 : 0 ≤ c ∧ c < 65536)
    (hv : ∀ (c' : Int) (d' l' : Bool), 0 ≤ c' → c' < 65536 → (cutAt 61 t).2.1 = decZ c' ++ (markS d' 33 ++ markS l' 43) → d = d' ∧ l = l' ∧ c = c') : WordTo m t { m with C := upd m.C n.toNat (d, l, c) } := by
  have hd := (devOk_iff _ _ _).1 (dev_ok h)
  have e1 : devSize 8 = 16 := rfl
  obtain ⟨j, rfl⟩ : ∃ j : Nat, n = j := ⟨n.toNat, by omega⟩
  refine ⟨put_ok (z := .cnt j d l c) hm ⟨by omega, h0⟩, fun e => absurd e (name_ne h), fun z hz ht => ?_⟩
  have := dev_of h hz ht
  cases z with
  | bit k' n' => have h1 := this.1; have h2 := hz.1; omega
  | tim i d' c' => have h1 := this.1; omega
  | cnt i d' l' c' =>
    obtain ⟨_, e, e2⟩ := this
    have : i = j := by omega
    subst this
    obtain ⟨rfl, rfl, rfl⟩ := hv c' d' l' hz.2.1 hz.2.2 (by rw [e2])
    exact MSame_refl _
  | dat i v => have h1 := this.1; omega
  | real i x => have h1 := this.1; omega
  | time x => exact this.elim
  | ran => exact this.elim
  | fault => exact this.elim
theorem word_dat {m : M} {t : Str} {n p v : Int} (hm : MOk m) (h : devRd (cutAt 61 t).1 = some ⟨9, n, p⟩) (h0 : -32768 ≤ v ∧ v < 32768)
    (hv : ∀ v' : Int, -32768 ≤ v' → v' < 32768 → (cutAt 61 t).2.1 = decZ v' → v = v') : WordTo m t { m with D := upd m.D n.toNat v } := by
  have hd := (devOk_iff _ _ _).1 (dev_ok h)
  have e1 : devSize 9 = 32 := rfl
  obtain ⟨j, rfl⟩ : ∃ j : Nat, n = j := ⟨n.toNat, by omega⟩
  refine ⟨put_ok (z := .dat j v) hm ⟨by omega, h0⟩, fun e => absurd e (name_ne h), fun z hz ht => ?_⟩
  have := dev_of h hz ht
  cases z with
  | bit k' n' => have h1 := this.1; have h2 := hz.1; omega
  | tim i d' c' => have h1 := this.1; omega
  | cnt i d' l' c' => have h1 := this.1; omega
  | dat i v' =>
    obtain ⟨_, e, e2⟩ := this
    have : i = j := by omega
    subst this
    obtain rfl := hv v' hz.2.1 hz.2.2 (by rw [e2])
    exact MSame_refl _
  | real i x => have h1 := this.1; omega
  | time x => exact this.elim
  | ran => exact this.elim
  | fault => exact this.elim
def RealTo (t : Str) (r : Nat) : Prop := r < 18446744073709551616 ∧ ∀ x, x < 18446744073709551616 → t = realL x → sameF r x
theorem word_real {m : M} {t : Str} {n p : Int} {r : Nat} (hm : MOk m) (h : devRd (cutAt 61 t).1 = some ⟨10, n, p⟩) (hr : RealTo (cutAt 61 t).2.1 r) : WordTo m t { m with R := upd m.R n.toNat r } := by
  have hd := (devOk_iff _ _ _).1 (dev_ok h)
  have e1 : devSize 10 = 16 := rfl
  obtain ⟨j, rfl⟩ : ∃ j : Nat, n = j := ⟨n.toNat, by omega⟩
  refine ⟨put_ok (z := .real j r) hm ⟨by omega, hr.1⟩, fun e => absurd e (name_ne h), fun z hz ht => ?_⟩
  have := dev_of h hz ht
  cases z with
  | bit k' n' => have h1 := this.1; have h2 := hz.1; omega
  | tim i d' c' => have h1 := this.1; omega
  | cnt i d' l' c' => have h1 := this.1; omega
  | dat i v' => have h1 := this.1; omega
  | real i x =>
    obtain ⟨_, e, e2⟩ := this
    have : i = j := by omega
    subst this
    exact put_same (MSame_refl m) (hr.2 x hz.2 (by rw [e2]))
  | time x => exact this.elim
  | ran => exact this.elim
  | fault => exact this.elim
end Go.Sx

namespace Go.Sx
open Go

def valU (m : Nat) (i : Int) : Nat := m * 2 ^ (i + 5000).toNat
theorem valU_up (m : Nat) {i : Int} (k : Nat) (hi : -5000 ≤ i) : valU m (i + k) = valU (m * 2 ^ k) i := by
  unfold valU
  have : (i + k + 5000).toNat = k + (i + 5000).toNat := by omega
  rw [this, Nat.pow_add, Nat.mul_assoc]
theorem valU_hv {m M : Nat} {i I : Int} (hi : -5000 ≤ i) (hI : -5000 ≤ I) (h : valU m i = valU M I) : (∃ a : Nat, i = I - a ∧ m = M * 2 ^ a) ∨ (∃ a : Nat, i = I + a ∧ M = m * 2 ^ a) := by
  by_cases hle : i ≤ I
  · left
    obtain ⟨a, rfl⟩ : ∃ a : Nat, I = i + a := ⟨(I - i).toNat, by omega⟩
    refine ⟨a, by omega, ?_⟩
    rw [valU_up M a hi] at h
    exact Nat.eq_of_mul_eq_mul_right (Nat.two_pow_pos _) h
  · right
    obtain ⟨a, rfl⟩ : ∃ a : Nat, i = I + a := ⟨(i - I).toNat, by omega⟩
    refine ⟨a, by omega, ?_⟩
    rw [valU_up m a hI] at h
    exact (Nat.eq_of_mul_eq_mul_right (Nat.two_pow_pos _) h).symm
theorem near_eq {neg : Bool} {m M : Nat} {i I : Int} (h0 : M ≠ 0) (hN : Norm M I) (hi : -5000 ≤ i) (h : valU m i = valU M I) : dbl.nearest neg m i = dbl.word neg (rungOf M I) :=
  nearest_norm h0 hN (valU_hv hi (by have := hN.lo; omega) h)
theorem valU_units {m n : Nat} {i j : Int} (hi : -1074 ≤ i) (hj : -1074 ≤ j) (h : valU m i = valU n j) : unitsV m i = unitsV n j := by
  unfold valU at h
  unfold unitsV
  have e1 : (i + 5000).toNat = (i + 1074).toNat + 3926 := by omega
  have e2 : (j + 5000).toNat = (j + 1074).toNat + 3926 := by omega
  rw [e1, e2, Nat.pow_add, Nat.pow_add, ← Nat.mul_assoc, ← Nat.mul_assoc] at h
  exact Nat.eq_of_mul_eq_mul_right (Nat.two_pow_pos _) h
theorem norm_eq {m n : Nat} {i j : Int} (hm : Norm m i) (hn : Norm n j) (h0 : m ≠ 0) (h : valU m i = valU n j) : m = n ∧ i = j := norm_uniq hm hn h0 (valU_units hm.lo hn.lo h)
theorem mul_eq {x y : Nat} {s t : Bool} {m n M : Nat} {i j I : Int} (hx : dbl.read x = .number s m i) (hy : dbl.read y = .number t n j) (h0 : M ≠ 0) (hN : Norm M I) (h : valU (m * n) (i + j) = valU M I) :
    dbl.mul x y = some (dbl.word (s ^^ t) (rungOf M I)) := by
  have a := (read_norm hx).lo
  have b := (read_norm hy).lo
  unfold Ieee.Format.mul
  rw [hx, hy]
  simp only [Ieee.Datum.product, Option.map_some, Option.some.injEq]
  unfold Ieee.Format.write
  exact near_eq h0 hN (by omega) h
theorem dbl_eq {x : Nat} {s : Bool} {m M : Nat} {i I : Int} (hx : dbl.read x = .number s m i) (h0 : M ≠ 0) (hN : Norm M I) (h : valU m (i + 1) = valU M I) : dbl.mul x 4611686018427387904 = some (dbl.word s (rungOf M I)) := by
  have a := (read_norm hx).lo
  have := mul_eq (t := false) hx read_two h0 hN (by
    rw [← h]
    have e : i + 1 = (i + -51) + (52 : Nat) := by omega
    rw [e, valU_up m 52 (by omega)])
  rwa [Bool.xor_false] at this
theorem half_eq {x : Nat} {s : Bool} {m M : Nat} {i I : Int} (hx : dbl.read x = .number s m i) (hm0 : m ≠ 0) (h0 : M ≠ 0) (hN : Norm M I) (h : valU m (i - 1) = valU M I) : dbl.div x 4611686018427387904 = some (dbl.word s (rungOf M I)) := by
  obtain ⟨n1, n2, n3, n4⟩ := read_norm hx
  have hl53 : m.log2 < 53 := (Nat.log2_lt hm0).2 n3
  unfold Ieee.Format.div
  rw [hx, read_two]
  have hl : Nat.log2 4503599627370496 = 52 := by decide +kernel
  have hf : dbl.fractionBits = 52 := rfl
  simp only [Ieee.Datum.quotient, hl, hf, Option.map_some]
  rw [if_neg (by decide)]
  simp only [Option.map_some, Option.some.injEq]
  obtain ⟨a, ha, ha2⟩ : ∃ a, 52 + 2 + 52 - m.log2 = a + 52 ∧ a ≤ 54 := ⟨52 + 2 - m.log2, by omega, by omega⟩
  rw [ha, Nat.shiftLeft_eq]
  have e1 : m * 2 ^ (a + 52) = m * 2 ^ a * 4503599627370496 := by rw [Nat.pow_add, Nat.mul_assoc]
  rw [e1, Nat.mul_div_cancel _ (by decide), Nat.mul_mod_left]
  unfold Ieee.Format.write
  simp only [Bool.xor_false]
  have hb : (0 != 0) = false := rfl
  rw [hb]
  have ht : false.toNat = 0 := rfl
  rw [ht, Nat.add_zero]
  have hq : 2 * (m * 2 ^ a) = m * 2 ^ (a + 1) := by rw [Nat.pow_succ, ← Nat.mul_assoc, ← Nat.mul_assoc, Nat.mul_comm 2 m, Nat.mul_assoc m 2, Nat.mul_comm 2, Nat.mul_assoc m]
  rw [hq]
  refine near_eq h0 hN (by omega) ?_
  rw [← h]
  have e2 : i - 1 = (i - -51 - ((a + 52 : Nat) : Int) - 1) + ((a + 1 : Nat) : Int) := by omega
  rw [← valU_up m (a + 1) (by omega), ← e2]
def Ex (x m : Nat) (j : Int) : Prop := x < 18446744073709551616 ∧ ∃ M I, dbl.read x = .number false M I ∧ M ≠ 0 ∧ valU M I = valU m j
def Fits (m : Nat) (j : Int) : Prop := ∃ M I, Norm M I ∧ M ≠ 0 ∧ valU M I = valU m j
theorem word_pos_lt {R : Nat} (h : R < 9223372036854775808) : dbl.word false R < 18446744073709551616 := by
  obtain ⟨c1, c2, c3, c4⟩ := consts
  unfold Ieee.Format.word
  simp only [c1]
  simp
  omega
theorem ex_of {M : Nat} {I j : Int} {m : Nat} (hN : Norm M I) (h0 : M ≠ 0) (h : valU M I = valU m j) : Ex (dbl.word false (rungOf M I)) m j :=
  ⟨word_pos_lt (rung_lt hN), M, I, read_word hN, h0, h⟩
theorem Ex.eq {x m M : Nat} {j I : Int} (h : Ex x m j) (hN : Norm M I) (h0 : M ≠ 0) (hv : valU M I = valU m j) : x = dbl.word false (rungOf M I) := by
  obtain ⟨hx, M', I', hr, h1, h2⟩ := h
  obtain ⟨e1, e2⟩ := norm_eq (read_norm hr) hN h1 (h2.trans hv.symm)
  subst e1 e2
  exact word_of hx hr
theorem Ex.half {x m y : Nat} {j : Int} (h : Ex x m j) (hj : -4999 ≤ j) (hf : Fits m (j - 1)) (hy : dbl.div x 4611686018427387904 = some y) : Ex y m (j - 1) := by
  obtain ⟨hx, M', I', hr, h1, h2⟩ := h
  obtain ⟨M, I, hN, h0, hv⟩ := hf
  have hlo := (read_norm hr).lo
  have key : valU M' (I' - 1) = valU M I := by
    rw [hv]
    rcases valU_hv (by omega) (by omega) h2 with ⟨a, e1, e2⟩ | ⟨a, e1, e2⟩
    · subst e2
      have : j - 1 = I' - 1 + (a : Nat) := by omega
      rw [this, valU_up m a (by omega)]
    · subst e2
      have : I' - 1 = j - 1 + (a : Nat) := by omega
      rw [this, valU_up M' a (by omega)]
  rw [half_eq hr h1 h0 hN key] at hy
  cases hy
  exact ex_of hN h0 hv
theorem Ex.twice {x m y : Nat} {j : Int} (h : Ex x m j) (hj : -4999 ≤ j) (hf : Fits m (j + 1)) (hy : dbl.mul x 4611686018427387904 = some y) : Ex y m (j + 1) := by
  obtain ⟨hx, M', I', hr, h1, h2⟩ := h
  obtain ⟨M, I, hN, h0, hv⟩ := hf
  have hlo := (read_norm hr).lo
  have key : valU M' (I' + 1) = valU M I := by
    rw [hv]
    rcases valU_hv (by omega) (by omega) h2 with ⟨a, e1, e2⟩ | ⟨a, e1, e2⟩
    · subst e2
      have : j + 1 = I' + 1 + (a : Nat) := by omega
      rw [this, valU_up m a (by omega)]
    · subst e2
      have : I' + 1 = j + 1 + (a : Nat) := by omega
      rw [this, valU_up M' a (by omega)]
  rw [dbl_eq hr h0 hN key] at hy
  cases hy
  exact ex_of hN h0 hv
theorem strip_is_odd (m : Nat) (h : m ≠ 0) : (strip m).1 % 2 = 1 := by
  induction m using Nat.strongRecOn with
  | _ m ih =>
    rw [strip]
    split
    · rename_i h'
      exact ih (m / 2) (by omega) (by omega)
    · simp only; omega
theorem fits_of {n : Nat} {j : Int} (h0 : n ≠ 0) (hn : n < 9007199254740992) (h1 : -1074 ≤ j) (h2 : j + (n.log2 : Int) ≤ 1023) : Fits n j := by
  have hl : n.log2 < 53 := (Nat.log2_lt h0).2 hn
  obtain ⟨a, ha⟩ : ∃ a : Nat, a = min (j + 1074).toNat (52 - n.log2) := ⟨_, rfl⟩
  refine ⟨n * 2 ^ a, j - a, ⟨by omega, by omega, ?_, ?_⟩, Nat.mul_ne_zero h0 (Nat.ne_of_gt (Nat.two_pow_pos a)), ?_⟩
  · have h3 : (n * 2 ^ a).log2 < 53 := by rw [log2_pow h0]; omega
    exact (Nat.log2_lt (Nat.mul_ne_zero h0 (Nat.ne_of_gt (Nat.two_pow_pos a)))).1 h3
  · by_cases ha2 : a = 52 - n.log2
    · left
      have h3 : (n * 2 ^ a).log2 = 52 := by rw [log2_pow h0]; omega
      have h4 := Nat.log2_self_le (Nat.mul_ne_zero h0 (Nat.ne_of_gt (Nat.two_pow_pos a)))
      rw [h3] at h4
      exact h4
    · right; omega
  · rw [← valU_up n a (by omega)]
    congr 1
    omega
theorem fits_odd {n M : Nat} {j I : Int} (hN : Norm M I) (h0 : M ≠ 0) (ho : n % 2 = 1) (hv : valU M I = valU n j) (hj : -5000 ≤ j) : -1074 ≤ j ∧ j + (n.log2 : Int) ≤ 1023 := by
  obtain ⟨n1, n2, n3, n4⟩ := hN
  have hl : M.log2 < 53 := (Nat.log2_lt h0).2 n3
  rcases valU_hv (by omega) hj hv with ⟨a, e1, e2⟩ | ⟨a, e1, e2⟩
  · subst e2
    rw [log2_pow (by omega)] at hl
    omega
  · cases a with
    | zero =>
      have : n = M := by simpa using e2
      subst this
      omega
    | succ a => rw [Nat.pow_succ, ← Nat.mul_assoc] at e2; omega
theorem plain_odd {M : Nat} {I : Int} (hN : Norm M I) (h0 : M ≠ 0) : ∃ (n : Nat) (e : Int), plainL M I = decL n ++ ([42, 50, 94] ++ decZ e) ∧ n % 2 = 1 ∧ n < 9007199254740992 ∧ -1074 ≤ e ∧ e + (n.log2 : Int) ≤ 1023 ∧ e ≤ 1023 ∧ valU M I = valU n e := by
  obtain ⟨g1, g2⟩ := strip_le M h0
  have hv : valU M I = valU (strip M).1 (I + (strip M).2) := by
    rw [valU_up (strip M).1 (strip M).2 (by have := hN.lo; omega), strip_val]
  have := fits_odd hN h0 (strip_is_odd M h0) hv (by have := hN.lo; omega)
  exact ⟨(strip M).1, I + (strip M).2, rfl, strip_is_odd M h0, by have := hN.sm; omega, this.1, this.2, by omega, hv⟩
theorem ex_int {n : Nat} (h0 : n ≠ 0) (hn : n < 9007199254740992) : Ex (FloatKind.f64.nearest (n : Int)) n 0 := by
  obtain ⟨m, d, hd, hr, hm⟩ := read_whole (a := (n : Int)) (by simpa using hn)
  have hneg : decide ((n : Int) < 0) = false := by simp
  rw [hneg] at hr
  have hm0 : m ≠ 0 := by rw [hm]; exact Nat.mul_ne_zero (by simpa using h0) (Nat.ne_of_gt (Nat.two_pow_pos d))
  have hv : valU m (-(d : Int)) = valU n 0 := by
    have e : (0 : Int) = -(d : Int) + d := by omega
    rw [e, valU_up n d (by omega), hm]
    simp
  refine ⟨?_, m, _, hr, hm0, hv⟩
  have : FloatKind.f64.nearest (n : Int) < 18446744073709551616 := by
    show dbl.nearest _ _ _ < _
    have hN := read_norm hr
    rw [near_eq (M := m) (I := -(d : Int)) hm0 hN (by decide) (by
      rw [hv]; simp)]
    rw [show decide ((n : Int) < 0) = false from hneg]
    exact word_pos_lt (rung_lt hN)
  exact this
end Go.Sx

namespace Go.Sx
open Go Go.Proofs.YtclbanhoiaieaaaGreatDoor

def puV (B : Nat) (l : Str) : Int := match Lib.parseUintB B l with
  | .ok u => u
  | .range => ((2 ^ B - 1 : Nat) : Int)
  | _ => 0
def piV (B : Nat) (l : Str) : Int := match Lib.parseIntB B l with
  | .ok v => v
  | .range => Lib.intSat B l
  | _ => 0
theorem parseM_digs {M : Nat} (hM : M < 18446744073709551616) : ∀ (l : Str) (acc : Nat), Digs l → valF acc l ≤ M → Lib.parseUintM M acc l = .ok (valF acc l)
  | [], acc, _, _ => rfl
  | c :: l, acc, h, hv => by
    have hc := h c (by simp)
    rw [valF_cons] at hv ⊢
    have hg := valF_ge l (10 * acc + (c.toNat - 48))
    rw [Lib.parseUintM, if_pos hc, if_neg (by omega), if_neg (by omega), Nat.mul_comm acc 10]
    exact parseM_digs hM l _ (fun x hx => h x (by simp [hx])) hv
theorem parseM_bd {M : Nat} : ∀ (l : Str) (acc u : Nat), acc ≤ M → Lib.parseUintM M acc l = .ok u → u ≤ M
  | [], acc, u, h, e => by rw [Lib.parseUintM] at e; cases e; exact h
  | c :: l, acc, u, h, e => by
    rw [Lib.parseUintM] at e
    split at e
    · split at e
      · cases e
      · split at e
        · cases e
        · exact parseM_bd l _ u (by omega) e
    · cases e
theorem parseB_dec {B n : Nat} (hB : B ≤ 64) (h : n < 2 ^ B) : Lib.parseUintB B (decL n) = .ok n := by
  have h64 : (2 : Nat) ^ B ≤ 2 ^ 64 := Nat.pow_le_pow_right (by decide) hB
  have e64 : (2 : Nat) ^ 64 = 18446744073709551616 := rfl
  unfold Lib.parseUintB
  rw [if_neg (decL_ne n), parseM_digs (by omega) _ _ (decL_dig n) (by rw [← valD_eq, valD_dec]; omega), ← valD_eq, valD_dec]
theorem puV_dec {B : Nat} {n : Int} (hB : B ≤ 64) (h0 : 0 ≤ n) (h : n < (2 ^ B : Nat)) : puV B (decZ n) = n := by
  obtain ⟨k, rfl⟩ : ∃ k : Nat, n = k := ⟨n.toNat, by omega⟩
  unfold puV decZ
  rw [if_neg (by omega), Int.natAbs_natCast, parseB_dec hB (by exact_mod_cast h)]
theorem puV_bd (B : Nat) (l : Str) : 0 ≤ puV B l ∧ puV B l < (2 ^ B : Nat) := by
  have hp := Nat.two_pow_pos B
  unfold puV
  split
  · rename_i u h
    unfold Lib.parseUintB at h
    split at h
    · cases h
    · have := parseM_bd l 0 u (by omega) h
      omega
  · omega
  · omega
theorem pow16 : (2 : Nat) ^ 16 = 65536 := rfl
theorem pow15 : (2 : Nat) ^ (16 - 1) = 32768 := rfl
theorem pow32 : (2 : Nat) ^ 32 = 4294967296 := rfl
theorem piV_dec {n : Int} (h0 : -32768 ≤ n) (h : n < 32768) : piV 16 (decZ n) = n := by
  have key : Lib.parseIntB 16 (decZ n) = .ok n := by
    unfold decZ
    split
    · unfold Lib.parseIntB
      simp only
      rw [if_pos (by decide), parseB_dec (by decide) (by rw [pow16]; omega)]
      simp only
      have e : (45 : UInt8).toNat = 45 := rfl
      rw [pow15, if_neg (by simp [e]), if_neg (by simp [e]; omega), if_pos e]
      congr 1; omega
    · obtain ⟨c, r, e, h1, h2⟩ := decL_cons n.natAbs
      have hp := parseB_dec (B := 16) (n := n.natAbs) (by decide) (by rw [pow16]; omega)
      rw [e] at hp ⊢
      unfold Lib.parseIntB
      simp only
      rw [if_neg (by omega), hp]
      simp only
      rw [pow15, if_neg (by omega), if_neg (by omega), if_neg (by omega)]
      congr 1; omega
  unfold piV; rw [key]
theorem piV_bd (l : Str) : -32768 ≤ piV 16 l ∧ piV 16 l < 32768 := by
  unfold piV
  split
  · rename_i v h
    unfold Lib.parseIntB at h
    split at h
    · cases h
    · simp only at h
      split at h
      · cases h
      · cases h
      · rw [pow15] at h
        split at h
        · cases h
        · split at h
          · cases h
          · simp only [Lib.NumEnd.ok.injEq] at h
            subst h
            split <;> omega
  · unfold Lib.intSat
    rw [pow15]
    split <;> omega
  · omega
theorem suf_yes (a : Str) (c : UInt8) : Lib.hasSuffix (a ++ [c]) [c] = true ∧ Lib.trimSuffix (a ++ [c]) [c] = a := by
  have h : Lib.hasSuffix (a ++ [c]) [c] = true := by
    unfold Lib.hasSuffix
    rw [List.isSuffixOf_iff_suffix]
    exact ⟨a, rfl⟩
  refine ⟨h, ?_⟩
  unfold Lib.trimSuffix
  rw [if_pos h]
  simp
theorem suf_no {a : Str} {c : UInt8} (h : c ∉ a) : Lib.hasSuffix a [c] = false ∧ Lib.trimSuffix a [c] = a := by
  have h' : Lib.hasSuffix a [c] = false := by
    rw [Bool.eq_false_iff]
    intro hs
    unfold Lib.hasSuffix at hs
    rw [List.isSuffixOf_iff_suffix] at hs
    obtain ⟨t, e⟩ := hs
    exact h (by rw [← e]; simp)
  refine ⟨h', ?_⟩
  unfold Lib.trimSuffix
  rw [h']
  simp
theorem decZ_no33 (n : Int) : (33 : UInt8) ∉ decZ n := decZ_not (by decide)
theorem decZ_no43 (n : Int) : (43 : UInt8) ∉ decZ n := decZ_not (by decide)
theorem suf_mark (n : Int) (d : Bool) : Lib.hasSuffix (decZ n ++ markS d 33) [33] = d ∧ Lib.trimSuffix (decZ n ++ markS d 33) [33] = decZ n := by
  cases d
  · have := suf_no (decZ_no33 n)
    simpa [markS] using this
  · exact suf_yes (decZ n) 33
theorem suf_marks (n : Int) (d l : Bool) : Lib.hasSuffix (decZ n ++ (markS d 33 ++ markS l 43)) [43] = l ∧ Lib.trimSuffix (decZ n ++ (markS d 33 ++ markS l 43)) [43] = decZ n ++ markS d 33 := by
  have hn : (43 : UInt8) ∉ decZ n ++ markS d 33 := by
    intro h
    rcases List.mem_append.1 h with h | h
    · exact decZ_no43 n h
    · cases d <;> simp [markS] at h
  rw [← List.append_assoc]
  cases l
  · have := suf_no hn
    simpa [markS] using this
  · exact suf_yes _ 43
end Go.Sx

namespace Go.Sx
open Go Go.Proofs.YtclbanhoiaieaaaGreatDoor
structure IsF (f : Nat) (s : Bool) (m : Nat) (i : Int) : Prop where
  lt : f < 18446744073709551616
  rd : dbl.read f = .number s m i
  lo : 4503599627370496 ≤ m
  i0 : -60 ≤ i
  i1 : i ≤ 10
theorem IsF.fields {f : Nat} {s : Bool} {m : Nat} {i : Int} (h : IsF f s m i) : ∃ k l : Nat, (i = (k : Int) - 1075 ∧ 1015 ≤ k ∧ k ≤ 1085) ∧ (m = 4503599627370496 + l ∧ l < 4503599627370496) ∧ f = (if s then 9223372036854775808 else 0) + (k * 4503599627370496 + l) := by
  obtain ⟨h1, h2, h3, h4, h5⟩ := h
  have hN := read_norm h2
  have hm := hN.sm
  refine ⟨(i + 1075).toNat, m - 4503599627370496, ⟨by omega, by omega, by omega⟩, ⟨by omega, by omega⟩, ?_⟩
  rw [word_of h1 h2]
  obtain ⟨c1, c2, c3, c4⟩ := consts
  unfold Ieee.Format.word rungOf
  simp only [c1]
  cases s
  · simp; omega
  · simp; omega
theorem word_fields (s : Bool) {m : Nat} {j : Int} {k l : Nat} (hj : j = (k : Int) - 1075) (hk : 1 ≤ k) (hm : m = 4503599627370496 + l) : dbl.word s (rungOf m j) = (if s then 9223372036854775808 else 0) + (k * 4503599627370496 + l) := by
  obtain ⟨c1, c2, c3, c4⟩ := consts
  unfold Ieee.Format.word rungOf
  simp only [c1]
  cases s
  · simp; omega
  · simp; omega
theorem bits64 : 2 ^ IntKind.u64.bits = 18446744073709551616 := by decide
theorem bits64I : (2 : Int) ^ IntKind.u64.bits = 18446744073709551616 := by decide
theorem and_low63 {x : Nat} (hx : x < 18446744073709551616) : (IntKind.u64.wrap ↑(x % 2 ^ IntKind.u64.bits &&& 2 ^ IntKind.u64.bits - 1 - 9223372036854775808 % 2 ^ IntKind.u64.bits)).toNat = x % 9223372036854775808 := by
  have e3 : (2 ^ IntKind.u64.bits - 1 - 9223372036854775808 % 2 ^ IntKind.u64.bits : Nat) = 2 ^ 63 - 1 := by decide
  rw [e3, bits64, Nat.mod_eq_of_lt hx, Nat.and_two_pow_sub_one_eq_mod, wrap_u64 (by omega) (by omega)]
  omega
theorem and_63 {x : Nat} (hx : x < 18446744073709551616) : x &&& 9223372036854775808 = x / 9223372036854775808 * 9223372036854775808 := by
  have e : (9223372036854775808 : Nat) = 2 ^ 63 := rfl
  apply Nat.eq_of_testBit_eq
  intro i
  rw [Nat.testBit_and]
  by_cases hq : x / 9223372036854775808 = 1
  · rw [hq, Nat.one_mul, e, Nat.testBit_two_pow]
    by_cases hi : 63 = i
    · subst hi
      rw [Nat.testBit_eq_decide_div_mod_eq, ← e, hq]; rfl
    · simp [hi]
  · have hz : x / 9223372036854775808 = 0 := by omega
    rw [hz, Nat.zero_mul, e, Nat.testBit_two_pow, Nat.zero_testBit]
    by_cases hi : 63 = i
    · subst hi
      rw [Nat.testBit_eq_decide_div_mod_eq, ← e, hz]; rfl
    · simp [hi]
theorem wrap_u64_bd (z : Int) : 0 ≤ IntKind.u64.wrap z ∧ IntKind.u64.wrap z < 18446744073709551616 := by
  simp only [IntKind.wrap, IntKind.signed, IntKind.bits]; simp; omega
theorem and_mask {x : Nat} (hx : x < 18446744073709551616) : IntKind.u64.wrap ↑(x % 2 ^ IntKind.u64.bits &&& 2 ^ IntKind.u64.bits - 1 - 9218868437227405312 % 2 ^ IntKind.u64.bits) = ((x / 9223372036854775808 * 9223372036854775808 + x % 4503599627370496 : Nat) : Int) := by
  have e3 : (2 ^ IntKind.u64.bits - 1 - 9218868437227405312 % 2 ^ IntKind.u64.bits : Nat) = 9223372036854775808 ||| (2 ^ 52 - 1) := by decide
  have e52 : (2 : Nat) ^ 52 = 4503599627370496 := rfl
  have hor : 9223372036854775808 * (x / 9223372036854775808) + x % 4503599627370496 = 9223372036854775808 * (x / 9223372036854775808) ||| x % 4503599627370496 := by
    have := Nat.two_pow_add_eq_or_of_lt (i := 63) (b := x % 4503599627370496) (by have : (2 : Nat) ^ 63 = 9223372036854775808 := rfl; omega) (x / 9223372036854775808)
    exact this
  rw [e3, bits64, Nat.mod_eq_of_lt hx, Nat.and_or_distrib_left, Nat.and_two_pow_sub_one_eq_mod, and_63 hx, e52, Nat.mul_comm (x / 9223372036854775808), ← hor, wrap_u64 (by omega) (by omega)]
theorem or_exp {s l k : Nat} (hs : s ≤ 1) (hl : l < 4503599627370496) (hk : k < 2048) : (s * 9223372036854775808 + l) ||| k * 4503599627370496 = s * 9223372036854775808 + (k * 4503599627370496 + l) := by
  have e63 : (2 : Nat) ^ 63 = 9223372036854775808 := rfl
  have e52 : (2 : Nat) ^ 52 = 4503599627370496 := rfl
  have h1 := Nat.two_pow_add_eq_or_of_lt (i := 63) (b := l) (by omega) s
  have h2 := Nat.two_pow_add_eq_or_of_lt (i := 52) (b := l) (by omega) k
  have h3 := Nat.two_pow_add_eq_or_of_lt (i := 63) (b := k * 4503599627370496 + l) (by omega) s
  rw [e63] at h1 h3
  rw [e52] at h2
  rw [Nat.mul_comm s, h1, Nat.or_assoc, Nat.or_comm l, Nat.mul_comm k, ← h2, Nat.mul_comm _ k, ← h3]
theorem q1 {K : Nat} (hK : K < 2048) : IntKind.u64.wrap (K : Int) = K := wrap_u64 (by omega) (by omega)
theorem q2 {K : Nat} (hK : K < 2048) : IntKind.u64.wrap ((K : Int) * 4503599627370496) = K * 4503599627370496 := wrap_u64 (by omega) (by omega)
theorem q3 {K : Nat} (hK : K < 2048) : ((K : Int) * 4503599627370496 % 18446744073709551616).toNat = K * 4503599627370496 := by omega
theorem q4 {g l : Nat} (h : g ≤ 1) (hl : l < 4503599627370496) : (((g * 9223372036854775808 + l : Nat) : Int) % 18446744073709551616).toNat = g * 9223372036854775808 + l := by omega
theorem q5 {g l K : Nat} (h : g ≤ 1) (hl : l < 4503599627370496) (hK : K < 2048) : (IntKind.u64.wrap ((g * 9223372036854775808 + (K * 4503599627370496 + l) : Nat) : Int)).toNat = g * 9223372036854775808 + (K * 4503599627370496 + l) := by
  rw [wrap_u64 (by omega) (by omega), Int.toNat_natCast]
theorem q6 {f g l : Nat} (hf : f < 18446744073709551616) (hg : f / 9223372036854775808 = g) (hl : f % 4503599627370496 = l) : g ≤ 1 ∧ l < 4503599627370496 := by omega
theorem q7 : (2 : Int) ^ min 52 IntKind.u64.bits = 4503599627370496 := by decide
theorem pack {f g l K : Nat} {Z : Int} (hf : f < 18446744073709551616) (hg : f / 9223372036854775808 = g) (hl : f % 4503599627370496 = l) (hZ : Z = K) (hK : K < 2048) :
    (IntKind.u64.wrap ↑((IntKind.u64.wrap ↑(f % 2 ^ IntKind.u64.bits &&& 2 ^ IntKind.u64.bits - 1 - 9218868437227405312 % 2 ^ IntKind.u64.bits) % 2 ^ IntKind.u64.bits).toNat ||| (IntKind.u64.wrap (IntKind.u64.wrap Z * 2 ^ min 52 IntKind.u64.bits) % 2 ^ IntKind.u64.bits).toNat)).toNat = g * 9223372036854775808 + (K * 4503599627370496 + l) := by
  obtain ⟨h1, h2⟩ := q6 hf hg hl
  rw [and_mask hf, hg, hl, hZ, q1 hK, q7, q2 hK, bits64I, q3 hK, q4 h1 h2, or_exp h1 h2 hK]
  exact q5 h1 h2 hK
theorem q8 : (2 : Int) ^ IntKind.i64.bits = 18446744073709551616 := by decide
theorem q9 : (2047 : Nat) % 2 ^ IntKind.i64.bits = 2 ^ 11 - 1 := by decide
theorem q10 {f k l : Nat} {s : Bool} (hfd : f = (if s then 9223372036854775808 else 0) + (k * 4503599627370496 + l)) (hk : k < 2048) (hl : l < 4503599627370496) : f / 4503599627370496 % 2 ^ 11 = k ∧ f < 18446744073709551616 ∧ f % 4503599627370496 = l ∧ f / 9223372036854775808 = (if s then 1 else 0) := by
  cases s <;> simp at hfd ⊢ <;> omega
theorem exp_at {f k l : Nat} {s : Bool} (hfd : f = (if s then 9223372036854775808 else 0) + (k * 4503599627370496 + l)) (hk : k < 2048) (hl : l < 4503599627370496) :
    IntKind.i64.wrap ↑((IntKind.i64.wrap ((f : Int).fdiv (2 ^ min 52 IntKind.u64.bits)) % 2 ^ IntKind.i64.bits).toNat &&& 2047 % 2 ^ IntKind.i64.bits) = (k : Int) := by
  obtain ⟨h1, h2, _, _⟩ := q10 hfd hk hl
  obtain ⟨d, hd⟩ : ∃ d, d = f / 4503599627370496 := ⟨_, rfl⟩
  have hd2 : d < 4096 := by omega
  have e4 : (f : Int).fdiv 4503599627370496 = (d : Int) := by rw [Int.fdiv_eq_ediv_of_nonneg _ (by omega), hd]; omega
  have e5 : (d : Int) % 18446744073709551616 = d := by omega
  have e6 : IntKind.i64.wrap (d : Int) = d := wrap_i64 (by omega) (by omega)
  rw [q7, e4, e6, q8, e5, q9, Int.toNat_natCast, Nat.and_two_pow_sub_one_eq_mod, hd, h1]
  exact wrap_i64 (by omega) (by omega)
theorem IsF.uniq {f : Nat} {s s' : Bool} {m m' : Nat} {i i' : Int} (h : IsF f s m i) (h' : IsF f s' m' i') : s' = s ∧ m' = m ∧ i' = i := by
  have := h'.rd.symm.trans h.rd
  injection this with a b c
  exact ⟨a, b, c⟩
theorem ldexp_no {f : Nat} {s : Bool} {m : Nat} {i q : Int} (h : IsF f s m i) {r : Nat} (hn : i + q < -1127 ∨ 971 < i + q) (hq : -2000 ≤ q ∧ q ≤ 2000) : ∀ s m i, IsF f s m i → ∀ M I, Norm M I → ¬ M = 0 → valU M I = valU m (i + q) → r = dbl.word s (rungOf M I) := by
  intro s' m' i' h' M I hN h0 hv
  obtain ⟨rfl, rfl, rfl⟩ := h.uniq h'
  exfalso
  obtain ⟨n1, n2, n3, n4⟩ := hN
  have a := h.lo
  have b := h.i0
  have c := h.i1
  rcases valU_hv (by omega) (by omega) hv with ⟨x, e1, e2⟩ | ⟨x, e1, e2⟩
  · cases x with
    | zero => omega
    | succ x =>
      have := Nat.le_mul_of_pos_right m' (Nat.two_pow_pos x)
      rw [Nat.pow_succ, ← Nat.mul_assoc] at e2
      omega
  · by_cases hx : x < 53
    · omega
    · have h53 : (2 : Nat) ^ 53 ≤ 2 ^ x := Nat.pow_le_pow_right (by decide) (by omega)
      have e53 : (2 : Nat) ^ 53 = 9007199254740992 := rfl
      have := Nat.le_mul_of_pos_left (2 ^ x) (Nat.pos_of_ne_zero h0)
      have hm := (read_norm h.rd).sm
      omega
theorem read_m53 : dbl.read 4368491638549381120 = .number false 4503599627370496 (-105) := by kernel_rfl
end Go.Sx

namespace Go.Sx
open Go Go.Proofs.YtclbanhoiaieaaaGreatDoor

theorem index_first {c : UInt8} {sub b : Str} : ∀ {a : Str}, c ∉ a → Lib.index (a ++ (c :: sub ++ b)) (c :: sub) = a.length
  | [], _ => by
    have h : (c :: sub).isPrefixOf (c :: (sub ++ b)) = true := by
      rw [List.isPrefixOf_iff_prefix]
      exact ⟨b, by simp⟩
    show Lib.index (c :: (sub ++ b)) (c :: sub) = _
    rw [Lib.index, if_pos h]; rfl
  | x :: a, h => by
    simp only [List.mem_cons, not_or] at h
    have ih := index_first (sub := sub) (b := b) h.2
    have hn : (c :: sub).isPrefixOf (x :: (a ++ (c :: sub ++ b))) = false := by
      rw [List.isPrefixOf, beq_eq_false_iff_ne.2 h.1]; rfl
    show Lib.index (x :: (a ++ (c :: sub ++ b))) (c :: sub) = _
    rw [Lib.index, hn, ih]
    have : ((a.length : Int) == -1) = false := by rw [beq_eq_false_iff_ne]; omega
    rw [this]
    simp
theorem cut_sub {c : UInt8} {sub a b : Str} (h : c ∉ a) : Lib.cut (a ++ (c :: sub ++ b)) (c :: sub) = (a, b, true) := by
  unfold Lib.cut
  rw [index_first h, if_pos (by omega), Int.toNat_natCast, List.take_left]
  have e : a ++ (c :: sub ++ b) = (a ++ (c :: sub)) ++ b := by simp
  rw [e, List.drop_left' (by simp)]
def sgnN (s : Bool) (n : Nat) : Int := if s then -(n : Int) else n
theorem sgnN_abs (s : Bool) (n : Nat) : (sgnN s n).natAbs = n := by cases s <;> simp [sgnN]
theorem decZ_sgn (s : Bool) {n : Nat} (h : n ≠ 0) : decZ (sgnN s n) = (if s then [45] else []) ++ decL n := by
  cases s
  · simp only [sgnN, Bool.false_eq_true, if_false, List.nil_append]
    unfold decZ
    rw [if_neg (by omega), Int.natAbs_natCast]
  · simp only [sgnN, if_true]
    unfold decZ
    rw [if_pos (by omega), Int.natAbs_neg, Int.natAbs_natCast]; rfl
theorem real_cases {t : Str} {x : Nat} (ht : t = realL x) : t = [110, 97, 110] ∨ t = [105, 110, 102] ∨ t = [45, 105, 110, 102] ∨ t = [48] ∨ t = [45, 48] ∨
    ∃ s M I n e, dbl.read x = .number s M I ∧ M ≠ 0 ∧ t = (if s then [45] else []) ++ (decL n ++ ([42, 50, 94] ++ decZ e)) ∧ n % 2 = 1 ∧ n < 9007199254740992 ∧ -1074 ≤ e ∧ e + (n.log2 : Int) ≤ 1023 ∧ e ≤ 1023 ∧ valU M I = valU n e := by
  subst ht
  unfold realL
  cases hr : dbl.read x with
  | nan s f => exact Or.inl rfl
  | infinity s => cases s <;> simp
  | number s M I =>
    by_cases h0 : M = 0
    · cases s <;> simp [h0]
    · right; right; right; right; right
      obtain ⟨n, e, h1, h2⟩ := plain_odd (read_norm hr) h0
      refine ⟨s, M, I, n, e, rfl, h0, ?_, h2⟩
      simp only
      rw [if_neg h0]
      cases s <;> simp [h1]
theorem float_int {n : Int} (h0 : n ≠ 0) (h : n.natAbs ≤ 9007199254740992) : ∃ s m i, IsF (FloatKind.f64.nearest n) s m i ∧ s = decide (n < 0) ∧ (n.natAbs < 9007199254740992 → valU m i = valU n.natAbs 0) := by
  by_cases hb : n.natAbs < 9007199254740992
  · obtain ⟨m, d, hd, hr, hm⟩ := read_whole hb
    have hN := read_norm hr
    have hp := Nat.two_pow_pos d
    have ha : 1 ≤ n.natAbs := by omega
    have h2 : 2 ^ d ≤ m := by rw [hm]; exact Nat.le_mul_of_pos_left _ ha
    have hd53 : d < 53 := by
      by_cases hc : d < 53
      · exact hc
      · have h53 : (2 : Nat) ^ 53 ≤ 2 ^ d := Nat.pow_le_pow_right (by decide) (by omega)
        have e53 : (2 : Nat) ^ 53 = 9007199254740992 := rfl
        have := hN.sm
        omega
    refine ⟨_, m, _, ⟨nearest_lt hb, hr, by have := hN.nr; omega, by omega, by omega⟩, rfl, fun _ => ?_⟩
    have e : (0 : Int) = -(d : Int) + d := by omega
    rw [e, valU_up _ d (by omega), hm]
  · rcases (by omega : n = 9007199254740992 ∨ n = -9007199254740992) with rfl | rfl
    · exact ⟨false, 4503599627370496, 1, ⟨by decide +kernel, by kernel_rfl, by decide, by decide, by decide⟩, by decide, fun h => absurd h hb⟩
    · exact ⟨true, 4503599627370496, 1, ⟨by decide +kernel, by kernel_rfl, by decide, by decide, by decide⟩, by decide, fun h => absurd h hb⟩
theorem valU_shift {m n : Nat} {i j e : Int} (h : valU m i = valU n j) (h1 : -5000 ≤ i) (h2 : -5000 ≤ j) (h3 : -5000 ≤ i + e) (h4 : -5000 ≤ j + e) : valU m (i + e) = valU n (j + e) := by
  rcases valU_hv h1 h2 h with ⟨a, e1, e2⟩ | ⟨a, e1, e2⟩
  · subst e2
    have : j + e = (i + e) + (a : Nat) := by omega
    rw [this, valU_up n a h3]
  · subst e2
    have : i + e = (j + e) + (a : Nat) := by omega
    rw [this, valU_up m a h4]
theorem real_parts {t a b : Str} {ok : Bool} (hcut : Lib.cut t [42, 50, 94] = (a, b, ok)) (c1 : t ≠ [110, 97, 110]) (c2 : t ≠ [105, 110, 102]) (c3 : t ≠ [45, 105, 110, 102]) (c4 : t ≠ [48]) (c5 : t ≠ [45, 48]) {x : Nat} (hx : x < 18446744073709551616) (ht : t = realL x) :
    ok = true ∧ ∃ s n e M I, a = decZ (sgnN s n) ∧ b = decZ e ∧ x = dbl.word s (rungOf M I) ∧ Norm M I ∧ M ≠ 0 ∧ n % 2 = 1 ∧ n < 9007199254740992 ∧ -1074 ≤ e ∧ e ≤ 1023 ∧ valU M I = valU n e := by
  rcases real_cases ht with h | h | h | h | h | ⟨s, M, I, n, e, hr, h0, h1, h2, h3, h4, h5, h6, h7⟩
  · exact absurd h c1
  · exact absurd h c2
  · exact absurd h c3
  · exact absurd h c4
  · exact absurd h c5
  · have e1 : t = decZ (sgnN s n) ++ (42 :: [50, 94] ++ decZ e) := by rw [decZ_sgn s (by omega), h1]; simp
    rw [e1, cut_sub (decZ_not (by decide))] at hcut
    simp only [Prod.mk.injEq] at hcut
    exact ⟨hcut.2.2.symm, s, n, e, M, I, hcut.1.symm, hcut.2.1.symm, word_of hx hr, read_norm hr, h0, h2, h3, h4, h6, h7⟩
theorem cut_len' {t p a b : Str} {ok : Bool} (h : Lib.cut t p = (a, b, ok)) : a.length ≤ t.length ∧ b.length ≤ t.length := by
  unfold Lib.cut at h
  split at h <;> (simp only [Prod.mk.injEq] at h; obtain ⟨rfl, rfl, _⟩ := h; simp)
  omega
theorem real_self {t : Str} {r : Nat} (hr : r < 18446744073709551616) (h : realL r = t) : RealTo t r := ⟨hr, fun x hx e => realL_inj hr hx (h.trans e)⟩
end Go.Sx
