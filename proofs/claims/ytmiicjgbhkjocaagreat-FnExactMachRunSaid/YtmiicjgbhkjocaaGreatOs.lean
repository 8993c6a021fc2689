/-
  How a row of samples is opened. Conditions: none.
-/
import Derived.Test.YtmiicjgbhkjocaaGreatO
import Derived.Test.YtmiicjgbhkjocaaGreatMr
import Derived.Laws.IdiomArrays
set_option linter.unusedVariables false
set_option linter.unusedSimpArgs false
set_option maxRecDepth 100000
set_option maxHeartbeats 1000000
namespace Go.Proofs.YtmiicjgbhkjocaaGreat
open Go Go.Sx Go.ChangeShapes Go.WideShapes Go.ChangeAt Go.RowKit

section
variable {H : Type} {enc : TypeId × Value → H} {P : Program} {w : World} {base : Nat} {spare : Nat → Bool} {held : Bool}
theorem f64_trod {t : TypeId} {fuel : Nat} {cs : List Value} {x : DataW H × List MemPlace} (ht : P.underlying t = some (.float .f64)) (h : DataW.trod enc P w base spare held fuel t cs = some x) : ∃ b, cs = [.float .f64 b] ∧ b < 18446744073709551616 := by
  cases fuel with
  | zero => simp [DataW.trod] at h
  | succ n =>
    unfold DataW.trod at h
    rw [ht] at h
    split at h <;> (try (simp_all; done))
    rename_i k k' b heq
    simp only [Option.some.injEq, TypeDesc.float.injEq] at heq
    subst heq
    split at h
    · rename_i hh
      obtain ⟨rfl, hw⟩ := hh
      exact ⟨b, rfl, by simpa [Lit.wf] using hw⟩
    · simp at h
theorem sample_trod {t ta tx tt te : TypeId} {fuel : Nat} {cs : List Value} {x : DataW H × List MemPlace} (hk : fieldsK P t = some [(0, 1, tx), (1, 1, tt), (2, 4, ta)]) (hc : P.cellsOf t = 6) (hx : P.underlying tx = some (.int .u32)) (htt : P.underlying tt = some (.int .u16))
    (ha : P.underlying ta = some (.array 4 te)) (he : P.cellsOf te = 1) (hf : P.underlying te = some (.float .f64)) (h : DataW.trod enc P w base spare held fuel t cs = some x) : ∃ s : Smp, cs = smL s ∧ SmpOk s := by
  obtain ⟨hl, n, hg⟩ := trod_fields hk h
  rw [hc] at hl
  match cs, hl with
  | [a, b, c0, c1, c2, c3], _ =>
    obtain ⟨_, h0⟩ := hg 0 0 1 tx rfl
    obtain ⟨_, h1⟩ := hg 1 1 1 tt rfl
    obtain ⟨_, h2⟩ := hg 2 2 4 ta rfl
    obtain ⟨k, e0, _, b0⟩ := DataW.trod_int hx h0
    obtain ⟨m, e1, _, b1⟩ := DataW.trod_int htt h1
    obtain ⟨y0, y1, y2, y3, n', _, g0, g1, g2, g3⟩ := trod_array4 ha he h2
    obtain ⟨f0, i0, j0⟩ := f64_trod hf g0
    obtain ⟨f1, i1, j1⟩ := f64_trod hf g1
    obtain ⟨f2, i2, j2⟩ := f64_trod hf g2
    obtain ⟨f3, i3, j3⟩ := f64_trod hf g3
    simp at e0 e1 i0 i1 i2 i3
    subst e0 e1 i0 i1 i2 i3
    simp [Lit.wf, IntKind.min, IntKind.max, IntKind.signed, IntKind.bits] at b0 b1
    refine ⟨⟨k, m, ⟨fun k => if k = 0 then f0 else if k = 1 then f1 else if k = 2 then f2 else if k = 3 then f3 else default, fun k h => by (repeat' rw [if_neg (by omega)])⟩⟩, by simp [smL, sampleL, iL_lit], ⟨by constructor <;> simp only <;> omega, by constructor <;> simp only <;> omega, fun k hk => ?_⟩⟩
    obtain rfl | rfl | rfl | rfl : k = 0 ∨ k = 1 ∨ k = 2 ∨ k = 3 := by omega
    all_goals simpa
theorem samples_trod {l t ta tx tt te : TypeId} {fuel : Nat} {cs : List Value} {x : DataW H × List MemPlace} (hlt : P.underlying l = some (.slice t)) (hk : fieldsK P t = some [(0, 1, tx), (1, 1, tt), (2, 4, ta)]) (hc : P.cellsOf t = 6) (hx : P.underlying tx = some (.int .u32)) (htt : P.underlying tt = some (.int .u16))
    (ha : P.underlying ta = some (.array 4 te)) (he : P.cellsOf te = 1) (hf : P.underlying te = some (.float .f64)) (h : DataW.trod enc P w base spare held fuel l cs = some x) :
    ∃ o cap ss, cs = [.slice o (List.length ss) cap] ∧ RdSm w.cell? o ss ∧ (∀ s ∈ ss, SmpOk s) ∧ ss.length ≤ cap ∧ cap ≤ maxLen := by
  obtain ⟨o, len, cap, rfl, hl, hcap, rows, rfl, hr, ht⟩ := trod_rows hlt hc h
  have key : ∀ (rows : List (List Value)), (∀ r ∈ rows, ∃ n y, DataW.trod enc P w base spare held n t r = some y) → ∃ ss : List Smp, rows = ss.map smL ∧ ∀ s ∈ ss, SmpOk s := by
    intro rows
    induction rows with
    | nil => intro _; exact ⟨[], rfl, by simp⟩
    | cons r rows ih =>
      intro hh
      obtain ⟨n, y, hy⟩ := hh r (by simp)
      obtain ⟨s, rfl, hs⟩ := sample_trod hk hc hx htt ha he hf hy
      obtain ⟨ss, rfl, hss⟩ := ih fun r' hr' => hh r' (by simp [hr'])
      exact ⟨s :: ss, rfl, fun q hq => by
        rcases List.mem_cons.1 hq with rfl | hq
        · exact hs
        · exact hss q hq⟩
  obtain ⟨ss, rfl, hss⟩ := key rows ht
  exact ⟨o, cap, ss, by simp, hr, hss, by simpa using hl, hcap⟩
end
theorem openSamples {H : Type} {enc : TypeId × Value → H} {w : World} {r : Reach} {base : Nat} {sp : Nat → Bool} {held : Bool} {v : Value} (h : Value.okWide Tryz.prog w r base 103 v) (ht : ∃ d p, DataW.Trod enc Tryz.prog w 0 sp held 103 v d p) :
    ∃ o cap ss, v = .slice o (List.length ss) cap ∧ RdSm w.cell? o ss ∧ (∀ s ∈ ss, SmpOk s) ∧ ss.length ≤ cap ∧ cap ≤ maxLen := by
  have hv := okWide_sl (e := 93) (by kernel_rfl) h
  obtain ⟨d, p, fuel, hf⟩ := ht
  rw [hv] at hf
  obtain ⟨o, cap, ss, e, h1⟩ := samples_trod (t := 93) (ta := 39) (tx := 24) (tt := 26) (te := 35) (by kernel_rfl) (by kernel_rfl) (by kernel_rfl) (by kernel_rfl) (by kernel_rfl) (by kernel_rfl) (by kernel_rfl) (by kernel_rfl) hf
  exact ⟨o, cap, ss, by simpa using e, h1⟩
end Go.Proofs.YtmiicjgbhkjocaaGreat
