/-
  How the arguments of the laws are opened. Conditions: none.
-/
import Derived.Test.YtmiicjgbhkjocaaFacts
import Derived.Test.YtmiicjgbhkjocaaR
import Derived.Test.YtmiicjgbhkjocaaFx
set_option linter.unusedVariables false
set_option linter.unusedSimpArgs false
set_option maxRecDepth 100000
namespace Go.Proofs.Ytmiicjgbhkjocaa
open Go Go.Sx Go.ChangeShapes Go.WideShapes Go.ChangeAt Go.RowKit

theorem own : ownKnob Try.prog.godebug = none := by kernel_rfl
theorem laidOut : laidOutB Try.prog = true := fxLaid

theorem openMem {w : World} {r : Reach} {base : Nat} {v : Value} (h : Value.okWide Try.prog w r base 36 v) : ∃ m, v = .agg (cells m) ∧ MOk m := by
  obtain ⟨cs, rfl, hl, hc⟩ := open_cells (ks := memK) (by kernel_rfl) (by kernel_rfl) (by kernel_rfl) h
  obtain ⟨m, rfl, hm⟩ := mem_open hl hc
  exact ⟨m, rfl, hm⟩
theorem openDev {w : World} {r : Reach} {base : Nat} {v : Value} (h : Value.okWide Try.prog w r base 206 v) : ∃ k n p, v = .agg #[.int .i64 k, .int .i64 n, .int .i64 p] ∧
    (-9223372036854775808 ≤ k ∧ k ≤ 9223372036854775807) ∧ (-9223372036854775808 ≤ n ∧ n ≤ 9223372036854775807) ∧ (-9223372036854775808 ≤ p ∧ p ≤ 9223372036854775807) := by
  obtain ⟨cs, rfl, hl, hc⟩ := open_cells (ks := [.int .i64, .int .i64, .int .i64]) (by kernel_rfl) (by kernel_rfl) (by kernel_rfl) h
  obtain ⟨k, n, p, rfl, hk⟩ := dev_open hl hc
  exact ⟨k, n, p, rfl, hk⟩

theorem openBytes {H : Type} {enc : TypeId × Value → H} {w : World} {r : Reach} {base : Nat} {sp : Nat → Bool} {held : Bool} {v : Value} (h : Value.okWide Try.prog w r base 46 v) (ht : ∃ d p, DataW.Trod enc Try.prog w 0 sp held 46 v d p) :
    ∃ o cap bs, v = .slice o bs.length cap ∧ RdB w.cell? o bs ∧ (∀ b ∈ bs, 0 ≤ b ∧ b < 256) ∧ bs.length ≤ cap ∧ cap ≤ maxLen := by
  have hv := okWide_sl (e := 5) (by kernel_rfl) h
  obtain ⟨d, p, fuel, hf⟩ := ht
  rw [hv] at hf
  obtain ⟨o, cap, bs, e, h1⟩ := bytes_trod (e := 5) (by kernel_rfl) (by kernel_rfl) (by kernel_rfl) hf
  simp at e
  exact ⟨o, cap, bs, e, h1⟩
theorem openElem {H : Type} {enc : TypeId × Value → H} {w : World} {r : Reach} {base : Nat} {sp : Nat → Bool} {held : Bool} {v : Value} (h : Value.okWide Try.prog w r base 148 v) (ht : ∃ d p, DataW.Trod enc Try.prog w 0 sp held 148 v d p) :
    ∃ op o cap xs, v = .agg #[.int .i64 op, .slice o xs.length cap] ∧ RdD w.cell? o xs ∧ xs.length ≤ cap ∧ cap ≤ maxLen := by
  obtain ⟨cs, rfl⟩ := okWide_struct (l := [(0, 1, 3), (1, 1, 146)]) (by kernel_rfl) h
  obtain ⟨d, p, fuel, hf⟩ := ht
  obtain ⟨op, o, cap, xs, e, h1, h2, h3⟩ := elem_trod (ti := 3) (s := 146) (e := 206) (by kernel_rfl) (by kernel_rfl) (by kernel_rfl) (by kernel_rfl) (by kernel_rfl) (by kernel_rfl) hf
  refine ⟨op, o, cap, xs, ?_, h1, h2, h3⟩
  congr 1
  exact Array.ext' e
theorem openInst {H : Type} {enc : TypeId × Value → H} {w : World} {r : Reach} {base : Nat} {sp : Nat → Bool} {held : Bool} {v : Value} (h : Value.okWide Try.prog w r base 150 v) (ht : ∃ d p, DataW.Trod enc Try.prog w 0 sp held 150 v d p) :
    ∃ code op o cap xs, v = .agg #[.int .i64 code, .int .i64 op, .slice o xs.length cap] ∧ RdD w.cell? o xs ∧ xs.length ≤ cap ∧ cap ≤ maxLen := by
  obtain ⟨cs, rfl⟩ := okWide_struct (l := [(0, 1, 3), (1, 2, 148)]) (by kernel_rfl) h
  obtain ⟨d, p, fuel, hf⟩ := ht
  obtain ⟨x, hx⟩ := inst_trod (ti := 3) (el := 148) (s := 146) (e := 206) (by kernel_rfl) (by kernel_rfl) (by kernel_rfl) (by kernel_rfl) (by kernel_rfl) (by kernel_rfl) (by kernel_rfl) (by kernel_rfl) hf
  obtain ⟨o, cap, e, h1, h2, h3⟩ := hx.ex
  refine ⟨x.code, x.op, o, cap, x.args, ?_, h1, h2, h3⟩
  congr 1
  exact Array.ext' e
theorem openList {H : Type} {enc : TypeId × Value → H} {w : World} {r : Reach} {base : Nat} {sp : Nat → Bool} {held : Bool} {v : Value} (h : Value.okWide Try.prog w r base 82 v) (ht : ∃ d p, DataW.Trod enc Try.prog w 0 sp held 82 v d p) :
    ∃ o cap xs, v = .slice o xs.length cap ∧ RdN w.cell? o xs ∧ xs.length ≤ cap ∧ cap ≤ maxLen := by
  have hv := okWide_sl (e := 150) (by kernel_rfl) h
  obtain ⟨d, p, fuel, hf⟩ := ht
  rw [hv] at hf
  obtain ⟨o, cap, xs, e, h1⟩ := list_trod (t := 150) (ti := 3) (el := 148) (s := 146) (e := 206) (by kernel_rfl) (by kernel_rfl) (by kernel_rfl) (by kernel_rfl) (by kernel_rfl) (by kernel_rfl) (by kernel_rfl) (by kernel_rfl) (by kernel_rfl) hf
  simp at e
  exact ⟨o, cap, xs, e, h1⟩
end Go.Proofs.Ytmiicjgbhkjocaa
