/-
  The row: FnExactMemBit.
-/
import Derived.Test.YtooiepddaclbgaaC
import Derived.Test.YtooiepddaclbgaaR
set_option linter.unusedVariables false
set_option linter.unusedSimpArgs false
set_option maxRecDepth 100000
namespace Go.Proofs.Ytooiepddaclbgaa
open Go Go.Sx Go.ChangeShapes Go.WideShapes Go.ChangeAt Go.RowKit

theorem own : ownKnob Try.prog.godebug = none := by kernel_rfl
theorem laidOut : laidOutB Try.prog = true := by kernel_rfl

theorem openMem {w : World} {r : Reach} {base : Nat} {v : Value} (h : Value.okWide Try.prog w r base 36 v) : ∃ m, v = .agg (cells m) ∧ MOk m := by
  obtain ⟨cs, rfl, hl, hc⟩ := open_cells (ks := memK) (by kernel_rfl) (by kernel_rfl) (by kernel_rfl) h
  obtain ⟨m, rfl, hm⟩ := mem_open hl hc
  exact ⟨m, rfl, hm⟩
theorem openDev {w : World} {r : Reach} {base : Nat} {v : Value} (h : Value.okWide Try.prog w r base 47 v) : ∃ k n p, v = .agg #[.int .i64 k, .int .i64 n, .int .i64 p] ∧
    (-9223372036854775808 ≤ k ∧ k ≤ 9223372036854775807) ∧ (-9223372036854775808 ≤ n ∧ n ≤ 9223372036854775807) ∧ (-9223372036854775808 ≤ p ∧ p ≤ 9223372036854775807) := by
  obtain ⟨cs, rfl, hl, hc⟩ := open_cells (ks := [.int .i64, .int .i64, .int .i64]) (by kernel_rfl) (by kernel_rfl) (by kernel_rfl) h
  obtain ⟨k, n, p, rfl, hk⟩ := dev_open hl hc
  exact ⟨k, n, p, rfl, hk⟩

theorem memBit_lifted (os : Os) (started : os.Started) (H : Type) (enc : TypeId × Value → H) :
    ReturnsInHanded {} Try.checked os 6 .any (Rows.fnExactMemBitSpec.pre6 enc Try.prog Try.f6 Rows.fnExactMemBitRow.domain false) (Rows.fnExactMemBitSpec.post enc Try.prog Try.f6 false true false false) := by
  refine lifted_of_walk (C := Try.checked) (tb := 4) own started (by kernel_rfl) Try.func6
    (ChangeSpec.witness6 (enc := enc) (C := Try.checked) false ⟨#[], #[.agg (cells zeroM), .agg #[.int .i64 0, .int .i64 0, .int .i64 0]], []⟩ 12 (by kernel_rfl) (by kernel_rfl) (by kernel_rfl) (by kernel_rfl))
    laidOut (by kernel_rfl) rfl rfl (by kernel_rfl) (fun ds hd => ?_) (fun W base args hsz hval => ?_)
  · match ds, hd with
    | [a, b], _ => rfl
  · obtain ⟨v0, v1, rfl⟩ : ∃ v0 v1, args = #[v0, v1] := by
      obtain ⟨l⟩ := args
      match l, hsz with
      | [a, b], _ => exact ⟨a, b, rfl⟩
    obtain ⟨m, rfl, hm⟩ := openMem (hval 0 _ v0 rfl rfl)
    obtain ⟨k, n, p, rfl, hk⟩ := openDev (hval 1 _ v1 rfl rfl)
    exact lawMemBitC_c m k n p hm W

theorem memBit_holds : Rows.FnExactMemBitSaid :=
  OpenClaim.holds_of_wide 6 Try.f6 rfl rfl rfl rfl rfl rfl rfl ⟨rfl, rfl, rfl, rfl, rfl⟩ rfl rfl rfl rfl rfl (by kernel_rfl) Try.func6 (by kernel_rfl)
    (of_decide_eq_true (by kernel_rfl)) (by unfold Func.isWrapper; first | (rw [if_pos (by decide +kernel)]; kernel_rfl) | (rw [if_neg (by decide +kernel)]; exact ⟨rfl, rfl⟩))
    (fun os started H enc _ => memBit_lifted os started H enc)
end Go.Proofs.Ytooiepddaclbgaa
