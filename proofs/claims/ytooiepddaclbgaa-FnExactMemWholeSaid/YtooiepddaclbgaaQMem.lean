/-
  The program's MemBit and MemWhole return what the reference's return. Conditions: none.
-/
import Derived.Test.YtooiepddaclbgaaC
import Derived.Test.YtooiepddaclbgaaO
set_option linter.unusedVariables false
set_option linter.unusedSimpArgs false
set_option maxRecDepth 100000
namespace Go.Proofs.Ytooiepddaclbgaa
open Go Go.Sx Go.ChangeShapes Go.WideShapes Go.ChangeAt Go.RowKit

theorem fnExactMemBit_lifted (os : Os) (started : os.Started) (H : Type) (enc : TypeId × Value → H) :
    ReturnsInHanded {} Try.checked os 6 .any (Rows.fnExactMemBitSpec.pre6 enc Try.prog Try.f6 Rows.fnExactMemBitRow.domain false) (Rows.fnExactMemBitSpec.post enc Try.prog Try.f6 false true false false) := by
  refine lifted_of_walk (C := Try.checked) (tb := 4) own started (by kernel_rfl) Try.func6
    (ChangeSpec.witness6 (enc := enc) (C := Try.checked) false ⟨#[], #[.agg (cells zeroM), .agg #[.int .i64 0, .int .i64 0, .int .i64 0]], []⟩ 12 (by kernel_rfl) (by kernel_rfl) (by kernel_rfl) (by kernel_rfl))
    laidOut (by kernel_rfl) rfl rfl (by kernel_rfl) (fun ds hd => ?_) (fun W base args hsz hval => ?_)
  · match ds, hd with
    | [d0, d1], _ => rfl
  · obtain ⟨a0, a1, rfl⟩ : ∃ a0 a1, args = #[a0, a1] := by
      obtain ⟨l⟩ := args
      match l, hsz with
      | [a0, a1], _ => exact ⟨a0, a1, rfl⟩
    obtain ⟨m, rfl, h_m⟩ := openMem (hval 0 _ a0 rfl rfl)
    obtain ⟨k, n, p, rfl, h_k⟩ := openDev (hval 1 _ a1 rfl rfl)
    exact lawMemBitC_c m k n p h_m W

theorem fnExactMemBit_holds : Rows.FnExactMemBitSaid :=
  OpenClaim.holds_of_wide 6 Try.f6 rfl rfl rfl rfl rfl rfl rfl ⟨rfl, rfl, rfl, rfl, rfl⟩ rfl rfl rfl rfl rfl (by kernel_rfl) Try.func6 (by kernel_rfl)
    (of_decide_eq_true (by kernel_rfl)) (by unfold Func.isWrapper; first | (rw [if_pos (by decide +kernel)]; kernel_rfl) | (rw [if_neg (by decide +kernel)]; exact ⟨rfl, rfl⟩))
    (fun os started H enc _ => fnExactMemBit_lifted os started H enc)
theorem fnExactMemWhole_lifted (os : Os) (started : os.Started) (H : Type) (enc : TypeId × Value → H) :
    ReturnsInHanded {} Try.checked os 4 .any (Rows.fnExactMemWholeSpec.pre6 enc Try.prog Try.f4 Rows.fnExactMemWholeRow.domain false) (Rows.fnExactMemWholeSpec.post enc Try.prog Try.f4 false true false false) := by
  refine lifted_of_walk (C := Try.checked) (tb := 4) own started (by kernel_rfl) Try.func4
    (ChangeSpec.witness6 (enc := enc) (C := Try.checked) false ⟨#[], #[.agg (cells zeroM), .agg #[.int .i64 0, .int .i64 0, .int .i64 0]], []⟩ 12 (by kernel_rfl) (by kernel_rfl) (by kernel_rfl) (by kernel_rfl))
    laidOut (by kernel_rfl) rfl rfl (by kernel_rfl) (fun ds hd => ?_) (fun W base args hsz hval => ?_)
  · match ds, hd with
    | [d0, d1], _ => rfl
  · obtain ⟨a0, a1, rfl⟩ : ∃ a0 a1, args = #[a0, a1] := by
      obtain ⟨l⟩ := args
      match l, hsz with
      | [a0, a1], _ => exact ⟨a0, a1, rfl⟩
    obtain ⟨m, rfl, h_m⟩ := openMem (hval 0 _ a0 rfl rfl)
    obtain ⟨k, n, p, rfl, h_k⟩ := openDev (hval 1 _ a1 rfl rfl)
    exact lawMemWholeC_c m k n p h_m W

theorem fnExactMemWhole_holds : Rows.FnExactMemWholeSaid :=
  OpenClaim.holds_of_wide 4 Try.f4 rfl rfl rfl rfl rfl rfl rfl ⟨rfl, rfl, rfl, rfl, rfl⟩ rfl rfl rfl rfl rfl (by kernel_rfl) Try.func4 (by kernel_rfl)
    (of_decide_eq_true (by kernel_rfl)) (by unfold Func.isWrapper; first | (rw [if_pos (by decide +kernel)]; kernel_rfl) | (rw [if_neg (by decide +kernel)]; exact ⟨rfl, rfl⟩))
    (fun os started H enc _ => fnExactMemWhole_lifted os started H enc)
end Go.Proofs.Ytooiepddaclbgaa
