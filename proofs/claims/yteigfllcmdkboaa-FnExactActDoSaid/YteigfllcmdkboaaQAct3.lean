/-
  The program's ActDo returns what the reference's returns, for all arguments. Conditions: none.
-/
import Derived.Test.YteigfllcmdkboaaDx
import Derived.Test.YteigfllcmdkboaaO
set_option linter.unusedVariables false
set_option linter.unusedSimpArgs false
set_option maxRecDepth 100000
namespace Go.Proofs.Yteigfllcmdkboaa
open Go Go.Sx Go.ChangeShapes Go.WideShapes Go.ChangeAt Go.RowKit

theorem fnExactActDo_lifted (os : Os) (started : os.Started) (H : Type) (enc : TypeId × Value → H) :
    ReturnsInHanded {} Try.checked os 9 .any (Rows.fnExactActDoSpec.pre6 enc Try.prog Try.f9 Rows.fnExactActDoRow.domain false) (Rows.fnExactActDoSpec.post enc Try.prog Try.f9 false true false false) := by
  refine lifted_of_walk (C := Try.checked) (tb := 4) own started (by kernel_rfl) Try.func9
    (ChangeSpec.witness6 (enc := enc) (C := Try.checked) false ⟨#[], #[.agg (cells zeroM), .agg #[.int .i64 0, .slice none 0 0], .bool false, .int .u16 0], []⟩ 12 (by kernel_rfl) (by kernel_rfl) (by kernel_rfl) (by kernel_rfl))
    laidOut (by kernel_rfl) rfl rfl (by kernel_rfl) (fun ds hd => ?_) (fun W base args hsz hval htr => ?_)
  · match ds, hd with
    | [d0, d1, d2, d3], _ => rfl
  · obtain ⟨a0, a1, a2, a3, rfl⟩ : ∃ a0 a1 a2 a3, args = #[a0, a1, a2, a3] := by
      obtain ⟨l⟩ := args
      match l, hsz with
      | [a0, a1, a2, a3], _ => exact ⟨a0, a1, a2, a3, rfl⟩
    obtain ⟨m, rfl, h_m⟩ := openMem (hval 0 _ a0 rfl rfl)
    obtain ⟨op, o, cap, xs, rfl, h_op⟩ := openElem (hval 1 _ a1 rfl rfl) (htr 1 _ a1 rfl rfl)
    obtain ⟨cur, rfl⟩ := okWide_bool (by kernel_rfl) (hval 2 _ a2 rfl rfl)
    obtain ⟨dt, rfl, h_dt⟩ := openInt (k := .u16) (by kernel_rfl) (hval 3 _ a3 rfl rfl)
    exact lawActDoC_c m op o cap xs cur dt W (by rw [factF_init]; exact ⟨h_op.1, h_m, by have := h_dt.1; simp [IntKind.min, IntKind.signed] at this; omega, by have := h_dt.2; simp [IntKind.max, IntKind.signed, IntKind.bits] at this; omega, by have := h_op.2.1; have := h_op.2.2; unfold maxLen at this; omega⟩)

theorem fnExactActDo_holds : Rows.FnExactActDoSaid :=
  OpenClaim.holds_of_wide 9 Try.f9 rfl rfl rfl rfl rfl rfl rfl ⟨rfl, rfl, rfl, rfl, rfl⟩ rfl rfl rfl rfl rfl (by kernel_rfl) Try.func9 (by kernel_rfl)
    (of_decide_eq_true (by kernel_rfl)) (by unfold Func.isWrapper; first | (rw [if_pos (by decide +kernel)]; kernel_rfl) | (rw [if_neg (by decide +kernel)]; exact ⟨rfl, rfl⟩))
    (fun os started H enc _ => fnExactActDo_lifted os started H enc)
end Go.Proofs.Yteigfllcmdkboaa
