/-
  The program's MemPutWhole, MemPutReal and ActEnd return what the reference's return. Conditions: none.
-/
import Derived.Test.YtooiepddaclbgaaC2
import Derived.Test.YtooiepddaclbgaaO
set_option linter.unusedVariables false
set_option linter.unusedSimpArgs false
set_option maxRecDepth 100000
namespace Go.Proofs.Ytooiepddaclbgaa
open Go Go.Sx Go.ChangeShapes Go.WideShapes Go.ChangeAt Go.RowKit

theorem fnExactMemPutWhole_lifted (os : Os) (started : os.Started) (H : Type) (enc : TypeId × Value → H) :
    ReturnsInHanded {} Try.checked os 10 .any (Rows.fnExactMemPutWholeSpec.pre6 enc Try.prog Try.f10 Rows.fnExactMemPutWholeRow.domain false) (Rows.fnExactMemPutWholeSpec.post enc Try.prog Try.f10 false true false false) := by
  refine lifted_of_walk (C := Try.checked) (tb := 4) own started (by kernel_rfl) Try.func10
    (ChangeSpec.witness6 (enc := enc) (C := Try.checked) false ⟨#[], #[.agg (cells zeroM), .agg #[.int .i64 0, .int .i64 0, .int .i64 0], .int .i16 0], []⟩ 12 (by kernel_rfl) (by kernel_rfl) (by kernel_rfl) (by kernel_rfl))
    laidOut (by kernel_rfl) rfl rfl (by kernel_rfl) (fun ds hd => ?_) (fun W base args hsz hval => ?_)
  · match ds, hd with
    | [d0, d1, d2], _ => rfl
  · obtain ⟨a0, a1, a2, rfl⟩ : ∃ a0 a1 a2, args = #[a0, a1, a2] := by
      obtain ⟨l⟩ := args
      match l, hsz with
      | [a0, a1, a2], _ => exact ⟨a0, a1, a2, rfl⟩
    obtain ⟨m, rfl, h_m⟩ := openMem (hval 0 _ a0 rfl rfl)
    obtain ⟨k, n, p, rfl, h_k⟩ := openDev (hval 1 _ a1 rfl rfl)
    obtain ⟨v, rfl, h_v⟩ := openInt (k := .i16) (by kernel_rfl) (hval 2 _ a2 rfl rfl)
    exact lawMemPutWholeC_c m k n p v (MOk_putWhole h_m h_v) W

theorem fnExactMemPutWhole_holds : Rows.FnExactMemPutWholeSaid :=
  OpenClaim.holds_of_wide 10 Try.f10 rfl rfl rfl rfl rfl rfl rfl ⟨rfl, rfl, rfl, rfl, rfl⟩ rfl rfl rfl rfl rfl (by kernel_rfl) Try.func10 (by kernel_rfl)
    (of_decide_eq_true (by kernel_rfl)) (by unfold Func.isWrapper; first | (rw [if_pos (by decide +kernel)]; kernel_rfl) | (rw [if_neg (by decide +kernel)]; exact ⟨rfl, rfl⟩))
    (fun os started H enc _ => fnExactMemPutWhole_lifted os started H enc)
theorem fnExactMemPutReal_lifted (os : Os) (started : os.Started) (H : Type) (enc : TypeId × Value → H) :
    ReturnsInHanded {} Try.checked os 9 .any (Rows.fnExactMemPutRealSpec.pre6 enc Try.prog Try.f9 Rows.fnExactMemPutRealRow.domain false) (Rows.fnExactMemPutRealSpec.post enc Try.prog Try.f9 false true false false) := by
  refine lifted_of_walk (C := Try.checked) (tb := 4) own started (by kernel_rfl) Try.func9
    (ChangeSpec.witness6 (enc := enc) (C := Try.checked) false ⟨#[], #[.agg (cells zeroM), .agg #[.int .i64 0, .int .i64 0, .int .i64 0], .float .f64 0], []⟩ 12 (by kernel_rfl) (by kernel_rfl) (by kernel_rfl) (by kernel_rfl))
    laidOut (by kernel_rfl) rfl rfl (by kernel_rfl) (fun ds hd => ?_) (fun W base args hsz hval => ?_)
  · match ds, hd with
    | [d0, d1, d2], _ => rfl
  · obtain ⟨a0, a1, a2, rfl⟩ : ∃ a0 a1 a2, args = #[a0, a1, a2] := by
      obtain ⟨l⟩ := args
      match l, hsz with
      | [a0, a1, a2], _ => exact ⟨a0, a1, a2, rfl⟩
    obtain ⟨m, rfl, h_m⟩ := openMem (hval 0 _ a0 rfl rfl)
    obtain ⟨k, n, p, rfl, h_k⟩ := openDev (hval 1 _ a1 rfl rfl)
    obtain ⟨v, rfl, h_v⟩ := openFloat (by kernel_rfl) (hval 2 _ a2 rfl rfl)
    exact lawMemPutRealC_c m k n p v (MOk_putReal h_m h_v) W

theorem fnExactMemPutReal_holds : Rows.FnExactMemPutRealSaid :=
  OpenClaim.holds_of_wide 9 Try.f9 rfl rfl rfl rfl rfl rfl rfl ⟨rfl, rfl, rfl, rfl, rfl⟩ rfl rfl rfl rfl rfl (by kernel_rfl) Try.func9 (by kernel_rfl)
    (of_decide_eq_true (by kernel_rfl)) (by unfold Func.isWrapper; first | (rw [if_pos (by decide +kernel)]; kernel_rfl) | (rw [if_neg (by decide +kernel)]; exact ⟨rfl, rfl⟩))
    (fun os started H enc _ => fnExactMemPutReal_lifted os started H enc)
theorem fnExactActEnd_lifted (os : Os) (started : os.Started) (H : Type) (enc : TypeId × Value → H) :
    ReturnsInHanded {} Try.checked os 5 .any (Rows.fnExactActEndSpec.pre6 enc Try.prog Try.f5 Rows.fnExactActEndRow.domain false) (Rows.fnExactActEndSpec.post enc Try.prog Try.f5 false true false false) := by
  refine lifted_of_walk (C := Try.checked) (tb := 4) own started (by kernel_rfl) Try.func5
    (ChangeSpec.witness6 (enc := enc) (C := Try.checked) false ⟨#[], #[.agg (cells zeroM)], []⟩ 12 (by kernel_rfl) (by kernel_rfl) (by kernel_rfl) (by kernel_rfl))
    laidOut (by kernel_rfl) rfl rfl (by kernel_rfl) (fun ds hd => ?_) (fun W base args hsz hval => ?_)
  · match ds, hd with
    | [d0], _ => rfl
  · obtain ⟨a0, rfl⟩ : ∃ a0, args = #[a0] := by
      obtain ⟨l⟩ := args
      match l, hsz with
      | [a0], _ => exact ⟨a0, rfl⟩
    obtain ⟨m, rfl, h_m⟩ := openMem (hval 0 _ a0 rfl rfl)
    exact lawActEndC_c m h_m W

theorem fnExactActEnd_holds : Rows.FnExactActEndSaid :=
  OpenClaim.holds_of_wide 5 Try.f5 rfl rfl rfl rfl rfl rfl rfl ⟨rfl, rfl, rfl, rfl, rfl⟩ rfl rfl rfl rfl rfl (by kernel_rfl) Try.func5 (by kernel_rfl)
    (of_decide_eq_true (by kernel_rfl)) (by unfold Func.isWrapper; first | (rw [if_pos (by decide +kernel)]; kernel_rfl) | (rw [if_neg (by decide +kernel)]; exact ⟨rfl, rfl⟩))
    (fun os started H enc _ => fnExactActEnd_lifted os started H enc)
end Go.Proofs.Ytooiepddaclbgaa
