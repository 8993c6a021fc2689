/-
  How the arguments of the laws are opened. Conditions: none.
-/
import Derived.Test.YtglcclkifhjonaaGreatDoorInum
import Derived.Test.YtglcclkifhjonaaGreatDoorFactsum
import Derived.Test.YtglcclkifhjonaaGreatDoorFxum
import Derived.Deep.Slices
import Derived.ProofKit
set_option linter.unusedVariables false
set_option linter.unusedSimpArgs false
set_option maxRecDepth 100000
set_option maxHeartbeats 1000000
namespace Go.Sx
open Go Go.ChangeShapes Go.WideShapes Go.ChangeAt Go.RowKit

theorem trodAll_below {H : Type} {enc : TypeId × Value → H} {P : Program} (hl : laidOutB P = true) {W W' : World} (hb : Below W.heap.size W W') :
    ∀ (ts : List TypeId) (vs : List Value) (ds : List (DataW H)) (ps : List MemPlace), (∀ t ∈ ts, P.readableRec t = true ∧ t < P.types.size) →
      DataW.TrodAll enc P W 0 (fun _ => true) true ts vs ds ps → (∀ x ∈ ps, x.block < W.heap.size) →
      DataW.TrodAll enc P W' 0 (fun b => decide (b < W.heap.size)) true ts vs ds ps
  | [], vs, ds, ps, _, h, _ => by
    cases vs <;> cases ds <;> simp_all [DataW.TrodAll]
  | t :: ts, [], ds, ps, _, h, _ => by simp [DataW.TrodAll] at h
  | t :: ts, v :: vs, [], ps, _, h, _ => by simp [DataW.TrodAll] at h
  | t :: ts, v :: vs, d :: ds, ps, ht, h, hlt => by
    obtain ⟨p, q, h1, h2, rfl⟩ := h
    have a := ht t (by simp)
    exact ⟨p, q, Below.trod hl a.1 a.2 h1 hb (fun x hx => hlt x (by simp [hx])), trodAll_below hl hb ts vs ds q (fun u hu => ht u (by simp [hu])) h2 (fun x hx => hlt x (by simp [hx])), rfl⟩

theorem trodAll_len {H : Type} {enc : TypeId × Value → H} {P : Program} {W : World} {base : Nat} {sp : Nat → Bool} {held : Bool} :
    ∀ (ts : List TypeId) (vs : List Value) (ds : List (DataW H)) (ps : List MemPlace), DataW.TrodAll enc P W base sp held ts vs ds ps → vs.length = ts.length ∧ ds.length = ts.length
  | [], vs, ds, ps, h => by cases vs <;> cases ds <;> simp_all [DataW.TrodAll]
  | t :: ts, [], ds, ps, h => by simp [DataW.TrodAll] at h
  | t :: ts, v :: vs, [], ps, h => by simp [DataW.TrodAll] at h
  | t :: ts, v :: vs, d :: ds, ps, h => by
    obtain ⟨p, q, h1, h2, rfl⟩ := h
    have := trodAll_len ts vs ds q h2
    simpa using this

theorem trodAll_at {H : Type} {enc : TypeId × Value → H} {P : Program} {W : World} {base : Nat} {sp : Nat → Bool} {held : Bool} :
    ∀ {ts : List TypeId} {vs : List Value} {ds : List (DataW H)} {ps : List MemPlace}, DataW.TrodAll enc P W base sp held ts vs ds ps → ∀ (j : Nat) t v, ts[j]? = some t → vs[j]? = some v → ∃ d p, DataW.Trod enc P W base sp held t v d p
  | [], vs, ds, ps, h, j, t, v, ht, hv => by simp at ht
  | t :: ts, [], ds, ps, h, j, t', v', ht, hv => by simp at hv
  | t :: ts, v :: vs, [], ps, h, j, t', v', ht, hv => by simp [DataW.TrodAll] at h
  | t :: ts, v :: vs, d :: ds, ps, h, j, t', v', ht, hv => by
    obtain ⟨p, q, h1, h2, rfl⟩ := h
    cases j with
    | zero => simp at ht hv; subst ht; subst hv; exact ⟨d, p, h1⟩
    | succ j => exact trodAll_at h2 j t' v' (by simpa using ht) (by simpa using hv)

/- Arguments that hold slices. -/
section
variable {H : Type} {enc : TypeId × Value → H} {P : Program} {w : World} {base : Nat} {spare : Nat → Bool} {held : Bool}
end
end Go.Sx
namespace Go.Proofs.YtglcclkifhjonaaGreatDoor
open Go Go.Sx Go.ChangeShapes Go.WideShapes Go.ChangeAt Go.RowKit

theorem own : ownKnob Tryz.prog.godebug = none := by kernel_rfl
theorem laidOut : laidOutB Tryz.prog = true := fxLaid

end Go.Proofs.YtglcclkifhjonaaGreatDoor
