/-
  How the arguments of the laws are opened. Conditions: none.
-/
import Derived.Test.YtclbanhoiaieaaaGreatDoorInva
import Derived.Test.YtclbanhoiaieaaaGreatDoorFactsva
import Derived.Test.YtclbanhoiaieaaaGreatDoorFxva
import Derived.Deep.Slices
import Derived.ProofKit
set_option linter.unusedVariables false
set_option linter.unusedSimpArgs false
set_option maxRecDepth 100000
set_option maxHeartbeats 1000000
namespace Go.Sx
open Go Go.ChangeShapes Go.WideShapes Go.ChangeAt Go.RowKit

theorem trodAll_below {H : Type} {enc : TypeId × Value → H} {P : Program} (hl : laidOutB P = true) {W W' : World} (hb : Below W.heap.size W W') :
    ∀ (ts : List TypeId) (vs : List Value) (ds : List (DataW H)) (ps : List MemPlace), (∀ t ∈ ts, P.readableRec t = true ∧ t < P.types.size) →
      DataW.TrodAll enc P W 0 (fun _ => true) true ts vs ds ps → (∀ x ∈ ps, x.block < W.heap.size) →
      DataW.TrodAll enc P W' 0 (fun b => decide (b < W.heap.size)) true ts vs ds ps
  | [], vs, ds, ps, _, h, _ => by
    cases vs <;> cases ds <;> simp_all [DataW.TrodAll]
  | t :: ts, [], ds, ps, _, h, _ => by simp [DataW.TrodAll] at h
  | t :: ts, v :: vs, [], ps, _, h, _ => by simp [DataW.TrodAll] at h
  | t :: ts, v :: vs, d :: ds, ps, ht, h, hlt => by
    obtain ⟨p, q, h1, h2, rfl⟩ := h
    have a := ht t (by simp)
    exact ⟨p, q, Below.trod hl a.1 a.2 h1 hb (fun x hx => hlt x (by simp [hx])), trodAll_below hl hb ts vs ds q (fun u hu => ht u (by simp [hu])) h2 (fun x hx => hlt x (by simp [hx])), rfl⟩

theorem trodAll_len {H : Type} {enc : TypeId × Value → H} {P : Program} {W : World} {base : Nat} {sp : Nat → Bool} {held : Bool} :
    ∀ (ts : List TypeId) (vs : List Value) (ds : List (DataW H)) (ps : List MemPlace), DataW.TrodAll enc P W base sp held ts vs ds ps → vs.length = ts.length ∧ ds.length = ts.length
  | [], vs, ds, ps, h => by cases vs <;> cases ds <;> simp_all [DataW.TrodAll]
  | t :: ts, [], ds, ps, h => by simp [DataW.TrodAll] at h
  | t :: ts, v :: vs, [], ps, h => by simp [DataW.TrodAll] at h
  | t :: ts, v :: vs, d :: ds, ps, h => by
    obtain ⟨p, q, h1, h2, rfl⟩ := h
    have := trodAll_len ts vs ds q h2
    simpa using this

theorem trodAll_at {H : Type} {enc : TypeId × Value → H} {P : Program} {W : World} {base : Nat} {sp : Nat → Bool} {held : Bool} :
    ∀ {ts : List TypeId} {vs : List Value} {ds : List (DataW H)} {ps : List MemPlace}, DataW.TrodAll enc P W base sp held ts vs ds ps → ∀ (j : Nat) t v, ts[j]? = some t → vs[j]? = some v → ∃ d p, DataW.Trod enc P W base sp held t v d p
  | [], vs, ds, ps, h, j, t, v, ht, hv => by simp at ht
  | t :: ts, [], ds, ps, h, j, t', v', ht, hv => by simp at hv
  | t :: ts, v :: vs, [], ps, h, j, t', v', ht, hv => by simp [DataW.TrodAll] at h
  | t :: ts, v :: vs, d :: ds, ps, h, j, t', v', ht, hv => by
    obtain ⟨p, q, h1, h2, rfl⟩ := h
    cases j with
    | zero => simp at ht hv; subst ht; subst hv; exact ⟨d, p, h1⟩
    | succ j => exact trodAll_at h2 j t' v' (by simpa using ht) (by simpa using hv)

def vI : Value → Int | .int _ n => n | _ => 0
/- Arguments that hold slices. -/
section
variable {H : Type} {enc : TypeId × Value → H} {P : Program} {w : World} {base : Nat} {spare : Nat → Bool} {held : Bool}
theorem trod_rows {t e : TypeId} {size : Nat} {fuel : Nat} {cs : List Value} {x : DataW H × List MemPlace} (ht : P.underlying t = some (.slice e)) (hc : P.cellsOf e = size) (h : DataW.trod enc P w base spare held fuel t cs = some x) :
    ∃ o len cap, cs = [.slice o len cap] ∧ len ≤ cap ∧ cap ≤ maxLen ∧ ∃ rows : List (List Value), rows.length = len ∧ RdO w.cell? size o rows ∧ ∀ r ∈ rows, ∃ n y, DataW.trod enc P w base spare held n e r = some y := by
  rcases Go.Deep.open_slice ht h with ⟨rfl, _⟩ | ⟨a, len, cap, m, n, D, Pl, rfl, _, hl, hcap, hm, _, hi⟩
  · exact ⟨none, 0, 0, rfl, Nat.le_refl _, by unfold maxLen; omega, [], rfl, RdO.nil _ _ _, by simp⟩
  · have hlm : len ≤ m := by rw [hm]; split <;> omega
    refine ⟨some a, len, cap, rfl, hl, hcap, (List.range len).map fun i => (w.cells? base (a.add (i * size)) size).getD [], by simp, fun i r hr => ?_, fun r hr => ?_⟩
    · rw [List.getElem?_map, Option.map_eq_some_iff] at hr
      obtain ⟨i', hi', rfl⟩ := hr
      obtain ⟨hil, hie⟩ := List.getElem?_eq_some_iff.1 hi'
      simp only [List.length_range] at hil
      simp only [List.getElem_range] at hie
      subst hie
      obtain ⟨cs', hcs, hy⟩ := hi i (by omega)
      rw [hc] at hcs
      obtain ⟨_, hcl, hat⟩ := World.cells?_some hcs
      rw [hcs]
      refine ⟨hcl, a, rfl, fun j x hx => ?_⟩
      simp only [Option.getD_some] at hx
      have := hat j (by rw [← hcl]; exact (List.getElem?_eq_some_iff.1 hx).1)
      rw [addr_add_add] at this
      rw [this, hx]
    · simp only [List.mem_map, List.mem_range] at hr
      obtain ⟨i, hil, rfl⟩ := hr
      obtain ⟨cs', hcs, hy⟩ := hi i (by omega)
      rw [hc] at hcs
      rw [hcs]
      exact ⟨n, _, hy⟩
theorem bytes_trod {t e : TypeId} {fuel : Nat} {cs : List Value} {x : DataW H × List MemPlace} (ht : P.underlying t = some (.slice e)) (hc : P.cellsOf e = 1) (hi : P.underlying e = some (.int .u8))
    (h : DataW.trod enc P w base spare held fuel t cs = some x) : ∃ o cap bs, cs = [.slice o bs.length cap] ∧ RdB w.cell? o bs ∧ (∀ b ∈ bs, 0 ≤ b ∧ b < 256) ∧ bs.length ≤ cap ∧ cap ≤ maxLen := by
  obtain ⟨o, len, cap, rfl, hl, hcap, rows, rfl, hr, ht⟩ := trod_rows ht hc h
  have hrow : ∀ r ∈ rows, r = [.int .u8 (vI (r.getD 0 default))] ∧ 0 ≤ vI (r.getD 0 default) ∧ vI (r.getD 0 default) < 256 := by
    intro r hr
    obtain ⟨n, y, hy⟩ := ht r hr
    obtain ⟨b, rfl, _, hw⟩ := DataW.trod_int hi hy
    refine ⟨rfl, ?_⟩
    simp [Lit.wf, IntKind.has, IntKind.min, IntKind.max, IntKind.signed, IntKind.bits] at hw
    simp [vI]; omega
  refine ⟨o, cap, rows.map fun r => vI (r.getD 0 default), by simp, ?_, ?_, by simpa using hl, hcap⟩
  · intro j v hj
    rw [List.getElem?_map, List.getElem?_map] at hj
    cases hrj : rows[j]? with
    | none => rw [hrj] at hj; simp at hj
    | some r =>
      rw [hrj] at hj
      simp only [Option.map_some, Option.some.injEq] at hj
      obtain ⟨_, a, ha, hf⟩ := hr j r hrj
      refine ⟨a, ha, ?_⟩
      have e := (hrow r (List.mem_of_getElem? hrj)).1
      have := hf 0 v (by rw [e, ← hj]; rfl)
      simpa using this
  · intro b hb
    simp only [List.mem_map] at hb
    obtain ⟨r, hr, rfl⟩ := hb
    exact (hrow r hr).2
theorem okWide_sl {r : Reach} {t e : TypeId} {v : Value} (hk : P.underlying t = some (.slice e)) (h : Value.okWide P w r base t v) : v.cells = #[v] := by
  unfold Value.okWide at h
  rw [hk] at h
  simp only [Cell.okWide, hk] at h
  cases v <;> first | rfl | (unfold Cell.ok at h; rw [hk] at h; simp at h)
end
end Go.Sx
namespace Go.Proofs.YtclbanhoiaieaaaGreatDoor
open Go Go.Sx Go.ChangeShapes Go.WideShapes Go.ChangeAt Go.RowKit

theorem own : ownKnob Tryz.prog.godebug = none := by kernel_rfl
theorem laidOut : laidOutB Tryz.prog = true := fxLaid

theorem openBytes {H : Type} {enc : TypeId × Value → H} {w : World} {r : Reach} {base : Nat} {sp : Nat → Bool} {held : Bool} {v : Value} (h : Value.okWide Tryz.prog w r base 41 v) (ht : ∃ d p, DataW.Trod enc Tryz.prog w 0 sp held 41 v d p) :
    ∃ o cap bs, v = .slice o bs.length cap ∧ RdB w.cell? o bs ∧ (∀ b ∈ bs, 0 ≤ b ∧ b < 256) ∧ bs.length ≤ cap ∧ cap ≤ maxLen := by
  have hv := okWide_sl (e := 5) (by kernel_rfl) h
  obtain ⟨d, p, fuel, hf⟩ := ht
  rw [hv] at hf
  obtain ⟨o, cap, bs, e, h1⟩ := bytes_trod (e := 5) (by kernel_rfl) (by kernel_rfl) (by kernel_rfl) hf
  simp at e
  exact ⟨o, cap, bs, e, h1⟩
end Go.Proofs.YtclbanhoiaieaaaGreatDoor
