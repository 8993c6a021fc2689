/-
  What the rows' listed variables hold, as facts, where no coils' names are listed: the tables, the two errors, and the word of the search.
-/
import Derived.Test.YtclbanhoiaieaaaGreatDoorTyvc
import Derived.Test.YtclbanhoiaieaaaGreatDoorOlvc
import Derived.Shelf.Vars
set_option linter.unusedVariables false
set_option linter.unusedSimpArgs false
set_option maxRecDepth 100000
namespace Go.Sx
open Go
theorem laid_ifaceR {P : Program} {w : World} {l : List (String × DataW Unit)} (h : laidMet P l w) {n name : String} {d : DataW Unit} (hm : (n, .iface name d) ∈ l) {g t : Nat} {ms : Array Nat}
    (hg : P.globalNamed n = some g) (hgt : (P.globals[g]?).map (·.type) = some t) (ht : ∃ x, P.underlying t = some (.interface x)) : ∃ u v, w.cell? ⟨g, 0, none⟩ = some (.iface u v) := by
  obtain ⟨ps, hl, _⟩ := h
  obtain ⟨g', t', cs, f, p, h1, h2, h3, h4⟩ := laid_at hl hm
  obtain rfl := Option.some.inj (hg.symm.trans h1)
  obtain rfl := Option.some.inj (hgt.symm.trans h2)
  obtain ⟨x, ht⟩ := ht
  have hc := cells_of_var hg h3
  obtain ⟨u, v, e⟩ : ∃ u v, cs.toList = [.iface u v] := by
    cases f with
    | zero => simp [DataW.trod] at h4
    | succ k =>
      unfold DataW.trod at h4
      rw [ht] at h4
      split at h4 <;> simp_all
  rw [e] at hc
  obtain ⟨a, h5, h6⟩ := hc 0 (.iface u v) rfl
  cases h5
  exact ⟨u, v, h6⟩
end Go.Sx
namespace Go.Proofs.YtclbanhoiaieaaaGreatDoor
open Go Go.Sx
theorem tr_laid {W : World} {l : List (String × DataW Unit)} (hL : laidMet Tryz.prog l W) (hSh : W.ShapedOpen Tryz.prog) (m1 : ("internal/strconv.uint64pow10", DataW.agg (Lib.pow10Tab.map fun z => .lit (.int .u64 z))) ∈ l)
    (m2 : ("loop.example/stilmach/impl.devWords", DataW.agg (words4.map fun z => .lit (.string z))) ∈ l)
    {d1 d2 : DataW Unit} {n1 n2 : String} (m4 : ("strconv.ErrRange", .iface n1 d1) ∈ l) (m5 : ("strconv.ErrSyntax", .iface n2 d2) ∈ l) : TR W.cell? := by
  obtain ⟨m, hm⟩ := cell_of_shapedOpen_int (P := Tryz.prog) (g := 5) (zero := #[.int .i64 0]) (t := 3) hSh (of_decide_eq_true (by kernel_rfl)) (by kernel_rfl) rfl (by kernel_rfl) (by kernel_rfl) Tryz.underlying3
  obtain ⟨u1, v1, e1⟩ := laid_ifaceR hL m4 (ms := #[]) (g := 7) (t := 143) (by kernel_rfl) (by kernel_rfl) ⟨_, Tryz.underlying143⟩
  obtain ⟨u2, v2, e2⟩ := laid_ifaceR hL m5 (ms := #[]) (g := 6) (t := 143) (by kernel_rfl) (by kernel_rfl) ⟨_, Tryz.underlying143⟩
  exact ⟨⟨(laid_ints (zs := Lib.pow10Tab) (ik := .u64) hL m1 (t := 223) (e := 23) (k := 20) (by kernel_rfl) (by kernel_rfl) (by kernel_rfl) (by kernel_rfl) (by kernel_rfl) (by kernel_rfl)).2, laid_strs (zs := words4) hL m2 (t := 164) (e := 9) (k := 4) (by kernel_rfl) (by kernel_rfl) (by kernel_rfl) (by kernel_rfl) (by kernel_rfl) (by kernel_rfl)⟩,
    ⟨⟨m, hm⟩, ⟨_, e2, Or.inr ⟨_, _, rfl⟩⟩, ⟨_, e1, Or.inr ⟨_, _, rfl⟩⟩⟩⟩
end Go.Proofs.YtclbanhoiaieaaaGreatDoor
