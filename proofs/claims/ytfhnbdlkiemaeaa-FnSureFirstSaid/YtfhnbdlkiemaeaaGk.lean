/-
  Contracts: what the law of coils draws; a memory with what a coil may change taken from another one.
-/
import Derived.Test.YtfhnbdlkiemaeaaGj
import Derived.Test.YtfhnbdlkiemaeaaSw
import Derived.Test.YtfhnbdlkiemaeaaGe
import Derived.Test.YtfhnbdlkiemaeaaMc
import Derived.Test.YtfhnbdlkiemaeaaI
import Derived.Test.YtfhnbdlkiemaeaaG
import Derived.Test.YtfhnbdlkiemaeaaDo
import Derived.Test.YtfhnbdlkiemaeaaIn
set_option linter.unusedVariables false
set_option linter.unusedSimpArgs false
set_option maxRecDepth 100000
set_option maxHeartbeats 4000000
namespace Go.Proofs.Ytfhnbdlkiemaeaa
open Go Go.Sx

theorem open_is {cx : Cx} {mem : List Blk} {b : Nat} {o : Option Addr} {cap : Nat} {bs : List Int} (h : RdB (factF cx) o bs) (hb : ∀ b ∈ bs, 0 ≤ b ∧ b < 256) :
    (⟨mem.length, b, o, cap, bs.take 2000, 88⟩ : Rdr).Is (factF cx) (mem ++ [(⟨mem.length, b, o, cap, bs.take 2000, 88⟩ : Rdr).blk 0]) := by
  refine ⟨by simp, fun j x hx => ?_, fun x hx => hb x (List.mem_of_mem_take hx), by simp; omega⟩
  simp only [List.map_take] at hx
  rw [List.getElem?_take] at hx
  split at hx
  · exact h j x hx
  · simp at hx
theorem l10OpenC_c (o : Option Addr) (cap : Nat) (bs : List Int) (cx : Cx) (mem : List Blk) (w : World) (hpre : RdB (factF cx) o bs ∧ (∀ b ∈ bs, 0 ≤ b ∧ b < 256) ∧ bs.length ≤ cap ∧ cap ≤ maxLen) (hm : MemRel cx mem w) :
    Calls Try.prog 49 (([.v (.slice o bs.length cap)] : List C).map den).toArray w fun e w' => ∃ cx' c mem', e = .returned (den c) ∧ MemRel cx' mem' w' ∧ ∃ (R : Rdr) (mem0 : List Blk) (p0 : Int), c = .p R.k R.b 0 ∧ mem' = mem0.set R.k (R.blk p0) ∧ p0 = 0 ∧ R.Is (factF cx') mem0 ∧ R.ty = 88 ∧ Le cx cx' ∧ mem0.take mem.length = mem ∧ R.k = mem.length ∧ mem0.length = mem.length + 1 := by
  refine step_of_vcs ⟨[], []⟩ hmx Try.func49 rfl (by kernel_rfl) (args := [.v (.slice o bs.length cap)]) (by simp [Try.ntmps49]) hm (fun cx' c mem' => ∃ (R : Rdr) (mem0 : List Blk) (p0 : Int), c = .p R.k R.b 0 ∧ mem' = mem0.set R.k (R.blk p0) ∧ p0 = 0 ∧ R.Is (factF cx') mem0 ∧ R.ty = 88 ∧ Le cx cx' ∧ mem0.take mem.length = mem ∧ R.k = mem.length ∧ mem0.length = mem.length + 1) 400 ?_
  obtain ⟨h, hb, hc, hcm⟩ := hpre
  have hcm' : cap ≤ 9223372036854775807 := by unfold maxLen at hcm; omega
  by_cases h2 : 2000 < bs.length
  · have h2' : (2000 : Int) < bs.length := by omega
    have h3 : (2000 : Int) ≤ cap := by omega
    simp (maxSteps := 4000000) -dsimp [-List.all_eq_true, -Array.all_eq_true, -Bool.exists_bool, -Bool.forall_bool, vcsE1, vcsE2, vcsE3, vcsE4, vcsE5, vcsE6, vcsE7, vcsE8, vcsE9, vcsE10, vcsE11, vcsE12, vcsE13, vcsE14, vcsE15, vcsE16, vcsE17, vcsE18, vcsE19, Sx.get, Sx.look, Sx.put, pureFn, findOrd, unF, dstOk, isFloatT, endVC, resFn, packC, newFn, storeFn, buildFn, undef, known, aggT, cellsC, Value.cells, findCon, Con.pure, Con.some, allV, partsV, partsC, fillL, Sx.exitTo, fAr, C.one, Value.oneCell', eqFn, eqFieldsFn, eqElemsFn, partFn, and_assoc, List.zipIdx, sliceFn, boundFn, AppV, CopyV, MakeSliceV, NewsV, GrowV, TextV, bytesL, notInt, typeAt, argAt, Con.read, Con.make, Con.ext, Con.rel, den, Con.extS, Con.draw, Con.step, Draws.steps, Try.f49, h2', h3]
    intro b
    refine EndK.all ⟨⟨mem.length, b, o, cap, bs.take 2000, 88⟩, _, 0, rfl, ?_, rfl, open_is h hb, rfl, Le.refl _, by simp, rfl, by simp⟩
    simp [Rdr.blk]
    omega
  · have h2' : ¬ (2000 : Int) < bs.length := by omega
    simp (maxSteps := 4000000) -dsimp [-List.all_eq_true, -Array.all_eq_true, -Bool.exists_bool, -Bool.forall_bool, vcsE1, vcsE2, vcsE3, vcsE4, vcsE5, vcsE6, vcsE7, vcsE8, vcsE9, vcsE10, vcsE11, vcsE12, vcsE13, vcsE14, vcsE15, vcsE16, vcsE17, vcsE18, vcsE19, Sx.get, Sx.look, Sx.put, pureFn, findOrd, unF, dstOk, isFloatT, endVC, resFn, packC, newFn, storeFn, buildFn, undef, known, aggT, cellsC, Value.cells, findCon, Con.pure, Con.some, allV, partsV, partsC, fillL, Sx.exitTo, fAr, C.one, Value.oneCell', eqFn, eqFieldsFn, eqElemsFn, partFn, and_assoc, List.zipIdx, sliceFn, boundFn, AppV, CopyV, MakeSliceV, NewsV, GrowV, TextV, bytesL, notInt, typeAt, argAt, Con.read, Con.make, Con.ext, Con.rel, den, Con.extS, Con.draw, Con.step, Draws.steps, Try.f49, h2']
    intro b
    refine EndK.all ⟨⟨mem.length, b, o, cap, bs.take 2000, 88⟩, _, 0, rfl, ?_, rfl, open_is h hb, rfl, Le.refl _, by simp, rfl, by simp⟩
    simp [Rdr.blk]
    omega
def l10OpenC_S : Gens Try.prog 49 where
  ι := ((Option Addr) × (Nat) × (List Int))
  A := fun (i : ((Option Addr) × (Nat) × (List Int))) => match i with | (o, cap, bs) => [.v (.slice o bs.length cap)]
  pre := fun (i : ((Option Addr) × (Nat) × (List Int))) (cx : Cx) (mem : List Blk) => match i with | (o, cap, bs) => RdB (factF cx) o bs ∧ (∀ b ∈ bs, 0 ≤ b ∧ b < 256) ∧ bs.length ≤ cap ∧ cap ≤ maxLen
  post := fun (i : ((Option Addr) × (Nat) × (List Int))) (cx : Cx) (mem : List Blk) (cx' : Cx) (c : C) (mem' : List Blk) => match i with | (o, cap, bs) => ∃ (R : Rdr) (mem0 : List Blk) (p0 : Int), c = .p R.k R.b 0 ∧ mem' = mem0.set R.k (R.blk p0) ∧ p0 = 0 ∧ R.Is (factF cx') mem0 ∧ R.ty = 88 ∧ Le cx cx' ∧ mem0.take mem.length = mem ∧ R.k = mem.length ∧ mem0.length = mem.length + 1
  enter := Try.call49
  h := fun i cx mem w hp hm => l10OpenC_c i.1 i.2.1 i.2.2 cx mem w hp hm
def l10OpenC : Con Try.prog := Con.gen l10OpenC_S
theorem l10OpenC_at {o : Option Addr} {cap : Nat} {bs : List Int} {d : Nat} {cx : Cx} {mem : List Blk} {K : Cx → C → List Blk → Prop} (hpre : RdB (factF cx) o bs ∧ (∀ b ∈ bs, 0 ≤ b ∧ b < 256) ∧ bs.length ≤ cap ∧ cap ≤ maxLen) (h : ∀ cx' c mem', (∃ (R : Rdr) (mem0 : List Blk) (p0 : Int), c = .p R.k R.b 0 ∧ mem' = mem0.set R.k (R.blk p0) ∧ p0 = 0 ∧ R.Is (factF cx') mem0 ∧ R.ty = 88 ∧ Le cx cx' ∧ mem0.take mem.length = mem ∧ R.k = mem.length ∧ mem0.length = mem.length + 1) → K cx' c mem') : GenV d l10OpenC_S cx [.v (.slice o bs.length cap)] mem K := ⟨(o, cap, bs), rfl, hpre, h⟩
theorem take_get {mem0 mem : List Blk} {n : Nat} (h : mem0.take n = mem) (k : Nat) (hk : k < mem.length) : mem0[k]? = some (mem[k]'hk) := by
  subst h
  rw [List.length_take] at hk
  simp [show k < n by omega, show k < mem0.length by omega]
end Go.Proofs.Ytfhnbdlkiemaeaa
namespace Go.Proofs.Ytfhnbdlkiemaeaa
open Go Go.Sx

end Go.Proofs.Ytfhnbdlkiemaeaa
namespace Go.Proofs.Ytfhnbdlkiemaeaa
open Go Go.Sx

theorem coil_sum {op : Int} {xs : List Dev} (h : coilOk op xs = true) : ∃ a, xs[0]? = some a ∧ argD xs 0 = a ∧ devOk a.k a.n a.p = true ∧ (a.k = 2 ∨ a.k = 3 ∨ a.k = 4 ∨ a.k = 7 ∨ a.k = 8 ∨ a.k = 9 ∨ a.k = 10) ∧ (op = 25 → a.k = 4) ∧ (op = 24 → (a.k = 2 ∨ a.k = 3) ∧ ∃ b, xs = [a, b] ∧ b.k = 5) := by
  unfold coilOk at h
  simp only [Bool.and_eq_true, decide_eq_true_eq] at h
  obtain ⟨⟨⟨h1, h2, h3⟩, h4⟩, h5⟩ := h
  have har : 1 ≤ arity op := by unfold arity; (repeat' split) <;> omega
  have hx0 : xs[0]? = some (argD xs 0) := by
    unfold argD
    rw [List.getElem?_eq_getElem (by omega)]
    simp [show 0 < xs.length by omega]
  have ha : devOk (argD xs 0).k (argD xs 0).n (argD xs 0).p = true := List.all_eq_true.1 h4 _ (List.mem_of_getElem? hx0)
  have e0 : xD xs 0 = argD xs 0 := rfl
  rw [e0] at h5
  refine ⟨_, hx0, rfl, ha, ?_, ?_, ?_⟩
  · generalize argD xs 0 = a at *
    unfold coilB at h5
    (repeat' split at h5) <;> simp at h5 <;> omega
  · intro e
    subst e
    generalize argD xs 0 = a at *
    unfold coilB at h5
    simpa using h5
  · intro e
    subst e
    obtain ⟨x, y, rfl⟩ := list_two (h3.trans (by decide))
    unfold coilB at h5
    simp at h5
    exact ⟨h5.1, y, rfl, h5.2⟩
theorem spl3 (a b c d e f : C) : splice [a, b, c] 0 [d, e, f] = [d, e, f] := rfl
theorem spl136 (m n : M) : splice (cellC m) 0 (cellC n) = cellC n := by kernel_rfl
end Go.Proofs.Ytfhnbdlkiemaeaa
