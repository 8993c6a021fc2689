/-
  Contracts: runs of the machine, by the program and by the reference; samples copied, counted, compared.
-/
import Derived.Test.YtfhnbdlkiemaeaaGreatMymw
import Derived.Test.YtfhnbdlkiemaeaaGreatEmw
import Derived.Test.YtfhnbdlkiemaeaaGreatAmw
import Derived.Test.YtfhnbdlkiemaeaaGreatDqmw
import Derived.Test.YtfhnbdlkiemaeaaGreatIlmw
import Derived.Test.YtfhnbdlkiemaeaaGreatDmw
set_option linter.unusedVariables false
set_option linter.unusedSimpArgs false
set_option maxRecDepth 100000
set_option maxHeartbeats 4000000
namespace Go.Proofs.YtfhnbdlkiemaeaaGreat
open Go Go.Sx
attribute [local simp] Go.Sx.vcsE1 Go.Sx.vcsE2 Go.Sx.vcsE3 Go.Sx.vcsE4 Go.Sx.vcsE5 Go.Sx.vcsE6 Go.Sx.vcsE7 Go.Sx.vcsE8 Go.Sx.vcsE9 Go.Sx.vcsE10 Go.Sx.vcsE11 Go.Sx.vcsE12 Go.Sx.vcsE13 Go.Sx.vcsE14 Go.Sx.vcsE15 Go.Sx.vcsE16 Go.Sx.vcsE17 Go.Sx.vcsE18 Go.Sx.vcsE19 Go.Sx.get Go.Sx.look Go.Sx.put Go.Sx.pureFn Go.Sx.findOrd Go.Sx.unF Go.Sx.dstOk Go.Sx.isFloatT Go.Sx.endVC Go.Sx.resFn Go.Sx.packC Go.Sx.newFn Go.Sx.storeFn Go.Sx.buildFn Go.Sx.known Go.Sx.aggT Go.Sx.cellsC Go.Sx.findCon Go.Sx.allV Go.Sx.partsV Go.Sx.partsC Go.Sx.fillL Go.Sx.exitTo Go.Sx.fAr Go.Sx.eqFn Go.Sx.eqFieldsFn Go.Sx.eqElemsFn Go.Sx.partFn Go.Sx.sliceFn Go.Sx.boundFn Go.Sx.AppV Go.Sx.CopyV Go.Sx.MakeSliceV Go.Sx.NewsV Go.Sx.GrowV Go.Sx.TextV Go.Sx.bytesL Go.Sx.notInt Go.Sx.typeAt Go.Sx.argAt Go.Sx.den Go.undef Go.Value.cells Go.Value.oneCell' Go.Sx.Con.pure Go.Sx.Con.some Go.Sx.Con.read Go.Sx.Con.make Go.Sx.Con.ext Go.Sx.Con.rel Go.Sx.Con.extS Go.Sx.Con.draw Go.Sx.Con.step Go.Sx.C.one Go.Sx.Draws.steps

structure SmpOk (s : Smp) : Prop where
  x : 0 ≤ s.x ∧ s.x < 4294967296
  dt : 0 ≤ s.dt ∧ s.dt < 65536
  f : ∀ k, k < 4 → s.f k < 18446744073709551616
theorem start_ok {m : M} {s : Smp} (h : MOk m) (hs : SmpOk s) : MSOk (startN m s) :=
  ⟨actStart_ok h hs.x hs.f, ⟨by simp [startN, bootN], by simp [startN, bootN]⟩, ⟨by simp [startN, bootN], by simp [startN, bootN]⟩⟩
theorem ran_ok {m : M} (h : MOk m) : MOk { m with Ran := true } := ⟨h.X, h.Y, h.Mw, h.S, h.E, h.T, h.C, h.D, h.R, h.Time⟩
theorem spl3i (a b c d e f : C) : splice [a, b, c] 0 [d, e, f] = [d, e, f] := rfl
def ranM (m : M) : M := { m with Ran := true }
theorem st_build (m : M) : cellL m ++ List.drop 136 (stL (bootN zeroM)) = stL (bootN m) := by kernel_rfl
theorem sm_take (x t : Int) (f : Arr 4 Nat) : List.take 6 (List.map C.v (sampleL x t f)) = List.map C.v (sampleL x t f) := by kernel_rfl
theorem sm_len (x t : Int) (f : Arr 4 Nat) : (sampleL x t f).length = 6 := by kernel_rfl
theorem sm_get (x t : Int) (f : Arr 4 Nat) : (sampleL x t f)[1]? = some (.int .u16 t) := by kernel_rfl
theorem sm_gete (x t : Int) (f : Arr 4 Nat) (h : 1 < (sampleL x t f).length) : (sampleL x t f)[1]'h = .int .u16 t := by kernel_rfl
theorem sm_inj {x t x' t' : Int} {f f' : Arr 4 Nat} : sampleL x t f = sampleL x' t' f' ↔ x = x' ∧ t = t' ∧ f = f' := by
  constructor
  · intro h
    unfold sampleL at h
    simp only [List.cons_append, List.nil_append, List.cons.injEq, Value.int.injEq, true_and] at h
    exact ⟨h.1, h.2.1, iL_injf h.2.2⟩
  · rintro ⟨rfl, rfl, rfl⟩; rfl
theorem run_next {t : MS} {t0 : MS} {dt : Int} {xs : List Ins} {i : Nat} {x : Ins} {t1 : MS} (hx : xs[i]? = some x) (h : MSt t (Sx.runN t0 dt (xs.take i))) (h1 : MSt t1 (machN t ⟨x.code, x.op, x.args⟩ dt)) : MSt t1 (Sx.runN t0 dt (xs.take (i + 1))) := by
  rw [runN_take hx]
  exact h1.trans (machN_same h _ _)
end Go.Proofs.YtfhnbdlkiemaeaaGreat
namespace Go.Proofs.YtfhnbdlkiemaeaaGreat
open Go Go.Sx
attribute [local simp] Go.Sx.vcsE1 Go.Sx.vcsE2 Go.Sx.vcsE3 Go.Sx.vcsE4 Go.Sx.vcsE5 Go.Sx.vcsE6 Go.Sx.vcsE7 Go.Sx.vcsE8 Go.Sx.vcsE9 Go.Sx.vcsE10 Go.Sx.vcsE11 Go.Sx.vcsE12 Go.Sx.vcsE13 Go.Sx.vcsE14 Go.Sx.vcsE15 Go.Sx.vcsE16 Go.Sx.vcsE17 Go.Sx.vcsE18 Go.Sx.vcsE19 Go.Sx.get Go.Sx.look Go.Sx.put Go.Sx.pureFn Go.Sx.findOrd Go.Sx.unF Go.Sx.dstOk Go.Sx.isFloatT Go.Sx.endVC Go.Sx.resFn Go.Sx.packC Go.Sx.newFn Go.Sx.storeFn Go.Sx.buildFn Go.Sx.known Go.Sx.aggT Go.Sx.cellsC Go.Sx.findCon Go.Sx.allV Go.Sx.partsV Go.Sx.partsC Go.Sx.fillL Go.Sx.exitTo Go.Sx.fAr Go.Sx.eqFn Go.Sx.eqFieldsFn Go.Sx.eqElemsFn Go.Sx.partFn Go.Sx.sliceFn Go.Sx.boundFn Go.Sx.AppV Go.Sx.CopyV Go.Sx.MakeSliceV Go.Sx.NewsV Go.Sx.GrowV Go.Sx.TextV Go.Sx.bytesL Go.Sx.notInt Go.Sx.typeAt Go.Sx.argAt Go.Sx.den Go.undef Go.Value.cells Go.Value.oneCell' Go.Sx.Con.pure Go.Sx.Con.some Go.Sx.Con.read Go.Sx.Con.make Go.Sx.Con.ext Go.Sx.Con.rel Go.Sx.Con.extS Go.Sx.Con.draw Go.Sx.Con.step Go.Sx.C.one Go.Sx.Draws.steps

def smL (s : Smp) : List Value := sampleL s.x s.dt s.f
def RdSm (F : Facts) (o : Option Addr) (ss : List Smp) : Prop := RdO F 6 o (ss.map smL)
theorem RdSm.mono {F G : Facts} {o : Option Addr} {ss : List Smp} (h : RdSm F o ss) (hs : Sub F G) : RdSm G o ss := RdO.mono h hs
theorem smL_inj {s t : Smp} (h : smL s = smL t) : s = t := by
  obtain ⟨h1, h2, h3⟩ := sm_inj.1 h
  cases s; cases t
  simp only at h1 h2 h3
  subst h1 h2 h3
  rfl
theorem RdSm.uniq {F : Facts} {o o' : Option Addr} {ss ts : List Smp} (h : RdSm F o ss) (h' : RdSm F o' ts) (ho : o = o') (hl : ss.length = ts.length) : ss = ts := by
  subst ho
  have e := RdO.uniq h h' (by simpa using hl)
  apply List.ext_getElem?
  intro i
  have ei := congrArg (·[i]?) e
  simp only [List.getElem?_map] at ei
  cases h1 : ss[i]? <;> cases h2 : ts[i]? <;> simp_all
  exact smL_inj ei
theorem RdSm.there {F : Facts} {o : Option Addr} {ss : List Smp} (h : RdSm F o ss) {i : Nat} (hi : i < ss.length) : o.isSome = true :=
  RdO.some h (i := i) (r := smL ss[i]) (by simp [hi])
theorem RdSm.all {cx : Cx} {o : Option Addr} {ss : List Smp} (h : RdSm (factF cx) o ss) {i : Nat} {s : Smp} (hs : ss[i]? = some s) {P : Program} {d : Nat} {mem : List Blk} {t : TypeId} {K : Value → Prop} (ht : aggT P t = some true) (hc : P.cellsOf t = 6) : LoadV d P cx mem t (padd o (i * 6)) K = K (.agg (sampleL s.x s.dt s.f).toArray) :=
  RdO.ld_agg (RdO.mono h (sub_now cx mem)) ht hc (r := smL s) (by simp [hs])
structure IsSm (F : Facts) (v : Value) (ss : List Smp) : Prop where
  ex : ∃ o cap, v = .slice o ss.length cap ∧ RdSm F o ss ∧ ss.length ≤ cap ∧ cap ≤ maxLen
theorem IsSm.mono {F G : Facts} {v : Value} {ss : List Smp} (h : IsSm F v ss) (hs : Sub F G) : IsSm G v ss := by
  obtain ⟨o, cap, h1, h2, h3⟩ := h.ex
  exact ⟨o, cap, h1, h2.mono hs, h3⟩
theorem sm_one (x t : Int) (f : Arr 4 Nat) : (sampleL x t f).all (C.one ∘ C.v) = true := by kernel_rfl
theorem sm_spl (x t : Int) (f : Arr 4 Nat) (a b c d e g : C) : splice [a, b, c, d, e, g] 0 (List.map C.v (sampleL x t f)) = List.map C.v (sampleL x t f) := by kernel_rfl
end Go.Proofs.YtfhnbdlkiemaeaaGreat
