/-
  Contracts: runs of the machine, by the program and by the reference; samples copied, counted, compared.
-/
import Derived.Test.YtmiicjgbhkjocaaGreatMz
import Derived.Test.YtmiicjgbhkjocaaGreatD
set_option linter.unusedVariables false
set_option linter.unusedSimpArgs false
set_option maxRecDepth 100000
set_option maxHeartbeats 4000000
namespace Go.Proofs.YtmiicjgbhkjocaaGreat
open Go Go.Sx

def smL (s : Smp) : List Value := sampleL s.x s.dt s.f
theorem smL_len (s : Smp) : (smL s).length = 6 := sm_len _ _ _
def RdSm (F : Facts) (o : Option Addr) (ss : List Smp) : Prop := RdO F 6 o (ss.map smL)
theorem RdSm.mono {F G : Facts} {o : Option Addr} {ss : List Smp} (h : RdSm F o ss) (hs : Sub F G) : RdSm G o ss := RdO.mono h hs
theorem smL_inj {s t : Smp} (h : smL s = smL t) : s = t := by
  obtain ⟨h1, h2, h3⟩ := sm_inj.1 h
  cases s; cases t
  simp only at h1 h2 h3
  subst h1 h2 h3
  rfl
theorem RdSm.uniq {F : Facts} {o o' : Option Addr} {ss ts : List Smp} (h : RdSm F o ss) (h' : RdSm F o' ts) (ho : o = o') (hl : ss.length = ts.length) : ss = ts := by
  subst ho
  have e := RdO.uniq h h' (by simpa using hl)
  apply List.ext_getElem?
  intro i
  have ei := congrArg (·[i]?) e
  simp only [List.getElem?_map] at ei
  cases h1 : ss[i]? <;> cases h2 : ts[i]? <;> simp_all
  exact smL_inj ei
theorem RdSm.there {F : Facts} {o : Option Addr} {ss : List Smp} (h : RdSm F o ss) {i : Nat} (hi : i < ss.length) : o.isSome = true :=
  RdO.some h (i := i) (r := smL ss[i]) (by simp [hi])
theorem RdSm.all {cx : Cx} {o : Option Addr} {ss : List Smp} (h : RdSm (factF cx) o ss) {i : Nat} {s : Smp} (hs : ss[i]? = some s) {P : Program} {d : Nat} {mem : List Blk} {t : TypeId} {K : Value → Prop} (ht : aggT P t = some true) (hc : P.cellsOf t = 6) : LoadV d P cx mem t (padd o (i * 6)) K = K (.agg (sampleL s.x s.dt s.f).toArray) :=
  RdO.ld_agg (RdO.mono h (sub_now cx mem)) ht hc (r := smL s) (by simp [hs])
theorem smZ : smL ⟨0, 0, Arr.zero _ _⟩ = [.int .u32 0, .int .u16 0, .float .f64 0, .float .f64 0, .float .f64 0, .float .f64 0] := by kernel_rfl
structure IsSm (F : Facts) (v : Value) (ss : List Smp) : Prop where
  ex : ∃ o cap, v = .slice o ss.length cap ∧ RdSm F o ss ∧ ss.length ≤ cap ∧ cap ≤ maxLen
theorem IsSm.mono {F G : Facts} {v : Value} {ss : List Smp} (h : IsSm F v ss) (hs : Sub F G) : IsSm G v ss := by
  obtain ⟨o, cap, h1, h2, h3⟩ := h.ex
  exact ⟨o, cap, h1, h2.mono hs, h3⟩
theorem sm_one (x t : Int) (f : Arr 4 Nat) : (sampleL x t f).all (C.one ∘ C.v) = true := by kernel_rfl
theorem sm_spl (x t : Int) (f : Arr 4 Nat) (a b c d e g : C) : splice [a, b, c, d, e, g] 0 (List.map C.v (sampleL x t f)) = List.map C.v (sampleL x t f) := by kernel_rfl
theorem scans_next {xs : List Ins} {m mi mj : M} {ss : List Smp} {i : Nat} {s : Smp} (hs : ss[i]? = some s) (h : MSame mi (scansN xs m (ss.take i))) (h1 : MSame mj (scanN xs mi s)) : MSame mj (scansN xs m (ss.take (i + 1))) := by
  rw [List.take_add_one, hs, scansN_app]
  exact h1.trans (scanN_same h xs s)
theorem machRunC_c (o : Option Addr) (cap : Nat) (xs : List Ins) (m : M) (o2 : Option Addr) (cap2 : Nat) (ss : List Smp) (w : World) (hpre : RdN (factF ⟨w, [], w, []⟩) o xs ∧ RdSm (factF ⟨w, [], w, []⟩) o2 ss ∧ MOk m ∧ (∀ s ∈ ss, SmpOk s) ∧ xs.length ≤ 1048576 ∧ ss.length ≤ 1048576) : Calls Tryz.prog 43 #[.slice o xs.length cap, .agg (cells m), .slice o2 ss.length cap2] w fun e w' => ∃ v, e = .returned v ∧ (fun v => IsMem v (machRunN xs m ss)) v ∧ RowKit.Below w.heap.size w w' := by
  refine plain_of_vcs ⟨[machScanC], []⟩ hmx Tryz.func43 rfl (by kernel_rfl) (args := [.slice o xs.length cap, .agg (cells m), .slice o2 ss.length cap2]) (by simp [Tryz.ntmps43]) w (fun v => IsMem v (machRunN xs m ss)) 400 ?_
  obtain ⟨h, h2, hm, hso, hl, hl2⟩ := hpre
  by_cases h1k : xs.length ≤ 1000 ∧ ss.length ≤ 100
  · have hm1 : ¬ (1000 : Int) < xs.length := by omega
    have hm2 : ¬ (100 : Int) < ss.length := by omega
    have e : machRunN xs m ss = scansN xs m ss := by unfold machRunN; rw [if_pos h1k]
    rw [e]
    simp (maxSteps := 4000000) -dsimp [-List.all_eq_true, -Array.all_eq_true, -Bool.exists_bool, -Bool.forall_bool, vcsE1, vcsE2, vcsE3, vcsE4, vcsE5, vcsE6, vcsE7, vcsE8, vcsE9, vcsE10, vcsE11, vcsE12, vcsE13, vcsE14, vcsE15, vcsE16, vcsE17, vcsE18, vcsE19, Sx.get, Sx.look, Sx.put, pureFn, findOrd, unF, dstOk, isFloatT, endVC, resFn, packC, newFn, storeFn, buildFn, undef, known, aggT, cellsC, Value.cells, findCon, Con.pure, Con.some, allV, partsV, partsC, fillL, Sx.exitTo, fAr, C.one, Value.oneCell', eqFn, eqFieldsFn, eqElemsFn, partFn, and_assoc, List.zipIdx, sliceFn, boundFn, AppV, CopyV, MakeSliceV, NewsV, GrowV, TextV, bytesL, notInt, typeAt, argAt, Con.read, Con.make, Con.ext, Con.rel, den, Con.extS, Con.draw, Con.step, Draws.steps, Tryz.f43, machScanC, hm1, hm2]
    intro b b1
    refine loop_inv (σ := ⟨[machScanC], []⟩) hmx (by kernel_rfl) (fun q cx tm mem => cx = ⟨w, [], w, []⟩ ∧ ∃ (i : Nat) (mi : M), i ≤ ss.length ∧ q = ss.length - i ∧ MSame mi (scansN xs m (ss.take i)) ∧ MOk mi ∧ mem = [⟨b, cellC mi, 38⟩, ⟨b1, cellC zeroM, 38⟩] ∧
        Sx.look tm 20 = .v (.int .i64 i) ∧ Sx.look tm 19 = .v (.int .i64 ss.length) ∧ Sx.look tm 18 = .v (.slice o2 ss.length cap2) ∧ Sx.look tm 0 = .v (.slice o xs.length cap) ∧ Sx.look tm 4 = .p 0 b 0 ∧ Sx.look tm 6 = .p 1 b1 0)
      ss.length ⟨rfl, 0, m, by omega, rfl, MSame_refl _, hm, rfl, by simp [Sx.look], by simp [Sx.look], by simp [Sx.look], by simp [Sx.look], by simp [Sx.look], by simp [Sx.look]⟩ ?_
    rintro q cx tm mem ⟨rfl, i, mi, hi, rfl, hst, hok, rfl, j20, j19, j18, j0, j4, j6⟩
    refine ⟨400, ?_⟩
    by_cases hlt : i < ss.length
    · obtain ⟨s, hs⟩ : ∃ s, ss[i]? = some s := ⟨ss[i], by simp [hlt]⟩
      have hsm := hso s (List.mem_of_getElem? hs)
      simp (maxSteps := 4000000) -dsimp [-List.all_eq_true, -Array.all_eq_true, -Bool.exists_bool, -Bool.forall_bool, vcsE1, vcsE2, vcsE3, vcsE4, vcsE5, vcsE6, vcsE7, vcsE8, vcsE9, vcsE10, vcsE11, vcsE12, vcsE13, vcsE14, vcsE15, vcsE16, vcsE17, vcsE18, vcsE19, Sx.get, Sx.look, Sx.put, pureFn, findOrd, unF, dstOk, isFloatT, endVC, resFn, packC, newFn, storeFn, buildFn, undef, known, aggT, cellsC, Value.cells, findCon, Con.pure, Con.some, allV, partsV, partsC, fillL, Sx.exitTo, fAr, C.one, Value.oneCell', eqFn, eqFieldsFn, eqElemsFn, partFn, and_assoc, List.zipIdx, sliceFn, boundFn, AppV, CopyV, MakeSliceV, NewsV, GrowV, TextV, bytesL, notInt, typeAt, argAt, Con.read, Con.make, Con.ext, Con.rel, den, Con.extS, Con.draw, Con.step, Draws.steps, Tryz.f43, machScanC, -Sx.splice_two, j20, j19, j18, j0, j4, j6, hlt, h2.there hlt, h2.all hs, sm_take, allV_map, sm_len, sm_inj, sm_one, sm_spl]
      intro b2
      refine ⟨(o, cap, xs, mi, s), rfl, ⟨h.mono (sub_now _ _), hok, hsm, hl⟩, fun v hv => ?_⟩
      obtain ⟨mj, rfl, s1, k1⟩ := hv.ex
      simp (maxSteps := 4000000) -dsimp [-List.all_eq_true, -Array.all_eq_true, -Bool.exists_bool, -Bool.forall_bool, vcsE1, vcsE2, vcsE3, vcsE4, vcsE5, vcsE6, vcsE7, vcsE8, vcsE9, vcsE10, vcsE11, vcsE12, vcsE13, vcsE14, vcsE15, vcsE16, vcsE17, vcsE18, vcsE19, Sx.get, Sx.look, Sx.put, pureFn, findOrd, unF, dstOk, isFloatT, endVC, resFn, packC, newFn, storeFn, buildFn, undef, known, aggT, cellsC, Value.cells, findCon, Con.pure, Con.some, allV, partsV, partsC, fillL, Sx.exitTo, fAr, C.one, Value.oneCell', eqFn, eqFieldsFn, eqElemsFn, partFn, and_assoc, List.zipIdx, sliceFn, boundFn, AppV, CopyV, MakeSliceV, NewsV, GrowV, TextV, bytesL, notInt, typeAt, argAt, Con.read, Con.make, Con.ext, Con.rel, den, Con.extS, Con.draw, Con.step, Draws.steps, Tryz.f43, machScanC, -Sx.splice_two, j20, j19, j18, j0, j4, j6, sm_take, allV_map, sm_len, sm_inj, sm_one, sm_spl, i_succ (i := i) (by omega)]
      exact ⟨2, ss.length - (i + 1), by omega, i + 1, by omega, rfl, mj, scans_next hs hst s1, k1, rfl, by omega⟩
    · obtain rfl : i = ss.length := by omega
      rw [List.take_length] at hst
      simp (maxSteps := 4000000) -dsimp [-List.all_eq_true, -Array.all_eq_true, -Bool.exists_bool, -Bool.forall_bool, vcsE1, vcsE2, vcsE3, vcsE4, vcsE5, vcsE6, vcsE7, vcsE8, vcsE9, vcsE10, vcsE11, vcsE12, vcsE13, vcsE14, vcsE15, vcsE16, vcsE17, vcsE18, vcsE19, Sx.get, Sx.look, Sx.put, pureFn, findOrd, unF, dstOk, isFloatT, endVC, resFn, packC, newFn, storeFn, buildFn, undef, known, aggT, cellsC, Value.cells, findCon, Con.pure, Con.some, allV, partsV, partsC, fillL, Sx.exitTo, fAr, C.one, Value.oneCell', eqFn, eqFieldsFn, eqElemsFn, partFn, and_assoc, List.zipIdx, sliceFn, boundFn, AppV, CopyV, MakeSliceV, NewsV, GrowV, TextV, bytesL, notInt, typeAt, argAt, Con.read, Con.make, Con.ext, Con.rel, den, Con.extS, Con.draw, Con.step, Draws.steps, Tryz.f43, machScanC, -Sx.splice_two, j20, j19, j18, j0, j4, j6]
      exact ⟨_, rfl, hst, hok⟩
  · have e : machRunN xs m ss = m := by unfold machRunN; rw [if_neg h1k]
    rw [e]
    by_cases hm1 : (1000 : Int) < xs.length
    · simp (maxSteps := 4000000) -dsimp [-List.all_eq_true, -Array.all_eq_true, -Bool.exists_bool, -Bool.forall_bool, vcsE1, vcsE2, vcsE3, vcsE4, vcsE5, vcsE6, vcsE7, vcsE8, vcsE9, vcsE10, vcsE11, vcsE12, vcsE13, vcsE14, vcsE15, vcsE16, vcsE17, vcsE18, vcsE19, Sx.get, Sx.look, Sx.put, pureFn, findOrd, unF, dstOk, isFloatT, endVC, resFn, packC, newFn, storeFn, buildFn, undef, known, aggT, cellsC, Value.cells, findCon, Con.pure, Con.some, allV, partsV, partsC, fillL, Sx.exitTo, fAr, C.one, Value.oneCell', eqFn, eqFieldsFn, eqElemsFn, partFn, and_assoc, List.zipIdx, sliceFn, boundFn, AppV, CopyV, MakeSliceV, NewsV, GrowV, TextV, bytesL, notInt, typeAt, argAt, Con.read, Con.make, Con.ext, Con.rel, den, Con.extS, Con.draw, Con.step, Draws.steps, Tryz.f43, machScanC, hm1]
      exact isMem_self hm
    · have hm2 : (100 : Int) < ss.length := by omega
      simp (maxSteps := 4000000) -dsimp [-List.all_eq_true, -Array.all_eq_true, -Bool.exists_bool, -Bool.forall_bool, vcsE1, vcsE2, vcsE3, vcsE4, vcsE5, vcsE6, vcsE7, vcsE8, vcsE9, vcsE10, vcsE11, vcsE12, vcsE13, vcsE14, vcsE15, vcsE16, vcsE17, vcsE18, vcsE19, Sx.get, Sx.look, Sx.put, pureFn, findOrd, unF, dstOk, isFloatT, endVC, resFn, packC, newFn, storeFn, buildFn, undef, known, aggT, cellsC, Value.cells, findCon, Con.pure, Con.some, allV, partsV, partsC, fillL, Sx.exitTo, fAr, C.one, Value.oneCell', eqFn, eqFieldsFn, eqElemsFn, partFn, and_assoc, List.zipIdx, sliceFn, boundFn, AppV, CopyV, MakeSliceV, NewsV, GrowV, TextV, bytesL, notInt, typeAt, argAt, Con.read, Con.make, Con.ext, Con.rel, den, Con.extS, Con.draw, Con.step, Draws.steps, Tryz.f43, machScanC, hm1, hm2]
      exact isMem_self hm
def machRunC_S : Rels Tryz.prog 43 where
  ι := ((Option Addr) × (Nat) × (List Ins) × (M) × (Option Addr) × (Nat) × (List Smp))
  A := fun (i : ((Option Addr) × (Nat) × (List Ins) × (M) × (Option Addr) × (Nat) × (List Smp))) => match i with | (o, cap, xs, m, o2, cap2, ss) => [.slice o xs.length cap, .agg (cells m), .slice o2 ss.length cap2]
  pre := fun (i : ((Option Addr) × (Nat) × (List Ins) × (M) × (Option Addr) × (Nat) × (List Smp))) (F : Facts) => match i with | (o, cap, xs, m, o2, cap2, ss) => RdN F o xs ∧ RdSm F o2 ss ∧ MOk m ∧ (∀ s ∈ ss, SmpOk s) ∧ xs.length ≤ 1048576 ∧ ss.length ≤ 1048576
  post := fun (i : ((Option Addr) × (Nat) × (List Ins) × (M) × (Option Addr) × (Nat) × (List Smp))) => match i with | (o, cap, xs, m, o2, cap2, ss) => fun v => IsMem v (machRunN xs m ss)
  mono := by
    intro i F G hs h
    first | exact h | exact h.mono hs | exact ⟨h.1.mono hs, h.2⟩ | exact ⟨h.1.mono hs, h.2.1.mono hs, h.2.2⟩ | exact ⟨h.1.mono hs, h.2.1.mono hs⟩
  enter := Tryz.call43
  h := fun i w hp => machRunC_c i.1 i.2.1 i.2.2.1 i.2.2.2.1 i.2.2.2.2.1 i.2.2.2.2.2.1 i.2.2.2.2.2.2 w (by rw [factF_init]; exact hp)
def machRunC : Con Tryz.prog := Con.rel machRunC_S
theorem sMachRunC_c (o : Option Addr) (cap : Nat) (xs : List Ins) (m : M) (o2 : Option Addr) (cap2 : Nat) (ss : List Smp) (w : World) (hpre : RdN (factF ⟨w, [], w, []⟩) o xs ∧ RdSm (factF ⟨w, [], w, []⟩) o2 ss ∧ MOk m ∧ (∀ s ∈ ss, SmpOk s) ∧ xs.length ≤ 1048576 ∧ ss.length ≤ 1048576) : Calls Tryz.prog 41 #[.slice o xs.length cap, .agg (cells m), .slice o2 ss.length cap2] w fun e w' => ∃ v, e = .returned v ∧ (fun v => IsMem v (machRunN xs m ss)) v ∧ RowKit.Below w.heap.size w w' := by
  refine plain_of_vcs ⟨[sMachScanC], []⟩ hmx Tryz.func41 rfl (by kernel_rfl) (args := [.slice o xs.length cap, .agg (cells m), .slice o2 ss.length cap2]) (by simp [Tryz.ntmps41]) w (fun v => IsMem v (machRunN xs m ss)) 400 ?_
  obtain ⟨h, h2, hm, hso, hl, hl2⟩ := hpre
  by_cases h1k : xs.length ≤ 1000 ∧ ss.length ≤ 100
  · have hm1 : ¬ (1000 : Int) < xs.length := by omega
    have hm2 : ¬ (100 : Int) < ss.length := by omega
    have e : machRunN xs m ss = scansN xs m ss := by unfold machRunN; rw [if_pos h1k]
    rw [e]
    simp (maxSteps := 4000000) -dsimp [-List.all_eq_true, -Array.all_eq_true, -Bool.exists_bool, -Bool.forall_bool, vcsE1, vcsE2, vcsE3, vcsE4, vcsE5, vcsE6, vcsE7, vcsE8, vcsE9, vcsE10, vcsE11, vcsE12, vcsE13, vcsE14, vcsE15, vcsE16, vcsE17, vcsE18, vcsE19, Sx.get, Sx.look, Sx.put, pureFn, findOrd, unF, dstOk, isFloatT, endVC, resFn, packC, newFn, storeFn, buildFn, undef, known, aggT, cellsC, Value.cells, findCon, Con.pure, Con.some, allV, partsV, partsC, fillL, Sx.exitTo, fAr, C.one, Value.oneCell', eqFn, eqFieldsFn, eqElemsFn, partFn, and_assoc, List.zipIdx, sliceFn, boundFn, AppV, CopyV, MakeSliceV, NewsV, GrowV, TextV, bytesL, notInt, typeAt, argAt, Con.read, Con.make, Con.ext, Con.rel, den, Con.extS, Con.draw, Con.step, Draws.steps, Tryz.f41, sMachScanC, hm1, hm2]
    intro b b1
    refine loop_inv (σ := ⟨[sMachScanC], []⟩) hmx (by kernel_rfl) (fun q cx tm mem => cx = ⟨w, [], w, []⟩ ∧ ∃ (i : Nat) (mi : M), i ≤ ss.length ∧ q = ss.length - i ∧ MSame mi (scansN xs m (ss.take i)) ∧ MOk mi ∧ mem = [⟨b, cellC mi, 38⟩, ⟨b1, cellC zeroM, 38⟩] ∧
        Sx.look tm 7 = .v (.int .i64 i) ∧ Sx.look tm 2 = .v (.slice o2 ss.length cap2) ∧ Sx.look tm 0 = .v (.slice o xs.length cap) ∧ Sx.look tm 4 = .p 0 b 0 ∧ Sx.look tm 6 = .p 1 b1 0)
      ss.length ⟨rfl, 0, m, by omega, rfl, MSame_refl _, hm, rfl, by simp [Sx.look], by simp [Sx.look], by simp [Sx.look], by simp [Sx.look], by simp [Sx.look]⟩ ?_
    rintro q cx tm mem ⟨rfl, i, mi, hi, rfl, hst, hok, rfl, j7, j2, j0, j4, j6⟩
    refine ⟨400, ?_⟩
    by_cases hlt : i < ss.length
    · obtain ⟨s, hs⟩ : ∃ s, ss[i]? = some s := ⟨ss[i], by simp [hlt]⟩
      have hsm := hso s (List.mem_of_getElem? hs)
      simp (maxSteps := 4000000) -dsimp [-List.all_eq_true, -Array.all_eq_true, -Bool.exists_bool, -Bool.forall_bool, vcsE1, vcsE2, vcsE3, vcsE4, vcsE5, vcsE6, vcsE7, vcsE8, vcsE9, vcsE10, vcsE11, vcsE12, vcsE13, vcsE14, vcsE15, vcsE16, vcsE17, vcsE18, vcsE19, Sx.get, Sx.look, Sx.put, pureFn, findOrd, unF, dstOk, isFloatT, endVC, resFn, packC, newFn, storeFn, buildFn, undef, known, aggT, cellsC, Value.cells, findCon, Con.pure, Con.some, allV, partsV, partsC, fillL, Sx.exitTo, fAr, C.one, Value.oneCell', eqFn, eqFieldsFn, eqElemsFn, partFn, and_assoc, List.zipIdx, sliceFn, boundFn, AppV, CopyV, MakeSliceV, NewsV, GrowV, TextV, bytesL, notInt, typeAt, argAt, Con.read, Con.make, Con.ext, Con.rel, den, Con.extS, Con.draw, Con.step, Draws.steps, Tryz.f41, sMachScanC, -Sx.splice_two, j7, j2, j0, j4, j6, hlt, h2.there hlt, h2.all hs, sm_take, allV_map, sm_len, sm_inj, sm_one, sm_spl]
      refine ⟨(o, cap, xs, mi, s), rfl, ⟨h.mono (sub_now _ _), hok, hsm, hl⟩, fun v hv => ?_⟩
      obtain ⟨mj, rfl, s1, k1⟩ := hv.ex
      simp (maxSteps := 4000000) -dsimp [-List.all_eq_true, -Array.all_eq_true, -Bool.exists_bool, -Bool.forall_bool, vcsE1, vcsE2, vcsE3, vcsE4, vcsE5, vcsE6, vcsE7, vcsE8, vcsE9, vcsE10, vcsE11, vcsE12, vcsE13, vcsE14, vcsE15, vcsE16, vcsE17, vcsE18, vcsE19, Sx.get, Sx.look, Sx.put, pureFn, findOrd, unF, dstOk, isFloatT, endVC, resFn, packC, newFn, storeFn, buildFn, undef, known, aggT, cellsC, Value.cells, findCon, Con.pure, Con.some, allV, partsV, partsC, fillL, Sx.exitTo, fAr, C.one, Value.oneCell', eqFn, eqFieldsFn, eqElemsFn, partFn, and_assoc, List.zipIdx, sliceFn, boundFn, AppV, CopyV, MakeSliceV, NewsV, GrowV, TextV, bytesL, notInt, typeAt, argAt, Con.read, Con.make, Con.ext, Con.rel, den, Con.extS, Con.draw, Con.step, Draws.steps, Tryz.f41, sMachScanC, -Sx.splice_two, j7, j2, j0, j4, j6, sm_take, allV_map, sm_len, sm_inj, sm_one, sm_spl, i_succ (i := i) (by omega)]
      exact ⟨2, ss.length - (i + 1), by omega, i + 1, by omega, rfl, mj, scans_next hs hst s1, k1, rfl, by omega⟩
    · obtain rfl : i = ss.length := by omega
      rw [List.take_length] at hst
      simp (maxSteps := 4000000) -dsimp [-List.all_eq_true, -Array.all_eq_true, -Bool.exists_bool, -Bool.forall_bool, vcsE1, vcsE2, vcsE3, vcsE4, vcsE5, vcsE6, vcsE7, vcsE8, vcsE9, vcsE10, vcsE11, vcsE12, vcsE13, vcsE14, vcsE15, vcsE16, vcsE17, vcsE18, vcsE19, Sx.get, Sx.look, Sx.put, pureFn, findOrd, unF, dstOk, isFloatT, endVC, resFn, packC, newFn, storeFn, buildFn, undef, known, aggT, cellsC, Value.cells, findCon, Con.pure, Con.some, allV, partsV, partsC, fillL, Sx.exitTo, fAr, C.one, Value.oneCell', eqFn, eqFieldsFn, eqElemsFn, partFn, and_assoc, List.zipIdx, sliceFn, boundFn, AppV, CopyV, MakeSliceV, NewsV, GrowV, TextV, bytesL, notInt, typeAt, argAt, Con.read, Con.make, Con.ext, Con.rel, den, Con.extS, Con.draw, Con.step, Draws.steps, Tryz.f41, sMachScanC, -Sx.splice_two, j7, j2, j0, j4, j6]
      exact ⟨_, rfl, hst, hok⟩
  · have e : machRunN xs m ss = m := by unfold machRunN; rw [if_neg h1k]
    rw [e]
    by_cases hm1 : (1000 : Int) < xs.length
    · simp (maxSteps := 4000000) -dsimp [-List.all_eq_true, -Array.all_eq_true, -Bool.exists_bool, -Bool.forall_bool, vcsE1, vcsE2, vcsE3, vcsE4, vcsE5, vcsE6, vcsE7, vcsE8, vcsE9, vcsE10, vcsE11, vcsE12, vcsE13, vcsE14, vcsE15, vcsE16, vcsE17, vcsE18, vcsE19, Sx.get, Sx.look, Sx.put, pureFn, findOrd, unF, dstOk, isFloatT, endVC, resFn, packC, newFn, storeFn, buildFn, undef, known, aggT, cellsC, Value.cells, findCon, Con.pure, Con.some, allV, partsV, partsC, fillL, Sx.exitTo, fAr, C.one, Value.oneCell', eqFn, eqFieldsFn, eqElemsFn, partFn, and_assoc, List.zipIdx, sliceFn, boundFn, AppV, CopyV, MakeSliceV, NewsV, GrowV, TextV, bytesL, notInt, typeAt, argAt, Con.read, Con.make, Con.ext, Con.rel, den, Con.extS, Con.draw, Con.step, Draws.steps, Tryz.f41, sMachScanC, hm1]
      exact isMem_self hm
    · have hm2 : (100 : Int) < ss.length := by omega
      simp (maxSteps := 4000000) -dsimp [-List.all_eq_true, -Array.all_eq_true, -Bool.exists_bool, -Bool.forall_bool, vcsE1, vcsE2, vcsE3, vcsE4, vcsE5, vcsE6, vcsE7, vcsE8, vcsE9, vcsE10, vcsE11, vcsE12, vcsE13, vcsE14, vcsE15, vcsE16, vcsE17, vcsE18, vcsE19, Sx.get, Sx.look, Sx.put, pureFn, findOrd, unF, dstOk, isFloatT, endVC, resFn, packC, newFn, storeFn, buildFn, undef, known, aggT, cellsC, Value.cells, findCon, Con.pure, Con.some, allV, partsV, partsC, fillL, Sx.exitTo, fAr, C.one, Value.oneCell', eqFn, eqFieldsFn, eqElemsFn, partFn, and_assoc, List.zipIdx, sliceFn, boundFn, AppV, CopyV, MakeSliceV, NewsV, GrowV, TextV, bytesL, notInt, typeAt, argAt, Con.read, Con.make, Con.ext, Con.rel, den, Con.extS, Con.draw, Con.step, Draws.steps, Tryz.f41, sMachScanC, hm1, hm2]
      exact isMem_self hm
def sMachRunC_S : Rels Tryz.prog 41 where
  ι := ((Option Addr) × (Nat) × (List Ins) × (M) × (Option Addr) × (Nat) × (List Smp))
  A := fun (i : ((Option Addr) × (Nat) × (List Ins) × (M) × (Option Addr) × (Nat) × (List Smp))) => match i with | (o, cap, xs, m, o2, cap2, ss) => [.slice o xs.length cap, .agg (cells m), .slice o2 ss.length cap2]
  pre := fun (i : ((Option Addr) × (Nat) × (List Ins) × (M) × (Option Addr) × (Nat) × (List Smp))) (F : Facts) => match i with | (o, cap, xs, m, o2, cap2, ss) => RdN F o xs ∧ RdSm F o2 ss ∧ MOk m ∧ (∀ s ∈ ss, SmpOk s) ∧ xs.length ≤ 1048576 ∧ ss.length ≤ 1048576
  post := fun (i : ((Option Addr) × (Nat) × (List Ins) × (M) × (Option Addr) × (Nat) × (List Smp))) => match i with | (o, cap, xs, m, o2, cap2, ss) => fun v => IsMem v (machRunN xs m ss)
  mono := by
    intro i F G hs h
    first | exact h | exact h.mono hs | exact ⟨h.1.mono hs, h.2⟩ | exact ⟨h.1.mono hs, h.2.1.mono hs, h.2.2⟩ | exact ⟨h.1.mono hs, h.2.1.mono hs⟩
  enter := Tryz.call41
  h := fun i w hp => sMachRunC_c i.1 i.2.1 i.2.2.1 i.2.2.2.1 i.2.2.2.2.1 i.2.2.2.2.2.1 i.2.2.2.2.2.2 w (by rw [factF_init]; exact hp)
def sMachRunC : Con Tryz.prog := Con.rel sMachRunC_S
theorem szSmC_c (o : Option Addr) (n cap : Nat) (left : Int) (hpre : 0 ≤ left ∧ left ≤ 1048576 ∧ n ≤ 9223372036854775807) (w : World) : Calls Tryz.prog 40 #[.slice o n cap, .int .i64 left] w fun e w' => e = .returned (.int .i64 (if left < n then -1 else left - n)) ∧ RowKit.Below w.heap.size w w' := by
  refine (plain_of_vcs ⟨[], []⟩ hmx Tryz.func40 rfl (by kernel_rfl) (args := [.slice o n cap, .int .i64 left]) (by simp [Tryz.ntmps40]) w (· = .int .i64 (if left < n then -1 else left - n)) 400 ?_).mono fun e w' ⟨v, h1, h2, h3⟩ => ⟨h2 ▸ h1, h3⟩
  obtain ⟨h1, h2, h3⟩ := hpre
  have e : IntKind.i64.wrap (left - n) = left - n := wrap_i64 (by omega) (by omega)
  by_cases hc : left < n
  · have hc' : left - (n : Int) < 0 := by omega
    simp (maxSteps := 4000000) -dsimp [-List.all_eq_true, -Array.all_eq_true, -Bool.exists_bool, -Bool.forall_bool, vcsE1, vcsE2, vcsE3, vcsE4, vcsE5, vcsE6, vcsE7, vcsE8, vcsE9, vcsE10, vcsE11, vcsE12, vcsE13, vcsE14, vcsE15, vcsE16, vcsE17, vcsE18, vcsE19, Sx.get, Sx.look, Sx.put, pureFn, findOrd, unF, dstOk, isFloatT, endVC, resFn, packC, newFn, storeFn, buildFn, undef, known, aggT, cellsC, Value.cells, findCon, Con.pure, Con.some, allV, partsV, partsC, fillL, Sx.exitTo, fAr, C.one, Value.oneCell', eqFn, eqFieldsFn, eqElemsFn, partFn, and_assoc, List.zipIdx, sliceFn, boundFn, AppV, CopyV, MakeSliceV, NewsV, GrowV, TextV, bytesL, notInt, typeAt, argAt, Con.read, Con.make, Con.ext, Con.rel, den, Con.extS, Con.draw, Con.step, Draws.steps, Tryz.f40, e, hc, hc']
  · have hc' : ¬ left - (n : Int) < 0 := by omega
    simp (maxSteps := 4000000) -dsimp [-List.all_eq_true, -Array.all_eq_true, -Bool.exists_bool, -Bool.forall_bool, vcsE1, vcsE2, vcsE3, vcsE4, vcsE5, vcsE6, vcsE7, vcsE8, vcsE9, vcsE10, vcsE11, vcsE12, vcsE13, vcsE14, vcsE15, vcsE16, vcsE17, vcsE18, vcsE19, Sx.get, Sx.look, Sx.put, pureFn, findOrd, unF, dstOk, isFloatT, endVC, resFn, packC, newFn, storeFn, buildFn, undef, known, aggT, cellsC, Value.cells, findCon, Con.pure, Con.some, allV, partsV, partsC, fillL, Sx.exitTo, fAr, C.one, Value.oneCell', eqFn, eqFieldsFn, eqElemsFn, partFn, and_assoc, List.zipIdx, sliceFn, boundFn, AppV, CopyV, MakeSliceV, NewsV, GrowV, TextV, bytesL, notInt, typeAt, argAt, Con.read, Con.make, Con.ext, Con.rel, den, Con.extS, Con.draw, Con.step, Draws.steps, Tryz.f40, e, hc, hc']
def szSmC : Con Tryz.prog := Con.pure 40 Tryz.call40 (fun (i : ((Option Addr) × (Nat) × (Nat) × (Int))) => match i with | (o, n, cap, left) => [.slice o n cap, .int .i64 left]) (fun (i : ((Option Addr) × (Nat) × (Nat) × (Int))) => match i with | (o, n, cap, left) => 0 ≤ left ∧ left ≤ 1048576 ∧ n ≤ 9223372036854775807) (fun (i : ((Option Addr) × (Nat) × (Nat) × (Int))) => match i with | (o, n, cap, left) => .int .i64 (if left < n then -1 else left - n)) fun i w hp => szSmC_c i.1 i.2.1 i.2.2.1 i.2.2.2 hp w
theorem toSmSC_c (o : Option Addr) (cap : Nat) (ss : List Smp) (w : World) (hpre : RdSm (factF ⟨w, [], w, []⟩) o ss ∧ ss.length ≤ 1048576) : Calls Tryz.prog 42 #[.slice o ss.length cap] w fun e w' => ∃ v, e = .returned v ∧ RowKit.Below w.heap.size w w' ∧ IsSm (fun a => if w.heap.size ≤ a.block then w'.cell? a else none) v ss := by
  refine make_of_vcs ⟨[toSampleC], []⟩ hmx Tryz.func42 rfl (by kernel_rfl) (args := [.slice o ss.length cap]) (by simp [Tryz.ntmps42]) w (fun v F => IsSm F v ss) 400 ?_
  obtain ⟨h, hl⟩ := hpre
  simp (maxSteps := 4000000) -dsimp [-List.all_eq_true, -Array.all_eq_true, -Bool.exists_bool, -Bool.forall_bool, vcsE1, vcsE2, vcsE3, vcsE4, vcsE5, vcsE6, vcsE7, vcsE8, vcsE9, vcsE10, vcsE11, vcsE12, vcsE13, vcsE14, vcsE15, vcsE16, vcsE17, vcsE18, vcsE19, Sx.get, Sx.look, Sx.put, pureFn, findOrd, unF, dstOk, isFloatT, endVC, resFn, packC, newFn, storeFn, buildFn, undef, known, aggT, cellsC, Value.cells, findCon, Con.pure, Con.some, allV, partsV, partsC, fillL, Sx.exitTo, fAr, C.one, Value.oneCell', eqFn, eqFieldsFn, eqElemsFn, partFn, and_assoc, List.zipIdx, sliceFn, boundFn, AppV, CopyV, MakeSliceV, NewsV, GrowV, TextV, bytesL, notInt, typeAt, argAt, Con.read, Con.make, Con.ext, Con.rel, den, Con.extS, Con.draw, Con.step, Draws.steps, Tryz.f42, toSampleC]
  refine ⟨by omega, by omega, fun b => ?_⟩
  refine loop_inv (σ := ⟨[toSampleC], []⟩) hmx (by kernel_rfl) (fun q cx tm mem => Le ⟨w, [], w, []⟩ cx ∧ ∃ i : Nat, i ≤ ss.length ∧ q = ss.length - i ∧ mem = [⟨b, rowZ (smL ⟨0, 0, Arr.zero _ _⟩) ((ss.map smL).take i) ss.length, 41⟩] ∧ Sx.look tm 4 = .v (.int .i64 i) ∧ Sx.look tm 3 = .s 0 b 0 ss.length ss.length ∧ Sx.look tm 0 = .v (.slice o ss.length cap))
    ss.length ⟨Le.refl _, 0, by omega, rfl, by rw [smZ]; simp [rowZ], by simp [Sx.look], by simp [Sx.look], by simp [Sx.look]⟩ ?_
  rintro q cx tm mem ⟨hle, i, hi, rfl, rfl, h4, h3, h0⟩
  refine ⟨300, ?_⟩
  have hc := h.mono hle.fact
  have hr6 : ∀ r ∈ (ss.map smL).take i, r.length = 6 := fun r hr => by obtain ⟨s, _, rfl⟩ := List.mem_map.1 (List.mem_of_mem_take hr); exact smL_len s
  have hrl : ((ss.map smL).take i).length = i := by rw [List.length_take, List.length_map]; omega
  have e3 := len_rowZ (n := ss.length) (smL_len ⟨0, 0, Arr.zero _ _⟩) hr6 (by omega)
  by_cases hlt : i < ss.length
  · obtain ⟨s, hs⟩ : ∃ s, ss[i]? = some s := ⟨ss[i], by simp [hlt]⟩
    have e2 := rowZ_set (r := smL s) (smL_len ⟨0, 0, Arr.zero _ _⟩) hr6 (by omega : ((ss.map smL).take i).length < ss.length) (smL_len s)
    rw [hrl] at e2
    have e4 : (ss.map smL).take i ++ [smL s] = (ss.map smL).take (i + 1) := by rw [List.take_add_one]; simp [hs]
    rw [e4] at e2
    simp (maxSteps := 4000000) -dsimp [-List.all_eq_true, -Array.all_eq_true, -Bool.exists_bool, -Bool.forall_bool, vcsE1, vcsE2, vcsE3, vcsE4, vcsE5, vcsE6, vcsE7, vcsE8, vcsE9, vcsE10, vcsE11, vcsE12, vcsE13, vcsE14, vcsE15, vcsE16, vcsE17, vcsE18, vcsE19, Sx.get, Sx.look, Sx.put, pureFn, findOrd, unF, dstOk, isFloatT, endVC, resFn, packC, newFn, storeFn, buildFn, undef, known, aggT, cellsC, Value.cells, findCon, Con.pure, Con.some, allV, partsV, partsC, fillL, Sx.exitTo, fAr, C.one, Value.oneCell', eqFn, eqFieldsFn, eqElemsFn, partFn, and_assoc, List.zipIdx, sliceFn, boundFn, AppV, CopyV, MakeSliceV, NewsV, GrowV, TextV, bytesL, notInt, typeAt, argAt, Con.read, Con.make, Con.ext, Con.rel, den, Con.extS, Con.draw, Con.step, Draws.steps, Tryz.f42, toSampleC, -Sx.splice_two, h4, h3, h0, hlt, hc.there hlt, hc.all hs, sm_inj]
    refine ⟨sm_len _ _ _, by rw [e3]; omega, sm_one _ _ _, 1, ss.length - (i + 1), by omega, hle, i + 1, by omega, rfl, ?_, ?_⟩
    · have e5 : List.map C.v (sampleL s.x s.dt s.f) = List.map C.v (smL s) := rfl
      rw [e5, e2]; rfl
    · rw [wrap_i64 (by omega) (by omega)]; omega
  · obtain rfl : i = ss.length := by omega
    simp (maxSteps := 4000000) -dsimp [-List.all_eq_true, -Array.all_eq_true, -Bool.exists_bool, -Bool.forall_bool, vcsE1, vcsE2, vcsE3, vcsE4, vcsE5, vcsE6, vcsE7, vcsE8, vcsE9, vcsE10, vcsE11, vcsE12, vcsE13, vcsE14, vcsE15, vcsE16, vcsE17, vcsE18, vcsE19, Sx.get, Sx.look, Sx.put, pureFn, findOrd, unF, dstOk, isFloatT, endVC, resFn, packC, newFn, storeFn, buildFn, undef, known, aggT, cellsC, Value.cells, findCon, Con.pure, Con.some, allV, partsV, partsC, fillL, Sx.exitTo, fAr, C.one, Value.oneCell', eqFn, eqFieldsFn, eqElemsFn, partFn, and_assoc, List.zipIdx, sliceFn, boundFn, AppV, CopyV, MakeSliceV, NewsV, GrowV, TextV, bytesL, notInt, typeAt, argAt, Con.read, Con.make, Con.ext, Con.rel, den, Con.extS, Con.draw, Con.step, Draws.steps, Tryz.f42, toSampleC, h4, h3, h0]
    have hr7 : ∀ r ∈ ss.map smL, r.length = 6 := fun r hr => by obtain ⟨s, _, rfl⟩ := List.mem_map.1 hr; exact smL_len s
    refine ⟨hle.w0, hle.g0, fun w' hm => ⟨⟨_, _, rfl, RdO.fin hle.w0 hle.g0 hm (k := 0) rfl hr7 ?_, Nat.le_refl _, by unfold maxLen; omega⟩⟩⟩
    have et : (ss.map smL).take ss.length = ss.map smL := List.take_of_length_le (by simp)
    rw [et, rowZ_end (by simp), map_den_v, List.drop_zero, List.take_of_length_le (by rw [len_flat hr7]; omega)]
def toSmSC_S : Makes Tryz.prog 42 where
  ι := ((Option Addr) × (Nat) × (List Smp))
  A := fun (i : ((Option Addr) × (Nat) × (List Smp))) => match i with | (o, cap, ss) => [.slice o ss.length cap]
  pre := fun (i : ((Option Addr) × (Nat) × (List Smp))) (F : Facts) => match i with | (o, cap, ss) => RdSm F o ss ∧ ss.length ≤ 1048576
  post := fun (i : ((Option Addr) × (Nat) × (List Smp))) (v : Value) (F : Facts) => match i with | (o, cap, ss) => IsSm F v ss
  mono := by
    intro i F G hs h
    first | exact h | exact h.mono hs | exact ⟨h.1.mono hs, h.2⟩ | exact ⟨h.1.mono hs, h.2.1.mono hs, h.2.2⟩ | exact ⟨h.1.mono hs, h.2.1.mono hs⟩
  monoP := fun i v F G hs h => h.mono hs
  enter := Tryz.call42
  h := fun i w hp => toSmSC_c i.1 i.2.1 i.2.2 w (by rw [factF_init]; exact hp)
def toSmSC : Con Tryz.prog := Con.make toSmSC_S
theorem eqF4C_c (f : Arr 4 Nat) (hpre : ∀ k, k < 4 → f k < 18446744073709551616) (w : World) : Calls Tryz.prog 178 #[.agg (iL f).toArray, .agg (iL f).toArray] w fun e w' => e = .returned (.bool true) ∧ RowKit.Below w.heap.size w w' := by
  refine (plain_of_vcs ⟨[sameFloatC], []⟩ hmx Tryz.func178 rfl (by kernel_rfl) (args := [.agg (iL f).toArray, .agg (iL f).toArray]) (by simp [Tryz.ntmps178]) w (· = .bool true) 1000 ?_).mono fun e w' ⟨v, h1, h2, h3⟩ => ⟨h2 ▸ h1, h3⟩
  have hs := fun k => sameF_refl (f k)
  rw [iL_lit]
  simp (maxSteps := 4000000) -dsimp [-List.all_eq_true, -Array.all_eq_true, -Bool.exists_bool, -Bool.forall_bool, vcsE1, vcsE2, vcsE3, vcsE4, vcsE5, vcsE6, vcsE7, vcsE8, vcsE9, vcsE10, vcsE11, vcsE12, vcsE13, vcsE14, vcsE15, vcsE16, vcsE17, vcsE18, vcsE19, Sx.get, Sx.look, Sx.put, pureFn, findOrd, unF, dstOk, isFloatT, endVC, resFn, packC, newFn, storeFn, buildFn, undef, known, aggT, cellsC, Value.cells, findCon, Con.pure, Con.some, allV, partsV, partsC, fillL, Sx.exitTo, fAr, C.one, Value.oneCell', eqFn, eqFieldsFn, eqElemsFn, partFn, and_assoc, List.zipIdx, sliceFn, boundFn, AppV, CopyV, MakeSliceV, NewsV, GrowV, TextV, bytesL, notInt, typeAt, argAt, Con.read, Con.make, Con.ext, Con.rel, den, Con.extS, Con.draw, Con.step, Draws.steps, Tryz.f178, sameFloatC]
  intro _ _
  iterate 5
    refine loop_unroll (σ := ⟨[sameFloatC], []⟩) (n := 1000) hmx (by kernel_rfl) ?_
    simp (maxSteps := 4000000) -dsimp [-List.all_eq_true, -Array.all_eq_true, -Bool.exists_bool, -Bool.forall_bool, vcsE1, vcsE2, vcsE3, vcsE4, vcsE5, vcsE6, vcsE7, vcsE8, vcsE9, vcsE10, vcsE11, vcsE12, vcsE13, vcsE14, vcsE15, vcsE16, vcsE17, vcsE18, vcsE19, Sx.get, Sx.look, Sx.put, pureFn, findOrd, unF, dstOk, isFloatT, endVC, resFn, packC, newFn, storeFn, buildFn, undef, known, aggT, cellsC, Value.cells, findCon, Con.pure, Con.some, allV, partsV, partsC, fillL, Sx.exitTo, fAr, C.one, Value.oneCell', eqFn, eqFieldsFn, eqElemsFn, partFn, and_assoc, List.zipIdx, sliceFn, boundFn, AppV, CopyV, MakeSliceV, NewsV, GrowV, TextV, bytesL, notInt, typeAt, argAt, Con.read, Con.make, Con.ext, Con.rel, den, Con.extS, Con.draw, Con.step, Draws.steps, Tryz.f178, sameFloatC, IntKind.wrap, IntKind.signed, IntKind.bits, hpre, hs]
def eqF4C : Con Tryz.prog := Con.pure 178 Tryz.call178 (fun (f : ((Arr 4 Nat))) => [.agg (iL f).toArray, .agg (iL f).toArray]) (fun (f : ((Arr 4 Nat))) => ∀ k, k < 4 → f k < 18446744073709551616) (fun (f : ((Arr 4 Nat))) => .bool true) fun f w hp => eqF4C_c f hp w
theorem sm_fl (x t : Int) (f : Arr 4 Nat) : List.take 4 (List.drop 2 (List.map C.v (sampleL x t f))) = List.map C.v (iL f) := by kernel_rfl
theorem sm_get0 (x t : Int) (f : Arr 4 Nat) : (sampleL x t f)[0]? = some (.int .u32 x) := by kernel_rfl
theorem sm_gete0 (x t : Int) (f : Arr 4 Nat) (h : 0 < (sampleL x t f).length) : (sampleL x t f)[0]'h = .int .u32 x := by kernel_rfl
theorem iL_eq {f g : Arr 4 Nat} : iL f = iL g ↔ f = g := ⟨iL_injf, fun h => by rw [h]⟩
theorem eqSmC_c (x t : Int) (f : Arr 4 Nat) (hpre : ∀ k, k < 4 → f k < 18446744073709551616) (w : World) : Calls Tryz.prog 105 #[.agg (sampleL x t f).toArray, .agg (sampleL x t f).toArray] w fun e w' => e = .returned (.bool true) ∧ RowKit.Below w.heap.size w w' := by
  refine (plain_of_vcs ⟨[eqF4C], []⟩ hmx Tryz.func105 rfl (by kernel_rfl) (args := [.agg (sampleL x t f).toArray, .agg (sampleL x t f).toArray]) (by simp [Tryz.ntmps105]) w (· = .bool true) 400 ?_).mono fun e w' ⟨v, h1, h2, h3⟩ => ⟨h2 ▸ h1, h3⟩
  simp (maxSteps := 4000000) -dsimp [-List.all_eq_true, -Array.all_eq_true, -Bool.exists_bool, -Bool.forall_bool, vcsE1, vcsE2, vcsE3, vcsE4, vcsE5, vcsE6, vcsE7, vcsE8, vcsE9, vcsE10, vcsE11, vcsE12, vcsE13, vcsE14, vcsE15, vcsE16, vcsE17, vcsE18, vcsE19, Sx.get, Sx.look, Sx.put, pureFn, findOrd, unF, dstOk, isFloatT, endVC, resFn, packC, newFn, storeFn, buildFn, undef, known, aggT, cellsC, Value.cells, findCon, Con.pure, Con.some, allV, partsV, partsC, fillL, Sx.exitTo, fAr, C.one, Value.oneCell', eqFn, eqFieldsFn, eqElemsFn, partFn, and_assoc, List.zipIdx, sliceFn, boundFn, AppV, CopyV, MakeSliceV, NewsV, GrowV, TextV, bytesL, notInt, typeAt, argAt, Con.read, Con.make, Con.ext, Con.rel, den, Con.extS, Con.draw, Con.step, Draws.steps, Tryz.f105, eqF4C, sm_fl, allV_map, sm_len, sm_get, sm_gete, sm_get0, sm_gete0, iL_eq, hpre]
  exact hpre
def eqSmC : Con Tryz.prog := Con.pure 105 Tryz.call105 (fun (i : ((Int) × (Int) × (Arr 4 Nat))) => match i with | (x, t, f) => [.agg (sampleL x t f).toArray, .agg (sampleL x t f).toArray]) (fun (i : ((Int) × (Int) × (Arr 4 Nat))) => match i with | (x, t, f) => ∀ k, k < 4 → f k < 18446744073709551616) (fun (i : ((Int) × (Int) × (Arr 4 Nat))) => match i with | (x, t, f) => .bool true) fun i w hp => eqSmC_c i.1 i.2.1 i.2.2 hp w
theorem eqSmSC_c (o : Option Addr) (cap : Nat) (ss : List Smp) (o2 : Option Addr) (cap2 : Nat) (w : World) (hpre : RdSm (factF ⟨w, [], w, []⟩) o ss ∧ RdSm (factF ⟨w, [], w, []⟩) o2 ss ∧ (∀ s ∈ ss, SmpOk s) ∧ ss.length ≤ 1048576) : Calls Tryz.prog 44 #[.slice o ss.length cap, .slice o2 ss.length cap2] w fun e w' => e = .returned (.bool true) ∧ RowKit.Below w.heap.size w w' := by
  refine (plain_of_vcs ⟨[eqSmC], []⟩ hmx Tryz.func44 rfl (by kernel_rfl) (args := [.slice o ss.length cap, .slice o2 ss.length cap2]) (by simp [Tryz.ntmps44]) w (· = .bool true) 400 ?_).mono fun e w' ⟨v, h1, h2, h3⟩ => ⟨h2 ▸ h1, h3⟩
  obtain ⟨h, g, hso, hl⟩ := hpre
  simp (maxSteps := 4000000) -dsimp [-List.all_eq_true, -Array.all_eq_true, -Bool.exists_bool, -Bool.forall_bool, vcsE1, vcsE2, vcsE3, vcsE4, vcsE5, vcsE6, vcsE7, vcsE8, vcsE9, vcsE10, vcsE11, vcsE12, vcsE13, vcsE14, vcsE15, vcsE16, vcsE17, vcsE18, vcsE19, Sx.get, Sx.look, Sx.put, pureFn, findOrd, unF, dstOk, isFloatT, endVC, resFn, packC, newFn, storeFn, buildFn, undef, known, aggT, cellsC, Value.cells, findCon, Con.pure, Con.some, allV, partsV, partsC, fillL, Sx.exitTo, fAr, C.one, Value.oneCell', eqFn, eqFieldsFn, eqElemsFn, partFn, and_assoc, List.zipIdx, sliceFn, boundFn, AppV, CopyV, MakeSliceV, NewsV, GrowV, TextV, bytesL, notInt, typeAt, argAt, Con.read, Con.make, Con.ext, Con.rel, den, Con.extS, Con.draw, Con.step, Draws.steps, Tryz.f44, eqSmC]
  refine loop_inv (σ := ⟨[eqSmC], []⟩) hmx (by kernel_rfl) (fun q cx tm mem => cx = ⟨w, [], w, []⟩ ∧ mem = [] ∧ ∃ i : Nat, i ≤ ss.length ∧ q = ss.length - i ∧ Sx.look tm 5 = .v (.int .i64 i) ∧ Sx.look tm 0 = .v (.slice o ss.length cap) ∧ Sx.look tm 1 = .v (.slice o2 ss.length cap2))
    ss.length ⟨rfl, rfl, 0, by omega, rfl, by simp [Sx.look], by simp [Sx.look], by simp [Sx.look]⟩ ?_
  rintro q cx tm mem ⟨rfl, rfl, i, hi, rfl, h5, h0, h1⟩
  refine ⟨300, ?_⟩
  by_cases hlt : i < ss.length
  · obtain ⟨s, hs⟩ : ∃ s, ss[i]? = some s := ⟨ss[i], by simp [hlt]⟩
    have hsf := (hso s (List.mem_of_getElem? hs)).f
    simp (maxSteps := 4000000) -dsimp [-List.all_eq_true, -Array.all_eq_true, -Bool.exists_bool, -Bool.forall_bool, vcsE1, vcsE2, vcsE3, vcsE4, vcsE5, vcsE6, vcsE7, vcsE8, vcsE9, vcsE10, vcsE11, vcsE12, vcsE13, vcsE14, vcsE15, vcsE16, vcsE17, vcsE18, vcsE19, Sx.get, Sx.look, Sx.put, pureFn, findOrd, unF, dstOk, isFloatT, endVC, resFn, packC, newFn, storeFn, buildFn, undef, known, aggT, cellsC, Value.cells, findCon, Con.pure, Con.some, allV, partsV, partsC, fillL, Sx.exitTo, fAr, C.one, Value.oneCell', eqFn, eqFieldsFn, eqElemsFn, partFn, and_assoc, List.zipIdx, sliceFn, boundFn, AppV, CopyV, MakeSliceV, NewsV, GrowV, TextV, bytesL, notInt, typeAt, argAt, Con.read, Con.make, Con.ext, Con.rel, den, Con.extS, Con.draw, Con.step, Draws.steps, Tryz.f44, eqSmC, h5, h0, h1, hlt, h.there hlt, g.there hlt, h.all hs, g.all hs, sm_inj, hsf, i_succ (i := i) (by omega)]
    exact ⟨hsf, ss.length - (i + 1), by omega, i + 1, by omega, rfl, by omega⟩
  · obtain rfl : i = ss.length := by omega
    simp (maxSteps := 4000000) -dsimp [-List.all_eq_true, -Array.all_eq_true, -Bool.exists_bool, -Bool.forall_bool, vcsE1, vcsE2, vcsE3, vcsE4, vcsE5, vcsE6, vcsE7, vcsE8, vcsE9, vcsE10, vcsE11, vcsE12, vcsE13, vcsE14, vcsE15, vcsE16, vcsE17, vcsE18, vcsE19, Sx.get, Sx.look, Sx.put, pureFn, findOrd, unF, dstOk, isFloatT, endVC, resFn, packC, newFn, storeFn, buildFn, undef, known, aggT, cellsC, Value.cells, findCon, Con.pure, Con.some, allV, partsV, partsC, fillL, Sx.exitTo, fAr, C.one, Value.oneCell', eqFn, eqFieldsFn, eqElemsFn, partFn, and_assoc, List.zipIdx, sliceFn, boundFn, AppV, CopyV, MakeSliceV, NewsV, GrowV, TextV, bytesL, notInt, typeAt, argAt, Con.read, Con.make, Con.ext, Con.rel, den, Con.extS, Con.draw, Con.step, Draws.steps, Tryz.f44, eqSmC, h5, h0, h1]
def eqSmSC_S : Reads Tryz.prog 44 where
  ι := ((Option Addr) × (Nat) × (List Smp) × (Option Addr) × (Nat))
  A := fun (i : ((Option Addr) × (Nat) × (List Smp) × (Option Addr) × (Nat))) => match i with | (o, cap, ss, o2, cap2) => [.slice o ss.length cap, .slice o2 ss.length cap2]
  pre := fun (i : ((Option Addr) × (Nat) × (List Smp) × (Option Addr) × (Nat))) (F : Facts) => match i with | (o, cap, ss, o2, cap2) => RdSm F o ss ∧ RdSm F o2 ss ∧ (∀ s ∈ ss, SmpOk s) ∧ ss.length ≤ 1048576
  res := fun (i : ((Option Addr) × (Nat) × (List Smp) × (Option Addr) × (Nat))) => match i with | (o, cap, ss, o2, cap2) => .bool true
  mono := by
    intro i F G hs h
    first | exact h | exact h.mono hs | exact ⟨h.1.mono hs, h.2⟩ | exact ⟨h.1.mono hs, h.2.1.mono hs, h.2.2⟩ | exact ⟨h.1.mono hs, h.2.1.mono hs⟩
  uniq := by
    rintro ⟨o, cap, ss, o2, cap2⟩ ⟨o', cap', ss', o2', cap2'⟩ F hA h h'
    simp at hA
    (try simp only [Int.natCast_inj] at hA)
    obtain rfl : ss = ss' := RdSm.uniq h.1 h'.1 (by simp_all) (by simp_all)
    simp_all
  enter := Tryz.call44
  h := fun i w hp => eqSmSC_c i.1 i.2.1 i.2.2.1 i.2.2.2.1 i.2.2.2.2 w (by rw [factF_init]; exact hp)
def eqSmSC : Con Tryz.prog := Con.read eqSmSC_S
theorem eqSmSC_rw {o : Option Addr} {cap : Nat} {ss : List Smp} {o2 : Option Addr} {cap2 : Nat} {d : Nat} {cx : Cx} {mem : List Blk} {K : C → Prop} (hpre : RdSm (nowF cx mem) o ss ∧ RdSm (nowF cx mem) o2 ss ∧ (∀ s ∈ ss, SmpOk s) ∧ ss.length ≤ 1048576) : ReadV d eqSmSC_S cx [.v (.slice o ss.length cap), .v (.slice o2 ss.length cap2)] mem K = K (.v (.bool true)) := eqSmSC_S.eq (o, cap, ss, o2, cap2) rfl hpre
end Go.Proofs.YtmiicjgbhkjocaaGreat
