/-
  The program's MachScan returns what the reference's returns, for all arguments. Conditions: none.
-/
import Derived.Test.YtmiicjgbhkjocaaGreatMz
import Derived.Test.YtmiicjgbhkjocaaGreatD
import Derived.Test.YtmiicjgbhkjocaaGreatIl
import Derived.Test.YtmiicjgbhkjocaaGreatO
set_option linter.unusedVariables false
set_option linter.unusedSimpArgs false
set_option maxRecDepth 100000
set_option maxHeartbeats 4000000
namespace Go.Proofs.YtmiicjgbhkjocaaGreat
open Go Go.Sx Go.ChangeShapes Go.WideShapes Go.ChangeAt Go.RowKit

theorem lawMachScanC_c (o : Option Addr) (cap : Nat) (xs : List Ins) (m : M) (x dt : Int) (f : Arr 4 Nat) (w : World) (hpre : RdN (factF ⟨w, [], w, []⟩) o xs ∧ MOk m ∧ SmpOk ⟨x, dt, f⟩ ∧ xs.length ≤ 9223372036854775807) : Calls Tryz.prog 7 #[.slice o xs.length cap, .agg (cells m), .agg (sampleL x dt f).toArray] w fun e w' => e = .returned (.bool true) ∧ RowKit.Below w.heap.size w w' := by
  refine (plain_of_vcs ⟨[szInstSC, toInstSC, toMemC, toSampleC, sMachScanC, machScanC, eqMemC, eqInstSC], [(5, [(0, false), (2, false), (4, false), (1, false), (2, true), (4, true), (3, false), (5, false), (6, false), (7, false), (8, false)])]⟩ hmx Tryz.func7 rfl (by kernel_rfl) (args := [.slice o xs.length cap, .agg (cells m), .agg (sampleL x dt f).toArray]) (by simp [Tryz.ntmps7]) w (· = .bool true) 400 ?_).mono fun e w' ⟨v, h1, h2, h3⟩ => ⟨h2 ▸ h1, h3⟩
  obtain ⟨h, hm, hsm, hl⟩ := hpre
  have z1 := fun d mem K => szInstSC_rw (cap := cap) (d := d) (cx := ⟨w, [], w, []⟩) (mem := mem) (K := K) (left := 1048576) ⟨h.mono (sub_now _ _), by decide, by decide, hl⟩
  by_cases hs : 0 ≤ szS xs 1048576
  · obtain ⟨hx1, hx2⟩ := szS_ok (by decide) hs
    have hs1 : ¬ szS xs 1048576 < 0 := by omega
    simp (maxSteps := 4000000) -dsimp [-List.all_eq_true, -Array.all_eq_true, -Bool.exists_bool, -Bool.forall_bool, vcsE1, vcsE2, vcsE3, vcsE4, vcsE5, vcsE6, vcsE7, vcsE8, vcsE9, vcsE10, vcsE11, vcsE12, vcsE13, vcsE14, vcsE15, vcsE16, vcsE17, vcsE18, vcsE19, Sx.get, Sx.look, Sx.put, pureFn, findOrd, unF, dstOk, isFloatT, endVC, resFn, packC, newFn, storeFn, buildFn, undef, known, aggT, cellsC, Value.cells, findCon, Con.pure, Con.some, allV, partsV, partsC, fillL, Sx.exitTo, fAr, C.one, Value.oneCell', eqFn, eqFieldsFn, eqElemsFn, partFn, and_assoc, List.zipIdx, sliceFn, boundFn, AppV, CopyV, MakeSliceV, NewsV, GrowV, TextV, bytesL, notInt, typeAt, argAt, Con.read, Con.make, Con.ext, Con.rel, den, Con.extS, Con.draw, Con.step, Draws.steps, Tryz.f7, szInstSC, toInstSC, toMemC, toSampleC, sMachScanC, machScanC, eqMemC, eqInstSC, z1, hs1, sm_take, allV_map, sm_len]
    intro b b1
    refine ⟨(o, cap, xs), rfl, ⟨h.mono (sub_now _ _), hx1, hx2⟩, ?_⟩
    rintro cx1 v hle1 hv
    obtain ⟨o1, cap1, rfl, a1, _, _⟩ := hv.ex
    simp (maxSteps := 4000000) -dsimp [-List.all_eq_true, -Array.all_eq_true, -Bool.exists_bool, -Bool.forall_bool, vcsE1, vcsE2, vcsE3, vcsE4, vcsE5, vcsE6, vcsE7, vcsE8, vcsE9, vcsE10, vcsE11, vcsE12, vcsE13, vcsE14, vcsE15, vcsE16, vcsE17, vcsE18, vcsE19, Sx.get, Sx.look, Sx.put, pureFn, findOrd, unF, dstOk, isFloatT, endVC, resFn, packC, newFn, storeFn, buildFn, undef, known, aggT, cellsC, Value.cells, findCon, Con.pure, Con.some, allV, partsV, partsC, fillL, Sx.exitTo, fAr, C.one, Value.oneCell', eqFn, eqFieldsFn, eqElemsFn, partFn, and_assoc, List.zipIdx, sliceFn, boundFn, AppV, CopyV, MakeSliceV, NewsV, GrowV, TextV, bytesL, notInt, typeAt, argAt, Con.read, Con.make, Con.ext, Con.rel, den, Con.extS, Con.draw, Con.step, Draws.steps, Tryz.f7, szInstSC, toInstSC, toMemC, toSampleC, sMachScanC, machScanC, eqMemC, eqInstSC, sm_take, allV_map, sm_len, sm_inj]
    refine ⟨(o1, cap1, xs, m, ⟨x, dt, f⟩), rfl, ⟨a1.mono ((sub_new _).trans (sub_now _ _)), hm, hsm, hx1⟩, fun v hv => ?_⟩
    obtain ⟨m1, rfl, s1, k1⟩ := hv.ex
    simp (maxSteps := 4000000) -dsimp [-List.all_eq_true, -Array.all_eq_true, -Bool.exists_bool, -Bool.forall_bool, vcsE1, vcsE2, vcsE3, vcsE4, vcsE5, vcsE6, vcsE7, vcsE8, vcsE9, vcsE10, vcsE11, vcsE12, vcsE13, vcsE14, vcsE15, vcsE16, vcsE17, vcsE18, vcsE19, Sx.get, Sx.look, Sx.put, pureFn, findOrd, unF, dstOk, isFloatT, endVC, resFn, packC, newFn, storeFn, buildFn, undef, known, aggT, cellsC, Value.cells, findCon, Con.pure, Con.some, allV, partsV, partsC, fillL, Sx.exitTo, fAr, C.one, Value.oneCell', eqFn, eqFieldsFn, eqElemsFn, partFn, and_assoc, List.zipIdx, sliceFn, boundFn, AppV, CopyV, MakeSliceV, NewsV, GrowV, TextV, bytesL, notInt, typeAt, argAt, Con.read, Con.make, Con.ext, Con.rel, den, Con.extS, Con.draw, Con.step, Draws.steps, Tryz.f7, szInstSC, toInstSC, toMemC, toSampleC, sMachScanC, machScanC, eqMemC, eqInstSC]
    intro b2
    refine ⟨(o, cap, xs), rfl, ⟨h.mono (hle1.fact.trans (sub_now _ _)), hx1, hx2⟩, ?_⟩
    rintro cx2 v hle2 hv
    obtain ⟨o2, cap2, rfl, a2, _, _⟩ := hv.ex
    simp (maxSteps := 4000000) -dsimp [-List.all_eq_true, -Array.all_eq_true, -Bool.exists_bool, -Bool.forall_bool, vcsE1, vcsE2, vcsE3, vcsE4, vcsE5, vcsE6, vcsE7, vcsE8, vcsE9, vcsE10, vcsE11, vcsE12, vcsE13, vcsE14, vcsE15, vcsE16, vcsE17, vcsE18, vcsE19, Sx.get, Sx.look, Sx.put, pureFn, findOrd, unF, dstOk, isFloatT, endVC, resFn, packC, newFn, storeFn, buildFn, undef, known, aggT, cellsC, Value.cells, findCon, Con.pure, Con.some, allV, partsV, partsC, fillL, Sx.exitTo, fAr, C.one, Value.oneCell', eqFn, eqFieldsFn, eqElemsFn, partFn, and_assoc, List.zipIdx, sliceFn, boundFn, AppV, CopyV, MakeSliceV, NewsV, GrowV, TextV, bytesL, notInt, typeAt, argAt, Con.read, Con.make, Con.ext, Con.rel, den, Con.extS, Con.draw, Con.step, Draws.steps, Tryz.f7, szInstSC, toInstSC, toMemC, toSampleC, sMachScanC, machScanC, eqMemC, eqInstSC, sm_take, allV_map, sm_len, sm_inj]
    refine ⟨(o2, cap2, xs, m, ⟨x, dt, f⟩), rfl, ⟨a2.mono ((sub_new _).trans (sub_now _ _)), hm, hsm, hx1⟩, fun v hv => ?_⟩
    obtain ⟨m2, rfl, s2, k2⟩ := hv.ex
    simp (maxSteps := 4000000) -dsimp [-List.all_eq_true, -Array.all_eq_true, -Bool.exists_bool, -Bool.forall_bool, vcsE1, vcsE2, vcsE3, vcsE4, vcsE5, vcsE6, vcsE7, vcsE8, vcsE9, vcsE10, vcsE11, vcsE12, vcsE13, vcsE14, vcsE15, vcsE16, vcsE17, vcsE18, vcsE19, Sx.get, Sx.look, Sx.put, pureFn, findOrd, unF, dstOk, isFloatT, endVC, resFn, packC, newFn, storeFn, buildFn, undef, known, aggT, cellsC, Value.cells, findCon, Con.pure, Con.some, allV, partsV, partsC, fillL, Sx.exitTo, fAr, C.one, Value.oneCell', eqFn, eqFieldsFn, eqElemsFn, partFn, and_assoc, List.zipIdx, sliceFn, boundFn, AppV, CopyV, MakeSliceV, NewsV, GrowV, TextV, bytesL, notInt, typeAt, argAt, Con.read, Con.make, Con.ext, Con.rel, den, Con.extS, Con.draw, Con.step, Draws.steps, Tryz.f7, szInstSC, toInstSC, toMemC, toSampleC, sMachScanC, machScanC, eqMemC, eqInstSC, s2.trans s1.symm, k2]
    intro b3
    have l2 := hle1.trans hle2
    refine ⟨(o, cap, xs), rfl, ⟨h.mono (l2.fact.trans (sub_now _ _)), hx1, hx2⟩, ?_⟩
    rintro cx3 v hle3 hv
    obtain ⟨o3, cap3, rfl, a3, _, _⟩ := hv.ex
    simp (maxSteps := 4000000) -dsimp [-List.all_eq_true, -Array.all_eq_true, -Bool.exists_bool, -Bool.forall_bool, vcsE1, vcsE2, vcsE3, vcsE4, vcsE5, vcsE6, vcsE7, vcsE8, vcsE9, vcsE10, vcsE11, vcsE12, vcsE13, vcsE14, vcsE15, vcsE16, vcsE17, vcsE18, vcsE19, Sx.get, Sx.look, Sx.put, pureFn, findOrd, unF, dstOk, isFloatT, endVC, resFn, packC, newFn, storeFn, buildFn, undef, known, aggT, cellsC, Value.cells, findCon, Con.pure, Con.some, allV, partsV, partsC, fillL, Sx.exitTo, fAr, C.one, Value.oneCell', eqFn, eqFieldsFn, eqElemsFn, partFn, and_assoc, List.zipIdx, sliceFn, boundFn, AppV, CopyV, MakeSliceV, NewsV, GrowV, TextV, bytesL, notInt, typeAt, argAt, Con.read, Con.make, Con.ext, Con.rel, den, Con.extS, Con.draw, Con.step, Draws.steps, Tryz.f7, szInstSC, toInstSC, toMemC, toSampleC, sMachScanC, machScanC, eqMemC, eqInstSC]
    refine (eqInstSC_rw ⟨a2.mono ((sub_new _).trans (hle3.fact.trans (sub_now _ _))), a3.mono ((sub_new _).trans (sub_now _ _)), hx1, hx2⟩).mpr ?_
    have hw := (l2.trans hle3).w0
    have hg := (l2.trans hle3).g0
    simp (maxSteps := 4000000) -dsimp [-List.all_eq_true, -Array.all_eq_true, -Bool.exists_bool, -Bool.forall_bool, vcsE1, vcsE2, vcsE3, vcsE4, vcsE5, vcsE6, vcsE7, vcsE8, vcsE9, vcsE10, vcsE11, vcsE12, vcsE13, vcsE14, vcsE15, vcsE16, vcsE17, vcsE18, vcsE19, Sx.get, Sx.look, Sx.put, pureFn, findOrd, unF, dstOk, isFloatT, endVC, resFn, packC, newFn, storeFn, buildFn, undef, known, aggT, cellsC, Value.cells, findCon, Con.pure, Con.some, allV, partsV, partsC, fillL, Sx.exitTo, fAr, C.one, Value.oneCell', eqFn, eqFieldsFn, eqElemsFn, partFn, and_assoc, List.zipIdx, sliceFn, boundFn, AppV, CopyV, MakeSliceV, NewsV, GrowV, TextV, bytesL, notInt, typeAt, argAt, Con.read, Con.make, Con.ext, Con.rel, den, Con.extS, Con.draw, Con.step, Draws.steps, Tryz.f7, szInstSC, toInstSC, toMemC, toSampleC, sMachScanC, machScanC, eqMemC, eqInstSC, hw, hg]
  · have hs1 : szS xs 1048576 < 0 := by omega
    simp (maxSteps := 4000000) -dsimp [-List.all_eq_true, -Array.all_eq_true, -Bool.exists_bool, -Bool.forall_bool, vcsE1, vcsE2, vcsE3, vcsE4, vcsE5, vcsE6, vcsE7, vcsE8, vcsE9, vcsE10, vcsE11, vcsE12, vcsE13, vcsE14, vcsE15, vcsE16, vcsE17, vcsE18, vcsE19, Sx.get, Sx.look, Sx.put, pureFn, findOrd, unF, dstOk, isFloatT, endVC, resFn, packC, newFn, storeFn, buildFn, undef, known, aggT, cellsC, Value.cells, findCon, Con.pure, Con.some, allV, partsV, partsC, fillL, Sx.exitTo, fAr, C.one, Value.oneCell', eqFn, eqFieldsFn, eqElemsFn, partFn, and_assoc, List.zipIdx, sliceFn, boundFn, AppV, CopyV, MakeSliceV, NewsV, GrowV, TextV, bytesL, notInt, typeAt, argAt, Con.read, Con.make, Con.ext, Con.rel, den, Con.extS, Con.draw, Con.step, Draws.steps, Tryz.f7, szInstSC, toInstSC, toMemC, toSampleC, sMachScanC, machScanC, eqMemC, eqInstSC, z1, hs1]
def lawMachScanC_S : Reads Tryz.prog 7 where
  ι := ((Option Addr) × (Nat) × (List Ins) × (M) × (Int) × (Int) × (Arr 4 Nat))
  A := fun (i : ((Option Addr) × (Nat) × (List Ins) × (M) × (Int) × (Int) × (Arr 4 Nat))) => match i with | (o, cap, xs, m, x, dt, f) => [.slice o xs.length cap, .agg (cells m), .agg (sampleL x dt f).toArray]
  pre := fun (i : ((Option Addr) × (Nat) × (List Ins) × (M) × (Int) × (Int) × (Arr 4 Nat))) (F : Facts) => match i with | (o, cap, xs, m, x, dt, f) => RdN F o xs ∧ MOk m ∧ SmpOk ⟨x, dt, f⟩ ∧ xs.length ≤ 9223372036854775807
  res := fun (i : ((Option Addr) × (Nat) × (List Ins) × (M) × (Int) × (Int) × (Arr 4 Nat))) => match i with | (o, cap, xs, m, x, dt, f) => .bool true
  mono := by
    intro i F G hs h
    first | exact h | exact h.mono hs | exact ⟨h.1.mono hs, h.2⟩ | exact ⟨h.1.mono hs, h.2.1.mono hs, h.2.2⟩ | exact ⟨h.1.mono hs, h.2.1.mono hs⟩
  uniq := by
    rintro ⟨o, cap, xs, m, x, dt, f⟩ ⟨o', cap', xs', m', x', dt', f'⟩ F hA h h'
    simp at hA
    (try simp only [Int.natCast_inj] at hA)
    obtain rfl : xs = xs' := RdN.uniq h.1 h'.1 (by simp_all) (by simp_all)
    simp_all
  enter := Tryz.call7
  h := fun i w hp => lawMachScanC_c i.1 i.2.1 i.2.2.1 i.2.2.2.1 i.2.2.2.2.1 i.2.2.2.2.2.1 i.2.2.2.2.2.2 w (by rw [factF_init]; exact hp)
def lawMachScanC : Con Tryz.prog := Con.read lawMachScanC_S
theorem lawMachScanC_rw {o : Option Addr} {cap : Nat} {xs : List Ins} {m : M} {x dt : Int} {f : Arr 4 Nat} {d : Nat} {cx : Cx} {mem : List Blk} {K : C → Prop} (hpre : RdN (nowF cx mem) o xs ∧ MOk m ∧ SmpOk ⟨x, dt, f⟩ ∧ xs.length ≤ 9223372036854775807) : ReadV d lawMachScanC_S cx [.v (.slice o xs.length cap), .v (.agg (cells m)), .v (.agg (sampleL x dt f).toArray)] mem K = K (.v (.bool true)) := lawMachScanC_S.eq (o, cap, xs, m, x, dt, f) rfl hpre
theorem fnExactMachScan_lifted (os : Os) (started : os.Started) (H : Type) (enc : TypeId × Value → H) :
    ReturnsInHanded {} Tryz.checked os 7 .any (Rows.fnExactMachScanSpec.pre6 enc Tryz.prog Tryz.f7 Rows.fnExactMachScanRow.domain false) (Rows.fnExactMachScanSpec.post enc Tryz.prog Tryz.f7 false true false false) := by
  refine lifted_of_walk (C := Tryz.checked) (tb := 4) own started (by kernel_rfl) Tryz.func7
    (ChangeSpec.witness6 (enc := enc) (C := Tryz.checked) false ⟨#[], #[.slice none 0 0, .agg (cells zeroM), .agg (sampleL 0 0 (Arr.zero _ _)).toArray], []⟩ 12 (by kernel_rfl) (by kernel_rfl) (by kernel_rfl) (by kernel_rfl))
    laidOut (by kernel_rfl) rfl rfl (by kernel_rfl) (fun ds hd => ?_) (fun W base args hsz hval htr => ?_)
  · match ds, hd with
    | [d0, d1, d2], _ => rfl
  · obtain ⟨a0, a1, a2, rfl⟩ : ∃ a0 a1 a2, args = #[a0, a1, a2] := by
      obtain ⟨l⟩ := args
      match l, hsz with
      | [a0, a1, a2], _ => exact ⟨a0, a1, a2, rfl⟩
    obtain ⟨o, cap, xs, rfl, h_o⟩ := openList (hval 0 _ a0 rfl rfl) (htr 0 _ a0 rfl rfl)
    obtain ⟨m, rfl, h_m⟩ := openMem (hval 1 _ a1 rfl rfl)
    obtain ⟨x, dt, f, rfl, h_x⟩ := openSample (hval 2 _ a2 rfl rfl)
    exact lawMachScanC_c o cap xs m x dt f W (by rw [factF_init]; exact ⟨h_o.1, h_m, ⟨h_x.1, h_x.2.1, h_x.2.2⟩, by have := h_o.2.1; have := h_o.2.2; unfold maxLen at this; omega⟩)

theorem fnExactMachScan_j0 : Rows.fnExactMachScanRow.wf (OpenSpec.ofChange Rows.fnExactMachScanSpec) = true := by kernel_rfl
theorem fnExactMachScan_j3 : (Tryz.f7.params.all (Tryz.prog.readableRec ·) && namedTie Tryz.prog Rows.fnExactMachScanRow.named Rows.fnExactMachScanSpec.vars && (Rows.fnExactMachScanRow.stops == []) && (Tryz.prog.stops == []) && (Rows.fnExactMachScanRow.knobs == []) && (Tryz.prog.stopKnobs == [])) = true := by kernel_rfl
theorem fnExactMachScan_j9 : (Rows.fnExactMachScanRow.inPlace == Tryz.prog.inPlace 7) = true := by kernel_rfl
theorem fnExactMachScan_j10 : (Rows.fnExactMachScanRow.unfollowed == Tryz.prog.unfollowed 7) = true := by kernel_rfl
theorem fnExactMachScan_j11 : (Rows.fnExactMachScanRow.recurses == Tryz.prog.recurses 7) = true := by kernel_rfl
theorem fnExactMachScan_j12 : (Rows.fnExactMachScanRow.named == Tryz.prog.varsNamed 7) = true := by kernel_rfl
theorem fnExactMachScan_closed : joinedFacts Tryz.prog 7 Tryz.f7 Rows.fnExactMachScanSpec Rows.fnExactMachScanRow = true :=
  joined_of fnExactMachScan_j0 fxLaid fxMaps fnExactMachScan_j3 fnExactMachScan_j9 fnExactMachScan_j10 fnExactMachScan_j11 fnExactMachScan_j12 (by kernel_rfl) (Eq.trans (by kernel_rfl) fxKeys) (by kernel_rfl) fxHeard fxEnter (Eq.trans (by rfl) fxLifts) (Eq.trans (by rfl) fxMake) (by kernel_rfl)
theorem fnExactMachScan_holds : Rows.FnExactMachScanSaid :=
  OpenClaim.holds_of_wide 7 Tryz.f7 rfl rfl rfl rfl rfl rfl rfl ⟨rfl, rfl, rfl, rfl, rfl⟩ rfl rfl rfl rfl rfl (by kernel_rfl) Tryz.func7 fnExactMachScan_closed
    (of_decide_eq_true (by kernel_rfl)) (by unfold Func.isWrapper; first | (rw [if_pos (by decide +kernel)]; kernel_rfl) | (rw [if_neg (by decide +kernel)]; exact ⟨rfl, rfl⟩))
    (fun os started H enc _ => fnExactMachScan_lifted os started H enc)
end Go.Proofs.YtmiicjgbhkjocaaGreat
