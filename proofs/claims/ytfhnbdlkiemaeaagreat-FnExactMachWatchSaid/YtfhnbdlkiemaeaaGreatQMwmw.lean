/-
  The program's MachWatch returns what the reference's returns, for all arguments. Conditions: none.
-/
import Derived.Test.YtfhnbdlkiemaeaaGreatWlmw
import Derived.Test.YtfhnbdlkiemaeaaGreatOmw
set_option linter.unusedVariables false
set_option linter.unusedSimpArgs false
set_option maxRecDepth 100000
set_option maxHeartbeats 4000000
namespace Go.Proofs.YtfhnbdlkiemaeaaGreat
open Go Go.Sx Go.ChangeShapes Go.WideShapes Go.ChangeAt Go.RowKit
attribute [local simp] Go.Sx.vcsE1 Go.Sx.vcsE2 Go.Sx.vcsE3 Go.Sx.vcsE4 Go.Sx.vcsE5 Go.Sx.vcsE6 Go.Sx.vcsE7 Go.Sx.vcsE8 Go.Sx.vcsE9 Go.Sx.vcsE10 Go.Sx.vcsE11 Go.Sx.vcsE12 Go.Sx.vcsE13 Go.Sx.vcsE14 Go.Sx.vcsE15 Go.Sx.vcsE16 Go.Sx.vcsE17 Go.Sx.vcsE18 Go.Sx.vcsE19 Go.Sx.get Go.Sx.look Go.Sx.put Go.Sx.pureFn Go.Sx.findOrd Go.Sx.unF Go.Sx.dstOk Go.Sx.isFloatT Go.Sx.endVC Go.Sx.resFn Go.Sx.packC Go.Sx.newFn Go.Sx.storeFn Go.Sx.buildFn Go.Sx.known Go.Sx.aggT Go.Sx.cellsC Go.Sx.findCon Go.Sx.allV Go.Sx.partsV Go.Sx.partsC Go.Sx.fillL Go.Sx.exitTo Go.Sx.fAr Go.Sx.eqFn Go.Sx.eqFieldsFn Go.Sx.eqElemsFn Go.Sx.partFn Go.Sx.sliceFn Go.Sx.boundFn Go.Sx.AppV Go.Sx.CopyV Go.Sx.MakeSliceV Go.Sx.NewsV Go.Sx.GrowV Go.Sx.TextV Go.Sx.bytesL Go.Sx.notInt Go.Sx.typeAt Go.Sx.argAt Go.Sx.den Go.undef Go.Value.cells Go.Value.oneCell' Go.Sx.Con.pure Go.Sx.Con.some Go.Sx.Con.read Go.Sx.Con.make Go.Sx.Con.ext Go.Sx.Con.rel Go.Sx.Con.extS Go.Sx.Con.draw Go.Sx.Con.step Go.Sx.C.one Go.Sx.Draws.steps

theorem eqMachFaultC_c (a b : Int) (w : World) : Calls Tryz.prog 26 #[.agg #[.int .i64 a, .int .i64 b], .agg #[.int .i64 a, .int .i64 b]] w fun e w' => e = .returned (.bool true) ∧ RowKit.Below w.heap.size w w' := by
  refine (plain_of_vcs ⟨[], []⟩ hmx Tryz.func26 rfl (by kernel_rfl) (args := [.agg #[.int .i64 a, .int .i64 b], .agg #[.int .i64 a, .int .i64 b]]) (by simp [Tryz.ntmps26]) w (· = .bool true) 400 ?_).mono fun e w' ⟨v, h1, h2, h3⟩ => ⟨h2 ▸ h1, h3⟩
  simp (maxSteps := 4000000) -dsimp [-List.all_eq_true, -Array.all_eq_true, -Bool.exists_bool, -Bool.forall_bool, and_assoc, List.zipIdx, Tryz.f26]
def eqMachFaultC : Con Tryz.prog := Con.pure 26 Tryz.call26 (fun (i : ((Int) × (Int))) => match i with | (a, b) => [.agg #[.int .i64 a, .int .i64 b], .agg #[.int .i64 a, .int .i64 b]]) (fun (i : ((Int) × (Int))) => match i with | (a, b) => True) (fun (i : ((Int) × (Int))) => match i with | (a, b) => .bool true) fun i w _ => eqMachFaultC_c i.1 i.2 w
theorem lawMWatchC_c (o : Option Addr) (cap : Nat) (xs : List Ins) (m : M) (x t : Int) (f : Arr 4 Nat) (w : World) (hpre : RdN (factF ⟨w, [], w, []⟩) o xs ∧ MOk m ∧ SmpOk ⟨x, t, f⟩ ∧ xs.length ≤ 9223372036854775807) : Calls Tryz.prog 5 #[.slice o xs.length cap, .agg (cells m), .agg (sampleL x t f).toArray] w fun e w' => e = .returned (.bool true) ∧ RowKit.Below w.heap.size w w' := by
  refine (plain_of_vcs ⟨[szInstSC, toInstSC, toMemC, toSampleC, sWatchC, iWatchC, eqMemC, eqMachFaultC, eqInstSC], [(5, [(0, false), (2, false), (4, false), (1, false), (2, true), (4, true), (3, false), (5, false), (6, false), (7, false), (8, false), (9, false), (10, false), (11, false), (12, false), (13, false)])]⟩ hmx Tryz.func5 rfl (by kernel_rfl) (args := [.slice o xs.length cap, .agg (cells m), .agg (sampleL x t f).toArray]) (by simp [Tryz.ntmps5]) w (· = .bool true) 400 ?_).mono fun e w' ⟨v, h1, h2, h3⟩ => ⟨h2 ▸ h1, h3⟩
  obtain ⟨h, hm, hsm, hl⟩ := hpre
  have z1 := fun d mem K => szInstSC_rw (cap := cap) (d := d) (cx := ⟨w, [], w, []⟩) (mem := mem) (K := K) (left := 1048576) ⟨h.mono (sub_now _ _), by decide, by decide, hl⟩
  by_cases hs : 0 ≤ szS xs 1048576
  · obtain ⟨hx1, hx2⟩ := szS_ok (by decide) hs
    have hs1 : ¬ szS xs 1048576 < 0 := by omega
    simp (maxSteps := 4000000) -dsimp [-List.all_eq_true, -Array.all_eq_true, -Bool.exists_bool, -Bool.forall_bool, and_assoc, List.zipIdx, Tryz.f5, szInstSC, toInstSC, toMemC, toSampleC, sWatchC, iWatchC, eqMemC, eqMachFaultC, eqInstSC, -Sx.splice_two, z1, hs1, sm_len, sm_take, sm_one, sm_spl, sm_inj, allV_map]
    intro b b1
    refine ⟨(o, cap, xs), rfl, ⟨h.mono (sub_now _ _), hx1, hx2⟩, ?_⟩
    rintro cx1 v hle1 hv
    obtain ⟨o1, cap1, rfl, a1, _, _⟩ := hv.ex
    simp (maxSteps := 4000000) -dsimp [-List.all_eq_true, -Array.all_eq_true, -Bool.exists_bool, -Bool.forall_bool, and_assoc, List.zipIdx, Tryz.f5, szInstSC, toInstSC, toMemC, toSampleC, sWatchC, iWatchC, eqMemC, eqMachFaultC, eqInstSC, -Sx.splice_two, spl2w, sm_len, sm_take, sm_one, sm_spl, sm_inj, allV_map]
    refine ⟨(o1, cap1, xs, m, ⟨x, t, f⟩), rfl, ⟨a1.mono ((sub_new _).trans (sub_now _ _)), hm, hsm, hx1, hx2⟩, fun v hv => ?_⟩
    obtain ⟨m1, rfl, s1, k1⟩ := hv.ex
    simp (maxSteps := 4000000) -dsimp [-List.all_eq_true, -Array.all_eq_true, -Bool.exists_bool, -Bool.forall_bool, and_assoc, List.zipIdx, Tryz.f5, szInstSC, toInstSC, toMemC, toSampleC, sWatchC, iWatchC, eqMemC, eqMachFaultC, eqInstSC, -Sx.splice_two, spl2w, sm_len, sm_take, sm_one, sm_spl, sm_inj, allV_map]
    intro b2 b3
    refine ⟨(o, cap, xs), rfl, ⟨h.mono (hle1.fact.trans (sub_now _ _)), hx1, hx2⟩, ?_⟩
    rintro cx2 v hle2 hv
    obtain ⟨o2, cap2, rfl, a2, _, _⟩ := hv.ex
    simp (maxSteps := 4000000) -dsimp [-List.all_eq_true, -Array.all_eq_true, -Bool.exists_bool, -Bool.forall_bool, and_assoc, List.zipIdx, Tryz.f5, szInstSC, toInstSC, toMemC, toSampleC, sWatchC, iWatchC, eqMemC, eqMachFaultC, eqInstSC, -Sx.splice_two, spl2w, sm_len, sm_take, sm_one, sm_spl, sm_inj, allV_map]
    refine ⟨(o2, cap2, xs, m, ⟨x, t, f⟩), rfl, ⟨a2.mono ((sub_new _).trans (sub_now _ _)), hm, hsm, hx1, hx2⟩, fun v hv => ?_⟩
    obtain ⟨m2, rfl, s2, k2⟩ := hv.ex
    simp (maxSteps := 4000000) -dsimp [-List.all_eq_true, -Array.all_eq_true, -Bool.exists_bool, -Bool.forall_bool, and_assoc, List.zipIdx, Tryz.f5, szInstSC, toInstSC, toMemC, toSampleC, sWatchC, iWatchC, eqMemC, eqMachFaultC, eqInstSC, -Sx.splice_two, spl2w, sm_len, sm_take, sm_one, sm_spl, sm_inj, allV_map, s2.trans s1.symm, k2]
    intro b4 b5
    have l2 := hle1.trans hle2
    refine ⟨(o, cap, xs), rfl, ⟨h.mono (l2.fact.trans (sub_now _ _)), hx1, hx2⟩, ?_⟩
    rintro cx3 v hle3 hv
    obtain ⟨o3, cap3, rfl, a3, _, _⟩ := hv.ex
    simp (maxSteps := 4000000) -dsimp [-List.all_eq_true, -Array.all_eq_true, -Bool.exists_bool, -Bool.forall_bool, and_assoc, List.zipIdx, Tryz.f5, szInstSC, toInstSC, toMemC, toSampleC, sWatchC, iWatchC, eqMemC, eqMachFaultC, eqInstSC]
    refine (eqInstSC_rw ⟨a2.mono ((sub_new _).trans (hle3.fact.trans (sub_now _ _))), a3.mono ((sub_new _).trans (sub_now _ _)), hx1, hx2⟩).mpr ?_
    have hw := (l2.trans hle3).w0
    have hg := (l2.trans hle3).g0
    simp (maxSteps := 4000000) -dsimp [-List.all_eq_true, -Array.all_eq_true, -Bool.exists_bool, -Bool.forall_bool, and_assoc, List.zipIdx, Tryz.f5, szInstSC, toInstSC, toMemC, toSampleC, sWatchC, iWatchC, eqMemC, eqMachFaultC, eqInstSC, hw, hg]
  · have hs1 : szS xs 1048576 < 0 := by omega
    simp (maxSteps := 4000000) -dsimp [-List.all_eq_true, -Array.all_eq_true, -Bool.exists_bool, -Bool.forall_bool, and_assoc, List.zipIdx, Tryz.f5, szInstSC, toInstSC, toMemC, toSampleC, sWatchC, iWatchC, eqMemC, eqMachFaultC, eqInstSC, z1, hs1]
def lawMWatchC_S : Reads Tryz.prog 5 where
  ι := ((Option Addr) × (Nat) × (List Ins) × (M) × (Int) × (Int) × (Arr 4 Nat))
  A := fun (i : ((Option Addr) × (Nat) × (List Ins) × (M) × (Int) × (Int) × (Arr 4 Nat))) => match i with | (o, cap, xs, m, x, t, f) => [.slice o xs.length cap, .agg (cells m), .agg (sampleL x t f).toArray]
  pre := fun (i : ((Option Addr) × (Nat) × (List Ins) × (M) × (Int) × (Int) × (Arr 4 Nat))) (F : Facts) => match i with | (o, cap, xs, m, x, t, f) => RdN F o xs ∧ MOk m ∧ SmpOk ⟨x, t, f⟩ ∧ xs.length ≤ 9223372036854775807
  res := fun (i : ((Option Addr) × (Nat) × (List Ins) × (M) × (Int) × (Int) × (Arr 4 Nat))) => match i with | (o, cap, xs, m, x, t, f) => .bool true
  mono := by
    intro i F G hs h
    first | exact h | exact h.mono hs | exact ⟨h.1.mono hs, h.2⟩ | exact ⟨h.1.mono hs, h.2.1.mono hs, h.2.2⟩ | exact ⟨h.1.mono hs, h.2.1.mono hs⟩
  uniq := by
    rintro ⟨o, cap, xs, m, x, t, f⟩ ⟨o', cap', xs', m', x', t', f'⟩ F hA h h'
    simp at hA
    (try simp only [Int.natCast_inj] at hA)
    obtain rfl : xs = xs' := RdN.uniq h.1 h'.1 (by simp_all) (by simp_all)
    simp_all
  enter := Tryz.call5
  h := fun i w hp => lawMWatchC_c i.1 i.2.1 i.2.2.1 i.2.2.2.1 i.2.2.2.2.1 i.2.2.2.2.2.1 i.2.2.2.2.2.2 w (by rw [factF_init]; exact hp)
def lawMWatchC : Con Tryz.prog := Con.read lawMWatchC_S
theorem lawMWatchC_rw {o : Option Addr} {cap : Nat} {xs : List Ins} {m : M} {x t : Int} {f : Arr 4 Nat} {d : Nat} {cx : Cx} {mem : List Blk} {K : C → Prop} (hpre : RdN (nowF cx mem) o xs ∧ MOk m ∧ SmpOk ⟨x, t, f⟩ ∧ xs.length ≤ 9223372036854775807) : ReadV d lawMWatchC_S cx [.v (.slice o xs.length cap), .v (.agg (cells m)), .v (.agg (sampleL x t f).toArray)] mem K = K (.v (.bool true)) := lawMWatchC_S.eq (o, cap, xs, m, x, t, f) rfl hpre
theorem fnExactMachWatch_lifted (os : Os) (started : os.Started) (H : Type) (enc : TypeId × Value → H) :
    ReturnsInHanded {} Tryz.checked os 5 .any (Rows.fnExactMachWatchSpec.pre6 enc Tryz.prog Tryz.f5 Rows.fnExactMachWatchRow.domain false) (Rows.fnExactMachWatchSpec.post enc Tryz.prog Tryz.f5 false true false false) := by
  refine lifted_of_walk (C := Tryz.checked) (tb := 4) own started (by kernel_rfl) Tryz.func5
    (ChangeSpec.witness6 (enc := enc) (C := Tryz.checked) false ⟨#[], #[.slice none 0 0, .agg (cells zeroM), .agg (sampleL 0 0 (Arr.zero _ _)).toArray], []⟩ 12 (by kernel_rfl) (by kernel_rfl) (by kernel_rfl) (by kernel_rfl))
    laidOut (by kernel_rfl) rfl rfl (by kernel_rfl) (fun ds hd => ?_) (fun W base args hsz hval htr => ?_)
  · match ds, hd with
    | [d0, d1, d2], _ => rfl
  · obtain ⟨a0, a1, a2, rfl⟩ : ∃ a0 a1 a2, args = #[a0, a1, a2] := by
      obtain ⟨l⟩ := args
      match l, hsz with
      | [a0, a1, a2], _ => exact ⟨a0, a1, a2, rfl⟩
    obtain ⟨o, cap, xs, rfl, h_o⟩ := openList (hval 0 _ a0 rfl rfl) (htr 0 _ a0 rfl rfl)
    obtain ⟨m, rfl, h_m⟩ := openMem (hval 1 _ a1 rfl rfl)
    obtain ⟨x, t, f, rfl, h_x⟩ := openSample (hval 2 _ a2 rfl rfl)
    exact lawMWatchC_c o cap xs m x t f W (by rw [factF_init]; exact ⟨h_o.1, h_m, ⟨h_x.1, h_x.2.1, h_x.2.2⟩, by have := h_o.2.1; have := h_o.2.2; unfold maxLen at this; omega⟩)

theorem fnExactMachWatch_j0 : Rows.fnExactMachWatchRow.wf (OpenSpec.ofChange Rows.fnExactMachWatchSpec) = true := by kernel_rfl
theorem fnExactMachWatch_j3 : (Tryz.f5.params.all (Tryz.prog.readableRec ·) && namedTie Tryz.prog Rows.fnExactMachWatchRow.named Rows.fnExactMachWatchSpec.vars && (Rows.fnExactMachWatchRow.stops == []) && (Tryz.prog.stops == []) && (Rows.fnExactMachWatchRow.knobs == []) && (Tryz.prog.stopKnobs == [])) = true := by kernel_rfl
theorem fnExactMachWatch_j9 : (Rows.fnExactMachWatchRow.inPlace == Tryz.prog.inPlace 5) = true := by kernel_rfl
theorem fnExactMachWatch_j10 : (Rows.fnExactMachWatchRow.unfollowed == Tryz.prog.unfollowed 5) = true := by kernel_rfl
theorem fnExactMachWatch_j11 : (Rows.fnExactMachWatchRow.recurses == Tryz.prog.recurses 5) = true := by kernel_rfl
theorem fnExactMachWatch_j12 : (Rows.fnExactMachWatchRow.named == Tryz.prog.varsNamed 5) = true := by kernel_rfl
theorem fnExactMachWatch_closed : joinedFacts Tryz.prog 5 Tryz.f5 Rows.fnExactMachWatchSpec Rows.fnExactMachWatchRow = true :=
  joined_of fnExactMachWatch_j0 fxLaid fxMaps fnExactMachWatch_j3 fnExactMachWatch_j9 fnExactMachWatch_j10 fnExactMachWatch_j11 fnExactMachWatch_j12 (by kernel_rfl) (Eq.trans (by kernel_rfl) fxKeys) (by kernel_rfl) fxHeard fxEnter (Eq.trans (by rfl) fxLifts) (Eq.trans (by rfl) fxMake) (by kernel_rfl)
theorem fnExactMachWatch_holds : Rows.FnExactMachWatchSaid :=
  OpenClaim.holds_of_wide 5 Tryz.f5 rfl rfl rfl rfl rfl rfl rfl ⟨rfl, rfl, rfl, rfl, rfl⟩ rfl rfl rfl rfl rfl (by kernel_rfl) Tryz.func5 fnExactMachWatch_closed
    (of_decide_eq_true (by kernel_rfl)) (by unfold Func.isWrapper; first | (rw [if_pos (by decide +kernel)]; kernel_rfl) | (rw [if_neg (by decide +kernel)]; exact ⟨rfl, rfl⟩))
    (fun os started H enc _ => fnExactMachWatch_lifted os started H enc)
end Go.Proofs.YtfhnbdlkiemaeaaGreat
