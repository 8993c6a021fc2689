/-
  The laws of edges, walked.
-/
import Derived.Test.YteigfllcmdkboaaT
import Derived.Test.YteigfllcmdkboaaY
set_option linter.unusedVariables false
set_option linter.unusedSimpArgs false
set_option maxRecDepth 100000
set_option maxHeartbeats 4000000
namespace Go.Proofs.Yteigfllcmdkboaa
open Go Go.Sx

theorem lawActEdgeC_c (o : Option Addr) (cap : Nat) (bs : List Int) (w : World) (hpre : RdB (factF ⟨w, [], w, []⟩) o bs ∧ bs.length ≤ 9223372036854775807 ∧ (∀ b ∈ bs, 0 ≤ b ∧ b < 256)) : Calls Try.prog 3 #[.slice o bs.length cap] w fun e w' => e = .returned (.bool true) ∧ RowKit.Below w.heap.size w w' := by
  refine (plain_of_vcs ⟨[memPutC, actTestC], []⟩ hmx Try.func3 rfl (by kernel_rfl) (args := [.slice o bs.length cap]) (by simp [Try.ntmps3]) w (· = .bool true) 400 ?_).mono fun e w' ⟨v, h1, h2, h3⟩ => ⟨h2 ▸ h1, h3⟩
  obtain ⟨h, hl, hb⟩ := hpre
  by_cases hs : bs.length ≤ 1048576
  · have hs1 : ¬ (1048576 : Int) < bs.length := by omega
    simp (maxSteps := 4000000) -dsimp [-List.all_eq_true, -Array.all_eq_true, -Bool.exists_bool, -Bool.forall_bool, vcs, Sx.get, Sx.look, Sx.put, pureFn, findOrd, binF, unF, dstOk, isFloatT, endVC, resFn, packC, newFn, storeFn, buildFn, undef, known, aggT, cellsC, Value.cells, findCon, Con.pure, Con.some, allV, partsV, partsC, fillL, Sx.exitTo, fAr, C.one, Value.oneCell', aggEqFn, eqFn, eqFieldsFn, eqElemsFn, partFn, and_assoc, List.zipIdx, sliceFn, boundFn, AppV, CopyV, MakeSliceV, NewsV, GrowV, TextV, bytesL, notInt, typeAt, argAt, Con.read, Con.make, Con.ext, Con.rel, den, Try.f3, memPutC, actTestC, hs1]
    intro b3 cx1 p1 hle1 hl1 b4 cx2 p2 hle2 hl2 b5 b6
    have g1 : RdD (factF cx2) p1 [edgeX, edgeU] := ((hl1.devs [edgeX, edgeU] rfl).mono (sub_new cx1)).mono hle2.fact
    have g2 : RdD (factF cx2) p2 [edgeX, edgeD] := (hl2.devs [edgeX, edgeD] rfl).mono (sub_new cx2)
    have g0 : RdB (factF cx2) o bs := h.mono (hle1.fact.trans hle2.fact)
    have hw := (hle1.trans hle2).w0
    have hg := (hle1.trans hle2).g0
    clear hl1 hl2 hle1 hle2 h
    have t1 := fun (d : Nat) (m : M) (mem : List Blk) (K : C → Prop) (hm : MOk m) => actTestC_rw (d := d) (cx := cx2) (mem := mem) (K := K) (m := m) (op := 3) (o := p1) (cap := 2) (xs := [edgeX, edgeU]) ⟨g1.mono (sub_now _ _), hm⟩
    have t2 := fun (d : Nat) (m : M) (mem : List Blk) (K : C → Prop) (hm : MOk m) => actTestC_rw (d := d) (cx := cx2) (mem := mem) (K := K) (m := m) (op := 4) (o := p2) (cap := 2) (xs := [edgeX, edgeD]) ⟨g2.mono (sub_now _ _), hm⟩
    have a0 : argD [edgeX, edgeU] 0 = edgeX := rfl
    have a1 : argD [edgeX, edgeU] 1 = edgeU := rfl
    have a2 : argD [edgeX, edgeD] 0 = edgeX := rfl
    have a3 : argD [edgeX, edgeD] 1 = edgeD := rfl
    simp only [a0, a1, List.length_cons, List.length_nil, Nat.reduceAdd] at t1
    simp only [a2, a3, List.length_cons, List.length_nil, Nat.reduceAdd] at t2
    refine loop_inv (σ := ⟨[memPutC, actTestC], []⟩) hmx (by kernel_rfl) (fun q cx tm mem => cx = cx2 ∧ ∃ (i : Nat) (m : M) (was : Bool), i ≤ bs.length ∧ q = bs.length - i ∧ EdgeI m was ∧ mem = [⟨b3, [.v (.int .i64 3), .v (.int .i64 7), .v (.int .i64 0)], 24⟩, ⟨b4, [.v (.int .i64 3), .v (.slice p1 2 2)], 27⟩, ⟨b5, [.v (.int .i64 4), .v (.slice p2 2 2)], 27⟩, ⟨b6, cellC m, 42⟩] ∧
        Sx.look tm 8 = .v (.int .i64 i) ∧ Sx.look tm 7 = .v (.bool was) ∧ Sx.look tm 0 = .v (.slice o bs.length cap) ∧ Sx.look tm 3 = .p 0 b3 0 ∧ Sx.look tm 4 = .p 1 b4 0 ∧ Sx.look tm 5 = .p 2 b5 0 ∧ Sx.look tm 6 = .p 3 b6 0)
      bs.length ⟨rfl, 0, zeroM, false, by omega, rfl, edge_zero, rfl, by simp [Sx.look], by simp [Sx.look], by simp [Sx.look], by simp [Sx.look], by simp [Sx.look], by simp [Sx.look], by simp [Sx.look]⟩ ?_
    rintro q cx tm mem ⟨rfl, i, m, was, hi, rfl, hI, rfl, h8, h7, h0, h3, h4, h5, h6⟩
    refine ⟨400, ?_⟩
    by_cases hlt : i < bs.length ∧ i < 2000
    · obtain ⟨x, hx⟩ : ∃ x, bs[i]? = some x := ⟨bs[i], by simp [hlt.1]⟩
      have hxb := hb x (List.mem_of_getElem? hx)
      have hth := g0.there hlt.1
      have hm1 := hI.ok
      have hm2 := fun b => memPut_ok (k := 3) (n := 7) (b := b) hI.ok
      have hlt1 := hlt.1
      have hlt2 : (i : Int) < 2000 := by omega
      simp (maxSteps := 4000000) -dsimp [-List.all_eq_true, -Array.all_eq_true, -Bool.exists_bool, -Bool.forall_bool, vcs, Sx.get, Sx.look, Sx.put, pureFn, findOrd, binF, unF, dstOk, isFloatT, endVC, resFn, packC, newFn, storeFn, buildFn, undef, known, aggT, cellsC, Value.cells, findCon, Con.pure, Con.some, allV, partsV, partsC, fillL, Sx.exitTo, fAr, C.one, Value.oneCell', aggEqFn, eqFn, eqFieldsFn, eqElemsFn, partFn, and_assoc, List.zipIdx, sliceFn, boundFn, AppV, CopyV, MakeSliceV, NewsV, GrowV, TextV, bytesL, notInt, typeAt, argAt, Con.read, Con.make, Con.ext, Con.rel, den, Try.f3, memPutC, actTestC, h8, h7, h0, h3, h4, h5, h6, hlt1, hlt2, i_succ (i := i) (by omega), hth, g0.ld _ hx, hm1, hm2]
      have he := fun now => edge_step (now := now) hI
      refine (t1 _ _ _ _ (hm2 _)).mpr ?_
      generalize (x.tmod 2 == 1) = now
      simp (maxSteps := 4000000) -dsimp [-List.all_eq_true, -Array.all_eq_true, -Bool.exists_bool, -Bool.forall_bool, vcs, Sx.get, Sx.look, Sx.put, pureFn, findOrd, binF, unF, dstOk, isFloatT, endVC, resFn, packC, newFn, storeFn, buildFn, undef, known, aggT, cellsC, Value.cells, findCon, Con.pure, Con.some, allV, partsV, partsC, fillL, Sx.exitTo, fAr, C.one, Value.oneCell', aggEqFn, eqFn, eqFieldsFn, eqElemsFn, partFn, and_assoc, List.zipIdx, sliceFn, boundFn, AppV, CopyV, MakeSliceV, NewsV, GrowV, TextV, bytesL, notInt, typeAt, argAt, Con.read, Con.make, Con.ext, Con.rel, den, Try.f3, memPutC, actTestC, h8, h7, h0, h3, h4, h5, h6, (he _).1]
      intro b7
      refine (t2 _ _ _ _ (testM_ok (hm2 _))).mpr ?_
      simp (maxSteps := 4000000) -dsimp [-List.all_eq_true, -Array.all_eq_true, -Bool.exists_bool, -Bool.forall_bool, vcs, Sx.get, Sx.look, Sx.put, pureFn, findOrd, binF, unF, dstOk, isFloatT, endVC, resFn, packC, newFn, storeFn, buildFn, undef, known, aggT, cellsC, Value.cells, findCon, Con.pure, Con.some, allV, partsV, partsC, fillL, Sx.exitTo, fAr, C.one, Value.oneCell', aggEqFn, eqFn, eqFieldsFn, eqElemsFn, partFn, and_assoc, List.zipIdx, sliceFn, boundFn, AppV, CopyV, MakeSliceV, NewsV, GrowV, TextV, bytesL, notInt, typeAt, argAt, Con.read, Con.make, Con.ext, Con.rel, den, Try.f3, memPutC, actTestC, h8, h7, h0, h3, h4, h5, h6, (he _).1, (he _).2.1, i_succ (i := i) (by omega)]
      intro b8
      have hI' := (he now).2.2
      cases now <;> cases was <;> simp
      all_goals exact ⟨4, bs.length - (i + 1), by omega, i + 1, by omega, rfl, _, hI', rfl, by omega⟩
    · have hx : i = bs.length ∨ 2000 ≤ i := by omega
      rcases hx with rfl | hx
      · simp (maxSteps := 4000000) -dsimp [-List.all_eq_true, -Array.all_eq_true, -Bool.exists_bool, -Bool.forall_bool, vcs, Sx.get, Sx.look, Sx.put, pureFn, findOrd, binF, unF, dstOk, isFloatT, endVC, resFn, packC, newFn, storeFn, buildFn, undef, known, aggT, cellsC, Value.cells, findCon, Con.pure, Con.some, allV, partsV, partsC, fillL, Sx.exitTo, fAr, C.one, Value.oneCell', aggEqFn, eqFn, eqFieldsFn, eqElemsFn, partFn, and_assoc, List.zipIdx, sliceFn, boundFn, AppV, CopyV, MakeSliceV, NewsV, GrowV, TextV, bytesL, notInt, typeAt, argAt, Con.read, Con.make, Con.ext, Con.rel, den, Try.f3, memPutC, actTestC, h8, h7, h0, h3, h4, h5, h6, hw, hg]
      · have h2 : ¬ (i : Int) < 2000 := by omega
        simp (maxSteps := 4000000) -dsimp [-List.all_eq_true, -Array.all_eq_true, -Bool.exists_bool, -Bool.forall_bool, vcs, Sx.get, Sx.look, Sx.put, pureFn, findOrd, binF, unF, dstOk, isFloatT, endVC, resFn, packC, newFn, storeFn, buildFn, undef, known, aggT, cellsC, Value.cells, findCon, Con.pure, Con.some, allV, partsV, partsC, fillL, Sx.exitTo, fAr, C.one, Value.oneCell', aggEqFn, eqFn, eqFieldsFn, eqElemsFn, partFn, and_assoc, List.zipIdx, sliceFn, boundFn, AppV, CopyV, MakeSliceV, NewsV, GrowV, TextV, bytesL, notInt, typeAt, argAt, Con.read, Con.make, Con.ext, Con.rel, den, Try.f3, memPutC, actTestC, h8, h7, h0, h3, h4, h5, h6, hw, hg, h2]
  · have hs1 : (1048576 : Int) < bs.length := by omega
    simp (maxSteps := 4000000) -dsimp [-List.all_eq_true, -Array.all_eq_true, -Bool.exists_bool, -Bool.forall_bool, vcs, Sx.get, Sx.look, Sx.put, pureFn, findOrd, binF, unF, dstOk, isFloatT, endVC, resFn, packC, newFn, storeFn, buildFn, undef, known, aggT, cellsC, Value.cells, findCon, Con.pure, Con.some, allV, partsV, partsC, fillL, Sx.exitTo, fAr, C.one, Value.oneCell', aggEqFn, eqFn, eqFieldsFn, eqElemsFn, partFn, and_assoc, List.zipIdx, sliceFn, boundFn, AppV, CopyV, MakeSliceV, NewsV, GrowV, TextV, bytesL, notInt, typeAt, argAt, Con.read, Con.make, Con.ext, Con.rel, den, Try.f3, memPutC, actTestC, hs1]
def lawActEdgeC_S : Reads Try.prog 3 where
  ι := (Option Addr) × (Nat) × (List Int)
  A := fun (i : (Option Addr) × (Nat) × (List Int)) => match i with | (o, cap, bs) => [.slice o bs.length cap]
  pre := fun (i : (Option Addr) × (Nat) × (List Int)) (F : Facts) => match i with | (o, cap, bs) => RdB F o bs ∧ bs.length ≤ 9223372036854775807 ∧ (∀ b ∈ bs, 0 ≤ b ∧ b < 256)
  res := fun (i : (Option Addr) × (Nat) × (List Int)) => match i with | (o, cap, bs) => .bool true
  mono := by
    intro i F G hs h
    first | exact h.mono hs | exact ⟨h.1.mono hs, h.2⟩ | exact ⟨h.1.mono hs, h.2.1.mono hs, h.2.2⟩ | exact ⟨h.1.mono hs, h.2.1.mono hs⟩
  uniq := by
    rintro ⟨o, cap, bs⟩ ⟨o', cap', bs'⟩ F hA h h'
    simp at hA
    (try simp only [Int.natCast_inj] at hA)
    obtain rfl : bs = bs' := RdB.uniq h.1 h'.1 (by simp_all) (by simp_all)
    simp_all
  enter := Try.call3
  h := fun i w hp => lawActEdgeC_c i.1 i.2.1 i.2.2 w (by rw [factF_init]; exact hp)
def lawActEdgeC : Con Try.prog := Con.read lawActEdgeC_S
theorem lawActEdgeC_rw {o : Option Addr} {cap : Nat} {bs : List Int} {d : Nat} {cx : Cx} {mem : List Blk} {K : C → Prop} (hpre : RdB (nowF cx mem) o bs ∧ bs.length ≤ 9223372036854775807 ∧ (∀ b ∈ bs, 0 ≤ b ∧ b < 256)) : ReadV d lawActEdgeC_S cx [.v (.slice o bs.length cap)] mem K = K (.v (.bool true)) := lawActEdgeC_S.eq (o, cap, bs) rfl hpre
end Go.Proofs.Yteigfllcmdkboaa
