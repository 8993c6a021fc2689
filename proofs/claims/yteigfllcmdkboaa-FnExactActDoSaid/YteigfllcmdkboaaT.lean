/-
  Contracts: what contacts ask.
-/
import Derived.Test.YteigfllcmdkboaaJ
import Derived.Test.YteigfllcmdkboaaK
set_option linter.unusedVariables false
set_option linter.unusedSimpArgs false
set_option maxRecDepth 100000
set_option maxHeartbeats 4000000
namespace Go.Proofs.Yteigfllcmdkboaa
open Go Go.Sx

theorem argC_c (op : Int) (o : Option Addr) (cap : Nat) (xs : List Dev) (j : Int) (w : World) (hpre : RdD (factF ⟨w, [], w, []⟩) o xs ∧ 0 ≤ j) : Calls Try.prog 35 #[.agg #[.int .i64 op, .slice o xs.length cap], .int .i64 j] w fun e w' => e = .returned (.agg #[.int .i64 (argD xs j.toNat).k, .int .i64 (argD xs j.toNat).n, .int .i64 (argD xs j.toNat).p]) ∧ RowKit.Below w.heap.size w w' := by
  refine (plain_of_vcs ⟨[], []⟩ hmx Try.func35 rfl (by kernel_rfl) (args := [.agg #[.int .i64 op, .slice o xs.length cap], .int .i64 j]) (by simp [Try.ntmps35]) w (· = .agg #[.int .i64 (argD xs j.toNat).k, .int .i64 (argD xs j.toNat).n, .int .i64 (argD xs j.toNat).p]) 400 ?_).mono fun e w' ⟨v, h1, h2, h3⟩ => ⟨h2 ▸ h1, h3⟩
  obtain ⟨hpre, hj⟩ := hpre
  obtain ⟨j, rfl⟩ := Int.eq_ofNat_of_zero_le hj
  by_cases hlt : j < xs.length
  · obtain ⟨d, hd⟩ : ∃ d, xs[j]? = some d := ⟨xs[j], by simp [hlt]⟩
    have n1 : ¬ xs.length ≤ j := by omega
    have n2 := hpre.there hlt
    have n3 : j < xs.length ↔ True := by simp [hlt]
    have n4 : argD xs j = d := by simp [argD, hd]
    clear hlt
    simp (maxSteps := 4000000) -dsimp [-List.all_eq_true, -Array.all_eq_true, -Bool.exists_bool, -Bool.forall_bool, vcs, Sx.get, Sx.look, Sx.put, pureFn, findOrd, binF, unF, dstOk, isFloatT, endVC, resFn, packC, newFn, storeFn, buildFn, undef, known, aggT, cellsC, Value.cells, findCon, Con.pure, Con.some, allV, partsV, partsC, fillL, Sx.exitTo, fAr, C.one, Value.oneCell', aggEqFn, eqFn, eqFieldsFn, eqElemsFn, partFn, and_assoc, List.zipIdx, sliceFn, boundFn, AppV, CopyV, MakeSliceV, NewsV, GrowV, TextV, bytesL, notInt, typeAt, argAt, Con.read, Con.make, Con.ext, Con.rel, den, Con.extS, Try.f35, n1, n2, n3, hd, hpre.ld _ _ hd, n4]
  · have e : argD xs j = default := by simp [argD, List.getElem?_eq_none (show xs.length ≤ j by omega)]
    have n1 : xs.length ≤ j := by omega
    simp (maxSteps := 4000000) -dsimp [-List.all_eq_true, -Array.all_eq_true, -Bool.exists_bool, -Bool.forall_bool, vcs, Sx.get, Sx.look, Sx.put, pureFn, findOrd, binF, unF, dstOk, isFloatT, endVC, resFn, packC, newFn, storeFn, buildFn, undef, known, aggT, cellsC, Value.cells, findCon, Con.pure, Con.some, allV, partsV, partsC, fillL, Sx.exitTo, fAr, C.one, Value.oneCell', aggEqFn, eqFn, eqFieldsFn, eqElemsFn, partFn, and_assoc, List.zipIdx, sliceFn, boundFn, AppV, CopyV, MakeSliceV, NewsV, GrowV, TextV, bytesL, notInt, typeAt, argAt, Con.read, Con.make, Con.ext, Con.rel, den, Con.extS, Try.f35, n1, e, default, instInhabitedDev]
def argC_S : Reads Try.prog 35 where
  ι := (Int) × (Option Addr) × (Nat) × (List Dev) × (Int)
  A := fun (i : (Int) × (Option Addr) × (Nat) × (List Dev) × (Int)) => match i with | (op, o, cap, xs, j) => [.agg #[.int .i64 op, .slice o xs.length cap], .int .i64 j]
  pre := fun (i : (Int) × (Option Addr) × (Nat) × (List Dev) × (Int)) (F : Facts) => match i with | (op, o, cap, xs, j) => RdD F o xs ∧ 0 ≤ j
  res := fun (i : (Int) × (Option Addr) × (Nat) × (List Dev) × (Int)) => match i with | (op, o, cap, xs, j) => .agg #[.int .i64 (argD xs j.toNat).k, .int .i64 (argD xs j.toNat).n, .int .i64 (argD xs j.toNat).p]
  mono := by
    intro i F G hs h
    first | exact h.mono hs | exact ⟨h.1.mono hs, h.2⟩ | exact ⟨h.1.mono hs, h.2.1.mono hs, h.2.2⟩ | exact ⟨h.1.mono hs, h.2.1.mono hs⟩
  uniq := by
    rintro ⟨op, o, cap, xs, j⟩ ⟨op', o', cap', xs', j'⟩ F hA h h'
    simp at hA
    (try simp only [Int.natCast_inj] at hA)
    obtain rfl : xs = xs' := RdD.uniq h.1 h'.1 (by simp_all) (by simp_all)
    simp_all
  enter := Try.call35
  h := fun i w hp => argC_c i.1 i.2.1 i.2.2.1 i.2.2.2.1 i.2.2.2.2 w (by rw [factF_init]; exact hp)
def argC : Con Try.prog := Con.read argC_S
theorem argC_rw {op : Int} {o : Option Addr} {cap : Nat} {xs : List Dev} {j : Int} {d : Nat} {cx : Cx} {mem : List Blk} {K : C → Prop} (hpre : RdD (nowF cx mem) o xs ∧ 0 ≤ j) : ReadV d argC_S cx [.v (.agg #[.int .i64 op, .slice o xs.length cap]), .v (.int .i64 j)] mem K = K (.v (.agg #[.int .i64 (argD xs j.toNat).k, .int .i64 (argD xs j.toNat).n, .int .i64 (argD xs j.toNat).p])) := argC_S.eq (op, o, cap, xs, j) rfl hpre
theorem indexC_c (o : Option Addr) (cap : Nat) (ks : List Int) (k : Int) (w : World) (hpre : RdI (factF ⟨w, [], w, []⟩) o ks ∧ ks.length ≤ 1048576) : Calls Try.prog 129 #[.slice o ks.length cap, .int .i64 k] w fun e w' => e = .returned (.int .i64 (findI ks k 0)) ∧ RowKit.Below w.heap.size w w' := by
  refine (plain_of_vcs ⟨[], []⟩ hmx Try.func129 rfl (by kernel_rfl) (args := [.slice o ks.length cap, .int .i64 k]) (by simp [Try.ntmps129]) w (· = .int .i64 (findI ks k 0)) 400 ?_).mono fun e w' ⟨v, h1, h2, h3⟩ => ⟨h2 ▸ h1, h3⟩
  obtain ⟨h, hl⟩ := hpre
  simp (maxSteps := 4000000) -dsimp [-List.all_eq_true, -Array.all_eq_true, -Bool.exists_bool, -Bool.forall_bool, vcs, Sx.get, Sx.look, Sx.put, pureFn, findOrd, binF, unF, dstOk, isFloatT, endVC, resFn, packC, newFn, storeFn, buildFn, undef, known, aggT, cellsC, Value.cells, findCon, Con.pure, Con.some, allV, partsV, partsC, fillL, Sx.exitTo, fAr, C.one, Value.oneCell', aggEqFn, eqFn, eqFieldsFn, eqElemsFn, partFn, and_assoc, List.zipIdx, sliceFn, boundFn, AppV, CopyV, MakeSliceV, NewsV, GrowV, TextV, bytesL, notInt, typeAt, argAt, Con.read, Con.make, Con.ext, Con.rel, den, Con.extS, Try.f129]
  refine loop_inv (σ := ⟨[], []⟩) hmx (by kernel_rfl) (fun m cx tm mem => cx = ⟨w, [], w, []⟩ ∧ mem = [] ∧ ∃ i : Nat, i ≤ ks.length ∧ m = ks.length - i ∧ findI ks k 0 = findI (ks.drop i) k i ∧ Sx.look tm 8 = .v (.int .i64 i) ∧ Sx.look tm 7 = .v (.int .i64 ks.length) ∧ Sx.look tm 0 = .v (.slice o ks.length cap) ∧ Sx.look tm 1 = .v (.int .i64 k))
    ks.length ⟨rfl, rfl, 0, by omega, rfl, rfl, by simp [Sx.look], by simp [Sx.look], by simp [Sx.look], by simp [Sx.look]⟩ ?_
  rintro m cx tm mem ⟨rfl, rfl, i, hi, rfl, hf, h8, h7, h0, h1⟩
  refine ⟨200, ?_⟩
  by_cases hlt : i < ks.length
  · obtain ⟨x, hx⟩ : ∃ x, ks[i]? = some x := ⟨ks[i], by simp [hlt]⟩
    rw [findI_drop hx] at hf
    simp (maxSteps := 4000000) -dsimp [-List.all_eq_true, -Array.all_eq_true, -Bool.exists_bool, -Bool.forall_bool, vcs, Sx.get, Sx.look, Sx.put, pureFn, findOrd, binF, unF, dstOk, isFloatT, endVC, resFn, packC, newFn, storeFn, buildFn, undef, known, aggT, cellsC, Value.cells, findCon, Con.pure, Con.some, allV, partsV, partsC, fillL, Sx.exitTo, fAr, C.one, Value.oneCell', aggEqFn, eqFn, eqFieldsFn, eqElemsFn, partFn, and_assoc, List.zipIdx, sliceFn, boundFn, AppV, CopyV, MakeSliceV, NewsV, GrowV, TextV, bytesL, notInt, typeAt, argAt, Con.read, Con.make, Con.ext, Con.rel, den, Con.extS, Try.f129, h8, h7, h0, h1, hlt, i_succ (i := i) (by omega), h.there hlt, h.ld _ hx]
    refine ⟨fun e => by rw [hf, if_pos e], fun e => ⟨_, by omega, i + 1, by omega, rfl, by rw [hf, if_neg e], by omega⟩⟩
  · obtain rfl : i = ks.length := by omega
    rw [List.drop_length, findI] at hf
    simp (maxSteps := 4000000) -dsimp [-List.all_eq_true, -Array.all_eq_true, -Bool.exists_bool, -Bool.forall_bool, vcs, Sx.get, Sx.look, Sx.put, pureFn, findOrd, binF, unF, dstOk, isFloatT, endVC, resFn, packC, newFn, storeFn, buildFn, undef, known, aggT, cellsC, Value.cells, findCon, Con.pure, Con.some, allV, partsV, partsC, fillL, Sx.exitTo, fAr, C.one, Value.oneCell', aggEqFn, eqFn, eqFieldsFn, eqElemsFn, partFn, and_assoc, List.zipIdx, sliceFn, boundFn, AppV, CopyV, MakeSliceV, NewsV, GrowV, TextV, bytesL, notInt, typeAt, argAt, Con.read, Con.make, Con.ext, Con.rel, den, Con.extS, Try.f129, h8, h7, h0, h1, hf]
def indexC_S : Reads Try.prog 129 where
  ι := (Option Addr) × (Nat) × (List Int) × (Int)
  A := fun (i : (Option Addr) × (Nat) × (List Int) × (Int)) => match i with | (o, cap, ks, k) => [.slice o ks.length cap, .int .i64 k]
  pre := fun (i : (Option Addr) × (Nat) × (List Int) × (Int)) (F : Facts) => match i with | (o, cap, ks, k) => RdI F o ks ∧ ks.length ≤ 1048576
  res := fun (i : (Option Addr) × (Nat) × (List Int) × (Int)) => match i with | (o, cap, ks, k) => .int .i64 (findI ks k 0)
  mono := by
    intro i F G hs h
    first | exact h.mono hs | exact ⟨h.1.mono hs, h.2⟩ | exact ⟨h.1.mono hs, h.2.1.mono hs, h.2.2⟩ | exact ⟨h.1.mono hs, h.2.1.mono hs⟩
  uniq := by
    rintro ⟨o, cap, ks, k⟩ ⟨o', cap', ks', k'⟩ F hA h h'
    simp at hA
    (try simp only [Int.natCast_inj] at hA)
    obtain rfl : ks = ks' := RdI.uniq h.1 h'.1 (by simp_all) (by simp_all)
    simp_all
  enter := Try.call129
  h := fun i w hp => indexC_c i.1 i.2.1 i.2.2.1 i.2.2.2 w (by rw [factF_init]; exact hp)
def indexC : Con Try.prog := Con.read indexC_S
theorem indexC_rw {o : Option Addr} {cap : Nat} {ks : List Int} {k : Int} {d : Nat} {cx : Cx} {mem : List Blk} {K : C → Prop} (hpre : RdI (nowF cx mem) o ks ∧ ks.length ≤ 1048576) : ReadV d indexC_S cx [.v (.slice o ks.length cap), .v (.int .i64 k)] mem K = K (.v (.int .i64 (findI ks k 0))) := indexC_S.eq (o, cap, ks, k) rfl hpre
theorem containsC_c (o : Option Addr) (cap : Nat) (ks : List Int) (k : Int) (w : World) (hpre : RdI (factF ⟨w, [], w, []⟩) o ks ∧ ks.length ≤ 1048576) : Calls Try.prog 95 #[.slice o ks.length cap, .int .i64 k] w fun e w' => e = .returned (.bool (decide (k ∈ ks))) ∧ RowKit.Below w.heap.size w w' := by
  refine (plain_of_vcs ⟨[indexC], []⟩ hmx Try.func95 rfl (by kernel_rfl) (args := [.slice o ks.length cap, .int .i64 k]) (by simp [Try.ntmps95]) w (· = .bool (decide (k ∈ ks))) 400 ?_).mono fun e w' ⟨v, h1, h2, h3⟩ => ⟨h2 ▸ h1, h3⟩
  obtain ⟨h, hl⟩ := hpre
  have e := findI_mem ks k 0
  simp (maxSteps := 4000000) -dsimp [-List.all_eq_true, -Array.all_eq_true, -Bool.exists_bool, -Bool.forall_bool, vcs, Sx.get, Sx.look, Sx.put, pureFn, findOrd, binF, unF, dstOk, isFloatT, endVC, resFn, packC, newFn, storeFn, buildFn, undef, known, aggT, cellsC, Value.cells, findCon, Con.pure, Con.some, allV, partsV, partsC, fillL, Sx.exitTo, fAr, C.one, Value.oneCell', aggEqFn, eqFn, eqFieldsFn, eqElemsFn, partFn, and_assoc, List.zipIdx, sliceFn, boundFn, AppV, CopyV, MakeSliceV, NewsV, GrowV, TextV, bytesL, notInt, typeAt, argAt, Con.read, Con.make, Con.ext, Con.rel, den, Con.extS, Try.f95, indexC, indexC_rw ⟨h.mono (sub_now _ _), hl⟩, e]
def containsC_S : Reads Try.prog 95 where
  ι := (Option Addr) × (Nat) × (List Int) × (Int)
  A := fun (i : (Option Addr) × (Nat) × (List Int) × (Int)) => match i with | (o, cap, ks, k) => [.slice o ks.length cap, .int .i64 k]
  pre := fun (i : (Option Addr) × (Nat) × (List Int) × (Int)) (F : Facts) => match i with | (o, cap, ks, k) => RdI F o ks ∧ ks.length ≤ 1048576
  res := fun (i : (Option Addr) × (Nat) × (List Int) × (Int)) => match i with | (o, cap, ks, k) => .bool (decide (k ∈ ks))
  mono := by
    intro i F G hs h
    first | exact h.mono hs | exact ⟨h.1.mono hs, h.2⟩ | exact ⟨h.1.mono hs, h.2.1.mono hs, h.2.2⟩ | exact ⟨h.1.mono hs, h.2.1.mono hs⟩
  uniq := by
    rintro ⟨o, cap, ks, k⟩ ⟨o', cap', ks', k'⟩ F hA h h'
    simp at hA
    (try simp only [Int.natCast_inj] at hA)
    obtain rfl : ks = ks' := RdI.uniq h.1 h'.1 (by simp_all) (by simp_all)
    simp_all
  enter := Try.call95
  h := fun i w hp => containsC_c i.1 i.2.1 i.2.2.1 i.2.2.2 w (by rw [factF_init]; exact hp)
def containsC : Con Try.prog := Con.read containsC_S
theorem containsC_rw {o : Option Addr} {cap : Nat} {ks : List Int} {k : Int} {d : Nat} {cx : Cx} {mem : List Blk} {K : C → Prop} (hpre : RdI (nowF cx mem) o ks ∧ ks.length ≤ 1048576) : ReadV d containsC_S cx [.v (.slice o ks.length cap), .v (.int .i64 k)] mem K = K (.v (.bool (decide (k ∈ ks)))) := containsC_S.eq (o, cap, ks, k) rfl hpre
theorem isKindC_c (k n p : Int) (o : Option Addr) (cap : Nat) (ks : List Int) (w : World) (hpre : RdI (factF ⟨w, [], w, []⟩) o ks ∧ ks.length ≤ 1048576) : Calls Try.prog 39 #[.agg #[.int .i64 k, .int .i64 n, .int .i64 p], .slice o ks.length cap] w fun e w' => e = .returned (.bool (decide (k ∈ ks))) ∧ RowKit.Below w.heap.size w w' := by
  refine (plain_of_vcs ⟨[containsC], []⟩ hmx Try.func39 rfl (by kernel_rfl) (args := [.agg #[.int .i64 k, .int .i64 n, .int .i64 p], .slice o ks.length cap]) (by simp [Try.ntmps39]) w (· = .bool (decide (k ∈ ks))) 400 ?_).mono fun e w' ⟨v, h1, h2, h3⟩ => ⟨h2 ▸ h1, h3⟩
  obtain ⟨h, hl⟩ := hpre
  simp (maxSteps := 4000000) -dsimp [-List.all_eq_true, -Array.all_eq_true, -Bool.exists_bool, -Bool.forall_bool, vcs, Sx.get, Sx.look, Sx.put, pureFn, findOrd, binF, unF, dstOk, isFloatT, endVC, resFn, packC, newFn, storeFn, buildFn, undef, known, aggT, cellsC, Value.cells, findCon, Con.pure, Con.some, allV, partsV, partsC, fillL, Sx.exitTo, fAr, C.one, Value.oneCell', aggEqFn, eqFn, eqFieldsFn, eqElemsFn, partFn, and_assoc, List.zipIdx, sliceFn, boundFn, AppV, CopyV, MakeSliceV, NewsV, GrowV, TextV, bytesL, notInt, typeAt, argAt, Con.read, Con.make, Con.ext, Con.rel, den, Con.extS, Try.f39, containsC, containsC_rw ⟨h.mono (sub_now _ _), hl⟩]
def isKindC_S : Reads Try.prog 39 where
  ι := (Int) × (Int) × (Int) × (Option Addr) × (Nat) × (List Int)
  A := fun (i : (Int) × (Int) × (Int) × (Option Addr) × (Nat) × (List Int)) => match i with | (k, n, p, o, cap, ks) => [.agg #[.int .i64 k, .int .i64 n, .int .i64 p], .slice o ks.length cap]
  pre := fun (i : (Int) × (Int) × (Int) × (Option Addr) × (Nat) × (List Int)) (F : Facts) => match i with | (k, n, p, o, cap, ks) => RdI F o ks ∧ ks.length ≤ 1048576
  res := fun (i : (Int) × (Int) × (Int) × (Option Addr) × (Nat) × (List Int)) => match i with | (k, n, p, o, cap, ks) => .bool (decide (k ∈ ks))
  mono := by
    intro i F G hs h
    first | exact h.mono hs | exact ⟨h.1.mono hs, h.2⟩ | exact ⟨h.1.mono hs, h.2.1.mono hs, h.2.2⟩ | exact ⟨h.1.mono hs, h.2.1.mono hs⟩
  uniq := by
    rintro ⟨k, n, p, o, cap, ks⟩ ⟨k', n', p', o', cap', ks'⟩ F hA h h'
    simp at hA
    (try simp only [Int.natCast_inj] at hA)
    obtain rfl : ks = ks' := RdI.uniq h.1 h'.1 (by simp_all) (by simp_all)
    simp_all
  enter := Try.call39
  h := fun i w hp => isKindC_c i.1 i.2.1 i.2.2.1 i.2.2.2.1 i.2.2.2.2.1 i.2.2.2.2.2 w (by rw [factF_init]; exact hp)
def isKindC : Con Try.prog := Con.read isKindC_S
theorem isKindC_rw {k n p : Int} {o : Option Addr} {cap : Nat} {ks : List Int} {d : Nat} {cx : Cx} {mem : List Blk} {K : C → Prop} (hpre : RdI (nowF cx mem) o ks ∧ ks.length ≤ 1048576) : ReadV d isKindC_S cx [.v (.agg #[.int .i64 k, .int .i64 n, .int .i64 p]), .v (.slice o ks.length cap)] mem K = K (.v (.bool (decide (k ∈ ks)))) := isKindC_S.eq (k, n, p, o, cap, ks) rfl hpre
theorem actTestC_c (m : M) (op : Int) (o : Option Addr) (cap : Nat) (xs : List Dev) (w : World) (hpre : RdD (factF ⟨w, [], w, []⟩) o xs ∧ MOk m) : Calls Try.prog 12 #[.agg (cells m), .agg #[.int .i64 op, .slice o xs.length cap]] w fun e w' => e = .returned (.tuple #[.agg (cells (testM m op (argD xs 0) (argD xs 1))), .bool (testB m op (argD xs 0) (argD xs 1))]) ∧ RowKit.Below w.heap.size w w' := by
  refine (plain_of_vcs ⟨[argC, memBitC, wasC, keepC, withinC, isKindC, memRealC, realCmpC, memWholeC, wholeCmpC], []⟩ hmx Try.func12 rfl (by kernel_rfl) (args := [.agg (cells m), .agg #[.int .i64 op, .slice o xs.length cap]]) (by simp [Try.ntmps12]) w (· = .tuple #[.agg (cells (testM m op (argD xs 0) (argD xs 1))), .bool (testB m op (argD xs 0) (argD xs 1))]) 400 ?_).mono fun e w' ⟨v, h1, h2, h3⟩ => ⟨h2 ▸ h1, h3⟩
  obtain ⟨h, hm⟩ := hpre
  have a0 := fun d mem K => argC_rw (op := op) (cap := cap) (d := d) (cx := ⟨w, [], w, []⟩) (mem := mem) (K := K) (j := 0) ⟨h.mono (sub_now _ _), by decide⟩
  have a1 := fun d mem K => argC_rw (op := op) (cap := cap) (d := d) (cx := ⟨w, [], w, []⟩) (mem := mem) (K := K) (j := 1) ⟨h.mono (sub_now _ _), by decide⟩
  simp only [Int.toNat_zero, Int.toNat_one] at a0 a1
  generalize argD xs 0 = a at *
  generalize argD xs 1 = b at *
  by_cases h1 : op = 1
  · subst h1
    simp (maxSteps := 4000000) -dsimp [-List.all_eq_true, -Array.all_eq_true, -Bool.exists_bool, -Bool.forall_bool, vcs, Sx.get, Sx.look, Sx.put, pureFn, findOrd, binF, unF, dstOk, isFloatT, endVC, resFn, packC, newFn, storeFn, buildFn, undef, known, aggT, cellsC, Value.cells, findCon, Con.pure, Con.some, allV, partsV, partsC, fillL, Sx.exitTo, fAr, C.one, Value.oneCell', aggEqFn, eqFn, eqFieldsFn, eqElemsFn, partFn, and_assoc, List.zipIdx, sliceFn, boundFn, AppV, CopyV, MakeSliceV, NewsV, GrowV, TextV, bytesL, notInt, typeAt, argAt, Con.read, Con.make, Con.ext, Con.rel, den, Con.extS, Try.f12, argC, memBitC, wasC, keepC, withinC, isKindC, memRealC, realCmpC, memWholeC, wholeCmpC, hm, a0, a1, testM, testB]
  by_cases h2 : op = 2
  · subst h2
    simp (maxSteps := 4000000) -dsimp [-List.all_eq_true, -Array.all_eq_true, -Bool.exists_bool, -Bool.forall_bool, vcs, Sx.get, Sx.look, Sx.put, pureFn, findOrd, binF, unF, dstOk, isFloatT, endVC, resFn, packC, newFn, storeFn, buildFn, undef, known, aggT, cellsC, Value.cells, findCon, Con.pure, Con.some, allV, partsV, partsC, fillL, Sx.exitTo, fAr, C.one, Value.oneCell', aggEqFn, eqFn, eqFieldsFn, eqElemsFn, partFn, and_assoc, List.zipIdx, sliceFn, boundFn, AppV, CopyV, MakeSliceV, NewsV, GrowV, TextV, bytesL, notInt, typeAt, argAt, Con.read, Con.make, Con.ext, Con.rel, den, Con.extS, Try.f12, argC, memBitC, wasC, keepC, withinC, isKindC, memRealC, realCmpC, memWholeC, wholeCmpC, hm, a0, a1, testM, testB]
  by_cases h3 : op = 3
  · subst h3
    simp (maxSteps := 4000000) -dsimp [-List.all_eq_true, -Array.all_eq_true, -Bool.exists_bool, -Bool.forall_bool, vcs, Sx.get, Sx.look, Sx.put, pureFn, findOrd, binF, unF, dstOk, isFloatT, endVC, resFn, packC, newFn, storeFn, buildFn, undef, known, aggT, cellsC, Value.cells, findCon, Con.pure, Con.some, allV, partsV, partsC, fillL, Sx.exitTo, fAr, C.one, Value.oneCell', aggEqFn, eqFn, eqFieldsFn, eqElemsFn, partFn, and_assoc, List.zipIdx, sliceFn, boundFn, AppV, CopyV, MakeSliceV, NewsV, GrowV, TextV, bytesL, notInt, typeAt, argAt, Con.read, Con.make, Con.ext, Con.rel, den, Con.extS, Try.f12, argC, memBitC, wasC, keepC, withinC, isKindC, memRealC, realCmpC, memWholeC, wholeCmpC, hm, a0, a1, testM, testB, wasB, keepM]
    clear a0 a1 h hm
    generalize memBit m a.k a.n = x
    generalize memBit m b.k b.n = y
    cases x <;> cases y <;> simp <;> try simp +contextual
  by_cases h4 : op = 4
  · subst h4
    simp (maxSteps := 4000000) -dsimp [-List.all_eq_true, -Array.all_eq_true, -Bool.exists_bool, -Bool.forall_bool, vcs, Sx.get, Sx.look, Sx.put, pureFn, findOrd, binF, unF, dstOk, isFloatT, endVC, resFn, packC, newFn, storeFn, buildFn, undef, known, aggT, cellsC, Value.cells, findCon, Con.pure, Con.some, allV, partsV, partsC, fillL, Sx.exitTo, fAr, C.one, Value.oneCell', aggEqFn, eqFn, eqFieldsFn, eqElemsFn, partFn, and_assoc, List.zipIdx, sliceFn, boundFn, AppV, CopyV, MakeSliceV, NewsV, GrowV, TextV, bytesL, notInt, typeAt, argAt, Con.read, Con.make, Con.ext, Con.rel, den, Con.extS, Try.f12, argC, memBitC, wasC, keepC, withinC, isKindC, memRealC, realCmpC, memWholeC, wholeCmpC, hm, a0, a1, testM, testB, wasB, keepM]
    clear a0 a1 h hm
    generalize memBit m a.k a.n = x
    generalize memBit m b.k b.n = y
    cases x <;> cases y <;> simp <;> try simp +contextual
  by_cases h5 : 5 ≤ op ∧ op ≤ 10
  · have e1 : IntKind.i64.wrap (op - 5) = op - 5 := wrap_i64 (by omega) (by omega)
    have e2 : IntKind.i64.wrap (op - 5 + 1) = op - 4 := by rw [wrap_i64 (by omega) (by omega)]; omega
    have bw := fun k n => memWhole_bd (k := k) (n := n) hm
    simp (maxSteps := 4000000) -dsimp [-List.all_eq_true, -Array.all_eq_true, -Bool.exists_bool, -Bool.forall_bool, vcs, Sx.get, Sx.look, Sx.put, pureFn, findOrd, binF, unF, dstOk, isFloatT, endVC, resFn, packC, newFn, storeFn, buildFn, undef, known, aggT, cellsC, Value.cells, findCon, Con.pure, Con.some, allV, partsV, partsC, fillL, Sx.exitTo, fAr, C.one, Value.oneCell', aggEqFn, eqFn, eqFieldsFn, eqElemsFn, partFn, and_assoc, List.zipIdx, sliceFn, boundFn, AppV, CopyV, MakeSliceV, NewsV, GrowV, TextV, bytesL, notInt, typeAt, argAt, Con.read, Con.make, Con.ext, Con.rel, den, Con.extS, Try.f12, argC, memBitC, wasC, keepC, withinC, isKindC, memRealC, realCmpC, memWholeC, wholeCmpC, hm, a0, a1, h1, h2, h3, h4, h5, e1, e2]
    clear a0 a1
    intro _ _ _ _ _
    refine ⟨fun cx' p hle hlit => ?_, fun h => by omega⟩
    refine (isKindC_rw (ks := [10, 12, 13]) (cap := 3) ⟨(hlit.ints [10, 12, 13] rfl).mono ((sub_new cx').trans (sub_now cx' _)), by decide⟩).mpr ?_
    have hw := hle.w0
    have hg := hle.g0
    clear hlit
    by_cases hr : isRealK a.k = true
    · have hr' : a.k = 10 ∨ a.k = 12 ∨ a.k = 13 := by simpa [isRealK] using hr
      simp (maxSteps := 4000000) -dsimp [-List.all_eq_true, -Array.all_eq_true, -Bool.exists_bool, -Bool.forall_bool, vcs, Sx.get, Sx.look, Sx.put, pureFn, findOrd, binF, unF, dstOk, isFloatT, endVC, resFn, packC, newFn, storeFn, buildFn, undef, known, aggT, cellsC, Value.cells, findCon, Con.pure, Con.some, allV, partsV, partsC, fillL, Sx.exitTo, fAr, C.one, Value.oneCell', aggEqFn, eqFn, eqFieldsFn, eqElemsFn, partFn, and_assoc, List.zipIdx, sliceFn, boundFn, AppV, CopyV, MakeSliceV, NewsV, GrowV, TextV, bytesL, notInt, typeAt, argAt, Con.read, Con.make, Con.ext, Con.rel, den, Con.extS, Try.f12, argC, memBitC, wasC, keepC, withinC, isKindC, memRealC, realCmpC, memWholeC, wholeCmpC, hm, hr', hw, hg, testM, testB, h1, h2, h3, h4, h5, numB, hr]
    · have hr' : ¬ (a.k = 10 ∨ a.k = 12 ∨ a.k = 13) := by simpa [isRealK] using hr
      have b1 := bw a.k a.n
      have b2 := bw b.k b.n
      simp (maxSteps := 4000000) -dsimp [-List.all_eq_true, -Array.all_eq_true, -Bool.exists_bool, -Bool.forall_bool, vcs, Sx.get, Sx.look, Sx.put, pureFn, findOrd, binF, unF, dstOk, isFloatT, endVC, resFn, packC, newFn, storeFn, buildFn, undef, known, aggT, cellsC, Value.cells, findCon, Con.pure, Con.some, allV, partsV, partsC, fillL, Sx.exitTo, fAr, C.one, Value.oneCell', aggEqFn, eqFn, eqFieldsFn, eqElemsFn, partFn, and_assoc, List.zipIdx, sliceFn, boundFn, AppV, CopyV, MakeSliceV, NewsV, GrowV, TextV, bytesL, notInt, typeAt, argAt, Con.read, Con.make, Con.ext, Con.rel, den, Con.extS, Try.f12, argC, memBitC, wasC, keepC, withinC, isKindC, memRealC, realCmpC, memWholeC, wholeCmpC, hm, hr', hw, hg, testM, testB, h1, h2, h3, h4, h5, numB, hr]
      omega
  · simp (maxSteps := 4000000) -dsimp [-List.all_eq_true, -Array.all_eq_true, -Bool.exists_bool, -Bool.forall_bool, vcs, Sx.get, Sx.look, Sx.put, pureFn, findOrd, binF, unF, dstOk, isFloatT, endVC, resFn, packC, newFn, storeFn, buildFn, undef, known, aggT, cellsC, Value.cells, findCon, Con.pure, Con.some, allV, partsV, partsC, fillL, Sx.exitTo, fAr, C.one, Value.oneCell', aggEqFn, eqFn, eqFieldsFn, eqElemsFn, partFn, and_assoc, List.zipIdx, sliceFn, boundFn, AppV, CopyV, MakeSliceV, NewsV, GrowV, TextV, bytesL, notInt, typeAt, argAt, Con.read, Con.make, Con.ext, Con.rel, den, Con.extS, Try.f12, argC, memBitC, wasC, keepC, withinC, isKindC, memRealC, realCmpC, memWholeC, wholeCmpC, hm, a0, a1, h1, h2, h3, h4, h5, testM, testB]
    intro _ _ _ _ _ _ _; omega
def actTestC_S : Reads Try.prog 12 where
  ι := (M) × (Int) × (Option Addr) × (Nat) × (List Dev)
  A := fun (i : (M) × (Int) × (Option Addr) × (Nat) × (List Dev)) => match i with | (m, op, o, cap, xs) => [.agg (cells m), .agg #[.int .i64 op, .slice o xs.length cap]]
  pre := fun (i : (M) × (Int) × (Option Addr) × (Nat) × (List Dev)) (F : Facts) => match i with | (m, op, o, cap, xs) => RdD F o xs ∧ MOk m
  res := fun (i : (M) × (Int) × (Option Addr) × (Nat) × (List Dev)) => match i with | (m, op, o, cap, xs) => .tuple #[.agg (cells (testM m op (argD xs 0) (argD xs 1))), .bool (testB m op (argD xs 0) (argD xs 1))]
  mono := by
    intro i F G hs h
    first | exact h.mono hs | exact ⟨h.1.mono hs, h.2⟩ | exact ⟨h.1.mono hs, h.2.1.mono hs, h.2.2⟩ | exact ⟨h.1.mono hs, h.2.1.mono hs⟩
  uniq := by
    rintro ⟨m, op, o, cap, xs⟩ ⟨m', op', o', cap', xs'⟩ F hA h h'
    simp at hA
    (try simp only [Int.natCast_inj] at hA)
    obtain rfl : xs = xs' := RdD.uniq h.1 h'.1 (by simp_all) (by simp_all)
    simp_all
  enter := Try.call12
  h := fun i w hp => actTestC_c i.1 i.2.1 i.2.2.1 i.2.2.2.1 i.2.2.2.2 w (by rw [factF_init]; exact hp)
def actTestC : Con Try.prog := Con.read actTestC_S
theorem actTestC_rw {m : M} {op : Int} {o : Option Addr} {cap : Nat} {xs : List Dev} {d : Nat} {cx : Cx} {mem : List Blk} {K : C → Prop} (hpre : RdD (nowF cx mem) o xs ∧ MOk m) : ReadV d actTestC_S cx [.v (.agg (cells m)), .v (.agg #[.int .i64 op, .slice o xs.length cap])] mem K = K (.v (.tuple #[.agg (cells (testM m op (argD xs 0) (argD xs 1))), .bool (testB m op (argD xs 0) (argD xs 1))])) := actTestC_S.eq (m, op, o, cap, xs) rfl hpre
end Go.Proofs.Yteigfllcmdkboaa
