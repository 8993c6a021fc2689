/-
  Contracts: two lists of instructions are compared by the reference; the law of ListSame, walked.
-/
import Derived.Test.YtdjjkfhholinkaaLs
set_option linter.unusedVariables false
set_option linter.unusedSimpArgs false
set_option maxRecDepth 100000
set_option maxHeartbeats 4000000
namespace Go.Proofs.Ytdjjkfhholinkaa
open Go Go.Sx


theorem eq_ins {x y : Ins} (h1 : x.code = y.code) (h2 : x.op = y.op) (h3 : x.args = y.args) : x = y := by cases x; cases y; simp_all
theorem sListSameC_c (o : Option Addr) (cap : Nat) (xs : List Ins) (o2 : Option Addr) (cap2 : Nat) (ys : List Ins) (w : World) (hpre : RdN (factF ⟨w, [], w, []⟩) o xs ∧ RdN (factF ⟨w, [], w, []⟩) o2 ys ∧ xs.length ≤ 1048576 ∧ ys.length ≤ 1048576 ∧ (∀ x ∈ xs, x.args.length ≤ 1048576) ∧ (∀ x ∈ ys, x.args.length ≤ 1048576)) : Calls Try.prog 14 #[.slice o xs.length cap, .slice o2 ys.length cap2] w fun e w' => e = .returned (.bool (decide (xs = ys))) ∧ RowKit.Below w.heap.size w w' := by
  refine (plain_of_vcs ⟨[], []⟩ hmx Try.func14 rfl (by kernel_rfl) (args := [.slice o xs.length cap, .slice o2 ys.length cap2]) (by simp [Try.ntmps14]) w (· = .bool (decide (xs = ys))) 400 ?_).mono fun e w' ⟨v, h1, h2, h3⟩ => ⟨h2 ▸ h1, h3⟩
  obtain ⟨h, g, hl, hl2, hxa, hya⟩ := hpre
  by_cases hlen : xs.length = ys.length
  · have hlen' : (xs.length : Int) = ys.length := by omega
    simp (maxSteps := 4000000) -dsimp [-List.all_eq_true, -Array.all_eq_true, -Bool.exists_bool, -Bool.forall_bool, vcs, Sx.get, Sx.look, Sx.put, pureFn, findOrd, binF, unF, dstOk, isFloatT, endVC, resFn, packC, newFn, storeFn, buildFn, undef, known, aggT, cellsC, Value.cells, findCon, Con.pure, Con.some, allV, partsV, partsC, fillL, Sx.exitTo, fAr, C.one, Value.oneCell', aggEqFn, eqFn, eqFieldsFn, eqElemsFn, partFn, and_assoc, List.zipIdx, sliceFn, boundFn, AppV, CopyV, MakeSliceV, NewsV, GrowV, TextV, bytesL, notInt, typeAt, argAt, Con.read, Con.make, Con.ext, Con.rel, den, Try.f14, hlen']
    refine loop_inv (σ := ⟨[], []⟩) hmx (by kernel_rfl) (fun q cx tm mem => cx = ⟨w, [], w, []⟩ ∧ mem = [] ∧ ∃ i : Nat, i ≤ xs.length ∧ q = xs.length - i ∧ xs.take i = ys.take i ∧ Sx.look tm 5 = .v (.int .i64 i) ∧ Sx.look tm 0 = .v (.slice o xs.length cap) ∧ Sx.look tm 1 = .v (.slice o2 ys.length cap2))
      xs.length ⟨rfl, rfl, 0, by omega, rfl, rfl, by simp [Sx.look], by simp [Sx.look], by simp [Sx.look]⟩ ?_
    rintro q cx tm mem ⟨rfl, rfl, i, hi, rfl, ht, h5, h0, h1⟩
    refine ⟨500, ?_⟩
    by_cases hlt : i < xs.length
    · have hlt2 : i < ys.length := by omega
      obtain ⟨x, hx⟩ : ∃ x, xs[i]? = some x := ⟨xs[i], by simp [hlt]⟩
      obtain ⟨y, hy⟩ : ∃ y, ys[i]? = some y := ⟨ys[i], by simp [hlt2]⟩
      obtain ⟨o', cap', hat⟩ := h.at hx
      obtain ⟨o2', cap2', gat⟩ := g.at hy
      have hxl := hxa x (List.mem_of_getElem? hx)
      have hyl := hya y (List.mem_of_getElem? hy)
      by_cases c1 : x.code = y.code
      · by_cases c2 : x.op = y.op
        · by_cases c3 : x.args.length = y.args.length
          · have c3' : (x.args.length : Int) = y.args.length := by omega
            simp (maxSteps := 4000000) -dsimp [-List.all_eq_true, -Array.all_eq_true, -Bool.exists_bool, -Bool.forall_bool, vcs, Sx.get, Sx.look, Sx.put, pureFn, findOrd, binF, unF, dstOk, isFloatT, endVC, resFn, packC, newFn, storeFn, buildFn, undef, known, aggT, cellsC, Value.cells, findCon, Con.pure, Con.some, allV, partsV, partsC, fillL, Sx.exitTo, fAr, C.one, Value.oneCell', aggEqFn, eqFn, eqFieldsFn, eqElemsFn, partFn, and_assoc, List.zipIdx, sliceFn, boundFn, AppV, CopyV, MakeSliceV, NewsV, GrowV, TextV, bytesL, notInt, typeAt, argAt, Con.read, Con.make, Con.ext, Con.rel, den, Try.f14, h5, h0, h1, hlt, hlt2, h.there hlt, g.there hlt2, hat.code, gat.code, hat.op, gat.op, hat.sl, gat.sl, c1, c2, c3']
            refine loop_inv (σ := ⟨[], []⟩) hmx (by kernel_rfl) (fun q2 cx' tm' mem' => cx' = ⟨w, [], w, []⟩ ∧ mem' = [] ∧ ∃ k : Nat, k ≤ x.args.length ∧ q2 = x.args.length - k ∧ x.args.take k = y.args.take k ∧ Sx.look tm' 6 = .v (.int .i64 k) ∧ Sx.look tm' 5 = .v (.int .i64 i) ∧ Sx.look tm' 0 = .v (.slice o xs.length cap) ∧ Sx.look tm' 1 = .v (.slice o2 ys.length cap2))
              x.args.length ⟨rfl, rfl, 0, by omega, rfl, rfl, by simp [Sx.look], by simp [Sx.look, h5], by simp [Sx.look, h0], by simp [Sx.look, h1]⟩ ?_
            rintro q2 cx tm2 mem ⟨rfl, rfl, k, hk, rfl, htk, j6, j5, j0, j1⟩
            refine ⟨300, ?_⟩
            by_cases hkl : k < x.args.length
            · have hkl2 : k < y.args.length := by omega
              obtain ⟨d, hd⟩ : ∃ d, x.args[k]? = some d := ⟨x.args[k], by simp [hkl]⟩
              obtain ⟨e, he⟩ : ∃ e, y.args[k]? = some e := ⟨y.args[k], by simp [hkl2]⟩
              by_cases hde : d = e
              · subst hde
                simp (maxSteps := 4000000) -dsimp [-List.all_eq_true, -Array.all_eq_true, -Bool.exists_bool, -Bool.forall_bool, vcs, Sx.get, Sx.look, Sx.put, pureFn, findOrd, binF, unF, dstOk, isFloatT, endVC, resFn, packC, newFn, storeFn, buildFn, undef, known, aggT, cellsC, Value.cells, findCon, Con.pure, Con.some, allV, partsV, partsC, fillL, Sx.exitTo, fAr, C.one, Value.oneCell', aggEqFn, eqFn, eqFieldsFn, eqElemsFn, partFn, and_assoc, List.zipIdx, sliceFn, boundFn, AppV, CopyV, MakeSliceV, NewsV, GrowV, TextV, bytesL, notInt, typeAt, argAt, Con.read, Con.make, Con.ext, Con.rel, den, Try.f14, j6, j5, j0, j1, hlt, hlt2, h.there hlt, g.there hlt2, hat.sl, gat.sl, hkl, hkl2, hat.args.there hkl, gat.args.there hkl2, hat.args.ld _ _ hd, gat.args.ld _ _ he, i_succ (i := k) (by omega)]
                exact ⟨_, by omega, k + 1, by omega, rfl, take_more htk hd he, by omega⟩
              · have hne2 := get_ne hd he hde
                have hne := get_ne hx hy (fun e => hne2 (by rw [e]))
                have hdd : ¬ (d.k = e.k ∧ d.n = e.n ∧ d.p = e.p) := fun ⟨a, b, c⟩ => hde (by cases d; cases e; simp_all)
                simp (maxSteps := 4000000) -dsimp [-List.all_eq_true, -Array.all_eq_true, -Bool.exists_bool, -Bool.forall_bool, vcs, Sx.get, Sx.look, Sx.put, pureFn, findOrd, binF, unF, dstOk, isFloatT, endVC, resFn, packC, newFn, storeFn, buildFn, undef, known, aggT, cellsC, Value.cells, findCon, Con.pure, Con.some, allV, partsV, partsC, fillL, Sx.exitTo, fAr, C.one, Value.oneCell', aggEqFn, eqFn, eqFieldsFn, eqElemsFn, partFn, and_assoc, List.zipIdx, sliceFn, boundFn, AppV, CopyV, MakeSliceV, NewsV, GrowV, TextV, bytesL, notInt, typeAt, argAt, Con.read, Con.make, Con.ext, Con.rel, den, Try.f14, j6, j5, j0, j1, hlt, hlt2, h.there hlt, g.there hlt2, hat.sl, gat.sl, hkl, hkl2, hat.args.there hkl, gat.args.there hkl2, hat.args.ld _ _ hd, gat.args.ld _ _ he, i_succ (i := k) (by omega), hne]
                omega
            · obtain rfl : k = x.args.length := by omega
              have hxy : x = y := eq_ins c1 c2 (take_all htk c3)
              subst hxy
              simp (maxSteps := 4000000) -dsimp [-List.all_eq_true, -Array.all_eq_true, -Bool.exists_bool, -Bool.forall_bool, vcs, Sx.get, Sx.look, Sx.put, pureFn, findOrd, binF, unF, dstOk, isFloatT, endVC, resFn, packC, newFn, storeFn, buildFn, undef, known, aggT, cellsC, Value.cells, findCon, Con.pure, Con.some, allV, partsV, partsC, fillL, Sx.exitTo, fAr, C.one, Value.oneCell', aggEqFn, eqFn, eqFieldsFn, eqElemsFn, partFn, and_assoc, List.zipIdx, sliceFn, boundFn, AppV, CopyV, MakeSliceV, NewsV, GrowV, TextV, bytesL, notInt, typeAt, argAt, Con.read, Con.make, Con.ext, Con.rel, den, Try.f14, j6, j5, j0, j1, hlt, hlt2, h.there hlt, g.there hlt2, hat.sl, gat.sl, i_succ (i := i) (by omega)]
              exact ⟨_, by omega, i + 1, by omega, rfl, take_more ht hx hy, by omega⟩
          · have hne := get_ne hx hy (fun e => c3 (by rw [e]))
            have c3' : ¬ (x.args.length : Int) = y.args.length := by omega
            simp (maxSteps := 4000000) -dsimp [-List.all_eq_true, -Array.all_eq_true, -Bool.exists_bool, -Bool.forall_bool, vcs, Sx.get, Sx.look, Sx.put, pureFn, findOrd, binF, unF, dstOk, isFloatT, endVC, resFn, packC, newFn, storeFn, buildFn, undef, known, aggT, cellsC, Value.cells, findCon, Con.pure, Con.some, allV, partsV, partsC, fillL, Sx.exitTo, fAr, C.one, Value.oneCell', aggEqFn, eqFn, eqFieldsFn, eqElemsFn, partFn, and_assoc, List.zipIdx, sliceFn, boundFn, AppV, CopyV, MakeSliceV, NewsV, GrowV, TextV, bytesL, notInt, typeAt, argAt, Con.read, Con.make, Con.ext, Con.rel, den, Try.f14, h5, h0, h1, hlt, hlt2, h.there hlt, g.there hlt2, hat.code, gat.code, hat.op, gat.op, hat.sl, gat.sl, c1, c2, c3', hne]
        · have hne := get_ne hx hy (fun e => c2 (by rw [e]))
          simp (maxSteps := 4000000) -dsimp [-List.all_eq_true, -Array.all_eq_true, -Bool.exists_bool, -Bool.forall_bool, vcs, Sx.get, Sx.look, Sx.put, pureFn, findOrd, binF, unF, dstOk, isFloatT, endVC, resFn, packC, newFn, storeFn, buildFn, undef, known, aggT, cellsC, Value.cells, findCon, Con.pure, Con.some, allV, partsV, partsC, fillL, Sx.exitTo, fAr, C.one, Value.oneCell', aggEqFn, eqFn, eqFieldsFn, eqElemsFn, partFn, and_assoc, List.zipIdx, sliceFn, boundFn, AppV, CopyV, MakeSliceV, NewsV, GrowV, TextV, bytesL, notInt, typeAt, argAt, Con.read, Con.make, Con.ext, Con.rel, den, Try.f14, h5, h0, h1, hlt, hlt2, h.there hlt, g.there hlt2, hat.code, gat.code, hat.op, gat.op, hat.sl, gat.sl, c1, c2, hne]
      · have hne := get_ne hx hy (fun e => c1 (by rw [e]))
        simp (maxSteps := 4000000) -dsimp [-List.all_eq_true, -Array.all_eq_true, -Bool.exists_bool, -Bool.forall_bool, vcs, Sx.get, Sx.look, Sx.put, pureFn, findOrd, binF, unF, dstOk, isFloatT, endVC, resFn, packC, newFn, storeFn, buildFn, undef, known, aggT, cellsC, Value.cells, findCon, Con.pure, Con.some, allV, partsV, partsC, fillL, Sx.exitTo, fAr, C.one, Value.oneCell', aggEqFn, eqFn, eqFieldsFn, eqElemsFn, partFn, and_assoc, List.zipIdx, sliceFn, boundFn, AppV, CopyV, MakeSliceV, NewsV, GrowV, TextV, bytesL, notInt, typeAt, argAt, Con.read, Con.make, Con.ext, Con.rel, den, Try.f14, h5, h0, h1, hlt, hlt2, h.there hlt, g.there hlt2, hat.code, gat.code, hat.op, gat.op, hat.sl, gat.sl, c1, hne]
    · obtain rfl : i = xs.length := by omega
      have := take_all ht hlen
      simp (maxSteps := 4000000) -dsimp [-List.all_eq_true, -Array.all_eq_true, -Bool.exists_bool, -Bool.forall_bool, vcs, Sx.get, Sx.look, Sx.put, pureFn, findOrd, binF, unF, dstOk, isFloatT, endVC, resFn, packC, newFn, storeFn, buildFn, undef, known, aggT, cellsC, Value.cells, findCon, Con.pure, Con.some, allV, partsV, partsC, fillL, Sx.exitTo, fAr, C.one, Value.oneCell', aggEqFn, eqFn, eqFieldsFn, eqElemsFn, partFn, and_assoc, List.zipIdx, sliceFn, boundFn, AppV, CopyV, MakeSliceV, NewsV, GrowV, TextV, bytesL, notInt, typeAt, argAt, Con.read, Con.make, Con.ext, Con.rel, den, Try.f14, h5, h0, h1, this]
  · have hlen' : ¬ (xs.length : Int) = ys.length := by omega
    have := len_ne hlen
    simp (maxSteps := 4000000) -dsimp [-List.all_eq_true, -Array.all_eq_true, -Bool.exists_bool, -Bool.forall_bool, vcs, Sx.get, Sx.look, Sx.put, pureFn, findOrd, binF, unF, dstOk, isFloatT, endVC, resFn, packC, newFn, storeFn, buildFn, undef, known, aggT, cellsC, Value.cells, findCon, Con.pure, Con.some, allV, partsV, partsC, fillL, Sx.exitTo, fAr, C.one, Value.oneCell', aggEqFn, eqFn, eqFieldsFn, eqElemsFn, partFn, and_assoc, List.zipIdx, sliceFn, boundFn, AppV, CopyV, MakeSliceV, NewsV, GrowV, TextV, bytesL, notInt, typeAt, argAt, Con.read, Con.make, Con.ext, Con.rel, den, Try.f14, hlen', this]
def sListSameC_S : Reads Try.prog 14 where
  ι := (Option Addr) × (Nat) × (List Ins) × (Option Addr) × (Nat) × (List Ins)
  A := fun (i : (Option Addr) × (Nat) × (List Ins) × (Option Addr) × (Nat) × (List Ins)) => match i with | (o, cap, xs, o2, cap2, ys) => [.slice o xs.length cap, .slice o2 ys.length cap2]
  pre := fun (i : (Option Addr) × (Nat) × (List Ins) × (Option Addr) × (Nat) × (List Ins)) (F : Facts) => match i with | (o, cap, xs, o2, cap2, ys) => RdN F o xs ∧ RdN F o2 ys ∧ xs.length ≤ 1048576 ∧ ys.length ≤ 1048576 ∧ (∀ x ∈ xs, x.args.length ≤ 1048576) ∧ (∀ x ∈ ys, x.args.length ≤ 1048576)
  res := fun (i : (Option Addr) × (Nat) × (List Ins) × (Option Addr) × (Nat) × (List Ins)) => match i with | (o, cap, xs, o2, cap2, ys) => .bool (decide (xs = ys))
  mono := by
    intro i F G hs h
    first | exact h.mono hs | exact ⟨h.1.mono hs, h.2⟩ | exact ⟨h.1.mono hs, h.2.1.mono hs, h.2.2⟩ | exact ⟨h.1.mono hs, h.2.1.mono hs⟩
  uniq := by
    rintro ⟨o, cap, xs, o2, cap2, ys⟩ ⟨o', cap', xs', o2', cap2', ys'⟩ F hA h h'
    simp at hA
    (try simp only [Int.natCast_inj] at hA)
    obtain rfl : xs = xs' := RdN.uniq h.1 h'.1 (by simp_all) (by simp_all)
    obtain rfl : ys = ys' := RdN.uniq h.2.1 h'.2.1 (by simp_all) (by simp_all)
    simp_all
  enter := Try.call14
  h := fun i w hp => sListSameC_c i.1 i.2.1 i.2.2.1 i.2.2.2.1 i.2.2.2.2.1 i.2.2.2.2.2 w (by rw [factF_init]; exact hp)
def sListSameC : Con Try.prog := Con.read sListSameC_S
theorem sListSameC_rw {o : Option Addr} {cap : Nat} {xs : List Ins} {o2 : Option Addr} {cap2 : Nat} {ys : List Ins} {d : Nat} {cx : Cx} {mem : List Blk} {K : C → Prop} (hpre : RdN (nowF cx mem) o xs ∧ RdN (nowF cx mem) o2 ys ∧ xs.length ≤ 1048576 ∧ ys.length ≤ 1048576 ∧ (∀ x ∈ xs, x.args.length ≤ 1048576) ∧ (∀ x ∈ ys, x.args.length ≤ 1048576)) : ReadV d sListSameC_S cx [.v (.slice o xs.length cap), .v (.slice o2 ys.length cap2)] mem K = K (.v (.bool (decide (xs = ys)))) := sListSameC_S.eq (o, cap, xs, o2, cap2, ys) rfl hpre
theorem lawListSameC_c (o : Option Addr) (cap : Nat) (xs : List Ins) (o2 : Option Addr) (cap2 : Nat) (ys : List Ins) (w : World) (hpre : RdN (factF ⟨w, [], w, []⟩) o xs ∧ RdN (factF ⟨w, [], w, []⟩) o2 ys ∧ xs.length ≤ 9223372036854775807 ∧ ys.length ≤ 9223372036854775807) : Calls Try.prog 3 #[.slice o xs.length cap, .slice o2 ys.length cap2] w fun e w' => e = .returned (.bool true) ∧ RowKit.Below w.heap.size w w' := by
  refine (plain_of_vcs ⟨[szInstSC, toInstSC, sListSameC, listSameC, eqInstSC], []⟩ hmx Try.func3 rfl (by kernel_rfl) (args := [.slice o xs.length cap, .slice o2 ys.length cap2]) (by simp [Try.ntmps3]) w (· = .bool true) 400 ?_).mono fun e w' ⟨v, h1, h2, h3⟩ => ⟨h2 ▸ h1, h3⟩
  obtain ⟨h, g, hl, hl2⟩ := hpre
  have z1 := fun d mem K => szInstSC_rw (cap := cap) (d := d) (cx := ⟨w, [], w, []⟩) (mem := mem) (K := K) (left := 1048576) ⟨h.mono (sub_now _ _), by decide, by decide, hl⟩
  by_cases hs : 0 ≤ szS xs 1048576
  · obtain ⟨hx1, hx2⟩ := szS_ok (by decide) hs
    have hs1 : ¬ szS xs 1048576 < 0 := by omega
    have hle := szS_le (xs := xs) (l := 1048576) (by decide)
    have z2 := fun d mem K => szInstSC_rw (cap := cap2) (d := d) (cx := ⟨w, [], w, []⟩) (mem := mem) (K := K) (left := szS xs 1048576) ⟨g.mono (sub_now _ _), hs, hle, hl2⟩
    by_cases ht : 0 ≤ szS ys (szS xs 1048576)
    · obtain ⟨hy1, hy2⟩ := szS_ok hle ht
      have ht1 : ¬ szS ys (szS xs 1048576) < 0 := by omega
      simp (maxSteps := 4000000) -dsimp [-List.all_eq_true, -Array.all_eq_true, -Bool.exists_bool, -Bool.forall_bool, vcs, Sx.get, Sx.look, Sx.put, pureFn, findOrd, binF, unF, dstOk, isFloatT, endVC, resFn, packC, newFn, storeFn, buildFn, undef, known, aggT, cellsC, Value.cells, findCon, Con.pure, Con.some, allV, partsV, partsC, fillL, Sx.exitTo, fAr, C.one, Value.oneCell', aggEqFn, eqFn, eqFieldsFn, eqElemsFn, partFn, and_assoc, List.zipIdx, sliceFn, boundFn, AppV, CopyV, MakeSliceV, NewsV, GrowV, TextV, bytesL, notInt, typeAt, argAt, Con.read, Con.make, Con.ext, Con.rel, den, Try.f3, szInstSC, toInstSC, sListSameC, listSameC, eqInstSC, z1, z2, hs1, ht1]
      refine ⟨(o, cap, xs), rfl, ⟨h.mono (sub_now _ _), hx1, hx2⟩, ?_⟩
      rintro cx1 v hle1 hv
      obtain ⟨o1, cap1, rfl, a1, _, _⟩ := hv.ex
      simp (maxSteps := 4000000) -dsimp [-List.all_eq_true, -Array.all_eq_true, -Bool.exists_bool, -Bool.forall_bool, vcs, Sx.get, Sx.look, Sx.put, pureFn, findOrd, binF, unF, dstOk, isFloatT, endVC, resFn, packC, newFn, storeFn, buildFn, undef, known, aggT, cellsC, Value.cells, findCon, Con.pure, Con.some, allV, partsV, partsC, fillL, Sx.exitTo, fAr, C.one, Value.oneCell', aggEqFn, eqFn, eqFieldsFn, eqElemsFn, partFn, and_assoc, List.zipIdx, sliceFn, boundFn, AppV, CopyV, MakeSliceV, NewsV, GrowV, TextV, bytesL, notInt, typeAt, argAt, Con.read, Con.make, Con.ext, Con.rel, den, Try.f3, szInstSC, toInstSC, sListSameC, listSameC, eqInstSC]
      refine ⟨(o2, cap2, ys), rfl, ⟨g.mono (hle1.fact.trans (sub_now _ _)), hy1, hy2⟩, ?_⟩
      rintro cx2 v hle2 hv
      obtain ⟨o3, cap3, rfl, a2, _, _⟩ := hv.ex
      simp (maxSteps := 4000000) -dsimp [-List.all_eq_true, -Array.all_eq_true, -Bool.exists_bool, -Bool.forall_bool, vcs, Sx.get, Sx.look, Sx.put, pureFn, findOrd, binF, unF, dstOk, isFloatT, endVC, resFn, packC, newFn, storeFn, buildFn, undef, known, aggT, cellsC, Value.cells, findCon, Con.pure, Con.some, allV, partsV, partsC, fillL, Sx.exitTo, fAr, C.one, Value.oneCell', aggEqFn, eqFn, eqFieldsFn, eqElemsFn, partFn, and_assoc, List.zipIdx, sliceFn, boundFn, AppV, CopyV, MakeSliceV, NewsV, GrowV, TextV, bytesL, notInt, typeAt, argAt, Con.read, Con.make, Con.ext, Con.rel, den, Try.f3, szInstSC, toInstSC, sListSameC, listSameC, eqInstSC]
      refine (sListSameC_rw ⟨a1.mono ((sub_new _).trans (hle2.fact.trans (sub_now _ _))), a2.mono ((sub_new _).trans (sub_now _ _)), hx1, hy1, hx2, hy2⟩).mpr ?_
      simp (maxSteps := 4000000) -dsimp [-List.all_eq_true, -Array.all_eq_true, -Bool.exists_bool, -Bool.forall_bool, vcs, Sx.get, Sx.look, Sx.put, pureFn, findOrd, binF, unF, dstOk, isFloatT, endVC, resFn, packC, newFn, storeFn, buildFn, undef, known, aggT, cellsC, Value.cells, findCon, Con.pure, Con.some, allV, partsV, partsC, fillL, Sx.exitTo, fAr, C.one, Value.oneCell', aggEqFn, eqFn, eqFieldsFn, eqElemsFn, partFn, and_assoc, List.zipIdx, sliceFn, boundFn, AppV, CopyV, MakeSliceV, NewsV, GrowV, TextV, bytesL, notInt, typeAt, argAt, Con.read, Con.make, Con.ext, Con.rel, den, Try.f3, szInstSC, toInstSC, sListSameC, listSameC, eqInstSC]
      refine ⟨(o, cap, xs), rfl, ⟨h.mono (hle1.fact.trans (hle2.fact.trans (sub_now _ _))), hx1, hx2⟩, ?_⟩
      rintro cx3 v hle3 hv
      obtain ⟨o4, cap4, rfl, a3, _, _⟩ := hv.ex
      simp (maxSteps := 4000000) -dsimp [-List.all_eq_true, -Array.all_eq_true, -Bool.exists_bool, -Bool.forall_bool, vcs, Sx.get, Sx.look, Sx.put, pureFn, findOrd, binF, unF, dstOk, isFloatT, endVC, resFn, packC, newFn, storeFn, buildFn, undef, known, aggT, cellsC, Value.cells, findCon, Con.pure, Con.some, allV, partsV, partsC, fillL, Sx.exitTo, fAr, C.one, Value.oneCell', aggEqFn, eqFn, eqFieldsFn, eqElemsFn, partFn, and_assoc, List.zipIdx, sliceFn, boundFn, AppV, CopyV, MakeSliceV, NewsV, GrowV, TextV, bytesL, notInt, typeAt, argAt, Con.read, Con.make, Con.ext, Con.rel, den, Try.f3, szInstSC, toInstSC, sListSameC, listSameC, eqInstSC]
      have l3 := hle1.trans (hle2.trans hle3)
      refine ⟨(o2, cap2, ys), rfl, ⟨g.mono (l3.fact.trans (sub_now _ _)), hy1, hy2⟩, ?_⟩
      rintro cx4 v hle4 hv
      obtain ⟨o5, cap5, rfl, a4, _, _⟩ := hv.ex
      simp (maxSteps := 4000000) -dsimp [-List.all_eq_true, -Array.all_eq_true, -Bool.exists_bool, -Bool.forall_bool, vcs, Sx.get, Sx.look, Sx.put, pureFn, findOrd, binF, unF, dstOk, isFloatT, endVC, resFn, packC, newFn, storeFn, buildFn, undef, known, aggT, cellsC, Value.cells, findCon, Con.pure, Con.some, allV, partsV, partsC, fillL, Sx.exitTo, fAr, C.one, Value.oneCell', aggEqFn, eqFn, eqFieldsFn, eqElemsFn, partFn, and_assoc, List.zipIdx, sliceFn, boundFn, AppV, CopyV, MakeSliceV, NewsV, GrowV, TextV, bytesL, notInt, typeAt, argAt, Con.read, Con.make, Con.ext, Con.rel, den, Try.f3, szInstSC, toInstSC, sListSameC, listSameC, eqInstSC]
      refine (listSameC_rw ⟨a3.mono ((sub_new _).trans (hle4.fact.trans (sub_now _ _))), a4.mono ((sub_new _).trans (sub_now _ _)), hx1, hy1, hx2, hy2⟩).mpr ?_
      simp (maxSteps := 4000000) -dsimp [-List.all_eq_true, -Array.all_eq_true, -Bool.exists_bool, -Bool.forall_bool, vcs, Sx.get, Sx.look, Sx.put, pureFn, findOrd, binF, unF, dstOk, isFloatT, endVC, resFn, packC, newFn, storeFn, buildFn, undef, known, aggT, cellsC, Value.cells, findCon, Con.pure, Con.some, allV, partsV, partsC, fillL, Sx.exitTo, fAr, C.one, Value.oneCell', aggEqFn, eqFn, eqFieldsFn, eqElemsFn, partFn, and_assoc, List.zipIdx, sliceFn, boundFn, AppV, CopyV, MakeSliceV, NewsV, GrowV, TextV, bytesL, notInt, typeAt, argAt, Con.read, Con.make, Con.ext, Con.rel, den, Try.f3, szInstSC, toInstSC, sListSameC, listSameC, eqInstSC]
      have l4 := l3.trans hle4
      refine ⟨(o, cap, xs), rfl, ⟨h.mono (l4.fact.trans (sub_now _ _)), hx1, hx2⟩, ?_⟩
      rintro cx5 v hle5 hv
      obtain ⟨o6, cap6, rfl, a5, _, _⟩ := hv.ex
      simp (maxSteps := 4000000) -dsimp [-List.all_eq_true, -Array.all_eq_true, -Bool.exists_bool, -Bool.forall_bool, vcs, Sx.get, Sx.look, Sx.put, pureFn, findOrd, binF, unF, dstOk, isFloatT, endVC, resFn, packC, newFn, storeFn, buildFn, undef, known, aggT, cellsC, Value.cells, findCon, Con.pure, Con.some, allV, partsV, partsC, fillL, Sx.exitTo, fAr, C.one, Value.oneCell', aggEqFn, eqFn, eqFieldsFn, eqElemsFn, partFn, and_assoc, List.zipIdx, sliceFn, boundFn, AppV, CopyV, MakeSliceV, NewsV, GrowV, TextV, bytesL, notInt, typeAt, argAt, Con.read, Con.make, Con.ext, Con.rel, den, Try.f3, szInstSC, toInstSC, sListSameC, listSameC, eqInstSC]
      refine (eqInstSC_rw ⟨a3.mono ((sub_new _).trans (hle4.fact.trans (hle5.fact.trans (sub_now _ _)))), a5.mono ((sub_new _).trans (sub_now _ _)), hx1, hx2⟩).mpr ?_
      simp (maxSteps := 4000000) -dsimp [-List.all_eq_true, -Array.all_eq_true, -Bool.exists_bool, -Bool.forall_bool, vcs, Sx.get, Sx.look, Sx.put, pureFn, findOrd, binF, unF, dstOk, isFloatT, endVC, resFn, packC, newFn, storeFn, buildFn, undef, known, aggT, cellsC, Value.cells, findCon, Con.pure, Con.some, allV, partsV, partsC, fillL, Sx.exitTo, fAr, C.one, Value.oneCell', aggEqFn, eqFn, eqFieldsFn, eqElemsFn, partFn, and_assoc, List.zipIdx, sliceFn, boundFn, AppV, CopyV, MakeSliceV, NewsV, GrowV, TextV, bytesL, notInt, typeAt, argAt, Con.read, Con.make, Con.ext, Con.rel, den, Try.f3, szInstSC, toInstSC, sListSameC, listSameC, eqInstSC]
      have l5 := l4.trans hle5
      refine ⟨(o2, cap2, ys), rfl, ⟨g.mono (l5.fact.trans (sub_now _ _)), hy1, hy2⟩, ?_⟩
      rintro cx6 v hle6 hv
      obtain ⟨o7, cap7, rfl, a6, _, _⟩ := hv.ex
      simp (maxSteps := 4000000) -dsimp [-List.all_eq_true, -Array.all_eq_true, -Bool.exists_bool, -Bool.forall_bool, vcs, Sx.get, Sx.look, Sx.put, pureFn, findOrd, binF, unF, dstOk, isFloatT, endVC, resFn, packC, newFn, storeFn, buildFn, undef, known, aggT, cellsC, Value.cells, findCon, Con.pure, Con.some, allV, partsV, partsC, fillL, Sx.exitTo, fAr, C.one, Value.oneCell', aggEqFn, eqFn, eqFieldsFn, eqElemsFn, partFn, and_assoc, List.zipIdx, sliceFn, boundFn, AppV, CopyV, MakeSliceV, NewsV, GrowV, TextV, bytesL, notInt, typeAt, argAt, Con.read, Con.make, Con.ext, Con.rel, den, Try.f3, szInstSC, toInstSC, sListSameC, listSameC, eqInstSC]
      refine (eqInstSC_rw ⟨a4.mono ((sub_new _).trans (hle5.fact.trans (hle6.fact.trans (sub_now _ _)))), a6.mono ((sub_new _).trans (sub_now _ _)), hy1, hy2⟩).mpr ?_
      have hw := (l5.trans hle6).w0
      have hg := (l5.trans hle6).g0
      simp (maxSteps := 4000000) -dsimp [-List.all_eq_true, -Array.all_eq_true, -Bool.exists_bool, -Bool.forall_bool, vcs, Sx.get, Sx.look, Sx.put, pureFn, findOrd, binF, unF, dstOk, isFloatT, endVC, resFn, packC, newFn, storeFn, buildFn, undef, known, aggT, cellsC, Value.cells, findCon, Con.pure, Con.some, allV, partsV, partsC, fillL, Sx.exitTo, fAr, C.one, Value.oneCell', aggEqFn, eqFn, eqFieldsFn, eqElemsFn, partFn, and_assoc, List.zipIdx, sliceFn, boundFn, AppV, CopyV, MakeSliceV, NewsV, GrowV, TextV, bytesL, notInt, typeAt, argAt, Con.read, Con.make, Con.ext, Con.rel, den, Try.f3, szInstSC, toInstSC, sListSameC, listSameC, eqInstSC, hw, hg]
    · have ht1 : szS ys (szS xs 1048576) < 0 := by omega
      simp (maxSteps := 4000000) -dsimp [-List.all_eq_true, -Array.all_eq_true, -Bool.exists_bool, -Bool.forall_bool, vcs, Sx.get, Sx.look, Sx.put, pureFn, findOrd, binF, unF, dstOk, isFloatT, endVC, resFn, packC, newFn, storeFn, buildFn, undef, known, aggT, cellsC, Value.cells, findCon, Con.pure, Con.some, allV, partsV, partsC, fillL, Sx.exitTo, fAr, C.one, Value.oneCell', aggEqFn, eqFn, eqFieldsFn, eqElemsFn, partFn, and_assoc, List.zipIdx, sliceFn, boundFn, AppV, CopyV, MakeSliceV, NewsV, GrowV, TextV, bytesL, notInt, typeAt, argAt, Con.read, Con.make, Con.ext, Con.rel, den, Try.f3, szInstSC, toInstSC, sListSameC, listSameC, eqInstSC, z1, z2, hs1, ht1]
  · have hs1 : szS xs 1048576 < 0 := by omega
    simp (maxSteps := 4000000) -dsimp [-List.all_eq_true, -Array.all_eq_true, -Bool.exists_bool, -Bool.forall_bool, vcs, Sx.get, Sx.look, Sx.put, pureFn, findOrd, binF, unF, dstOk, isFloatT, endVC, resFn, packC, newFn, storeFn, buildFn, undef, known, aggT, cellsC, Value.cells, findCon, Con.pure, Con.some, allV, partsV, partsC, fillL, Sx.exitTo, fAr, C.one, Value.oneCell', aggEqFn, eqFn, eqFieldsFn, eqElemsFn, partFn, and_assoc, List.zipIdx, sliceFn, boundFn, AppV, CopyV, MakeSliceV, NewsV, GrowV, TextV, bytesL, notInt, typeAt, argAt, Con.read, Con.make, Con.ext, Con.rel, den, Try.f3, szInstSC, toInstSC, sListSameC, listSameC, eqInstSC, z1, hs1]
def lawListSameC_S : Reads Try.prog 3 where
  ι := (Option Addr) × (Nat) × (List Ins) × (Option Addr) × (Nat) × (List Ins)
  A := fun (i : (Option Addr) × (Nat) × (List Ins) × (Option Addr) × (Nat) × (List Ins)) => match i with | (o, cap, xs, o2, cap2, ys) => [.slice o xs.length cap, .slice o2 ys.length cap2]
  pre := fun (i : (Option Addr) × (Nat) × (List Ins) × (Option Addr) × (Nat) × (List Ins)) (F : Facts) => match i with | (o, cap, xs, o2, cap2, ys) => RdN F o xs ∧ RdN F o2 ys ∧ xs.length ≤ 9223372036854775807 ∧ ys.length ≤ 9223372036854775807
  res := fun (i : (Option Addr) × (Nat) × (List Ins) × (Option Addr) × (Nat) × (List Ins)) => match i with | (o, cap, xs, o2, cap2, ys) => .bool true
  mono := by
    intro i F G hs h
    first | exact h.mono hs | exact ⟨h.1.mono hs, h.2⟩ | exact ⟨h.1.mono hs, h.2.1.mono hs, h.2.2⟩ | exact ⟨h.1.mono hs, h.2.1.mono hs⟩
  uniq := by
    rintro ⟨o, cap, xs, o2, cap2, ys⟩ ⟨o', cap', xs', o2', cap2', ys'⟩ F hA h h'
    simp at hA
    (try simp only [Int.natCast_inj] at hA)
    obtain rfl : xs = xs' := RdN.uniq h.1 h'.1 (by simp_all) (by simp_all)
    obtain rfl : ys = ys' := RdN.uniq h.2.1 h'.2.1 (by simp_all) (by simp_all)
    simp_all
  enter := Try.call3
  h := fun i w hp => lawListSameC_c i.1 i.2.1 i.2.2.1 i.2.2.2.1 i.2.2.2.2.1 i.2.2.2.2.2 w (by rw [factF_init]; exact hp)
def lawListSameC : Con Try.prog := Con.read lawListSameC_S
theorem lawListSameC_rw {o : Option Addr} {cap : Nat} {xs : List Ins} {o2 : Option Addr} {cap2 : Nat} {ys : List Ins} {d : Nat} {cx : Cx} {mem : List Blk} {K : C → Prop} (hpre : RdN (nowF cx mem) o xs ∧ RdN (nowF cx mem) o2 ys ∧ xs.length ≤ 9223372036854775807 ∧ ys.length ≤ 9223372036854775807) : ReadV d lawListSameC_S cx [.v (.slice o xs.length cap), .v (.slice o2 ys.length cap2)] mem K = K (.v (.bool true)) := lawListSameC_S.eq (o, cap, xs, o2, cap2, ys) rfl hpre
end Go.Proofs.Ytdjjkfhholinkaa
