/-
  The law of the verifier and its definition, walked.
-/
import Derived.Test.YtfhnbdlkiemaeaaWs
set_option linter.unusedVariables false
set_option linter.unusedSimpArgs false
set_option maxRecDepth 100000
set_option maxHeartbeats 4000000
namespace Go.Proofs.Ytfhnbdlkiemaeaa
open Go Go.Sx

theorem lawSTopC_c (o : Option Addr) (cap : Nat) (bs : List Int) (w : World) (hpre : RdB (factF ⟨w, [], w, []⟩) o bs ∧ ((∀ b ∈ bs, 0 ≤ b ∧ b < 256) ∧ bs.length ≤ cap ∧ cap ≤ maxLen)) : Calls Try.prog 6 #[.slice o bs.length cap] w fun e w' => e = .returned (.bool true) ∧ RowKit.Below w.heap.size w w' := by
  refine (plain_of_vcs ⟨[drawSureCheckC, iSureCheckC, sSureCheckC, wsHoldsC], []⟩ hmx Try.func6 rfl (by kernel_rfl) (args := [.slice o bs.length cap]) (by simp [Try.ntmps6]) w (· = .bool true) 400 ?_).mono fun e w' ⟨v, h1, h2, h3⟩ => ⟨h2 ▸ h1, h3⟩
  obtain ⟨h, hb⟩ := hpre
  by_cases hs : bs.length ≤ 1048576
  · have hs1 : ¬ (1048576 : Int) < bs.length := by omega
    simp (maxSteps := 4000000) -dsimp [-List.all_eq_true, -Array.all_eq_true, -Bool.exists_bool, -Bool.forall_bool, vcsE1, vcsE2, vcsE3, vcsE4, vcsE5, vcsE6, vcsE7, vcsE8, vcsE9, vcsE10, vcsE11, vcsE12, vcsE13, vcsE14, vcsE15, vcsE16, vcsE17, vcsE18, vcsE19, Sx.get, Sx.look, Sx.put, pureFn, findOrd, unF, dstOk, isFloatT, endVC, resFn, packC, newFn, storeFn, buildFn, undef, known, aggT, cellsC, Value.cells, findCon, Con.pure, Con.some, allV, partsV, partsC, fillL, Sx.exitTo, fAr, C.one, Value.oneCell', eqFn, eqFieldsFn, eqElemsFn, partFn, and_assoc, List.zipIdx, sliceFn, boundFn, AppV, CopyV, MakeSliceV, NewsV, GrowV, TextV, bytesL, notInt, typeAt, argAt, Con.read, Con.make, Con.ext, Con.rel, den, Con.extS, Con.draw, Con.step, Draws.steps, Try.f6, drawSureCheckC, iSureCheckC, sSureCheckC, wsHoldsC, hs1, Con.gen]
    refine drawSureCheckC_at ⟨h, hb⟩ ?_
    rintro cx1 c mem1 ⟨hle1, rfl, v, xs, rfl, ⟨⟨xo, xcap, rfl, hxd, hxc, hxm⟩⟩, hxl, hxa⟩
    have hxa' : ∀ x ∈ xs, x.args.length ≤ 1048576 := fun x hx => by have := hxa x hx; omega
    have hw := hle1.w0
    have hg := hle1.g0
    have t1 := fun (d : Nat) (mem : List Blk) (K : C → Prop) => iSureCheckC_rw (d := d) (cx := cx1) (mem := mem) (K := K) (o := xo) (cap := xcap) (xs := xs) ⟨hxd.mono (sub_now _ _), by omega, hxa'⟩
    have t2 := fun (d : Nat) (mem : List Blk) (K : C → Prop) => sSureCheckC_rw (d := d) (cx := cx1) (mem := mem) (K := K) (o := xo) (cap := xcap) (xs := xs) ⟨hxd.mono (sub_now _ _), by omega, hxa'⟩
    have t3 := fun (d : Nat) (mem : List Blk) (K : C → Prop) => wsHoldsC_rw (d := d) (cx := cx1) (mem := mem) (K := K) (o := xo) (cap := xcap) (xs := xs) ⟨hxd.mono (sub_now _ _), by omega, hxa'⟩
    have hbd := sureN_bd xs
    rw [wsN_iff] at t3
    simp (maxSteps := 4000000) -dsimp [-List.all_eq_true, -Array.all_eq_true, -Bool.exists_bool, -Bool.forall_bool, vcsE1, vcsE2, vcsE3, vcsE4, vcsE5, vcsE6, vcsE7, vcsE8, vcsE9, vcsE10, vcsE11, vcsE12, vcsE13, vcsE14, vcsE15, vcsE16, vcsE17, vcsE18, vcsE19, Sx.get, Sx.look, Sx.put, pureFn, findOrd, unF, dstOk, isFloatT, endVC, resFn, packC, newFn, storeFn, buildFn, undef, known, aggT, cellsC, Value.cells, findCon, Con.pure, Con.some, allV, partsV, partsC, fillL, Sx.exitTo, fAr, C.one, Value.oneCell', eqFn, eqFieldsFn, eqElemsFn, partFn, and_assoc, List.zipIdx, sliceFn, boundFn, AppV, CopyV, MakeSliceV, NewsV, GrowV, TextV, bytesL, notInt, typeAt, argAt, Con.read, Con.make, Con.ext, Con.rel, den, Con.extS, Con.draw, Con.step, Draws.steps, Try.f6, drawSureCheckC, iSureCheckC, sSureCheckC, wsHoldsC, Con.gen, t1, t2, t3, hbd, hw, hg]
    rfl
  · have hs1 : (1048576 : Int) < bs.length := by omega
    simp (maxSteps := 4000000) -dsimp [-List.all_eq_true, -Array.all_eq_true, -Bool.exists_bool, -Bool.forall_bool, vcsE1, vcsE2, vcsE3, vcsE4, vcsE5, vcsE6, vcsE7, vcsE8, vcsE9, vcsE10, vcsE11, vcsE12, vcsE13, vcsE14, vcsE15, vcsE16, vcsE17, vcsE18, vcsE19, Sx.get, Sx.look, Sx.put, pureFn, findOrd, unF, dstOk, isFloatT, endVC, resFn, packC, newFn, storeFn, buildFn, undef, known, aggT, cellsC, Value.cells, findCon, Con.pure, Con.some, allV, partsV, partsC, fillL, Sx.exitTo, fAr, C.one, Value.oneCell', eqFn, eqFieldsFn, eqElemsFn, partFn, and_assoc, List.zipIdx, sliceFn, boundFn, AppV, CopyV, MakeSliceV, NewsV, GrowV, TextV, bytesL, notInt, typeAt, argAt, Con.read, Con.make, Con.ext, Con.rel, den, Con.extS, Con.draw, Con.step, Draws.steps, Try.f6, drawSureCheckC, iSureCheckC, sSureCheckC, wsHoldsC, hs1]
def lawSTopC_S : Reads Try.prog 6 where
  ι := ((Option Addr) × (Nat) × (List Int))
  A := fun (i : ((Option Addr) × (Nat) × (List Int))) => match i with | (o, cap, bs) => [.slice o bs.length cap]
  pre := fun (i : ((Option Addr) × (Nat) × (List Int))) (F : Facts) => match i with | (o, cap, bs) => RdB F o bs ∧ ((∀ b ∈ bs, 0 ≤ b ∧ b < 256) ∧ bs.length ≤ cap ∧ cap ≤ maxLen)
  res := fun (i : ((Option Addr) × (Nat) × (List Int))) => match i with | (o, cap, bs) => .bool true
  mono := by
    intro i F G hs h
    first | exact h | exact h.mono hs | exact ⟨h.1.mono hs, h.2⟩ | exact ⟨h.1.mono hs, h.2.1.mono hs, h.2.2⟩ | exact ⟨h.1.mono hs, h.2.1.mono hs⟩
  uniq := by
    rintro ⟨o, cap, bs⟩ ⟨o', cap', bs'⟩ F hA h h'
    simp at hA
    (try simp only [Int.natCast_inj] at hA)
    obtain rfl : bs = bs' := RdB.uniq h.1 h'.1 (by simp_all) (by simp_all)
    simp_all
  enter := Try.call6
  h := fun i w hp => lawSTopC_c i.1 i.2.1 i.2.2 w (by rw [factF_init]; exact hp)
def lawSTopC : Con Try.prog := Con.read lawSTopC_S
theorem lawSTopC_rw {o : Option Addr} {cap : Nat} {bs : List Int} {d : Nat} {cx : Cx} {mem : List Blk} {K : C → Prop} (hpre : RdB (nowF cx mem) o bs ∧ ((∀ b ∈ bs, 0 ≤ b ∧ b < 256) ∧ bs.length ≤ cap ∧ cap ≤ maxLen)) : ReadV d lawSTopC_S cx [.v (.slice o bs.length cap)] mem K = K (.v (.bool true)) := lawSTopC_S.eq (o, cap, bs) rfl hpre
end Go.Proofs.Ytfhnbdlkiemaeaa
