/-
  The law of the verifier and its definition, walked.
-/
import Derived.Test.YtogbbbgmhobfiaaWsw2
set_option linter.unusedVariables false
set_option linter.unusedSimpArgs false
set_option maxRecDepth 100000
set_option maxHeartbeats 4000000
namespace Go.Proofs.Ytogbbbgmhobfiaa
open Go Go.Sx
attribute [local simp] Sx.vcsE1 Sx.vcsE2 Sx.vcsE3 Sx.vcsE4 Sx.vcsE5 Sx.vcsE6 Sx.vcsE7 Sx.vcsE8 Sx.vcsE9 Sx.vcsE10 Sx.vcsE11 Sx.vcsE12 Sx.vcsE13 Sx.vcsE14 Sx.vcsE15 Sx.vcsE16 Sx.vcsE17 Sx.vcsE18 Sx.vcsE19 Sx.get Sx.look Sx.put Sx.pureFn Sx.findOrd Sx.unF Sx.dstOk Sx.isFloatT Sx.endVC Sx.resFn Sx.packC Sx.newFn Sx.storeFn Sx.buildFn Sx.known Sx.aggT Sx.cellsC Sx.findCon Sx.allV Sx.partsV Sx.partsC Sx.fillL Sx.exitTo Sx.fAr Sx.eqFn Sx.eqFieldsFn Sx.eqElemsFn Sx.partFn Sx.sliceFn Sx.boundFn Sx.AppV Sx.CopyV Sx.MakeSliceV Sx.NewsV Sx.GrowV Sx.TextV Sx.bytesL Sx.notInt Sx.typeAt Sx.argAt Sx.den Go.undef Go.Value.cells Go.Value.oneCell' Sx.Con.pure Sx.Con.some Sx.Con.read Sx.Con.make Sx.Con.ext Sx.Con.rel Sx.Con.extS Sx.Con.draw Sx.Con.step Sx.C.one Sx.Draws.steps

theorem lawSTopC_c (o : Option Addr) (cap : Nat) (bs : List Int) (w : World) (hpre : RdB (factF ⟨w, [], w, []⟩) o bs ∧ ((∀ b ∈ bs, 0 ≤ b ∧ b < 256) ∧ bs.length ≤ cap ∧ cap ≤ maxLen)) : Calls Try.prog 3 #[.slice o bs.length cap] w fun e w' => e = .returned (.bool true) ∧ RowKit.Below w.heap.size w w' := by
  refine (plain_of_vcs ⟨[drawSureCheckC, iSureCheckC, sSureCheckC, wsHoldsC], []⟩ hmx Try.func3 rfl (by kernel_rfl) (args := [.slice o bs.length cap]) (by simp [Try.ntmps3]) w (· = .bool true) 400 ?_).mono fun e w' ⟨v, h1, h2, h3⟩ => ⟨h2 ▸ h1, h3⟩
  obtain ⟨h, hb⟩ := hpre
  by_cases hs : bs.length ≤ 1048576
  · have hs1 : ¬ (1048576 : Int) < bs.length := by omega
    simp (maxSteps := 4000000) -dsimp [-List.all_eq_true, -Array.all_eq_true, -Bool.exists_bool, -Bool.forall_bool, and_assoc, List.zipIdx, Try.f3, drawSureCheckC, iSureCheckC, sSureCheckC, wsHoldsC, hs1, Con.gen]
    refine drawSureCheckC_at ⟨h, hb⟩ ?_
    rintro cx1 c mem1 ⟨hle1, rfl, v, xs, rfl, ⟨⟨xo, xcap, rfl, hxd, hxc, hxm⟩⟩, hxl, hxa⟩
    have hxa' : ∀ x ∈ xs, x.args.length ≤ 1048576 := fun x hx => by have := hxa x hx; omega
    have hw := hle1.w0
    have hg := hle1.g0
    have t1 := fun (d : Nat) (mem : List Blk) (K : C → Prop) => iSureCheckC_rw (d := d) (cx := cx1) (mem := mem) (K := K) (o := xo) (cap := xcap) (xs := xs) ⟨hxd.mono (sub_now _ _), by omega, hxa'⟩
    have t2 := fun (d : Nat) (mem : List Blk) (K : C → Prop) => sSureCheckC_rw (d := d) (cx := cx1) (mem := mem) (K := K) (o := xo) (cap := xcap) (xs := xs) ⟨hxd.mono (sub_now _ _), by omega, hxa'⟩
    have t3 := fun (d : Nat) (mem : List Blk) (K : C → Prop) => wsHoldsC_rw (d := d) (cx := cx1) (mem := mem) (K := K) (o := xo) (cap := xcap) (xs := xs) ⟨hxd.mono (sub_now _ _), by omega, hxa'⟩
    have hbd := sureN_bd xs
    rw [wsN_iff] at t3
    simp (maxSteps := 4000000) -dsimp [-List.all_eq_true, -Array.all_eq_true, -Bool.exists_bool, -Bool.forall_bool, and_assoc, List.zipIdx, Try.f3, drawSureCheckC, iSureCheckC, sSureCheckC, wsHoldsC, Con.gen, t1, t2, t3, hbd, hw, hg]
    rfl
  · have hs1 : (1048576 : Int) < bs.length := by omega
    simp (maxSteps := 4000000) -dsimp [-List.all_eq_true, -Array.all_eq_true, -Bool.exists_bool, -Bool.forall_bool, and_assoc, List.zipIdx, Try.f3, drawSureCheckC, iSureCheckC, sSureCheckC, wsHoldsC, hs1]
end Go.Proofs.Ytogbbbgmhobfiaa
