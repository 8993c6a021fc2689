/-
  The program's MemText returns what the reference's returns, for all memories. Conditions: none but that the listed variables hold what the program's text lays in them, which the card ties to the text.
-/
import Derived.Test.YtmlmmaojomghdaaDoorTttt
import Derived.Test.YtmlmmaojomghdaaDoorItt
import Derived.Test.YtmlmmaojomghdaaDoorOltt
import Derived.Test.YtmlmmaojomghdaaDoorTie
import Derived.Test.YtmlmmaojomghdaaDoorCards
set_option linter.unusedVariables false
set_option linter.unusedSimpArgs false
set_option maxRecDepth 100000
namespace Go.Proofs.YtmlmmaojomghdaaDoor
open Go Go.Sx Go.ChangeShapes Go.WideShapes Go.ChangeAt Go.RowKit
attribute [local simp] Sx.vcsE1 Sx.vcsE2 Sx.vcsE3 Sx.vcsE4 Sx.vcsE5 Sx.vcsE6 Sx.vcsE7 Sx.vcsE8 Sx.vcsE9 Sx.vcsE10 Sx.vcsE11 Sx.vcsE12 Sx.vcsE13 Sx.vcsE14 Sx.vcsE15 Sx.vcsE16 Sx.vcsE17 Sx.vcsE18 Sx.vcsE19 Sx.get Sx.look Sx.put Sx.pureFn Sx.findOrd Sx.unF Sx.dstOk Sx.isFloatT Sx.endVC Sx.resFn Sx.packC Sx.newFn Sx.storeFn Sx.buildFn Sx.known Sx.aggT Sx.cellsC Sx.findCon Sx.allV Sx.partsV Sx.partsC Sx.fillL Sx.exitTo Sx.fAr Sx.eqFn Sx.eqFieldsFn Sx.eqElemsFn Sx.partFn Sx.sliceFn Sx.boundFn Sx.AppV Sx.CopyV Sx.MakeSliceV Sx.NewsV Sx.GrowV Sx.TextV Sx.bytesL Sx.notInt Sx.typeAt Sx.argAt Sx.den Go.undef Go.Value.cells Go.Value.oneCell' Sx.Con.pure Sx.Con.some Sx.Con.read Sx.Con.make Sx.Con.ext Sx.Con.rel Sx.Con.extS Sx.Con.draw Sx.Con.step Sx.C.one Sx.Draws.steps

theorem lawMemTextC_c (m : M) (w : World) (hpre : TT (factF ⟨w, [], w, []⟩) ∧ MOk m) : Calls Tryd.prog 4 #[.agg (cells m)] w fun e w' => e = .returned (.bool true) ∧ RowKit.Below w.heap.size w w' := by
  refine (plain_of_vcs ⟨[toMemC, iMemTextC, sMemTextC], []⟩ hmx Tryd.func4 rfl (by kernel_rfl) (args := [.agg (cells m)]) (by simp [Tryd.ntmps4]) w (· = .bool true) 400 ?_).mono fun e w' ⟨v, h1, h2, h3⟩ => ⟨h2 ▸ h1, h3⟩
  obtain ⟨ht, hm⟩ := hpre
  have t0 := fun (d : Nat) (mem : List Blk) (K : C → Prop) => iMemTextC_rw (m := m) (d := d) (cx := ⟨w, [], w, []⟩) (mem := mem) (K := K) ⟨ht.mono (sub_now _ _), hm⟩
  simp (maxSteps := 4000000) -dsimp [-List.all_eq_true, -Array.all_eq_true, -Bool.exists_bool, -Bool.forall_bool, and_assoc, List.zipIdx, Tryd.f4, toMemC, iMemTextC, sMemTextC, t0, hm]
def lawMemTextC_S : Reads Tryd.prog 4 where
  ι := ((M))
  A := fun (m : ((M))) => [.agg (cells m)]
  pre := fun (m : ((M))) (F : Facts) => TT F ∧ MOk m
  res := fun (m : ((M))) => .bool true
  mono := by
    intro i F G hs h
    first | exact h | exact h.mono hs | exact ⟨h.1.mono hs, h.2⟩ | exact ⟨h.1.mono hs, h.2.1.mono hs, h.2.2⟩ | exact ⟨h.1.mono hs, h.2.1.mono hs⟩
  uniq := by
    rintro m m' F hA h h'
    simp at hA
    (try simp only [Int.natCast_inj] at hA)
    simp_all
  enter := Tryd.call4
  h := fun m w hp => lawMemTextC_c m w (by rw [factF_init]; exact hp)
def lawMemTextC : Con Tryd.prog := Con.read lawMemTextC_S
theorem lawMemTextC_rw {m : M} {d : Nat} {cx : Cx} {mem : List Blk} {K : C → Prop} (hpre : TT (nowF cx mem) ∧ MOk m) : ReadV d lawMemTextC_S cx [.v (.agg (cells m))] mem K = K (.v (.bool true)) := lawMemTextC_S.eq m rfl hpre
theorem fnExactMemText_met (os : Os) (args : Array Value) : laidMetH Tryd.prog Rows.fnExactMemTextRow.laid ((World.doorLaid Tryd.prog 400 os).forCall (fun _ _ => 0) ⟨#[], args, []⟩).memory :=
  laidMetH_of_parts3 (fuel := 8) (laidMet_of_run' 8 (by kernel_rfl) (by kernel_rfl)) (by kernel_rfl) (by kernel_rfl)
theorem fnExactMemText_lifted (os : Os) (started : os.Started) (H : Type) (enc : TypeId × Value → H) :
    ReturnsInHanded {} Tryd.checked os 4 .any (fun w args => (Rows.fnExactMemTextSpec.pre enc Tryd.prog Tryd.f4 [] false w args ∧ laidMetH Tryd.prog Rows.fnExactMemTextRow.laid w) ∧ sizedMet enc Tryd.prog Tryd.f4 (OpenSpec.ofChange Rows.fnExactMemTextSpec) false w args) (Rows.fnExactMemTextSpec.post enc Tryd.prog Tryd.f4 false true false false) := by
  refine lifted_of_walkL (C := Tryd.checked) (tb := 4) own started (by kernel_rfl) Tryd.func4
    (ChangeSpec.witness_shaped (enc := enc) (C := Tryd.checked) (os := os) (X := fun w _ => laidMetH Tryd.prog Rows.fnExactMemTextRow.laid w) false (World.doorLaid Tryd.prog 400 os) #[.agg (cells zeroM)] 12 rfl (World.shaped_of_RefB (by kernel_rfl) (by kernel_rfl)) (by kernel_rfl) (by kernel_rfl) (by kernel_rfl) (fnExactMemText_met os _))
    laidOut (by kernel_rfl) (by kernel_rfl) rfl (by kernel_rfl) (by kernel_rfl) (fun ds gs hd hg => ?_) (fun W base args hsz hval htr hL => ?_)
  · obtain ⟨g, rfl⟩ : ∃ g, g = gs := ⟨_, rfl⟩
    match ds, hd with
    | [d0], _ => first
      | (match g, hg with | [_], _ => rfl)
      | (match g, hg with | [_, _], _ => rfl)
      | (match g, hg with | [_, _, _], _ => rfl)
  · obtain ⟨a0, rfl⟩ : ∃ a0, args = #[a0] := by
      obtain ⟨l⟩ := args
      match l, hsz with
      | [a0], _ => exact ⟨a0, rfl⟩
    obtain ⟨m, rfl, h_m⟩ := openMem (hval 0 _ a0 rfl rfl)
    exact lawMemTextC_c m W (by rw [factF_init]; exact ⟨⟨(laid_ints (zs := Lib.pow10Tab) (ik := .u64) hL (List.mem_of_getElem? (i := 2) rfl) (t := 158) (e := 25) (k := 20) (by kernel_rfl) (by kernel_rfl) (by kernel_rfl) (by kernel_rfl) (by kernel_rfl) (by kernel_rfl)).2, laid_strs (zs := words4) hL (List.mem_of_getElem? (i := 3) rfl) (t := 112) (e := 9) (k := 4) (by kernel_rfl) (by kernel_rfl) (by kernel_rfl) (by kernel_rfl) (by kernel_rfl) (by kernel_rfl)⟩, h_m⟩)

theorem fnExactMemText_j0 : Rows.fnExactMemTextRow.wf (OpenSpec.ofChange Rows.fnExactMemTextSpec) = true := by kernel_rfl
theorem fnExactMemText_j3 : (Tryd.f4.params.all (Tryd.prog.readableRec ·) && namedTie Tryd.prog Rows.fnExactMemTextRow.named Rows.fnExactMemTextSpec.vars && (Rows.fnExactMemTextRow.stops == []) && (Tryd.prog.stops == []) && (Rows.fnExactMemTextRow.knobs == []) && (Tryd.prog.stopKnobs == [])) = true := by kernel_rfl
theorem fnExactMemText_j9 : (Rows.fnExactMemTextRow.inPlace == Tryd.prog.inPlace 4) = true := by kernel_rfl
theorem fnExactMemText_j10 : (Rows.fnExactMemTextRow.unfollowed == Tryd.prog.unfollowed 4) = true := by kernel_rfl
theorem fnExactMemText_j11 : (Rows.fnExactMemTextRow.recurses == Tryd.prog.recurses 4) = true := by kernel_rfl
theorem fnExactMemText_j12 : (Rows.fnExactMemTextRow.named == Tryd.prog.varsNamed 4) = true := by kernel_rfl
theorem fnExactMemText_closed : joinedFacts Tryd.prog 4 Tryd.f4 Rows.fnExactMemTextSpec Rows.fnExactMemTextRow = true :=
  joined_of fnExactMemText_j0 fxLaid fxMaps fnExactMemText_j3 fnExactMemText_j9 fnExactMemText_j10 fnExactMemText_j11 fnExactMemText_j12 (by kernel_rfl) (Eq.trans (by kernel_rfl) fxKeys) (by kernel_rfl) fxHeard fxEnter (Eq.trans (by rfl) fxLifts) (Eq.trans (by rfl) fxMake) (by kernel_rfl)
theorem fnExactMemText_row : Rows.FnExactMemTextSaid :=
  OpenClaim.holds_of_wide 4 Tryd.f4 rfl rfl rfl rfl rfl rfl rfl ⟨rfl, rfl, rfl, rfl, rfl⟩ rfl rfl rfl rfl rfl (by kernel_rfl) Tryd.func4 fnExactMemText_closed
    (of_decide_eq_true (by kernel_rfl)) (by unfold Func.isWrapper; first | (rw [if_pos (by decide +kernel)]; kernel_rfl) | (rw [if_neg (by decide +kernel)]; exact ⟨rfl, rfl⟩))
    (fun os started H enc _ => fnExactMemText_lifted os started H enc)
theorem fnExactMemText_holds : Rows.FnExactMemTextCardSaid :=
  Claim7.holds_tied_plain_at .later [] Rows.fnExactMemTextCard.laidKinds true Rows.fnExactMemTextCard.stood.harness Rows.fnExactMemTextCard.stood.looks
    fnExactMemText_row (fun _ h => by cases h) (by kernel_rfl) (fun _ h => by cases h) fnExactMemText_row_tie rfl ⟨rfl, rfl⟩ (by kernel_rfl) rfl
    (fun f fn hf hfn => by
      obtain rfl : f = 4 := (Option.some.inj ((show Tryd.prog.funcNamed Rows.fnExactMemTextRow.func = some 4 by kernel_rfl).symm.trans hf)).symm
      obtain rfl : fn = Tryd.f4 := (Option.some.inj (Tryd.func4.symm.trans hfn)).symm
      refine ⟨by kernel_rfl, fun j t ht => ?_⟩
      have hall : (Tryd.f4.params.toList.all fun t => !Tryd.prog.wantsStandIn t) = true := by kernel_rfl
      have := List.all_eq_true.1 hall t (Array.mem_toList_iff.2 (Array.mem_of_getElem? ht))
      show Tryd.prog.wantsStandIn t = false
      simpa using this)
    (by kernel_rfl)
end Go.Proofs.YtmlmmaojomghdaaDoor
