/-
  The law of lists written and read back, walked.
-/
import Derived.Test.YtclbanhoiaieaaaGreatDoorUkva
import Derived.Test.YtclbanhoiaieaaaGreatDoorUova
import Derived.Test.YtclbanhoiaieaaaGreatDoorIlva
import Derived.Test.YtclbanhoiaieaaaGreatDoorTuva
set_option linter.unusedVariables false
set_option linter.unusedSimpArgs false
set_option maxRecDepth 100000
set_option maxHeartbeats 4000000
namespace Go.Sx
open Go
def okTo (xs : List Ins) (i : Nat) : Bool := decide ((xs.length : Int) ≤ 1000) && (xs.take i).all insOk
theorem okTo_zero (xs : List Ins) : decide ((xs.length : Int) ≤ 1000) = okTo xs 0 := by simp [okTo]
theorem okTo_step {xs : List Ins} {i : Nat} {x : Ins} (hx : xs[i]? = some x) : okTo xs (i + 1) = (okTo xs i && insOk x) := by
  unfold okTo
  rw [List.take_add_one, hx, List.all_append, ← Bool.and_assoc]
  simp
theorem okTo_end (xs : List Ins) : okTo xs xs.length = decide (xs.length ≤ 1000 ∧ xs.all insOk = true) := by
  unfold okTo
  rw [List.take_length]
  cases xs.all insOk
  · simp
  · simp
    omega
end Go.Sx
namespace Go.Proofs.YtclbanhoiaieaaaGreatDoor
open Go Go.Sx
attribute [local simp] Sx.vcsE1 Sx.vcsE2 Sx.vcsE3 Sx.vcsE4 Sx.vcsE5 Sx.vcsE6 Sx.vcsE7 Sx.vcsE8 Sx.vcsE9 Sx.vcsE10 Sx.vcsE11 Sx.vcsE12 Sx.vcsE13 Sx.vcsE14 Sx.vcsE15 Sx.vcsE16 Sx.vcsE17 Sx.vcsE18 Sx.vcsE19 Sx.get Sx.look Sx.put Sx.pureFn Sx.findOrd Sx.unF Sx.dstOk Sx.isFloatT Sx.endVC Sx.resFn Sx.packC Sx.newFn Sx.storeFn Sx.buildFn Sx.known Sx.aggT Sx.cellsC Sx.findCon Sx.allV Sx.partsV Sx.partsC Sx.fillL Sx.exitTo Sx.fAr Sx.eqFn Sx.eqFieldsFn Sx.eqElemsFn Sx.partFn Sx.sliceFn Sx.boundFn Sx.AppV Sx.CopyV Sx.MakeSliceV Sx.NewsV Sx.GrowV Sx.TextV Sx.bytesL Sx.notInt Sx.typeAt Sx.argAt Sx.den Go.undef Go.Value.cells Go.Value.oneCell' Sx.Con.pure Sx.Con.some Sx.Con.read Sx.Con.make Sx.Con.ext Sx.Con.rel Sx.Con.extS Sx.Con.draw Sx.Con.step Sx.C.one Sx.Draws.steps

theorem lawListBackC_c (o : Option Addr) (cap : Nat) (bs : List Int) (w : World) (hpre : RdB (factF ⟨w, [], w, []⟩) o bs ∧ TM (factF ⟨w, [], w, []⟩) ∧ ((∀ b ∈ bs, 0 ≤ b ∧ b < 256) ∧ bs.length ≤ cap ∧ cap ≤ maxLen)) : Calls Tryz.prog 8 #[.slice o bs.length cap] w fun e w' => e = .returned (.bool true) ∧ RowKit.Below w.heap.size w w' := by
  refine (plain_of_vcs ⟨[drawListTextC, iListTextC, sListTextC, sListOkC, iListParseC, listSameC], []⟩ hmx Tryz.func8 rfl (by kernel_rfl) (args := [.slice o bs.length cap]) (by simp [Tryz.ntmps8]) w (· = .bool true) 500 ?_).mono fun e w' ⟨v, h1, h2, h3⟩ => ⟨h2 ▸ h1, h3⟩
  obtain ⟨h, ht, hb1, hb2, hb3⟩ := hpre
  by_cases hs : 1048576 < bs.length
  · have hs1 : (1048576 : Int) < bs.length := by omega
    simp (maxSteps := 4000000) -dsimp [-List.all_eq_true, -Array.all_eq_true, -Bool.exists_bool, -Bool.forall_bool, and_assoc, List.zipIdx, Tryz.f8, drawListTextC, iListTextC, sListTextC, sListOkC, iListParseC, listSameC, hs1]
  have hs1 : ¬ (1048576 : Int) < bs.length := by omega
  simp (maxSteps := 4000000) -dsimp [-List.all_eq_true, -Array.all_eq_true, -Bool.exists_bool, -Bool.forall_bool, and_assoc, List.zipIdx, Tryz.f8, drawListTextC, iListTextC, sListTextC, sListOkC, iListParseC, listSameC, hs1, Con.gen]
  refine drawListTextC_at ⟨h, hb1, hb2, hb3⟩ ?_
  rintro cx1 c mem1 ⟨hle1, rfl, o1, cap1, xs, rfl, hd, g1, g2, hxl, hxa⟩
  have hx1 : ∀ x ∈ xs, x.args.length ≤ 1048576 := fun x hx => by have := hxa x hx; omega
  have hTM : ∀ {cx' : Cx} {mem : List Blk}, Le cx1 cx' → TM (nowF cx' mem) := fun g => ht.mono ((hle1.trans g).fact.trans (sub_now _ _))
  have hTL : ∀ {cx' : Cx} {mem : List Blk}, Le cx1 cx' → TL (nowF cx' mem) := fun g => ⟨(hTM g).e.c.t, (hTM g).e.c.n, (hTM g).w⟩
  have t1 := fun (d : Nat) (mem : List Blk) (K : C → Prop) => iListTextC_rw (cap := cap1) (d := d) (cx := cx1) (mem := mem) (K := K) ⟨hd.mono (sub_now _ _), hTL (Le.refl _), by omega, hx1⟩
  have t2 := fun (d : Nat) (mem : List Blk) (K : C → Prop) => sListTextC_rw (cap := cap1) (d := d) (cx := cx1) (mem := mem) (K := K) ⟨hd.mono (sub_now _ _), by omega, hx1⟩
  simp (maxSteps := 4000000) -dsimp [-List.all_eq_true, -Array.all_eq_true, -Bool.exists_bool, -Bool.forall_bool, and_assoc, List.zipIdx, Tryz.f8, drawListTextC, iListTextC, sListTextC, sListOkC, iListParseC, listSameC, t1, t2, txt_eta, Con.gen]
  refine loop_inv (σ := ⟨[drawListTextC, iListTextC, sListTextC, sListOkC, iListParseC, listSameC], []⟩) hmx (by kernel_rfl) (fun m cx' tm mem => cx' = cx1 ∧ mem = [] ∧ ∃ i : Nat, i ≤ xs.length ∧ m = xs.length - i ∧ Sx.look tm 6 = .v (.int .i64 i) ∧ Sx.look tm 5 = .v (.bool (okTo xs i)) ∧ Sx.look tm 4 = .v (.string (txt (listL xs))) ∧ Sx.look tm 3 = .v (.slice o1 xs.length cap1))
    xs.length ⟨rfl, rfl, 0, by omega, rfl, by simp [Sx.look], by rw [← okTo_zero]; simp [Sx.look], by simp [Sx.look], by simp [Sx.look]⟩ ?_
  rintro m cx' tm mem ⟨rfl, rfl, i, hi, rfl, j6, j5, j4, j3⟩
  refine ⟨500, ?_⟩
  by_cases hlt : i < xs.length
  · obtain ⟨x, hx⟩ : ∃ x, xs[i]? = some x := ⟨xs[i], by simp [hlt]⟩
    obtain ⟨o', cap', hat⟩ := hd.at hx
    have y := fun (d : Nat) (mem : List Blk) (K : C → Prop) => sListOkC_rw (code := x.code) (op := x.op) (cap := cap') (d := d) (cx := cx') (mem := mem) (K := K) ⟨hat.args.mono (sub_now _ _), hx1 x (List.mem_of_getElem? hx)⟩
    have enext := okTo_step hx
    have hxe : insOk ⟨x.code, x.op, x.args⟩ = insOk x := rfl
    rw [hxe] at y
    generalize hB : okTo xs i = B at *
    have hth := hd.there hlt
    cases B
    · rw [Bool.false_and] at enext
      simp (maxSteps := 4000000) -dsimp [-List.all_eq_true, -Array.all_eq_true, -Bool.exists_bool, -Bool.forall_bool, and_assoc, List.zipIdx, Tryz.f8, drawListTextC, iListTextC, sListTextC, sListOkC, iListParseC, listSameC, j6, j5, j4, j3, hlt, hth, hat.all, y, i_succ (i := i) (by omega), Con.gen]
      exact ⟨xs.length - (i + 1), by omega, i + 1, by omega, rfl, by omega, enext⟩
    · rw [Bool.true_and] at enext
      simp (maxSteps := 4000000) -dsimp [-List.all_eq_true, -Array.all_eq_true, -Bool.exists_bool, -Bool.forall_bool, and_assoc, List.zipIdx, Tryz.f8, drawListTextC, iListTextC, sListTextC, sListOkC, iListParseC, listSameC, j6, j5, j4, j3, hlt, hth, hat.all, y, i_succ (i := i) (by omega), Con.gen]
      exact ⟨xs.length - (i + 1), by omega, i + 1, by omega, rfl, by omega, enext.symm⟩
  · obtain rfl : i = xs.length := by omega
    rw [okTo_end] at j5
    by_cases hok : xs.length ≤ 1000 ∧ xs.all insOk = true
    · rw [decide_eq_true hok] at j5
      by_cases h0 : xs = []
      · subst h0
        have hnil : listL [] = [] := rfl
        rw [hnil] at j4
        simp (maxSteps := 4000000) -dsimp [-List.all_eq_true, -Array.all_eq_true, -Bool.exists_bool, -Bool.forall_bool, and_assoc, List.zipIdx, Tryz.f8, drawListTextC, iListTextC, sListTextC, sListOkC, iListParseC, listSameC, j6, j5, j4, j3, Con.gen]
        exact ⟨hle1.w0, hle1.g0⟩
      have hp : 0 < xs.length := List.length_pos_iff.2 h0
      have hne : ¬ (xs.length : Int) = 0 := by omega
      have hne2 : ¬ xs.length = 0 := by omega
      simp (maxSteps := 4000000) -dsimp [-List.all_eq_true, -Array.all_eq_true, -Bool.exists_bool, -Bool.forall_bool, and_assoc, List.zipIdx, Tryz.f8, drawListTextC, iListTextC, sListTextC, sListOkC, iListParseC, listSameC, j6, j5, j4, j3, hne, hne2, h0, Con.gen]
      refine ⟨listL xs, rfl, ⟨hTM (Le.refl _), by have := list_short xs; omega⟩, ?_⟩
      rintro cx2 v hle2 hv
      obtain ⟨o2, cap2, rfl, hd2, c1, c2⟩ := hv.ex
      have hr := listRd_list (List.all_eq_true.1 hok.2) hok.1 (list_short xs)
      have hd3 : RdN (factF cx2) o2 xs := by
        rw [hr] at hd2
        exact hd2.mono (sub_new _)
      have t3 := fun (d : Nat) (mem : List Blk) (K : C → Prop) => iListTextC_rw (cap := cap2) (d := d) (cx := cx2) (mem := mem) (K := K) ⟨hd3.mono (sub_now _ _), hTL hle2, by omega, hx1⟩
      have s3 := fun (d : Nat) (mem : List Blk) (K : C → Prop) => listSameC_rw (cap := cap2) (cap2 := cap1) (d := d) (cx := cx2) (mem := mem) (K := K) ⟨hd3.mono (sub_now _ _), hd.mono (hle2.fact.trans (sub_now _ _)), by omega, by omega, hx1, hx1⟩
      simp (maxSteps := 4000000) -dsimp [-List.all_eq_true, -Array.all_eq_true, -Bool.exists_bool, -Bool.forall_bool, and_assoc, List.zipIdx, Tryz.f8, drawListTextC, iListTextC, sListTextC, sListOkC, iListParseC, listSameC, j6, j5, j4, j3, hr, t3, s3, Con.gen]
      exact ⟨(hle1.trans hle2).w0, (hle1.trans hle2).g0⟩
    · rw [decide_eq_false hok] at j5
      have hnil : listL xs = [] := by unfold listL; rw [if_neg hok]
      rw [hnil] at j4
      simp (maxSteps := 4000000) -dsimp [-List.all_eq_true, -Array.all_eq_true, -Bool.exists_bool, -Bool.forall_bool, and_assoc, List.zipIdx, Tryz.f8, drawListTextC, iListTextC, sListTextC, sListOkC, iListParseC, listSameC, j6, j5, j4, j3, Con.gen]
      exact ⟨hle1.w0, hle1.g0⟩
end Go.Proofs.YtclbanhoiaieaaaGreatDoor
