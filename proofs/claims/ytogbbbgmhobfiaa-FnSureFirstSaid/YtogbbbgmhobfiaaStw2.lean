/-
  Contracts: SureCheck by the program and by the reference; its law, walked.
-/
import Derived.Test.YtogbbbgmhobfiaaSsw2
import Derived.Test.YtogbbbgmhobfiaaSnw2
set_option linter.unusedVariables false
set_option linter.unusedSimpArgs false
set_option maxRecDepth 100000
set_option maxHeartbeats 4000000
namespace Go.Proofs.Ytogbbbgmhobfiaa
open Go Go.Sx

end Go.Proofs.Ytogbbbgmhobfiaa
namespace Go.Proofs.Ytogbbbgmhobfiaa
open Go Go.Sx
open List renaming all_eq_true → Y1, zipIdx → Y5
open Bool renaming exists_bool → Y3, forall_bool → Y4
attribute [local simp] Sx.vcsE1 Sx.vcsE2 Sx.vcsE3 Sx.vcsE4 Sx.vcsE5 Sx.vcsE6 Sx.vcsE7 Sx.vcsE8 Sx.vcsE9 Sx.vcsE10 Sx.vcsE11 Sx.vcsE12 Sx.vcsE13 Sx.vcsE14 Sx.vcsE15 Sx.vcsE16 Sx.vcsE17 Sx.vcsE18 Sx.vcsE19 Sx.get Sx.look Sx.put Sx.pureFn Sx.findOrd Sx.unF Sx.dstOk Sx.isFloatT Sx.endVC Sx.resFn Sx.packC Sx.newFn Sx.storeFn Sx.buildFn Sx.known Sx.aggT Sx.cellsC Sx.findCon Sx.allV Sx.partsV Sx.partsC Sx.fillL Sx.exitTo Sx.fAr Sx.eqFn Sx.eqFieldsFn Sx.eqElemsFn Sx.partFn Sx.sliceFn Sx.boundFn Sx.AppV Sx.CopyV Sx.MakeSliceV Sx.NewsV Sx.GrowV Sx.TextV Sx.bytesL Sx.notInt Sx.typeAt Sx.argAt Sx.den Go.undef Go.Value.cells Go.Value.oneCell' Sx.Con.pure Sx.Con.some Sx.Con.read Sx.Con.make Sx.Con.ext Sx.Con.rel Sx.Con.extS Sx.Con.draw Sx.Con.step Sx.C.one Sx.Draws.steps

theorem iSureCheckC_c (o : Option Addr) (cap : Nat) (xs : List Ins) (w : World) (hpre : RdN (factF ⟨w, [], w, []⟩) o xs ∧ xs.length ≤ 1048576 ∧ (∀ x ∈ xs, x.args.length ≤ 1048576)) : Calls Try.prog 6 #[.slice o xs.length cap] w fun e w' => e = .returned (.agg #[.int .i64 (sureN xs).1, .int .i64 (sureN xs).2]) ∧ RowKit.Below w.heap.size w w' := by
  refine (plain_of_vcs ⟨[wrongC, thenC], [(11, [(0, false), (1, false), (2, false), (3, false), (4, false), (5, false), (6, false), (5, true), (7, false)])]⟩ hmx Try.func6 rfl (by kernel_rfl) (args := [.slice o xs.length cap]) (by simp [Try.ntmps6]) w (· = .agg #[.int .i64 (sureN xs).1, .int .i64 (sureN xs).2]) 400 ?_).mono fun e w' ⟨v, h1, h2, h3⟩ => ⟨h2 ▸ h1, h3⟩
  obtain ⟨h, hl, ha⟩ := hpre
  unfold sureN
  by_cases hm : xs.length ≤ 1000
  · have hm1 : ¬ (1000 : Int) < xs.length := by omega
    simp only [hm, if_true]
    obtain ⟨q0, hq0⟩ : ∃ q0, q0 = sureGo xs xs.length 0 := ⟨_, rfl⟩
    rw [← hq0]
    simp (maxSteps := 4000000) -dsimp [-Y1, -Array.all_eq_true, -Y3, -Y4, and_assoc, Y5, Try.f6, wrongC, thenC, hm1]
    intro b b1
    refine loop_inv (σ := ⟨[wrongC, thenC], [(11, [(0, false), (1, false), (2, false), (3, false), (4, false), (5, false), (6, false), (5, true), (7, false)])]⟩) hmx (by kernel_rfl) (fun q cx tm mem => cx = ⟨w, [], w, []⟩ ∧ ∃ (i : Nat), i ≤ xs.length ∧ q = xs.length - i ∧ q0 = sureGo xs (xs.length - i) i ∧ mem = [⟨b, [.v (.int .i64 0), .v (.int .i64 0)], 26⟩, ⟨b1, [.v (.int .i64 (hB xs i)), .v (.int .i64 (hF xs i))], 32⟩] ∧
        Sx.look tm 16 = .v (.int .i64 i) ∧ Sx.look tm 15 = .v (.int .i64 xs.length) ∧ Sx.look tm 14 = .v (.slice o xs.length cap) ∧ Sx.look tm 3 = .p 1 b1 0 ∧ Sx.look tm 2 = .p 0 b 0 ∧ Sx.look tm 4 = .v (.bool (baseN xs i)) ∧ Sx.look tm 5 = .v (.int .i64 (lastC xs i)) ∧ Sx.look tm 0 = .v (.slice o xs.length cap))
      xs.length ⟨rfl, 0, by omega, rfl, hq0, rfl, by simp [Sx.look], by simp [Sx.look], by simp [Sx.look], by simp [Sx.look], by simp [Sx.look], by simp [Sx.look, baseN], by simp [Sx.look, lastC], by simp [Sx.look]⟩ ?_
    rintro q cx tm mem ⟨rfl, i, hi, rfl, hq, rfl, j16, j15, j14, j3, j2, j4, j5, j0⟩
    refine ⟨400, ?_⟩
    by_cases hlt : i < xs.length
    · obtain ⟨x, hx⟩ : ∃ x, xs[i]? = some x := ⟨xs[i], by simp [hlt]⟩
      obtain ⟨o', cap', hat⟩ := h.at hx
      have hax := ha x (List.mem_of_getElem? hx)
      have a1 := hB_abs xs i hi
      have a2 := hF_abs xs i hi
      have hp : -1048576 ≤ hB xs i ∧ hB xs i ≤ 1048576 ∧ -1048576 ≤ hF xs i ∧ hF xs i ≤ 1048576 := by omega
      have y := fun d mem K => wrongC_rw (code := x.code) (op := x.op) (cap := cap') (xs := x.args) (b := hB xs i) (f := hF xs i) (base := baseN xs i) (bf := lastC xs i) (d := d) (cx := ⟨w, [], w, []⟩) (mem := mem) (K := K) ⟨hat.args.mono (sub_now _ _), hax, hat.le.1, by have := hat.le.2; unfold maxLen at this; omega⟩
      have ey : wrongN ⟨x.code, x.op, x.args⟩ (hB xs i) (hF xs i) (baseN xs i) (lastC xs i == 10) = wrAt xs i x := rfl
      simp only [ey] at y
      have eg : xs.length - i = (xs.length - (i + 1)) + 1 := by omega
      rw [eg, sureGo_succ hx] at hq
      by_cases hz : wrAt xs i x = 0
      · simp only [hz, ne_eq, not_true_eq_false, if_false] at hq
        have eb := baseN_succ hx
        have el := lastC_succ hx
        have e1 := hB_succ hx
        have e2 := hF_succ hx
        by_cases c11 : x.code = 11
        · rw [c11] at eb
          simp only [c11] at y
          simp (maxSteps := 4000000) -dsimp [-Y1, -Array.all_eq_true, -Y3, -Y4, and_assoc, Y5, Try.f6, wrongC, thenC, j16, j15, j14, j3, j2, j4, j5, j0, hlt, h.there hlt, hat.all, y, hz, hp, c11, i_succ (i := i) (by omega)]
          exact fun _ => ⟨2, _, by omega, i + 1, by omega, rfl, hq, by rw [e1, e2, c11]; rfl, by omega, by rw [eb]; simp, by rw [el, c11]⟩
        by_cases c10 : x.code = 10
        · rw [c10] at eb
          simp only [c10] at y
          simp (maxSteps := 4000000) -dsimp [-Y1, -Array.all_eq_true, -Y3, -Y4, and_assoc, Y5, Try.f6, wrongC, thenC, j16, j15, j14, j3, j2, j4, j5, j0, hlt, h.there hlt, hat.all, y, hz, hp, c10, i_succ (i := i) (by omega)]
          cases hbb : baseN xs i <;> simp
          all_goals exact fun _ => ⟨2, _, by omega, i + 1, by omega, rfl, hq, by rw [e1, e2, c10]; rfl, by omega, by rw [eb]; simp [hbb], by rw [el, c10]⟩
        by_cases c7 : x.code = 7
        · rw [c7] at eb
          simp only [c7] at y
          simp (maxSteps := 4000000) -dsimp [-Y1, -Array.all_eq_true, -Y3, -Y4, and_assoc, Y5, Try.f6, wrongC, thenC, j16, j15, j14, j3, j2, j4, j5, j0, hlt, h.there hlt, hat.all, y, hz, hp, c7, i_succ (i := i) (by omega)]
          cases hbb : baseN xs i <;> simp
          all_goals exact fun _ => ⟨2, _, by omega, i + 1, by omega, rfl, hq, by rw [e1, e2, c7]; rfl, by omega, by rw [eb]; simp [hbb], by rw [el, c7]⟩
        · have c11' : (x.code != 11) = true := bne_iff_ne.mpr c11
          have c10' : (x.code == 10) = false := beq_eq_false_iff_ne.mpr c10
          have c7' : (x.code == 7) = false := beq_eq_false_iff_ne.mpr c7
          simp (maxSteps := 4000000) -dsimp [-Y1, -Array.all_eq_true, -Y3, -Y4, and_assoc, Y5, Try.f6, wrongC, thenC, j16, j15, j14, j3, j2, j4, j5, j0, hlt, h.there hlt, hat.all, y, hz, hp, c11, c10, c7, i_succ (i := i) (by omega)]
          cases hbb : baseN xs i <;> simp
          all_goals exact fun _ => ⟨2, _, by omega, i + 1, by omega, rfl, hq, by rw [e1, e2]; rfl, by omega, by rw [eb, c11', c10', c7', hbb]; rfl, by rw [el]⟩
      · simp only [hz, ne_eq, not_false_eq_true, if_true] at hq
        rw [hq]
        simp (maxSteps := 4000000) -dsimp [-Y1, -Array.all_eq_true, -Y3, -Y4, and_assoc, Y5, Try.f6, wrongC, thenC, j16, j15, j14, j3, j2, j4, j5, j0, hlt, h.there hlt, hat.all, y, hz]
    · obtain rfl : i = xs.length := by omega
      rw [Nat.sub_self, sureGo] at hq
      rw [hq]
      by_cases hz : hB xs xs.length = 0
      · simp (maxSteps := 4000000) -dsimp [-Y1, -Array.all_eq_true, -Y3, -Y4, and_assoc, Y5, Try.f6, wrongC, thenC, j16, j15, j14, j3, j2, j4, j5, j0, hz]
      · simp (maxSteps := 4000000) -dsimp [-Y1, -Array.all_eq_true, -Y3, -Y4, and_assoc, Y5, Try.f6, wrongC, thenC, j16, j15, j14, j3, j2, j4, j5, j0, hz]
  · have hm1 : (1000 : Int) < xs.length := by omega
    simp only [hm, if_false]
    simp (maxSteps := 4000000) -dsimp [-Y1, -Array.all_eq_true, -Y3, -Y4, and_assoc, Y5, Try.f6, wrongC, thenC, hm1]
def iSureCheckC_S : Reads Try.prog 6 where
  ι := ((Option Addr) × (Nat) × (List Ins))
  A := fun (i : ((Option Addr) × (Nat) × (List Ins))) => match i with | (o, cap, xs) => [.slice o xs.length cap]
  pre := fun (i : ((Option Addr) × (Nat) × (List Ins))) (F : Facts) => match i with | (o, cap, xs) => RdN F o xs ∧ xs.length ≤ 1048576 ∧ (∀ x ∈ xs, x.args.length ≤ 1048576)
  res := fun (i : ((Option Addr) × (Nat) × (List Ins))) => match i with | (o, cap, xs) => .agg #[.int .i64 (sureN xs).1, .int .i64 (sureN xs).2]
  mono := by
    intro i F G hs h
    first | exact h | exact h.mono hs | exact ⟨h.1.mono hs, h.2⟩ | exact ⟨h.1.mono hs, h.2.1.mono hs, h.2.2⟩ | exact ⟨h.1.mono hs, h.2.1.mono hs⟩ | exact ⟨h.1.mono hs, h.2.1.mono hs, h.2.2.1.mono hs, h.2.2.2⟩
  uniq := by
    rintro ⟨o, cap, xs⟩ ⟨o', cap', xs'⟩ F hA h h'
    simp at hA
    (try simp only [Int.natCast_inj] at hA)
    obtain rfl : xs = xs' := RdN.uniq h.1 h'.1 (by simp_all) (by simp_all)
    simp_all
  enter := Try.call6
  h := fun i w hp => iSureCheckC_c i.1 i.2.1 i.2.2 w (by rw [factF_init]; exact hp)
def iSureCheckC : Con Try.prog := Con.read iSureCheckC_S
theorem iSureCheckC_rw {o : Option Addr} {cap : Nat} {xs : List Ins} {d : Nat} {cx : Cx} {mem : List Blk} {K : C → Prop} (hpre : RdN (nowF cx mem) o xs ∧ xs.length ≤ 1048576 ∧ (∀ x ∈ xs, x.args.length ≤ 1048576)) : ReadV d iSureCheckC_S cx [.v (.slice o xs.length cap)] mem K = K (.v (.agg #[.int .i64 (sureN xs).1, .int .i64 (sureN xs).2])) := iSureCheckC_S.eq (o, cap, xs) rfl hpre
theorem sSureCheckC_c (o : Option Addr) (cap : Nat) (xs : List Ins) (w : World) (hpre : RdN (factF ⟨w, [], w, []⟩) o xs ∧ xs.length ≤ 1048576 ∧ (∀ x ∈ xs, x.args.length ≤ 1048576)) : Calls Try.prog 7 #[.slice o xs.length cap] w fun e w' => e = .returned (.agg #[.int .i64 (sureN xs).1, .int .i64 (sureN xs).2]) ∧ RowKit.Below w.heap.size w w' := by
  refine (plain_of_vcs ⟨[sWrongC, sNextC], []⟩ hmx Try.func7 rfl (by kernel_rfl) (args := [.slice o xs.length cap]) (by simp [Try.ntmps7]) w (· = .agg #[.int .i64 (sureN xs).1, .int .i64 (sureN xs).2]) 400 ?_).mono fun e w' ⟨v, h1, h2, h3⟩ => ⟨h2 ▸ h1, h3⟩
  obtain ⟨h, hl, ha⟩ := hpre
  unfold sureN
  by_cases hm : xs.length ≤ 1000
  · have hm1 : ¬ (1000 : Int) < xs.length := by omega
    simp only [hm, if_true]
    obtain ⟨q0, hq0⟩ : ∃ q0, q0 = sureGo xs xs.length 0 := ⟨_, rfl⟩
    rw [← hq0]
    simp (maxSteps := 4000000) -dsimp [-Y1, -Array.all_eq_true, -Y3, -Y4, and_assoc, Y5, Try.f7, sWrongC, sNextC, hm1]
    intro b b1
    refine loop_inv (σ := ⟨[sWrongC, sNextC], []⟩) hmx (by kernel_rfl) (fun q cx tm mem => cx = ⟨w, [], w, []⟩ ∧ ∃ (i : Nat), i ≤ xs.length ∧ q = xs.length - i ∧ q0 = sureGo xs (xs.length - i) i ∧ Fine (hB xs i) (hF xs i) ∧ mem = [⟨b, [.v (.int .i64 0), .v (.int .i64 0)], 26⟩, ⟨b1, [.v (.int .i64 (hB xs i)), .v (.int .i64 (hF xs i)), .v (.bool (baseN xs i)), .v (.bool (lastC xs i == 10 && true))], 41⟩] ∧
        Sx.look tm 4 = .v (.int .i64 i) ∧ Sx.look tm 3 = .p 1 b1 0 ∧ Sx.look tm 2 = .p 0 b 0 ∧ Sx.look tm 0 = .v (.slice o xs.length cap))
      xs.length ⟨rfl, 0, by omega, rfl, hq0, fine_zero, rfl, by simp [Sx.look], by simp [Sx.look], by simp [Sx.look], by simp [Sx.look]⟩ ?_
    rintro q cx tm mem ⟨rfl, i, hi, rfl, hq, hfine, rfl, j4, j3, j2, j0⟩
    refine ⟨400, ?_⟩
    simp only [Bool.and_true]
    by_cases hlt : i < xs.length
    · obtain ⟨x, hx⟩ : ∃ x, xs[i]? = some x := ⟨xs[i], by simp [hlt]⟩
      obtain ⟨o', cap', hat⟩ := h.at hx
      have hax := ha x (List.mem_of_getElem? hx)
      have a1 := hB_abs xs i hi
      have a2 := hF_abs xs i hi
      have hp : -1048576 ≤ hB xs i ∧ hB xs i ≤ 1048576 ∧ -1048576 ≤ hF xs i ∧ hF xs i ≤ 1048576 := by omega
      have y := fun d mem K => sWrongC_rw (code := x.code) (op := x.op) (cap := cap') (xs := x.args) (b := hB xs i) (f := hF xs i) (base := baseN xs i) (coil := lastC xs i == 10) (d := d) (cx := ⟨w, [], w, []⟩) (mem := mem) (K := K) ⟨hat.args.mono (sub_now _ _), hax, hfine⟩
      have ey : wrongN ⟨x.code, x.op, x.args⟩ (hB xs i) (hF xs i) (baseN xs i) (lastC xs i == 10) = wrAt xs i x := rfl
      simp only [ey] at y
      have eg : xs.length - i = (xs.length - (i + 1)) + 1 := by omega
      rw [eg, sureGo_succ hx] at hq
      generalize hcl : (lastC xs i == 10) = cl at *
      have hnn : 0 ≤ wrAt xs i x := by unfold wrAt wrongN; (repeat' split) <;> omega
      by_cases hz : wrAt xs i x = 0
      · simp only [hz, ne_eq, not_true_eq_false, if_false] at hq
        have eb := baseN_succ hx
        have el := lastC_succ hx
        have e1 := hB_succ hx
        have e2 := hF_succ hx
        obtain ⟨s1, s2, s3⟩ := wrong_step (x := x) hz hfine
        rw [← e1, ← e2] at s1
        have hc := insOk_code s3
        have n1 : nxI (hB xs i) x.code (dB x.code) = hB xs (i + 1) := by
          unfold nxI
          split
          · rename_i c11; rw [e1]; exact (s2 c11).1.symm
          · exact e1.symm
        have n2 : nxI (hF xs i) x.code (dF x.code) = hF xs (i + 1) := by
          unfold nxI
          split
          · rename_i c11; rw [e2]; exact (s2 c11).2.symm
          · exact e2.symm
        have n3 : nxBase (baseN xs i) x.code = baseN xs (i + 1) := eb.symm
        have n4 : (x.code == 10) = (lastC xs (i + 1) == 10) := by rw [el]
        simp (maxSteps := 4000000) -dsimp [-Y1, -Array.all_eq_true, -Y3, -Y4, and_assoc, Y5, Try.f7, sWrongC, sNextC, j4, j3, j2, j0, hlt, h.there hlt, hat.all, hat.code, y, hz, hp, i_succ (i := i) (by omega)]
        exact ⟨2, _, by omega, i + 1, by omega, rfl, hq, s1, by rw [n1, n2, n3, n4]; rfl, by omega⟩
      · have hgt : 0 < wrAt xs i x := by omega
        simp only [hz, ne_eq, not_false_eq_true, if_true] at hq
        rw [hq]
        simp (maxSteps := 4000000) -dsimp [-Y1, -Array.all_eq_true, -Y3, -Y4, and_assoc, Y5, Try.f7, sWrongC, sNextC, j4, j3, j2, j0, hlt, h.there hlt, hat.all, y, hgt]
    · obtain rfl : i = xs.length := by omega
      rw [Nat.sub_self, sureGo] at hq
      rw [hq]
      obtain ⟨f1, f2, f3, f4⟩ := hfine
      by_cases hz : hB xs xs.length = 0
      · simp (maxSteps := 4000000) -dsimp [-Y1, -Array.all_eq_true, -Y3, -Y4, and_assoc, Y5, Try.f7, sWrongC, sNextC, j4, j3, j2, j0, hz]
      · have hgt : 0 < hB xs xs.length := by omega
        simp (maxSteps := 4000000) -dsimp [-Y1, -Array.all_eq_true, -Y3, -Y4, and_assoc, Y5, Try.f7, sWrongC, sNextC, j4, j3, j2, j0, hz, hgt]
  · have hm1 : (1000 : Int) < xs.length := by omega
    simp only [hm, if_false]
    simp (maxSteps := 4000000) -dsimp [-Y1, -Array.all_eq_true, -Y3, -Y4, and_assoc, Y5, Try.f7, sWrongC, sNextC, hm1]
def sSureCheckC_S : Reads Try.prog 7 where
  ι := ((Option Addr) × (Nat) × (List Ins))
  A := fun (i : ((Option Addr) × (Nat) × (List Ins))) => match i with | (o, cap, xs) => [.slice o xs.length cap]
  pre := fun (i : ((Option Addr) × (Nat) × (List Ins))) (F : Facts) => match i with | (o, cap, xs) => RdN F o xs ∧ xs.length ≤ 1048576 ∧ (∀ x ∈ xs, x.args.length ≤ 1048576)
  res := fun (i : ((Option Addr) × (Nat) × (List Ins))) => match i with | (o, cap, xs) => .agg #[.int .i64 (sureN xs).1, .int .i64 (sureN xs).2]
  mono := by
    intro i F G hs h
    first | exact h | exact h.mono hs | exact ⟨h.1.mono hs, h.2⟩ | exact ⟨h.1.mono hs, h.2.1.mono hs, h.2.2⟩ | exact ⟨h.1.mono hs, h.2.1.mono hs⟩ | exact ⟨h.1.mono hs, h.2.1.mono hs, h.2.2.1.mono hs, h.2.2.2⟩
  uniq := by
    rintro ⟨o, cap, xs⟩ ⟨o', cap', xs'⟩ F hA h h'
    simp at hA
    (try simp only [Int.natCast_inj] at hA)
    obtain rfl : xs = xs' := RdN.uniq h.1 h'.1 (by simp_all) (by simp_all)
    simp_all
  enter := Try.call7
  h := fun i w hp => sSureCheckC_c i.1 i.2.1 i.2.2 w (by rw [factF_init]; exact hp)
def sSureCheckC : Con Try.prog := Con.read sSureCheckC_S
theorem sSureCheckC_rw {o : Option Addr} {cap : Nat} {xs : List Ins} {d : Nat} {cx : Cx} {mem : List Blk} {K : C → Prop} (hpre : RdN (nowF cx mem) o xs ∧ xs.length ≤ 1048576 ∧ (∀ x ∈ xs, x.args.length ≤ 1048576)) : ReadV d sSureCheckC_S cx [.v (.slice o xs.length cap)] mem K = K (.v (.agg #[.int .i64 (sureN xs).1, .int .i64 (sureN xs).2])) := sSureCheckC_S.eq (o, cap, xs) rfl hpre
end Go.Proofs.Ytogbbbgmhobfiaa
