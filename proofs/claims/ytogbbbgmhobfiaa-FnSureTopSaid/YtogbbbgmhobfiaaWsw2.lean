/-
  Contracts: the definition of a verified list; the law of the verifier, walked.
-/
import Derived.Test.YtogbbbgmhobfiaaGsw2
import Derived.Test.YtogbbbgmhobfiaaSsw2
import Derived.Test.YtogbbbgmhobfiaaStw2
import Derived.Test.YtogbbbgmhobfiaaSvw2
set_option linter.unusedVariables false
set_option linter.unusedSimpArgs false
set_option maxRecDepth 100000
set_option maxHeartbeats 4000000
namespace Go.Proofs.Ytogbbbgmhobfiaa
open Go Go.Sx
attribute [local simp] Sx.vcsE1 Sx.vcsE2 Sx.vcsE3 Sx.vcsE4 Sx.vcsE5 Sx.vcsE6 Sx.vcsE7 Sx.vcsE8 Sx.vcsE9 Sx.vcsE10 Sx.vcsE11 Sx.vcsE12 Sx.vcsE13 Sx.vcsE14 Sx.vcsE15 Sx.vcsE16 Sx.vcsE17 Sx.vcsE18 Sx.vcsE19 Sx.get Sx.look Sx.put Sx.pureFn Sx.findOrd Sx.unF Sx.dstOk Sx.isFloatT Sx.endVC Sx.resFn Sx.packC Sx.newFn Sx.storeFn Sx.buildFn Sx.known Sx.aggT Sx.cellsC Sx.findCon Sx.allV Sx.partsV Sx.partsC Sx.fillL Sx.exitTo Sx.fAr Sx.eqFn Sx.eqFieldsFn Sx.eqElemsFn Sx.partFn Sx.sliceFn Sx.boundFn Sx.AppV Sx.CopyV Sx.MakeSliceV Sx.NewsV Sx.GrowV Sx.TextV Sx.bytesL Sx.notInt Sx.typeAt Sx.argAt Sx.den Go.undef Go.Value.cells Go.Value.oneCell' Sx.Con.pure Sx.Con.some Sx.Con.read Sx.Con.make Sx.Con.ext Sx.Con.rel Sx.Con.extS Sx.Con.draw Sx.Con.step Sx.C.one Sx.Draws.steps

theorem insOk_cases {x : Ins} (h : insOk x = true) : x.code = 1 ∨ x.code = 2 ∨ x.code = 3 ∨ x.code = 4 ∨ x.code = 5 ∨ x.code = 6 ∨ x.code = 7 ∨ x.code = 8 ∨ x.code = 9 ∨ x.code = 10 ∨ x.code = 11 := by
  have := insOk_code h; omega
theorem wsGo_bad {xs : List Ins} {i n : Nat} {x : Ins} (h : xs[i]? = some x) (hb : wsAt xs i x = true) : wsGo xs (n + 1) i = false := by rw [wsGo_succ h, if_pos hb]
theorem wsGo_good {xs : List Ins} {i n : Nat} {x : Ins} (h : xs[i]? = some x) (hb : ¬ wsAt xs i x = true) : wsGo xs (n + 1) i = wsGo xs n (i + 1) := by rw [wsGo_succ h, if_neg hb]
theorem wsHoldsC_c (o : Option Addr) (cap : Nat) (xs : List Ins) (w : World) (hpre : RdN (factF ⟨w, [], w, []⟩) o xs ∧ xs.length ≤ 1048576 ∧ (∀ x ∈ xs, x.args.length ≤ 1048576)) : Calls Try.prog 8 #[.slice o xs.length cap] w fun e w' => e = .returned (.bool (wsN xs)) ∧ RowKit.Below w.heap.size w w' := by
  refine (plain_of_vcs ⟨[sureTraceC, sListOkC], []⟩ hmx Try.func8 rfl (by kernel_rfl) (args := [.slice o xs.length cap]) (by simp [Try.ntmps8]) w (· = .bool (wsN xs)) 600 ?_).mono fun e w' ⟨v, h1, h2, h3⟩ => ⟨h2 ▸ h1, h3⟩
  obtain ⟨h, hl, ha⟩ := hpre
  simp (maxSteps := 4000000) -dsimp [-List.all_eq_true, -Array.all_eq_true, -Bool.exists_bool, -Bool.forall_bool, and_assoc, List.zipIdx, Try.f8, sureTraceC, sListOkC]
  refine ⟨(o, cap, xs), rfl, ⟨h.mono (sub_now _ _), hl⟩, ?_⟩
  rintro cx1 v hle1 hv
  obtain ⟨o1, cap1, rfl, a1, a2, a3⟩ := hv.ex
  have hw := hle1.w0
  have hg := hle1.g0
  have h' := h.mono hle1.fact
  unfold wsN
  by_cases hm : xs.length ≤ 1000
  · have hm1 : ¬ (1000 : Int) < xs.length := by omega
    have hn : trN xs = xs.length := by unfold trN; rw [if_pos hm]
    simp only [hm, if_true]
    obtain ⟨q0, hq0⟩ : ∃ q0, q0 = wsGo xs xs.length 0 := ⟨_, rfl⟩
    rw [← hq0]
    rw [hn] at a2
    simp (maxSteps := 4000000) -dsimp [-List.all_eq_true, -Array.all_eq_true, -Bool.exists_bool, -Bool.forall_bool, and_assoc, List.zipIdx, Try.f8, sureTraceC, sListOkC, hm1, hn]
    intro b
    refine loop_inv (σ := ⟨[sureTraceC, sListOkC], []⟩) hmx (by kernel_rfl) (fun q cx tm mem => cx = cx1 ∧ ∃ (i : Nat), i ≤ xs.length ∧ q = xs.length - i ∧ q0 = wsGo xs (xs.length - i) i ∧ mem = [⟨b, [.v (.int .i64 (hB xs i)), .v (.int .i64 (hF xs i))], 32⟩] ∧
        Sx.look tm 6 = .v (.int .i64 i) ∧ Sx.look tm 5 = .v (.bool (baseN xs i)) ∧ Sx.look tm 4 = .p 0 b 0 ∧ Sx.look tm 3 = .v (.slice o1 xs.length cap1) ∧ Sx.look tm 0 = .v (.slice o xs.length cap))
      xs.length ⟨rfl, 0, by omega, rfl, hq0, rfl, by simp [Sx.look], by simp [Sx.look, baseN], by simp [Sx.look], by simp [Sx.look], by simp [Sx.look]⟩ ?_
    rintro q cx tm mem ⟨rfl, i, hi, rfl, hq, rfl, j6, j5, j4, j3, j0⟩
    refine ⟨600, ?_⟩
    by_cases hlt : i < xs.length
    · obtain ⟨x, hx⟩ : ∃ x, xs[i]? = some x := ⟨xs[i], by simp [hlt]⟩
      obtain ⟨o', cap', hat⟩ := h'.at hx
      have hax := ha x (List.mem_of_getElem? hx)
      have htr := trAt (RdO.mono a1 (sub_new cx)) (by omega : i < trN xs)
      have e1 := hB_succ hx
      have e2 := hF_succ hx
      have eb := baseN_succ hx
      have eg : xs.length - i = (xs.length - (i + 1)) + 1 := by omega
      rw [eg] at hq
      have y := fun d mem K => sListOkC_rw (code := x.code) (op := x.op) (cap := cap') (xs := x.args) (d := d) (cx := cx) (mem := mem) (K := K) ⟨hat.args.mono (sub_now _ _), hax⟩
      have ey : insOk ⟨x.code, x.op, x.args⟩ = insOk x := rfl
      simp only [ey] at y
      cases hok : insOk x
      · have hbad : wsAt xs i x = true := by unfold wsAt wsBad; simp [hok]
        rw [wsGo_bad hx hbad] at hq
        simp (maxSteps := 4000000) -dsimp [-List.all_eq_true, -Array.all_eq_true, -Bool.exists_bool, -Bool.forall_bool, and_assoc, List.zipIdx, Try.f8, sureTraceC, sListOkC, j6, j5, j4, j3, j0, hlt, h'.there hlt, hat.all, hat.code, htr.there, htr.all, y, hok, hq, hw, hg]
      · have bad : wsAt xs i x = true → q0 = false := fun hb => hq.trans (wsGo_bad hx hb)
        have good : wsAt xs i x = false → q0 = wsGo xs (xs.length - (i + 1)) (i + 1) := fun hb => hq.trans (wsGo_good hx (by rw [hb]; simp))
        unfold wsAt wsBad at bad good
        rw [hok] at bad good
        by_cases hw8 : x.code = 8 ∨ x.code = 9 ∨ x.code = 11
        · by_cases hi0 : i = 0
          · have hlc : lastC xs i = 0 := by rw [hi0]; rfl
            have hi0' := eq_true hi0
            rw [hlc] at bad good
            rcases hw8 with c | c | c
            all_goals
              rw [c] at eb
              simp only [c] at y bad good
              cases hbs : baseN xs i <;> rw [hbs] at eb j5 bad good
              all_goals
                simp (maxSteps := 4000000) -dsimp [-List.all_eq_true, -Array.all_eq_true, -Bool.exists_bool, -Bool.forall_bool, and_assoc, List.zipIdx, Try.f8, sureTraceC, sListOkC, j6, j5, j4, j3, j0, hlt, h'.there hlt, hat.all, hat.code, htr.there, htr.all, y, hok, c, hbs, hw, hg, i_succ (i := i) (by omega), hi0']
                (repeat' first
                  | refine ⟨1, xs.length - (i + 1), by omega, i + 1, by omega, rfl, good ?_, rfl, by omega, ?_⟩
                  | refine bad ?_
                  | with_reducible refine And.intro ?_ ?_
                  | with_reducible intro _)
                all_goals first | (rw [eb]; done) | (rw [eb]; rfl) | (rw [eb]; simp; done) | omega | (simp; done) | (simp; omega)
          · obtain ⟨y', hy'⟩ : ∃ y', xs[i - 1]? = some y' := ⟨xs[i - 1], by rw [List.getElem?_eq_getElem]⟩
            obtain ⟨op', capp', hatp⟩ := h'.at hy'
            have hlc : lastC xs i = y'.code := by have := lastC_succ hy'; rwa [show i - 1 + 1 = i by omega] at this
            have hwr : IntKind.i64.wrap ((i : Int) - 1) = ((i - 1 : Nat) : Int) := by
              rw [wrap_i64 (by omega) (by omega)]
              omega
            have hlt' : i - 1 < xs.length := by omega
            rw [hlc] at bad good
            by_cases c10 : y'.code = 10
            · rw [c10] at bad good
              rcases hw8 with c | c | c
              all_goals
                rw [c] at eb
                simp only [c] at y bad good
                cases hbs : baseN xs i <;> rw [hbs] at eb j5 bad good
                all_goals
                  simp (maxSteps := 4000000) -dsimp [-List.all_eq_true, -Array.all_eq_true, -Bool.exists_bool, -Bool.forall_bool, and_assoc, List.zipIdx, Try.f8, sureTraceC, sListOkC, j6, j5, j4, j3, j0, hlt, h'.there hlt, hat.all, hat.code, htr.there, htr.all, y, hok, c, hbs, hw, hg, i_succ (i := i) (by omega), hi0, hwr, hlt', hatp.code, c10]
                  (repeat' first
                    | refine ⟨1, xs.length - (i + 1), by omega, i + 1, by omega, rfl, good ?_, rfl, by omega, ?_⟩
                    | refine bad ?_
                    | with_reducible refine And.intro ?_ ?_
                    | with_reducible intro _)
                  all_goals first | (rw [eb]; done) | (rw [eb]; rfl) | (rw [eb]; simp; done) | omega | (simp; done) | (simp; omega)
            · have c10' : (y'.code == 10) = false := beq_eq_false_iff_ne.mpr c10
              rw [c10'] at bad good
              rcases hw8 with c | c | c
              all_goals
                rw [c] at eb
                simp only [c] at y bad good
                cases hbs : baseN xs i <;> rw [hbs] at eb j5 bad good
                all_goals
                  simp (maxSteps := 4000000) -dsimp [-List.all_eq_true, -Array.all_eq_true, -Bool.exists_bool, -Bool.forall_bool, and_assoc, List.zipIdx, Try.f8, sureTraceC, sListOkC, j6, j5, j4, j3, j0, hlt, h'.there hlt, hat.all, hat.code, htr.there, htr.all, y, hok, c, hbs, hw, hg, i_succ (i := i) (by omega), hi0, hwr, hlt', hatp.code, c10]
                  (repeat' first
                    | refine ⟨1, xs.length - (i + 1), by omega, i + 1, by omega, rfl, good ?_, rfl, by omega, ?_⟩
                    | refine bad ?_
                    | with_reducible refine And.intro ?_ ?_
                    | with_reducible intro _)
                  all_goals first | (rw [eb]; done) | (rw [eb]; rfl) | (rw [eb]; simp; done) | omega | (simp; done) | (simp; omega)
        · obtain c | c | c | c | c | c | c | c : x.code = 1 ∨ x.code = 2 ∨ x.code = 3 ∨ x.code = 4 ∨ x.code = 5 ∨ x.code = 6 ∨ x.code = 7 ∨ x.code = 10 := by
            have := insOk_cases hok; omega
          all_goals
            rw [c] at eb
            simp only [c] at y bad good
            cases hbs : baseN xs i <;> rw [hbs] at eb j5 bad good
            all_goals
              simp (maxSteps := 4000000) -dsimp [-List.all_eq_true, -Array.all_eq_true, -Bool.exists_bool, -Bool.forall_bool, and_assoc, List.zipIdx, Try.f8, sureTraceC, sListOkC, j6, j5, j4, j3, j0, hlt, h'.there hlt, hat.all, hat.code, htr.there, htr.all, y, hok, c, hbs, hw, hg, i_succ (i := i) (by omega)]
              (repeat' first
                | refine ⟨1, xs.length - (i + 1), by omega, i + 1, by omega, rfl, good ?_, rfl, by omega, ?_⟩
                | refine bad ?_
                | with_reducible refine And.intro ?_ ?_
                | with_reducible intro _)
              all_goals first | (rw [eb]; done) | (rw [eb]; rfl) | (rw [eb]; simp; done) | omega | (simp; done) | (simp; omega)
    · obtain rfl : i = xs.length := by omega
      rw [Nat.sub_self, wsGo] at hq
      rw [hq]
      simp (maxSteps := 4000000) -dsimp [-List.all_eq_true, -Array.all_eq_true, -Bool.exists_bool, -Bool.forall_bool, and_assoc, List.zipIdx, Try.f8, sureTraceC, sListOkC, j6, j5, j4, j3, j0, hw, hg]
      exact ⟨fun e => by simp [e]; rfl, fun a b => absurd b a⟩
  · have hm1 : (1000 : Int) < xs.length := by omega
    simp only [hm, if_false]
    simp (maxSteps := 4000000) -dsimp [-List.all_eq_true, -Array.all_eq_true, -Bool.exists_bool, -Bool.forall_bool, and_assoc, List.zipIdx, Try.f8, sureTraceC, sListOkC, hm1, hw, hg]
def wsHoldsC_S : Reads Try.prog 8 where
  ι := ((Option Addr) × (Nat) × (List Ins))
  A := fun (i : ((Option Addr) × (Nat) × (List Ins))) => match i with | (o, cap, xs) => [.slice o xs.length cap]
  pre := fun (i : ((Option Addr) × (Nat) × (List Ins))) (F : Facts) => match i with | (o, cap, xs) => RdN F o xs ∧ xs.length ≤ 1048576 ∧ (∀ x ∈ xs, x.args.length ≤ 1048576)
  res := fun (i : ((Option Addr) × (Nat) × (List Ins))) => match i with | (o, cap, xs) => .bool (wsN xs)
  mono := by
    intro i F G hs h
    first | exact h | exact h.mono hs | exact ⟨h.1.mono hs, h.2⟩ | exact ⟨h.1.mono hs, h.2.1.mono hs, h.2.2⟩ | exact ⟨h.1.mono hs, h.2.1.mono hs⟩ | exact ⟨h.1.mono hs, h.2.1.mono hs, h.2.2.1.mono hs, h.2.2.2⟩
  uniq := by
    rintro ⟨o, cap, xs⟩ ⟨o', cap', xs'⟩ F hA h h'
    simp at hA
    (try simp only [Int.natCast_inj] at hA)
    obtain rfl : xs = xs' := RdN.uniq h.1 h'.1 (by simp_all) (by simp_all)
    simp_all
  enter := Try.call8
  h := fun i w hp => wsHoldsC_c i.1 i.2.1 i.2.2 w (by rw [factF_init]; exact hp)
def wsHoldsC : Con Try.prog := Con.read wsHoldsC_S
theorem wsHoldsC_rw {o : Option Addr} {cap : Nat} {xs : List Ins} {d : Nat} {cx : Cx} {mem : List Blk} {K : C → Prop} (hpre : RdN (nowF cx mem) o xs ∧ xs.length ≤ 1048576 ∧ (∀ x ∈ xs, x.args.length ≤ 1048576)) : ReadV d wsHoldsC_S cx [.v (.slice o xs.length cap)] mem K = K (.v (.bool (wsN xs))) := wsHoldsC_S.eq (o, cap, xs) rfl hpre
theorem drawSureCheckC_c (o : Option Addr) (cap : Nat) (bs : List Int) (cx : Cx) (mem : List Blk) (w : World) (hpre : RdB (factF cx) o bs ∧ (∀ b ∈ bs, 0 ≤ b ∧ b < 256) ∧ bs.length ≤ cap ∧ cap ≤ maxLen) (hm : MemRel cx mem w) :
    Calls Try.prog 5 (([.v (.slice o bs.length cap)] : List C).map den).toArray w fun e w' => ∃ cx' c mem', e = .returned (den c) ∧ MemRel cx' mem' w' ∧ Le cx cx' ∧ mem' = mem ∧ ∃ v xs, c = .v v ∧ IsList (factF cx') v xs ∧ List.length xs ≤ 7000 ∧ (∀ x ∈ xs, x.args.length ≤ 4) := by
  refine step_of_vcs ⟨[l8HalfC], []⟩ hmx Try.func5 rfl (by kernel_rfl) (args := [.v (.slice o bs.length cap)]) (by simp [Try.ntmps5]) hm (fun cx' c mem' => Le cx cx' ∧ mem' = mem ∧ ∃ v xs, c = .v v ∧ IsList (factF cx') v xs ∧ List.length xs ≤ 7000 ∧ (∀ x ∈ xs, x.args.length ≤ 4)) 400 ?_
  simp (maxSteps := 4000000) -dsimp [-List.all_eq_true, -Array.all_eq_true, -Bool.exists_bool, -Bool.forall_bool, and_assoc, List.zipIdx, Try.f5, l8HalfC, Con.gen]
  refine l8HalfC_at hpre ?_
  rintro cx1 c mem1 ⟨hle1, rfl, v, xs, rfl, hx, hxl, hxa⟩
  simp (maxSteps := 4000000) -dsimp [-List.all_eq_true, -Array.all_eq_true, -Bool.exists_bool, -Bool.forall_bool, and_assoc, List.zipIdx, Try.f5, l8HalfC]
  exact EndK.all ⟨hle1, rfl, v, xs, rfl, hx, hxl, hxa⟩
def drawSureCheckC_S : Gens Try.prog 5 where
  ι := ((Option Addr) × (Nat) × (List Int))
  A := fun (i : ((Option Addr) × (Nat) × (List Int))) => match i with | (o, cap, bs) => [.v (.slice o bs.length cap)]
  pre := fun (i : ((Option Addr) × (Nat) × (List Int))) (cx : Cx) (mem : List Blk) => match i with | (o, cap, bs) => RdB (factF cx) o bs ∧ (∀ b ∈ bs, 0 ≤ b ∧ b < 256) ∧ bs.length ≤ cap ∧ cap ≤ maxLen
  post := fun (i : ((Option Addr) × (Nat) × (List Int))) (cx : Cx) (mem : List Blk) (cx' : Cx) (c : C) (mem' : List Blk) => match i with | (o, cap, bs) => Le cx cx' ∧ mem' = mem ∧ ∃ v xs, c = .v v ∧ IsList (factF cx') v xs ∧ List.length xs ≤ 7000 ∧ (∀ x ∈ xs, x.args.length ≤ 4)
  enter := Try.call5
  h := fun i cx mem w hp hm => drawSureCheckC_c i.1 i.2.1 i.2.2 cx mem w hp hm
def drawSureCheckC : Con Try.prog := Con.gen drawSureCheckC_S
theorem drawSureCheckC_at {o : Option Addr} {cap : Nat} {bs : List Int} {d : Nat} {cx : Cx} {mem : List Blk} {K : Cx → C → List Blk → Prop} (hpre : RdB (factF cx) o bs ∧ (∀ b ∈ bs, 0 ≤ b ∧ b < 256) ∧ bs.length ≤ cap ∧ cap ≤ maxLen) (h : ∀ cx' c mem', (Le cx cx' ∧ mem' = mem ∧ ∃ v xs, c = .v v ∧ IsList (factF cx') v xs ∧ List.length xs ≤ 7000 ∧ (∀ x ∈ xs, x.args.length ≤ 4)) → K cx' c mem') : GenV d drawSureCheckC_S cx [.v (.slice o bs.length cap)] mem K := ⟨(o, cap, bs), rfl, hpre, h⟩
end Go.Proofs.Ytogbbbgmhobfiaa
