/-
  The law of equal memories, walked: drawn memories, both programs' comparison, the program's text.
-/
import Derived.Test.YtmlmmaojomghdaaDoorGkth
import Derived.Test.YtmlmmaojomghdaaDoorTmth
import Derived.Test.YtmlmmaojomghdaaDoorTfth
set_option linter.unusedVariables false
set_option linter.unusedSimpArgs false
set_option maxRecDepth 100000
set_option maxHeartbeats 4000000
namespace Go.Proofs.YtmlmmaojomghdaaDoor
open Go Go.Sx
open List renaming all_eq_true → Y1, zipIdx → Y5
open Bool renaming exists_bool → Y3, forall_bool → Y4
attribute [local simp] Sx.vcsE1 Sx.vcsE2 Sx.vcsE3 Sx.vcsE4 Sx.vcsE5 Sx.vcsE6 Sx.vcsE7 Sx.vcsE8 Sx.vcsE9 Sx.vcsE10 Sx.vcsE11 Sx.vcsE12 Sx.vcsE13 Sx.vcsE14 Sx.vcsE15 Sx.vcsE16 Sx.vcsE17 Sx.vcsE18 Sx.vcsE19 Sx.get Sx.look Sx.put Sx.pureFn Sx.findOrd Sx.unF Sx.dstOk Sx.isFloatT Sx.endVC Sx.resFn Sx.packC Sx.newFn Sx.storeFn Sx.buildFn Sx.known Sx.aggT Sx.cellsC Sx.findCon Sx.allV Sx.partsV Sx.partsC Sx.fillL Sx.exitTo Sx.fAr Sx.eqFn Sx.eqFieldsFn Sx.eqElemsFn Sx.partFn Sx.sliceFn Sx.boundFn Sx.AppV Sx.CopyV Sx.MakeSliceV Sx.NewsV Sx.GrowV Sx.TextV Sx.bytesL Sx.notInt Sx.typeAt Sx.argAt Sx.den Go.undef Go.Value.cells Go.Value.oneCell' Sx.Con.pure Sx.Con.some Sx.Con.read Sx.Con.make Sx.Con.ext Sx.Con.rel Sx.Con.extS Sx.Con.draw Sx.Con.step Sx.C.one Sx.Draws.steps

theorem drawMemSameC_c (o : Option Addr) (cap : Nat) (bs : List Int) (w : World) (hpre : RdB (factF ⟨w, [], w, []⟩) o bs ∧ (∀ b ∈ bs, 0 ≤ b ∧ b < 256) ∧ bs.length ≤ cap ∧ cap ≤ maxLen) : Calls Tryd.prog 13 #[.slice o bs.length cap] w fun e w' => ∃ v, e = .returned v ∧ (fun v => ∃ m n, v = .tuple #[.agg (cells m), .agg (cells n)] ∧ MOk m ∧ MOk n) v ∧ RowKit.Below w.heap.size w w' := by
  refine plain_of_vcs ⟨[l10OpenC, pickC, l3RealC, l5AsksC, l5DrawC, sMemPutC], [(15, [(0, false), (1, false), (3, false), (2, false), (0, true), (4, false), (0, true), (5, false), (6, false), (7, false)]), (18, [(0, false), (1, false), (2, false), (1, true), (3, false)])]⟩ hmx Tryd.func13 rfl (by kernel_rfl) (args := [.slice o bs.length cap]) (by simp [Tryd.ntmps13]) w (fun v => ∃ m n, v = .tuple #[.agg (cells m), .agg (cells n)] ∧ MOk m ∧ MOk n) 400 ?_
  simp (maxSteps := 4000000) -dsimp [-Y1, -Array.all_eq_true, -Y3, -Y4, and_assoc, Y5, Tryd.f13, l10OpenC, pickC, l3RealC, l5AsksC, l5DrawC, sMemPutC, Con.gen]
  intro b b1
  refine l10OpenC_at hpre ?_
  rintro cx1 c mem1 ⟨R, mem0, p, rfl, rfl, hp, hR, hty, hle1, h1, h2, h3⟩
  have hk0 := take_get h1 0 (by simp)
  have hk1 := take_get h1 1 (by simp)
  simp at hk0 hk1 h2 h3
  have hj0 := (List.getElem?_eq_some_iff.1 hk0).2
  have hj1 := (List.getElem?_eq_some_iff.1 hk1).2
  have hn0 : ¬ R.k = 0 := by omega
  have hn1 : ¬ R.k = 1 := by omega
  have hlt := hR.lt
  have hle := Le.refl cx1
  have hw := hle1.w0
  have hg := hle1.g0
  have key : ∀ {cx' : Cx}, Le cx1 cx' → cx'.w0 = w ∧ cx'.g0 = [] := fun h => ⟨h.w0.trans hw, h.g0.trans hg⟩
  simp (maxSteps := 4000000) -dsimp [-Y1, -Array.all_eq_true, -Y3, -Y4, and_assoc, Y5, Tryd.f13, l10OpenC, pickC, l3RealC, l5AsksC, l5DrawC, sMemPutC]
  refine l5DrawC_at0 hR hty hle ⟨by omega, by omega⟩ trivial ?_
  rintro cx2 _ p2 hle2 - c1 c2 ⟨m, rfl, hm⟩
  simp (maxSteps := 4000000) -dsimp [-Y1, -Array.all_eq_true, -Y3, -Y4, and_assoc, Y5, Tryd.f13, l10OpenC, pickC, l3RealC, l5AsksC, l5DrawC, sMemPutC, hlt, hk0, hk1, hj0, hj1, h3, hn0, hn1, List.getElem?_append, List.set_append, List.getElem?_set]
  intro b2 b3
  refine pickC_at hR hty hle2 ⟨by omega, by omega⟩ (by omega) ?_
  rintro cx3 _ p3 hle3 - d1 d2 ⟨y, rfl, y0, y1⟩
  simp (maxSteps := 4000000) -dsimp [-Y1, -Array.all_eq_true, -Y3, -Y4, and_assoc, Y5, Tryd.f13, l10OpenC, pickC, l3RealC, l5AsksC, l5DrawC, sMemPutC, hlt, hk0, hk1, hj0, hj1, h3, hn0, hn1, List.getElem?_append, List.set_append, List.getElem?_set]
  refine pickC_at hR hty hle3 ⟨by omega, by omega⟩ (by omega) ?_
  rintro cx4 _ p4 hle4 - e1 e2 ⟨z, rfl, z0, z1⟩
  have yn : y.toNat < 16 := by omega
  have yk : y < 16 ∧ y < 32 := by omega
  have s2 := fun m x => set_T1 m x _ yn
  have s3 := fun m x => set_C1 m x _ yn
  have s4 := fun m x => set_D m x y.toNat (by omega)
  have s5 := fun m x => set_R m x _ yn
  have g2 := get_T1 m y.toNat yn
  have g3 := get_C1 m y.toNat yn
  have g4 := get_D m y.toNat (by omega)
  have f2 := fun h => (List.getElem_eq_iff (h := h)).2 g2
  have f3 := fun h => (List.getElem_eq_iff (h := h)).2 g3
  have f4 := fun h => (List.getElem_eq_iff (h := h)).2 g4
  have ob : 5 + y.toNat * 2 + 1 < 136 ∧ 37 + y.toNat * 3 + 1 < 136 ∧ 85 + y.toNat < 136 ∧ 117 + y.toNat < 136 ∧ 5 + y.toNat * 2 + 1 ≤ 135 ∧ 37 + y.toNat * 3 + 1 ≤ 135 ∧ 85 + y.toNat ≤ 135 ∧ 117 + y.toNat ≤ 135 := by omega
  by_cases z_0 : z = 0
  · simp (maxSteps := 4000000) -dsimp [-Y1, -Array.all_eq_true, -Y3, -Y4, and_assoc, Y5, Tryd.f13, l10OpenC, pickC, l3RealC, l5AsksC, l5DrawC, sMemPutC, hlt, hk0, hk1, hj0, hj1, h3, hn0, hn1, List.getElem?_append, List.set_append, List.getElem?_set, s2, s3, s4, s5, g2, g3, g4, f2, f3, f4, ob, y0, yk, z_0]
    refine l3RealC_at hR hty hle4 ⟨by omega, by omega⟩ trivial ?_
    rintro cx5 _ p5 hle5 - b8 b9 ⟨fx, rfl, hf⟩
    simp (maxSteps := 4000000) -dsimp [-Y1, -Array.all_eq_true, -Y3, -Y4, and_assoc, Y5, Tryd.f13, l10OpenC, pickC, l3RealC, l5AsksC, l5DrawC, sMemPutC, hlt, hk0, hk1, hj0, hj1, h3, hn0, hn1, List.getElem?_append, List.set_append, List.getElem?_set, s2, s3, s4, s5, g2, g3, g4, f2, f3, f4, ob, y0, yk, z_0]
    exact ⟨(key hle5).1, (key hle5).2, hm, setR_ok hm hf⟩
  by_cases z_1 : z = 1
  · simp (maxSteps := 4000000) -dsimp [-Y1, -Array.all_eq_true, -Y3, -Y4, and_assoc, Y5, Tryd.f13, l10OpenC, pickC, l3RealC, l5AsksC, l5DrawC, sMemPutC, hlt, hk0, hk1, hj0, hj1, h3, hn0, hn1, List.getElem?_append, List.set_append, List.getElem?_set, s2, s3, s4, s5, g2, g3, g4, f2, f3, f4, ob, y0, yk, z_1]
    exact ⟨(key hle4).1, (key hle4).2, hm, setD_ok hm (by have := wrap16_bd (m.D y.toNat + 1); omega)⟩
  by_cases z_2 : z = 2
  · simp (maxSteps := 4000000) -dsimp [-Y1, -Array.all_eq_true, -Y3, -Y4, and_assoc, Y5, Tryd.f13, l10OpenC, pickC, l3RealC, l5AsksC, l5DrawC, sMemPutC, hlt, hk0, hk1, hj0, hj1, h3, hn0, hn1, List.getElem?_append, List.set_append, List.getElem?_set, s2, s3, s4, s5, g2, g3, g4, f2, f3, f4, ob, y0, yk, z_2]
    (repeat with_reducible refine And.intro (by omega) ?_)
    exact ⟨(key hle4).1, (key hle4).2, hm, setC_ok (t := (_, _, _)) hm (hm.C _ yn)⟩
  by_cases z_3 : z = 3
  · simp (maxSteps := 4000000) -dsimp [-Y1, -Array.all_eq_true, -Y3, -Y4, and_assoc, Y5, Tryd.f13, l10OpenC, pickC, l3RealC, l5AsksC, l5DrawC, sMemPutC, hlt, hk0, hk1, hj0, hj1, h3, hn0, hn1, List.getElem?_append, List.set_append, List.getElem?_set, s2, s3, s4, s5, g2, g3, g4, f2, f3, f4, ob, y0, yk, z_3]
    (repeat with_reducible refine And.intro (by omega) ?_)
    exact ⟨(key hle4).1, (key hle4).2, hm, setT_ok (t := (_, _)) hm (wrap_u16_bd _)⟩
  by_cases z_4 : z = 4
  · simp (maxSteps := 4000000) -dsimp [-Y1, -Array.all_eq_true, -Y3, -Y4, and_assoc, Y5, Tryd.f13, l10OpenC, pickC, l3RealC, l5AsksC, l5DrawC, sMemPutC, hlt, hk0, hk1, hj0, hj1, h3, hn0, hn1, List.getElem?_append, List.set_append, List.getElem?_set, s2, s3, s4, s5, g2, g3, g4, f2, f3, f4, ob, y0, yk, z_4]
    refine l5AsksC_at hR hty hle4 ⟨by omega, by omega⟩ trivial ?_
    rintro cx5 _ p5 hle5 - b8 b9 ⟨ak, an, aq, rfl⟩
    simp (maxSteps := 4000000) -dsimp [-Y1, -Array.all_eq_true, -Y3, -Y4, and_assoc, Y5, Tryd.f13, l10OpenC, pickC, l3RealC, l5AsksC, l5DrawC, sMemPutC, hlt, hk0, hk1, hj0, hj1, h3, hn0, hn1, List.getElem?_append, List.set_append, List.getElem?_set, s2, s3, s4, s5, g2, g3, g4, f2, f3, f4, ob, y0, yk, z_4]
    refine pickC_at hR hty hle5 ⟨by omega, by omega⟩ (by omega) ?_
    rintro cx6 _ p6 hle6 - c8 c9 ⟨u, rfl, u0, u1⟩
    simp (maxSteps := 4000000) -dsimp [-Y1, -Array.all_eq_true, -Y3, -Y4, and_assoc, Y5, Tryd.f13, l10OpenC, pickC, l3RealC, l5AsksC, l5DrawC, sMemPutC, hlt, hk0, hk1, hj0, hj1, h3, hn0, hn1, List.getElem?_append, List.set_append, List.getElem?_set, s2, s3, s4, s5, g2, g3, g4, f2, f3, f4, ob, y0, yk, z_4, hm]
    exact ⟨(key hle6).1, (key hle6).2, memPut_ok hm⟩
  by_cases z_5 : z = 5
  · simp (maxSteps := 4000000) -dsimp [-Y1, -Array.all_eq_true, -Y3, -Y4, and_assoc, Y5, Tryd.f13, l10OpenC, pickC, l3RealC, l5AsksC, l5DrawC, sMemPutC, hlt, hk0, hk1, hj0, hj1, h3, hn0, hn1, List.getElem?_append, List.set_append, List.getElem?_set, s2, s3, s4, s5, g2, g3, g4, f2, f3, f4, ob, y0, yk, z_5]
    refine l5DrawC_at hR hty hle4 ⟨by omega, by omega⟩ trivial ?_
    rintro cx5 _ p5 hle5 - b8 b9 ⟨n, rfl, hn⟩
    simp (maxSteps := 4000000) -dsimp [-Y1, -Array.all_eq_true, -Y3, -Y4, and_assoc, Y5, Tryd.f13, l10OpenC, pickC, l3RealC, l5AsksC, l5DrawC, sMemPutC, hlt, hk0, hk1, hj0, hj1, h3, hn0, hn1, List.getElem?_append, List.set_append, List.getElem?_set, s2, s3, s4, s5, g2, g3, g4, f2, f3, f4, ob, y0, yk, z_5]
    exact ⟨(key hle5).1, (key hle5).2, hm, hn⟩
  · simp (maxSteps := 4000000) -dsimp [-Y1, -Array.all_eq_true, -Y3, -Y4, and_assoc, Y5, Tryd.f13, l10OpenC, pickC, l3RealC, l5AsksC, l5DrawC, sMemPutC, hlt, hk0, hk1, hj0, hj1, h3, hn0, hn1, List.getElem?_append, List.set_append, List.getElem?_set, s2, s3, s4, s5, g2, g3, g4, f2, f3, f4, ob, y0, yk, z_0, z_1, z_2, z_3, z_4, z_5]
    exact ⟨(key hle4).1, (key hle4).2, hm⟩
def drawMemSameC_S : Rels Tryd.prog 13 where
  ι := ((Option Addr) × (Nat) × (List Int))
  A := fun (i : ((Option Addr) × (Nat) × (List Int))) => match i with | (o, cap, bs) => [.slice o bs.length cap]
  pre := fun (i : ((Option Addr) × (Nat) × (List Int))) (F : Facts) => match i with | (o, cap, bs) => RdB F o bs ∧ (∀ b ∈ bs, 0 ≤ b ∧ b < 256) ∧ bs.length ≤ cap ∧ cap ≤ maxLen
  post := fun (i : ((Option Addr) × (Nat) × (List Int))) => match i with | (o, cap, bs) => fun v => ∃ m n, v = .tuple #[.agg (cells m), .agg (cells n)] ∧ MOk m ∧ MOk n
  mono := by
    intro i F G hs h
    first | exact h | exact h.mono hs | exact ⟨h.1.mono hs, h.2⟩ | exact ⟨h.1.mono hs, h.2.1.mono hs, h.2.2⟩ | exact ⟨h.1.mono hs, h.2.1.mono hs⟩
  enter := Tryd.call13
  h := fun i w hp => drawMemSameC_c i.1 i.2.1 i.2.2 w (by rw [factF_init]; exact hp)
def drawMemSameC : Con Tryd.prog := Con.rel drawMemSameC_S
theorem msB_sym (a b : M) : msB b a = msB a b := by
  have hs : ∀ {x y : Nat}, sameF x y → sameF y x := fun h => by
    rcases h with ⟨h1, h2⟩ | ⟨h1, h2⟩
    · exact Or.inl ⟨h1.symm, by first | exact h1 ▸ h2 | exact h2⟩
    · exact Or.inr ⟨h2, h1⟩
  have hm : ∀ {x y : M}, MSame x y → MSame y x := fun h => ⟨h.X.symm, h.Y.symm, h.Mw.symm, h.S.symm, h.E.symm, h.T.symm, h.C.symm, h.D.symm, fun k hk => hs (h.R k hk), h.Time.symm, h.Ran.symm, h.Fault.symm⟩
  rw [Bool.eq_iff_iff, msB_iff, msB_iff]
  exact ⟨hm, hm⟩
theorem msB_text {a b : M} (ha : MOk a) (hb : MOk b) : (memL a = memL b) = (msB a b = true) := by
  rw [memL_iff ha hb, ← msB_iff]
theorem lawMSC_c (o : Option Addr) (cap : Nat) (bs : List Int) (w : World) (hpre : RdB (factF ⟨w, [], w, []⟩) o bs ∧ TT (factF ⟨w, [], w, []⟩) ∧ ((∀ b ∈ bs, 0 ≤ b ∧ b < 256) ∧ bs.length ≤ cap ∧ cap ≤ maxLen)) : Calls Tryd.prog 5 #[.slice o bs.length cap] w fun e w' => e = .returned (.bool true) ∧ RowKit.Below w.heap.size w w' := by
  refine (plain_of_vcs ⟨[drawMemSameC, memSameC, iMemTextC, sMemSameC], []⟩ hmx Tryd.func5 rfl (by kernel_rfl) (args := [.slice o bs.length cap]) (by simp [Tryd.ntmps5]) w (· = .bool true) 400 ?_).mono fun e w' ⟨v, h1, h2, h3⟩ => ⟨h2 ▸ h1, h3⟩
  obtain ⟨h, ht, hb⟩ := hpre
  by_cases hs : bs.length ≤ 1048576
  · have hs1 : ¬ (1048576 : Int) < bs.length := by omega
    simp (maxSteps := 4000000) -dsimp [-Y1, -Array.all_eq_true, -Y3, -Y4, and_assoc, Y5, Tryd.f5, drawMemSameC, memSameC, iMemTextC, sMemSameC, hs1]
    refine ⟨(o, cap, bs), rfl, ⟨h.mono (sub_now _ _), hb⟩, fun v hv => ?_⟩
    obtain ⟨m, n, rfl, hm, hn⟩ := hv
    have hself := msB_self m
    have hsym := msB_sym m n
    have htx := msB_text hm hn
    have t1 := fun (d : Nat) (mem : List Blk) (K : C → Prop) => iMemTextC_rw (m := m) (d := d) (cx := ⟨w, [], w, []⟩) (mem := mem) (K := K) ⟨ht.mono (sub_now _ _), hm⟩
    have t2 := fun (d : Nat) (mem : List Blk) (K : C → Prop) => iMemTextC_rw (m := n) (d := d) (cx := ⟨w, [], w, []⟩) (mem := mem) (K := K) ⟨ht.mono (sub_now _ _), hn⟩
    cases hq : msB m n
    · rw [hq] at hsym htx
      have htx2 : (memL m = memL n) = False := by rw [htx]; simp
      simp (maxSteps := 4000000) -dsimp [-Y1, -Array.all_eq_true, -Y3, -Y4, and_assoc, Y5, Tryd.f5, drawMemSameC, memSameC, iMemTextC, sMemSameC, hm, hn, hself, hsym, hq, t1, t2, htx2]
    · rw [hq] at hsym htx
      have htx2 : (memL m = memL n) = True := by rw [htx]; simp
      simp (maxSteps := 4000000) -dsimp [-Y1, -Array.all_eq_true, -Y3, -Y4, and_assoc, Y5, Tryd.f5, drawMemSameC, memSameC, iMemTextC, sMemSameC, hm, hn, hself, hsym, hq, t1, t2, htx2]
  · have hs1 : (1048576 : Int) < bs.length := by omega
    simp (maxSteps := 4000000) -dsimp [-Y1, -Array.all_eq_true, -Y3, -Y4, and_assoc, Y5, Tryd.f5, drawMemSameC, memSameC, iMemTextC, sMemSameC, hs1]
end Go.Proofs.YtmlmmaojomghdaaDoor
