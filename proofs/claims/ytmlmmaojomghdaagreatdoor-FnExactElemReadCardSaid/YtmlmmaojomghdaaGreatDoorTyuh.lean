/-
  Contracts: operands read out of texts, by the program.
-/
import Derived.Test.YtmlmmaojomghdaaGreatDoorTvuh
import Derived.Test.YtmlmmaojomghdaaGreatDoorUbuh
set_option linter.unusedVariables false
set_option linter.unusedSimpArgs false
set_option maxRecDepth 100000
set_option maxHeartbeats 4000000
namespace Go.Proofs.YtmlmmaojomghdaaGreatDoor
open Go Go.Sx
attribute [local simp] Sx.vcsE1 Sx.vcsE2 Sx.vcsE3 Sx.vcsE4 Sx.vcsE5 Sx.vcsE6 Sx.vcsE7 Sx.vcsE8 Sx.vcsE9 Sx.vcsE10 Sx.vcsE11 Sx.vcsE12 Sx.vcsE13 Sx.vcsE14 Sx.vcsE15 Sx.vcsE16 Sx.vcsE17 Sx.vcsE18 Sx.vcsE19 Sx.get Sx.look Sx.put Sx.pureFn Sx.findOrd Sx.unF Sx.dstOk Sx.isFloatT Sx.endVC Sx.resFn Sx.packC Sx.newFn Sx.storeFn Sx.buildFn Sx.known Sx.aggT Sx.cellsC Sx.findCon Sx.allV Sx.partsV Sx.partsC Sx.fillL Sx.exitTo Sx.fAr Sx.eqFn Sx.eqFieldsFn Sx.eqElemsFn Sx.partFn Sx.sliceFn Sx.boundFn Sx.AppV Sx.CopyV Sx.MakeSliceV Sx.NewsV Sx.GrowV Sx.TextV Sx.bytesL Sx.notInt Sx.typeAt Sx.argAt Sx.den Go.undef Go.Value.cells Go.Value.oneCell' Sx.Con.pure Sx.Con.some Sx.Con.read Sx.Con.make Sx.Con.ext Sx.Con.rel Sx.Con.extS Sx.Con.draw Sx.Con.step Sx.C.one Sx.Draws.steps

structure TR (F : Facts) : Prop where
  t : TT F
  x : TX F
theorem TR.mono {F G : Facts} (h : TR F) (hs : Sub F G) : TR G := ⟨h.t.mono hs, h.x.mono hs⟩
theorem iDevReadC_c (s : Str) (w : World) (hpre : TR (factF ⟨w, [], w, []⟩) ∧ s.length ≤ 1100000) : Calls Tryz.prog 131 #[.string (txt s)] w fun e w' => e = .returned (devTup (devRd s)) ∧ RowKit.Below w.heap.size w w' := by
  refine (plain_of_vcs ⟨[cutC, hasSC, idxSC, idxBC, atoiC, iDevTextC], []⟩ hmx Tryz.func131 rfl (by kernel_rfl) (args := [.string (txt s)]) (by simp [Tryz.ntmps131]) w (· = devTup (devRd s)) 400 ?_).mono fun e w' ⟨v, h1, h2, h3⟩ => ⟨h2 ▸ h1, h3⟩
  obtain ⟨ht, hl⟩ := hpre
  have hcut : Lib.cut s [46] = cutAt 46 s := cut_one 46 s
  have a1 : ∀ (d : Nat) (mem : List Blk) (K : C → Prop), ReadV d cut_S ⟨w, [], w, []⟩ [.v (.string (txt s)), .v (.string (txt [46]))] mem K = K (.v (.tuple #[.string (txt (cutAt 46 s).1), .string (txt (cutAt 46 s).2.1), .bool (cutAt 46 s).2.2])) := fun d mem K => by
    have := cut_S.eq (d := d) (cx := ⟨w, [], w, []⟩) (args := [.v (.string (txt s)), .v (.string (txt [46]))]) (mem := mem) (K := K) (s, [46]) rfl ⟨(ht.mono (sub_now _ _)).x, Nat.le_trans hl (by decide)⟩
    rw [this, ← hcut]
    rfl
  have a2 : ∀ (d : Nat) (mem : List Blk) (K : C → Prop), ReadV d hasS_S ⟨w, [], w, []⟩ [.v (.slice (some ⟨1, 0, none⟩) 4 4), .v (.string (txt s))] mem K = K (.v (.bool (decide (0 ≤ idxW s words4)))) := fun d mem K =>
    hasS_S.eq (d := d) (cx := ⟨w, [], w, []⟩) (args := [.v (.slice (some ⟨1, 0, none⟩) 4 4), .v (.string (txt s))]) (mem := mem) (K := K) (⟨1, 0, none⟩, 4, words4, s) rfl ⟨(ht.mono (sub_now _ _)).t.v, rfl, show words4.length ≤ 1000000 by decide⟩
  have a3 : ∀ (d : Nat) (mem : List Blk) (K : C → Prop), ReadV d idxS_S ⟨w, [], w, []⟩ [.v (.slice (some ⟨1, 0, none⟩) 4 4), .v (.string (txt s))] mem K = K (.v (.int .i64 (idxW s words4))) := fun d mem K =>
    idxS_S.eq (d := d) (cx := ⟨w, [], w, []⟩) (args := [.v (.slice (some ⟨1, 0, none⟩) 4 4), .v (.string (txt s))]) (mem := mem) (K := K) (⟨1, 0, none⟩, 4, words4, s) rfl ⟨(ht.mono (sub_now _ _)).t.v, rfl, show words4.length ≤ 1000000 by decide⟩
  have a4 : ∀ (x : UInt8) (d : Nat) (mem : List Blk) (K : C → Prop), ReadV d idxB_S ⟨w, [], w, []⟩ [.v (.string (txt letters)), .v (.int .u8 x.toNat)] mem K = K (.v (.int .i64 (idxL x letters))) := fun x d mem K => by
    have := idxB_S.eq (d := d) (cx := ⟨w, [], w, []⟩) (args := [.v (.string (txt letters)), .v (.int .u8 x.toNat)]) (mem := mem) (K := K) (letters, x) rfl trivial
    rw [this]
    show K (.v (.int .i64 (Lib.indexByte letters x))) = _
    rw [idxL_lib]
  have t0 := fun (k n p : Int) (d : Nat) (mem : List Blk) (K : C → Prop) => iDevTextC_rw (k := k) (n := n) (p := p) (d := d) (cx := ⟨w, [], w, []⟩) (mem := mem) (K := K) (ht.mono (sub_now _ _)).t
  have e46 : (⟨#[46]⟩ : ByteArray) = txt [46] := rfl
  have eL : (⟨#[88, 89, 77, 83, 69, 71, 84, 67, 68, 82]⟩ : ByteArray) = txt letters := rfl
  cases s with
  | nil =>
    rw [devRd_nil]
    have c1 : cutAt 46 [] = ([], [], false) := rfl
    rw [c1] at a1
    simp (maxSteps := 4000000) -dsimp [-List.all_eq_true, -Array.all_eq_true, -Bool.exists_bool, -Bool.forall_bool, and_assoc, List.zipIdx, Tryz.f131, cutC, hasSC, idxSC, idxBC, atoiC, iDevTextC, a1, a2, a3, e46, txt_eta, devTup]
  | cons x r =>
    simp only [List.length_cons] at hl
    have hcl := cutAt_len 46 (x :: r)
    simp only [List.length_cons] at hcl
    by_cases hw : 0 ≤ idxW (x :: r) words4
    · rw [word_rd hw]
      simp (maxSteps := 4000000) -dsimp [-List.all_eq_true, -Array.all_eq_true, -Bool.exists_bool, -Bool.forall_bool, and_assoc, List.zipIdx, Tryz.f131, cutC, hasSC, idxSC, idxBC, atoiC, iDevTextC, a1, a2, a3, e46, hw, txt_eta, devTup]
    by_cases hx : 0 ≤ idxL x letters
    · have hg := devRd_by (List.cons_ne_nil x r) (guess_letter hw hx)
      have hb := idxL_bd x letters
      have hb2 : letters.length = 10 := rfl
      have w1 : IntKind.i64.wrap (1 + idxL x letters) = 1 + idxL x letters := wrap_i64 (by omega) (by omega)
      rw [hg]
      simp (maxSteps := 4000000) -dsimp [-List.all_eq_true, -Array.all_eq_true, -Bool.exists_bool, -Bool.forall_bool, and_assoc, List.zipIdx, Tryz.f131, cutC, hasSC, idxSC, idxBC, atoiC, iDevTextC, a1, a2, a3, a4, e46, eL, hw, hx, txt_eta, txt_get, w1]
      intro b0 b1
      refine ⟨by omega, r, rfl, ⟨(ht.mono (sub_now _ _)).x, by omega⟩, ?_⟩
      rintro v ⟨e, rfl⟩
      by_cases hq : devL ⟨1 + idxL x letters, atoiV r, 0⟩ = x :: r
      · rw [if_pos hq]
        simp (maxSteps := 4000000) -dsimp [-List.all_eq_true, -Array.all_eq_true, -Bool.exists_bool, -Bool.forall_bool, and_assoc, List.zipIdx, Tryz.f131, cutC, hasSC, idxSC, idxBC, atoiC, iDevTextC, a4, eL, t0, txt_eta, txt_get, w1, hq, devTup]
      · rw [if_neg hq]
        simp (maxSteps := 4000000) -dsimp [-List.all_eq_true, -Array.all_eq_true, -Bool.exists_bool, -Bool.forall_bool, and_assoc, List.zipIdx, Tryz.f131, cutC, hasSC, idxSC, idxBC, atoiC, iDevTextC, a4, eL, t0, txt_eta, txt_get, w1, hq, devTup]
    cases hc : (cutAt 46 (x :: r)).2.2
    · have hg := devRd_by (List.cons_ne_nil x r) (guess_int hw hx hc)
      rw [hg]
      simp (maxSteps := 4000000) -dsimp [-List.all_eq_true, -Array.all_eq_true, -Bool.exists_bool, -Bool.forall_bool, and_assoc, List.zipIdx, Tryz.f131, cutC, hasSC, idxSC, idxBC, atoiC, iDevTextC, a1, a2, a3, a4, e46, eL, hw, hx, hc, txt_eta, txt_get]
      intro b0 b1
      refine ⟨x :: r, rfl, ⟨(ht.mono (sub_now _ _)).x, by simp; omega⟩, ?_⟩
      rintro v ⟨e, rfl⟩
      by_cases hq : devL ⟨11, atoiV (x :: r), 0⟩ = x :: r
      · rw [if_pos hq]
        simp (maxSteps := 4000000) -dsimp [-List.all_eq_true, -Array.all_eq_true, -Bool.exists_bool, -Bool.forall_bool, and_assoc, List.zipIdx, Tryz.f131, cutC, hasSC, idxSC, idxBC, atoiC, iDevTextC, t0, txt_eta, txt_get, hq, devTup]
      · rw [if_neg hq]
        simp (maxSteps := 4000000) -dsimp [-List.all_eq_true, -Array.all_eq_true, -Bool.exists_bool, -Bool.forall_bool, and_assoc, List.zipIdx, Tryz.f131, cutC, hasSC, idxSC, idxBC, atoiC, iDevTextC, t0, txt_eta, txt_get, hq, devTup]
    · have hg := devRd_by (List.cons_ne_nil x r) (guess_dec hw hx hc)
      rw [hg]
      generalize (cutAt 46 (x :: r)).1 = p at *
      generalize (cutAt 46 (x :: r)).2.1 = q at *
      simp (maxSteps := 4000000) -dsimp [-List.all_eq_true, -Array.all_eq_true, -Bool.exists_bool, -Bool.forall_bool, and_assoc, List.zipIdx, Tryz.f131, cutC, hasSC, idxSC, idxBC, atoiC, iDevTextC, a1, a2, a3, a4, e46, eL, hw, hx, hc, txt_eta, txt_get]
      intro b0 b1
      refine ⟨by omega, p ++ q, rfl, ⟨(ht.mono (sub_now _ _)).x, by simp; omega⟩, ?_⟩
      rintro v ⟨e, rfl⟩
      by_cases hq : devL ⟨12, atoiV (p ++ q), q.length⟩ = x :: r
      · rw [if_pos hq]
        simp (maxSteps := 4000000) -dsimp [-List.all_eq_true, -Array.all_eq_true, -Bool.exists_bool, -Bool.forall_bool, and_assoc, List.zipIdx, Tryz.f131, cutC, hasSC, idxSC, idxBC, atoiC, iDevTextC, t0, txt_eta, txt_get, hq, devTup]
      · rw [if_neg hq]
        simp (maxSteps := 4000000) -dsimp [-List.all_eq_true, -Array.all_eq_true, -Bool.exists_bool, -Bool.forall_bool, and_assoc, List.zipIdx, Tryz.f131, cutC, hasSC, idxSC, idxBC, atoiC, iDevTextC, t0, txt_eta, txt_get, hq, devTup]
def iDevReadC_S : Reads Tryz.prog 131 where
  ι := ((Str))
  A := fun (s : ((Str))) => [.string (txt s)]
  pre := fun (s : ((Str))) (F : Facts) => TR F ∧ s.length ≤ 1100000
  res := fun (s : ((Str))) => devTup (devRd s)
  mono := by
    intro i F G hs h
    first | exact h | exact h.mono hs | exact ⟨h.1.mono hs, h.2⟩ | exact ⟨h.1.mono hs, h.2.1.mono hs, h.2.2⟩ | exact ⟨h.1.mono hs, h.2.1.mono hs⟩ | exact ⟨h.1.mono hs, h.2.1.mono hs, h.2.2.1.mono hs, h.2.2.2⟩
  uniq := by
    rintro s s' F hA h h'
    simp at hA
    (try simp only [Int.natCast_inj] at hA)
    simp_all
  enter := Tryz.call131
  h := fun s w hp => iDevReadC_c s w (by rw [factF_init]; exact hp)
def iDevReadC : Con Tryz.prog := Con.read iDevReadC_S
theorem iDevReadC_rw {s : Str} {d : Nat} {cx : Cx} {mem : List Blk} {K : C → Prop} (hpre : TR (nowF cx mem) ∧ s.length ≤ 1100000) : ReadV d iDevReadC_S cx [.v (.string (txt s))] mem K = K (.v (devTup (devRd s))) := iDevReadC_S.eq s rfl hpre
end Go.Proofs.YtmlmmaojomghdaaGreatDoor
