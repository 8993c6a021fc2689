/-
  Contracts: the words of a line, an instruction out of a line, a list out of a text, by the reference.
-/
import Derived.Test.YtclbanhoiaieaaaGreatDoorUgvc
import Derived.Test.YtclbanhoiaieaaaGreatDoorUkvc
set_option linter.unusedVariables false
set_option linter.unusedSimpArgs false
set_option maxRecDepth 100000
set_option maxHeartbeats 4000000
namespace Go.Proofs.YtclbanhoiaieaaaGreatDoor
open Go Go.Sx
attribute [local simp] Sx.vcsE1 Sx.vcsE2 Sx.vcsE3 Sx.vcsE4 Sx.vcsE5 Sx.vcsE6 Sx.vcsE7 Sx.vcsE8 Sx.vcsE9 Sx.vcsE10 Sx.vcsE11 Sx.vcsE12 Sx.vcsE13 Sx.vcsE14 Sx.vcsE15 Sx.vcsE16 Sx.vcsE17 Sx.vcsE18 Sx.vcsE19 Sx.get Sx.look Sx.put Sx.pureFn Sx.findOrd Sx.unF Sx.dstOk Sx.isFloatT Sx.endVC Sx.resFn Sx.packC Sx.newFn Sx.storeFn Sx.buildFn Sx.known Sx.aggT Sx.cellsC Sx.findCon Sx.allV Sx.partsV Sx.partsC Sx.fillL Sx.exitTo Sx.fAr Sx.eqFn Sx.eqFieldsFn Sx.eqElemsFn Sx.partFn Sx.sliceFn Sx.boundFn Sx.AppV Sx.CopyV Sx.MakeSliceV Sx.NewsV Sx.GrowV Sx.TextV Sx.bytesL Sx.notInt Sx.typeAt Sx.argAt Sx.den Go.undef Go.Value.cells Go.Value.oneCell' Sx.Con.pure Sx.Con.some Sx.Con.read Sx.Con.make Sx.Con.ext Sx.Con.rel Sx.Con.extS Sx.Con.draw Sx.Con.step Sx.C.one Sx.Draws.steps

theorem sWordsC_c (s : Str) (w : World) (hpre : True ∧ s.length ≤ 2000000) : Calls Tryz.prog 48 #[.string (txt s)] w fun e w' => ∃ v, e = .returned v ∧ RowKit.Below w.heap.size w w' ∧ IsStrs (fun a => if w.heap.size ≤ a.block then w'.cell? a else none) v (wordsL s) := by
  refine make_of_vcs ⟨[sCutC], []⟩ hmx Tryz.func48 rfl (by kernel_rfl) (args := [.string (txt s)]) (by simp [Tryz.ntmps48]) w (fun v F => IsStrs F v (wordsL s)) 300 ?_
  obtain ⟨_, hl⟩ := hpre
  simp (maxSteps := 4000000) -dsimp [-List.all_eq_true, -Array.all_eq_true, -Bool.exists_bool, -Bool.forall_bool, and_assoc, List.zipIdx, Tryz.f48, sCutC]
  refine ⟨(s, 32), rfl, ⟨trivial, hl⟩, ?_⟩
  rintro cx1 v hle1 hv
  obtain ⟨a, cap, rfl, hws, hc1, hc2⟩ := hv.ex
  have hcnt := cutL_len 32 s
  have hwL : wordsL s = wordsF (cutL 32 s) := rfl
  rw [hwL]
  generalize cutL 32 s = ws at *
  simp (maxSteps := 4000000) -dsimp [-List.all_eq_true, -Array.all_eq_true, -Bool.exists_bool, -Bool.forall_bool, and_assoc, List.zipIdx, Tryz.f48, sCutC]
  intro b0
  refine loop_inv (σ := ⟨[sCutC], []⟩) hmx (by kernel_rfl) (fun m cx' tm mem => Le cx1 cx' ∧ ∃ i : Nat, i ≤ ws.length ∧ m = ws.length - i ∧ ∃ fs : List Str, WordsTo ws i fs ∧ ∃ b cp : Nat, fs.length ≤ cp ∧ cp ≤ maxLen ∧ ∃ pad : List C, pad.length = cp - fs.length ∧ mem = [⟨b, TB fs ++ pad, 9⟩] ∧
      Sx.look tm 5 = .v (.int .i64 i) ∧ Sx.look tm 4 = .s 0 b 0 fs.length cp ∧ Sx.look tm 3 = .v (.slice (some a) ws.length cap))
    ws.length ⟨Le.refl _, 0, by omega, rfl, [], WordsTo.zero _, b0, 0, by simp, by decide, [], rfl, by simp [TB], by simp [Sx.look], by simp [Sx.look], by simp [Sx.look]⟩ ?_
  rintro m cx2 tm mem ⟨hle2, i, hi, rfl, fs, hfs, b, cp, g1, g2, pad, g3, rfl, j5, j4, j3⟩
  refine ⟨300, ?_⟩
  have hle := hle1.trans hle2
  have hw2 : RdL (factF cx2) (some a) (ws.map fun z => Value.string (txt z)) := RdL.mono hws ((sub_new _).trans hle2.fact)
  have e0 := TB_take fs pad rfl
  have e1 := TB_full (n := fs.length) rfl g3 g1
  have ml : ws.length < maxLen := by unfold maxLen; omega
  by_cases hlt : i < ws.length
  · have hlt' : (i : Int) < ws.length := by omega
    obtain ⟨z, hz⟩ : ∃ z, ws[i]? = some z := ⟨ws[i], by simp [hlt]⟩
    have l0 := fun (d : Nat) (mem : List Blk) (K : Value → Prop) => RdL.ld (P := Tryz.prog) (d := d) (K := K) (RdL.mono hw2 (sub_now cx2 mem)) (t := 9) (by kernel_rfl) (i := i) (v := .string (txt z)) (by rw [List.getElem?_map, hz]; rfl)
    have hfi := hfs.2
    by_cases h0 : z = []
    · subst h0
      simp (maxSteps := 4000000) -dsimp [-List.all_eq_true, -Array.all_eq_true, -Bool.exists_bool, -Bool.forall_bool, and_assoc, List.zipIdx, Tryz.f48, sCutC, j5, j4, j3, hlt, hlt', l0, i_succ (i := i) (by omega)]
      exact ⟨1, ws.length - (i + 1), by omega, hle2, i + 1, by omega, rfl, fs, hfs.skip hz, b, cp, g1, g2, pad, g3, rfl, by omega, rfl, rfl, rfl⟩
    · have hpush := hfs.push hz h0
      simp (maxSteps := 4000000) -dsimp [-List.all_eq_true, -Array.all_eq_true, -Bool.exists_bool, -Bool.forall_bool, and_assoc, List.zipIdx, Tryz.f48, sCutC, j5, j4, j3, hlt, hlt', l0, h0]
      intro cx' p hle' hlit
      rw [RdL.sl (hlit.mono ((sub_new cx').trans (sub_now _ _))) (by rfl)]
      unfold GrowV
      simp (maxSteps := 4000000) -dsimp [-List.all_eq_true, -Array.all_eq_true, -Bool.exists_bool, -Bool.forall_bool, and_assoc, List.zipIdx, Tryz.f48, sCutC, j5, j4, j3, e0, e1, i_succ (i := i) (by omega)]
      exact ⟨g1, g2, by omega, by omega, fun b' cap' pad' k1 k2 k3 => ⟨1, ws.length - (i + 1), by omega, hle2.trans hle', i + 1, by omega, rfl, fs ++ [z], hpush, b', cap', by simpa using k1, k2, pad', by simpa using k3, by rw [TB_push]; rfl, by omega, rfl, by simp, rfl⟩⟩
  · obtain rfl : i = ws.length := by omega
    have hlt' : ¬ (ws.length : Int) < ws.length := by omega
    rw [hfs.fin]
    simp (maxSteps := 4000000) -dsimp [-List.all_eq_true, -Array.all_eq_true, -Bool.exists_bool, -Bool.forall_bool, and_assoc, List.zipIdx, Tryz.f48, sCutC, j5, j4, j3, hlt, hlt']
    refine ⟨hle.w0, hle.g0, fun w' hm => ⟨⟨b, 0, none⟩, cp, rfl, ?_, g1, g2⟩⟩
    refine row_new' hle.w0 hle.g0 hm (k := 0) rfl fun j v hj => ?_
    rw [List.getElem?_append_left (by rw [TB_len]; have := (List.getElem?_eq_some_iff.1 hj).1; simpa using this)]
    unfold TB
    rw [List.getElem?_map] at hj ⊢
    cases hq : fs[j]? with
    | none => rw [hq] at hj; cases hj
    | some z => rw [hq] at hj; cases hj; rfl
def sWordsC_S : Makes Tryz.prog 48 where
  ι := ((Str))
  A := fun (s : ((Str))) => [.string (txt s)]
  pre := fun (s : ((Str))) (F : Facts) => True ∧ s.length ≤ 2000000
  post := fun (s : ((Str))) (v : Value) (F : Facts) => IsStrs F v (wordsL s)
  mono := by
    intro i F G hs h
    first | exact h | exact h.mono hs | exact ⟨h.1.mono hs, h.2⟩ | exact ⟨h.1.mono hs, h.2.1.mono hs, h.2.2⟩ | exact ⟨h.1.mono hs, h.2.1.mono hs⟩ | exact ⟨h.1.mono hs, h.2.1.mono hs, h.2.2.1.mono hs, h.2.2.2⟩
  monoP := fun i v F G hs h => h.mono hs
  enter := Tryz.call48
  h := fun s w hp => sWordsC_c s w hp
def sWordsC : Con Tryz.prog := Con.make sWordsC_S
end Go.Proofs.YtclbanhoiaieaaaGreatDoor
