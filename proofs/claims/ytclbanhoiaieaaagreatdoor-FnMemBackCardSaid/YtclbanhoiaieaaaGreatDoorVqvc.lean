/-
  Contract: a memory read out of its text by the reference.
-/
import Derived.Test.YtclbanhoiaieaaaGreatDoorVpvc
import Derived.Test.YtclbanhoiaieaaaGreatDoorTtvc
import Derived.Test.YtclbanhoiaieaaaGreatDoorUivc
set_option linter.unusedVariables false
set_option linter.unusedSimpArgs false
set_option maxRecDepth 100000
set_option maxHeartbeats 4000000
namespace Go.Proofs.YtclbanhoiaieaaaGreatDoor
open Go Go.Sx
attribute [local simp] Sx.vcsE1 Sx.vcsE2 Sx.vcsE3 Sx.vcsE4 Sx.vcsE5 Sx.vcsE6 Sx.vcsE7 Sx.vcsE8 Sx.vcsE9 Sx.vcsE10 Sx.vcsE11 Sx.vcsE12 Sx.vcsE13 Sx.vcsE14 Sx.vcsE15 Sx.vcsE16 Sx.vcsE17 Sx.vcsE18 Sx.vcsE19 Sx.get Sx.look Sx.put Sx.pureFn Sx.findOrd Sx.unF Sx.dstOk Sx.isFloatT Sx.endVC Sx.resFn Sx.packC Sx.newFn Sx.storeFn Sx.buildFn Sx.known Sx.aggT Sx.cellsC Sx.findCon Sx.allV Sx.partsV Sx.partsC Sx.fillL Sx.exitTo Sx.fAr Sx.eqFn Sx.eqFieldsFn Sx.eqElemsFn Sx.partFn Sx.sliceFn Sx.boundFn Sx.AppV Sx.CopyV Sx.MakeSliceV Sx.NewsV Sx.GrowV Sx.TextV Sx.bytesL Sx.notInt Sx.typeAt Sx.argAt Sx.den Go.undef Go.Value.cells Go.Value.oneCell' Sx.Con.pure Sx.Con.some Sx.Con.read Sx.Con.make Sx.Con.ext Sx.Con.rel Sx.Con.extS Sx.Con.draw Sx.Con.step Sx.C.one Sx.Draws.steps

theorem sMemReadC_c (t : Str) (w : World) (hpre : True ∧ t.length ≤ 1100000) : Calls Tryz.prog 11 #[.string (txt t)] w fun e w' => ∃ v, e = .returned v ∧ (fun v => ∃ m ok, v = .tuple #[.agg (cells m), .bool ok] ∧ ReadsTo t m ok) v ∧ RowKit.Below w.heap.size w w' := by
  refine plain_of_vcs ⟨[sWordsC, sWordC, sMemTextC], []⟩ hmx Tryz.func11 rfl (by kernel_rfl) (args := [.string (txt t)]) (by simp [Tryz.ntmps11]) w (fun v => ∃ m ok, v = .tuple #[.agg (cells m), .bool ok] ∧ ReadsTo t m ok) 400 ?_
  obtain ⟨_, hl⟩ := hpre
  by_cases h6 : 6000 < t.length
  · have h6' : (6000 : Int) < t.length := by omega
    have hno := reads_long h6
    simp (maxSteps := 4000000) -dsimp [-List.all_eq_true, -Array.all_eq_true, -Bool.exists_bool, -Bool.forall_bool, and_assoc, List.zipIdx, Tryz.f11, sWordsC, sWordC, sMemTextC, h6, h6', hno]
  have h6' : ¬ (6000 : Int) < t.length := by omega
  simp (maxSteps := 4000000) -dsimp [-List.all_eq_true, -Array.all_eq_true, -Bool.exists_bool, -Bool.forall_bool, and_assoc, List.zipIdx, Tryz.f11, sWordsC, sWordC, sMemTextC, h6']
  intro b0 b1
  refine ⟨t, rfl, ⟨trivial, by omega⟩, ?_⟩
  rintro cx1 v hle1 hv
  obtain ⟨a, cap, rfl, hws, hc1, hc2⟩ := hv.ex
  have hwz : ∀ z ∈ wordsL t, z.length ≤ 1100000 := fun z hz => Nat.le_trans (cutL_sub 32 t z (List.mem_filter.1 hz).1) (by omega)
  have hfin := fun (m : M) (h : MemTo (wordsL t) (wordsL t).length m) (x : M) (hx : MOk x) (ht : memL x = t) => h.fin (Or.inr rfl) hx ht
  have hwl : (wordsL t).length ≤ t.length + 1 := Nat.le_trans (List.length_filter_le _ _) (cutL_len 32 t)
  generalize wordsL t = ws at *
  simp (maxSteps := 4000000) -dsimp [-List.all_eq_true, -Array.all_eq_true, -Bool.exists_bool, -Bool.forall_bool, and_assoc, List.zipIdx, Tryz.f11, sWordsC, sWordC, sMemTextC]
  refine loop_inv (σ := ⟨[sWordsC, sWordC, sMemTextC], []⟩) hmx (by kernel_rfl) (fun q cx' tm mem => cx' = cx1 ∧ ∃ i : Nat, i ≤ ws.length ∧ q = ws.length - i ∧ ∃ m : M, MemTo ws i m ∧ mem = [⟨b0, cellC zeroM, 36⟩, ⟨b1, cellC m, 36⟩] ∧
      Sx.look tm 6 = .v (.int .i64 i) ∧ Sx.look tm 5 = .v (.slice (some a) ws.length cap) ∧ Sx.look tm 4 = .p 1 b1 0 ∧ Sx.look tm 2 = .p 0 b0 0 ∧ Sx.look tm 0 = .v (.string (txt t)))
    ws.length ⟨rfl, 0, by omega, rfl, zeroM, MemTo.zero ws, rfl, by simp [Sx.look], by simp [Sx.look], by simp [Sx.look], by simp [Sx.look], by simp [Sx.look]⟩ ?_
  rintro q cx2 tm mem ⟨rfl, i, hi, rfl, m, hM, rfl, j6, j5, j4, j2, j0⟩
  refine ⟨400, ?_⟩
  have hw2 : RdL (factF cx2) (some a) (ws.map fun z => Value.string (txt z)) := RdL.mono hws (sub_new _)
  have hmo : MOk m := hM.1
  by_cases hlt : i < ws.length
  · have hlt' : (i : Int) < ws.length := by omega
    obtain ⟨z, hz⟩ : ∃ z, ws[i]? = some z := ⟨ws[i], by simp [hlt]⟩
    have hzl := hwz z (List.mem_of_getElem? hz)
    have l0 := fun (d : Nat) (mem : List Blk) (K : Value → Prop) => RdL.ld (P := Tryz.prog) (d := d) (K := K) (RdL.mono hw2 (sub_now cx2 mem)) (t := 9) (by kernel_rfl) (i := i) (v := .string (txt z)) (by rw [List.getElem?_map, hz]; rfl)
    simp (maxSteps := 4000000) -dsimp [-List.all_eq_true, -Array.all_eq_true, -Bool.exists_bool, -Bool.forall_bool, and_assoc, List.zipIdx, Tryz.f11, sWordsC, sWordC, sMemTextC, j6, j5, j4, j2, j0, hlt, hlt', l0, i_succ (i := i) (by omega), hmo, hzl]
    rintro v m' rfl hv
    have hone : (cells m').all (C.one ∘ C.v) 0 136 = true := by kernel_rfl
    simp (maxSteps := 4000000) -dsimp [-List.all_eq_true, -Array.all_eq_true, -Bool.exists_bool, -Bool.forall_bool, and_assoc, List.zipIdx, Tryz.f11, sWordsC, sWordC, sMemTextC, hone, j6, j5, j4, j2, j0, hlt, hlt', l0, i_succ (i := i) (by omega)]
    exact ⟨2, ws.length - (i + 1), by omega, i + 1, by omega, rfl, m', hM.step hz hv, by first | rfl | omega | (refine ⟨rfl, ?_⟩; omega)⟩
  · obtain rfl : i = ws.length := by omega
    have hlt' : ¬ (ws.length : Int) < ws.length := by omega
    by_cases hq : memL m = t
    · have hy := reads_yes hmo hq
      simp (maxSteps := 4000000) -dsimp [-List.all_eq_true, -Array.all_eq_true, -Bool.exists_bool, -Bool.forall_bool, and_assoc, List.zipIdx, Tryz.f11, sWordsC, sWordC, sMemTextC, j6, j5, j4, j2, j0, hlt', hmo, hq, hy, hle1.w0, hle1.g0]
    · have hno := reads_no (t := t) (hfin m hM) hq
      simp (maxSteps := 4000000) -dsimp [-List.all_eq_true, -Array.all_eq_true, -Bool.exists_bool, -Bool.forall_bool, and_assoc, List.zipIdx, Tryz.f11, sWordsC, sWordC, sMemTextC, j6, j5, j4, j2, j0, hlt', hmo, hq, hno, hle1.w0, hle1.g0]
def sMemReadC_S : Rels Tryz.prog 11 where
  ι := ((Str))
  A := fun (t : ((Str))) => [.string (txt t)]
  pre := fun (t : ((Str))) (F : Facts) => True ∧ t.length ≤ 1100000
  post := fun (t : ((Str))) => fun v => ∃ m ok, v = .tuple #[.agg (cells m), .bool ok] ∧ ReadsTo t m ok
  mono := by
    intro i F G hs h
    first | exact h | exact h.mono hs | exact ⟨h.1.mono hs, h.2⟩ | exact ⟨h.1.mono hs, h.2.1.mono hs, h.2.2⟩ | exact ⟨h.1.mono hs, h.2.1.mono hs⟩ | exact ⟨h.1.mono hs, h.2.1.mono hs, h.2.2.1.mono hs, h.2.2.2⟩
  enter := Tryz.call11
  h := fun t w hp => sMemReadC_c t w hp
def sMemReadC : Con Tryz.prog := Con.rel sMemReadC_S
end Go.Proofs.YtclbanhoiaieaaaGreatDoor
