/-
  Contracts: the words of a line, an instruction out of a line, a list out of a text, by the reference.
-/
import Derived.Test.YtclbanhoiaieaaaGreatDoorUgva
import Derived.Test.YtclbanhoiaieaaaGreatDoorUkva
set_option linter.unusedVariables false
set_option linter.unusedSimpArgs false
set_option maxRecDepth 100000
set_option maxHeartbeats 4000000
namespace Go.Proofs.YtclbanhoiaieaaaGreatDoor
open Go Go.Sx
open List renaming all_eq_true → Y1, zipIdx → Y5
open Bool renaming exists_bool → Y3, forall_bool → Y4
attribute [local simp] Sx.vcsE1 Sx.vcsE2 Sx.vcsE3 Sx.vcsE4 Sx.vcsE5 Sx.vcsE6 Sx.vcsE7 Sx.vcsE8 Sx.vcsE9 Sx.vcsE10 Sx.vcsE11 Sx.vcsE12 Sx.vcsE13 Sx.vcsE14 Sx.vcsE15 Sx.vcsE16 Sx.vcsE17 Sx.vcsE18 Sx.vcsE19 Sx.get Sx.look Sx.put Sx.pureFn Sx.findOrd Sx.unF Sx.dstOk Sx.isFloatT Sx.endVC Sx.resFn Sx.packC Sx.newFn Sx.storeFn Sx.buildFn Sx.known Sx.aggT Sx.cellsC Sx.findCon Sx.allV Sx.partsV Sx.partsC Sx.fillL Sx.exitTo Sx.fAr Sx.eqFn Sx.eqFieldsFn Sx.eqElemsFn Sx.partFn Sx.sliceFn Sx.boundFn Sx.AppV Sx.CopyV Sx.MakeSliceV Sx.NewsV Sx.GrowV Sx.TextV Sx.bytesL Sx.notInt Sx.typeAt Sx.argAt Sx.den Go.undef Go.Value.cells Go.Value.oneCell' Sx.Con.pure Sx.Con.some Sx.Con.read Sx.Con.make Sx.Con.ext Sx.Con.rel Sx.Con.extS Sx.Con.draw Sx.Con.step Sx.C.one Sx.Draws.steps

theorem sWordsC_c (s : Str) (w : World) (hpre : True ∧ s.length ≤ 2000000) : Calls Tryz.prog 48 #[.string (txt s)] w fun e w' => ∃ v, e = .returned v ∧ RowKit.Below w.heap.size w w' ∧ IsStrs (fun a => if w.heap.size ≤ a.block then w'.cell? a else none) v (wordsL s) := by
  refine make_of_vcs ⟨[sCutC], []⟩ hmx Tryz.func48 rfl (by kernel_rfl) (args := [.string (txt s)]) (by simp [Tryz.ntmps48]) w (fun v F => IsStrs F v (wordsL s)) 300 ?_
  obtain ⟨_, hl⟩ := hpre
  simp (maxSteps := 4000000) -dsimp [-Y1, -Array.all_eq_true, -Y3, -Y4, and_assoc, Y5, Tryz.f48, sCutC]
  refine ⟨(s, 32), rfl, ⟨trivial, hl⟩, ?_⟩
  rintro cx1 v hle1 hv
  obtain ⟨a, cap, rfl, hws, hc1, hc2⟩ := hv.ex
  have hcnt := cutL_len 32 s
  have hwL : wordsL s = wordsF (cutL 32 s) := rfl
  rw [hwL]
  generalize cutL 32 s = ws at *
  simp (maxSteps := 4000000) -dsimp [-Y1, -Array.all_eq_true, -Y3, -Y4, and_assoc, Y5, Tryz.f48, sCutC]
  intro b0
  refine loop_inv (σ := ⟨[sCutC], []⟩) hmx (by kernel_rfl) (fun m cx' tm mem => Le cx1 cx' ∧ ∃ i : Nat, i ≤ ws.length ∧ m = ws.length - i ∧ ∃ fs : List Str, WordsTo ws i fs ∧ ∃ b cp : Nat, fs.length ≤ cp ∧ cp ≤ maxLen ∧ ∃ pad : List C, pad.length = cp - fs.length ∧ mem = [⟨b, TB fs ++ pad, 9⟩] ∧
      Sx.look tm 5 = .v (.int .i64 i) ∧ Sx.look tm 4 = .s 0 b 0 fs.length cp ∧ Sx.look tm 3 = .v (.slice (some a) ws.length cap))
    ws.length ⟨Le.refl _, 0, by omega, rfl, [], WordsTo.zero _, b0, 0, by simp, by decide, [], rfl, by simp [TB], by simp [Sx.look], by simp [Sx.look], by simp [Sx.look]⟩ ?_
  rintro m cx2 tm mem ⟨hle2, i, hi, rfl, fs, hfs, b, cp, g1, g2, pad, g3, rfl, j5, j4, j3⟩
  refine ⟨300, ?_⟩
  have hle := hle1.trans hle2
  have hw2 : RdL (factF cx2) (some a) (ws.map fun z => Value.string (txt z)) := RdL.mono hws ((sub_new _).trans hle2.fact)
  have e0 := TB_take fs pad rfl
  have e1 := TB_full (n := fs.length) rfl g3 g1
  have ml : ws.length < maxLen := by unfold maxLen; omega
  by_cases hlt : i < ws.length
  · have hlt' : (i : Int) < ws.length := by omega
    obtain ⟨z, hz⟩ : ∃ z, ws[i]? = some z := ⟨ws[i], by simp [hlt]⟩
    have l0 := fun (d : Nat) (mem : List Blk) (K : Value → Prop) => RdL.ld (P := Tryz.prog) (d := d) (K := K) (RdL.mono hw2 (sub_now cx2 mem)) (t := 9) (by kernel_rfl) (i := i) (v := .string (txt z)) (by rw [List.getElem?_map, hz]; rfl)
    have hfi := hfs.2
    by_cases h0 : z = []
    · subst h0
      simp (maxSteps := 4000000) -dsimp [-Y1, -Array.all_eq_true, -Y3, -Y4, and_assoc, Y5, Tryz.f48, sCutC, j5, j4, j3, hlt, hlt', l0, i_succ (i := i) (by omega)]
      exact ⟨1, ws.length - (i + 1), by omega, hle2, i + 1, by omega, rfl, fs, hfs.skip hz, b, cp, g1, g2, pad, g3, rfl, by omega, rfl, rfl, rfl⟩
    · have hpush := hfs.push hz h0
      simp (maxSteps := 4000000) -dsimp [-Y1, -Array.all_eq_true, -Y3, -Y4, and_assoc, Y5, Tryz.f48, sCutC, j5, j4, j3, hlt, hlt', l0, h0]
      intro cx' p hle' hlit
      rw [RdL.sl (hlit.mono ((sub_new cx').trans (sub_now _ _))) (by rfl)]
      unfold GrowV
      simp (maxSteps := 4000000) -dsimp [-Y1, -Array.all_eq_true, -Y3, -Y4, and_assoc, Y5, Tryz.f48, sCutC, j5, j4, j3, e0, e1, i_succ (i := i) (by omega)]
      exact ⟨g1, g2, by omega, by omega, fun b' cap' pad' k1 k2 k3 => ⟨1, ws.length - (i + 1), by omega, hle2.trans hle', i + 1, by omega, rfl, fs ++ [z], hpush, b', cap', by simpa using k1, k2, pad', by simpa using k3, by rw [TB_push]; rfl, by omega, rfl, by simp, rfl⟩⟩
  · obtain rfl : i = ws.length := by omega
    have hlt' : ¬ (ws.length : Int) < ws.length := by omega
    rw [hfs.fin]
    simp (maxSteps := 4000000) -dsimp [-Y1, -Array.all_eq_true, -Y3, -Y4, and_assoc, Y5, Tryz.f48, sCutC, j5, j4, j3, hlt, hlt']
    refine ⟨hle.w0, hle.g0, fun w' hm => ⟨⟨b, 0, none⟩, cp, rfl, ?_, g1, g2⟩⟩
    refine row_new' hle.w0 hle.g0 hm (k := 0) rfl fun j v hj => ?_
    rw [List.getElem?_append_left (by rw [TB_len]; have := (List.getElem?_eq_some_iff.1 hj).1; simpa using this)]
    unfold TB
    rw [List.getElem?_map] at hj ⊢
    cases hq : fs[j]? with
    | none => rw [hq] at hj; cases hj
    | some z => rw [hq] at hj; cases hj; rfl
def sWordsC_S : Makes Tryz.prog 48 where
  ι := ((Str))
  A := fun (s : ((Str))) => [.string (txt s)]
  pre := fun (s : ((Str))) (F : Facts) => True ∧ s.length ≤ 2000000
  post := fun (s : ((Str))) (v : Value) (F : Facts) => IsStrs F v (wordsL s)
  mono := by
    intro i F G hs h
    first | exact h | exact h.mono hs | exact ⟨h.1.mono hs, h.2⟩ | exact ⟨h.1.mono hs, h.2.1.mono hs, h.2.2⟩ | exact ⟨h.1.mono hs, h.2.1.mono hs⟩ | exact ⟨h.1.mono hs, h.2.1.mono hs, h.2.2.1.mono hs, h.2.2.2⟩
  monoP := fun i v F G hs h => h.mono hs
  enter := Tryz.call48
  h := fun s w hp => sWordsC_c s w hp
def sWordsC : Con Tryz.prog := Con.make sWordsC_S
theorem sLineC_c (o : Option Addr) (cap : Nat) (ws : List Str) (w : World) (hpre : RdL (factF ⟨w, [], w, []⟩) o (List.map (fun z => Value.string (txt z)) ws) ∧ (0 < ws.length ∧ ws.length ≤ 2000001 ∧ ∀ z ∈ ws, z.length ≤ 2000000)) : Calls Tryz.prog 79 #[.slice o ws.length cap] w fun e w' => ∃ v, e = .returned v ∧ RowKit.Below w.heap.size w w' ∧ IsIR (fun a => if w.heap.size ≤ a.block then w'.cell? a else none) v (lineRd ws) := by
  refine make_of_vcs ⟨[sListWordC, sElemReadC, sListOkC], []⟩ hmx Tryz.func79 rfl (by kernel_rfl) (args := [.slice o ws.length cap]) (by simp [Tryz.ntmps79]) w (fun v F => IsIR F v (lineRd ws)) 400 ?_
  obtain ⟨h, h0, hl, hw⟩ := hpre
  obtain ⟨z, r, rfl⟩ : ∃ z r, ws = z :: r := by
    cases ws with
    | nil => simp at h0
    | cons z r => exact ⟨z, r, rfl⟩
  obtain ⟨a, rfl⟩ : ∃ a, o = some a := by
    obtain ⟨a, ha, _⟩ := h 0 (.string (txt z)) rfl
    exact ⟨a, ha⟩
  have l0 := fun (cx : Cx) (hle : Le ⟨w, [], w, []⟩ cx) (d : Nat) (mem : List Blk) (K : Value → Prop) => RdL.ld (P := Tryz.prog) (d := d) (K := K) (RdL.mono h (hle.fact.trans (sub_now cx mem))) (t := 9) (by kernel_rfl) (i := 0) (v := .string (txt z)) rfl
  have l00 := l0 _ (Le.refl _)
  simp only [padd_zero] at l00
  simp (maxSteps := 4000000) -dsimp [-Y1, -Array.all_eq_true, -Y3, -Y4, and_assoc, Y5, Tryz.f79, sListWordC, sElemReadC, sListOkC]
  intro b0
  refine loop_inv (σ := ⟨[sListWordC, sElemReadC, sListOkC], []⟩) hmx (by kernel_rfl) (fun m cx' tm mem => cx' = ⟨w, [], w, []⟩ ∧ mem = [⟨b0, [.v (.int .i64 0), .v (.int .i64 0), .v (.slice none 0 0)], 57⟩] ∧ ∃ (k : Nat) (c : Int), 1 ≤ k ∧ k ≤ 12 ∧ m = 12 - k ∧ CodeAt z k c ∧
      Sx.look tm 5 = .v (.int .i64 k) ∧ Sx.look tm 4 = .v (.int .i64 c) ∧ Sx.look tm 2 = .p 0 b0 0 ∧ Sx.look tm 0 = .v (.slice (some a) (List.length (z :: r)) cap))
    11 ⟨rfl, rfl, 1, 0, by omega, by omega, rfl, Or.inl ⟨rfl, by omega⟩, by simp [Sx.look], by simp [Sx.look], by simp [Sx.look], by simp [Sx.look]⟩ ?_
  rintro m cx2 tm mem ⟨rfl, rfl, k, c, hk1, hk2, rfl, hC, j5, j4, j2, j0⟩
  refine ⟨400, ?_⟩
  by_cases hk : k ≤ 11
  · have hk' : (k : Int) ≤ 11 := by omega
    have hCn : z ≠ wordOf k → CodeAt z (k + 1) c := fun hz => by
      rcases hC with ⟨rfl, hC⟩ | ⟨g1, g2, g3⟩
      · refine Or.inl ⟨rfl, fun j h1 h2 => ?_⟩
        by_cases e : j = k
        · rw [e]; exact fun e => hz e.symm
        · exact hC j h1 (by omega)
      · exact Or.inr ⟨g1, by omega, g3⟩
    by_cases hz : z = wordOf k
    · have hCy : CodeAt z (k + 1) k := Or.inr ⟨by omega, by omega, hz.symm⟩
      simp (maxSteps := 4000000) -dsimp [-Y1, -Array.all_eq_true, -Y3, -Y4, and_assoc, Y5, Tryz.f79, sListWordC, sElemReadC, sListOkC, j5, j4, j2, j0, hk, hk', l00, ← hz, i_succ (i := k) (by omega)]
      exact ⟨1, 12 - (k + 1), by omega, rfl, k + 1, by omega, by omega, rfl, hCy, by omega⟩
    · simp (maxSteps := 4000000) -dsimp [-Y1, -Array.all_eq_true, -Y3, -Y4, and_assoc, Y5, Tryz.f79, sListWordC, sElemReadC, sListOkC, j5, j4, j2, j0, hk, hk', l00, hz, i_succ (i := k) (by omega)]
      exact ⟨1, 12 - (k + 1), by omega, rfl, k + 1, by omega, by omega, rfl, hCn hz, by omega⟩
  · obtain rfl : k = 12 := by omega
    obtain rfl := codeAt_end hC
    have hsome : ∀ {b : Bool} {x : Ins}, (if b = true then some x else none).isSome = b := fun {b x} => by cases b <;> rfl
    have hval : ∀ {b : Bool} {x y : Ins}, (if b = true then some x else none) = some y → y = x := fun {b x y} e => by
      cases b
      · cases e
      · exact (Option.some.inj e).symm
    have hlr : lineRd (z :: r) = lineRd (z :: r) := rfl
    generalize hcr : codeRd z = c at *
    cases r with
    | nil =>
      have y := fun (cx : Cx) (d : Nat) (mem : List Blk) (K : C → Prop) => sListOkC_rw (code := c) (op := 0) (o := none) (cap := 0) (xs := []) (d := d) (cx := cx) (mem := mem) (K := K) ⟨RdO.nil _ _ _, by simp⟩
      simp only [List.length_nil] at y
      rw [lineRd_one, hcr]
      simp (maxSteps := 4000000) -dsimp [-Y1, -Array.all_eq_true, -Y3, -Y4, and_assoc, Y5, Tryz.f79, sListWordC, sElemReadC, sListOkC, j5, j4, j2, j0, y]
      intro b1
      exact ⟨rfl, rfl, fun w' hm => ⟨c, 0, none, 0, [], by rw [hsome]; rfl, RdO.nil _ _ _, by decide, by decide, fun x hx => hval hx⟩⟩
    | cons t r2 =>
      cases r2 with
      | nil =>
        have l1 := fun (d : Nat) (mem : List Blk) (K : Value → Prop) => RdL.ld (P := Tryz.prog) (d := d) (K := K) (RdL.mono h (sub_now ⟨w, [], w, []⟩ mem)) (t := 9) (by kernel_rfl) (i := 1) (v := .string (txt t)) rfl
        simp (maxSteps := 4000000) -dsimp [-Y1, -Array.all_eq_true, -Y3, -Y4, and_assoc, Y5, Tryz.f79, sListWordC, sElemReadC, sListOkC, j5, j4, j2, j0, l1]
        intro b1
        refine ⟨t, rfl, ⟨trivial, by have := hw t (by simp); omega⟩, ?_⟩
        rintro cx1 v hle1 hv
        obtain ⟨op, o1, cap1, xs, rfl, hd, c1, c2, hr⟩ := hv.ex
        rcases hr with ⟨e, er, rfl, rfl⟩ | ⟨er, rfl, rfl⟩
        · have har := arity_le3' e.1
          have hal := (eOk_all (elemRd_some er).1).2
          have y := fun (cx : Cx) (d : Nat) (mem : List Blk) (K : C → Prop) (g : Le cx1 cx) => sListOkC_rw (code := c) (op := e.1) (o := o1) (cap := cap1) (xs := e.2) (d := d) (cx := cx) (mem := mem) (K := K) ⟨hd.mono ((sub_new _).trans (g.fact.trans (sub_now _ _))), by omega⟩
          have y1 := fun d mem K => y cx1 d mem K (Le.refl _)
          rw [lineRd_two er, hcr]
          simp (maxSteps := 4000000) -dsimp [-Y1, -Array.all_eq_true, -Y3, -Y4, and_assoc, Y5, Tryz.f79, sListWordC, sElemReadC, sListOkC, j5, j4, j2, j0, er, y1]
          intro b2
          exact ⟨hle1.w0, hle1.g0, fun w' hm => ⟨c, e.1, o1, cap1, e.2, by rw [hsome]; rfl, hd.mono (sub_end hle1.w0 hm), c1, c2, fun x hx => hval hx⟩⟩
        · rw [lineRd_two_none er]
          simp (maxSteps := 4000000) -dsimp [-Y1, -Array.all_eq_true, -Y3, -Y4, and_assoc, Y5, Tryz.f79, sListWordC, sElemReadC, sListOkC, j5, j4, j2, j0, er]
          intro b2
          exact ⟨hle1.w0, hle1.g0, fun w' hm => ⟨0, 0, none, 0, [], rfl, RdO.nil _ _ _, by decide, by decide, fun x hx => by cases hx⟩⟩
      | cons u r3 =>
        have hno : lineRd (z :: t :: u :: r3) = none := rfl
        rw [hno]
        have hn2 : ¬ ((r3.length : Int) + 1 + 1 + 1) = 2 := by omega
        have hn3 : ¬ ((r3.length : Int) + 1 + 1 + 1) ≤ 2 := by omega
        simp (maxSteps := 4000000) -dsimp [-Y1, -Array.all_eq_true, -Y3, -Y4, and_assoc, Y5, Tryz.f79, sListWordC, sElemReadC, sListOkC, j5, j4, j2, j0, hn2, hn3]
        intro b1
        exact ⟨rfl, rfl, fun w' hm => ⟨c, 0, none, 0, [], rfl, RdO.nil _ _ _, by decide, by decide, fun x hx => by cases hx⟩⟩
def sLineC_S : Makes Tryz.prog 79 where
  ι := ((Option Addr) × (Nat) × (List Str))
  A := fun (i : ((Option Addr) × (Nat) × (List Str))) => match i with | (o, cap, ws) => [.slice o ws.length cap]
  pre := fun (i : ((Option Addr) × (Nat) × (List Str))) (F : Facts) => match i with | (o, cap, ws) => RdL F o (List.map (fun z => Value.string (txt z)) ws) ∧ (0 < ws.length ∧ ws.length ≤ 2000001 ∧ ∀ z ∈ ws, z.length ≤ 2000000)
  post := fun (i : ((Option Addr) × (Nat) × (List Str))) (v : Value) (F : Facts) => match i with | (o, cap, ws) => IsIR F v (lineRd ws)
  mono := by
    intro i F G hs h
    first | exact h | exact h.mono hs | exact ⟨h.1.mono hs, h.2⟩ | exact ⟨h.1.mono hs, h.2.1.mono hs, h.2.2⟩ | exact ⟨h.1.mono hs, h.2.1.mono hs⟩ | exact ⟨h.1.mono hs, h.2.1.mono hs, h.2.2.1.mono hs, h.2.2.2⟩
  monoP := fun i v F G hs h => h.mono hs
  enter := Tryz.call79
  h := fun i w hp => sLineC_c i.1 i.2.1 i.2.2 w (by rw [factF_init]; exact hp)
def sLineC : Con Tryz.prog := Con.make sLineC_S
theorem sListParseC_c (t : Str) (w : World) (hpre : True ∧ t.length ≤ 100000000) : Calls Tryz.prog 20 #[.string (txt t)] w fun e w' => ∃ v, e = .returned v ∧ RowKit.Below w.heap.size w w' ∧ IsLP (fun a => if w.heap.size ≤ a.block then w'.cell? a else none) v (listRd t) := by
  refine make_of_vcs ⟨[sCutC, sWordsC, sLineC], []⟩ hmx Tryz.func20 rfl (by kernel_rfl) (args := [.string (txt t)]) (by simp [Tryz.ntmps20]) w (fun v F => IsLP F v (listRd t)) 400 ?_
  obtain ⟨_, hl⟩ := hpre
  have nilN : ∀ {F : Facts}, RdN F none [] := fun {F} => ⟨[], RdO.nil _ _ _, rfl, fun i r x h => by simp at h⟩
  unfold listRd
  by_cases h5 : 50000 < t.length
  · have h5' : (50000 : Int) < t.length := by omega
    rw [if_pos h5]
    simp (maxSteps := 4000000) -dsimp [-Y1, -Array.all_eq_true, -Y3, -Y4, and_assoc, Y5, Tryz.f20, sCutC, sWordsC, sLineC, h5']
    exact fun b => ⟨rfl, rfl, fun w' hm => ⟨none, 0, rfl, nilN, by decide, by decide⟩⟩
  rw [if_neg h5]
  have h5' : ¬ (50000 : Int) < t.length := by omega
  simp (maxSteps := 4000000) -dsimp [-Y1, -Array.all_eq_true, -Y3, -Y4, and_assoc, Y5, Tryz.f20, sCutC, sWordsC, sLineC, h5']
  intro b0
  refine ⟨(t, 10), rfl, ⟨trivial, by omega⟩, ?_⟩
  rintro cx1 v hle1 hv
  obtain ⟨a, cap, rfl, hls, hc1, hc2⟩ := hv.ex
  have hcnt := cutL_len 10 t
  have hsub := cutL_sub 10 t
  generalize cutL 10 t = ls at *
  simp (maxSteps := 4000000) -dsimp [-Y1, -Array.all_eq_true, -Y3, -Y4, and_assoc, Y5, Tryz.f20, sCutC, sWordsC, sLineC]
  intro b1
  refine loop_inv (σ := ⟨[sCutC, sWordsC, sLineC], []⟩) hmx (by kernel_rfl) (fun m cx' tm mem => Le cx1 cx' ∧ ∃ i : Nat, i ≤ ls.length ∧ m = ls.length - i ∧ ∃ (out : List Ins), listGo ls 0 [] = listGo (ls.drop i) i out ∧ out.length ≤ 1000 ∧ ∃ rs : List (List Value), RdP (newF cx') rs out ∧ ∃ b cp : Nat, out.length ≤ cp ∧ cp ≤ maxLen ∧ ∃ pad : List C, pad.length = (cp - out.length) * 3 ∧
      mem = [⟨b0, [.v (.int .i64 0), .v (.int .i64 0)], 48⟩, ⟨b, LB rs ++ pad, 57⟩] ∧ Sx.look tm 6 = .v (.int .i64 i) ∧ Sx.look tm 5 = .s 1 b 0 out.length cp ∧ Sx.look tm 4 = .v (.slice (some a) ls.length cap) ∧ Sx.look tm 3 = .p 0 b0 0)
    ls.length ⟨Le.refl _, 0, by omega, rfl, [], rfl, by decide, [], RdP.nil _, b1, 0, by decide, by decide, [], rfl, by simp [LB], by simp [Sx.look], by simp [Sx.look], by simp [Sx.look], by simp [Sx.look]⟩ ?_
  rintro m cx2 tm mem ⟨hle2, i, hi, rfl, out, hG, ho, rs, hR, b, cp, g1, g2, pad, g3, rfl, j6, j5, j4, j3⟩
  refine ⟨400, ?_⟩
  have hle := hle1.trans hle2
  have hw2 : RdL (factF cx2) (some a) (ls.map fun z => Value.string (txt z)) := RdL.mono hls ((sub_new _).trans hle2.fact)
  have e0 := LB_take hR.row pad hR.len
  have e1 := LB_full hR.row hR.len g3 g1
  by_cases hlt : i < ls.length
  · have hlt' : (i : Int) < ls.length := by omega
    obtain ⟨l, hll⟩ : ∃ l, ls[i]? = some l := ⟨ls[i], by simp [hlt]⟩
    have hlm := List.mem_of_getElem? hll
    have hlen := hsub l hlm
    have hdr : ls.drop i = l :: ls.drop (i + 1) := by
      rw [List.drop_eq_getElem_cons hlt]
      congr 1
      exact (List.getElem?_eq_some_iff.1 hll).2
    rw [hdr] at hG
    have l0 := fun (d : Nat) (mem : List Blk) (K : Value → Prop) => RdL.ld (P := Tryz.prog) (d := d) (K := K) (RdL.mono hw2 (sub_now cx2 mem)) (t := 9) (by kernel_rfl) (i := i) (v := .string (txt l)) (by rw [List.getElem?_map, hll]; rfl)
    have w1 := i_succ (i := i) (by omega)
    simp (maxSteps := 4000000) -dsimp [-Y1, -Array.all_eq_true, -Y3, -Y4, and_assoc, Y5, Tryz.f20, sCutC, sWordsC, sLineC, j6, j5, j4, j3, hlt, hlt', l0]
    refine ⟨l, rfl, ⟨trivial, by omega⟩, ?_⟩
    rintro cx3 v hle3 hv3
    obtain ⟨a3, cap3, rfl, hws3, hc3, hc4⟩ := hv3.ex
    have hwl : (wordsL l).length ≤ l.length + 1 := Nat.le_trans (List.length_filter_le _ _) (cutL_len 32 l)
    have hwz : ∀ z ∈ wordsL l, z.length ≤ 2000000 := fun z hz => Nat.le_trans (cutL_sub 32 l z (List.mem_filter.1 hz).1) (by omega)
    by_cases hw0 : wordsL l = []
    · rw [listGo_none hw0] at hG
      rw [hw0]
      simp (maxSteps := 4000000) -dsimp [-Y1, -Array.all_eq_true, -Y3, -Y4, and_assoc, Y5, Tryz.f20, sCutC, sWordsC, sLineC, j6, j5, j4, j3, w1]
      exact ⟨2, ls.length - (i + 1), by omega, hle2.trans hle3, i + 1, by omega, rfl, out, hG, ho, rs, hR.mono hle3.new, b, cp, g1, g2, pad, g3, rfl, by omega, rfl, rfl, rfl⟩
    have hwp : 0 < (wordsL l).length := List.length_pos_iff.2 hw0
    have hwp' : ¬ ((wordsL l).length : Int) = 0 := by omega
    have hwp2 : ¬ (wordsL l).length = 0 := by omega
    simp (maxSteps := 4000000) -dsimp [-Y1, -Array.all_eq_true, -Y3, -Y4, and_assoc, Y5, Tryz.f20, sCutC, sWordsC, sLineC, j6, j5, j4, j3, hwp', hwp2, hw0]
    refine ⟨(some a3, cap3, wordsL l), rfl, ⟨RdL.mono hws3 ((sub_new _).trans (sub_now _ _)), hwp, by omega, hwz⟩, ?_⟩
    rintro cx4 v hle4 hv4
    obtain ⟨code, op, o4, cap4, xs, rfl, hd4, c5, c6, hx⟩ := hv4.ex
    have hle5 := (hle.trans hle3).trans hle4
    cases er : lineRd (wordsL l) with
    | none =>
      rw [listGo_bad hw0 er] at hG
      rw [hG]
      simp (maxSteps := 4000000) -dsimp [-Y1, -Array.all_eq_true, -Y3, -Y4, and_assoc, Y5, Tryz.f20, sCutC, sWordsC, sLineC, j6, j5, j4, j3, er, w1]
      exact fun b6 => ⟨hle5.w0, hle5.g0, fun w' hm => ⟨none, 0, rfl, nilN, Nat.le_refl _, by decide⟩⟩
    | some x =>
      obtain rfl := hx x er
      by_cases hfull : out.length = 1000
      · rw [listGo_full hw0 er hfull] at hG
        rw [hG]
        have hfull' : (out.length : Int) = 1000 := by omega
        simp (maxSteps := 4000000) -dsimp [-Y1, -Array.all_eq_true, -Y3, -Y4, and_assoc, Y5, Tryz.f20, sCutC, sWordsC, sLineC, j6, j5, j4, j3, er, w1, hfull, hfull']
        exact fun b6 => ⟨hle5.w0, hle5.g0, fun w' hm => ⟨none, 0, rfl, nilN, Nat.le_refl _, by decide⟩⟩
      · rw [listGo_push hw0 er hfull] at hG
        have hfull' : ¬ (out.length : Int) = 1000 := by omega
        simp (maxSteps := 4000000) -dsimp [-Y1, -Array.all_eq_true, -Y3, -Y4, and_assoc, Y5, Tryz.f20, sCutC, sWordsC, sLineC, j6, j5, j4, j3, er, w1, hfull, hfull']
        intro b6 cx' p hle' hlit
        rw [RdL.sl (hlit.mono ((sub_new cx').trans (sub_now _ _))) (by rfl)]
        unfold GrowV
        simp (maxSteps := 4000000) -dsimp [-Y1, -Array.all_eq_true, -Y3, -Y4, and_assoc, Y5, Tryz.f20, sCutC, sWordsC, sLineC, j6, j5, j4, j3, e0, e1, -List.length_append, w1]
        exact ⟨g1, g2, by unfold maxLen; omega, by omega, fun b' cap' pad' k1 k2 k3 => ⟨2, ls.length - (i + 1), by omega, ((hle2.trans hle3).trans hle4).trans hle', i + 1, by omega, rfl, out ++ [⟨code, op, xs⟩], hG, by simp; omega, rs ++ [_], (hR.mono ((hle3.new.trans hle4.new).trans hle'.new)).snoc (hd4.mono hle'.new) c5 c6, b', cap', by simpa using k1, k2, pad', by simpa using k3, by rw [LB_push]; rfl, by omega, rfl, by simp, rfl⟩⟩
  · obtain rfl : i = ls.length := by omega
    have hlt' : ¬ (ls.length : Int) < ls.length := by omega
    rw [List.drop_of_length_le (Nat.le_refl _)] at hG
    rw [hG]
    simp (maxSteps := 4000000) -dsimp [-Y1, -Array.all_eq_true, -Y3, -Y4, and_assoc, Y5, Tryz.f20, sCutC, sWordsC, sLineC, j6, j5, j4, j3, hlt, hlt']
    exact ⟨hle.w0, hle.g0, fun w' hm => ⟨some ⟨b, 0, none⟩, cp, rfl, hR.fin hle.w0 hle.g0 hm (k := 1) rfl, g1, g2⟩⟩
def sListParseC_S : Makes Tryz.prog 20 where
  ι := ((Str))
  A := fun (t : ((Str))) => [.string (txt t)]
  pre := fun (t : ((Str))) (F : Facts) => True ∧ t.length ≤ 100000000
  post := fun (t : ((Str))) (v : Value) (F : Facts) => IsLP F v (listRd t)
  mono := by
    intro i F G hs h
    first | exact h | exact h.mono hs | exact ⟨h.1.mono hs, h.2⟩ | exact ⟨h.1.mono hs, h.2.1.mono hs, h.2.2⟩ | exact ⟨h.1.mono hs, h.2.1.mono hs⟩ | exact ⟨h.1.mono hs, h.2.1.mono hs, h.2.2.1.mono hs, h.2.2.2⟩
  monoP := fun i v F G hs h => h.mono hs
  enter := Tryz.call20
  h := fun t w hp => sListParseC_c t w hp
def sListParseC : Con Tryz.prog := Con.make sListParseC_S
end Go.Proofs.YtclbanhoiaieaaaGreatDoor
