/-
  Contracts: an element read out of a text, by the reference.
-/
import Derived.Test.YtclbanhoiaieaaaGreatDoorUava
import Derived.Test.YtclbanhoiaieaaaGreatDoorTzva
set_option linter.unusedVariables false
set_option linter.unusedSimpArgs false
set_option maxRecDepth 100000
set_option maxHeartbeats 4000000
namespace Go.Sx
open Go

structure CutAt (c : UInt8) (s : Str) (i : Nat) (done : List Str) (f : Nat) : Prop where
  le : f ≤ i ∧ i ≤ s.length
  no : c ∉ (s.take i).drop f
  eq : cutL c s = done ++ cutL c (s.drop f)
  len : done.length ≤ f
theorem CutAt.start (c : UInt8) (s : Str) : CutAt c s 0 [] 0 := ⟨⟨Nat.le_refl _, Nat.zero_le _⟩, by simp, by simp, Nat.le_refl _⟩
theorem CutAt.step {c x : UInt8} {s : Str} {i f : Nat} {done : List Str} (h : CutAt c s i done f) (hx : s[i]? = some x) (hc : x ≠ c) : CutAt c s (i + 1) done f := by
  have hl := (List.getElem?_eq_some_iff.1 hx).1
  refine ⟨⟨by have := h.le; omega, hl⟩, ?_, h.eq, h.len⟩
  rw [List.take_add_one, hx, Option.toList_some, List.drop_append_of_le_length (by rw [List.length_take]; have := h.le; omega)]
  intro hm
  rcases List.mem_append.1 hm with hm | hm
  · exact h.no hm
  · rw [List.mem_singleton] at hm; exact hc hm.symm
theorem CutAt.hit {c : UInt8} {s : Str} {i f : Nat} {done : List Str} (h : CutAt c s i done f) (hx : s[i]? = some c) : CutAt c s (i + 1) (done ++ [(s.take i).drop f]) (i + 1) := by
  have hl := (List.getElem?_eq_some_iff.1 hx).1
  have hf := h.le
  have e : s.drop f = (s.take i).drop f ++ c :: s.drop (i + 1) := by
    conv => lhs; rw [← List.take_append_drop i s]
    rw [List.drop_append_of_le_length (by rw [List.length_take]; omega), List.drop_eq_getElem_cons hl]
    congr 2
    exact (List.getElem?_eq_some_iff.1 hx).2
  refine ⟨⟨Nat.le_refl _, hl⟩, by rw [List.drop_of_length_le (by rw [List.length_take]; omega)]; simp, ?_, by have := h.len; simp; omega⟩
  rw [h.eq, e, cutL_app h.no, List.append_assoc]
  rfl
theorem CutAt.fin {c : UInt8} {s : Str} {f : Nat} {done : List Str} (h : CutAt c s s.length done f) : cutL c s = done ++ [(s.take s.length).drop f] := by
  have e := h.eq
  have hn := h.no
  rw [List.take_length] at hn ⊢
  rw [e, cutL_one hn]
theorem row_new' {cx : Cx} {mem : List Blk} {w w' : World} (h0 : cx.w0 = w) (hg : cx.g0 = []) (hm : MemRel cx mem w') {k b : Nat} {cells : List C} {ty : TypeId} {vs : List Value} (hk : mem[k]? = some ⟨b, cells, ty⟩) (hv : ∀ (j : Nat) v, vs[j]? = some v → cells[j]? = some (.v v)) :
    RdL (fun a => if w.heap.size ≤ a.block then w'.cell? a else none) (some ⟨b, 0, none⟩) vs := by
  have hb : w.heap.size ≤ b := by
    refine Nat.le_of_not_lt fun hlt => ?_
    have := hm.low _ (List.mem_of_getElem? hk) (by rw [h0]; exact hlt)
    rw [hg] at this
    simp at this
  intro j v hj
  refine ⟨_, rfl, ?_⟩
  rw [addr_add, Nat.zero_add]
  simp only
  rw [if_pos hb]
  exact blk_cell hm hk (c := .v v) (hv j v hj)
def devG (w : Str) : Dev := (devRd w).getD ⟨0, 0, 0⟩
theorem devTup_eq (w : Str) : devTup (devRd w) = .tuple #[.agg #[.int .i64 (devG w).k, .int .i64 (devG w).n, .int .i64 (devG w).p], .bool (devRd w).isSome] := by
  unfold devG
  cases devRd w <;> rfl
theorem argsS_eq (t : Str) (c : UInt8) : argsS t c = ((cutL c t).take 4).map devG := rfl
theorem argsS_len (t : Str) (c : UInt8) : (argsS t c).length ≤ 4 := by
  rw [argsS_eq, List.length_map, List.length_take]; omega
structure IsHit (F : Facts) (v : Value) (t : Str) : Prop where
  ex : ∃ op xs, IsElem F v op xs ∧ Hit t op xs ∧ xs.length ≤ 8
theorem IsHit.mono {F G : Facts} {v : Value} {t : Str} (h : IsHit F v t) (hs : Sub F G) : IsHit G v t := by
  obtain ⟨op, xs, h1, h2⟩ := h.ex
  exact ⟨op, xs, h1.mono hs, h2⟩
end Go.Sx
namespace Go.Proofs.YtclbanhoiaieaaaGreatDoor
open Go Go.Sx
open List renaming all_eq_true → Y1, zipIdx → Y5
open Bool renaming exists_bool → Y3, forall_bool → Y4
attribute [local simp] Sx.vcsE1 Sx.vcsE2 Sx.vcsE3 Sx.vcsE4 Sx.vcsE5 Sx.vcsE6 Sx.vcsE7 Sx.vcsE8 Sx.vcsE9 Sx.vcsE10 Sx.vcsE11 Sx.vcsE12 Sx.vcsE13 Sx.vcsE14 Sx.vcsE15 Sx.vcsE16 Sx.vcsE17 Sx.vcsE18 Sx.vcsE19 Sx.get Sx.look Sx.put Sx.pureFn Sx.findOrd Sx.unF Sx.dstOk Sx.isFloatT Sx.endVC Sx.resFn Sx.packC Sx.newFn Sx.storeFn Sx.buildFn Sx.known Sx.aggT Sx.cellsC Sx.findCon Sx.allV Sx.partsV Sx.partsC Sx.fillL Sx.exitTo Sx.fAr Sx.eqFn Sx.eqFieldsFn Sx.eqElemsFn Sx.partFn Sx.sliceFn Sx.boundFn Sx.AppV Sx.CopyV Sx.MakeSliceV Sx.NewsV Sx.GrowV Sx.TextV Sx.bytesL Sx.notInt Sx.typeAt Sx.argAt Sx.den Go.undef Go.Value.cells Go.Value.oneCell' Sx.Con.pure Sx.Con.some Sx.Con.read Sx.Con.make Sx.Con.ext Sx.Con.rel Sx.Con.extS Sx.Con.draw Sx.Con.step Sx.C.one Sx.Draws.steps

theorem sCutC_c (s : Str) (c : UInt8) (w : World) (hpre : True ∧ s.length ≤ 2000000) : Calls Tryz.prog 78 #[.string (txt s), .int .u8 c.toNat] w fun e w' => ∃ v, e = .returned v ∧ RowKit.Below w.heap.size w w' ∧ IsStrs (fun a => if w.heap.size ≤ a.block then w'.cell? a else none) v (cutL c s) := by
  refine make_of_vcs ⟨[], []⟩ hmx Tryz.func78 rfl (by kernel_rfl) (args := [.string (txt s), .int .u8 c.toNat]) (by simp [Tryz.ntmps78]) w (fun v F => IsStrs F v (cutL c s)) 300 ?_
  obtain ⟨_, hl⟩ := hpre
  simp (maxSteps := 4000000) -dsimp [-Y1, -Array.all_eq_true, -Y3, -Y4, and_assoc, Y5, Tryz.f78]
  intro b0
  refine loop_inv (σ := ⟨[], []⟩) hmx (by kernel_rfl) (fun q cx' tm mem => Le ⟨w, [], w, []⟩ cx' ∧ ∃ (i f : Nat) (done : List Str) (b cp : Nat) (pad : List C), q = s.length + 1 - i ∧ done.length ≤ i ∧ (CutAt c s i done f ∨ (i = s.length + 1 ∧ done = cutL c s)) ∧ done.length ≤ cp ∧ cp ≤ maxLen ∧ pad.length = cp - done.length ∧ mem = [⟨b, TB done ++ pad, 9⟩] ∧
      Sx.look tm 7 = .v (.int .i64 i) ∧ Sx.look tm 6 = .v (.int .i64 f) ∧ Sx.look tm 5 = .s 0 b 0 done.length cp ∧ Sx.look tm 0 = .v (.string (txt s)) ∧ Sx.look tm 1 = .v (.int .u8 c.toNat))
    (s.length + 1) ⟨Le.refl _, 0, 0, [], b0, 0, [], by omega, by simp, Or.inl (CutAt.start c s), by decide, by decide, rfl, by simp [TB], by simp [Sx.look], by simp [Sx.look], by simp [Sx.look], by simp [Sx.look], by simp [Sx.look]⟩ ?_
  rintro q cx tm mem ⟨hle, i, f, done, b, cp, pad, rfl, hdi, hC | ⟨rfl, rfl⟩, g1, g2, g3, rfl, j7, j6, j5, j0, j1⟩
  · refine ⟨300, ?_⟩
    have hle1 := hC.le
    have hdl := hC.len
    have e0 := TB_take done pad rfl
    have e1 := TB_full (n := done.length) rfl g3 g1
    have ml : s.length < maxLen := by unfold maxLen; omega
    by_cases hlt : i < s.length
    · have hlt' : (i : Int) ≤ s.length := by omega
      have hne : ¬ (i : Int) = s.length := by omega
      obtain ⟨x, hx⟩ : ∃ x, s[i]? = some x := ⟨s[i], by simp [hlt]⟩
      have hxe : ∀ (h : i < s.length), s[i]'h = x := fun h => (List.getElem?_eq_some_iff.1 hx).2
      by_cases hc : x = c
      · subst hc
        have hC2 := hC.hit hx
        simp (maxSteps := 4000000) -dsimp [-Y1, -Array.all_eq_true, -Y3, -Y4, and_assoc, Y5, Tryz.f78, j7, j6, j5, j0, j1, hlt, hlt', hne, txt_get, hx, hxe]
        refine ⟨by omega, ?_⟩
        intro cx' p hle' hlit
        rw [RdL.sl (hlit.mono ((sub_new cx').trans (sub_now _ _))) (by rfl)]
        unfold GrowV
        simp (maxSteps := 4000000) -dsimp [-Y1, -Array.all_eq_true, -Y3, -Y4, and_assoc, Y5, Tryz.f78, j7, j6, j5, j0, j1, e0, e1, i_succ (i := i) (by omega)]
        exact ⟨g1, g2, by omega, by omega, fun b' cap' pad' k1 k2 k3 => ⟨1, s.length + 1 - (i + 1), by omega, hle.trans hle', i + 1, rfl, i + 1, done ++ [(s.take i).drop f], by simp; omega, Or.inl hC2, b', cap', by simp; omega, k2, pad', by simp; omega, by rw [TB_push]; rfl, by omega, by omega, rfl, by simp, rfl⟩⟩
      · have hC2 := hC.step hx hc
        have hc' : ¬ (x.toNat : Int) = c.toNat := fun e => hc (UInt8.toNat_inj.1 (by omega))
        have hc2 : ¬ x.toNat = c.toNat := fun e => hc (UInt8.toNat_inj.1 e)
        simp (maxSteps := 4000000) -dsimp [-Y1, -Array.all_eq_true, -Y3, -Y4, and_assoc, Y5, Tryz.f78, j7, j6, j5, j0, j1, hlt, hlt', hne, txt_get, hx, hxe, hc, hc', hc2, i_succ (i := i) (by omega)]
        exact ⟨1, s.length + 1 - (i + 1), by omega, hle, i + 1, rfl, f, done, by omega, Or.inl hC2, b, cp, g1, g2, pad, g3, rfl, by omega, rfl, rfl, rfl, rfl⟩
    · obtain rfl : i = s.length := by omega
      have hF := hC.fin
      simp (maxSteps := 4000000) -dsimp [-Y1, -Array.all_eq_true, -Y3, -Y4, and_assoc, Y5, Tryz.f78, j7, j6, j5, j0, j1]
      refine ⟨by omega, ?_⟩
      intro cx' p hle' hlit
      rw [RdL.sl (hlit.mono ((sub_new cx').trans (sub_now _ _))) (by rfl)]
      unfold GrowV
      simp (maxSteps := 4000000) -dsimp [-Y1, -Array.all_eq_true, -Y3, -Y4, and_assoc, Y5, Tryz.f78, j7, j6, j5, j0, j1, e0, e1, i_succ (i := s.length) (by omega)]
      rw [List.take_length] at hF
      exact ⟨g1, g2, by omega, by omega, fun b' cap' pad' k1 k2 k3 => ⟨hle.trans hle', 1, s.length + 1, by omega, s.length + 1, done ++ [s.drop f], by simp; omega, Or.inr ⟨rfl, hF.symm⟩, b', cap', by simp; omega, k2, pad', by simp; omega, by rw [TB_push]; rfl, by omega, by omega, rfl, by simp, rfl⟩⟩
  · refine ⟨300, ?_⟩
    have hlt' : ¬ ((s.length : Int) + 1) ≤ s.length := by omega
    simp (maxSteps := 4000000) -dsimp [-Y1, -Array.all_eq_true, -Y3, -Y4, and_assoc, Y5, Tryz.f78, j7, j6, j5, j0, j1, hlt']
    refine ⟨hle.w0, hle.g0, fun w' hm => ⟨⟨b, 0, none⟩, cp, rfl, ?_, g1, g2⟩⟩
    refine row_new' hle.w0 hle.g0 hm (k := 0) rfl fun j v hj => ?_
    rw [List.getElem?_append_left (by rw [TB_len]; have := (List.getElem?_eq_some_iff.1 hj).1; simpa using this)]
    unfold TB
    rw [List.getElem?_map] at hj ⊢
    cases hq : (cutL c s)[j]? with
    | none => rw [hq] at hj; cases hj
    | some z => rw [hq] at hj; cases hj; rfl
def sCutC_S : Makes Tryz.prog 78 where
  ι := ((Str) × (UInt8))
  A := fun (i : ((Str) × (UInt8))) => match i with | (s, c) => [.string (txt s), .int .u8 c.toNat]
  pre := fun (i : ((Str) × (UInt8))) (F : Facts) => match i with | (s, c) => True ∧ s.length ≤ 2000000
  post := fun (i : ((Str) × (UInt8))) (v : Value) (F : Facts) => match i with | (s, c) => IsStrs F v (cutL c s)
  mono := by
    intro i F G hs h
    first | exact h | exact h.mono hs | exact ⟨h.1.mono hs, h.2⟩ | exact ⟨h.1.mono hs, h.2.1.mono hs, h.2.2⟩ | exact ⟨h.1.mono hs, h.2.1.mono hs⟩ | exact ⟨h.1.mono hs, h.2.1.mono hs, h.2.2.1.mono hs, h.2.2.2⟩
  monoP := fun i v F G hs h => h.mono hs
  enter := Tryz.call78
  h := fun i w hp => sCutC_c i.1 i.2 w hp
def sCutC : Con Tryz.prog := Con.make sCutC_S
theorem sArgsK_c (s : Str) (q : UInt8) (cx : Cx) (mem : List Blk) (w : World) (hpre : mem = [] ∧ List.length s ≤ 2000000) (hm : MemRel cx mem w) :
    Calls Tryz.prog 181 (([.v (.string (txt s)), .v (.int .u8 q.toNat)] : List C).map den).toArray w fun e w' => ∃ cx' c mem', e = .returned (den c) ∧ MemRel cx' mem' w' ∧ Le cx cx' ∧ ∃ (b cp : Nat) (pad : List C), c = .v (.slice (some ⟨b, 0, none⟩) (List.length (argsS s q)) cp) ∧ mem' = [⟨b, DB (argsS s q) ++ pad, 91⟩] ∧ List.length (argsS s q) ≤ cp ∧ cp ≤ maxLen ∧ List.length pad = (cp - List.length (argsS s q)) * 3 := by
  refine step_of_vcs ⟨[sCutC, sDevReadC], []⟩ hmx Tryz.func181 rfl (by kernel_rfl) (args := [.v (.string (txt s)), .v (.int .u8 q.toNat)]) (by simp [Tryz.ntmps181]) hm (fun cx' c mem' => Le cx cx' ∧ ∃ (b cp : Nat) (pad : List C), c = .v (.slice (some ⟨b, 0, none⟩) (List.length (argsS s q)) cp) ∧ mem' = [⟨b, DB (argsS s q) ++ pad, 91⟩] ∧ List.length (argsS s q) ≤ cp ∧ cp ≤ maxLen ∧ List.length pad = (cp - List.length (argsS s q)) * 3) 300 ?_
  obtain ⟨rfl, hl⟩ := hpre
  simp (maxSteps := 4000000) -dsimp [-Y1, -Array.all_eq_true, -Y3, -Y4, and_assoc, Y5, Tryz.f181, sCutC, sDevReadC]
  refine ⟨(s, q), rfl, ⟨trivial, hl⟩, ?_⟩
  rintro cx1 v hle1 hv
  obtain ⟨a, cap, rfl, hws, hc1, hc2⟩ := hv.ex
  have hsub := fun w hw => Nat.le_trans (cutL_sub q s w hw) hl
  have hfin : argsS s q = ((cutL q s).map devG).take 4 := by rw [argsS_eq, List.map_take]
  generalize cutL q s = ws at *
  simp (maxSteps := 4000000) -dsimp [-Y1, -Array.all_eq_true, -Y3, -Y4, and_assoc, Y5, Tryz.f181, sCutC, sDevReadC]
  intro b0
  refine loop_inv (σ := ⟨[sCutC, sDevReadC], []⟩) hmx (by kernel_rfl) (fun m cx' tm mem => Le cx1 cx' ∧ ∃ (i b cp : Nat) (pad : List C), i ≤ 4 ∧ i ≤ ws.length ∧ m = 4 - i ∧ i ≤ cp ∧ cp ≤ maxLen ∧ pad.length = (cp - i) * 3 ∧ mem = [⟨b, DB ((ws.map devG).take i) ++ pad, 91⟩] ∧
      Sx.look tm 7 = .v (.int .i64 i) ∧ Sx.look tm 6 = .s 0 b 0 i cp ∧ Sx.look tm 5 = .v (.slice (some a) ws.length cap))
    4 ⟨Le.refl _, 0, b0, 0, [], by omega, by omega, rfl, by omega, by decide, rfl, by simp [DB, encDs], by simp [Sx.look], by simp [Sx.look], by simp [Sx.look]⟩ ?_
  rintro m cx2 tm mem ⟨hle2, i, b, cp, pad, hi4, hiw, rfl, g1, g2, g3, rfl, j7, j6, j5⟩
  refine ⟨300, ?_⟩
  have hle := hle1.trans hle2
  have hw2 : RdL (factF cx2) (some a) (ws.map fun z => Value.string (txt z)) := RdL.mono hws ((sub_new _).trans hle2.fact)
  by_cases hlt : i < ws.length
  · have hlt' : (i : Int) < ws.length := by omega
    by_cases h4 : i < 4
    · have h4' : (i : Int) < 4 := by omega
      obtain ⟨z, hz⟩ : ∃ z, ws[i]? = some z := ⟨ws[i], by simp [hlt]⟩
      have hzm := List.mem_of_getElem? hz
      have hzl := hsub z hzm
      have l0 := fun (d : Nat) (mem : List Blk) (K : Value → Prop) => RdL.ld (P := Tryz.prog) (d := d) (K := K) (RdL.mono hw2 (sub_now cx2 mem)) (t := 9) (by kernel_rfl) (i := i) (v := .string (txt z)) (by rw [List.getElem?_map, hz]; rfl)
      have ed := devTup_eq z
      have hds : ((ws.map devG).take i).length = i := by simp; omega
      have e0 := DB_take ((ws.map devG).take i) pad hds
      have e1 := DB_full hds g3 g1
      have enext : (ws.map devG).take (i + 1) = (ws.map devG).take i ++ [⟨(devG z).k, (devG z).n, (devG z).p⟩] := by
        rw [List.take_add_one, List.getElem?_map, hz]; rfl
      simp (maxSteps := 4000000) -dsimp [-Y1, -Array.all_eq_true, -Y3, -Y4, and_assoc, Y5, Tryz.f181, sCutC, sDevReadC, j7, j6, j5, hlt, hlt', h4, h4', l0, hzl, ed]
      intro b2 cx' p hle' hlit
      rw [RdL.sl (hlit.mono ((sub_new cx').trans (sub_now _ _))) (by rfl)]
      unfold GrowV
      simp (maxSteps := 4000000) -dsimp [-Y1, -Array.all_eq_true, -Y3, -Y4, and_assoc, Y5, Tryz.f181, sCutC, sDevReadC, j7, j6, j5, e0, e1, -List.length_append, i_succ (i := i) (by omega)]
      exact ⟨g1, g2, by unfold maxLen; omega, by omega, fun b' cap' pad' k1 k2 k3 => ⟨1, 4 - (i + 1), by omega, hle2.trans hle', i + 1, by omega, by omega, rfl, b', cap', k1, k2, pad', k3, by rw [DB_push, enext]; rfl, by omega, rfl, rfl, rfl⟩⟩
    · have h4' : ¬ (i : Int) < 4 := by omega
      obtain rfl : i = 4 := by omega
      rw [hfin]
      have hn : ((ws.map devG).take 4).length = 4 := by simp; omega
      rw [hn]
      simp (maxSteps := 4000000) -dsimp [-Y1, -Array.all_eq_true, -Y3, -Y4, and_assoc, Y5, Tryz.f181, sCutC, sDevReadC, j7, j6, j5, hlt, hlt', h4, h4']
      have key := endK_val (d := 2) (K := fun cx' c mem' => Le cx cx' ∧ ∃ (b cp : Nat) (pad : List C), c = C.v (.slice (some ⟨b, 0, none⟩) 4 cp) ∧ mem' = [⟨b, DB ((ws.map devG).take 4) ++ pad, 91⟩] ∧ 4 ≤ cp ∧ cp ≤ maxLen ∧ pad.length = (cp - 4) * 3) (cx := cx2) (c := C.s 0 b 0 4 cp) (mem := [⟨b, DB ((ws.map devG).take 4) ++ pad, 91⟩]) ⟨hle, b, cp, pad, rfl, rfl, g1, g2, g3⟩
      exact ⟨fun _ => key, fun _ => key⟩
  · have hlt' : ¬ (i : Int) < ws.length := by omega
    obtain rfl : i = ws.length := by omega
    rw [hfin, List.take_of_length_le (l := ws.map devG) (by simp; omega)]
    have hn : (ws.map devG).length = ws.length := by simp
    rw [hn]
    have hn2 : (ws.map devG).take ws.length = ws.map devG := List.take_of_length_le (by simp)
    rw [hn2]
    simp (maxSteps := 4000000) -dsimp [-Y1, -Array.all_eq_true, -Y3, -Y4, and_assoc, Y5, Tryz.f181, sCutC, sDevReadC, j7, j6, j5, hlt, hlt']
    exact endK_val ⟨hle, b, cp, pad, rfl, rfl, g1, g2, g3⟩
def sArgsK_S : Gens Tryz.prog 181 where
  ι := ((Str) × (UInt8))
  A := fun (i : ((Str) × (UInt8))) => match i with | (s, q) => [.v (.string (txt s)), .v (.int .u8 q.toNat)]
  pre := fun (i : ((Str) × (UInt8))) (cx : Cx) (mem : List Blk) => match i with | (s, q) => mem = [] ∧ List.length s ≤ 2000000
  post := fun (i : ((Str) × (UInt8))) (cx : Cx) (mem : List Blk) (cx' : Cx) (c : C) (mem' : List Blk) => match i with | (s, q) => Le cx cx' ∧ ∃ (b cp : Nat) (pad : List C), c = .v (.slice (some ⟨b, 0, none⟩) (List.length (argsS s q)) cp) ∧ mem' = [⟨b, DB (argsS s q) ++ pad, 91⟩] ∧ List.length (argsS s q) ≤ cp ∧ cp ≤ maxLen ∧ List.length pad = (cp - List.length (argsS s q)) * 3
  enter := Tryz.call181
  h := fun i cx mem w hp hm => sArgsK_c i.1 i.2 cx mem w hp hm
def sArgsU_S : Gens Tryz.prog 181 where
  ι := Str × UInt8
  A i := [.v (.string (txt i.1)), .v (.int .u8 i.2.toNat)]
  pre i cx mem := i.1.length ≤ 2000000
  post i cx mem cx' c mem' := Le cx cx' ∧ ∃ (b cp : Nat) (pad : List C), c = .s mem.length b 0 (argsS i.1 i.2).length cp ∧ mem' = mem ++ [⟨b, DB (argsS i.1 i.2) ++ pad, 91⟩] ∧ (argsS i.1 i.2).length ≤ cp ∧ cp ≤ maxLen ∧ pad.length = (cp - (argsS i.1 i.2).length) * 3
  enter := sArgsK_S.enter
  h := fun (s, q) cx mem w hp hm => by
    refine (sArgsK_c s q ⟨w, [], w, []⟩ [] w ⟨rfl, hp⟩ (memRel_nil w)).mono ?_
    rintro e w' ⟨cx2, c, mem2, rfl, hm2, hle, b, cp, pad, rfl, rfl, k1, k2, k3⟩
    obtain ⟨cx', g1, g2⟩ := memRel_lift hm hm2 hle
    exact ⟨cx', .s mem.length b 0 (argsS s q).length cp, _, rfl, g1, g2, b, cp, pad, rfl, rfl, k1, k2, k3⟩
def sArgsU : Con Tryz.prog := Con.gen sArgsU_S
theorem sArgsU_at {s : Str} {q : UInt8} {d : Nat} {cx : Cx} {mem : List Blk} {K : Cx → C → List Blk → Prop} (hp : s.length ≤ 2000000)
    (h : ∀ cx' b cp pad, Le cx cx' → (argsS s q).length ≤ cp → cp ≤ maxLen → pad.length = (cp - (argsS s q).length) * 3 → K cx' (.s mem.length b 0 (argsS s q).length cp) (mem ++ [⟨b, DB (argsS s q) ++ pad, 91⟩])) : GenV d sArgsU_S cx [.v (.string (txt s)), .v (.int .u8 q.toNat)] mem K :=
  ⟨(s, q), rfl, hp, by rintro cx' _ _ ⟨hle, b, cp, pad, rfl, rfl, k1, k2, k3⟩; exact h cx' b cp pad hle k1 k2 k3⟩
theorem hit_fin {cx : Cx} {mem : List Blk} {w w' : World} {t : Str} {op : Int} {xs : List Dev} {k b cp : Nat} {pad : List C} {ty : TypeId} (h0 : cx.w0 = w) (hg : cx.g0 = []) (hm : MemRel cx mem w') (hk : mem[k]? = some ⟨b, DB xs ++ pad, ty⟩)
    (h1 : xs.length ≤ cp) (h2 : cp ≤ maxLen) (hh : Hit t op xs) (hl : xs.length ≤ 8) : IsHit (fun a => if w.heap.size ≤ a.block then w'.cell? a else none) (.agg #[.int .i64 op, .slice (some ⟨b, 0, none⟩) xs.length cp]) t :=
  ⟨op, xs, ⟨_, cp, rfl, DB_new h0 hg hm hk, h1, h2⟩, hh, hl⟩

theorem DB_one (ds : List Dev) : (DB ds).all C.one = true := by
  unfold DB
  rw [List.all_eq_true]
  intro c hc
  obtain ⟨v, hv, rfl⟩ := List.mem_map.1 hc
  obtain ⟨d, hd, hv⟩ := List.mem_flatten.1 hv
  obtain ⟨d, _, rfl⟩ := List.mem_map.1 hd
  simp only [encD, List.mem_cons, List.not_mem_nil, or_false] at hv
  rcases hv with rfl | rfl | rfl <;> rfl
theorem DB_app (xs ys : List Dev) {pad : List C} : DB (xs ++ ys) ++ pad = DB xs ++ (DB ys ++ pad) := by
  simp [DB, encDs]
theorem sGuessEC_c (t : Str) (w : World) (hpre : True ∧ (t ≠ [] ∧ t.length ≤ 100)) : Calls Tryz.prog 116 #[.string (txt t)] w fun e w' => ∃ v, e = .returned v ∧ RowKit.Below w.heap.size w w' ∧ IsHit (fun a => if w.heap.size ≤ a.block then w'.cell? a else none) v t := by
  refine make_of_vcs ⟨[sArgsU, sSignC, sNameC], [(12, [(0, false), (1, false), (2, false), (3, false), (5, false), (6, false), (7, false), (8, false), (9, false), (4, false), (10, false), (11, false), (12, false), (13, false)])]⟩ hmx Tryz.func116 rfl (by kernel_rfl) (args := [.string (txt t)]) (by simp [Tryz.ntmps116]) w (fun v F => IsHit F v t) 500 ?_
  obtain ⟨_, hne, hl⟩ := hpre
  simp (maxSteps := 4000000) -dsimp [-Y1, -Array.all_eq_true, -Y3, -Y4, and_assoc, Y5, Tryz.f116, sArgsU, sSignC, sNameC]
  intro b0
  refine loop_inv (σ := ⟨[sArgsU, sSignC, sNameC], [(12, [(0, false), (1, false), (2, false), (3, false), (5, false), (6, false), (7, false), (8, false), (9, false), (4, false), (10, false), (11, false), (12, false), (13, false)])]⟩) hmx (by kernel_rfl) (fun m cx' tm mem => cx' = ⟨w, [], w, []⟩ ∧ mem = [⟨b0, [.v (.int .i64 0), .v (.slice none 0 0)], 55⟩] ∧ ∃ i : Nat, i ≤ t.length ∧ m = t.length - i ∧ (∀ j x, j < i → t[j]? = some x → cmpCh x = false) ∧
      Sx.look tm 3 = .v (.int .i64 i) ∧ Sx.look tm 2 = .p 0 b0 0 ∧ Sx.look tm 0 = .v (.string (txt t)))
    t.length ⟨rfl, rfl, 0, by omega, rfl, by omega, by simp [Sx.look], by simp [Sx.look], by simp [Sx.look]⟩ ?_
  rintro m cx tm mem ⟨rfl, rfl, i, hi, rfl, hI, j3, j2, j0⟩
  refine ⟨500, ?_⟩
  by_cases hlt : i < t.length
  · have hlt' : (i : Int) < t.length := by omega
    obtain ⟨x, hx⟩ : ∃ x, t[i]? = some x := ⟨t[i], by simp [hlt]⟩
    have hxe : ∀ (h : i < t.length), t[i]'h = x := fun h => (List.getElem?_eq_some_iff.1 hx).2
    have w1 := i_succ (i := i) (by omega)
    cases hc : cmpCh x
    · have h60 : ¬ x = 60 := fun e => by rw [e] at hc; exact absurd hc (by decide)
      have h61 : ¬ x = 61 := fun e => by rw [e] at hc; exact absurd hc (by decide)
      have h62 : ¬ x = 62 := fun e => by rw [e] at hc; exact absurd hc (by decide)
      have n60 : ¬ (x.toNat : Int) = 60 := fun e => h60 (UInt8.toNat_inj.1 (by show x.toNat = 60; omega))
      have n61 : ¬ (x.toNat : Int) = 61 := fun e => h61 (UInt8.toNat_inj.1 (by show x.toNat = 61; omega))
      have n62 : ¬ (x.toNat : Int) = 62 := fun e => h62 (UInt8.toNat_inj.1 (by show x.toNat = 62; omega))
      simp (maxSteps := 4000000) -dsimp [-Y1, -Array.all_eq_true, -Y3, -Y4, and_assoc, Y5, Tryz.f116, sArgsU, sSignC, sNameC, j3, j2, j0, hlt, hlt', txt_get, hx, hxe, n60, n61, n62, w1, Con.gen]
      exact ⟨1, t.length - (i + 1), by omega, rfl, i + 1, by omega, rfl, fun j y hj hy => by
        by_cases hji : j = i
        · subst hji; rw [hx] at hy; cases hy; exact hc
        · exact hI j y (by omega) hy, by omega⟩
    · have hx3 : x = 60 ∨ x = 61 ∨ x = 62 := of_decide_eq_true hc
      by_cases hl2 : i + 1 < t.length
      · have hl2' : ((i + 1 : Nat) : Int) < t.length := by omega
        have hl2'' : (i : Int) + 1 < t.length := by omega
        obtain ⟨y, hy⟩ : ∃ y, t[i + 1]? = some y := ⟨t[i + 1], by simp [hl2]⟩
        have hye : ∀ (h : i + 1 < t.length), t[i + 1]'h = y := fun h => (List.getElem?_eq_some_iff.1 hy).2
        have hi2 : i + 2 ≤ t.length ∧ i + 1 ≤ t.length := by omega
        by_cases y61 : y = 61
        · subst y61
          have hn : cmpN t i = 2 := by unfold cmpN; rw [hy]; rfl
          rcases hx3 with rfl | rfl | rfl
          all_goals
            simp (maxSteps := 4000000) -dsimp [-Y1, -Array.all_eq_true, -Y3, -Y4, and_assoc, Y5, Tryz.f116, sArgsU, sSignC, sNameC, j3, j2, j0, hlt, hlt', txt_get, hx, hxe, w1, hl2, hl2', hl2'', hy, hye, Con.gen]
            refine ⟨by omega, ?_⟩
            refine loop_inv (σ := ⟨[sArgsU, sSignC, sNameC], [(12, [(0, false), (1, false), (2, false), (3, false), (5, false), (6, false), (7, false), (8, false), (9, false), (4, false), (10, false), (11, false), (12, false), (13, false)])]⟩) hmx (by kernel_rfl) (fun m' cx' tm mem => cx' = ⟨w, [], w, []⟩ ∧ mem = [⟨b0, [.v (.int .i64 0), .v (.slice none 0 0)], 55⟩] ∧ ∃ k : Nat, 5 ≤ k ∧ k ≤ 11 ∧ m' = 11 - k ∧ (∀ o : Int, 5 ≤ o → o < k → (t.take (i + 2)).drop i ≠ cmpS (o - 4)) ∧
                Sx.look tm 5 = .v (.int .i64 k) ∧ Sx.look tm 4 = .v (.int .i64 2) ∧ Sx.look tm 3 = .v (.int .i64 i) ∧ Sx.look tm 2 = .p 0 b0 0 ∧ Sx.look tm 0 = .v (.string (txt t)))
              6 ⟨rfl, rfl, 5, by omega, by omega, rfl, by omega, by simp [Sx.look], by simp [Sx.look], by simp [Sx.look, j3], by simp [Sx.look, j2], by simp [Sx.look, j0]⟩ ?_
            rintro m' cx tm mem ⟨rfl, rfl, k, hk5, hk11, rfl, hK, k5, k4, k3, k2, k0⟩
            refine ⟨500, ?_⟩
            have w2 : IntKind.i64.wrap ((i : Int) + 2) = ((i + 2 : Nat) : Int) := by rw [wrap_i64 (by omega) (by omega)]; omega
            have w4 : ((i : Int) + 2).toNat = i + 2 := by omega
            by_cases hk : k ≤ 10
            · have hk' : (k : Int) ≤ 10 := by omega
              by_cases hs : (t.take (i + 2)).drop i = cmpS ((k : Int) - 4)
              · have hH := hit_cmp (op := k) ⟨by omega, by omega⟩ hI hx hc (by rw [hn]; exact hs)
                rw [hn] at hH
                simp (maxSteps := 4000000) -dsimp [-Y1, -Array.all_eq_true, -Y3, -Y4, and_assoc, Y5, Tryz.f116, sArgsU, sSignC, sNameC, k5, k4, k3, k2, k0, hk, hk', w2, w4, hs, hi2, Con.gen]
                repeat (refine ⟨by first | omega | (simp; omega), ?_⟩)
                refine sArgsU_at (q := 32) (s := t.take i) (by simp; omega) ?_
                intro cx1 b1 cp1 pad1 hle1 p1 p2 p3
                have la := argsS_len (t.take i) 32
                have lb := argsS_len (t.drop (i + 2)) 32
                generalize argsS (t.take i) 32 = xa at *
                simp (maxSteps := 4000000) -dsimp [-Y1, -Array.all_eq_true, -Y3, -Y4, and_assoc, Y5, Tryz.f116, sArgsU, sSignC, sNameC, k5, k4, k3, k2, k0, w2, w4, hi2, Con.gen]
                repeat (refine ⟨by first | omega | (simp; omega), ?_⟩)
                refine sArgsU_at (q := 32) (s := t.drop (i + 2)) (by simp; omega) ?_
                intro cx2 b2 cp2 pad2 hle2 o1 o2 o3
                generalize argsS (t.drop (i + 2)) 32 = xb at *
                have e0 := DB_take xa pad1 rfl
                have e1 := DB_full (ds := xa) rfl p3 p1
                have e2 := DB_take xb pad2 rfl
                have e3 := DB_full (ds := xb) rfl o3 o1
                have e4 := DB_one xb
                have e5 : xb.length * 3 ≤ (DB xb ++ pad2).length := by rw [List.length_append, DB_len]; omega
                simp (maxSteps := 4000000) -dsimp [-Y1, -Array.all_eq_true, -Y3, -Y4, and_assoc, Y5, Tryz.f116, sArgsU, sSignC, sNameC, k5, k4, k3, k2, k0, w2, w4, hi2, Con.gen, e0, e1, e2, e3, e4, e5, -List.length_append]
                have hle3 := hle1.trans hle2
                exact ⟨by omega, p1, p2, by unfold maxLen; omega, by omega, fun b' cap' pad' r1 r2 r3 => ⟨hle3.w0, hle3.g0, fun w' hm => by
                  have hl8 : (xa ++ xb).length = xa.length + xb.length := List.length_append
                  have r := hit_fin (xs := xa ++ xb) (pad := pad') hle3.w0 hle3.g0 hm (k := 1) (by rw [DB_app]; rfl) (by rw [hl8]; exact r1) r2 hH (by omega)
                  rw [hl8] at r
                  exact r⟩⟩
              · simp (maxSteps := 4000000) -dsimp [-Y1, -Array.all_eq_true, -Y3, -Y4, and_assoc, Y5, Tryz.f116, sArgsU, sSignC, sNameC, k5, k4, k3, k2, k0, hk, hk', w2, w4, hs, hi2, i_succ (i := k) (by omega), Con.gen]
                exact ⟨by omega, by omega, ⟨1, 11 - (k + 1), by omega, rfl, k + 1, by omega, by omega, rfl, fun o h1 h2 => by
                  by_cases e : o = k
                  · rw [e]; exact hs
                  · exact hK o h1 (by omega), by omega⟩⟩
            · obtain rfl : k = 11 := by omega
              have hH : Hit t 0 [] := hit_none hI hx hc (by rw [hn]; intro op h1 h2; exact hK op h1 (by omega))
              simp (maxSteps := 4000000) -dsimp [-Y1, -Array.all_eq_true, -Y3, -Y4, and_assoc, Y5, Tryz.f116, sArgsU, sSignC, sNameC, k5, k4, k3, k2, k0, hk, Con.gen]
              exact ⟨rfl, rfl, fun w' hm => ⟨0, [], ⟨none, 0, rfl, RdO.nil _ _ _, by decide, by decide⟩, hH, by decide⟩⟩
        by_cases y62 : y = 62
        · subst y62
          have hn : cmpN t i = 2 := by unfold cmpN; rw [hy]; rfl
          rcases hx3 with rfl | rfl | rfl
          all_goals
            simp (maxSteps := 4000000) -dsimp [-Y1, -Array.all_eq_true, -Y3, -Y4, and_assoc, Y5, Tryz.f116, sArgsU, sSignC, sNameC, j3, j2, j0, hlt, hlt', txt_get, hx, hxe, w1, hl2, hl2', hl2'', hy, hye, Con.gen]
            refine ⟨by omega, ?_⟩
            refine loop_inv (σ := ⟨[sArgsU, sSignC, sNameC], [(12, [(0, false), (1, false), (2, false), (3, false), (5, false), (6, false), (7, false), (8, false), (9, false), (4, false), (10, false), (11, false), (12, false), (13, false)])]⟩) hmx (by kernel_rfl) (fun m' cx' tm mem => cx' = ⟨w, [], w, []⟩ ∧ mem = [⟨b0, [.v (.int .i64 0), .v (.slice none 0 0)], 55⟩] ∧ ∃ k : Nat, 5 ≤ k ∧ k ≤ 11 ∧ m' = 11 - k ∧ (∀ o : Int, 5 ≤ o → o < k → (t.take (i + 2)).drop i ≠ cmpS (o - 4)) ∧
                Sx.look tm 5 = .v (.int .i64 k) ∧ Sx.look tm 4 = .v (.int .i64 2) ∧ Sx.look tm 3 = .v (.int .i64 i) ∧ Sx.look tm 2 = .p 0 b0 0 ∧ Sx.look tm 0 = .v (.string (txt t)))
              6 ⟨rfl, rfl, 5, by omega, by omega, rfl, by omega, by simp [Sx.look], by simp [Sx.look], by simp [Sx.look, j3], by simp [Sx.look, j2], by simp [Sx.look, j0]⟩ ?_
            rintro m' cx tm mem ⟨rfl, rfl, k, hk5, hk11, rfl, hK, k5, k4, k3, k2, k0⟩
            refine ⟨500, ?_⟩
            have w2 : IntKind.i64.wrap ((i : Int) + 2) = ((i + 2 : Nat) : Int) := by rw [wrap_i64 (by omega) (by omega)]; omega
            have w4 : ((i : Int) + 2).toNat = i + 2 := by omega
            by_cases hk : k ≤ 10
            · have hk' : (k : Int) ≤ 10 := by omega
              by_cases hs : (t.take (i + 2)).drop i = cmpS ((k : Int) - 4)
              · have hH := hit_cmp (op := k) ⟨by omega, by omega⟩ hI hx hc (by rw [hn]; exact hs)
                rw [hn] at hH
                simp (maxSteps := 4000000) -dsimp [-Y1, -Array.all_eq_true, -Y3, -Y4, and_assoc, Y5, Tryz.f116, sArgsU, sSignC, sNameC, k5, k4, k3, k2, k0, hk, hk', w2, w4, hs, hi2, Con.gen]
                repeat (refine ⟨by first | omega | (simp; omega), ?_⟩)
                refine sArgsU_at (q := 32) (s := t.take i) (by simp; omega) ?_
                intro cx1 b1 cp1 pad1 hle1 p1 p2 p3
                have la := argsS_len (t.take i) 32
                have lb := argsS_len (t.drop (i + 2)) 32
                generalize argsS (t.take i) 32 = xa at *
                simp (maxSteps := 4000000) -dsimp [-Y1, -Array.all_eq_true, -Y3, -Y4, and_assoc, Y5, Tryz.f116, sArgsU, sSignC, sNameC, k5, k4, k3, k2, k0, w2, w4, hi2, Con.gen]
                repeat (refine ⟨by first | omega | (simp; omega), ?_⟩)
                refine sArgsU_at (q := 32) (s := t.drop (i + 2)) (by simp; omega) ?_
                intro cx2 b2 cp2 pad2 hle2 o1 o2 o3
                generalize argsS (t.drop (i + 2)) 32 = xb at *
                have e0 := DB_take xa pad1 rfl
                have e1 := DB_full (ds := xa) rfl p3 p1
                have e2 := DB_take xb pad2 rfl
                have e3 := DB_full (ds := xb) rfl o3 o1
                have e4 := DB_one xb
                have e5 : xb.length * 3 ≤ (DB xb ++ pad2).length := by rw [List.length_append, DB_len]; omega
                simp (maxSteps := 4000000) -dsimp [-Y1, -Array.all_eq_true, -Y3, -Y4, and_assoc, Y5, Tryz.f116, sArgsU, sSignC, sNameC, k5, k4, k3, k2, k0, w2, w4, hi2, Con.gen, e0, e1, e2, e3, e4, e5, -List.length_append]
                have hle3 := hle1.trans hle2
                exact ⟨by omega, p1, p2, by unfold maxLen; omega, by omega, fun b' cap' pad' r1 r2 r3 => ⟨hle3.w0, hle3.g0, fun w' hm => by
                  have hl8 : (xa ++ xb).length = xa.length + xb.length := List.length_append
                  have r := hit_fin (xs := xa ++ xb) (pad := pad') hle3.w0 hle3.g0 hm (k := 1) (by rw [DB_app]; rfl) (by rw [hl8]; exact r1) r2 hH (by omega)
                  rw [hl8] at r
                  exact r⟩⟩
              · simp (maxSteps := 4000000) -dsimp [-Y1, -Array.all_eq_true, -Y3, -Y4, and_assoc, Y5, Tryz.f116, sArgsU, sSignC, sNameC, k5, k4, k3, k2, k0, hk, hk', w2, w4, hs, hi2, i_succ (i := k) (by omega), Con.gen]
                exact ⟨by omega, by omega, ⟨1, 11 - (k + 1), by omega, rfl, k + 1, by omega, by omega, rfl, fun o h1 h2 => by
                  by_cases e : o = k
                  · rw [e]; exact hs
                  · exact hK o h1 (by omega), by omega⟩⟩
            · obtain rfl : k = 11 := by omega
              have hH : Hit t 0 [] := hit_none hI hx hc (by rw [hn]; intro op h1 h2; exact hK op h1 (by omega))
              simp (maxSteps := 4000000) -dsimp [-Y1, -Array.all_eq_true, -Y3, -Y4, and_assoc, Y5, Tryz.f116, sArgsU, sSignC, sNameC, k5, k4, k3, k2, k0, hk, Con.gen]
              exact ⟨rfl, rfl, fun w' hm => ⟨0, [], ⟨none, 0, rfl, RdO.nil _ _ _, by decide, by decide⟩, hH, by decide⟩⟩
        · have hn : cmpN t i = 1 := by unfold cmpN; rw [hy]; exact if_neg (fun h => h.elim y61 y62)
          have n61 : ¬ (y.toNat : Int) = 61 := fun e => y61 (UInt8.toNat_inj.1 (by show y.toNat = 61; omega))
          have n62 : ¬ (y.toNat : Int) = 62 := fun e => y62 (UInt8.toNat_inj.1 (by show y.toNat = 62; omega))
          rcases hx3 with rfl | rfl | rfl
          all_goals
            simp (maxSteps := 4000000) -dsimp [-Y1, -Array.all_eq_true, -Y3, -Y4, and_assoc, Y5, Tryz.f116, sArgsU, sSignC, sNameC, j3, j2, j0, hlt, hlt', txt_get, hx, hxe, w1, hl2, hl2', hl2'', hy, hye, n61, n62, Con.gen]
            refine ⟨by omega, ?_⟩
            refine loop_inv (σ := ⟨[sArgsU, sSignC, sNameC], [(12, [(0, false), (1, false), (2, false), (3, false), (5, false), (6, false), (7, false), (8, false), (9, false), (4, false), (10, false), (11, false), (12, false), (13, false)])]⟩) hmx (by kernel_rfl) (fun m' cx' tm mem => cx' = ⟨w, [], w, []⟩ ∧ mem = [⟨b0, [.v (.int .i64 0), .v (.slice none 0 0)], 55⟩] ∧ ∃ k : Nat, 5 ≤ k ∧ k ≤ 11 ∧ m' = 11 - k ∧ (∀ o : Int, 5 ≤ o → o < k → (t.take (i + 1)).drop i ≠ cmpS (o - 4)) ∧
                Sx.look tm 5 = .v (.int .i64 k) ∧ Sx.look tm 4 = .v (.int .i64 1) ∧ Sx.look tm 3 = .v (.int .i64 i) ∧ Sx.look tm 2 = .p 0 b0 0 ∧ Sx.look tm 0 = .v (.string (txt t)))
              6 ⟨rfl, rfl, 5, by omega, by omega, rfl, by omega, by simp [Sx.look], by simp [Sx.look], by simp [Sx.look, j3], by simp [Sx.look, j2], by simp [Sx.look, j0]⟩ ?_
            rintro m' cx tm mem ⟨rfl, rfl, k, hk5, hk11, rfl, hK, k5, k4, k3, k2, k0⟩
            refine ⟨500, ?_⟩
            have w2 : IntKind.i64.wrap ((i : Int) + 1) = ((i + 1 : Nat) : Int) := by rw [wrap_i64 (by omega) (by omega)]; omega
            have w4 : ((i : Int) + 1).toNat = i + 1 := by omega
            by_cases hk : k ≤ 10
            · have hk' : (k : Int) ≤ 10 := by omega
              by_cases hs : (t.take (i + 1)).drop i = cmpS ((k : Int) - 4)
              · have hH := hit_cmp (op := k) ⟨by omega, by omega⟩ hI hx hc (by rw [hn]; exact hs)
                rw [hn] at hH
                simp (maxSteps := 4000000) -dsimp [-Y1, -Array.all_eq_true, -Y3, -Y4, and_assoc, Y5, Tryz.f116, sArgsU, sSignC, sNameC, k5, k4, k3, k2, k0, hk, hk', w2, w4, hs, hi2, Con.gen]
                repeat (refine ⟨by first | omega | (simp; omega), ?_⟩)
                refine sArgsU_at (q := 32) (s := t.take i) (by simp; omega) ?_
                intro cx1 b1 cp1 pad1 hle1 p1 p2 p3
                have la := argsS_len (t.take i) 32
                have lb := argsS_len (t.drop (i + 1)) 32
                generalize argsS (t.take i) 32 = xa at *
                simp (maxSteps := 4000000) -dsimp [-Y1, -Array.all_eq_true, -Y3, -Y4, and_assoc, Y5, Tryz.f116, sArgsU, sSignC, sNameC, k5, k4, k3, k2, k0, w2, w4, hi2, Con.gen]
                repeat (refine ⟨by first | omega | (simp; omega), ?_⟩)
                refine sArgsU_at (q := 32) (s := t.drop (i + 1)) (by simp; omega) ?_
                intro cx2 b2 cp2 pad2 hle2 o1 o2 o3
                generalize argsS (t.drop (i + 1)) 32 = xb at *
                have e0 := DB_take xa pad1 rfl
                have e1 := DB_full (ds := xa) rfl p3 p1
                have e2 := DB_take xb pad2 rfl
                have e3 := DB_full (ds := xb) rfl o3 o1
                have e4 := DB_one xb
                have e5 : xb.length * 3 ≤ (DB xb ++ pad2).length := by rw [List.length_append, DB_len]; omega
                simp (maxSteps := 4000000) -dsimp [-Y1, -Array.all_eq_true, -Y3, -Y4, and_assoc, Y5, Tryz.f116, sArgsU, sSignC, sNameC, k5, k4, k3, k2, k0, w2, w4, hi2, Con.gen, e0, e1, e2, e3, e4, e5, -List.length_append]
                have hle3 := hle1.trans hle2
                exact ⟨by omega, p1, p2, by unfold maxLen; omega, by omega, fun b' cap' pad' r1 r2 r3 => ⟨hle3.w0, hle3.g0, fun w' hm => by
                  have hl8 : (xa ++ xb).length = xa.length + xb.length := List.length_append
                  have r := hit_fin (xs := xa ++ xb) (pad := pad') hle3.w0 hle3.g0 hm (k := 1) (by rw [DB_app]; rfl) (by rw [hl8]; exact r1) r2 hH (by omega)
                  rw [hl8] at r
                  exact r⟩⟩
              · simp (maxSteps := 4000000) -dsimp [-Y1, -Array.all_eq_true, -Y3, -Y4, and_assoc, Y5, Tryz.f116, sArgsU, sSignC, sNameC, k5, k4, k3, k2, k0, hk, hk', w2, w4, hs, hi2, i_succ (i := k) (by omega), Con.gen]
                exact ⟨by omega, by omega, ⟨1, 11 - (k + 1), by omega, rfl, k + 1, by omega, by omega, rfl, fun o h1 h2 => by
                  by_cases e : o = k
                  · rw [e]; exact hs
                  · exact hK o h1 (by omega), by omega⟩⟩
            · obtain rfl : k = 11 := by omega
              have hH : Hit t 0 [] := hit_none hI hx hc (by rw [hn]; intro op h1 h2; exact hK op h1 (by omega))
              simp (maxSteps := 4000000) -dsimp [-Y1, -Array.all_eq_true, -Y3, -Y4, and_assoc, Y5, Tryz.f116, sArgsU, sSignC, sNameC, k5, k4, k3, k2, k0, hk, Con.gen]
              exact ⟨rfl, rfl, fun w' hm => ⟨0, [], ⟨none, 0, rfl, RdO.nil _ _ _, by decide, by decide⟩, hH, by decide⟩⟩
      · have hl2' : ¬ ((i + 1 : Nat) : Int) < t.length := by omega
        have hl2'' : ¬ (i : Int) + 1 < t.length := by omega
        have hn : cmpN t i = 1 := by unfold cmpN; rw [List.getElem?_eq_none (by omega)]
        have hi2 : i + 1 ≤ t.length ∧ i + 1 ≤ t.length := by omega
        rcases hx3 with rfl | rfl | rfl
        all_goals
          simp (maxSteps := 4000000) -dsimp [-Y1, -Array.all_eq_true, -Y3, -Y4, and_assoc, Y5, Tryz.f116, sArgsU, sSignC, sNameC, j3, j2, j0, hlt, hlt', txt_get, hx, hxe, w1, hl2, hl2', hl2'', Con.gen]
          refine loop_inv (σ := ⟨[sArgsU, sSignC, sNameC], [(12, [(0, false), (1, false), (2, false), (3, false), (5, false), (6, false), (7, false), (8, false), (9, false), (4, false), (10, false), (11, false), (12, false), (13, false)])]⟩) hmx (by kernel_rfl) (fun m' cx' tm mem => cx' = ⟨w, [], w, []⟩ ∧ mem = [⟨b0, [.v (.int .i64 0), .v (.slice none 0 0)], 55⟩] ∧ ∃ k : Nat, 5 ≤ k ∧ k ≤ 11 ∧ m' = 11 - k ∧ (∀ o : Int, 5 ≤ o → o < k → (t.take (i + 1)).drop i ≠ cmpS (o - 4)) ∧
              Sx.look tm 5 = .v (.int .i64 k) ∧ Sx.look tm 4 = .v (.int .i64 1) ∧ Sx.look tm 3 = .v (.int .i64 i) ∧ Sx.look tm 2 = .p 0 b0 0 ∧ Sx.look tm 0 = .v (.string (txt t)))
            6 ⟨rfl, rfl, 5, by omega, by omega, rfl, by omega, by simp [Sx.look], by simp [Sx.look], by simp [Sx.look, j3], by simp [Sx.look, j2], by simp [Sx.look, j0]⟩ ?_
          rintro m' cx tm mem ⟨rfl, rfl, k, hk5, hk11, rfl, hK, k5, k4, k3, k2, k0⟩
          refine ⟨500, ?_⟩
          have w2 : IntKind.i64.wrap ((i : Int) + 1) = ((i + 1 : Nat) : Int) := by rw [wrap_i64 (by omega) (by omega)]; omega
          have w4 : ((i : Int) + 1).toNat = i + 1 := by omega
          by_cases hk : k ≤ 10
          · have hk' : (k : Int) ≤ 10 := by omega
            by_cases hs : (t.take (i + 1)).drop i = cmpS ((k : Int) - 4)
            · have hH := hit_cmp (op := k) ⟨by omega, by omega⟩ hI hx hc (by rw [hn]; exact hs)
              rw [hn] at hH
              simp (maxSteps := 4000000) -dsimp [-Y1, -Array.all_eq_true, -Y3, -Y4, and_assoc, Y5, Tryz.f116, sArgsU, sSignC, sNameC, k5, k4, k3, k2, k0, hk, hk', w2, w4, hs, hi2, Con.gen]
              repeat (refine ⟨by first | omega | (simp; omega), ?_⟩)
              refine sArgsU_at (q := 32) (s := t.take i) (by simp; omega) ?_
              intro cx1 b1 cp1 pad1 hle1 p1 p2 p3
              have la := argsS_len (t.take i) 32
              have lb := argsS_len (t.drop (i + 1)) 32
              generalize argsS (t.take i) 32 = xa at *
              simp (maxSteps := 4000000) -dsimp [-Y1, -Array.all_eq_true, -Y3, -Y4, and_assoc, Y5, Tryz.f116, sArgsU, sSignC, sNameC, k5, k4, k3, k2, k0, w2, w4, hi2, Con.gen]
              repeat (refine ⟨by first | omega | (simp; omega), ?_⟩)
              refine sArgsU_at (q := 32) (s := t.drop (i + 1)) (by simp; omega) ?_
              intro cx2 b2 cp2 pad2 hle2 o1 o2 o3
              generalize argsS (t.drop (i + 1)) 32 = xb at *
              have e0 := DB_take xa pad1 rfl
              have e1 := DB_full (ds := xa) rfl p3 p1
              have e2 := DB_take xb pad2 rfl
              have e3 := DB_full (ds := xb) rfl o3 o1
              have e4 := DB_one xb
              have e5 : xb.length * 3 ≤ (DB xb ++ pad2).length := by rw [List.length_append, DB_len]; omega
              simp (maxSteps := 4000000) -dsimp [-Y1, -Array.all_eq_true, -Y3, -Y4, and_assoc, Y5, Tryz.f116, sArgsU, sSignC, sNameC, k5, k4, k3, k2, k0, w2, w4, hi2, Con.gen, e0, e1, e2, e3, e4, e5, -List.length_append]
              have hle3 := hle1.trans hle2
              exact ⟨by omega, p1, p2, by unfold maxLen; omega, by omega, fun b' cap' pad' r1 r2 r3 => ⟨hle3.w0, hle3.g0, fun w' hm => by
                have hl8 : (xa ++ xb).length = xa.length + xb.length := List.length_append
                have r := hit_fin (xs := xa ++ xb) (pad := pad') hle3.w0 hle3.g0 hm (k := 1) (by rw [DB_app]; rfl) (by rw [hl8]; exact r1) r2 hH (by omega)
                rw [hl8] at r
                exact r⟩⟩
            · simp (maxSteps := 4000000) -dsimp [-Y1, -Array.all_eq_true, -Y3, -Y4, and_assoc, Y5, Tryz.f116, sArgsU, sSignC, sNameC, k5, k4, k3, k2, k0, hk, hk', w2, w4, hs, hi2, i_succ (i := k) (by omega), Con.gen]
              exact ⟨by omega, by omega, ⟨1, 11 - (k + 1), by omega, rfl, k + 1, by omega, by omega, rfl, fun o h1 h2 => by
                by_cases e : o = k
                · rw [e]; exact hs
                · exact hK o h1 (by omega), by omega⟩⟩
          · obtain rfl : k = 11 := by omega
            have hH : Hit t 0 [] := hit_none hI hx hc (by rw [hn]; intro op h1 h2; exact hK op h1 (by omega))
            simp (maxSteps := 4000000) -dsimp [-Y1, -Array.all_eq_true, -Y3, -Y4, and_assoc, Y5, Tryz.f116, sArgsU, sSignC, sNameC, k5, k4, k3, k2, k0, hk, Con.gen]
            exact ⟨rfl, rfl, fun w' hm => ⟨0, [], ⟨none, 0, rfl, RdO.nil _ _ _, by decide, by decide⟩, hH, by decide⟩⟩
  · obtain rfl : i = t.length := by omega
    have hlt' : ¬ (t.length : Int) < t.length := by omega
    have hall : ∀ c ∈ t, cmpCh c = false := fun c hc => by
      obtain ⟨j, hj, e⟩ := List.mem_iff_getElem.1 hc
      exact hI j c hj (by rw [List.getElem?_eq_getElem hj, e])
    simp (maxSteps := 4000000) -dsimp [-Y1, -Array.all_eq_true, -Y3, -Y4, and_assoc, Y5, Tryz.f116, sArgsU, sSignC, sNameC, j3, j2, j0, hlt', Con.gen]
    refine loop_inv (σ := ⟨[sArgsU, sSignC, sNameC], [(12, [(0, false), (1, false), (2, false), (3, false), (5, false), (6, false), (7, false), (8, false), (9, false), (4, false), (10, false), (11, false), (12, false), (13, false)])]⟩) hmx (by kernel_rfl) (fun m' cx' tm mem => cx' = ⟨w, [], w, []⟩ ∧ mem = [⟨b0, [.v (.int .i64 0), .v (.slice none 0 0)], 55⟩] ∧ ∃ k : Nat, 21 ≤ k ∧ k ≤ 38 ∧ m' = 38 - k ∧ (∀ o : Int, 21 ≤ o → o < k → ¬ NameAt t o) ∧
        Sx.look tm 6 = .v (.int .i64 k) ∧ Sx.look tm 2 = .p 0 b0 0 ∧ Sx.look tm 0 = .v (.string (txt t)))
      17 ⟨rfl, rfl, 21, by omega, by omega, rfl, by omega, by simp [Sx.look], by simp [Sx.look, j2], by simp [Sx.look, j0]⟩ ?_
    rintro m' cx tm mem ⟨rfl, rfl, k, hk5, hk11, rfl, hK, k6, k2, k0⟩
    refine ⟨500, ?_⟩
    by_cases hk : k ≤ 37
    · have hk' : (k : Int) ≤ 37 := by omega
      have nl := @coilName_len k
      have hnext : ¬ NameAt t k → ∀ o : Int, 21 ≤ o → o < ((k + 1 : Nat) : Int) → ¬ NameAt t o := fun hno o h1 h2 => by
        by_cases e : o = k
        · subst e; exact hno
        · exact hK o h1 (by omega)
      by_cases hL : (coilName k).length < t.length
      · have hL' : ((coilName k).length : Int) < t.length := by omega
        obtain ⟨y, hy⟩ : ∃ y, t[(coilName k).length]? = some y := ⟨t[(coilName k).length], by simp [hL]⟩
        have hye : ∀ (h : (coilName k).length < t.length), t[(coilName k).length]'h = y := fun h => (List.getElem?_eq_some_iff.1 hy).2
        by_cases hT : t.take (coilName k).length = coilName k
        · by_cases y58 : y = 58
          · subst y58
            have hH := hit_coil (op := k) ⟨by omega, by omega⟩ ⟨hT, hy⟩ hall
            have w3 : IntKind.i64.wrap (((coilName k).length : Int) + 1) = (((coilName k).length + 1 : Nat) : Int) := i_succ (by omega)
            simp (maxSteps := 4000000) -dsimp [-Y1, -Array.all_eq_true, -Y3, -Y4, and_assoc, Y5, Tryz.f116, sArgsU, sSignC, sNameC, k6, k2, k0, hk, hk', hL, hL', hT, txt_get, hy, hye, w3, Con.gen]
            refine ⟨by omega, by omega, by omega, ?_, fun h => by first | exact absurd hT h | (exfalso; omega)⟩
            refine sArgsU_at (q := 44) (s := t.drop ((coilName k).length + 1)) (by have := hl; simp at this ⊢; omega) ?_
            intro cx1 b1 cp1 pad1 hle1 p1 p2 p3
            have la := argsS_len (t.drop ((coilName k).length + 1)) 44
            generalize argsS (t.drop ((coilName k).length + 1)) 44 = xa at *
            simp (maxSteps := 4000000) -dsimp [-Y1, -Array.all_eq_true, -Y3, -Y4, and_assoc, Y5, Tryz.f116, sArgsU, sSignC, sNameC, k6, k2, k0, w3, Con.gen]
            exact ⟨hle1.w0, hle1.g0, fun w' hm => hit_fin hle1.w0 hle1.g0 hm (k := 1) rfl p1 p2 hH (by omega)⟩
          · have n58 : ¬ (y.toNat : Int) = 58 := fun e => y58 (UInt8.toNat_inj.1 (by show y.toNat = 58; omega))
            have hno : ¬ NameAt t k := fun h => y58 (Option.some.inj (hy.symm.trans h.2))
            simp (maxSteps := 4000000) -dsimp [-Y1, -Array.all_eq_true, -Y3, -Y4, and_assoc, Y5, Tryz.f116, sArgsU, sSignC, sNameC, k6, k2, k0, hk, hk', hL, hL', hT, txt_get, hy, hye, n58, i_succ (i := k) (by omega), Con.gen]
            exact ⟨by omega, ⟨1, 38 - (k + 1), by omega, rfl, k + 1, by omega, by omega, rfl, hnext hno, by omega⟩, fun _ => ⟨1, 38 - (k + 1), by omega, rfl, k + 1, by omega, by omega, rfl, hnext hno, by omega⟩⟩
        · have hno : ¬ NameAt t k := fun h => hT h.1
          simp (maxSteps := 4000000) -dsimp [-Y1, -Array.all_eq_true, -Y3, -Y4, and_assoc, Y5, Tryz.f116, sArgsU, sSignC, sNameC, k6, k2, k0, hk, hk', hL, hL', hT, i_succ (i := k) (by omega), Con.gen]
          exact ⟨by omega, ⟨1, 38 - (k + 1), by omega, rfl, k + 1, by omega, by omega, rfl, hnext hno, by omega⟩, fun _ => ⟨1, 38 - (k + 1), by omega, rfl, k + 1, by omega, by omega, rfl, hnext hno, by omega⟩⟩
      · have hL' : ¬ ((coilName k).length : Int) < t.length := by omega
        have hno : ¬ NameAt t k := fun h => by
          have := (List.getElem?_eq_some_iff.1 h.2).1
          omega
        simp (maxSteps := 4000000) -dsimp [-Y1, -Array.all_eq_true, -Y3, -Y4, and_assoc, Y5, Tryz.f116, sArgsU, sSignC, sNameC, k6, k2, k0, hk, hk', hL, hL', i_succ (i := k) (by omega), Con.gen]
        exact fun _ => ⟨1, 38 - (k + 1), by omega, rfl, k + 1, by omega, by omega, rfl, hnext hno, by omega⟩
    · obtain rfl : k = 38 := by omega
      obtain ⟨q47, q43, q45, qn⟩ := hit_head hall fun op h1 h2 => hK op h1 (by omega)
      obtain ⟨x, r, rfl⟩ : ∃ x r, t = x :: r := by
        cases t with
        | nil => exact absurd rfl hne
        | cons x r => exact ⟨x, r, rfl⟩
      by_cases x47 : x = 47
      · subst x47
        have hH : Hit (47 :: r) 2 (argsS r 32) := q47 rfl
        simp (maxSteps := 4000000) -dsimp [-Y1, -Array.all_eq_true, -Y3, -Y4, and_assoc, Y5, Tryz.f116, sArgsU, sSignC, sNameC, k6, k2, k0, txt_get, Con.gen]
        repeat (refine ⟨by first | omega | (simp; omega), ?_⟩)
        refine sArgsU_at (q := 32) (s := r) (by have := hl; simp at this ⊢; omega) ?_
        intro cx1 b1 cp1 pad1 hle1 p1 p2 p3
        have la := argsS_len (r) 32
        generalize argsS (r) 32 = xa at *
        simp (maxSteps := 4000000) -dsimp [-Y1, -Array.all_eq_true, -Y3, -Y4, and_assoc, Y5, Tryz.f116, sArgsU, sSignC, sNameC, k6, k2, k0, Con.gen]
        exact ⟨hle1.w0, hle1.g0, fun w' hm => hit_fin hle1.w0 hle1.g0 hm (k := 1) rfl p1 p2 hH (by omega)⟩
      by_cases x43 : x = 43
      · subst x43
        have hH : Hit (43 :: r) 3 (argsS r 58) := q43 rfl
        simp (maxSteps := 4000000) -dsimp [-Y1, -Array.all_eq_true, -Y3, -Y4, and_assoc, Y5, Tryz.f116, sArgsU, sSignC, sNameC, k6, k2, k0, txt_get, Con.gen]
        repeat (refine ⟨by first | omega | (simp; omega), ?_⟩)
        refine sArgsU_at (q := 58) (s := r) (by have := hl; simp at this ⊢; omega) ?_
        intro cx1 b1 cp1 pad1 hle1 p1 p2 p3
        have la := argsS_len (r) 58
        generalize argsS (r) 58 = xa at *
        simp (maxSteps := 4000000) -dsimp [-Y1, -Array.all_eq_true, -Y3, -Y4, and_assoc, Y5, Tryz.f116, sArgsU, sSignC, sNameC, k6, k2, k0, Con.gen]
        exact ⟨hle1.w0, hle1.g0, fun w' hm => hit_fin hle1.w0 hle1.g0 hm (k := 1) rfl p1 p2 hH (by omega)⟩
      by_cases x45 : x = 45
      · subst x45
        have hH : Hit (45 :: r) 4 (argsS r 58) := q45 rfl
        simp (maxSteps := 4000000) -dsimp [-Y1, -Array.all_eq_true, -Y3, -Y4, and_assoc, Y5, Tryz.f116, sArgsU, sSignC, sNameC, k6, k2, k0, txt_get, Con.gen]
        repeat (refine ⟨by first | omega | (simp; omega), ?_⟩)
        refine sArgsU_at (q := 58) (s := r) (by have := hl; simp at this ⊢; omega) ?_
        intro cx1 b1 cp1 pad1 hle1 p1 p2 p3
        have la := argsS_len (r) 58
        generalize argsS (r) 58 = xa at *
        simp (maxSteps := 4000000) -dsimp [-Y1, -Array.all_eq_true, -Y3, -Y4, and_assoc, Y5, Tryz.f116, sArgsU, sSignC, sNameC, k6, k2, k0, Con.gen]
        exact ⟨hle1.w0, hle1.g0, fun w' hm => hit_fin hle1.w0 hle1.g0 hm (k := 1) rfl p1 p2 hH (by omega)⟩
      have n47 : ¬ (x.toNat : Int) = 47 := fun e => x47 (UInt8.toNat_inj.1 (by show x.toNat = 47; omega))
      have n43 : ¬ (x.toNat : Int) = 43 := fun e => x43 (UInt8.toNat_inj.1 (by show x.toNat = 43; omega))
      have n45 : ¬ (x.toNat : Int) = 45 := fun e => x45 (UInt8.toNat_inj.1 (by show x.toNat = 45; omega))
      have hH := qn (by simpa using x47) (by simpa using x43) (by simpa using x45)
      simp (maxSteps := 4000000) -dsimp [-Y1, -Array.all_eq_true, -Y3, -Y4, and_assoc, Y5, Tryz.f116, sArgsU, sSignC, sNameC, k6, k2, k0, txt_get, n47, n43, n45, Con.gen]
      repeat (refine ⟨by first | omega | (simp; omega), ?_⟩)
      refine sArgsU_at (q := 32) (s := x :: r) (by have := hl; simp at this ⊢; omega) ?_
      intro cx1 b1 cp1 pad1 hle1 p1 p2 p3
      have la := argsS_len (x :: r) 32
      generalize argsS (x :: r) 32 = xa at *
      simp (maxSteps := 4000000) -dsimp [-Y1, -Array.all_eq_true, -Y3, -Y4, and_assoc, Y5, Tryz.f116, sArgsU, sSignC, sNameC, k6, k2, k0, Con.gen]
      exact ⟨hle1.w0, hle1.g0, fun w' hm => hit_fin hle1.w0 hle1.g0 hm (k := 1) rfl p1 p2 hH (by omega)⟩
def sGuessEC_S : Makes Tryz.prog 116 where
  ι := ((Str))
  A := fun (t : ((Str))) => [.string (txt t)]
  pre := fun (t : ((Str))) (F : Facts) => True ∧ (t ≠ [] ∧ t.length ≤ 100)
  post := fun (t : ((Str))) (v : Value) (F : Facts) => IsHit F v t
  mono := by
    intro i F G hs h
    first | exact h | exact h.mono hs | exact ⟨h.1.mono hs, h.2⟩ | exact ⟨h.1.mono hs, h.2.1.mono hs, h.2.2⟩ | exact ⟨h.1.mono hs, h.2.1.mono hs⟩ | exact ⟨h.1.mono hs, h.2.1.mono hs, h.2.2.1.mono hs, h.2.2.2⟩
  monoP := fun i v F G hs h => h.mono hs
  enter := Tryz.call116
  h := fun t w hp => sGuessEC_c t w hp
def sGuessEC : Con Tryz.prog := Con.make sGuessEC_S
theorem sElemReadC_c (t : Str) (w : World) (hpre : True ∧ t.length ≤ 100000000) : Calls Tryz.prog 44 #[.string (txt t)] w fun e w' => ∃ v, e = .returned v ∧ RowKit.Below w.heap.size w w' ∧ IsER (fun a => if w.heap.size ≤ a.block then w'.cell? a else none) v (elemRd t) := by
  refine make_of_vcs ⟨[sGuessEC, sElemTextC], []⟩ hmx Tryz.func44 rfl (by kernel_rfl) (args := [.string (txt t)]) (by simp [Tryz.ntmps44]) w (fun v F => IsER F v (elemRd t)) 200 ?_
  obtain ⟨_, hl⟩ := hpre
  by_cases h0 : t = []
  · subst h0
    rw [elemRd_nil]
    simp (maxSteps := 4000000) -dsimp [-Y1, -Array.all_eq_true, -Y3, -Y4, and_assoc, Y5, Tryz.f44, sGuessEC, sElemTextC]
    exact fun b => ⟨rfl, rfl, fun w' hm => ⟨0, none, 0, [], rfl, RdO.nil _ _ _, by decide, by decide, Or.inr ⟨rfl, rfl, rfl⟩⟩⟩
  by_cases h1 : 100 < t.length
  · rw [elemRd_long h1]
    have h1' : (t.length : Int) > 100 := by omega
    have h1'' : (100 : Int) < t.length := by omega
    simp (maxSteps := 4000000) -dsimp [-Y1, -Array.all_eq_true, -Y3, -Y4, and_assoc, Y5, Tryz.f44, sGuessEC, sElemTextC, h0, h1, h1', h1'']
    exact fun b => ⟨rfl, rfl, fun w' hm => ⟨0, none, 0, [], rfl, RdO.nil _ _ _, by decide, by decide, Or.inr ⟨rfl, rfl, rfl⟩⟩⟩
  have h1' : ¬ (t.length : Int) > 100 := by omega
  have h1'' : ¬ (100 : Int) < t.length := by omega
  simp (maxSteps := 4000000) -dsimp [-Y1, -Array.all_eq_true, -Y3, -Y4, and_assoc, Y5, Tryz.f44, sGuessEC, sElemTextC, h0, h1, h1', h1'']
  intro b
  refine ⟨t, rfl, ⟨trivial, h0, by omega⟩, ?_⟩
  rintro cx1 v hle1 hv
  obtain ⟨op, xs, ⟨o, cap, rfl, hd, c1, c2⟩, hh, h8⟩ := hv.ex
  have t1 := fun d mem K => sElemTextC_rw (op := op) (cap := cap) (d := d) (cx := cx1) (mem := mem) (K := K) ⟨hd.mono ((sub_new _).trans (sub_now _ _)), by omega⟩
  have eR := elemRd_hit hh
  by_cases hE : elemL op xs = t
  · rw [if_pos ⟨h0, hE⟩] at eR
    rw [← eR]
    simp (maxSteps := 4000000) -dsimp [-Y1, -Array.all_eq_true, -Y3, -Y4, and_assoc, Y5, Tryz.f44, sGuessEC, sElemTextC, t1, hE]
    exact fun b2 => ⟨hle1.w0, hle1.g0, fun w' hm => ⟨op, o, cap, xs, rfl, hd.mono (sub_end hle1.w0 hm), c1, c2, Or.inl ⟨_, rfl, rfl, rfl⟩⟩⟩
  · rw [if_neg fun h => hE h.2] at eR
    rw [← eR]
    simp (maxSteps := 4000000) -dsimp [-Y1, -Array.all_eq_true, -Y3, -Y4, and_assoc, Y5, Tryz.f44, sGuessEC, sElemTextC, t1, hE]
    exact fun b2 => ⟨hle1.w0, hle1.g0, fun w' hm => ⟨0, none, 0, [], rfl, RdO.nil _ _ _, by decide, by decide, Or.inr ⟨rfl, rfl, rfl⟩⟩⟩
def sElemReadC_S : Makes Tryz.prog 44 where
  ι := ((Str))
  A := fun (t : ((Str))) => [.string (txt t)]
  pre := fun (t : ((Str))) (F : Facts) => True ∧ t.length ≤ 100000000
  post := fun (t : ((Str))) (v : Value) (F : Facts) => IsER F v (elemRd t)
  mono := by
    intro i F G hs h
    first | exact h | exact h.mono hs | exact ⟨h.1.mono hs, h.2⟩ | exact ⟨h.1.mono hs, h.2.1.mono hs, h.2.2⟩ | exact ⟨h.1.mono hs, h.2.1.mono hs⟩ | exact ⟨h.1.mono hs, h.2.1.mono hs, h.2.2.1.mono hs, h.2.2.2⟩
  monoP := fun i v F G hs h => h.mono hs
  enter := Tryz.call44
  h := fun t w hp => sElemReadC_c t w hp
def sElemReadC : Con Tryz.prog := Con.make sElemReadC_S
end Go.Proofs.YtclbanhoiaieaaaGreatDoor
