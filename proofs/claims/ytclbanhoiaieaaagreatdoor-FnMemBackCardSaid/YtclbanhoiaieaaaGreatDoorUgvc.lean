/-
  Contracts: an element read out of a text, by the reference.
-/
import Derived.Test.YtclbanhoiaieaaaGreatDoorUavc
import Derived.Test.YtclbanhoiaieaaaGreatDoorTzvc
set_option linter.unusedVariables false
set_option linter.unusedSimpArgs false
set_option maxRecDepth 100000
set_option maxHeartbeats 4000000
namespace Go.Sx
open Go

structure CutAt (c : UInt8) (s : Str) (i : Nat) (done : List Str) (f : Nat) : Prop where
  le : f ≤ i ∧ i ≤ s.length
  no : c ∉ (s.take i).drop f
  eq : cutL c s = done ++ cutL c (s.drop f)
  len : done.length ≤ f
theorem CutAt.start (c : UInt8) (s : Str) : CutAt c s 0 [] 0 := ⟨⟨Nat.le_refl _, Nat.zero_le _⟩, by simp, by simp, Nat.le_refl _⟩
theorem CutAt.step {c x : UInt8} {s : Str} {i f : Nat} {done : List Str} (h : CutAt c s i done f) (hx : s[i]? = some x) (hc : x ≠ c) : CutAt c s (i + 1) done f := by
  have hl := (List.getElem?_eq_some_iff.1 hx).1
  refine ⟨⟨by have := h.le; omega, hl⟩, ?_, h.eq, h.len⟩
  rw [List.take_add_one, hx, Option.toList_some, List.drop_append_of_le_length (by rw [List.length_take]; have := h.le; omega)]
  intro hm
  rcases List.mem_append.1 hm with hm | hm
  · exact h.no hm
  · rw [List.mem_singleton] at hm; exact hc hm.symm
theorem CutAt.hit {c : UInt8} {s : Str} {i f : Nat} {done : List Str} (h : CutAt c s i done f) (hx : s[i]? = some c) : CutAt c s (i + 1) (done ++ [(s.take i).drop f]) (i + 1) := by
  have hl := (List.getElem?_eq_some_iff.1 hx).1
  have hf := h.le
  have e : s.drop f = (s.take i).drop f ++ c :: s.drop (i + 1) := by
    conv => lhs; rw [← List.take_append_drop i s]
    rw [List.drop_append_of_le_length (by rw [List.length_take]; omega), List.drop_eq_getElem_cons hl]
    congr 2
    exact (List.getElem?_eq_some_iff.1 hx).2
  refine ⟨⟨Nat.le_refl _, hl⟩, by rw [List.drop_of_length_le (by rw [List.length_take]; omega)]; simp, ?_, by have := h.len; simp; omega⟩
  rw [h.eq, e, cutL_app h.no, List.append_assoc]
  rfl
theorem CutAt.fin {c : UInt8} {s : Str} {f : Nat} {done : List Str} (h : CutAt c s s.length done f) : cutL c s = done ++ [(s.take s.length).drop f] := by
  have e := h.eq
  have hn := h.no
  rw [List.take_length] at hn ⊢
  rw [e, cutL_one hn]
theorem row_new' {cx : Cx} {mem : List Blk} {w w' : World} (h0 : cx.w0 = w) (hg : cx.g0 = []) (hm : MemRel cx mem w') {k b : Nat} {cells : List C} {ty : TypeId} {vs : List Value} (hk : mem[k]? = some ⟨b, cells, ty⟩) (hv : ∀ (j : Nat) v, vs[j]? = some v → cells[j]? = some (.v v)) :
    RdL (fun a => if w.heap.size ≤ a.block then w'.cell? a else none) (some ⟨b, 0, none⟩) vs := by
  have hb : w.heap.size ≤ b := by
    refine Nat.le_of_not_lt fun hlt => ?_
    have := hm.low _ (List.mem_of_getElem? hk) (by rw [h0]; exact hlt)
    rw [hg] at this
    simp at this
  intro j v hj
  refine ⟨_, rfl, ?_⟩
  rw [addr_add, Nat.zero_add]
  simp only
  rw [if_pos hb]
  exact blk_cell hm hk (c := .v v) (hv j v hj)
structure IsHit (F : Facts) (v : Value) (t : Str) : Prop where
  ex : ∃ op xs, IsElem F v op xs ∧ Hit t op xs ∧ xs.length ≤ 8
theorem IsHit.mono {F G : Facts} {v : Value} {t : Str} (h : IsHit F v t) (hs : Sub F G) : IsHit G v t := by
  obtain ⟨op, xs, h1, h2⟩ := h.ex
  exact ⟨op, xs, h1.mono hs, h2⟩
end Go.Sx
namespace Go.Proofs.YtclbanhoiaieaaaGreatDoor
open Go Go.Sx
attribute [local simp] Sx.vcsE1 Sx.vcsE2 Sx.vcsE3 Sx.vcsE4 Sx.vcsE5 Sx.vcsE6 Sx.vcsE7 Sx.vcsE8 Sx.vcsE9 Sx.vcsE10 Sx.vcsE11 Sx.vcsE12 Sx.vcsE13 Sx.vcsE14 Sx.vcsE15 Sx.vcsE16 Sx.vcsE17 Sx.vcsE18 Sx.vcsE19 Sx.get Sx.look Sx.put Sx.pureFn Sx.findOrd Sx.unF Sx.dstOk Sx.isFloatT Sx.endVC Sx.resFn Sx.packC Sx.newFn Sx.storeFn Sx.buildFn Sx.known Sx.aggT Sx.cellsC Sx.findCon Sx.allV Sx.partsV Sx.partsC Sx.fillL Sx.exitTo Sx.fAr Sx.eqFn Sx.eqFieldsFn Sx.eqElemsFn Sx.partFn Sx.sliceFn Sx.boundFn Sx.AppV Sx.CopyV Sx.MakeSliceV Sx.NewsV Sx.GrowV Sx.TextV Sx.bytesL Sx.notInt Sx.typeAt Sx.argAt Sx.den Go.undef Go.Value.cells Go.Value.oneCell' Sx.Con.pure Sx.Con.some Sx.Con.read Sx.Con.make Sx.Con.ext Sx.Con.rel Sx.Con.extS Sx.Con.draw Sx.Con.step Sx.C.one Sx.Draws.steps

theorem sCutC_c (s : Str) (c : UInt8) (w : World) (hpre : True ∧ s.length ≤ 2000000) : Calls Tryz.prog 78 #[.string (txt s), .int .u8 c.toNat] w fun e w' => ∃ v, e = .returned v ∧ RowKit.Below w.heap.size w w' ∧ IsStrs (fun a => if w.heap.size ≤ a.block then w'.cell? a else none) v (cutL c s) := by
  refine make_of_vcs ⟨[], []⟩ hmx Tryz.func78 rfl (by kernel_rfl) (args := [.string (txt s), .int .u8 c.toNat]) (by simp [Tryz.ntmps78]) w (fun v F => IsStrs F v (cutL c s)) 300 ?_
  obtain ⟨_, hl⟩ := hpre
  simp (maxSteps := 4000000) -dsimp [-List.all_eq_true, -Array.all_eq_true, -Bool.exists_bool, -Bool.forall_bool, and_assoc, List.zipIdx, Tryz.f78]
  intro b0
  refine loop_inv (σ := ⟨[], []⟩) hmx (by kernel_rfl) (fun q cx' tm mem => Le ⟨w, [], w, []⟩ cx' ∧ ∃ (i f : Nat) (done : List Str) (b cp : Nat) (pad : List C), q = s.length + 1 - i ∧ done.length ≤ i ∧ (CutAt c s i done f ∨ (i = s.length + 1 ∧ done = cutL c s)) ∧ done.length ≤ cp ∧ cp ≤ maxLen ∧ pad.length = cp - done.length ∧ mem = [⟨b, TB done ++ pad, 9⟩] ∧
      Sx.look tm 7 = .v (.int .i64 i) ∧ Sx.look tm 6 = .v (.int .i64 f) ∧ Sx.look tm 5 = .s 0 b 0 done.length cp ∧ Sx.look tm 0 = .v (.string (txt s)) ∧ Sx.look tm 1 = .v (.int .u8 c.toNat))
    (s.length + 1) ⟨Le.refl _, 0, 0, [], b0, 0, [], by omega, by simp, Or.inl (CutAt.start c s), by decide, by decide, rfl, by simp [TB], by simp [Sx.look], by simp [Sx.look], by simp [Sx.look], by simp [Sx.look], by simp [Sx.look]⟩ ?_
  rintro q cx tm mem ⟨hle, i, f, done, b, cp, pad, rfl, hdi, hC | ⟨rfl, rfl⟩, g1, g2, g3, rfl, j7, j6, j5, j0, j1⟩
  · refine ⟨300, ?_⟩
    have hle1 := hC.le
    have hdl := hC.len
    have e0 := TB_take done pad rfl
    have e1 := TB_full (n := done.length) rfl g3 g1
    have ml : s.length < maxLen := by unfold maxLen; omega
    by_cases hlt : i < s.length
    · have hlt' : (i : Int) ≤ s.length := by omega
      have hne : ¬ (i : Int) = s.length := by omega
      obtain ⟨x, hx⟩ : ∃ x, s[i]? = some x := ⟨s[i], by simp [hlt]⟩
      have hxe : ∀ (h : i < s.length), s[i]'h = x := fun h => (List.getElem?_eq_some_iff.1 hx).2
      by_cases hc : x = c
      · subst hc
        have hC2 := hC.hit hx
        simp (maxSteps := 4000000) -dsimp [-List.all_eq_true, -Array.all_eq_true, -Bool.exists_bool, -Bool.forall_bool, and_assoc, List.zipIdx, Tryz.f78, j7, j6, j5, j0, j1, hlt, hlt', hne, txt_get, hx, hxe]
        refine ⟨by omega, ?_⟩
        intro cx' p hle' hlit
        rw [RdL.sl (hlit.mono ((sub_new cx').trans (sub_now _ _))) (by rfl)]
        unfold GrowV
        simp (maxSteps := 4000000) -dsimp [-List.all_eq_true, -Array.all_eq_true, -Bool.exists_bool, -Bool.forall_bool, and_assoc, List.zipIdx, Tryz.f78, j7, j6, j5, j0, j1, e0, e1, i_succ (i := i) (by omega)]
        exact ⟨g1, g2, by omega, by omega, fun b' cap' pad' k1 k2 k3 => ⟨1, s.length + 1 - (i + 1), by omega, hle.trans hle', i + 1, rfl, i + 1, done ++ [(s.take i).drop f], by simp; omega, Or.inl hC2, b', cap', by simp; omega, k2, pad', by simp; omega, by rw [TB_push]; rfl, by omega, by omega, rfl, by simp, rfl⟩⟩
      · have hC2 := hC.step hx hc
        have hc' : ¬ (x.toNat : Int) = c.toNat := fun e => hc (UInt8.toNat_inj.1 (by omega))
        have hc2 : ¬ x.toNat = c.toNat := fun e => hc (UInt8.toNat_inj.1 e)
        simp (maxSteps := 4000000) -dsimp [-List.all_eq_true, -Array.all_eq_true, -Bool.exists_bool, -Bool.forall_bool, and_assoc, List.zipIdx, Tryz.f78, j7, j6, j5, j0, j1, hlt, hlt', hne, txt_get, hx, hxe, hc, hc', hc2, i_succ (i := i) (by omega)]
        exact ⟨1, s.length + 1 - (i + 1), by omega, hle, i + 1, rfl, f, done, by omega, Or.inl hC2, b, cp, g1, g2, pad, g3, rfl, by omega, rfl, rfl, rfl, rfl⟩
    · obtain rfl : i = s.length := by omega
      have hF := hC.fin
      simp (maxSteps := 4000000) -dsimp [-List.all_eq_true, -Array.all_eq_true, -Bool.exists_bool, -Bool.forall_bool, and_assoc, List.zipIdx, Tryz.f78, j7, j6, j5, j0, j1]
      refine ⟨by omega, ?_⟩
      intro cx' p hle' hlit
      rw [RdL.sl (hlit.mono ((sub_new cx').trans (sub_now _ _))) (by rfl)]
      unfold GrowV
      simp (maxSteps := 4000000) -dsimp [-List.all_eq_true, -Array.all_eq_true, -Bool.exists_bool, -Bool.forall_bool, and_assoc, List.zipIdx, Tryz.f78, j7, j6, j5, j0, j1, e0, e1, i_succ (i := s.length) (by omega)]
      rw [List.take_length] at hF
      exact ⟨g1, g2, by omega, by omega, fun b' cap' pad' k1 k2 k3 => ⟨hle.trans hle', 1, s.length + 1, by omega, s.length + 1, done ++ [s.drop f], by simp; omega, Or.inr ⟨rfl, hF.symm⟩, b', cap', by simp; omega, k2, pad', by simp; omega, by rw [TB_push]; rfl, by omega, by omega, rfl, by simp, rfl⟩⟩
  · refine ⟨300, ?_⟩
    have hlt' : ¬ ((s.length : Int) + 1) ≤ s.length := by omega
    simp (maxSteps := 4000000) -dsimp [-List.all_eq_true, -Array.all_eq_true, -Bool.exists_bool, -Bool.forall_bool, and_assoc, List.zipIdx, Tryz.f78, j7, j6, j5, j0, j1, hlt']
    refine ⟨hle.w0, hle.g0, fun w' hm => ⟨⟨b, 0, none⟩, cp, rfl, ?_, g1, g2⟩⟩
    refine row_new' hle.w0 hle.g0 hm (k := 0) rfl fun j v hj => ?_
    rw [List.getElem?_append_left (by rw [TB_len]; have := (List.getElem?_eq_some_iff.1 hj).1; simpa using this)]
    unfold TB
    rw [List.getElem?_map] at hj ⊢
    cases hq : (cutL c s)[j]? with
    | none => rw [hq] at hj; cases hj
    | some z => rw [hq] at hj; cases hj; rfl
def sCutC_S : Makes Tryz.prog 78 where
  ι := ((Str) × (UInt8))
  A := fun (i : ((Str) × (UInt8))) => match i with | (s, c) => [.string (txt s), .int .u8 c.toNat]
  pre := fun (i : ((Str) × (UInt8))) (F : Facts) => match i with | (s, c) => True ∧ s.length ≤ 2000000
  post := fun (i : ((Str) × (UInt8))) (v : Value) (F : Facts) => match i with | (s, c) => IsStrs F v (cutL c s)
  mono := by
    intro i F G hs h
    first | exact h | exact h.mono hs | exact ⟨h.1.mono hs, h.2⟩ | exact ⟨h.1.mono hs, h.2.1.mono hs, h.2.2⟩ | exact ⟨h.1.mono hs, h.2.1.mono hs⟩ | exact ⟨h.1.mono hs, h.2.1.mono hs, h.2.2.1.mono hs, h.2.2.2⟩
  monoP := fun i v F G hs h => h.mono hs
  enter := Tryz.call78
  h := fun i w hp => sCutC_c i.1 i.2 w hp
def sCutC : Con Tryz.prog := Con.make sCutC_S

end Go.Proofs.YtclbanhoiaieaaaGreatDoor
