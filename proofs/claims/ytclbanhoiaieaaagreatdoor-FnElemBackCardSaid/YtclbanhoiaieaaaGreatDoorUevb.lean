/-
  The law of contacts and coils written and read back, walked.
-/
import Derived.Test.YtclbanhoiaieaaaGreatDoorUgvb
import Derived.Test.YtclbanhoiaieaaaGreatDoorUdvb
set_option linter.unusedVariables false
set_option linter.unusedSimpArgs false
set_option maxRecDepth 100000
set_option maxHeartbeats 4000000
namespace Go.Proofs.YtclbanhoiaieaaaGreatDoor
open Go Go.Sx
open List renaming all_eq_true → Y1, zipIdx → Y5
open Bool renaming exists_bool → Y3, forall_bool → Y4
attribute [local simp] Sx.vcsE1 Sx.vcsE2 Sx.vcsE3 Sx.vcsE4 Sx.vcsE5 Sx.vcsE6 Sx.vcsE7 Sx.vcsE8 Sx.vcsE9 Sx.vcsE10 Sx.vcsE11 Sx.vcsE12 Sx.vcsE13 Sx.vcsE14 Sx.vcsE15 Sx.vcsE16 Sx.vcsE17 Sx.vcsE18 Sx.vcsE19 Sx.get Sx.look Sx.put Sx.pureFn Sx.findOrd Sx.unF Sx.dstOk Sx.isFloatT Sx.endVC Sx.resFn Sx.packC Sx.newFn Sx.storeFn Sx.buildFn Sx.known Sx.aggT Sx.cellsC Sx.findCon Sx.allV Sx.partsV Sx.partsC Sx.fillL Sx.exitTo Sx.fAr Sx.eqFn Sx.eqFieldsFn Sx.eqElemsFn Sx.partFn Sx.sliceFn Sx.boundFn Sx.AppV Sx.CopyV Sx.MakeSliceV Sx.NewsV Sx.GrowV Sx.TextV Sx.bytesL Sx.notInt Sx.typeAt Sx.argAt Sx.den Go.undef Go.Value.cells Go.Value.oneCell' Sx.Con.pure Sx.Con.some Sx.Con.read Sx.Con.make Sx.Con.ext Sx.Con.rel Sx.Con.extS Sx.Con.draw Sx.Con.step Sx.C.one Sx.Draws.steps

theorem weSameC_c (op : Int) (o : Option Addr) (cap : Nat) (o2 : Option Addr) (cap2 : Nat) (xs : List Dev) (w : World) (hpre : RdD (factF ⟨w, [], w, []⟩) o xs ∧ RdD (factF ⟨w, [], w, []⟩) o2 xs ∧ xs.length ≤ 1048576) : Calls Tryz.prog 42 #[.agg #[.int .i64 op, .slice o xs.length cap], .agg #[.int .i64 op, .slice o2 xs.length cap2]] w fun e w' => e = .returned (.bool true) ∧ RowKit.Below w.heap.size w w' := by
  refine (plain_of_vcs ⟨[], []⟩ hmx Tryz.func42 rfl (by kernel_rfl) (args := [.agg #[.int .i64 op, .slice o xs.length cap], .agg #[.int .i64 op, .slice o2 xs.length cap2]]) (by simp [Tryz.ntmps42]) w (· = .bool true) 400 ?_).mono fun e w' ⟨v, h1, h2, h3⟩ => ⟨h2 ▸ h1, h3⟩
  obtain ⟨h, g, hl⟩ := hpre
  simp (maxSteps := 4000000) -dsimp [-Y1, -Array.all_eq_true, -Y3, -Y4, and_assoc, Y5, Tryz.f42]
  intro b0 b1
  refine loop_inv (σ := ⟨[], []⟩) hmx (by kernel_rfl) (fun m cx tm mem => cx = ⟨w, [], w, []⟩ ∧ mem = [⟨b0, [.v (.int .i64 op), .v (.slice o xs.length cap)], 55⟩, ⟨b1, [.v (.int .i64 op), .v (.slice o2 xs.length cap2)], 55⟩] ∧ ∃ i : Nat, i ≤ xs.length ∧ m = xs.length - i ∧ Sx.look tm 5 = .v (.int .i64 i) ∧ Sx.look tm 2 = .p 0 b0 0 ∧ Sx.look tm 3 = .p 1 b1 0)
    xs.length ⟨rfl, rfl, 0, by omega, rfl, by simp [Sx.look], by simp [Sx.look], by simp [Sx.look]⟩ ?_
  rintro m cx tm mem ⟨rfl, rfl, i, hi, rfl, h5, h2, h3⟩
  refine ⟨200, ?_⟩
  by_cases hlt : i < xs.length
  · have hlt' : (i : Int) < xs.length := by omega
    obtain ⟨⟨k, n, p⟩, hd⟩ : ∃ d, xs[i]? = some d := ⟨xs[i], by simp [hlt]⟩
    simp (maxSteps := 4000000) -dsimp [-Y1, -Array.all_eq_true, -Y3, -Y4, and_assoc, Y5, Tryz.f42, h5, h2, h3, hlt, hlt', i_succ (i := i) (by omega), h.there hlt, g.there hlt, h.ld _ _ hd, g.ld _ _ hd]
    exact ⟨2, xs.length - (i + 1), by omega, rfl, i + 1, by omega, rfl, by omega⟩
  · obtain rfl : i = xs.length := by omega
    have hlt' : ¬ (xs.length : Int) < xs.length := by omega
    simp (maxSteps := 4000000) -dsimp [-Y1, -Array.all_eq_true, -Y3, -Y4, and_assoc, Y5, Tryz.f42, h5, h2, h3, hlt']
def weSameC_S : Reads Tryz.prog 42 where
  ι := ((Int) × (Option Addr) × (Nat) × (Option Addr) × (Nat) × (List Dev))
  A := fun (i : ((Int) × (Option Addr) × (Nat) × (Option Addr) × (Nat) × (List Dev))) => match i with | (op, o, cap, o2, cap2, xs) => [.agg #[.int .i64 op, .slice o xs.length cap], .agg #[.int .i64 op, .slice o2 xs.length cap2]]
  pre := fun (i : ((Int) × (Option Addr) × (Nat) × (Option Addr) × (Nat) × (List Dev))) (F : Facts) => match i with | (op, o, cap, o2, cap2, xs) => RdD F o xs ∧ RdD F o2 xs ∧ xs.length ≤ 1048576
  res := fun (i : ((Int) × (Option Addr) × (Nat) × (Option Addr) × (Nat) × (List Dev))) => match i with | (op, o, cap, o2, cap2, xs) => .bool true
  mono := by
    intro i F G hs h
    first | exact h | exact h.mono hs | exact ⟨h.1.mono hs, h.2⟩ | exact ⟨h.1.mono hs, h.2.1.mono hs, h.2.2⟩ | exact ⟨h.1.mono hs, h.2.1.mono hs⟩ | exact ⟨h.1.mono hs, h.2.1.mono hs, h.2.2.1.mono hs, h.2.2.2⟩
  uniq := by
    rintro ⟨op, o, cap, o2, cap2, xs⟩ ⟨op', o', cap', o2', cap2', xs'⟩ F hA h h'
    simp at hA
    (try simp only [Int.natCast_inj] at hA)
    obtain rfl : xs = xs' := RdD.uniq h.1 h'.1 (by simp_all) (by simp_all)
    simp_all
  enter := Tryz.call42
  h := fun i w hp => weSameC_c i.1 i.2.1 i.2.2.1 i.2.2.2.1 i.2.2.2.2.1 i.2.2.2.2.2 w (by rw [factF_init]; exact hp)
def weSameC : Con Tryz.prog := Con.read weSameC_S
theorem weSameC_rw {op : Int} {o : Option Addr} {cap : Nat} {o2 : Option Addr} {cap2 : Nat} {xs : List Dev} {d : Nat} {cx : Cx} {mem : List Blk} {K : C → Prop} (hpre : RdD (nowF cx mem) o xs ∧ RdD (nowF cx mem) o2 xs ∧ xs.length ≤ 1048576) : ReadV d weSameC_S cx [.v (.agg #[.int .i64 op, .slice o xs.length cap]), .v (.agg #[.int .i64 op, .slice o2 xs.length cap2])] mem K = K (.v (.bool true)) := weSameC_S.eq (op, o, cap, o2, cap2, xs) rfl hpre
theorem lawElemBackC_c (o : Option Addr) (cap : Nat) (bs : List Int) (o2 : Option Addr) (cap2 : Nat) (cs : List Int) (w : World) (hpre : RdB (factF ⟨w, [], w, []⟩) o bs ∧ RdB (factF ⟨w, [], w, []⟩) o2 cs ∧ TE (factF ⟨w, [], w, []⟩) ∧ (((∀ b ∈ bs, 0 ≤ b ∧ b < 256) ∧ bs.length ≤ cap ∧ cap ≤ maxLen) ∧ ((∀ b ∈ cs, 0 ≤ b ∧ b < 256) ∧ cs.length ≤ cap2 ∧ cap2 ≤ maxLen))) : Calls Tryz.prog 9 #[.slice o bs.length cap, .slice o2 cs.length cap2] w fun e w' => e = .returned (.bool true) ∧ RowKit.Below w.heap.size w w' := by
  refine (plain_of_vcs ⟨[drawElemTextC, drawElemReadC, iElemTextC, sElemTextC, iConC, iCoilC, iElemReadC, sElemReadC, weSameC], []⟩ hmx Tryz.func9 rfl (by kernel_rfl) (args := [.slice o bs.length cap, .slice o2 cs.length cap2]) (by simp [Tryz.ntmps9]) w (· = .bool true) 400 ?_).mono fun e w' ⟨v, h1, h2, h3⟩ => ⟨h2 ▸ h1, h3⟩
  obtain ⟨h, h2, ht, ⟨hb1, hb2, hb3⟩, hd1, hd2, hd3⟩ := hpre
  by_cases hs : 1048576 < bs.length
  · have hs1 : (1048576 : Int) < bs.length := by omega
    simp (maxSteps := 4000000) -dsimp [-Y1, -Array.all_eq_true, -Y3, -Y4, and_assoc, Y5, Tryz.f9, drawElemTextC, drawElemReadC, iElemTextC, sElemTextC, iConC, iCoilC, iElemReadC, sElemReadC, weSameC, hs1]
  have hs1 : ¬ (1048576 : Int) < bs.length := by omega
  by_cases hs2 : 1048576 < cs.length
  · have hs3 : (1048576 : Int) < cs.length := by omega
    simp (maxSteps := 4000000) -dsimp [-Y1, -Array.all_eq_true, -Y3, -Y4, and_assoc, Y5, Tryz.f9, drawElemTextC, drawElemReadC, iElemTextC, sElemTextC, iConC, iCoilC, iElemReadC, sElemReadC, weSameC, hs1, hs3]
  have hs3 : ¬ (1048576 : Int) < cs.length := by omega
  simp (maxSteps := 4000000) -dsimp [-Y1, -Array.all_eq_true, -Y3, -Y4, and_assoc, Y5, Tryz.f9, drawElemTextC, drawElemReadC, iElemTextC, sElemTextC, iConC, iCoilC, iElemReadC, sElemReadC, weSameC, hs1, hs3, Con.gen]
  refine drawElemTextC_at ⟨h, hb1, hb2, hb3⟩ ?_
  rintro cx1 c mem1 ⟨hle1, rfl, op, o1, cap1, xs, rfl, hxs, hxl, hxc, hcm⟩
  have hcm' : cap1 ≤ 9223372036854775807 := by unfold maxLen at hcm; omega
  have t1 := fun (d : Nat) (mem : List Blk) (K : C → Prop) => iElemTextC_rw (op := op) (cap := cap1) (d := d) (cx := cx1) (mem := mem) (K := K) ⟨hxs.mono (sub_now _ _), (ht.mono hle1.fact).c.mono (sub_now _ _), by omega, hxc, hcm'⟩
  have t2 := fun (d : Nat) (mem : List Blk) (K : C → Prop) => sElemTextC_rw (op := op) (cap := cap1) (d := d) (cx := cx1) (mem := mem) (K := K) ⟨hxs.mono (sub_now _ _), by omega⟩
  have t3 := fun (d : Nat) (mem : List Blk) (K : C → Prop) => iConC_rw (op := op) (cap := cap1) (d := d) (cx := cx1) (mem := mem) (K := K) ⟨hxs.mono (sub_now _ _), by omega⟩
  have t4 := fun (d : Nat) (mem : List Blk) (K : C → Prop) => iCoilC_rw (op := op) (cap := cap1) (d := d) (cx := cx1) (mem := mem) (K := K) ⟨hxs.mono (sub_now _ _), by omega, hxc, hcm'⟩
  have hsh := elem_short op xs
  have key : (eOk op xs = false ∧ conOk op xs = false ∧ coilOk op xs = false) ∨ (eOk op xs = true ∧ conOk op xs = true) ∨ (eOk op xs = true ∧ conOk op xs = false ∧ coilOk op xs = true) := by
    unfold eOk
    cases conOk op xs <;> cases coilOk op xs <;> simp
  have hmid : ∀ {cx' : Cx} {mem : List Blk}, Le cx1 cx' → TE (nowF cx' mem) := fun g => ht.mono ((hle1.trans g).fact.trans (sub_now _ _))
  rcases key with ⟨hk, kc, ko⟩ | ⟨hk, kc⟩ | ⟨hk, kc, ko⟩
  case' inl =>
    have e : elemL op xs = [] := Decidable.byContradiction fun hne => by rw [elemL_ne.1 hne] at hk; cases hk
    rw [e] at t1 t2
    simp (maxSteps := 4000000) -dsimp [-Y1, -Array.all_eq_true, -Y3, -Y4, and_assoc, Y5, Tryz.f9, drawElemTextC, drawElemReadC, iElemTextC, sElemTextC, iConC, iCoilC, iElemReadC, sElemReadC, weSameC, t1, t2, t3, t4, txt_eta, kc, ko]
    intro b0
    refine ⟨[], rfl, ⟨hmid (Le.refl _), by simp⟩, ?_⟩
    rintro cx2 v hle2 hv
    obtain ⟨op2, o2', cap2', ys, rfl, hd2', hc3, hc4, hr⟩ := hv.ex
    rw [elemRd_nil] at hr
    rcases hr with ⟨e, h0, -, -⟩ | ⟨-, rfl, rfl⟩
    · cases h0
    have w1 := fun (d : Nat) (mem : List Blk) (K : C → Prop) => weSameC_rw (op := 0) (o := o2') (cap := cap2') (o2 := none) (cap2 := 0) (xs := []) (d := d) (cx := cx2) (mem := mem) (K := K) ⟨hd2'.mono ((sub_new _).trans (sub_now _ _)), RdO.nil _ _ _, by simp⟩
    simp only [List.length_nil] at w1
    simp (maxSteps := 4000000) -dsimp [-Y1, -Array.all_eq_true, -Y3, -Y4, and_assoc, Y5, Tryz.f9, drawElemTextC, drawElemReadC, iElemTextC, sElemTextC, iConC, iCoilC, iElemReadC, sElemReadC, weSameC, w1, elemRd_nil]
    intro b1
  case' inr.inl =>
    have e : elemL op xs ≠ [] := elemL_ne.2 hk
    have hR := elemRd_elem hk
    generalize elemL op xs = t at *
    have e2 : t.isEmpty = false := by simpa using e
    simp (maxSteps := 4000000) -dsimp [-Y1, -Array.all_eq_true, -Y3, -Y4, and_assoc, Y5, Tryz.f9, drawElemTextC, drawElemReadC, iElemTextC, sElemTextC, iConC, iCoilC, iElemReadC, sElemReadC, weSameC, t1, t2, t3, t4, txt_eta, e, e2, kc]
    intro b0
    refine ⟨t, rfl, ⟨hmid (Le.refl _), by omega⟩, ?_⟩
    rintro cx2 v hle2 hv
    obtain ⟨op2, o2', cap2', ys, rfl, hd2', hc3, hc4, hr⟩ := hv.ex
    rw [hR] at hr
    rcases hr with ⟨_, h0, rfl, rfl⟩ | ⟨h0, -, -⟩
    case' inr => cases h0
    cases h0
    have w1 := fun (d : Nat) (mem : List Blk) (K : C → Prop) => weSameC_rw (op := op) (o := o2') (cap := cap2') (o2 := o1) (cap2 := cap1) (xs := xs) (d := d) (cx := cx2) (mem := mem) (K := K) ⟨hd2'.mono ((sub_new _).trans (sub_now _ _)), hxs.mono (hle2.fact.trans (sub_now _ _)), by omega⟩
    simp (maxSteps := 4000000) -dsimp [-Y1, -Array.all_eq_true, -Y3, -Y4, and_assoc, Y5, Tryz.f9, drawElemTextC, drawElemReadC, iElemTextC, sElemTextC, iConC, iCoilC, iElemReadC, sElemReadC, weSameC, w1, hR, e, e2, txt_eta]
    intro b1
  case' inr.inr =>
    have e : elemL op xs ≠ [] := elemL_ne.2 hk
    have hR := elemRd_elem hk
    generalize elemL op xs = t at *
    have e2 : t.isEmpty = false := by simpa using e
    simp (maxSteps := 4000000) -dsimp [-Y1, -Array.all_eq_true, -Y3, -Y4, and_assoc, Y5, Tryz.f9, drawElemTextC, drawElemReadC, iElemTextC, sElemTextC, iConC, iCoilC, iElemReadC, sElemReadC, weSameC, t1, t2, t3, t4, txt_eta, e, e2, kc, ko]
    intro b0
    refine ⟨t, rfl, ⟨hmid (Le.refl _), by omega⟩, ?_⟩
    rintro cx2 v hle2 hv
    obtain ⟨op2, o2', cap2', ys, rfl, hd2', hc3, hc4, hr⟩ := hv.ex
    rw [hR] at hr
    rcases hr with ⟨_, h0, rfl, rfl⟩ | ⟨h0, -, -⟩
    case' inr => cases h0
    cases h0
    have w1 := fun (d : Nat) (mem : List Blk) (K : C → Prop) => weSameC_rw (op := op) (o := o2') (cap := cap2') (o2 := o1) (cap2 := cap1) (xs := xs) (d := d) (cx := cx2) (mem := mem) (K := K) ⟨hd2'.mono ((sub_new _).trans (sub_now _ _)), hxs.mono (hle2.fact.trans (sub_now _ _)), by omega⟩
    simp (maxSteps := 4000000) -dsimp [-Y1, -Array.all_eq_true, -Y3, -Y4, and_assoc, Y5, Tryz.f9, drawElemTextC, drawElemReadC, iElemTextC, sElemTextC, iConC, iCoilC, iElemReadC, sElemReadC, weSameC, w1, hR, e, e2, txt_eta]
    intro b1
  all_goals
    refine drawElemReadC_at ⟨h2.mono (hle1.trans hle2).fact, hd1, hd2, hd3⟩ ?_
    rintro cx3 c mem3 ⟨hle3, rfl, s, rfl, hs⟩
    simp (maxSteps := 4000000) -dsimp [-Y1, -Array.all_eq_true, -Y3, -Y4, and_assoc, Y5, Tryz.f9, drawElemTextC, drawElemReadC, iElemTextC, sElemTextC, iConC, iCoilC, iElemReadC, sElemReadC, weSameC]
    refine ⟨s, rfl, ⟨hmid (hle2.trans hle3), by omega⟩, ?_⟩
    rintro cx4 v hle4 hv4
    obtain ⟨op4, o4, cap4, zs, rfl, hd4, hc5, hc6, hr4⟩ := hv4.ex
    simp (maxSteps := 4000000) -dsimp [-Y1, -Array.all_eq_true, -Y3, -Y4, and_assoc, Y5, Tryz.f9, drawElemTextC, drawElemReadC, iElemTextC, sElemTextC, iConC, iCoilC, iElemReadC, sElemReadC, weSameC]
    intro b3
    refine ⟨s, rfl, ⟨trivial, by omega⟩, ?_⟩
    rintro cx5 v hle5 hv5
    obtain ⟨op5, o5, cap5, us, rfl, hd5, hc7, hc8, hr5⟩ := hv5.ex
    have hd4' : RdD (factF cx5) o4 zs := hd4.mono ((sub_new _).trans hle5.fact)
    cases er : elemRd s with
    | none =>
      rcases hr4 with ⟨_, h0, -, -⟩ | ⟨-, rfl, rfl⟩
      · rw [er] at h0; cases h0
      rcases hr5 with ⟨_, h0, -, -⟩ | ⟨-, rfl, rfl⟩
      · rw [er] at h0; cases h0
      have w2 := fun (d : Nat) (mem : List Blk) (K : C → Prop) => weSameC_rw (op := 0) (o := o4) (cap := cap4) (o2 := o5) (cap2 := cap5) (xs := []) (d := d) (cx := cx5) (mem := mem) (K := K) ⟨hd4'.mono (sub_now _ _), hd5.mono ((sub_new _).trans (sub_now _ _)), by simp⟩
      simp only [List.length_nil] at w2
      simp (maxSteps := 4000000) -dsimp [-Y1, -Array.all_eq_true, -Y3, -Y4, and_assoc, Y5, Tryz.f9, drawElemTextC, drawElemReadC, iElemTextC, sElemTextC, iConC, iCoilC, iElemReadC, sElemReadC, weSameC, w2, er]
      exact ⟨((hle1.trans hle2).trans (hle3.trans hle4) |>.trans hle5).w0, ((hle1.trans hle2).trans (hle3.trans hle4) |>.trans hle5).g0⟩
    | some e =>
      have hes := elemRd_some er
      have har := arity_bd e.1
      have hal := (eOk_all hes.1).2
      rcases hr4 with ⟨_, h0, rfl, rfl⟩ | ⟨h0, -, -⟩
      case' inr => rw [er] at h0; cases h0
      rw [er] at h0; cases h0
      rcases hr5 with ⟨_, h0, rfl, rfl⟩ | ⟨h0, -, -⟩
      case' inr => rw [er] at h0; cases h0
      rw [er] at h0; cases h0
      have hc6' : cap4 ≤ 9223372036854775807 := by unfold maxLen at hc6; omega
      have w2 := fun (d : Nat) (mem : List Blk) (K : C → Prop) => weSameC_rw (op := e.1) (o := o4) (cap := cap4) (o2 := o5) (cap2 := cap5) (xs := e.2) (d := d) (cx := cx5) (mem := mem) (K := K) ⟨hd4'.mono (sub_now _ _), hd5.mono ((sub_new _).trans (sub_now _ _)), by omega⟩
      have t5 := fun (d : Nat) (mem : List Blk) (K : C → Prop) => iElemTextC_rw (op := e.1) (cap := cap4) (d := d) (cx := cx5) (mem := mem) (K := K) ⟨hd4'.mono (sub_now _ _), (hmid ((hle2.trans hle3).trans (hle4.trans hle5))).c, by omega, hc5, hc6'⟩
      rw [hes.2] at t5
      simp (maxSteps := 4000000) -dsimp [-Y1, -Array.all_eq_true, -Y3, -Y4, and_assoc, Y5, Tryz.f9, drawElemTextC, drawElemReadC, iElemTextC, sElemTextC, iConC, iCoilC, iElemReadC, sElemReadC, weSameC, w2, er, t5]
      exact ⟨((hle1.trans hle2).trans (hle3.trans hle4) |>.trans hle5).w0, ((hle1.trans hle2).trans (hle3.trans hle4) |>.trans hle5).g0⟩
end Go.Proofs.YtclbanhoiaieaaaGreatDoor
