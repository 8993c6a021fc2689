/-
  Contracts: what coils do, by the program.
-/
import Derived.Test.YtfhnbdlkiemaeaaGreatDqmt
set_option linter.unusedVariables false
set_option linter.unusedSimpArgs false
set_option maxRecDepth 100000
set_option maxHeartbeats 4000000
namespace Go.Proofs.YtfhnbdlkiemaeaaGreat
open Go Go.Sx
open List renaming all_eq_true → Y1, zipIdx → Y5
open Bool renaming exists_bool → Y3, forall_bool → Y4
attribute [local simp] Sx.vcsE1 Sx.vcsE2 Sx.vcsE3 Sx.vcsE4 Sx.vcsE5 Sx.vcsE6 Sx.vcsE7 Sx.vcsE8 Sx.vcsE9 Sx.vcsE10 Sx.vcsE11 Sx.vcsE12 Sx.vcsE13 Sx.vcsE14 Sx.vcsE15 Sx.vcsE16 Sx.vcsE17 Sx.vcsE18 Sx.vcsE19 Sx.get Sx.look Sx.put Sx.pureFn Sx.findOrd Sx.unF Sx.dstOk Sx.isFloatT Sx.endVC Sx.resFn Sx.packC Sx.newFn Sx.storeFn Sx.buildFn Sx.known Sx.aggT Sx.cellsC Sx.findCon Sx.allV Sx.partsV Sx.partsC Sx.fillL Sx.exitTo Sx.fAr Sx.eqFn Sx.eqFieldsFn Sx.eqElemsFn Sx.partFn Sx.sliceFn Sx.boundFn Sx.AppV Sx.CopyV Sx.MakeSliceV Sx.NewsV Sx.GrowV Sx.TextV Sx.bytesL Sx.notInt Sx.typeAt Sx.argAt Sx.den Go.undef Go.Value.cells Go.Value.oneCell' Sx.Con.pure Sx.Con.some Sx.Con.read Sx.Con.make Sx.Con.ext Sx.Con.rel Sx.Con.extS Sx.Con.draw Sx.Con.step Sx.C.one Sx.Draws.steps




theorem actDoC_c (m : M) (op : Int) (o : Option Addr) (cap : Nat) (xs : List Dev) (cur : Bool) (dt : Int) (w : World) (hpre : RdD (factF ⟨w, [], w, []⟩) o xs ∧ MOk m ∧ 0 ≤ dt ∧ dt < 65536) : Calls Tryz.prog 59 #[.agg (cells m), .agg #[.int .i64 op, .slice o xs.length cap], .bool cur, .int .u16 dt] w fun e w' => ∃ v, e = .returned v ∧ (fun r => IsMem r (doM m op (argD xs 0) (argD xs 1) (argD xs 2) cur dt)) v ∧ RowKit.Below w.heap.size w w' := by
  refine plain_of_vcs ⟨[argC, memWholeC, putBitC, wasC, keepC, timerC, counterC, resetC, placeC, memPutC, memRealC, memPutRealC, memPutWholeC, withinC, calculateC, realWholeC], []⟩ hmx Tryz.func59 rfl (by kernel_rfl) (args := [.agg (cells m), .agg #[.int .i64 op, .slice o xs.length cap], .bool cur, .int .u16 dt]) (by simp [Tryz.ntmps59]) w (fun r => IsMem r (doM m op (argD xs 0) (argD xs 1) (argD xs 2) cur dt)) 400 ?_
  obtain ⟨h, hm, hd1, hd2⟩ := hpre
  have a0 := fun d mem K => argC_rw (op := op) (cap := cap) (d := d) (cx := ⟨w, [], w, []⟩) (mem := mem) (K := K) (j := 0) ⟨h.mono (sub_now _ _), by decide⟩
  have a1 := fun d mem K => argC_rw (op := op) (cap := cap) (d := d) (cx := ⟨w, [], w, []⟩) (mem := mem) (K := K) (j := 1) ⟨h.mono (sub_now _ _), by decide⟩
  have a2 := fun d mem K => argC_rw (op := op) (cap := cap) (d := d) (cx := ⟨w, [], w, []⟩) (mem := mem) (K := K) (j := 2) ⟨h.mono (sub_now _ _), by decide⟩
  have t2 : Int.toNat 2 = 2 := rfl
  simp only [Int.toNat_zero, Int.toNat_one, t2] at a0 a1 a2
  generalize argD xs 0 = a at *
  generalize argD xs 1 = b at *
  generalize argD xs 2 = c at *
  have hw := memWhole_bd (k := b.k) (n := b.n) hm
  have e1 : IntKind.i64.wrap (memWhole m b.k b.n) = memWhole m b.k b.n := wrap_i64 (by omega) (by omega)
  have e2 : (if memWhole m b.k b.n < 0 then 0 else memWhole m b.k b.n) = presetOf m b := max0 _
  have pb := preset_bd (b := b) hm
  have hk1 := fun v => putBM_ok (a := a) (v := v) hm
  by_cases h21 : op = 21
  · subst h21
    simp (maxSteps := 4000000) -dsimp [-Y1, -Array.all_eq_true, -Y3, -Y4, and_assoc, Y5, Tryz.f59, argC, memWholeC, putBitC, wasC, keepC, timerC, counterC, resetC, placeC, memPutC, memRealC, memPutRealC, memPutWholeC, withinC, calculateC, realWholeC, hm, a0, a1, a2, e1, e2, doM, pb]
    exact isMem_self (hk1 cur)
  by_cases h24 : op = 24
  · subst h24
    have hb : (!decide (b.k = 5) || !memBit m b.k b.n) = (true && !wasB m b) := by
      unfold wasB
      cases decide (b.k = 5) <;> cases memBit m b.k b.n <;> rfl
    cases cur
    · simp (maxSteps := 4000000) -dsimp [-Y1, -Array.all_eq_true, -Y3, -Y4, and_assoc, Y5, Tryz.f59, argC, memWholeC, putBitC, wasC, keepC, timerC, counterC, resetC, placeC, memPutC, memRealC, memPutRealC, memPutWholeC, withinC, calculateC, realWholeC, hm, a0, a1, a2, e1, e2, doM, pb]
      exact ⟨hk1 false, isMem_self (keepM_ok (hk1 false))⟩
    · simp (maxSteps := 4000000) -dsimp [-Y1, -Array.all_eq_true, -Y3, -Y4, and_assoc, Y5, Tryz.f59, argC, memWholeC, putBitC, wasC, keepC, timerC, counterC, resetC, placeC, memPutC, memRealC, memPutRealC, memPutWholeC, withinC, calculateC, realWholeC, hm, a0, a1, a2, e1, e2, doM, pb, hb]
      exact ⟨hk1 _, isMem_self (keepM_ok (hk1 _))⟩
  by_cases h29 : op = 29
  · subst h29
    simp (maxSteps := 4000000) -dsimp [-Y1, -Array.all_eq_true, -Y3, -Y4, and_assoc, Y5, Tryz.f59, argC, memWholeC, putBitC, wasC, keepC, timerC, counterC, resetC, placeC, memPutC, memRealC, memPutRealC, memPutWholeC, withinC, calculateC, realWholeC, hm, a0, a1, a2, e1, e2, doM, pb]
    exact isMem_self (counterM_ok hm)
  by_cases h26 : op = 26 ∨ op = 27 ∨ op = 28
  · rcases h26 with rfl | rfl | rfl
    all_goals
      simp (maxSteps := 4000000) -dsimp [-Y1, -Array.all_eq_true, -Y3, -Y4, and_assoc, Y5, Tryz.f59, argC, memWholeC, putBitC, wasC, keepC, timerC, counterC, resetC, placeC, memPutC, memRealC, memPutRealC, memPutWholeC, withinC, calculateC, realWholeC, hm, a0, a1, a2, e1, e2, doM, pb, hd1, hd2]
      exact isMem_self (timerM_ok hm hd1 pb)
  have n26 : ¬ op = 26 := fun h => h26 (Or.inl h)
  have n27 : ¬ op = 27 := fun h => h26 (Or.inr (Or.inl h))
  have n28 : ¬ op = 28 := fun h => h26 (Or.inr (Or.inr h))
  clear h26
  cases cur
  · simp (maxSteps := 4000000) -dsimp [-Y1, -Array.all_eq_true, -Y3, -Y4, and_assoc, Y5, Tryz.f59, argC, memWholeC, putBitC, wasC, keepC, timerC, counterC, resetC, placeC, memPutC, memRealC, memPutRealC, memPutWholeC, withinC, calculateC, realWholeC, hm, a0, a1, a2, e1, e2, doM, h21, h24, h29, n26, n27, n28]
    exact isMem_self hm
  by_cases h22 : op = 22
  · subst h22
    simp (maxSteps := 4000000) -dsimp [-Y1, -Array.all_eq_true, -Y3, -Y4, and_assoc, Y5, Tryz.f59, argC, memWholeC, putBitC, wasC, keepC, timerC, counterC, resetC, placeC, memPutC, memRealC, memPutRealC, memPutWholeC, withinC, calculateC, realWholeC, hm, a0, a1, a2, e1, e2, doM, whenM]
    exact isMem_self (hk1 true)
  by_cases h23 : op = 23
  · subst h23
    simp (maxSteps := 4000000) -dsimp [-Y1, -Array.all_eq_true, -Y3, -Y4, and_assoc, Y5, Tryz.f59, argC, memWholeC, putBitC, wasC, keepC, timerC, counterC, resetC, placeC, memPutC, memRealC, memPutRealC, memPutWholeC, withinC, calculateC, realWholeC, hm, a0, a1, a2, e1, e2, doM, whenM]
    exact isMem_self (resetM_ok hm)
  by_cases h25 : op = 25
  · subst h25
    by_cases h4 : a.k = 4
    · have hp4 := (place_bd 4 a.n).1
      have hl4 := (place_lt a.n).2.2.2.1
      have sh := step_sh hp4 hl4
      have sc := step_clr hm.S hp4 hl4
      simp (maxSteps := 4000000) -dsimp [-Y1, -Array.all_eq_true, -Y3, -Y4, and_assoc, Y5, Tryz.f59, argC, memWholeC, putBitC, wasC, keepC, timerC, counterC, resetC, placeC, memPutC, memRealC, memPutRealC, memPutWholeC, withinC, calculateC, realWholeC, hm, a0, a1, a2, e1, e2, doM, whenM, h4, sh]
      rw [sc]
      exact ⟨by omega, setS_ok hm (clr_bd hm.S), isMem_self (stepM_ok hm)⟩
    · simp (maxSteps := 4000000) -dsimp [-Y1, -Array.all_eq_true, -Y3, -Y4, and_assoc, Y5, Tryz.f59, argC, memWholeC, putBitC, wasC, keepC, timerC, counterC, resetC, placeC, memPutC, memRealC, memPutRealC, memPutWholeC, withinC, calculateC, realWholeC, hm, a0, a1, a2, e1, e2, doM, whenM, h4]
      exact isMem_self hm
  by_cases h30 : op = 30
  · subst h30
    by_cases h10 : a.k = 10
    · simp (maxSteps := 4000000) -dsimp [-Y1, -Array.all_eq_true, -Y3, -Y4, and_assoc, Y5, Tryz.f59, argC, memWholeC, putBitC, wasC, keepC, timerC, counterC, resetC, placeC, memPutC, memRealC, memPutRealC, memPutWholeC, withinC, calculateC, realWholeC, hm, a0, a1, a2, e1, e2, doM, whenM, h10]
      exact isMem_self (MOk_putReal hm (memRealF_lt hm))
    · simp (maxSteps := 4000000) -dsimp [-Y1, -Array.all_eq_true, -Y3, -Y4, and_assoc, Y5, Tryz.f59, argC, memWholeC, putBitC, wasC, keepC, timerC, counterC, resetC, placeC, memPutC, memRealC, memPutRealC, memPutWholeC, withinC, calculateC, realWholeC, hm, a0, a1, a2, e1, e2, doM, whenM, h10]
      exact isMem_self (MOk_putWhole hm (i16_mm hw))
  by_cases h31 : 31 ≤ op ∧ op ≤ 35
  · have w1 : IntKind.i64.wrap (op - 31) = op - 31 := wrap_i64 (by omega) (by omega)
    have w2 : IntKind.i64.wrap (op - 31 + 1) = op - 30 := by rw [wrap_i64 (by omega) (by omega)]; omega
    simp (maxSteps := 4000000) -dsimp [-Y1, -Array.all_eq_true, -Y3, -Y4, and_assoc, Y5, Tryz.f59, argC, memWholeC, putBitC, wasC, keepC, timerC, counterC, resetC, placeC, memPutC, memRealC, memPutRealC, memPutWholeC, withinC, calculateC, realWholeC, hm, a0, a1, a2, e1, e2, doM, whenM, h21, h24, h29, n26, n27, n28, h22, h23, h25, h30, h31, w1, w2]
    refine ⟨fun v hv => ?_, fun h => by omega⟩
    obtain ⟨m', rfl, s1, s2⟩ := hv.ex
    simp (maxSteps := 4000000) -dsimp [-Y1, -Array.all_eq_true, -Y3, -Y4, and_assoc, Y5, Tryz.f59, argC, memWholeC, putBitC, wasC, keepC, timerC, counterC, resetC, placeC, memPutC, memRealC, memPutRealC, memPutWholeC, withinC, calculateC, realWholeC]
    exact ⟨by kernel_rfl, m', rfl, s1, s2⟩
  by_cases h36 : op = 36
  · subst h36
    simp (maxSteps := 4000000) -dsimp [-Y1, -Array.all_eq_true, -Y3, -Y4, and_assoc, Y5, Tryz.f59, argC, memWholeC, putBitC, wasC, keepC, timerC, counterC, resetC, placeC, memPutC, memRealC, memPutRealC, memPutWholeC, withinC, calculateC, realWholeC, hm, a0, a1, a2, e1, e2, doM, whenM]
    exact isMem_self (MOk_putReal hm (nearest_lt (by omega)))
  by_cases h37 : op = 37
  · subst h37
    have rb := realWhole_bd (memRealF m b.k b.n b.p)
    cases hr : (realWhole (memRealF m b.k b.n b.p)).2
    · simp (maxSteps := 4000000) -dsimp [-Y1, -Array.all_eq_true, -Y3, -Y4, and_assoc, Y5, Tryz.f59, argC, memWholeC, putBitC, wasC, keepC, timerC, counterC, resetC, placeC, memPutC, memRealC, memPutRealC, memPutWholeC, withinC, calculateC, realWholeC, hm, a0, a1, a2, e1, e2, doM, whenM, hr]
      exact isMem_self (fault_ok hm)
    · simp (maxSteps := 4000000) -dsimp [-Y1, -Array.all_eq_true, -Y3, -Y4, and_assoc, Y5, Tryz.f59, argC, memWholeC, putBitC, wasC, keepC, timerC, counterC, resetC, placeC, memPutC, memRealC, memPutRealC, memPutWholeC, withinC, calculateC, realWholeC, hm, a0, a1, a2, e1, e2, doM, whenM, hr]
      exact isMem_self (MOk_putWhole hm (i16_mm rb))
  · by_cases q : 31 ≤ op
    · have q2 : ¬ op ≤ 35 := fun q2 => h31 ⟨q, q2⟩
      simp (maxSteps := 4000000) -dsimp [-Y1, -Array.all_eq_true, -Y3, -Y4, and_assoc, Y5, Tryz.f59, argC, memWholeC, putBitC, wasC, keepC, timerC, counterC, resetC, placeC, memPutC, memRealC, memPutRealC, memPutWholeC, withinC, calculateC, realWholeC, hm, a0, a1, a2, e1, e2, doM, whenM, h21, h24, h29, n26, n27, n28, h22, h23, h25, h30, h31, h36, h37, q, q2]
      first | exact isMem_self hm | exact fun _ => isMem_self hm
    · simp (maxSteps := 4000000) -dsimp [-Y1, -Array.all_eq_true, -Y3, -Y4, and_assoc, Y5, Tryz.f59, argC, memWholeC, putBitC, wasC, keepC, timerC, counterC, resetC, placeC, memPutC, memRealC, memPutRealC, memPutWholeC, withinC, calculateC, realWholeC, hm, a0, a1, a2, e1, e2, doM, whenM, h21, h24, h29, n26, n27, n28, h22, h23, h25, h30, h31, h36, h37, q]
      first | exact isMem_self hm | exact fun _ => isMem_self hm
def actDoC_S : Rels Tryz.prog 59 where
  ι := ((M) × (Int) × (Option Addr) × (Nat) × (List Dev) × (Bool) × (Int))
  A := fun (i : ((M) × (Int) × (Option Addr) × (Nat) × (List Dev) × (Bool) × (Int))) => match i with | (m, op, o, cap, xs, cur, dt) => [.agg (cells m), .agg #[.int .i64 op, .slice o xs.length cap], .bool cur, .int .u16 dt]
  pre := fun (i : ((M) × (Int) × (Option Addr) × (Nat) × (List Dev) × (Bool) × (Int))) (F : Facts) => match i with | (m, op, o, cap, xs, cur, dt) => RdD F o xs ∧ MOk m ∧ 0 ≤ dt ∧ dt < 65536
  post := fun (i : ((M) × (Int) × (Option Addr) × (Nat) × (List Dev) × (Bool) × (Int))) => match i with | (m, op, o, cap, xs, cur, dt) => fun r => IsMem r (doM m op (argD xs 0) (argD xs 1) (argD xs 2) cur dt)
  mono := by
    intro i F G hs h
    first | exact h | exact h.mono hs | exact ⟨h.1.mono hs, h.2⟩ | exact ⟨h.1.mono hs, h.2.1.mono hs, h.2.2⟩ | exact ⟨h.1.mono hs, h.2.1.mono hs⟩
  enter := Tryz.call59
  h := fun i w hp => actDoC_c i.1 i.2.1 i.2.2.1 i.2.2.2.1 i.2.2.2.2.1 i.2.2.2.2.2.1 i.2.2.2.2.2.2 w (by rw [factF_init]; exact hp)
def actDoC : Con Tryz.prog := Con.rel actDoC_S
end Go.Proofs.YtfhnbdlkiemaeaaGreat
