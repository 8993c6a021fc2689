/-
  Contracts: which coils are ok, by the program.
-/
import Derived.Test.YtmlmmaojomghdaaGreatDoorEkuh
set_option linter.unusedVariables false
set_option linter.unusedSimpArgs false
set_option maxRecDepth 100000
set_option maxHeartbeats 4000000
namespace Go.Proofs.YtmlmmaojomghdaaGreatDoor
open Go Go.Sx
open List renaming all_eq_true → Y1, zipIdx → Y5
open Bool renaming exists_bool → Y3, forall_bool → Y4
attribute [local simp] Sx.vcsE1 Sx.vcsE2 Sx.vcsE3 Sx.vcsE4 Sx.vcsE5 Sx.vcsE6 Sx.vcsE7 Sx.vcsE8 Sx.vcsE9 Sx.vcsE10 Sx.vcsE11 Sx.vcsE12 Sx.vcsE13 Sx.vcsE14 Sx.vcsE15 Sx.vcsE16 Sx.vcsE17 Sx.vcsE18 Sx.vcsE19 Sx.get Sx.look Sx.put Sx.pureFn Sx.findOrd Sx.unF Sx.dstOk Sx.isFloatT Sx.endVC Sx.resFn Sx.packC Sx.newFn Sx.storeFn Sx.buildFn Sx.known Sx.aggT Sx.cellsC Sx.findCon Sx.allV Sx.partsV Sx.partsC Sx.fillL Sx.exitTo Sx.fAr Sx.eqFn Sx.eqFieldsFn Sx.eqElemsFn Sx.partFn Sx.sliceFn Sx.boundFn Sx.AppV Sx.CopyV Sx.MakeSliceV Sx.NewsV Sx.GrowV Sx.TextV Sx.bytesL Sx.notInt Sx.typeAt Sx.argAt Sx.den Go.undef Go.Value.cells Go.Value.oneCell' Sx.Con.pure Sx.Con.some Sx.Con.read Sx.Con.make Sx.Con.ext Sx.Con.rel Sx.Con.extS Sx.Con.draw Sx.Con.step Sx.C.one Sx.Draws.steps

theorem iCoilC_c (op : Int) (o : Option Addr) (cap : Nat) (xs : List Dev) (w : World) (hpre : RdD (factF ⟨w, [], w, []⟩) o xs ∧ xs.length ≤ 1048576 ∧ xs.length ≤ cap ∧ cap ≤ 9223372036854775807) : Calls Tryz.prog 35 #[.agg #[.int .i64 op, .slice o xs.length cap]] w fun e w' => e = .returned (.bool (coilOk op xs)) ∧ RowKit.Below w.heap.size w w' := by
  refine (plain_of_vcs ⟨[isCoilOpC, argsOkC, containsFuncC, isKindC, isPresetC], [(3, [(0, false), (1, false), (2, false), (3, false), (4, false), (5, false), (6, false), (7, false), (8, false), (5, true), (9, false)])]⟩ hmx Tryz.func35 rfl (by kernel_rfl) (args := [.agg #[.int .i64 op, .slice o xs.length cap]]) (by simp [Tryz.ntmps35]) w (· = .bool (coilOk op xs)) 400 ?_).mono fun e w' ⟨v, h1, h2, h3⟩ => ⟨h2 ▸ h1, h3⟩
  obtain ⟨h, hl, hcap, hcm⟩ := hpre
  have z := fun d mem K => argsOkC_rw (op := op) (cap := cap) (d := d) (cx := ⟨w, [], w, []⟩) (mem := mem) (K := K) ⟨h.mono (sub_now _ _), hl⟩
  have e := coilOk_eq op xs
  generalize hq : (decide ((xs.length : Int) = arity op) && xs.all dOk) = q at z e
  by_cases h1 : 21 ≤ op ∧ op ≤ 37
  · cases q
    · simp only [Bool.and_false, Bool.false_and] at e
      simp (maxSteps := 4000000) -dsimp [-Y1, -Array.all_eq_true, -Y3, -Y4, and_assoc, Y5, Tryz.f35, isCoilOpC, argsOkC, containsFuncC, isKindC, isPresetC, z, e, h1]
    · simp only [h1, Bool.and_true, decide_true, Bool.true_and, and_self] at e
      simp only [Bool.and_eq_true, decide_eq_true_eq] at hq
      have key : ∀ (a : Dev) (r : List Dev), xs = a :: r → ∃ o', (if (cap : Int) = 1 then o else padd o 3) = o' ∧ RdD (factF ⟨w, [], w, []⟩) o' r := by
        rintro a r rfl
        by_cases hc : (cap : Int) = 1
        · have : r = [] := by cases r with
            | nil => rfl
            | cons b r => simp at hcap; omega
          subst this
          exact ⟨_, rfl, RdO.nil _ _ _⟩
        · rw [if_neg hc]; exact ⟨_, rfl, h.drop1⟩
      obtain rfl | rfl | rfl | rfl | rfl | rfl | rfl | rfl | rfl | rfl | rfl | rfl | rfl | rfl | rfl | rfl | rfl : op = 21 ∨ op = 22 ∨ op = 23 ∨ op = 25 ∨ op = 24 ∨ op = 26 ∨ op = 27 ∨ op = 28 ∨ op = 29 ∨ op = 30 ∨ op = 36 ∨ op = 37 ∨ op = 31 ∨ op = 32 ∨ op = 33 ∨ op = 34 ∨ op = 35 := by omega
      · obtain ⟨⟨ak, an, ap⟩, rfl⟩ := list_one (by rw [hq.1]; rfl)
        have a0 := h.at0 (x := ⟨ak, an, ap⟩) rfl
        obtain ⟨o', ho, hr⟩ := key _ [] rfl
        have z1 := fun d mem K => containsFuncC_rw (cap := cap - 1) (d := d) (cx := ⟨w, [], w, []⟩) (mem := mem) (K := K) (f := 108) ⟨hr.mono (sub_now _ _), by simp, Or.inr (Or.inl rfl)⟩
        have z2 := fun d mem K => containsFuncC_rw (cap := cap - 1) (d := d) (cx := ⟨w, [], w, []⟩) (mem := mem) (K := K) (f := 110) ⟨hr.mono (sub_now _ _), by simp, Or.inr (Or.inr rfl)⟩
        simp only [List.length_cons, List.length_nil, Nat.zero_add, Nat.reduceAdd] at z z1 z2 hcap
        simp only [any_whl, any_rl] at z1 z2
        have hcap' : (1 : Int) ≤ cap := by omega
        simp (maxSteps := 4000000) -dsimp [-Y1, -Array.all_eq_true, -Y3, -Y4, and_assoc, Y5, Tryz.f35, isCoilOpC, argsOkC, containsFuncC, isKindC, isPresetC, z, e, a0.there, a0.all, ho, hcap', z1, z2, coilB, xD]
        intro q0 q1 cx' p hle' hlit
        refine (isKindC_rw (ks := [2, 3]) (cap := 2) ⟨(hlit.ints [2, 3] rfl).mono ((sub_new cx').trans (sub_now cx' _)), by decide⟩).mpr ?_
        simp (maxSteps := 4000000) -dsimp [-Y1, -Array.all_eq_true, -Y3, -Y4, and_assoc, Y5, Tryz.f35, isCoilOpC, argsOkC, containsFuncC, isKindC, isPresetC, z, e, a0.there, a0.all, ho, hcap', z1, z2, coilB, xD]
        exact ⟨hle'.w0, hle'.g0⟩
      · obtain ⟨⟨ak, an, ap⟩, rfl⟩ := list_one (by rw [hq.1]; rfl)
        have a0 := h.at0 (x := ⟨ak, an, ap⟩) rfl
        obtain ⟨o', ho, hr⟩ := key _ [] rfl
        have z1 := fun d mem K => containsFuncC_rw (cap := cap - 1) (d := d) (cx := ⟨w, [], w, []⟩) (mem := mem) (K := K) (f := 108) ⟨hr.mono (sub_now _ _), by simp, Or.inr (Or.inl rfl)⟩
        have z2 := fun d mem K => containsFuncC_rw (cap := cap - 1) (d := d) (cx := ⟨w, [], w, []⟩) (mem := mem) (K := K) (f := 110) ⟨hr.mono (sub_now _ _), by simp, Or.inr (Or.inr rfl)⟩
        simp only [List.length_cons, List.length_nil, Nat.zero_add, Nat.reduceAdd] at z z1 z2 hcap
        simp only [any_whl, any_rl] at z1 z2
        have hcap' : (1 : Int) ≤ cap := by omega
        simp (maxSteps := 4000000) -dsimp [-Y1, -Array.all_eq_true, -Y3, -Y4, and_assoc, Y5, Tryz.f35, isCoilOpC, argsOkC, containsFuncC, isKindC, isPresetC, z, e, a0.there, a0.all, ho, hcap', z1, z2, coilB, xD]
        intro q0 q1 cx' p hle' hlit
        refine (isKindC_rw (ks := [2, 3, 4]) (cap := 3) ⟨(hlit.ints [2, 3, 4] rfl).mono ((sub_new cx').trans (sub_now cx' _)), by decide⟩).mpr ?_
        simp (maxSteps := 4000000) -dsimp [-Y1, -Array.all_eq_true, -Y3, -Y4, and_assoc, Y5, Tryz.f35, isCoilOpC, argsOkC, containsFuncC, isKindC, isPresetC, z, e, a0.there, a0.all, ho, hcap', z1, z2, coilB, xD]
        exact ⟨hle'.w0, hle'.g0⟩
      · obtain ⟨⟨ak, an, ap⟩, rfl⟩ := list_one (by rw [hq.1]; rfl)
        have a0 := h.at0 (x := ⟨ak, an, ap⟩) rfl
        obtain ⟨o', ho, hr⟩ := key _ [] rfl
        have z1 := fun d mem K => containsFuncC_rw (cap := cap - 1) (d := d) (cx := ⟨w, [], w, []⟩) (mem := mem) (K := K) (f := 108) ⟨hr.mono (sub_now _ _), by simp, Or.inr (Or.inl rfl)⟩
        have z2 := fun d mem K => containsFuncC_rw (cap := cap - 1) (d := d) (cx := ⟨w, [], w, []⟩) (mem := mem) (K := K) (f := 110) ⟨hr.mono (sub_now _ _), by simp, Or.inr (Or.inr rfl)⟩
        simp only [List.length_cons, List.length_nil, Nat.zero_add, Nat.reduceAdd] at z z1 z2 hcap
        simp only [any_whl, any_rl] at z1 z2
        have hcap' : (1 : Int) ≤ cap := by omega
        simp (maxSteps := 4000000) -dsimp [-Y1, -Array.all_eq_true, -Y3, -Y4, and_assoc, Y5, Tryz.f35, isCoilOpC, argsOkC, containsFuncC, isKindC, isPresetC, z, e, a0.there, a0.all, ho, hcap', z1, z2, coilB, xD]
        intro q0 q1 cx' p hle' hlit
        refine (isKindC_rw (ks := [2, 3, 4, 7, 8]) (cap := 5) ⟨(hlit.ints [2, 3, 4, 7, 8] rfl).mono ((sub_new cx').trans (sub_now cx' _)), by decide⟩).mpr ?_
        simp (maxSteps := 4000000) -dsimp [-Y1, -Array.all_eq_true, -Y3, -Y4, and_assoc, Y5, Tryz.f35, isCoilOpC, argsOkC, containsFuncC, isKindC, isPresetC, z, e, a0.there, a0.all, ho, hcap', z1, z2, coilB, xD]
        exact ⟨hle'.w0, hle'.g0⟩
      · obtain ⟨⟨ak, an, ap⟩, rfl⟩ := list_one (by rw [hq.1]; rfl)
        have a0 := h.at0 (x := ⟨ak, an, ap⟩) rfl
        obtain ⟨o', ho, hr⟩ := key _ [] rfl
        have z1 := fun d mem K => containsFuncC_rw (cap := cap - 1) (d := d) (cx := ⟨w, [], w, []⟩) (mem := mem) (K := K) (f := 108) ⟨hr.mono (sub_now _ _), by simp, Or.inr (Or.inl rfl)⟩
        have z2 := fun d mem K => containsFuncC_rw (cap := cap - 1) (d := d) (cx := ⟨w, [], w, []⟩) (mem := mem) (K := K) (f := 110) ⟨hr.mono (sub_now _ _), by simp, Or.inr (Or.inr rfl)⟩
        simp only [List.length_cons, List.length_nil, Nat.zero_add, Nat.reduceAdd] at z z1 z2 hcap
        simp only [any_whl, any_rl] at z1 z2
        have hcap' : (1 : Int) ≤ cap := by omega
        simp (maxSteps := 4000000) -dsimp [-Y1, -Array.all_eq_true, -Y3, -Y4, and_assoc, Y5, Tryz.f35, isCoilOpC, argsOkC, containsFuncC, isKindC, isPresetC, z, e, a0.there, a0.all, ho, hcap', z1, z2, coilB, xD]
        exact Bool.eq_iff_iff.mpr (by simp)
      · obtain ⟨⟨ak, an, ap⟩, ⟨bk, bn, bp⟩, rfl⟩ := list_two (by rw [hq.1]; rfl)
        have a0 := h.at0 (x := ⟨ak, an, ap⟩) rfl
        obtain ⟨o', ho, hr⟩ := key _ [⟨bk, bn, bp⟩] rfl
        have z1 := fun d mem K => containsFuncC_rw (cap := cap - 1) (d := d) (cx := ⟨w, [], w, []⟩) (mem := mem) (K := K) (f := 108) ⟨hr.mono (sub_now _ _), by simp, Or.inr (Or.inl rfl)⟩
        have z2 := fun d mem K => containsFuncC_rw (cap := cap - 1) (d := d) (cx := ⟨w, [], w, []⟩) (mem := mem) (K := K) (f := 110) ⟨hr.mono (sub_now _ _), by simp, Or.inr (Or.inr rfl)⟩
        have hc1 : ¬ (cap : Int) = 1 := by simp at hcap; omega
        rw [if_neg hc1] at ho
        subst ho
        have b0 := hr.at0 (x := ⟨bk, bn, bp⟩) rfl
        simp only [List.length_cons, List.length_nil, Nat.zero_add, Nat.reduceAdd] at z z1 z2 hcap
        simp only [any_whl, any_rl] at z1 z2
        have hcap' : (2 : Int) ≤ cap := by omega
        simp (maxSteps := 4000000) -dsimp [-Y1, -Array.all_eq_true, -Y3, -Y4, and_assoc, Y5, Tryz.f35, isCoilOpC, argsOkC, containsFuncC, isKindC, isPresetC, z, e, a0.there, a0.all, b0.there, b0.all, b0.k, hc1, hcap', z1, z2, coilB, xD]
        intro q0 q1 cx' p hle' hlit
        refine (isKindC_rw (ks := [2, 3]) (cap := 2) ⟨(hlit.ints [2, 3] rfl).mono ((sub_new cx').trans (sub_now cx' _)), by decide⟩).mpr ?_
        have b1 := (hr.mono hle'.fact).at0 (x := ⟨bk, bn, bp⟩) rfl
        have hw := hle'.w0
        have hg := hle'.g0
        simp (maxSteps := 4000000) -dsimp [-Y1, -Array.all_eq_true, -Y3, -Y4, and_assoc, Y5, Tryz.f35, isCoilOpC, argsOkC, containsFuncC, isKindC, isPresetC, z, e, a0.there, a0.all, b0.there, b0.all, b0.k, hc1, hcap', z1, z2, coilB, xD, b1.there, b1.k, hw, hg]
        refine ⟨fun hk => ?_, fun n2 n3 hk => by omega⟩
        rw [show (decide (ak = 2) || decide (ak = 3)) = true by simpa using hk, Bool.true_and]
        exact Bool.eq_iff_iff.mpr (by simp)
      · obtain ⟨⟨ak, an, ap⟩, ⟨bk, bn, bp⟩, rfl⟩ := list_two (by rw [hq.1]; rfl)
        have a0 := h.at0 (x := ⟨ak, an, ap⟩) rfl
        obtain ⟨o', ho, hr⟩ := key _ [⟨bk, bn, bp⟩] rfl
        have z1 := fun d mem K => containsFuncC_rw (cap := cap - 1) (d := d) (cx := ⟨w, [], w, []⟩) (mem := mem) (K := K) (f := 108) ⟨hr.mono (sub_now _ _), by simp, Or.inr (Or.inl rfl)⟩
        have z2 := fun d mem K => containsFuncC_rw (cap := cap - 1) (d := d) (cx := ⟨w, [], w, []⟩) (mem := mem) (K := K) (f := 110) ⟨hr.mono (sub_now _ _), by simp, Or.inr (Or.inr rfl)⟩
        have hc1 : ¬ (cap : Int) = 1 := by simp at hcap; omega
        rw [if_neg hc1] at ho
        subst ho
        have b0 := hr.at0 (x := ⟨bk, bn, bp⟩) rfl
        simp only [List.length_cons, List.length_nil, Nat.zero_add, Nat.reduceAdd] at z z1 z2 hcap
        simp only [any_whl, any_rl] at z1 z2
        have hcap' : (2 : Int) ≤ cap := by omega
        simp (maxSteps := 4000000) -dsimp [-Y1, -Array.all_eq_true, -Y3, -Y4, and_assoc, Y5, Tryz.f35, isCoilOpC, argsOkC, containsFuncC, isKindC, isPresetC, z, e, a0.there, a0.all, b0.there, b0.all, b0.k, hc1, hcap', z1, z2, coilB, xD]
        all_goals (generalize isWhl ⟨bk, bn, bp⟩ = u; generalize isRl ⟨bk, bn, bp⟩ = u2; generalize pOk ⟨bk, bn, bp⟩ = u3; cases u <;> cases u2 <;> cases u3 <;> (try simp) <;> (try omega))
      · obtain ⟨⟨ak, an, ap⟩, ⟨bk, bn, bp⟩, rfl⟩ := list_two (by rw [hq.1]; rfl)
        have a0 := h.at0 (x := ⟨ak, an, ap⟩) rfl
        obtain ⟨o', ho, hr⟩ := key _ [⟨bk, bn, bp⟩] rfl
        have z1 := fun d mem K => containsFuncC_rw (cap := cap - 1) (d := d) (cx := ⟨w, [], w, []⟩) (mem := mem) (K := K) (f := 108) ⟨hr.mono (sub_now _ _), by simp, Or.inr (Or.inl rfl)⟩
        have z2 := fun d mem K => containsFuncC_rw (cap := cap - 1) (d := d) (cx := ⟨w, [], w, []⟩) (mem := mem) (K := K) (f := 110) ⟨hr.mono (sub_now _ _), by simp, Or.inr (Or.inr rfl)⟩
        have hc1 : ¬ (cap : Int) = 1 := by simp at hcap; omega
        rw [if_neg hc1] at ho
        subst ho
        have b0 := hr.at0 (x := ⟨bk, bn, bp⟩) rfl
        simp only [List.length_cons, List.length_nil, Nat.zero_add, Nat.reduceAdd] at z z1 z2 hcap
        simp only [any_whl, any_rl] at z1 z2
        have hcap' : (2 : Int) ≤ cap := by omega
        simp (maxSteps := 4000000) -dsimp [-Y1, -Array.all_eq_true, -Y3, -Y4, and_assoc, Y5, Tryz.f35, isCoilOpC, argsOkC, containsFuncC, isKindC, isPresetC, z, e, a0.there, a0.all, b0.there, b0.all, b0.k, hc1, hcap', z1, z2, coilB, xD]
        all_goals (generalize isWhl ⟨bk, bn, bp⟩ = u; generalize isRl ⟨bk, bn, bp⟩ = u2; generalize pOk ⟨bk, bn, bp⟩ = u3; cases u <;> cases u2 <;> cases u3 <;> (try simp) <;> (try omega))
      · obtain ⟨⟨ak, an, ap⟩, ⟨bk, bn, bp⟩, rfl⟩ := list_two (by rw [hq.1]; rfl)
        have a0 := h.at0 (x := ⟨ak, an, ap⟩) rfl
        obtain ⟨o', ho, hr⟩ := key _ [⟨bk, bn, bp⟩] rfl
        have z1 := fun d mem K => containsFuncC_rw (cap := cap - 1) (d := d) (cx := ⟨w, [], w, []⟩) (mem := mem) (K := K) (f := 108) ⟨hr.mono (sub_now _ _), by simp, Or.inr (Or.inl rfl)⟩
        have z2 := fun d mem K => containsFuncC_rw (cap := cap - 1) (d := d) (cx := ⟨w, [], w, []⟩) (mem := mem) (K := K) (f := 110) ⟨hr.mono (sub_now _ _), by simp, Or.inr (Or.inr rfl)⟩
        have hc1 : ¬ (cap : Int) = 1 := by simp at hcap; omega
        rw [if_neg hc1] at ho
        subst ho
        have b0 := hr.at0 (x := ⟨bk, bn, bp⟩) rfl
        simp only [List.length_cons, List.length_nil, Nat.zero_add, Nat.reduceAdd] at z z1 z2 hcap
        simp only [any_whl, any_rl] at z1 z2
        have hcap' : (2 : Int) ≤ cap := by omega
        simp (maxSteps := 4000000) -dsimp [-Y1, -Array.all_eq_true, -Y3, -Y4, and_assoc, Y5, Tryz.f35, isCoilOpC, argsOkC, containsFuncC, isKindC, isPresetC, z, e, a0.there, a0.all, b0.there, b0.all, b0.k, hc1, hcap', z1, z2, coilB, xD]
        all_goals (generalize isWhl ⟨bk, bn, bp⟩ = u; generalize isRl ⟨bk, bn, bp⟩ = u2; generalize pOk ⟨bk, bn, bp⟩ = u3; cases u <;> cases u2 <;> cases u3 <;> (try simp) <;> (try omega))
      · obtain ⟨⟨ak, an, ap⟩, ⟨bk, bn, bp⟩, rfl⟩ := list_two (by rw [hq.1]; rfl)
        have a0 := h.at0 (x := ⟨ak, an, ap⟩) rfl
        obtain ⟨o', ho, hr⟩ := key _ [⟨bk, bn, bp⟩] rfl
        have z1 := fun d mem K => containsFuncC_rw (cap := cap - 1) (d := d) (cx := ⟨w, [], w, []⟩) (mem := mem) (K := K) (f := 108) ⟨hr.mono (sub_now _ _), by simp, Or.inr (Or.inl rfl)⟩
        have z2 := fun d mem K => containsFuncC_rw (cap := cap - 1) (d := d) (cx := ⟨w, [], w, []⟩) (mem := mem) (K := K) (f := 110) ⟨hr.mono (sub_now _ _), by simp, Or.inr (Or.inr rfl)⟩
        have hc1 : ¬ (cap : Int) = 1 := by simp at hcap; omega
        rw [if_neg hc1] at ho
        subst ho
        have b0 := hr.at0 (x := ⟨bk, bn, bp⟩) rfl
        simp only [List.length_cons, List.length_nil, Nat.zero_add, Nat.reduceAdd] at z z1 z2 hcap
        simp only [any_whl, any_rl] at z1 z2
        have hcap' : (2 : Int) ≤ cap := by omega
        simp (maxSteps := 4000000) -dsimp [-Y1, -Array.all_eq_true, -Y3, -Y4, and_assoc, Y5, Tryz.f35, isCoilOpC, argsOkC, containsFuncC, isKindC, isPresetC, z, e, a0.there, a0.all, b0.there, b0.all, b0.k, hc1, hcap', z1, z2, coilB, xD]
        all_goals (generalize isWhl ⟨bk, bn, bp⟩ = u; generalize isRl ⟨bk, bn, bp⟩ = u2; generalize pOk ⟨bk, bn, bp⟩ = u3; cases u <;> cases u2 <;> cases u3 <;> (try simp) <;> (try omega))
      · obtain ⟨⟨ak, an, ap⟩, ⟨bk, bn, bp⟩, rfl⟩ := list_two (by rw [hq.1]; rfl)
        have a0 := h.at0 (x := ⟨ak, an, ap⟩) rfl
        obtain ⟨o', ho, hr⟩ := key _ [⟨bk, bn, bp⟩] rfl
        have z1 := fun d mem K => containsFuncC_rw (cap := cap - 1) (d := d) (cx := ⟨w, [], w, []⟩) (mem := mem) (K := K) (f := 108) ⟨hr.mono (sub_now _ _), by simp, Or.inr (Or.inl rfl)⟩
        have z2 := fun d mem K => containsFuncC_rw (cap := cap - 1) (d := d) (cx := ⟨w, [], w, []⟩) (mem := mem) (K := K) (f := 110) ⟨hr.mono (sub_now _ _), by simp, Or.inr (Or.inr rfl)⟩
        have hc1 : ¬ (cap : Int) = 1 := by simp at hcap; omega
        rw [if_neg hc1] at ho
        subst ho
        have b0 := hr.at0 (x := ⟨bk, bn, bp⟩) rfl
        simp only [List.length_cons, List.length_nil, Nat.zero_add, Nat.reduceAdd] at z z1 z2 hcap
        simp only [any_whl, any_rl] at z1 z2
        have hcap' : (2 : Int) ≤ cap := by omega
        simp (maxSteps := 4000000) -dsimp [-Y1, -Array.all_eq_true, -Y3, -Y4, and_assoc, Y5, Tryz.f35, isCoilOpC, argsOkC, containsFuncC, isKindC, isPresetC, z, e, a0.there, a0.all, b0.there, b0.all, b0.k, hc1, hcap', z1, z2, coilB, xD]
        all_goals (generalize isWhl ⟨bk, bn, bp⟩ = u; generalize isRl ⟨bk, bn, bp⟩ = u2; generalize pOk ⟨bk, bn, bp⟩ = u3; cases u <;> cases u2 <;> cases u3 <;> (try simp) <;> (try omega))
      · obtain ⟨⟨ak, an, ap⟩, ⟨bk, bn, bp⟩, rfl⟩ := list_two (by rw [hq.1]; rfl)
        have a0 := h.at0 (x := ⟨ak, an, ap⟩) rfl
        obtain ⟨o', ho, hr⟩ := key _ [⟨bk, bn, bp⟩] rfl
        have z1 := fun d mem K => containsFuncC_rw (cap := cap - 1) (d := d) (cx := ⟨w, [], w, []⟩) (mem := mem) (K := K) (f := 108) ⟨hr.mono (sub_now _ _), by simp, Or.inr (Or.inl rfl)⟩
        have z2 := fun d mem K => containsFuncC_rw (cap := cap - 1) (d := d) (cx := ⟨w, [], w, []⟩) (mem := mem) (K := K) (f := 110) ⟨hr.mono (sub_now _ _), by simp, Or.inr (Or.inr rfl)⟩
        have hc1 : ¬ (cap : Int) = 1 := by simp at hcap; omega
        rw [if_neg hc1] at ho
        subst ho
        have b0 := hr.at0 (x := ⟨bk, bn, bp⟩) rfl
        simp only [List.length_cons, List.length_nil, Nat.zero_add, Nat.reduceAdd] at z z1 z2 hcap
        simp only [any_whl, any_rl] at z1 z2
        have hcap' : (2 : Int) ≤ cap := by omega
        simp (maxSteps := 4000000) -dsimp [-Y1, -Array.all_eq_true, -Y3, -Y4, and_assoc, Y5, Tryz.f35, isCoilOpC, argsOkC, containsFuncC, isKindC, isPresetC, z, e, a0.there, a0.all, b0.there, b0.all, b0.k, hc1, hcap', z1, z2, coilB, xD]
        all_goals (generalize isWhl ⟨bk, bn, bp⟩ = u; generalize isRl ⟨bk, bn, bp⟩ = u2; generalize pOk ⟨bk, bn, bp⟩ = u3; cases u <;> cases u2 <;> cases u3 <;> (try simp) <;> (try omega))
      · obtain ⟨⟨ak, an, ap⟩, ⟨bk, bn, bp⟩, rfl⟩ := list_two (by rw [hq.1]; rfl)
        have a0 := h.at0 (x := ⟨ak, an, ap⟩) rfl
        obtain ⟨o', ho, hr⟩ := key _ [⟨bk, bn, bp⟩] rfl
        have z1 := fun d mem K => containsFuncC_rw (cap := cap - 1) (d := d) (cx := ⟨w, [], w, []⟩) (mem := mem) (K := K) (f := 108) ⟨hr.mono (sub_now _ _), by simp, Or.inr (Or.inl rfl)⟩
        have z2 := fun d mem K => containsFuncC_rw (cap := cap - 1) (d := d) (cx := ⟨w, [], w, []⟩) (mem := mem) (K := K) (f := 110) ⟨hr.mono (sub_now _ _), by simp, Or.inr (Or.inr rfl)⟩
        have hc1 : ¬ (cap : Int) = 1 := by simp at hcap; omega
        rw [if_neg hc1] at ho
        subst ho
        have b0 := hr.at0 (x := ⟨bk, bn, bp⟩) rfl
        simp only [List.length_cons, List.length_nil, Nat.zero_add, Nat.reduceAdd] at z z1 z2 hcap
        simp only [any_whl, any_rl] at z1 z2
        have hcap' : (2 : Int) ≤ cap := by omega
        simp (maxSteps := 4000000) -dsimp [-Y1, -Array.all_eq_true, -Y3, -Y4, and_assoc, Y5, Tryz.f35, isCoilOpC, argsOkC, containsFuncC, isKindC, isPresetC, z, e, a0.there, a0.all, b0.there, b0.all, b0.k, hc1, hcap', z1, z2, coilB, xD]
        all_goals (generalize isWhl ⟨bk, bn, bp⟩ = u; generalize isRl ⟨bk, bn, bp⟩ = u2; generalize pOk ⟨bk, bn, bp⟩ = u3; cases u <;> cases u2 <;> cases u3 <;> (try simp) <;> (try omega))
      · obtain ⟨⟨ak, an, ap⟩, ⟨bk, bn, bp⟩, ⟨ck, cn, cp⟩, rfl⟩ := list_three (by rw [hq.1]; rfl)
        have a0 := h.at0 (x := ⟨ak, an, ap⟩) rfl
        obtain ⟨o', ho, hr⟩ := key _ [⟨bk, bn, bp⟩, ⟨ck, cn, cp⟩] rfl
        have z1 := fun d mem K => containsFuncC_rw (cap := cap - 1) (d := d) (cx := ⟨w, [], w, []⟩) (mem := mem) (K := K) (f := 108) ⟨hr.mono (sub_now _ _), by simp, Or.inr (Or.inl rfl)⟩
        have z2 := fun d mem K => containsFuncC_rw (cap := cap - 1) (d := d) (cx := ⟨w, [], w, []⟩) (mem := mem) (K := K) (f := 110) ⟨hr.mono (sub_now _ _), by simp, Or.inr (Or.inr rfl)⟩
        have hc1 : ¬ (cap : Int) = 1 := by simp at hcap; omega
        rw [if_neg hc1] at ho
        subst ho
        have b0 := hr.at0 (x := ⟨bk, bn, bp⟩) rfl
        simp only [List.length_cons, List.length_nil, Nat.zero_add, Nat.reduceAdd] at z z1 z2 hcap
        simp only [any_whl, any_rl] at z1 z2
        have hcap' : (3 : Int) ≤ cap := by omega
        simp (maxSteps := 4000000) -dsimp [-Y1, -Array.all_eq_true, -Y3, -Y4, and_assoc, Y5, Tryz.f35, isCoilOpC, argsOkC, containsFuncC, isKindC, isPresetC, z, e, a0.there, a0.all, b0.there, b0.all, b0.k, hc1, hcap', z1, z2, coilB, xD]
        all_goals (generalize isWhl ⟨bk, bn, bp⟩ = u; generalize isRl ⟨bk, bn, bp⟩ = u2; generalize isWhl ⟨ck, cn, cp⟩ = u3; generalize isRl ⟨ck, cn, cp⟩ = u4; cases u <;> cases u2 <;> cases u3 <;> cases u4 <;> (try simp) <;> (try omega))
      · obtain ⟨⟨ak, an, ap⟩, ⟨bk, bn, bp⟩, ⟨ck, cn, cp⟩, rfl⟩ := list_three (by rw [hq.1]; rfl)
        have a0 := h.at0 (x := ⟨ak, an, ap⟩) rfl
        obtain ⟨o', ho, hr⟩ := key _ [⟨bk, bn, bp⟩, ⟨ck, cn, cp⟩] rfl
        have z1 := fun d mem K => containsFuncC_rw (cap := cap - 1) (d := d) (cx := ⟨w, [], w, []⟩) (mem := mem) (K := K) (f := 108) ⟨hr.mono (sub_now _ _), by simp, Or.inr (Or.inl rfl)⟩
        have z2 := fun d mem K => containsFuncC_rw (cap := cap - 1) (d := d) (cx := ⟨w, [], w, []⟩) (mem := mem) (K := K) (f := 110) ⟨hr.mono (sub_now _ _), by simp, Or.inr (Or.inr rfl)⟩
        have hc1 : ¬ (cap : Int) = 1 := by simp at hcap; omega
        rw [if_neg hc1] at ho
        subst ho
        have b0 := hr.at0 (x := ⟨bk, bn, bp⟩) rfl
        simp only [List.length_cons, List.length_nil, Nat.zero_add, Nat.reduceAdd] at z z1 z2 hcap
        simp only [any_whl, any_rl] at z1 z2
        have hcap' : (3 : Int) ≤ cap := by omega
        simp (maxSteps := 4000000) -dsimp [-Y1, -Array.all_eq_true, -Y3, -Y4, and_assoc, Y5, Tryz.f35, isCoilOpC, argsOkC, containsFuncC, isKindC, isPresetC, z, e, a0.there, a0.all, b0.there, b0.all, b0.k, hc1, hcap', z1, z2, coilB, xD]
        all_goals (generalize isWhl ⟨bk, bn, bp⟩ = u; generalize isRl ⟨bk, bn, bp⟩ = u2; generalize isWhl ⟨ck, cn, cp⟩ = u3; generalize isRl ⟨ck, cn, cp⟩ = u4; cases u <;> cases u2 <;> cases u3 <;> cases u4 <;> (try simp) <;> (try omega))
      · obtain ⟨⟨ak, an, ap⟩, ⟨bk, bn, bp⟩, ⟨ck, cn, cp⟩, rfl⟩ := list_three (by rw [hq.1]; rfl)
        have a0 := h.at0 (x := ⟨ak, an, ap⟩) rfl
        obtain ⟨o', ho, hr⟩ := key _ [⟨bk, bn, bp⟩, ⟨ck, cn, cp⟩] rfl
        have z1 := fun d mem K => containsFuncC_rw (cap := cap - 1) (d := d) (cx := ⟨w, [], w, []⟩) (mem := mem) (K := K) (f := 108) ⟨hr.mono (sub_now _ _), by simp, Or.inr (Or.inl rfl)⟩
        have z2 := fun d mem K => containsFuncC_rw (cap := cap - 1) (d := d) (cx := ⟨w, [], w, []⟩) (mem := mem) (K := K) (f := 110) ⟨hr.mono (sub_now _ _), by simp, Or.inr (Or.inr rfl)⟩
        have hc1 : ¬ (cap : Int) = 1 := by simp at hcap; omega
        rw [if_neg hc1] at ho
        subst ho
        have b0 := hr.at0 (x := ⟨bk, bn, bp⟩) rfl
        simp only [List.length_cons, List.length_nil, Nat.zero_add, Nat.reduceAdd] at z z1 z2 hcap
        simp only [any_whl, any_rl] at z1 z2
        have hcap' : (3 : Int) ≤ cap := by omega
        simp (maxSteps := 4000000) -dsimp [-Y1, -Array.all_eq_true, -Y3, -Y4, and_assoc, Y5, Tryz.f35, isCoilOpC, argsOkC, containsFuncC, isKindC, isPresetC, z, e, a0.there, a0.all, b0.there, b0.all, b0.k, hc1, hcap', z1, z2, coilB, xD]
        all_goals (generalize isWhl ⟨bk, bn, bp⟩ = u; generalize isRl ⟨bk, bn, bp⟩ = u2; generalize isWhl ⟨ck, cn, cp⟩ = u3; generalize isRl ⟨ck, cn, cp⟩ = u4; cases u <;> cases u2 <;> cases u3 <;> cases u4 <;> (try simp) <;> (try omega))
      · obtain ⟨⟨ak, an, ap⟩, ⟨bk, bn, bp⟩, ⟨ck, cn, cp⟩, rfl⟩ := list_three (by rw [hq.1]; rfl)
        have a0 := h.at0 (x := ⟨ak, an, ap⟩) rfl
        obtain ⟨o', ho, hr⟩ := key _ [⟨bk, bn, bp⟩, ⟨ck, cn, cp⟩] rfl
        have z1 := fun d mem K => containsFuncC_rw (cap := cap - 1) (d := d) (cx := ⟨w, [], w, []⟩) (mem := mem) (K := K) (f := 108) ⟨hr.mono (sub_now _ _), by simp, Or.inr (Or.inl rfl)⟩
        have z2 := fun d mem K => containsFuncC_rw (cap := cap - 1) (d := d) (cx := ⟨w, [], w, []⟩) (mem := mem) (K := K) (f := 110) ⟨hr.mono (sub_now _ _), by simp, Or.inr (Or.inr rfl)⟩
        have hc1 : ¬ (cap : Int) = 1 := by simp at hcap; omega
        rw [if_neg hc1] at ho
        subst ho
        have b0 := hr.at0 (x := ⟨bk, bn, bp⟩) rfl
        simp only [List.length_cons, List.length_nil, Nat.zero_add, Nat.reduceAdd] at z z1 z2 hcap
        simp only [any_whl, any_rl] at z1 z2
        have hcap' : (3 : Int) ≤ cap := by omega
        simp (maxSteps := 4000000) -dsimp [-Y1, -Array.all_eq_true, -Y3, -Y4, and_assoc, Y5, Tryz.f35, isCoilOpC, argsOkC, containsFuncC, isKindC, isPresetC, z, e, a0.there, a0.all, b0.there, b0.all, b0.k, hc1, hcap', z1, z2, coilB, xD]
        all_goals (generalize isWhl ⟨bk, bn, bp⟩ = u; generalize isRl ⟨bk, bn, bp⟩ = u2; generalize isWhl ⟨ck, cn, cp⟩ = u3; generalize isRl ⟨ck, cn, cp⟩ = u4; cases u <;> cases u2 <;> cases u3 <;> cases u4 <;> (try simp) <;> (try omega))
      · obtain ⟨⟨ak, an, ap⟩, ⟨bk, bn, bp⟩, ⟨ck, cn, cp⟩, rfl⟩ := list_three (by rw [hq.1]; rfl)
        have a0 := h.at0 (x := ⟨ak, an, ap⟩) rfl
        obtain ⟨o', ho, hr⟩ := key _ [⟨bk, bn, bp⟩, ⟨ck, cn, cp⟩] rfl
        have z1 := fun d mem K => containsFuncC_rw (cap := cap - 1) (d := d) (cx := ⟨w, [], w, []⟩) (mem := mem) (K := K) (f := 108) ⟨hr.mono (sub_now _ _), by simp, Or.inr (Or.inl rfl)⟩
        have z2 := fun d mem K => containsFuncC_rw (cap := cap - 1) (d := d) (cx := ⟨w, [], w, []⟩) (mem := mem) (K := K) (f := 110) ⟨hr.mono (sub_now _ _), by simp, Or.inr (Or.inr rfl)⟩
        have hc1 : ¬ (cap : Int) = 1 := by simp at hcap; omega
        rw [if_neg hc1] at ho
        subst ho
        have b0 := hr.at0 (x := ⟨bk, bn, bp⟩) rfl
        simp only [List.length_cons, List.length_nil, Nat.zero_add, Nat.reduceAdd] at z z1 z2 hcap
        simp only [any_whl, any_rl] at z1 z2
        have hcap' : (3 : Int) ≤ cap := by omega
        simp (maxSteps := 4000000) -dsimp [-Y1, -Array.all_eq_true, -Y3, -Y4, and_assoc, Y5, Tryz.f35, isCoilOpC, argsOkC, containsFuncC, isKindC, isPresetC, z, e, a0.there, a0.all, b0.there, b0.all, b0.k, hc1, hcap', z1, z2, coilB, xD]
        all_goals (generalize isWhl ⟨bk, bn, bp⟩ = u; generalize isRl ⟨bk, bn, bp⟩ = u2; generalize isWhl ⟨ck, cn, cp⟩ = u3; generalize isRl ⟨ck, cn, cp⟩ = u4; cases u <;> cases u2 <;> cases u3 <;> cases u4 <;> (try simp) <;> (try omega))
  · simp only [h1, decide_false, Bool.false_and] at e
    by_cases h2 : 21 ≤ op
    · have h3 : ¬ op ≤ 37 := by omega
      simp (maxSteps := 4000000) -dsimp [-Y1, -Array.all_eq_true, -Y3, -Y4, and_assoc, Y5, Tryz.f35, isCoilOpC, argsOkC, containsFuncC, isKindC, isPresetC, z, e, h2, h3]
    · simp (maxSteps := 4000000) -dsimp [-Y1, -Array.all_eq_true, -Y3, -Y4, and_assoc, Y5, Tryz.f35, isCoilOpC, argsOkC, containsFuncC, isKindC, isPresetC, z, e, h2]
def iCoilC_S : Reads Tryz.prog 35 where
  ι := ((Int) × (Option Addr) × (Nat) × (List Dev))
  A := fun (i : ((Int) × (Option Addr) × (Nat) × (List Dev))) => match i with | (op, o, cap, xs) => [.agg #[.int .i64 op, .slice o xs.length cap]]
  pre := fun (i : ((Int) × (Option Addr) × (Nat) × (List Dev))) (F : Facts) => match i with | (op, o, cap, xs) => RdD F o xs ∧ xs.length ≤ 1048576 ∧ xs.length ≤ cap ∧ cap ≤ 9223372036854775807
  res := fun (i : ((Int) × (Option Addr) × (Nat) × (List Dev))) => match i with | (op, o, cap, xs) => .bool (coilOk op xs)
  mono := by
    intro i F G hs h
    first | exact h | exact h.mono hs | exact ⟨h.1.mono hs, h.2⟩ | exact ⟨h.1.mono hs, h.2.1.mono hs, h.2.2⟩ | exact ⟨h.1.mono hs, h.2.1.mono hs⟩ | exact ⟨h.1.mono hs, h.2.1.mono hs, h.2.2.1.mono hs, h.2.2.2⟩
  uniq := by
    rintro ⟨op, o, cap, xs⟩ ⟨op', o', cap', xs'⟩ F hA h h'
    simp at hA
    (try simp only [Int.natCast_inj] at hA)
    obtain rfl : xs = xs' := RdD.uniq h.1 h'.1 (by simp_all) (by simp_all)
    simp_all
  enter := Tryz.call35
  h := fun i w hp => iCoilC_c i.1 i.2.1 i.2.2.1 i.2.2.2 w (by rw [factF_init]; exact hp)
def iCoilC : Con Tryz.prog := Con.read iCoilC_S
theorem iCoilC_rw {op : Int} {o : Option Addr} {cap : Nat} {xs : List Dev} {d : Nat} {cx : Cx} {mem : List Blk} {K : C → Prop} (hpre : RdD (nowF cx mem) o xs ∧ xs.length ≤ 1048576 ∧ xs.length ≤ cap ∧ cap ≤ 9223372036854775807) : ReadV d iCoilC_S cx [.v (.agg #[.int .i64 op, .slice o xs.length cap])] mem K = K (.v (.bool (coilOk op xs))) := iCoilC_S.eq (op, o, cap, xs) rfl hpre
end Go.Proofs.YtmlmmaojomghdaaGreatDoor
