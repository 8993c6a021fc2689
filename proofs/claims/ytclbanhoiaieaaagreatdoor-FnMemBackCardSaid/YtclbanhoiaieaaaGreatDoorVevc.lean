/-
  Contracts: a number times a power of two, by the library.
-/
import Derived.Test.YtclbanhoiaieaaaGreatDoorVhvc
import Derived.Test.YtclbanhoiaieaaaGreatDoorMcvc
set_option linter.unusedVariables false
set_option linter.unusedSimpArgs false
set_option maxRecDepth 100000
set_option maxHeartbeats 4000000
namespace Go.Proofs.YtclbanhoiaieaaaGreatDoor
open Go Go.Sx
attribute [local simp] Sx.vcsE1 Sx.vcsE2 Sx.vcsE3 Sx.vcsE4 Sx.vcsE5 Sx.vcsE6 Sx.vcsE7 Sx.vcsE8 Sx.vcsE9 Sx.vcsE10 Sx.vcsE11 Sx.vcsE12 Sx.vcsE13 Sx.vcsE14 Sx.vcsE15 Sx.vcsE16 Sx.vcsE17 Sx.vcsE18 Sx.vcsE19 Sx.get Sx.look Sx.put Sx.pureFn Sx.findOrd Sx.unF Sx.dstOk Sx.isFloatT Sx.endVC Sx.resFn Sx.packC Sx.newFn Sx.storeFn Sx.buildFn Sx.known Sx.aggT Sx.cellsC Sx.findCon Sx.allV Sx.partsV Sx.partsC Sx.fillL Sx.exitTo Sx.fAr Sx.eqFn Sx.eqFieldsFn Sx.eqElemsFn Sx.partFn Sx.sliceFn Sx.boundFn Sx.AppV Sx.CopyV Sx.MakeSliceV Sx.NewsV Sx.GrowV Sx.TextV Sx.bytesL Sx.notInt Sx.typeAt Sx.argAt Sx.den Go.undef Go.Value.cells Go.Value.oneCell' Sx.Con.pure Sx.Con.some Sx.Con.read Sx.Con.make Sx.Con.ext Sx.Con.rel Sx.Con.extS Sx.Con.draw Sx.Con.step Sx.C.one Sx.Draws.steps

theorem absC_c (x : Nat) (hpre : x < 18446744073709551616) (w : World) : Calls Tryz.prog 268 #[.float .f64 x] w fun e w' => e = .returned (.float .f64 (x % 9223372036854775808)) ∧ RowKit.Below w.heap.size w w' := by
  refine (plain_of_vcs ⟨[bitsC, frombitsC], []⟩ hmx Tryz.func268 rfl (by kernel_rfl) (args := [.float .f64 x]) (by simp [Tryz.ntmps268]) w (· = .float .f64 (x % 9223372036854775808)) 400 ?_).mono fun e w' ⟨v, h1, h2, h3⟩ => ⟨h2 ▸ h1, h3⟩
  have h := and_low63 hpre
  simp (maxSteps := 4000000) -dsimp [-List.all_eq_true, -Array.all_eq_true, -Bool.exists_bool, -Bool.forall_bool, and_assoc, List.zipIdx, Tryz.f268, bitsC, frombitsC, h]
def absC : Con Tryz.prog := Con.pure 268 Tryz.call268 (fun (x : ((Nat))) => [.float .f64 x]) (fun (x : ((Nat))) => x < 18446744073709551616) (fun (x : ((Nat))) => .float .f64 (x % 9223372036854775808)) fun x w hp => absC_c x hp w
theorem abs_read {f : Nat} {s : Bool} {m : Nat} {i : Int} (h : IsF f s m i) : dbl.read (f % 9223372036854775808) = .number false m i := by
  obtain ⟨k, l, ⟨h1, h2, h3⟩, ⟨h4, h5⟩, h6⟩ := h.fields
  have e : f % 9223372036854775808 = dbl.word false (rungOf m i) := by
    rw [word_fields false h1 (by omega) h4, h6]
    cases s <;> simp <;> omega
  rw [e]
  exact read_word (read_norm h.rd)
theorem isInfC_c (f : Nat) (hpre : ∃ s m i, IsF f s m i) (w : World) : Calls Tryz.prog 262 #[.float .f64 f, .int .i64 0] w fun e w' => e = .returned (.bool false) ∧ RowKit.Below w.heap.size w w' := by
  refine (plain_of_vcs ⟨[absC], []⟩ hmx Tryz.func262 rfl (by kernel_rfl) (args := [.float .f64 f, .int .i64 0]) (by simp [Tryz.ntmps262]) w (· = .bool false) 400 ?_).mono fun e w' ⟨v, h1, h2, h3⟩ => ⟨h2 ▸ h1, h3⟩
  obtain ⟨s, m, i, h⟩ := hpre
  have h1 := gtMax (abs_read h)
  have h2 := h.lt
  simp (maxSteps := 4000000) -dsimp [-List.all_eq_true, -Array.all_eq_true, -Bool.exists_bool, -Bool.forall_bool, and_assoc, List.zipIdx, Tryz.f262, absC, h1, h2, f64_fmt]
  simpa using h1
def isInfC : Con Tryz.prog := Con.pure 262 Tryz.call262 (fun (f : ((Nat))) => [.float .f64 f, .int .i64 0]) (fun (f : ((Nat))) => ∃ s m i, IsF f s m i) (fun (f : ((Nat))) => .bool false) fun f w hp => isInfC_c f hp w
theorem isNanC_c (f : Nat) (hpre : ∃ s m i, IsF f s m i) (w : World) : Calls Tryz.prog 263 #[.float .f64 f] w fun e w' => e = .returned (.bool false) ∧ RowKit.Below w.heap.size w w' := by
  refine (plain_of_vcs ⟨[], []⟩ hmx Tryz.func263 rfl (by kernel_rfl) (args := [.float .f64 f]) (by simp [Tryz.ntmps263]) w (· = .bool false) 400 ?_).mono fun e w' ⟨v, h1, h2, h3⟩ => ⟨h2 ▸ h1, h3⟩
  obtain ⟨s, m, i, h⟩ := hpre
  have h1 := ord_selfU (num_notNan h.rd)
  simp (maxSteps := 4000000) -dsimp [-List.all_eq_true, -Array.all_eq_true, -Bool.exists_bool, -Bool.forall_bool, and_assoc, List.zipIdx, Tryz.f263, h1, f64_fmt]
def isNanC : Con Tryz.prog := Con.pure 263 Tryz.call263 (fun (f : ((Nat))) => [.float .f64 f]) (fun (f : ((Nat))) => ∃ s m i, IsF f s m i) (fun (f : ((Nat))) => .bool false) fun f w hp => isNanC_c f hp w
theorem normC_c (f : Nat) (hpre : ∃ s m i, IsF f s m i) (w : World) : Calls Tryz.prog 264 #[.float .f64 f] w fun e w' => e = .returned (.tuple #[.float .f64 f, .int .i64 0]) ∧ RowKit.Below w.heap.size w w' := by
  refine (plain_of_vcs ⟨[absC], []⟩ hmx Tryz.func264 rfl (by kernel_rfl) (args := [.float .f64 f]) (by simp [Tryz.ntmps264]) w (· = .tuple #[.float .f64 f, .int .i64 0]) 400 ?_).mono fun e w' ⟨v, h1, h2, h3⟩ => ⟨h2 ▸ h1, h3⟩
  obtain ⟨s, m, i, h⟩ := hpre
  have h2 := h.lt
  have h1 : dbl.order (f % 9223372036854775808) 4503599627370496 = some .gt := by
    rw [ord_pos (abs_read h) (show dbl.read 4503599627370496 = .number false 4503599627370496 (-1074) by kernel_rfl), cmp_int]
    have : unitsV 4503599627370496 (-1074) < unitsV m i := by
      have a := units_le (m := 4503599627370496) (n := 4503599627370496) (i := -1073) (j := i) (by omega) (by have := h.i0; omega) (Nat.le_refl _)
      have b := units_le (m := 4503599627370496) (n := m) (i := i) (j := i) (by have := h.i0; omega) (by omega) h.lo
      have c : unitsV 4503599627370496 (-1074) < unitsV 4503599627370496 (-1073) := by decide +kernel
      omega
    rw [if_neg (by omega), if_neg (by omega)]
  simp (maxSteps := 4000000) -dsimp [-List.all_eq_true, -Array.all_eq_true, -Bool.exists_bool, -Bool.forall_bool, and_assoc, List.zipIdx, Tryz.f264, absC, h1, h2, f64_fmt]
def normC : Con Tryz.prog := Con.pure 264 Tryz.call264 (fun (f : ((Nat))) => [.float .f64 f]) (fun (f : ((Nat))) => ∃ s m i, IsF f s m i) (fun (f : ((Nat))) => .tuple #[.float .f64 f, .int .i64 0]) fun f w hp => normC_c f hp w
theorem copysignG_c (a b : Nat) (hpre : a < 18446744073709551616 ∧ b < 18446744073709551616) (w : World) : Calls Tryz.prog 207 #[.float .f64 a, .float .f64 b] w fun e w' => ∃ v, e = .returned v ∧ (fun v => ∃ r, v = .float .f64 r ∧ r < 18446744073709551616) v ∧ RowKit.Below w.heap.size w w' := by
  refine plain_of_vcs ⟨[bitsC, frombitsC], []⟩ hmx Tryz.func207 rfl (by kernel_rfl) (args := [.float .f64 a, .float .f64 b]) (by simp [Tryz.ntmps207]) w (fun v => ∃ r, v = .float .f64 r ∧ r < 18446744073709551616) 400 ?_
  obtain ⟨ha, hb⟩ := hpre
  simp (maxSteps := 4000000) -dsimp [-List.all_eq_true, -Array.all_eq_true, -Bool.exists_bool, -Bool.forall_bool, and_assoc, List.zipIdx, Tryz.f207, bitsC, frombitsC]
  exact (wrap_u64_bd _).2
def copysignG : Con Tryz.prog := Con.some 207 Tryz.call207 (fun (i : ((Nat) × (Nat))) => match i with | (a, b) => [.float .f64 a, .float .f64 b]) (fun (i : ((Nat) × (Nat))) => match i with | (a, b) => a < 18446744073709551616 ∧ b < 18446744073709551616) (fun (i : ((Nat) × (Nat))) => match i with | (a, b) => fun v => ∃ r, v = .float .f64 r ∧ r < 18446744073709551616) fun i w hp => copysignG_c i.1 i.2 hp w
theorem ldexpIC_c (f : Nat) (q : Int) (hpre : (f = 0 ∨ ∃ s m i, IsF f s m i) ∧ -2000 ≤ q ∧ q ≤ 2000) (w : World) : Calls Tryz.prog 244 #[.float .f64 f, .int .i64 q] w fun e w' => ∃ v, e = .returned v ∧ (fun v => ∃ r, v = .float .f64 r ∧ r < 18446744073709551616 ∧ ∀ s m i, IsF f s m i → ∀ M I, Norm M I → M ≠ 0 → valU M I = valU m (i + q) → r = dbl.word s (rungOf M I)) v ∧ RowKit.Below w.heap.size w w' := by
  refine plain_of_vcs ⟨[isInfC, isNanC, normC, bitsC, frombitsC, copysignG, infC], []⟩ hmx Tryz.func244 rfl (by kernel_rfl) (args := [.float .f64 f, .int .i64 q]) (by simp [Tryz.ntmps244]) w (fun v => ∃ r, v = .float .f64 r ∧ r < 18446744073709551616 ∧ ∀ s m i, IsF f s m i → ∀ M I, Norm M I → M ≠ 0 → valU M I = valU m (i + q) → r = dbl.word s (rungOf M I)) 400 ?_
  obtain ⟨hf, he1, he2⟩ := hpre
  rcases hf with rfl | ⟨s, m, i, h⟩
  · have o0 : FloatKind.f64.format.order 0 0 = some .eq := by kernel_rfl
    have z0 : dbl.read 0 = .number false 0 (-1074) := read_zeroU
    simp (maxSteps := 4000000) -dsimp [-List.all_eq_true, -Array.all_eq_true, -Bool.exists_bool, -Bool.forall_bool, and_assoc, List.zipIdx, Tryz.f244, isInfC, isNanC, normC, bitsC, frombitsC, copysignG, infC, o0]
    intro s m i h
    have := h.rd
    rw [z0] at this
    injection this with a b c
    have := h.lo
    omega
  · obtain ⟨z, h0, hz⟩ : ∃ z, dbl.order f 0 = some z ∧ ((s = true ∧ z = .lt) ∨ (s = false ∧ z = .gt)) := ⟨_, by rw [ord_zeroU h.rd, if_neg (by have := h.lo; omega)], by cases s <;> simp⟩
    have hz2 : ¬ z = .eq := by rcases hz with ⟨_, rfl⟩ | ⟨_, rfl⟩ <;> simp
    have hF3 : ∃ s m i, IsF f s m i := ⟨s, m, i, h⟩
    have h2 := h.lt
    obtain ⟨k, l, ⟨hi, hk1, hk2⟩, ⟨hm, hl⟩, hfd⟩ := h.fields
    have hA := exp_at hfd (by omega) hl
    have hB : IntKind.i64.wrap ((k : Int) - 1023) = k - 1023 := wrap_i64 (by omega) (by omega)
    have hC : IntKind.i64.wrap q = q := wrap_i64 (by omega) (by omega)
    have hD : IntKind.i64.wrap (q + ((k : Int) - 1023)) = q + (k - 1023) := wrap_i64 (by omega) (by omega)
    obtain ⟨_, _, hlow, htop⟩ := q10 hfd (by omega) hl
    have hNm := read_norm h.rd
    by_cases c1 : q + ((k : Int) - 1023) < -1075
    · have d1 : ¬ -1075 ≤ q + ((k : Int) - 1023) := by omega
      simp (maxSteps := 4000000) -dsimp [-List.all_eq_true, -Array.all_eq_true, -Bool.exists_bool, -Bool.forall_bool, and_assoc, List.zipIdx, Tryz.f244, isInfC, isNanC, normC, bitsC, frombitsC, copysignG, infC, h0, h2, f64_fmt, hA, hB, hC, hD, c1, d1, hz2, hF3]
      exact fun v x hv hx => ⟨x, hv, hx, ldexp_no h (by omega) ⟨by omega, by omega⟩⟩
    have d1 : -1075 ≤ q + ((k : Int) - 1023) := by omega
    by_cases c2 : 1023 < q + ((k : Int) - 1023)
    · have d2 : ¬ q + ((k : Int) - 1023) ≤ 1023 := by omega
      have hno := fun r => ldexp_no (r := r) (q := q) h (by omega) ⟨by omega, by omega⟩
      rcases hz with ⟨rfl, rfl⟩ | ⟨rfl, rfl⟩
      · simp (maxSteps := 4000000) -dsimp [-List.all_eq_true, -Array.all_eq_true, -Bool.exists_bool, -Bool.forall_bool, and_assoc, List.zipIdx, Tryz.f244, isInfC, isNanC, normC, bitsC, frombitsC, copysignG, infC, h0, h2, f64_fmt, hA, hB, hC, hD, c1, d1, c2, d2, hF3]
        exact hno _
      · simp (maxSteps := 4000000) -dsimp [-List.all_eq_true, -Array.all_eq_true, -Bool.exists_bool, -Bool.forall_bool, and_assoc, List.zipIdx, Tryz.f244, isInfC, isNanC, normC, bitsC, frombitsC, copysignG, infC, h0, h2, f64_fmt, hA, hB, hC, hD, c1, d1, c2, d2, hF3]
        exact hno _
    have d2 : q + ((k : Int) - 1023) ≤ 1023 := by omega
    by_cases c3 : q + ((k : Int) - 1023) < -1022
    · have d3 : ¬ -1022 ≤ q + ((k : Int) - 1023) := by omega
      have hE : IntKind.i64.wrap (q + ((k : Int) - 1023) + 53) = q + ((k : Int) - 1023) + 53 := wrap_i64 (by omega) (by omega)
      obtain ⟨K, hK⟩ : ∃ K : Nat, q + ((k : Int) - 1023) + 53 + 1023 = K := ⟨(q + ((k : Int) - 1023) + 53 + 1023).toNat, by omega⟩
      have hF : IntKind.i64.wrap (q + ((k : Int) - 1023) + 53 + 1023) = K := by rw [wrap_i64 (by omega) (by omega)]; exact hK
      have hp := pack h2 htop hlow hF (by omega)
      simp (maxSteps := 4000000) -dsimp [-List.all_eq_true, -Array.all_eq_true, -Bool.exists_bool, -Bool.forall_bool, and_assoc, List.zipIdx, Tryz.f244, isInfC, isNanC, normC, bitsC, frombitsC, copysignG, infC, h0, h2, f64_fmt, hA, hB, hC, hD, hE, c1, d1, c2, d2, c3, d3, hz2, hF3, hp]
      intro r hr
      refine ⟨(arith_lt.2.2.1 hr), ?_⟩
      intro s' m' i' h' M I hN h0' hv
      obtain ⟨rfl, rfl, rfl⟩ := h.uniq h'
      have hj : i' + q + 53 = (K : Int) - 1075 := by omega
      have hw : dbl.word s' (rungOf m' (i' + q + 53)) = (if s' then 1 else 0) * 9223372036854775808 + (K * 4503599627370496 + l) := by
        rw [word_fields s' hj (by omega) hm]; cases s' <;> simp
      rw [← hw] at hr
      have hN2 : Norm m' (i' + q + 53) := ⟨by omega, by omega, hNm.sm, Or.inl h.lo⟩
      rw [mul_eq read_m53 (read_word hN2) h0' hN (by
        rw [hv]
        have e : i' + q = (-105 + (i' + q + 53)) + (52 : Nat) := by omega
        conv => rhs; rw [e]
        rw [valU_up m' 52 (by omega), Nat.mul_comm 4503599627370496])] at hr
      simpa [fRes] using hr
    · have d3 : -1022 ≤ q + ((k : Int) - 1023) := by omega
      obtain ⟨K, hK⟩ : ∃ K : Nat, q + ((k : Int) - 1023) + 1023 = K := ⟨(q + ((k : Int) - 1023) + 1023).toNat, by omega⟩
      have hF : IntKind.i64.wrap (q + ((k : Int) - 1023) + 1023) = K := by rw [wrap_i64 (by omega) (by omega)]; exact hK
      have hp := pack h2 htop hlow hF (by omega)
      simp (maxSteps := 4000000) -dsimp [-List.all_eq_true, -Array.all_eq_true, -Bool.exists_bool, -Bool.forall_bool, and_assoc, List.zipIdx, Tryz.f244, isInfC, isNanC, normC, bitsC, frombitsC, copysignG, infC, h0, h2, f64_fmt, hA, hB, hC, hD, c1, d1, c2, d2, c3, d3, hz2, hF3, hp]
      intro r hr
      refine ⟨(arith_lt.2.2.1 hr), ?_⟩
      intro s' m' i' h' M I hN h0' hv
      obtain ⟨rfl, rfl, rfl⟩ := h.uniq h'
      have hj : i' + q = (K : Int) - 1075 := by omega
      have hw : dbl.word s' (rungOf m' (i' + q)) = (if s' then 1 else 0) * 9223372036854775808 + (K * 4503599627370496 + l) := by
        rw [word_fields s' hj (by omega) hm]; cases s' <;> simp
      rw [← hw] at hr
      have hN2 : Norm m' (i' + q) := ⟨by omega, by omega, hNm.sm, Or.inl h.lo⟩
      rw [mul_eq read_one (read_word hN2) h0' hN (by
        rw [hv]
        have e : i' + q = (-52 + (i' + q)) + (52 : Nat) := by omega
        conv => rhs; rw [e]
        rw [valU_up m' 52 (by omega), Nat.mul_comm 4503599627370496])] at hr
      simpa [fRes] using hr
def ldexpIC : Con Tryz.prog := Con.some 244 Tryz.call244 (fun (i : ((Nat) × (Int))) => match i with | (f, q) => [.float .f64 f, .int .i64 q]) (fun (i : ((Nat) × (Int))) => match i with | (f, q) => (f = 0 ∨ ∃ s m i, IsF f s m i) ∧ -2000 ≤ q ∧ q ≤ 2000) (fun (i : ((Nat) × (Int))) => match i with | (f, q) => fun v => ∃ r, v = .float .f64 r ∧ r < 18446744073709551616 ∧ ∀ s m i, IsF f s m i → ∀ M I, Norm M I → M ≠ 0 → valU M I = valU m (i + q) → r = dbl.word s (rungOf M I)) fun i w hp => ldexpIC_c i.1 i.2 hp w
theorem ldexpC_c (f : Nat) (q : Int) (hpre : (f = 0 ∨ ∃ s m i, IsF f s m i) ∧ -2000 ≤ q ∧ q ≤ 2000) (w : World) : Calls Tryz.prog 208 #[.float .f64 f, .int .i64 q] w fun e w' => ∃ v, e = .returned v ∧ (fun v => ∃ r, v = .float .f64 r ∧ r < 18446744073709551616 ∧ ∀ s m i, IsF f s m i → ∀ M I, Norm M I → M ≠ 0 → valU M I = valU m (i + q) → r = dbl.word s (rungOf M I)) v ∧ RowKit.Below w.heap.size w w' := by
  refine plain_of_vcs ⟨[ldexpIC], []⟩ hmx Tryz.func208 rfl (by kernel_rfl) (args := [.float .f64 f, .int .i64 q]) (by simp [Tryz.ntmps208]) w (fun v => ∃ r, v = .float .f64 r ∧ r < 18446744073709551616 ∧ ∀ s m i, IsF f s m i → ∀ M I, Norm M I → M ≠ 0 → valU M I = valU m (i + q) → r = dbl.word s (rungOf M I)) 400 ?_
  simp (maxSteps := 4000000) -dsimp [-List.all_eq_true, -Array.all_eq_true, -Bool.exists_bool, -Bool.forall_bool, and_assoc, List.zipIdx, Tryz.f208, ldexpIC]
  obtain ⟨a, b, c⟩ := hpre
  exact ⟨a, b, c, fun v x hv hx hh => ⟨x, hv, hx, hh⟩⟩
def ldexpC : Con Tryz.prog := Con.some 208 Tryz.call208 (fun (i : ((Nat) × (Int))) => match i with | (f, q) => [.float .f64 f, .int .i64 q]) (fun (i : ((Nat) × (Int))) => match i with | (f, q) => (f = 0 ∨ ∃ s m i, IsF f s m i) ∧ -2000 ≤ q ∧ q ≤ 2000) (fun (i : ((Nat) × (Int))) => match i with | (f, q) => fun v => ∃ r, v = .float .f64 r ∧ r < 18446744073709551616 ∧ ∀ s m i, IsF f s m i → ∀ M I, Norm M I → M ≠ 0 → valU M I = valU m (i + q) → r = dbl.word s (rungOf M I)) fun i w hp => ldexpC_c i.1 i.2 hp w
end Go.Proofs.YtclbanhoiaieaaaGreatDoor
