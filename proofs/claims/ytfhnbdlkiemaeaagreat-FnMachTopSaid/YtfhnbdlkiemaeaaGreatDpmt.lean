/-
  Contracts: what coils do, by the program.
-/
import Derived.Test.YtfhnbdlkiemaeaaGreatXmt
import Derived.Test.YtfhnbdlkiemaeaaGreatDomt
set_option linter.unusedVariables false
set_option linter.unusedSimpArgs false
set_option maxRecDepth 100000
set_option maxHeartbeats 4000000
namespace Go.Proofs.YtfhnbdlkiemaeaaGreat
open Go Go.Sx
attribute [local simp] Sx.vcsE1 Sx.vcsE2 Sx.vcsE3 Sx.vcsE4 Sx.vcsE5 Sx.vcsE6 Sx.vcsE7 Sx.vcsE8 Sx.vcsE9 Sx.vcsE10 Sx.vcsE11 Sx.vcsE12 Sx.vcsE13 Sx.vcsE14 Sx.vcsE15 Sx.vcsE16 Sx.vcsE17 Sx.vcsE18 Sx.vcsE19 Sx.get Sx.look Sx.put Sx.pureFn Sx.findOrd Sx.unF Sx.dstOk Sx.isFloatT Sx.endVC Sx.resFn Sx.packC Sx.newFn Sx.storeFn Sx.buildFn Sx.known Sx.aggT Sx.cellsC Sx.findCon Sx.allV Sx.partsV Sx.partsC Sx.fillL Sx.exitTo Sx.fAr Sx.eqFn Sx.eqFieldsFn Sx.eqElemsFn Sx.partFn Sx.sliceFn Sx.boundFn Sx.AppV Sx.CopyV Sx.MakeSliceV Sx.NewsV Sx.GrowV Sx.TextV Sx.bytesL Sx.notInt Sx.typeAt Sx.argAt Sx.den Go.undef Go.Value.cells Go.Value.oneCell' Sx.Con.pure Sx.Con.some Sx.Con.read Sx.Con.make Sx.Con.ext Sx.Con.rel Sx.Con.extS Sx.Con.draw Sx.Con.step Sx.C.one Sx.Draws.steps


theorem max0 (x : Int) : (if x < 0 then 0 else x) = max x 0 := by split <;> omega
theorem onw_wrap {c dt p : Int} (h1 : 0 ≤ c) (h2 : 0 ≤ dt) (h3 : 0 ≤ p ∧ p ≤ 32767) : IntKind.u16.wrap (if p < c + dt then p else c + dt) = onw c dt p := by
  have := onw_bd h1 h2 h3
  have e : (if p < c + dt then p else c + dt) = onw c dt p := by unfold onw; split <;> omega
  rw [e, wrap_u16 this.1 (by omega)]
theorem onwardsC_c (c dt p : Int) (hpre : 0 ≤ c ∧ c < 65536 ∧ 0 ≤ dt ∧ dt < 65536 ∧ 0 ≤ p ∧ p ≤ 32767) (w : World) : Calls Tryz.prog 177 #[.int .u16 c, .int .u16 dt, .int .i64 p] w fun e w' => e = .returned (.int .u16 (onw c dt p)) ∧ RowKit.Below w.heap.size w w' := by
  refine (plain_of_vcs ⟨[], []⟩ hmx Tryz.func177 rfl (by kernel_rfl) (args := [.int .u16 c, .int .u16 dt, .int .i64 p]) (by simp [Tryz.ntmps177]) w (· = .int .u16 (onw c dt p)) 400 ?_).mono fun e w' ⟨v, h1, h2, h3⟩ => ⟨h2 ▸ h1, h3⟩
  obtain ⟨h1, h2, h3, h4, h5⟩ := hpre
  have e1 : IntKind.i64.wrap c = c := wrap_i64 (by omega) (by omega)
  have e2 : IntKind.i64.wrap dt = dt := wrap_i64 (by omega) (by omega)
  have e3 : IntKind.i64.wrap (c + dt) = c + dt := wrap_i64 (by omega) (by omega)
  have e4 := onw_wrap (p := p) h1 h3 h5
  simp (maxSteps := 4000000) -dsimp [-List.all_eq_true, -Array.all_eq_true, -Bool.exists_bool, -Bool.forall_bool, and_assoc, List.zipIdx, Tryz.f177, e1, e2, e3, e4]
def onwardsC : Con Tryz.prog := Con.pure 177 Tryz.call177 (fun (i : ((Int) × (Int) × (Int))) => match i with | (c, dt, p) => [.int .u16 c, .int .u16 dt, .int .i64 p]) (fun (i : ((Int) × (Int) × (Int))) => match i with | (c, dt, p) => 0 ≤ c ∧ c < 65536 ∧ 0 ≤ dt ∧ dt < 65536 ∧ 0 ≤ p ∧ p ≤ 32767) (fun (i : ((Int) × (Int) × (Int))) => match i with | (c, dt, p) => .int .u16 (onw c dt p)) fun i w hp => onwardsC_c i.1 i.2.1 i.2.2 hp w
theorem timerC_c (m : M) (op k n p1 p : Int) (v : Bool) (dt : Int) (hpre : MOk m ∧ 0 ≤ p ∧ p ≤ 32767 ∧ 0 ≤ dt ∧ dt < 65536) (w : World) : Calls Tryz.prog 123 #[.agg (cells m), .int .i64 op, .agg #[.int .i64 k, .int .i64 n, .int .i64 p1], .int .i64 p, .bool v, .int .u16 dt] w fun e w' => e = .returned (.agg (cells (timerM m op k n p v dt))) ∧ RowKit.Below w.heap.size w w' := by
  refine (plain_of_vcs ⟨[placeC, onwardsC], []⟩ hmx Tryz.func123 rfl (by kernel_rfl) (args := [.agg (cells m), .int .i64 op, .agg #[.int .i64 k, .int .i64 n, .int .i64 p1], .int .i64 p, .bool v, .int .u16 dt]) (by simp [Tryz.ntmps123]) w (· = .agg (cells (timerM m op k n p v dt))) 400 ?_).mono fun e w' ⟨v, h1, h2, h3⟩ => ⟨h2 ▸ h1, h3⟩
  obtain ⟨hm, hp1, hp2, hd1, hd2⟩ := hpre
  have hb := (place_bd k n).1
  obtain ⟨l1, l2, l3, l4, l5, l6, l7, l8, l9, l10⟩ := place_lt n
  by_cases hk : k = 7
  · subst hk
    have hj : (place 7 n).toNat < 16 := by omega
    have hT := hm.T _ hj
    have g0 := fun m => get_T0 m _ hj
    have g1 := fun m => get_T1 m _ hj
    have s0 := fun m b => set_T0 m b _ hj
    have s1 := fun m x => set_T1 m x _ hj
    have s2 := fun m b x => set_TT m b x _ hj
    have u1 := fun (f : Arr 16 (Bool × Int)) a b => upd_upd f (place 7 n).toNat a b
    have u2 := fun (f : Arr 16 (Bool × Int)) v => upd_same f (place 7 n).toNat v hj
    have ob1 : 5 + (place 7 n).toNat * 2 ≤ 134 := by omega
    have ob2 : 5 + (place 7 n).toNat * 2 ≤ 135 := by omega
    have us := upd_self m.T (place 7 n).toNat
    obtain ⟨td, tc, ht⟩ : ∃ td tc, m.T (place 7 n).toNat = (td, tc) := ⟨_, _, rfl⟩
    rw [ht] at hT us
    simp only at hT
    have ow := onw_bd (c := tc) (dt := dt) hT.1 hd1 ⟨hp1, hp2⟩
    have e1 : IntKind.i64.wrap (onw tc dt p) = onw tc dt p := wrap_i64 (by omega) (by omega)
    by_cases h28 : op = 28
    · subst h28
      cases v
      · cases td
        · simp (maxSteps := 4000000) -dsimp [-List.all_eq_true, -Array.all_eq_true, -Bool.exists_bool, -Bool.forall_bool, and_assoc, List.zipIdx, Tryz.f123, placeC, onwardsC, -Sx.splice_two, timerM, timerT, hb, l7, g0, g1, s0, s1, s2, hT, hp1, hp2, hd1, hd2, ht, u1, u2, ob1]
        · by_cases hp : p ≤ onw tc dt p
          · have hp' : ¬ onw tc dt p < p := by omega
            simp (maxSteps := 4000000) -dsimp [-List.all_eq_true, -Array.all_eq_true, -Bool.exists_bool, -Bool.forall_bool, and_assoc, List.zipIdx, Tryz.f123, placeC, onwardsC, -Sx.splice_two, timerM, timerT, hb, l7, g0, g1, s0, s1, s2, hT, hp1, hp2, hd1, hd2, ht, u1, u2, ob1, e1, hp, hp']
          · have hp' : onw tc dt p < p := by omega
            simp (maxSteps := 4000000) -dsimp [-List.all_eq_true, -Array.all_eq_true, -Bool.exists_bool, -Bool.forall_bool, and_assoc, List.zipIdx, Tryz.f123, placeC, onwardsC, -Sx.splice_two, timerM, timerT, hb, l7, g0, g1, s0, s1, s2, hT, hp1, hp2, hd1, hd2, ht, u1, u2, ob1, e1, hp, hp']
      · simp (maxSteps := 4000000) -dsimp [-List.all_eq_true, -Array.all_eq_true, -Bool.exists_bool, -Bool.forall_bool, and_assoc, List.zipIdx, Tryz.f123, placeC, onwardsC, -Sx.splice_two, timerM, timerT, hb, l7, g0, g1, s0, s1, s2, hT, hp1, hp2, hd1, hd2, ht, u1, u2, ob1]
    · cases v
      · by_cases h26 : op = 26
        · simp (maxSteps := 4000000) -dsimp [-List.all_eq_true, -Array.all_eq_true, -Bool.exists_bool, -Bool.forall_bool, and_assoc, List.zipIdx, Tryz.f123, placeC, onwardsC, -Sx.splice_two, timerM, timerT, hb, l7, g0, g1, s0, s1, s2, hT, hp1, hp2, hd1, hd2, ht, u1, u2, ob1, h28, h26]
        · simp (maxSteps := 4000000) -dsimp [-List.all_eq_true, -Array.all_eq_true, -Bool.exists_bool, -Bool.forall_bool, and_assoc, List.zipIdx, Tryz.f123, placeC, onwardsC, -Sx.splice_two, timerM, timerT, hb, l7, g0, g1, s0, s1, s2, hT, hp1, hp2, hd1, hd2, ht, u1, u2, ob1, h28, h26, us]
      · simp (maxSteps := 4000000) -dsimp [-List.all_eq_true, -Array.all_eq_true, -Bool.exists_bool, -Bool.forall_bool, and_assoc, List.zipIdx, Tryz.f123, placeC, onwardsC, -Sx.splice_two, timerM, timerT, hb, l7, g0, g1, s0, s1, s2, hT, hp1, hp2, hd1, hd2, ht, u1, u2, ob1, ob2, h28, e1]
  · simp (maxSteps := 4000000) -dsimp [-List.all_eq_true, -Array.all_eq_true, -Bool.exists_bool, -Bool.forall_bool, and_assoc, List.zipIdx, Tryz.f123, placeC, onwardsC, timerM, hk]
def timerC : Con Tryz.prog := Con.pure 123 Tryz.call123 (fun (i : ((M) × (Int) × (Int) × (Int) × (Int) × (Int) × (Bool) × (Int))) => match i with | (m, op, k, n, p1, p, v, dt) => [.agg (cells m), .int .i64 op, .agg #[.int .i64 k, .int .i64 n, .int .i64 p1], .int .i64 p, .bool v, .int .u16 dt]) (fun (i : ((M) × (Int) × (Int) × (Int) × (Int) × (Int) × (Bool) × (Int))) => match i with | (m, op, k, n, p1, p, v, dt) => MOk m ∧ 0 ≤ p ∧ p ≤ 32767 ∧ 0 ≤ dt ∧ dt < 65536) (fun (i : ((M) × (Int) × (Int) × (Int) × (Int) × (Int) × (Bool) × (Int))) => match i with | (m, op, k, n, p1, p, v, dt) => .agg (cells (timerM m op k n p v dt))) fun i w hp => timerC_c i.1 i.2.1 i.2.2.1 i.2.2.2.1 i.2.2.2.2.1 i.2.2.2.2.2.1 i.2.2.2.2.2.2.1 i.2.2.2.2.2.2.2 hp w
theorem counterC_c (m : M) (k n p1 p : Int) (v : Bool) (hpre : MOk m ∧ 0 ≤ p ∧ p ≤ 32767) (w : World) : Calls Tryz.prog 124 #[.agg (cells m), .agg #[.int .i64 k, .int .i64 n, .int .i64 p1], .int .i64 p, .bool v] w fun e w' => e = .returned (.agg (cells (counterM m k n p v))) ∧ RowKit.Below w.heap.size w w' := by
  refine (plain_of_vcs ⟨[placeC], []⟩ hmx Tryz.func124 rfl (by kernel_rfl) (args := [.agg (cells m), .agg #[.int .i64 k, .int .i64 n, .int .i64 p1], .int .i64 p, .bool v]) (by simp [Tryz.ntmps124]) w (· = .agg (cells (counterM m k n p v))) 400 ?_).mono fun e w' ⟨v, h1, h2, h3⟩ => ⟨h2 ▸ h1, h3⟩
  obtain ⟨hm, hp1, hp2⟩ := hpre
  have hb := (place_bd k n).1
  obtain ⟨l1, l2, l3, l4, l5, l6, l7, l8, l9, l10⟩ := place_lt n
  by_cases hk : k = 8
  · subst hk
    have hj : (place 8 n).toNat < 16 := by omega
    have hT := hm.C _ hj
    have g0 := fun m => get_C0 m _ hj
    have g1 := fun m => get_C1 m _ hj
    have g2 := fun m => get_C2 m _ hj
    have s0 := fun m b => set_C0 m b _ hj
    have s1 := fun m x => set_C1 m x _ hj
    have s2 := fun m x => set_C2 m x _ hj
    have u1 := fun (f : Arr 16 (Bool × Bool × Int)) a b => upd_upd f (place 8 n).toNat a b
    have u2 := fun (f : Arr 16 (Bool × Bool × Int)) v => upd_same f (place 8 n).toNat v hj
    have ob1 : 37 + (place 8 n).toNat * 3 ≤ 133 := by omega
    obtain ⟨td, tl, tc, ht⟩ : ∃ td tl tc, m.C (place 8 n).toNat = (td, tl, tc) := ⟨_, _, _, rfl⟩
    rw [ht] at hT
    simp only at hT
    have cb := cntN_bd (v := v) (c := (td, tl, tc)) hT
    by_cases h65 : tc < 65535
    · have e1 : IntKind.u16.wrap (tc + 1) = tc + 1 := wrap_u16 (by omega) (by omega)
      have e2 : IntKind.i64.wrap (tc + 1) = tc + 1 := wrap_i64 (by omega) (by omega)
      have e3 : IntKind.i64.wrap tc = tc := wrap_i64 (by omega) (by omega)
      cases v <;> cases tl
      all_goals
        simp (maxSteps := 4000000) -dsimp [-List.all_eq_true, -Array.all_eq_true, -Bool.exists_bool, -Bool.forall_bool, and_assoc, List.zipIdx, Tryz.f124, placeC, -Sx.splice_two, counterM, cntC, cntN, hb, l8, g0, g1, g2, s0, s1, s2, hT, hp1, hp2, ht, u1, u2, ob1, h65, e1, e2, e3]
        (try omega)
    · have e3 : IntKind.i64.wrap tc = tc := wrap_i64 (by omega) (by omega)
      cases v <;> cases tl
      all_goals
        simp (maxSteps := 4000000) -dsimp [-List.all_eq_true, -Array.all_eq_true, -Bool.exists_bool, -Bool.forall_bool, and_assoc, List.zipIdx, Tryz.f124, placeC, -Sx.splice_two, counterM, cntC, cntN, hb, l8, g0, g1, g2, s0, s1, s2, hT, hp1, hp2, ht, u1, u2, ob1, h65, e3]
        (try omega)
  · simp (maxSteps := 4000000) -dsimp [-List.all_eq_true, -Array.all_eq_true, -Bool.exists_bool, -Bool.forall_bool, and_assoc, List.zipIdx, Tryz.f124, placeC, counterM, hk]
def counterC : Con Tryz.prog := Con.pure 124 Tryz.call124 (fun (i : ((M) × (Int) × (Int) × (Int) × (Int) × (Bool))) => match i with | (m, k, n, p1, p, v) => [.agg (cells m), .agg #[.int .i64 k, .int .i64 n, .int .i64 p1], .int .i64 p, .bool v]) (fun (i : ((M) × (Int) × (Int) × (Int) × (Int) × (Bool))) => match i with | (m, k, n, p1, p, v) => MOk m ∧ 0 ≤ p ∧ p ≤ 32767) (fun (i : ((M) × (Int) × (Int) × (Int) × (Int) × (Bool))) => match i with | (m, k, n, p1, p, v) => .agg (cells (counterM m k n p v))) fun i w hp => counterC_c i.1 i.2.1 i.2.2.1 i.2.2.2.1 i.2.2.2.2.1 i.2.2.2.2.2 hp w
theorem resetC_c (m : M) (k n p : Int) (hpre : MOk m) (w : World) : Calls Tryz.prog 125 #[.agg (cells m), .agg #[.int .i64 k, .int .i64 n, .int .i64 p]] w fun e w' => e = .returned (.agg (cells (resetM m k n))) ∧ RowKit.Below w.heap.size w w' := by
  refine (plain_of_vcs ⟨[placeC, putBitC], []⟩ hmx Tryz.func125 rfl (by kernel_rfl) (args := [.agg (cells m), .agg #[.int .i64 k, .int .i64 n, .int .i64 p]]) (by simp [Tryz.ntmps125]) w (· = .agg (cells (resetM m k n))) 400 ?_).mono fun e w' ⟨v, h1, h2, h3⟩ => ⟨h2 ▸ h1, h3⟩
  have hb := (place_bd k n).1
  obtain ⟨l1, l2, l3, l4, l5, l6, l7, l8, l9, l10⟩ := place_lt n
  by_cases h7 : k = 7
  · subst h7
    have hj : (place 7 n).toNat < 16 := by omega
    have s2 := fun m b x => set_TT m b x _ hj
    have ob1 : 5 + (place 7 n).toNat * 2 ≤ 134 := by omega
    simp (maxSteps := 4000000) -dsimp [-List.all_eq_true, -Array.all_eq_true, -Bool.exists_bool, -Bool.forall_bool, and_assoc, List.zipIdx, Tryz.f125, placeC, putBitC, -Sx.splice_two, resetM, hb, l7, s2, ob1]
  by_cases h8 : k = 8
  · subst h8
    have hj : (place 8 n).toNat < 16 := by omega
    have g0 := fun m => get_C0 m _ hj
    have g1 := fun m => get_C1 m _ hj
    have g2 := fun m => get_C2 m _ hj
    have s0 := fun m b => set_C0 m b _ hj
    have s1 := fun m x => set_C1 m x _ hj
    have s2 := fun m x => set_C2 m x _ hj
    have u1 := fun (f : Arr 16 (Bool × Bool × Int)) a b => upd_upd f (place 8 n).toNat a b
    have u2 := fun (f : Arr 16 (Bool × Bool × Int)) v => upd_same f (place 8 n).toNat v hj
    have ob1 : 37 + (place 8 n).toNat * 3 ≤ 133 := by omega
    simp (maxSteps := 4000000) -dsimp [-List.all_eq_true, -Array.all_eq_true, -Bool.exists_bool, -Bool.forall_bool, and_assoc, List.zipIdx, Tryz.f125, placeC, putBitC, -Sx.splice_two, resetM, hb, l8, g0, g1, g2, s0, s1, s2, u1, u2, ob1]
    try omega
  · simp (maxSteps := 4000000) -dsimp [-List.all_eq_true, -Array.all_eq_true, -Bool.exists_bool, -Bool.forall_bool, and_assoc, List.zipIdx, Tryz.f125, placeC, putBitC, resetM, h7, h8, hpre]
def resetC : Con Tryz.prog := Con.pure 125 Tryz.call125 (fun (i : ((M) × (Int) × (Int) × (Int))) => match i with | (m, k, n, p) => [.agg (cells m), .agg #[.int .i64 k, .int .i64 n, .int .i64 p]]) (fun (i : ((M) × (Int) × (Int) × (Int))) => match i with | (m, k, n, p) => MOk m) (fun (i : ((M) × (Int) × (Int) × (Int))) => match i with | (m, k, n, p) => .agg (cells (resetM m k n))) fun i w hp => resetC_c i.1 i.2.1 i.2.2.1 i.2.2.2 hp w
end Go.Proofs.YtfhnbdlkiemaeaaGreat
