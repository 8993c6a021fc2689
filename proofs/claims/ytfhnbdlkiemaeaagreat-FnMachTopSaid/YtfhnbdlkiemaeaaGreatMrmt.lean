/-
  Contracts: runs of the machine, by the program and by the reference; samples copied, counted, compared.
-/
import Derived.Test.YtfhnbdlkiemaeaaGreatMymt
import Derived.Test.YtfhnbdlkiemaeaaGreatEmt
import Derived.Test.YtfhnbdlkiemaeaaGreatAmt
import Derived.Test.YtfhnbdlkiemaeaaGreatDqmt
import Derived.Test.YtfhnbdlkiemaeaaGreatImt
import Derived.Test.YtfhnbdlkiemaeaaGreatInmt
import Derived.Test.YtfhnbdlkiemaeaaGreatDmt
set_option linter.unusedVariables false
set_option linter.unusedSimpArgs false
set_option maxRecDepth 100000
set_option maxHeartbeats 4000000
namespace Go.Proofs.YtfhnbdlkiemaeaaGreat
open Go Go.Sx
attribute [local simp] Sx.vcsE1 Sx.vcsE2 Sx.vcsE3 Sx.vcsE4 Sx.vcsE5 Sx.vcsE6 Sx.vcsE7 Sx.vcsE8 Sx.vcsE9 Sx.vcsE10 Sx.vcsE11 Sx.vcsE12 Sx.vcsE13 Sx.vcsE14 Sx.vcsE15 Sx.vcsE16 Sx.vcsE17 Sx.vcsE18 Sx.vcsE19 Sx.get Sx.look Sx.put Sx.pureFn Sx.findOrd Sx.unF Sx.dstOk Sx.isFloatT Sx.endVC Sx.resFn Sx.packC Sx.newFn Sx.storeFn Sx.buildFn Sx.known Sx.aggT Sx.cellsC Sx.findCon Sx.allV Sx.partsV Sx.partsC Sx.fillL Sx.exitTo Sx.fAr Sx.eqFn Sx.eqFieldsFn Sx.eqElemsFn Sx.partFn Sx.sliceFn Sx.boundFn Sx.AppV Sx.CopyV Sx.MakeSliceV Sx.NewsV Sx.GrowV Sx.TextV Sx.bytesL Sx.notInt Sx.typeAt Sx.argAt Sx.den Go.undef Go.Value.cells Go.Value.oneCell' Sx.Con.pure Sx.Con.some Sx.Con.read Sx.Con.make Sx.Con.ext Sx.Con.rel Sx.Con.extS Sx.Con.draw Sx.Con.step Sx.C.one Sx.Draws.steps

structure SmpOk (s : Smp) : Prop where
  x : 0 ≤ s.x ∧ s.x < 4294967296
  dt : 0 ≤ s.dt ∧ s.dt < 65536
  f : ∀ k, k < 4 → s.f k < 18446744073709551616
theorem start_ok {m : M} {s : Smp} (h : MOk m) (hs : SmpOk s) : MSOk (startN m s) :=
  ⟨actStart_ok h hs.x hs.f, ⟨by simp [startN, bootN], by simp [startN, bootN]⟩, ⟨by simp [startN, bootN], by simp [startN, bootN]⟩⟩
theorem ran_ok {m : M} (h : MOk m) : MOk { m with Ran := true } := ⟨h.X, h.Y, h.Mw, h.S, h.E, h.T, h.C, h.D, h.R, h.Time⟩
theorem spl3i (a b c d e f : C) : splice [a, b, c] 0 [d, e, f] = [d, e, f] := rfl
def ranM (m : M) : M := { m with Ran := true }
theorem st_build (m : M) : cellL m ++ List.drop 136 (stL (bootN zeroM)) = stL (bootN m) := by kernel_rfl
theorem sm_take (x t : Int) (f : Arr 4 Nat) : List.take 6 (List.map C.v (sampleL x t f)) = List.map C.v (sampleL x t f) := by kernel_rfl
theorem sm_len (x t : Int) (f : Arr 4 Nat) : (sampleL x t f).length = 6 := by kernel_rfl
theorem sm_get (x t : Int) (f : Arr 4 Nat) : (sampleL x t f)[1]? = some (.int .u16 t) := by kernel_rfl
theorem sm_gete (x t : Int) (f : Arr 4 Nat) (h : 1 < (sampleL x t f).length) : (sampleL x t f)[1]'h = .int .u16 t := by kernel_rfl
theorem sm_inj {x t x' t' : Int} {f f' : Arr 4 Nat} : sampleL x t f = sampleL x' t' f' ↔ x = x' ∧ t = t' ∧ f = f' := by
  constructor
  · intro h
    unfold sampleL at h
    simp only [List.cons_append, List.nil_append, List.cons.injEq, Value.int.injEq, true_and] at h
    exact ⟨h.1, h.2.1, iL_injf h.2.2⟩
  · rintro ⟨rfl, rfl, rfl⟩; rfl
theorem run_next {t : MS} {t0 : MS} {dt : Int} {xs : List Ins} {i : Nat} {x : Ins} {t1 : MS} (hx : xs[i]? = some x) (h : MSt t (Sx.runN t0 dt (xs.take i))) (h1 : MSt t1 (machN t ⟨x.code, x.op, x.args⟩ dt)) : MSt t1 (Sx.runN t0 dt (xs.take (i + 1))) := by
  rw [runN_take hx]
  exact h1.trans (machN_same h _ _)
theorem machScanC_c (o : Option Addr) (cap : Nat) (xs : List Ins) (m : M) (s : Smp) (w : World) (hpre : RdN (factF ⟨w, [], w, []⟩) o xs ∧ MOk m ∧ SmpOk s ∧ xs.length ≤ 1048576) : Calls Tryz.prog 11 #[.slice o xs.length cap, .agg (cells m), .agg (sampleL s.x s.dt s.f).toArray] w fun e w' => ∃ v, e = .returned v ∧ (fun v => IsMem v (scanN xs m s)) v ∧ RowKit.Below w.heap.size w w' := by
  refine plain_of_vcs ⟨[actStartC, machStepC, actEndC], []⟩ hmx Tryz.func11 rfl (by kernel_rfl) (args := [.slice o xs.length cap, .agg (cells m), .agg (sampleL s.x s.dt s.f).toArray]) (by simp [Tryz.ntmps11]) w (fun v => IsMem v (scanN xs m s)) 400 ?_
  obtain ⟨h, hm, hsm, hl⟩ := hpre
  by_cases h1k : xs.length ≤ 1000
  · have hm1 : ¬ (1000 : Int) < xs.length := by omega
    have e : scanN xs m s = ranM (Sx.runN (startN m s) s.dt xs).m := by unfold scanN; rw [if_pos h1k]; rfl
    rw [e]
    have h0 := start_ok hm hsm
    simp (maxSteps := 4000000) -dsimp [-List.all_eq_true, -Array.all_eq_true, -Bool.exists_bool, -Bool.forall_bool, and_assoc, List.zipIdx, Tryz.f11, actStartC, machStepC, actEndC, -Sx.splice_two, spl3i, zero_st, st_build, sm_take, allV_map, sm_len, sm_inj, len_stL, hm1]
    intro b b1 b2 b3
    refine loop_inv (σ := ⟨[actStartC, machStepC, actEndC], []⟩) hmx (by kernel_rfl) (fun q cx tm mem => cx = ⟨w, [], w, []⟩ ∧ ∃ (i : Nat) (t : MS), i ≤ xs.length ∧ q = xs.length - i ∧ MSt t (Sx.runN (startN m s) s.dt (xs.take i)) ∧ MSOk t ∧ mem = [⟨b, cellC m, 38⟩, ⟨b1, List.map C.v (sampleL s.x s.dt s.f), 41⟩, ⟨b2, cellC zeroM, 38⟩, ⟨b3, stC t, 60⟩] ∧
        Sx.look tm 20 = .v (.int .i64 i) ∧ Sx.look tm 19 = .v (.int .i64 xs.length) ∧ Sx.look tm 18 = .v (.slice o xs.length cap) ∧ Sx.look tm 4 = .p 0 b 0 ∧ Sx.look tm 5 = .p 1 b1 0 ∧ Sx.look tm 6 = .p 2 b2 0 ∧ Sx.look tm 7 = .p 3 b3 0)
      xs.length ⟨rfl, 0, startN m s, by omega, rfl, MSt.refl _, h0, rfl, by simp [Sx.look], by simp [Sx.look], by simp [Sx.look], by simp [Sx.look], by simp [Sx.look], by simp [Sx.look], by simp [Sx.look]⟩ ?_
    rintro q cx tm mem ⟨rfl, i, t, hi, rfl, hst, hok, rfl, j20, j19, j18, j4, j5, j6, j7⟩
    refine ⟨400, ?_⟩
    by_cases hlt : i < xs.length
    · obtain ⟨x, hx⟩ : ∃ x, xs[i]? = some x := ⟨xs[i], by simp [hlt]⟩
      obtain ⟨o', cap', hat⟩ := h.at hx
      simp (maxSteps := 4000000) -dsimp [-List.all_eq_true, -Array.all_eq_true, -Bool.exists_bool, -Bool.forall_bool, and_assoc, List.zipIdx, Tryz.f11, actStartC, machStepC, actEndC, -Sx.splice_two, spl3i, zero_st, st_build, sm_take, allV_map, sm_len, sm_inj, len_stL, j20, j19, j18, j4, j5, j6, j7, hlt, h.there hlt, hat.all, sm_get, sm_gete]
      intro b4
      refine ⟨(t, x.code, x.op, o', cap', x.args, s.dt), rfl, ⟨hat.args.mono (sub_now _ _), hok, hsm.dt.1, hsm.dt.2⟩, fun v hv => ?_⟩
      obtain ⟨t1, rfl, s1, k1⟩ := hv.ex
      simp (maxSteps := 4000000) -dsimp [-List.all_eq_true, -Array.all_eq_true, -Bool.exists_bool, -Bool.forall_bool, and_assoc, List.zipIdx, Tryz.f11, actStartC, machStepC, actEndC, -Sx.splice_two, spl3i, zero_st, st_build, sm_take, allV_map, sm_len, sm_inj, len_stL, j20, j19, j18, j4, j5, j6, j7, i_succ (i := i) (by omega)]
      exact ⟨4, xs.length - (i + 1), by omega, i + 1, by omega, rfl, t1, run_next hx hst s1, k1, rfl, by omega⟩
    · obtain rfl : i = xs.length := by omega
      rw [List.take_length] at hst
      simp (maxSteps := 4000000) -dsimp [-List.all_eq_true, -Array.all_eq_true, -Bool.exists_bool, -Bool.forall_bool, and_assoc, List.zipIdx, Tryz.f11, actStartC, machStepC, actEndC, -Sx.splice_two, spl3i, zero_st, st_build, sm_take, allV_map, sm_len, sm_inj, len_stL, j20, j19, j18, j4, j5, j6, j7, sm_get, sm_gete]
      exact ⟨_, rfl, ran_same hst.m, ran_ok hok.m⟩
  · have hm1 : (1000 : Int) < xs.length := by omega
    have e : scanN xs m s = m := by unfold scanN; rw [if_neg h1k]
    rw [e]
    simp (maxSteps := 4000000) -dsimp [-List.all_eq_true, -Array.all_eq_true, -Bool.exists_bool, -Bool.forall_bool, and_assoc, List.zipIdx, Tryz.f11, actStartC, machStepC, actEndC, hm1]
    exact isMem_self hm
def machScanC_S : Rels Tryz.prog 11 where
  ι := ((Option Addr) × (Nat) × (List Ins) × (M) × (Smp))
  A := fun (i : ((Option Addr) × (Nat) × (List Ins) × (M) × (Smp))) => match i with | (o, cap, xs, m, s) => [.slice o xs.length cap, .agg (cells m), .agg (sampleL s.x s.dt s.f).toArray]
  pre := fun (i : ((Option Addr) × (Nat) × (List Ins) × (M) × (Smp))) (F : Facts) => match i with | (o, cap, xs, m, s) => RdN F o xs ∧ MOk m ∧ SmpOk s ∧ xs.length ≤ 1048576
  post := fun (i : ((Option Addr) × (Nat) × (List Ins) × (M) × (Smp))) => match i with | (o, cap, xs, m, s) => fun v => IsMem v (scanN xs m s)
  mono := by
    intro i F G hs h
    first | exact h | exact h.mono hs | exact ⟨h.1.mono hs, h.2⟩ | exact ⟨h.1.mono hs, h.2.1.mono hs, h.2.2⟩ | exact ⟨h.1.mono hs, h.2.1.mono hs⟩
  enter := Tryz.call11
  h := fun i w hp => machScanC_c i.1 i.2.1 i.2.2.1 i.2.2.2.1 i.2.2.2.2 w (by rw [factF_init]; exact hp)
def machScanC : Con Tryz.prog := Con.rel machScanC_S
theorem sMachScanC_c (o : Option Addr) (cap : Nat) (xs : List Ins) (m : M) (s : Smp) (w : World) (hpre : RdN (factF ⟨w, [], w, []⟩) o xs ∧ MOk m ∧ SmpOk s ∧ xs.length ≤ 1048576) : Calls Tryz.prog 13 #[.slice o xs.length cap, .agg (cells m), .agg (sampleL s.x s.dt s.f).toArray] w fun e w' => ∃ v, e = .returned v ∧ (fun v => IsMem v (scanN xs m s)) v ∧ RowKit.Below w.heap.size w w' := by
  refine plain_of_vcs ⟨[sActStartC, sMachStepC, sActEndC], []⟩ hmx Tryz.func13 rfl (by kernel_rfl) (args := [.slice o xs.length cap, .agg (cells m), .agg (sampleL s.x s.dt s.f).toArray]) (by simp [Tryz.ntmps13]) w (fun v => IsMem v (scanN xs m s)) 400 ?_
  obtain ⟨h, hm, hsm, hl⟩ := hpre
  by_cases h1k : xs.length ≤ 1000
  · have hm1 : ¬ (1000 : Int) < xs.length := by omega
    have e : scanN xs m s = ranM (Sx.runN (startN m s) s.dt xs).m := by unfold scanN; rw [if_pos h1k]; rfl
    rw [e]
    have h0 := start_ok hm hsm
    simp (maxSteps := 4000000) -dsimp [-List.all_eq_true, -Array.all_eq_true, -Bool.exists_bool, -Bool.forall_bool, and_assoc, List.zipIdx, Tryz.f13, sActStartC, sMachStepC, sActEndC, -Sx.splice_two, spl3i, zero_st, st_build, sm_take, allV_map, sm_len, sm_inj, len_stL, hm1]
    intro b b1 b2 b3
    refine loop_inv (σ := ⟨[sActStartC, sMachStepC, sActEndC], []⟩) hmx (by kernel_rfl) (fun q cx tm mem => cx = ⟨w, [], w, []⟩ ∧ ∃ (i : Nat) (t : MS), i ≤ xs.length ∧ q = xs.length - i ∧ MSt t (Sx.runN (startN m s) s.dt (xs.take i)) ∧ MSOk t ∧ mem = [⟨b, cellC m, 38⟩, ⟨b1, List.map C.v (sampleL s.x s.dt s.f), 41⟩, ⟨b2, cellC zeroM, 38⟩, ⟨b3, stC t, 60⟩] ∧
        Sx.look tm 8 = .v (.int .i64 i) ∧ Sx.look tm 0 = .v (.slice o xs.length cap) ∧ Sx.look tm 4 = .p 0 b 0 ∧ Sx.look tm 5 = .p 1 b1 0 ∧ Sx.look tm 6 = .p 2 b2 0 ∧ Sx.look tm 7 = .p 3 b3 0)
      xs.length ⟨rfl, 0, startN m s, by omega, rfl, MSt.refl _, h0, rfl, by simp [Sx.look], by simp [Sx.look], by simp [Sx.look], by simp [Sx.look], by simp [Sx.look], by simp [Sx.look]⟩ ?_
    rintro q cx tm mem ⟨rfl, i, t, hi, rfl, hst, hok, rfl, j8, j0, j4, j5, j6, j7⟩
    refine ⟨400, ?_⟩
    by_cases hlt : i < xs.length
    · obtain ⟨x, hx⟩ : ∃ x, xs[i]? = some x := ⟨xs[i], by simp [hlt]⟩
      obtain ⟨o', cap', hat⟩ := h.at hx
      simp (maxSteps := 4000000) -dsimp [-List.all_eq_true, -Array.all_eq_true, -Bool.exists_bool, -Bool.forall_bool, and_assoc, List.zipIdx, Tryz.f13, sActStartC, sMachStepC, sActEndC, -Sx.splice_two, spl3i, zero_st, st_build, sm_take, allV_map, sm_len, sm_inj, len_stL, j8, j0, j4, j5, j6, j7, hlt, h.there hlt, hat.all, sm_get, sm_gete]
      refine ⟨(t, x.code, x.op, o', cap', x.args, s.dt), rfl, ⟨hat.args.mono (sub_now _ _), hok, hsm.dt.1, hsm.dt.2⟩, fun v hv => ?_⟩
      obtain ⟨t1, rfl, s1, k1⟩ := hv.ex
      simp (maxSteps := 4000000) -dsimp [-List.all_eq_true, -Array.all_eq_true, -Bool.exists_bool, -Bool.forall_bool, and_assoc, List.zipIdx, Tryz.f13, sActStartC, sMachStepC, sActEndC, -Sx.splice_two, spl3i, zero_st, st_build, sm_take, allV_map, sm_len, sm_inj, len_stL, j8, j0, j4, j5, j6, j7, i_succ (i := i) (by omega)]
      exact ⟨4, xs.length - (i + 1), by omega, i + 1, by omega, rfl, t1, run_next hx hst s1, k1, rfl, by omega⟩
    · obtain rfl : i = xs.length := by omega
      rw [List.take_length] at hst
      simp (maxSteps := 4000000) -dsimp [-List.all_eq_true, -Array.all_eq_true, -Bool.exists_bool, -Bool.forall_bool, and_assoc, List.zipIdx, Tryz.f13, sActStartC, sMachStepC, sActEndC, -Sx.splice_two, spl3i, zero_st, st_build, sm_take, allV_map, sm_len, sm_inj, len_stL, j8, j0, j4, j5, j6, j7, sm_get, sm_gete]
      exact ⟨_, rfl, ran_same hst.m, ran_ok hok.m⟩
  · have hm1 : (1000 : Int) < xs.length := by omega
    have e : scanN xs m s = m := by unfold scanN; rw [if_neg h1k]
    rw [e]
    simp (maxSteps := 4000000) -dsimp [-List.all_eq_true, -Array.all_eq_true, -Bool.exists_bool, -Bool.forall_bool, and_assoc, List.zipIdx, Tryz.f13, sActStartC, sMachStepC, sActEndC, hm1]
    exact isMem_self hm
def sMachScanC_S : Rels Tryz.prog 13 where
  ι := ((Option Addr) × (Nat) × (List Ins) × (M) × (Smp))
  A := fun (i : ((Option Addr) × (Nat) × (List Ins) × (M) × (Smp))) => match i with | (o, cap, xs, m, s) => [.slice o xs.length cap, .agg (cells m), .agg (sampleL s.x s.dt s.f).toArray]
  pre := fun (i : ((Option Addr) × (Nat) × (List Ins) × (M) × (Smp))) (F : Facts) => match i with | (o, cap, xs, m, s) => RdN F o xs ∧ MOk m ∧ SmpOk s ∧ xs.length ≤ 1048576
  post := fun (i : ((Option Addr) × (Nat) × (List Ins) × (M) × (Smp))) => match i with | (o, cap, xs, m, s) => fun v => IsMem v (scanN xs m s)
  mono := by
    intro i F G hs h
    first | exact h | exact h.mono hs | exact ⟨h.1.mono hs, h.2⟩ | exact ⟨h.1.mono hs, h.2.1.mono hs, h.2.2⟩ | exact ⟨h.1.mono hs, h.2.1.mono hs⟩
  enter := Tryz.call13
  h := fun i w hp => sMachScanC_c i.1 i.2.1 i.2.2.1 i.2.2.2.1 i.2.2.2.2 w (by rw [factF_init]; exact hp)
def sMachScanC : Con Tryz.prog := Con.rel sMachScanC_S

def smL (s : Smp) : List Value := sampleL s.x s.dt s.f
theorem smL_len (s : Smp) : (smL s).length = 6 := sm_len _ _ _
def RdSm (F : Facts) (o : Option Addr) (ss : List Smp) : Prop := RdO F 6 o (ss.map smL)
theorem RdSm.mono {F G : Facts} {o : Option Addr} {ss : List Smp} (h : RdSm F o ss) (hs : Sub F G) : RdSm G o ss := RdO.mono h hs
theorem smL_inj {s t : Smp} (h : smL s = smL t) : s = t := by
  obtain ⟨h1, h2, h3⟩ := sm_inj.1 h
  cases s; cases t
  simp only at h1 h2 h3
  subst h1 h2 h3
  rfl
theorem RdSm.uniq {F : Facts} {o o' : Option Addr} {ss ts : List Smp} (h : RdSm F o ss) (h' : RdSm F o' ts) (ho : o = o') (hl : ss.length = ts.length) : ss = ts := by
  subst ho
  have e := RdO.uniq h h' (by simpa using hl)
  apply List.ext_getElem?
  intro i
  have ei := congrArg (·[i]?) e
  simp only [List.getElem?_map] at ei
  cases h1 : ss[i]? <;> cases h2 : ts[i]? <;> simp_all
  exact smL_inj ei
theorem RdSm.there {F : Facts} {o : Option Addr} {ss : List Smp} (h : RdSm F o ss) {i : Nat} (hi : i < ss.length) : o.isSome = true :=
  RdO.some h (i := i) (r := smL ss[i]) (by simp [hi])
theorem RdSm.all {cx : Cx} {o : Option Addr} {ss : List Smp} (h : RdSm (factF cx) o ss) {i : Nat} {s : Smp} (hs : ss[i]? = some s) {P : Program} {d : Nat} {mem : List Blk} {t : TypeId} {K : Value → Prop} (ht : aggT P t = some true) (hc : P.cellsOf t = 6) : LoadV d P cx mem t (padd o (i * 6)) K = K (.agg (sampleL s.x s.dt s.f).toArray) :=
  RdO.ld_agg (RdO.mono h (sub_now cx mem)) ht hc (r := smL s) (by simp [hs])
structure IsSm (F : Facts) (v : Value) (ss : List Smp) : Prop where
  ex : ∃ o cap, v = .slice o ss.length cap ∧ RdSm F o ss ∧ ss.length ≤ cap ∧ cap ≤ maxLen
theorem IsSm.mono {F G : Facts} {v : Value} {ss : List Smp} (h : IsSm F v ss) (hs : Sub F G) : IsSm G v ss := by
  obtain ⟨o, cap, h1, h2, h3⟩ := h.ex
  exact ⟨o, cap, h1, h2.mono hs, h3⟩
theorem sm_one (x t : Int) (f : Arr 4 Nat) : (sampleL x t f).all (C.one ∘ C.v) = true := by kernel_rfl
theorem sm_spl (x t : Int) (f : Arr 4 Nat) (a b c d e g : C) : splice [a, b, c, d, e, g] 0 (List.map C.v (sampleL x t f)) = List.map C.v (sampleL x t f) := by kernel_rfl
end Go.Proofs.YtfhnbdlkiemaeaaGreat
