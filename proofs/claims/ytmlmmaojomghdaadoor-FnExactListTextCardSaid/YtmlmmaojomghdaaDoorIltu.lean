/-
  Contracts: lists of instructions are copied, counted and compared.
-/
import Derived.Test.YtmlmmaojomghdaaDoorItu
import Derived.Test.YtmlmmaojomghdaaDoorIntu
set_option linter.unusedVariables false
set_option linter.unusedSimpArgs false
set_option maxRecDepth 100000
set_option maxHeartbeats 4000000
namespace Go.Proofs.YtmlmmaojomghdaaDoor
open Go Go.Sx
open List renaming all_eq_true → Y1, zipIdx → Y5
open Bool renaming exists_bool → Y3, forall_bool → Y4
attribute [local simp] Sx.vcsE1 Sx.vcsE2 Sx.vcsE3 Sx.vcsE4 Sx.vcsE5 Sx.vcsE6 Sx.vcsE7 Sx.vcsE8 Sx.vcsE9 Sx.vcsE10 Sx.vcsE11 Sx.vcsE12 Sx.vcsE13 Sx.vcsE14 Sx.vcsE15 Sx.vcsE16 Sx.vcsE17 Sx.vcsE18 Sx.vcsE19 Sx.get Sx.look Sx.put Sx.pureFn Sx.findOrd Sx.unF Sx.dstOk Sx.isFloatT Sx.endVC Sx.resFn Sx.packC Sx.newFn Sx.storeFn Sx.buildFn Sx.known Sx.aggT Sx.cellsC Sx.findCon Sx.allV Sx.partsV Sx.partsC Sx.fillL Sx.exitTo Sx.fAr Sx.eqFn Sx.eqFieldsFn Sx.eqElemsFn Sx.partFn Sx.sliceFn Sx.boundFn Sx.AppV Sx.CopyV Sx.MakeSliceV Sx.NewsV Sx.GrowV Sx.TextV Sx.bytesL Sx.notInt Sx.typeAt Sx.argAt Sx.den Go.undef Go.Value.cells Go.Value.oneCell' Sx.Con.pure Sx.Con.some Sx.Con.read Sx.Con.make Sx.Con.ext Sx.Con.rel Sx.Con.extS Sx.Con.draw Sx.Con.step Sx.C.one Sx.Draws.steps

theorem szInstC_c (code op : Int) (o : Option Addr) (n cap : Nat) (left : Int) (hpre : 0 ≤ left ∧ left ≤ 1048576 ∧ n ≤ 9223372036854775807) (w : World) : Calls Tryd.prog 16 #[.agg #[.int .i64 code, .int .i64 op, .slice o n cap], .int .i64 left] w fun e w' => e = .returned (.int .i64 (if left < n then -1 else left - n)) ∧ RowKit.Below w.heap.size w w' := by
  refine (plain_of_vcs ⟨[szElemC], []⟩ hmx Tryd.func16 rfl (by kernel_rfl) (args := [.agg #[.int .i64 code, .int .i64 op, .slice o n cap], .int .i64 left]) (by simp [Tryd.ntmps16]) w (· = .int .i64 (if left < n then -1 else left - n)) 400 ?_).mono fun e w' ⟨v, h1, h2, h3⟩ => ⟨h2 ▸ h1, h3⟩
  simp (maxSteps := 4000000) -dsimp [-Y1, -Array.all_eq_true, -Y3, -Y4, and_assoc, Y5, Tryd.f16, szElemC, hpre]
  intro h h'
  split at h <;> omega
def szInstC : Con Tryd.prog := Con.pure 16 Tryd.call16 (fun (i : ((Int) × (Int) × (Option Addr) × (Nat) × (Nat) × (Int))) => match i with | (code, op, o, n, cap, left) => [.agg #[.int .i64 code, .int .i64 op, .slice o n cap], .int .i64 left]) (fun (i : ((Int) × (Int) × (Option Addr) × (Nat) × (Nat) × (Int))) => match i with | (code, op, o, n, cap, left) => 0 ≤ left ∧ left ≤ 1048576 ∧ n ≤ 9223372036854775807) (fun (i : ((Int) × (Int) × (Option Addr) × (Nat) × (Nat) × (Int))) => match i with | (code, op, o, n, cap, left) => .int .i64 (if left < n then -1 else left - n)) fun i w hp => szInstC_c i.1 i.2.1 i.2.2.1 i.2.2.2.1 i.2.2.2.2.1 i.2.2.2.2.2 hp w
theorem toInstC_c (code op : Int) (o : Option Addr) (cap : Nat) (xs : List Dev) (w : World) (hpre : RdD (factF ⟨w, [], w, []⟩) o xs ∧ xs.length ≤ 1048576) : Calls Tryd.prog 18 #[.agg #[.int .i64 code, .int .i64 op, .slice o xs.length cap]] w fun e w' => ∃ v, e = .returned v ∧ RowKit.Below w.heap.size w w' ∧ IsInst (fun a => if w.heap.size ≤ a.block then w'.cell? a else none) v ⟨code, op, xs⟩ := by
  refine make_of_vcs ⟨[toElemC], []⟩ hmx Tryd.func18 rfl (by kernel_rfl) (args := [.agg #[.int .i64 code, .int .i64 op, .slice o xs.length cap]]) (by simp [Tryd.ntmps18]) w (fun v F => IsInst F v ⟨code, op, xs⟩) 400 ?_
  obtain ⟨h, hl⟩ := hpre
  simp (maxSteps := 4000000) -dsimp [-Y1, -Array.all_eq_true, -Y3, -Y4, and_assoc, Y5, Tryd.f18, toElemC]
  intro b b1 b2
  refine ⟨(op, o, cap, xs), rfl, ⟨h.mono (sub_now _ _), hl⟩, ?_⟩
  rintro cx' v hle hv
  obtain ⟨o', cap', rfl, g1, g2, g3⟩ := hv.ex
  simp (maxSteps := 4000000) -dsimp [-Y1, -Array.all_eq_true, -Y3, -Y4, and_assoc, Y5, Tryd.f18, toElemC]
  exact ⟨hle.w0, hle.g0, fun w' hm => ⟨⟨o', cap', rfl, g1.mono (sub_end hle.w0 hm), g2, g3⟩⟩⟩
def toInstC_S : Makes Tryd.prog 18 where
  ι := ((Int) × (Int) × (Option Addr) × (Nat) × (List Dev))
  A := fun (i : ((Int) × (Int) × (Option Addr) × (Nat) × (List Dev))) => match i with | (code, op, o, cap, xs) => [.agg #[.int .i64 code, .int .i64 op, .slice o xs.length cap]]
  pre := fun (i : ((Int) × (Int) × (Option Addr) × (Nat) × (List Dev))) (F : Facts) => match i with | (code, op, o, cap, xs) => RdD F o xs ∧ xs.length ≤ 1048576
  post := fun (i : ((Int) × (Int) × (Option Addr) × (Nat) × (List Dev))) (v : Value) (F : Facts) => match i with | (code, op, o, cap, xs) => IsInst F v ⟨code, op, xs⟩
  mono := by
    intro i F G hs h
    first | exact h | exact h.mono hs | exact ⟨h.1.mono hs, h.2⟩ | exact ⟨h.1.mono hs, h.2.1.mono hs, h.2.2⟩ | exact ⟨h.1.mono hs, h.2.1.mono hs⟩
  monoP := fun i v F G hs h => h.mono hs
  enter := Tryd.call18
  h := fun i w hp => toInstC_c i.1 i.2.1 i.2.2.1 i.2.2.2.1 i.2.2.2.2 w (by rw [factF_init]; exact hp)
def toInstC : Con Tryd.prog := Con.make toInstC_S
theorem eqInstC_c (code op : Int) (o : Option Addr) (cap : Nat) (xs : List Dev) (o2 : Option Addr) (cap2 : Nat) (w : World) (hpre : RdD (factF ⟨w, [], w, []⟩) o xs ∧ RdD (factF ⟨w, [], w, []⟩) o2 xs ∧ xs.length ≤ 1048576) : Calls Tryd.prog 20 #[.agg #[.int .i64 code, .int .i64 op, .slice o xs.length cap], .agg #[.int .i64 code, .int .i64 op, .slice o2 xs.length cap2]] w fun e w' => e = .returned (.bool true) ∧ RowKit.Below w.heap.size w w' := by
  refine (plain_of_vcs ⟨[eqElemC], []⟩ hmx Tryd.func20 rfl (by kernel_rfl) (args := [.agg #[.int .i64 code, .int .i64 op, .slice o xs.length cap], .agg #[.int .i64 code, .int .i64 op, .slice o2 xs.length cap2]]) (by simp [Tryd.ntmps20]) w (· = .bool true) 400 ?_).mono fun e w' ⟨v, h1, h2, h3⟩ => ⟨h2 ▸ h1, h3⟩
  obtain ⟨h, g, hl⟩ := hpre
  simp (maxSteps := 4000000) -dsimp [-Y1, -Array.all_eq_true, -Y3, -Y4, and_assoc, Y5, Tryd.f20, eqElemC]
  intro b b1
  refine (eqElemC_rw ⟨h.mono (sub_now _ _), g.mono (sub_now _ _), hl⟩).mpr ?_
  simp (maxSteps := 4000000) -dsimp [-Y1, -Array.all_eq_true, -Y3, -Y4, and_assoc, Y5, Tryd.f20, eqElemC]
def eqInstC_S : Reads Tryd.prog 20 where
  ι := ((Int) × (Int) × (Option Addr) × (Nat) × (List Dev) × (Option Addr) × (Nat))
  A := fun (i : ((Int) × (Int) × (Option Addr) × (Nat) × (List Dev) × (Option Addr) × (Nat))) => match i with | (code, op, o, cap, xs, o2, cap2) => [.agg #[.int .i64 code, .int .i64 op, .slice o xs.length cap], .agg #[.int .i64 code, .int .i64 op, .slice o2 xs.length cap2]]
  pre := fun (i : ((Int) × (Int) × (Option Addr) × (Nat) × (List Dev) × (Option Addr) × (Nat))) (F : Facts) => match i with | (code, op, o, cap, xs, o2, cap2) => RdD F o xs ∧ RdD F o2 xs ∧ xs.length ≤ 1048576
  res := fun (i : ((Int) × (Int) × (Option Addr) × (Nat) × (List Dev) × (Option Addr) × (Nat))) => match i with | (code, op, o, cap, xs, o2, cap2) => .bool true
  mono := by
    intro i F G hs h
    first | exact h | exact h.mono hs | exact ⟨h.1.mono hs, h.2⟩ | exact ⟨h.1.mono hs, h.2.1.mono hs, h.2.2⟩ | exact ⟨h.1.mono hs, h.2.1.mono hs⟩
  uniq := by
    rintro ⟨code, op, o, cap, xs, o2, cap2⟩ ⟨code', op', o', cap', xs', o2', cap2'⟩ F hA h h'
    simp at hA
    (try simp only [Int.natCast_inj] at hA)
    obtain rfl : xs = xs' := RdD.uniq h.1 h'.1 (by simp_all) (by simp_all)
    simp_all
  enter := Tryd.call20
  h := fun i w hp => eqInstC_c i.1 i.2.1 i.2.2.1 i.2.2.2.1 i.2.2.2.2.1 i.2.2.2.2.2.1 i.2.2.2.2.2.2 w (by rw [factF_init]; exact hp)
def eqInstC : Con Tryd.prog := Con.read eqInstC_S
theorem eqInstC_rw {code op : Int} {o : Option Addr} {cap : Nat} {xs : List Dev} {o2 : Option Addr} {cap2 : Nat} {d : Nat} {cx : Cx} {mem : List Blk} {K : C → Prop} (hpre : RdD (nowF cx mem) o xs ∧ RdD (nowF cx mem) o2 xs ∧ xs.length ≤ 1048576) : ReadV d eqInstC_S cx [.v (.agg #[.int .i64 code, .int .i64 op, .slice o xs.length cap]), .v (.agg #[.int .i64 code, .int .i64 op, .slice o2 xs.length cap2])] mem K = K (.v (.bool true)) := eqInstC_S.eq (code, op, o, cap, xs, o2, cap2) rfl hpre

theorem szInstSC_c (o : Option Addr) (cap : Nat) (xs : List Ins) (left : Int) (w : World) (hpre : RdN (factF ⟨w, [], w, []⟩) o xs ∧ 0 ≤ left ∧ left ≤ 1048576 ∧ xs.length ≤ 9223372036854775807) : Calls Tryd.prog 21 #[.slice o xs.length cap, .int .i64 left] w fun e w' => e = .returned (.int .i64 (szS xs left)) ∧ RowKit.Below w.heap.size w w' := by
  refine (plain_of_vcs ⟨[szInstC], []⟩ hmx Tryd.func21 rfl (by kernel_rfl) (args := [.slice o xs.length cap, .int .i64 left]) (by simp [Tryd.ntmps21]) w (· = .int .i64 (szS xs left)) 400 ?_).mono fun e w' ⟨v, h1, h2, h3⟩ => ⟨h2 ▸ h1, h3⟩
  obtain ⟨h, h1, h2, hl⟩ := hpre
  have e : IntKind.i64.wrap (left - xs.length) = left - xs.length := wrap_i64 (by omega) (by omega)
  by_cases hs : left < xs.length
  · have hs1 : left - (xs.length : Int) < 0 := by omega
    simp (maxSteps := 4000000) -dsimp [-Y1, -Array.all_eq_true, -Y3, -Y4, and_assoc, Y5, Tryd.f21, szInstC, e, hs1, szS, hs]
  · have hs1 : ¬ left - (xs.length : Int) < 0 := by omega
    simp (maxSteps := 4000000) -dsimp [-Y1, -Array.all_eq_true, -Y3, -Y4, and_assoc, Y5, Tryd.f21, szInstC, e, hs1]
    refine loop_inv (σ := ⟨[szInstC], []⟩) hmx (by kernel_rfl) (fun q cx tm mem => cx = ⟨w, [], w, []⟩ ∧ mem = [] ∧ ∃ (i : Nat) (cur : Int), i ≤ xs.length ∧ q = xs.length - i ∧ 0 ≤ cur ∧ cur ≤ 1048576 ∧ szS xs left = szL (xs.drop i) cur ∧ Sx.look tm 5 = .v (.int .i64 i) ∧ Sx.look tm 1 = .v (.int .i64 cur) ∧ Sx.look tm 0 = .v (.slice o xs.length cap))
      xs.length ⟨rfl, rfl, 0, left - xs.length, by omega, rfl, by omega, by omega, by unfold szS; rw [if_neg hs]; rfl, by simp [Sx.look], by simp [Sx.look], by simp [Sx.look]⟩ ?_
    rintro q cx tm mem ⟨rfl, rfl, i, cur, hi, rfl, hc1, hc2, hz, h5, hh1, h0⟩
    refine ⟨300, ?_⟩
    by_cases hlt : i < xs.length
    · obtain ⟨x, hx⟩ : ∃ x, xs[i]? = some x := ⟨xs[i], by simp [hlt]⟩
      obtain ⟨o', cap', hat⟩ := h.at hx
      have hle := hat.le
      have hle1 : x.args.length ≤ 9223372036854775807 := by have := hle.1; have := hle.2; unfold maxLen at this; omega
      rw [szL_drop hx] at hz
      by_cases hneg : cur < x.args.length
      · rw [if_pos hneg] at hz
        simp (maxSteps := 4000000) -dsimp [-Y1, -Array.all_eq_true, -Y3, -Y4, and_assoc, Y5, Tryd.f21, szInstC, h5, hh1, h0, hlt, h.there hlt, hat.all, hc1, hc2, hle1, hneg, hz]
      · rw [if_neg hneg] at hz
        have hn1 : ¬ cur - (x.args.length : Int) < 0 := by omega
        simp (maxSteps := 4000000) -dsimp [-Y1, -Array.all_eq_true, -Y3, -Y4, and_assoc, Y5, Tryd.f21, szInstC, h5, hh1, h0, hlt, h.there hlt, hat.all, hc1, hc2, hle1, hneg, hn1, i_succ (i := i) (by omega)]
        intro _
        exact ⟨_, by omega, i + 1, by omega, rfl, _, by omega, by omega, hz, by omega, rfl⟩
    · obtain rfl : i = xs.length := by omega
      rw [List.drop_length, szL] at hz
      simp (maxSteps := 4000000) -dsimp [-Y1, -Array.all_eq_true, -Y3, -Y4, and_assoc, Y5, Tryd.f21, szInstC, h5, hh1, h0, hz]
def szInstSC_S : Reads Tryd.prog 21 where
  ι := ((Option Addr) × (Nat) × (List Ins) × (Int))
  A := fun (i : ((Option Addr) × (Nat) × (List Ins) × (Int))) => match i with | (o, cap, xs, left) => [.slice o xs.length cap, .int .i64 left]
  pre := fun (i : ((Option Addr) × (Nat) × (List Ins) × (Int))) (F : Facts) => match i with | (o, cap, xs, left) => RdN F o xs ∧ 0 ≤ left ∧ left ≤ 1048576 ∧ xs.length ≤ 9223372036854775807
  res := fun (i : ((Option Addr) × (Nat) × (List Ins) × (Int))) => match i with | (o, cap, xs, left) => .int .i64 (szS xs left)
  mono := by
    intro i F G hs h
    first | exact h | exact h.mono hs | exact ⟨h.1.mono hs, h.2⟩ | exact ⟨h.1.mono hs, h.2.1.mono hs, h.2.2⟩ | exact ⟨h.1.mono hs, h.2.1.mono hs⟩
  uniq := by
    rintro ⟨o, cap, xs, left⟩ ⟨o', cap', xs', left'⟩ F hA h h'
    simp at hA
    (try simp only [Int.natCast_inj] at hA)
    obtain rfl : xs = xs' := RdN.uniq h.1 h'.1 (by simp_all) (by simp_all)
    simp_all
  enter := Tryd.call21
  h := fun i w hp => szInstSC_c i.1 i.2.1 i.2.2.1 i.2.2.2 w (by rw [factF_init]; exact hp)
def szInstSC : Con Tryd.prog := Con.read szInstSC_S
theorem szInstSC_rw {o : Option Addr} {cap : Nat} {xs : List Ins} {left : Int} {d : Nat} {cx : Cx} {mem : List Blk} {K : C → Prop} (hpre : RdN (nowF cx mem) o xs ∧ 0 ≤ left ∧ left ≤ 1048576 ∧ xs.length ≤ 9223372036854775807) : ReadV d szInstSC_S cx [.v (.slice o xs.length cap), .v (.int .i64 left)] mem K = K (.v (.int .i64 (szS xs left))) := szInstSC_S.eq (o, cap, xs, left) rfl hpre
theorem toInstSC_c (o : Option Addr) (cap : Nat) (xs : List Ins) (w : World) (hpre : RdN (factF ⟨w, [], w, []⟩) o xs ∧ xs.length ≤ 1048576 ∧ (∀ x ∈ xs, x.args.length ≤ 1048576)) : Calls Tryd.prog 23 #[.slice o xs.length cap] w fun e w' => ∃ v, e = .returned v ∧ RowKit.Below w.heap.size w w' ∧ IsList (fun a => if w.heap.size ≤ a.block then w'.cell? a else none) v xs := by
  refine make_of_vcs ⟨[toInstC], []⟩ hmx Tryd.func23 rfl (by kernel_rfl) (args := [.slice o xs.length cap]) (by simp [Tryd.ntmps23]) w (fun v F => IsList F v xs) 400 ?_
  obtain ⟨h, hl, hx⟩ := hpre
  simp (maxSteps := 4000000) -dsimp [-Y1, -Array.all_eq_true, -Y3, -Y4, and_assoc, Y5, Tryd.f23, toInstC]
  refine ⟨by omega, by omega, fun b => ?_⟩
  refine loop_inv (σ := ⟨[toInstC], []⟩) hmx (by kernel_rfl) (fun q cx tm mem => Le ⟨w, [], w, []⟩ cx ∧ ∃ rs : List (List Value), q = xs.length - rs.length ∧ RdF (newF cx) rs xs ∧ mem = [⟨b, rowZ zI rs xs.length, 64⟩] ∧ Sx.look tm 4 = .v (.int .i64 rs.length) ∧ Sx.look tm 3 = .s 0 b 0 xs.length xs.length ∧ Sx.look tm 0 = .v (.slice o xs.length cap))
    xs.length ⟨Le.refl _, [], rfl, RdF.nil _ _, by rw [rowZ_nil]; simp [zI], by simp [Sx.look], by simp [Sx.look], by simp [Sx.look]⟩ ?_
  rintro q cx tm mem ⟨hle, rs, rfl, hrs, rfl, h4, h3, h0⟩
  refine ⟨300, ?_⟩
  have hc := h.mono hle.fact
  have e3 := len_rowZ (n := xs.length) zI_len hrs.len hrs.le
  by_cases hlt : rs.length < xs.length
  · obtain ⟨x, hxi⟩ : ∃ x, xs[rs.length]? = some x := ⟨xs[rs.length], by simp [hlt]⟩
    obtain ⟨o', cap', hat⟩ := hc.at hxi
    simp (maxSteps := 4000000) -dsimp [-Y1, -Array.all_eq_true, -Y3, -Y4, and_assoc, Y5, Tryd.f23, toInstC, h4, h3, h0, hlt, hc.there hlt, hat.all]
    refine ⟨(x.code, x.op, o', cap', x.args), rfl, ⟨hat.args.mono (sub_now _ _), hx x (List.mem_of_getElem? hxi)⟩, ?_⟩
    rintro cx1 v hle1 hv
    obtain ⟨o1, cap1, rfl, g1, g2, g3⟩ := hv.ex
    have e2 := rowZ_set (r := [.int .i64 x.code, .int .i64 x.op, .slice o1 x.args.length cap1]) zI_len hrs.len hlt rfl
    simp at e2
    simp (maxSteps := 4000000) -dsimp [-Y1, -Array.all_eq_true, -Y3, -Y4, and_assoc, Y5, Tryd.f23, toInstC, h4, h3, h0, hlt, e2, e3, i_succ (i := rs.length) (by omega)]
    exact ⟨by omega, 1, xs.length - (rs.length + 1), by omega, hle.trans hle1, rs ++ [_], by simp, (hrs.mono hle1.new).snoc hxi ⟨o1, cap1, rfl, g1, g2, g3⟩, rfl, by simp⟩
  · have : rs.length = xs.length := by have := hrs.le; omega
    simp (maxSteps := 4000000) -dsimp [-Y1, -Array.all_eq_true, -Y3, -Y4, and_assoc, Y5, Tryd.f23, toInstC, h4, h3, h0, hlt]
    refine ⟨hle.w0, hle.g0, fun w' hm => ⟨⟨_, _, rfl, ⟨rs, RdO.fin hle.w0 hle.g0 hm (k := 0) rfl hrs.len ?_, this, fun j r x hr hx => (hrs.at' j r x hr hx).mono ?_⟩, Nat.le_refl _, by unfold maxLen; omega⟩⟩⟩
    · rw [rowZ_end this.symm, map_den_v, List.drop_zero, List.take_of_length_le (by rw [len_flat hrs.len]; omega)]
    · exact sub_end hle.w0 hm
def toInstSC_S : Makes Tryd.prog 23 where
  ι := ((Option Addr) × (Nat) × (List Ins))
  A := fun (i : ((Option Addr) × (Nat) × (List Ins))) => match i with | (o, cap, xs) => [.slice o xs.length cap]
  pre := fun (i : ((Option Addr) × (Nat) × (List Ins))) (F : Facts) => match i with | (o, cap, xs) => RdN F o xs ∧ xs.length ≤ 1048576 ∧ (∀ x ∈ xs, x.args.length ≤ 1048576)
  post := fun (i : ((Option Addr) × (Nat) × (List Ins))) (v : Value) (F : Facts) => match i with | (o, cap, xs) => IsList F v xs
  mono := by
    intro i F G hs h
    first | exact h | exact h.mono hs | exact ⟨h.1.mono hs, h.2⟩ | exact ⟨h.1.mono hs, h.2.1.mono hs, h.2.2⟩ | exact ⟨h.1.mono hs, h.2.1.mono hs⟩
  monoP := fun i v F G hs h => h.mono hs
  enter := Tryd.call23
  h := fun i w hp => toInstSC_c i.1 i.2.1 i.2.2 w (by rw [factF_init]; exact hp)
def toInstSC : Con Tryd.prog := Con.make toInstSC_S
theorem eqInstSC_c (o : Option Addr) (cap : Nat) (xs : List Ins) (o2 : Option Addr) (cap2 : Nat) (w : World) (hpre : RdN (factF ⟨w, [], w, []⟩) o xs ∧ RdN (factF ⟨w, [], w, []⟩) o2 xs ∧ xs.length ≤ 1048576 ∧ (∀ x ∈ xs, x.args.length ≤ 1048576)) : Calls Tryd.prog 25 #[.slice o xs.length cap, .slice o2 xs.length cap2] w fun e w' => e = .returned (.bool true) ∧ RowKit.Below w.heap.size w w' := by
  refine (plain_of_vcs ⟨[eqInstC], []⟩ hmx Tryd.func25 rfl (by kernel_rfl) (args := [.slice o xs.length cap, .slice o2 xs.length cap2]) (by simp [Tryd.ntmps25]) w (· = .bool true) 400 ?_).mono fun e w' ⟨v, h1, h2, h3⟩ => ⟨h2 ▸ h1, h3⟩
  obtain ⟨h, g, hl, hxa⟩ := hpre
  simp (maxSteps := 4000000) -dsimp [-Y1, -Array.all_eq_true, -Y3, -Y4, and_assoc, Y5, Tryd.f25, eqInstC]
  refine loop_inv (σ := ⟨[eqInstC], []⟩) hmx (by kernel_rfl) (fun q cx tm mem => cx = ⟨w, [], w, []⟩ ∧ mem = [] ∧ ∃ i : Nat, i ≤ xs.length ∧ q = xs.length - i ∧ Sx.look tm 5 = .v (.int .i64 i) ∧ Sx.look tm 0 = .v (.slice o xs.length cap) ∧ Sx.look tm 1 = .v (.slice o2 xs.length cap2))
    xs.length ⟨rfl, rfl, 0, by omega, rfl, by simp [Sx.look], by simp [Sx.look], by simp [Sx.look]⟩ ?_
  rintro q cx tm mem ⟨rfl, rfl, i, hi, rfl, h5, h0, h1⟩
  refine ⟨300, ?_⟩
  by_cases hlt : i < xs.length
  · obtain ⟨x, hx⟩ : ∃ x, xs[i]? = some x := ⟨xs[i], by simp [hlt]⟩
    obtain ⟨o', cap', hat⟩ := h.at hx
    obtain ⟨o2', cap2', gat⟩ := g.at hx
    simp (maxSteps := 4000000) -dsimp [-Y1, -Array.all_eq_true, -Y3, -Y4, and_assoc, Y5, Tryd.f25, eqInstC, h5, h0, h1, hlt, h.there hlt, g.there hlt, hat.all, gat.all]
    refine (eqInstC_rw ⟨hat.args.mono (sub_now _ _), gat.args.mono (sub_now _ _), hxa x (List.mem_of_getElem? hx)⟩).mpr ?_
    simp (maxSteps := 4000000) -dsimp [-Y1, -Array.all_eq_true, -Y3, -Y4, and_assoc, Y5, Tryd.f25, eqInstC, h5, h0, h1, i_succ (i := i) (by omega)]
    exact ⟨_, by omega, i + 1, by omega, rfl, by omega⟩
  · obtain rfl : i = xs.length := by omega
    simp (maxSteps := 4000000) -dsimp [-Y1, -Array.all_eq_true, -Y3, -Y4, and_assoc, Y5, Tryd.f25, eqInstC, h5, h0, h1]
def eqInstSC_S : Reads Tryd.prog 25 where
  ι := ((Option Addr) × (Nat) × (List Ins) × (Option Addr) × (Nat))
  A := fun (i : ((Option Addr) × (Nat) × (List Ins) × (Option Addr) × (Nat))) => match i with | (o, cap, xs, o2, cap2) => [.slice o xs.length cap, .slice o2 xs.length cap2]
  pre := fun (i : ((Option Addr) × (Nat) × (List Ins) × (Option Addr) × (Nat))) (F : Facts) => match i with | (o, cap, xs, o2, cap2) => RdN F o xs ∧ RdN F o2 xs ∧ xs.length ≤ 1048576 ∧ (∀ x ∈ xs, x.args.length ≤ 1048576)
  res := fun (i : ((Option Addr) × (Nat) × (List Ins) × (Option Addr) × (Nat))) => match i with | (o, cap, xs, o2, cap2) => .bool true
  mono := by
    intro i F G hs h
    first | exact h | exact h.mono hs | exact ⟨h.1.mono hs, h.2⟩ | exact ⟨h.1.mono hs, h.2.1.mono hs, h.2.2⟩ | exact ⟨h.1.mono hs, h.2.1.mono hs⟩
  uniq := by
    rintro ⟨o, cap, xs, o2, cap2⟩ ⟨o', cap', xs', o2', cap2'⟩ F hA h h'
    simp at hA
    (try simp only [Int.natCast_inj] at hA)
    obtain rfl : xs = xs' := RdN.uniq h.1 h'.1 (by simp_all) (by simp_all)
    simp_all
  enter := Tryd.call25
  h := fun i w hp => eqInstSC_c i.1 i.2.1 i.2.2.1 i.2.2.2.1 i.2.2.2.2 w (by rw [factF_init]; exact hp)
def eqInstSC : Con Tryd.prog := Con.read eqInstSC_S
theorem eqInstSC_rw {o : Option Addr} {cap : Nat} {xs : List Ins} {o2 : Option Addr} {cap2 : Nat} {d : Nat} {cx : Cx} {mem : List Blk} {K : C → Prop} (hpre : RdN (nowF cx mem) o xs ∧ RdN (nowF cx mem) o2 xs ∧ xs.length ≤ 1048576 ∧ (∀ x ∈ xs, x.args.length ≤ 1048576)) : ReadV d eqInstSC_S cx [.v (.slice o xs.length cap), .v (.slice o2 xs.length cap2)] mem K = K (.v (.bool true)) := eqInstSC_S.eq (o, cap, xs, o2, cap2) rfl hpre
end Go.Proofs.YtmlmmaojomghdaaDoor
