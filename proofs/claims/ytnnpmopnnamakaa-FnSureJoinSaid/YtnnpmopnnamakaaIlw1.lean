/-
  Contracts: two lists of instructions are compared.
-/
import Derived.Test.YtnnpmopnnamakaaIw1
import Derived.Test.YtnnpmopnnamakaaInw1
set_option linter.unusedVariables false
set_option linter.unusedSimpArgs false
set_option maxRecDepth 100000
set_option maxHeartbeats 4000000
namespace Go.Proofs.Ytnnpmopnnamakaa
open Go Go.Sx
open List renaming all_eq_true → Y1, zipIdx → Y5
open Bool renaming exists_bool → Y3, forall_bool → Y4
attribute [local simp] Sx.vcsE1 Sx.vcsE2 Sx.vcsE3 Sx.vcsE4 Sx.vcsE5 Sx.vcsE6 Sx.vcsE7 Sx.vcsE8 Sx.vcsE9 Sx.vcsE10 Sx.vcsE11 Sx.vcsE12 Sx.vcsE13 Sx.vcsE14 Sx.vcsE15 Sx.vcsE16 Sx.vcsE17 Sx.vcsE18 Sx.vcsE19 Sx.get Sx.look Sx.put Sx.pureFn Sx.findOrd Sx.unF Sx.dstOk Sx.isFloatT Sx.endVC Sx.resFn Sx.packC Sx.newFn Sx.storeFn Sx.buildFn Sx.known Sx.aggT Sx.cellsC Sx.findCon Sx.allV Sx.partsV Sx.partsC Sx.fillL Sx.exitTo Sx.fAr Sx.eqFn Sx.eqFieldsFn Sx.eqElemsFn Sx.partFn Sx.sliceFn Sx.boundFn Sx.AppV Sx.CopyV Sx.MakeSliceV Sx.NewsV Sx.GrowV Sx.TextV Sx.bytesL Sx.notInt Sx.typeAt Sx.argAt Sx.den Go.undef Go.Value.cells Go.Value.oneCell' Sx.Con.pure Sx.Con.some Sx.Con.read Sx.Con.make Sx.Con.ext Sx.Con.rel Sx.Con.extS Sx.Con.draw Sx.Con.step Sx.C.one Sx.Draws.steps

theorem szInstC_c (code op : Int) (o : Option Addr) (n cap : Nat) (left : Int) (hpre : 0 ≤ left ∧ left ≤ 1048576 ∧ n ≤ 9223372036854775807) (w : World) : Calls Try.prog 18 #[.agg #[.int .i64 code, .int .i64 op, .slice o n cap], .int .i64 left] w fun e w' => e = .returned (.int .i64 (if left < n then -1 else left - n)) ∧ RowKit.Below w.heap.size w w' := by
  refine (plain_of_vcs ⟨[szElemC], []⟩ hmx Try.func18 rfl (by kernel_rfl) (args := [.agg #[.int .i64 code, .int .i64 op, .slice o n cap], .int .i64 left]) (by simp [Try.ntmps18]) w (· = .int .i64 (if left < n then -1 else left - n)) 400 ?_).mono fun e w' ⟨v, h1, h2, h3⟩ => ⟨h2 ▸ h1, h3⟩
  simp (maxSteps := 4000000) -dsimp [-Y1, -Array.all_eq_true, -Y3, -Y4, and_assoc, Y5, Try.f18, szElemC, hpre]
  intro h h'
  split at h <;> omega
def szInstC : Con Try.prog := Con.pure 18 Try.call18 (fun (i : ((Int) × (Int) × (Option Addr) × (Nat) × (Nat) × (Int))) => match i with | (code, op, o, n, cap, left) => [.agg #[.int .i64 code, .int .i64 op, .slice o n cap], .int .i64 left]) (fun (i : ((Int) × (Int) × (Option Addr) × (Nat) × (Nat) × (Int))) => match i with | (code, op, o, n, cap, left) => 0 ≤ left ∧ left ≤ 1048576 ∧ n ≤ 9223372036854775807) (fun (i : ((Int) × (Int) × (Option Addr) × (Nat) × (Nat) × (Int))) => match i with | (code, op, o, n, cap, left) => .int .i64 (if left < n then -1 else left - n)) fun i w hp => szInstC_c i.1 i.2.1 i.2.2.1 i.2.2.2.1 i.2.2.2.2.1 i.2.2.2.2.2 hp w
theorem eqInstC_c (code op : Int) (o : Option Addr) (cap : Nat) (xs : List Dev) (o2 : Option Addr) (cap2 : Nat) (w : World) (hpre : RdD (factF ⟨w, [], w, []⟩) o xs ∧ RdD (factF ⟨w, [], w, []⟩) o2 xs ∧ xs.length ≤ 1048576) : Calls Try.prog 22 #[.agg #[.int .i64 code, .int .i64 op, .slice o xs.length cap], .agg #[.int .i64 code, .int .i64 op, .slice o2 xs.length cap2]] w fun e w' => e = .returned (.bool true) ∧ RowKit.Below w.heap.size w w' := by
  refine (plain_of_vcs ⟨[eqElemC], []⟩ hmx Try.func22 rfl (by kernel_rfl) (args := [.agg #[.int .i64 code, .int .i64 op, .slice o xs.length cap], .agg #[.int .i64 code, .int .i64 op, .slice o2 xs.length cap2]]) (by simp [Try.ntmps22]) w (· = .bool true) 400 ?_).mono fun e w' ⟨v, h1, h2, h3⟩ => ⟨h2 ▸ h1, h3⟩
  obtain ⟨h, g, hl⟩ := hpre
  simp (maxSteps := 4000000) -dsimp [-Y1, -Array.all_eq_true, -Y3, -Y4, and_assoc, Y5, Try.f22, eqElemC]
  intro b b1
  refine (eqElemC_rw ⟨h.mono (sub_now _ _), g.mono (sub_now _ _), hl⟩).mpr ?_
  simp (maxSteps := 4000000) -dsimp [-Y1, -Array.all_eq_true, -Y3, -Y4, and_assoc, Y5, Try.f22, eqElemC]
def eqInstC_S : Reads Try.prog 22 where
  ι := ((Int) × (Int) × (Option Addr) × (Nat) × (List Dev) × (Option Addr) × (Nat))
  A := fun (i : ((Int) × (Int) × (Option Addr) × (Nat) × (List Dev) × (Option Addr) × (Nat))) => match i with | (code, op, o, cap, xs, o2, cap2) => [.agg #[.int .i64 code, .int .i64 op, .slice o xs.length cap], .agg #[.int .i64 code, .int .i64 op, .slice o2 xs.length cap2]]
  pre := fun (i : ((Int) × (Int) × (Option Addr) × (Nat) × (List Dev) × (Option Addr) × (Nat))) (F : Facts) => match i with | (code, op, o, cap, xs, o2, cap2) => RdD F o xs ∧ RdD F o2 xs ∧ xs.length ≤ 1048576
  res := fun (i : ((Int) × (Int) × (Option Addr) × (Nat) × (List Dev) × (Option Addr) × (Nat))) => match i with | (code, op, o, cap, xs, o2, cap2) => .bool true
  mono := by
    intro i F G hs h
    first | exact h | exact h.mono hs | exact ⟨h.1.mono hs, h.2⟩ | exact ⟨h.1.mono hs, h.2.1.mono hs, h.2.2⟩ | exact ⟨h.1.mono hs, h.2.1.mono hs⟩ | exact ⟨h.1.mono hs, h.2.1.mono hs, h.2.2.1.mono hs, h.2.2.2⟩
  uniq := by
    rintro ⟨code, op, o, cap, xs, o2, cap2⟩ ⟨code', op', o', cap', xs', o2', cap2'⟩ F hA h h'
    simp at hA
    (try simp only [Int.natCast_inj] at hA)
    obtain rfl : xs = xs' := RdD.uniq h.1 h'.1 (by simp_all) (by simp_all)
    simp_all
  enter := Try.call22
  h := fun i w hp => eqInstC_c i.1 i.2.1 i.2.2.1 i.2.2.2.1 i.2.2.2.2.1 i.2.2.2.2.2.1 i.2.2.2.2.2.2 w (by rw [factF_init]; exact hp)
def eqInstC : Con Try.prog := Con.read eqInstC_S
theorem eqInstC_rw {code op : Int} {o : Option Addr} {cap : Nat} {xs : List Dev} {o2 : Option Addr} {cap2 : Nat} {d : Nat} {cx : Cx} {mem : List Blk} {K : C → Prop} (hpre : RdD (nowF cx mem) o xs ∧ RdD (nowF cx mem) o2 xs ∧ xs.length ≤ 1048576) : ReadV d eqInstC_S cx [.v (.agg #[.int .i64 code, .int .i64 op, .slice o xs.length cap]), .v (.agg #[.int .i64 code, .int .i64 op, .slice o2 xs.length cap2])] mem K = K (.v (.bool true)) := eqInstC_S.eq (code, op, o, cap, xs, o2, cap2) rfl hpre

theorem szInstSC_c (o : Option Addr) (cap : Nat) (xs : List Ins) (left : Int) (w : World) (hpre : RdN (factF ⟨w, [], w, []⟩) o xs ∧ 0 ≤ left ∧ left ≤ 1048576 ∧ xs.length ≤ 9223372036854775807) : Calls Try.prog 5 #[.slice o xs.length cap, .int .i64 left] w fun e w' => e = .returned (.int .i64 (szS xs left)) ∧ RowKit.Below w.heap.size w w' := by
  refine (plain_of_vcs ⟨[szInstC], []⟩ hmx Try.func5 rfl (by kernel_rfl) (args := [.slice o xs.length cap, .int .i64 left]) (by simp [Try.ntmps5]) w (· = .int .i64 (szS xs left)) 400 ?_).mono fun e w' ⟨v, h1, h2, h3⟩ => ⟨h2 ▸ h1, h3⟩
  obtain ⟨h, h1, h2, hl⟩ := hpre
  have e : IntKind.i64.wrap (left - xs.length) = left - xs.length := wrap_i64 (by omega) (by omega)
  by_cases hs : left < xs.length
  · have hs1 : left - (xs.length : Int) < 0 := by omega
    simp (maxSteps := 4000000) -dsimp [-Y1, -Array.all_eq_true, -Y3, -Y4, and_assoc, Y5, Try.f5, szInstC, e, hs1, szS, hs]
  · have hs1 : ¬ left - (xs.length : Int) < 0 := by omega
    simp (maxSteps := 4000000) -dsimp [-Y1, -Array.all_eq_true, -Y3, -Y4, and_assoc, Y5, Try.f5, szInstC, e, hs1]
    refine loop_inv (σ := ⟨[szInstC], []⟩) hmx (by kernel_rfl) (fun q cx tm mem => cx = ⟨w, [], w, []⟩ ∧ mem = [] ∧ ∃ (i : Nat) (cur : Int), i ≤ xs.length ∧ q = xs.length - i ∧ 0 ≤ cur ∧ cur ≤ 1048576 ∧ szS xs left = szL (xs.drop i) cur ∧ Sx.look tm 5 = .v (.int .i64 i) ∧ Sx.look tm 1 = .v (.int .i64 cur) ∧ Sx.look tm 0 = .v (.slice o xs.length cap))
      xs.length ⟨rfl, rfl, 0, left - xs.length, by omega, rfl, by omega, by omega, by unfold szS; rw [if_neg hs]; rfl, by simp [Sx.look], by simp [Sx.look], by simp [Sx.look]⟩ ?_
    rintro q cx tm mem ⟨rfl, rfl, i, cur, hi, rfl, hc1, hc2, hz, h5, hh1, h0⟩
    refine ⟨300, ?_⟩
    by_cases hlt : i < xs.length
    · obtain ⟨x, hx⟩ : ∃ x, xs[i]? = some x := ⟨xs[i], by simp [hlt]⟩
      obtain ⟨o', cap', hat⟩ := h.at hx
      have hle := hat.le
      have hle1 : x.args.length ≤ 9223372036854775807 := by have := hle.1; have := hle.2; unfold maxLen at this; omega
      rw [szL_drop hx] at hz
      by_cases hneg : cur < x.args.length
      · rw [if_pos hneg] at hz
        simp (maxSteps := 4000000) -dsimp [-Y1, -Array.all_eq_true, -Y3, -Y4, and_assoc, Y5, Try.f5, szInstC, h5, hh1, h0, hlt, h.there hlt, hat.all, hc1, hc2, hle1, hneg, hz]
      · rw [if_neg hneg] at hz
        have hn1 : ¬ cur - (x.args.length : Int) < 0 := by omega
        simp (maxSteps := 4000000) -dsimp [-Y1, -Array.all_eq_true, -Y3, -Y4, and_assoc, Y5, Try.f5, szInstC, h5, hh1, h0, hlt, h.there hlt, hat.all, hc1, hc2, hle1, hneg, hn1, i_succ (i := i) (by omega)]
        intro _
        exact ⟨_, by omega, i + 1, by omega, rfl, _, by omega, by omega, hz, by omega, rfl⟩
    · obtain rfl : i = xs.length := by omega
      rw [List.drop_length, szL] at hz
      simp (maxSteps := 4000000) -dsimp [-Y1, -Array.all_eq_true, -Y3, -Y4, and_assoc, Y5, Try.f5, szInstC, h5, hh1, h0, hz]
def szInstSC_S : Reads Try.prog 5 where
  ι := ((Option Addr) × (Nat) × (List Ins) × (Int))
  A := fun (i : ((Option Addr) × (Nat) × (List Ins) × (Int))) => match i with | (o, cap, xs, left) => [.slice o xs.length cap, .int .i64 left]
  pre := fun (i : ((Option Addr) × (Nat) × (List Ins) × (Int))) (F : Facts) => match i with | (o, cap, xs, left) => RdN F o xs ∧ 0 ≤ left ∧ left ≤ 1048576 ∧ xs.length ≤ 9223372036854775807
  res := fun (i : ((Option Addr) × (Nat) × (List Ins) × (Int))) => match i with | (o, cap, xs, left) => .int .i64 (szS xs left)
  mono := by
    intro i F G hs h
    first | exact h | exact h.mono hs | exact ⟨h.1.mono hs, h.2⟩ | exact ⟨h.1.mono hs, h.2.1.mono hs, h.2.2⟩ | exact ⟨h.1.mono hs, h.2.1.mono hs⟩ | exact ⟨h.1.mono hs, h.2.1.mono hs, h.2.2.1.mono hs, h.2.2.2⟩
  uniq := by
    rintro ⟨o, cap, xs, left⟩ ⟨o', cap', xs', left'⟩ F hA h h'
    simp at hA
    (try simp only [Int.natCast_inj] at hA)
    obtain rfl : xs = xs' := RdN.uniq h.1 h'.1 (by simp_all) (by simp_all)
    simp_all
  enter := Try.call5
  h := fun i w hp => szInstSC_c i.1 i.2.1 i.2.2.1 i.2.2.2 w (by rw [factF_init]; exact hp)
def szInstSC : Con Try.prog := Con.read szInstSC_S
theorem szInstSC_rw {o : Option Addr} {cap : Nat} {xs : List Ins} {left : Int} {d : Nat} {cx : Cx} {mem : List Blk} {K : C → Prop} (hpre : RdN (nowF cx mem) o xs ∧ 0 ≤ left ∧ left ≤ 1048576 ∧ xs.length ≤ 9223372036854775807) : ReadV d szInstSC_S cx [.v (.slice o xs.length cap), .v (.int .i64 left)] mem K = K (.v (.int .i64 (szS xs left))) := szInstSC_S.eq (o, cap, xs, left) rfl hpre
theorem eqInstSC_c (o : Option Addr) (cap : Nat) (xs : List Ins) (o2 : Option Addr) (cap2 : Nat) (w : World) (hpre : RdN (factF ⟨w, [], w, []⟩) o xs ∧ RdN (factF ⟨w, [], w, []⟩) o2 xs ∧ xs.length ≤ 1048576 ∧ (∀ x ∈ xs, x.args.length ≤ 1048576)) : Calls Try.prog 10 #[.slice o xs.length cap, .slice o2 xs.length cap2] w fun e w' => e = .returned (.bool true) ∧ RowKit.Below w.heap.size w w' := by
  refine (plain_of_vcs ⟨[eqInstC], []⟩ hmx Try.func10 rfl (by kernel_rfl) (args := [.slice o xs.length cap, .slice o2 xs.length cap2]) (by simp [Try.ntmps10]) w (· = .bool true) 400 ?_).mono fun e w' ⟨v, h1, h2, h3⟩ => ⟨h2 ▸ h1, h3⟩
  obtain ⟨h, g, hl, hxa⟩ := hpre
  simp (maxSteps := 4000000) -dsimp [-Y1, -Array.all_eq_true, -Y3, -Y4, and_assoc, Y5, Try.f10, eqInstC]
  refine loop_inv (σ := ⟨[eqInstC], []⟩) hmx (by kernel_rfl) (fun q cx tm mem => cx = ⟨w, [], w, []⟩ ∧ mem = [] ∧ ∃ i : Nat, i ≤ xs.length ∧ q = xs.length - i ∧ Sx.look tm 5 = .v (.int .i64 i) ∧ Sx.look tm 0 = .v (.slice o xs.length cap) ∧ Sx.look tm 1 = .v (.slice o2 xs.length cap2))
    xs.length ⟨rfl, rfl, 0, by omega, rfl, by simp [Sx.look], by simp [Sx.look], by simp [Sx.look]⟩ ?_
  rintro q cx tm mem ⟨rfl, rfl, i, hi, rfl, h5, h0, h1⟩
  refine ⟨300, ?_⟩
  by_cases hlt : i < xs.length
  · obtain ⟨x, hx⟩ : ∃ x, xs[i]? = some x := ⟨xs[i], by simp [hlt]⟩
    obtain ⟨o', cap', hat⟩ := h.at hx
    obtain ⟨o2', cap2', gat⟩ := g.at hx
    simp (maxSteps := 4000000) -dsimp [-Y1, -Array.all_eq_true, -Y3, -Y4, and_assoc, Y5, Try.f10, eqInstC, h5, h0, h1, hlt, h.there hlt, g.there hlt, hat.all, gat.all]
    refine (eqInstC_rw ⟨hat.args.mono (sub_now _ _), gat.args.mono (sub_now _ _), hxa x (List.mem_of_getElem? hx)⟩).mpr ?_
    simp (maxSteps := 4000000) -dsimp [-Y1, -Array.all_eq_true, -Y3, -Y4, and_assoc, Y5, Try.f10, eqInstC, h5, h0, h1, i_succ (i := i) (by omega)]
    exact ⟨_, by omega, i + 1, by omega, rfl, by omega⟩
  · obtain rfl : i = xs.length := by omega
    simp (maxSteps := 4000000) -dsimp [-Y1, -Array.all_eq_true, -Y3, -Y4, and_assoc, Y5, Try.f10, eqInstC, h5, h0, h1]
def eqInstSC_S : Reads Try.prog 10 where
  ι := ((Option Addr) × (Nat) × (List Ins) × (Option Addr) × (Nat))
  A := fun (i : ((Option Addr) × (Nat) × (List Ins) × (Option Addr) × (Nat))) => match i with | (o, cap, xs, o2, cap2) => [.slice o xs.length cap, .slice o2 xs.length cap2]
  pre := fun (i : ((Option Addr) × (Nat) × (List Ins) × (Option Addr) × (Nat))) (F : Facts) => match i with | (o, cap, xs, o2, cap2) => RdN F o xs ∧ RdN F o2 xs ∧ xs.length ≤ 1048576 ∧ (∀ x ∈ xs, x.args.length ≤ 1048576)
  res := fun (i : ((Option Addr) × (Nat) × (List Ins) × (Option Addr) × (Nat))) => match i with | (o, cap, xs, o2, cap2) => .bool true
  mono := by
    intro i F G hs h
    first | exact h | exact h.mono hs | exact ⟨h.1.mono hs, h.2⟩ | exact ⟨h.1.mono hs, h.2.1.mono hs, h.2.2⟩ | exact ⟨h.1.mono hs, h.2.1.mono hs⟩ | exact ⟨h.1.mono hs, h.2.1.mono hs, h.2.2.1.mono hs, h.2.2.2⟩
  uniq := by
    rintro ⟨o, cap, xs, o2, cap2⟩ ⟨o', cap', xs', o2', cap2'⟩ F hA h h'
    simp at hA
    (try simp only [Int.natCast_inj] at hA)
    obtain rfl : xs = xs' := RdN.uniq h.1 h'.1 (by simp_all) (by simp_all)
    simp_all
  enter := Try.call10
  h := fun i w hp => eqInstSC_c i.1 i.2.1 i.2.2.1 i.2.2.2.1 i.2.2.2.2 w (by rw [factF_init]; exact hp)
def eqInstSC : Con Try.prog := Con.read eqInstSC_S
theorem eqInstSC_rw {o : Option Addr} {cap : Nat} {xs : List Ins} {o2 : Option Addr} {cap2 : Nat} {d : Nat} {cx : Cx} {mem : List Blk} {K : C → Prop} (hpre : RdN (nowF cx mem) o xs ∧ RdN (nowF cx mem) o2 xs ∧ xs.length ≤ 1048576 ∧ (∀ x ∈ xs, x.args.length ≤ 1048576)) : ReadV d eqInstSC_S cx [.v (.slice o xs.length cap), .v (.slice o2 xs.length cap2)] mem K = K (.v (.bool true)) := eqInstSC_S.eq (o, cap, xs, o2, cap2) rfl hpre

theorem take_more {α : Type} {xs ys : List α} {i : Nat} {x : α} (h : xs.take i = ys.take i) (hx : xs[i]? = some x) (hy : ys[i]? = some x) : xs.take (i + 1) = ys.take (i + 1) := by
  rw [List.take_add_one, List.take_add_one, h, hx, hy]
theorem take_all {α : Type} {xs ys : List α} (h : xs.take xs.length = ys.take xs.length) (hl : xs.length = ys.length) : xs = ys := by
  rw [List.take_length, hl, List.take_length] at h; exact h
theorem get_ne {α : Type} {xs ys : List α} {i : Nat} {x y : α} (hx : xs[i]? = some x) (hy : ys[i]? = some y) (h : x ≠ y) : ¬ xs = ys := fun e => by
  subst e; rw [hx] at hy; exact h (Option.some.inj hy)
theorem len_ne {α : Type} {xs ys : List α} (h : xs.length ≠ ys.length) : ¬ xs = ys := fun e => h (by rw [e])

theorem equalDevC_c (o : Option Addr) (cap : Nat) (xs : List Dev) (o2 : Option Addr) (cap2 : Nat) (ys : List Dev) (w : World) (hpre : RdD (factF ⟨w, [], w, []⟩) o xs ∧ RdD (factF ⟨w, [], w, []⟩) o2 ys ∧ xs.length ≤ 1048576 ∧ ys.length ≤ 1048576) : Calls Try.prog 47 #[.slice o xs.length cap, .slice o2 ys.length cap2] w fun e w' => e = .returned (.bool (decide (xs = ys))) ∧ RowKit.Below w.heap.size w w' := by
  refine (plain_of_vcs ⟨[], []⟩ hmx Try.func47 rfl (by kernel_rfl) (args := [.slice o xs.length cap, .slice o2 ys.length cap2]) (by simp [Try.ntmps47]) w (· = .bool (decide (xs = ys))) 400 ?_).mono fun e w' ⟨v, h1, h2, h3⟩ => ⟨h2 ▸ h1, h3⟩
  obtain ⟨h, g, hl, hl2⟩ := hpre
  by_cases hlen : xs.length = ys.length
  · have hlen' : (xs.length : Int) = ys.length := by omega
    simp (maxSteps := 4000000) -dsimp [-Y1, -Array.all_eq_true, -Y3, -Y4, and_assoc, Y5, Try.f47, hlen']
    refine loop_inv (σ := ⟨[], []⟩) hmx (by kernel_rfl) (fun q cx tm mem => cx = ⟨w, [], w, []⟩ ∧ mem = [] ∧ ∃ i : Nat, i ≤ xs.length ∧ q = xs.length - i ∧ xs.take i = ys.take i ∧ Sx.look tm 13 = .v (.int .i64 i) ∧ Sx.look tm 12 = .v (.int .i64 xs.length) ∧ Sx.look tm 0 = .v (.slice o xs.length cap) ∧ Sx.look tm 1 = .v (.slice o2 ys.length cap2))
      xs.length ⟨rfl, rfl, 0, by omega, rfl, rfl, by simp [Sx.look], by simp [Sx.look, hlen'], by simp [Sx.look], by simp [Sx.look]⟩ ?_
    rintro q cx tm mem ⟨rfl, rfl, i, hi, rfl, ht, h13, h12, h0, h1⟩
    refine ⟨300, ?_⟩
    by_cases hlt : i < xs.length
    · have hlt2 : i < ys.length := by omega
      obtain ⟨x, hx⟩ : ∃ x, xs[i]? = some x := ⟨xs[i], by simp [hlt]⟩
      obtain ⟨y, hy⟩ : ∃ y, ys[i]? = some y := ⟨ys[i], by simp [hlt2]⟩
      by_cases hxy : x = y
      · subst hxy
        simp (maxSteps := 4000000) -dsimp [-Y1, -Array.all_eq_true, -Y3, -Y4, and_assoc, Y5, Try.f47, h13, h12, h0, h1, hlt, hlt2, h.there hlt, g.there hlt2, h.ld _ _ hx, g.ld _ _ hy, i_succ (i := i) (by omega)]
        exact ⟨_, by omega, i + 1, by omega, rfl, take_more ht hx hy, by omega⟩
      · have hne := get_ne hx hy hxy
        have hd : ¬ (x.k = y.k ∧ x.n = y.n ∧ x.p = y.p) := fun ⟨a, b, c⟩ => hxy (by cases x; cases y; simp_all)
        simp (maxSteps := 4000000) -dsimp [-Y1, -Array.all_eq_true, -Y3, -Y4, and_assoc, Y5, Try.f47, h13, h12, h0, h1, hlt, hlt2, h.there hlt, g.there hlt2, h.ld _ _ hx, g.ld _ _ hy, i_succ (i := i) (by omega), hne]
        omega
    · obtain rfl : i = xs.length := by omega
      have := take_all ht hlen
      simp (maxSteps := 4000000) -dsimp [-Y1, -Array.all_eq_true, -Y3, -Y4, and_assoc, Y5, Try.f47, h13, h12, h0, h1, this]
  · have hlen' : ¬ (xs.length : Int) = ys.length := by omega
    have := len_ne hlen
    simp (maxSteps := 4000000) -dsimp [-Y1, -Array.all_eq_true, -Y3, -Y4, and_assoc, Y5, Try.f47, hlen', this]
def equalDevC_S : Reads Try.prog 47 where
  ι := ((Option Addr) × (Nat) × (List Dev) × (Option Addr) × (Nat) × (List Dev))
  A := fun (i : ((Option Addr) × (Nat) × (List Dev) × (Option Addr) × (Nat) × (List Dev))) => match i with | (o, cap, xs, o2, cap2, ys) => [.slice o xs.length cap, .slice o2 ys.length cap2]
  pre := fun (i : ((Option Addr) × (Nat) × (List Dev) × (Option Addr) × (Nat) × (List Dev))) (F : Facts) => match i with | (o, cap, xs, o2, cap2, ys) => RdD F o xs ∧ RdD F o2 ys ∧ xs.length ≤ 1048576 ∧ ys.length ≤ 1048576
  res := fun (i : ((Option Addr) × (Nat) × (List Dev) × (Option Addr) × (Nat) × (List Dev))) => match i with | (o, cap, xs, o2, cap2, ys) => .bool (decide (xs = ys))
  mono := by
    intro i F G hs h
    first | exact h | exact h.mono hs | exact ⟨h.1.mono hs, h.2⟩ | exact ⟨h.1.mono hs, h.2.1.mono hs, h.2.2⟩ | exact ⟨h.1.mono hs, h.2.1.mono hs⟩ | exact ⟨h.1.mono hs, h.2.1.mono hs, h.2.2.1.mono hs, h.2.2.2⟩
  uniq := by
    rintro ⟨o, cap, xs, o2, cap2, ys⟩ ⟨o', cap', xs', o2', cap2', ys'⟩ F hA h h'
    simp at hA
    (try simp only [Int.natCast_inj] at hA)
    obtain rfl : xs = xs' := RdD.uniq h.1 h'.1 (by simp_all) (by simp_all)
    obtain rfl : ys = ys' := RdD.uniq h.2.1 h'.2.1 (by simp_all) (by simp_all)
    simp_all
  enter := Try.call47
  h := fun i w hp => equalDevC_c i.1 i.2.1 i.2.2.1 i.2.2.2.1 i.2.2.2.2.1 i.2.2.2.2.2 w (by rw [factF_init]; exact hp)
def equalDevC : Con Try.prog := Con.read equalDevC_S
theorem equalDevC_rw {o : Option Addr} {cap : Nat} {xs : List Dev} {o2 : Option Addr} {cap2 : Nat} {ys : List Dev} {d : Nat} {cx : Cx} {mem : List Blk} {K : C → Prop} (hpre : RdD (nowF cx mem) o xs ∧ RdD (nowF cx mem) o2 ys ∧ xs.length ≤ 1048576 ∧ ys.length ≤ 1048576) : ReadV d equalDevC_S cx [.v (.slice o xs.length cap), .v (.slice o2 ys.length cap2)] mem K = K (.v (.bool (decide (xs = ys)))) := equalDevC_S.eq (o, cap, xs, o2, cap2, ys) rfl hpre
theorem sameInstC_c (code op : Int) (o : Option Addr) (cap : Nat) (xs : List Dev) (code2 op2 : Int) (o2 : Option Addr) (cap2 : Nat) (ys : List Dev) (w : World) (hpre : RdD (factF ⟨w, [], w, []⟩) o xs ∧ RdD (factF ⟨w, [], w, []⟩) o2 ys ∧ xs.length ≤ 1048576 ∧ ys.length ≤ 1048576) : Calls Try.prog 31 #[.agg #[.int .i64 code, .int .i64 op, .slice o xs.length cap], .agg #[.int .i64 code2, .int .i64 op2, .slice o2 ys.length cap2]] w fun e w' => e = .returned (.bool (decide ((⟨code, op, xs⟩ : Ins) = ⟨code2, op2, ys⟩))) ∧ RowKit.Below w.heap.size w w' := by
  refine (plain_of_vcs ⟨[equalDevC], []⟩ hmx Try.func31 rfl (by kernel_rfl) (args := [.agg #[.int .i64 code, .int .i64 op, .slice o xs.length cap], .agg #[.int .i64 code2, .int .i64 op2, .slice o2 ys.length cap2]]) (by simp [Try.ntmps31]) w (· = .bool (decide ((⟨code, op, xs⟩ : Ins) = ⟨code2, op2, ys⟩))) 400 ?_).mono fun e w' ⟨v, h1, h2, h3⟩ => ⟨h2 ▸ h1, h3⟩
  obtain ⟨h, g, hl⟩ := hpre
  have e := fun d mem K => equalDevC_rw (cap := cap) (cap2 := cap2) (d := d) (cx := ⟨w, [], w, []⟩) (mem := mem) (K := K) ⟨h.mono (sub_now _ _), g.mono (sub_now _ _), hl⟩
  by_cases h1 : code = code2
  · by_cases h2 : op = op2
    · simp (maxSteps := 4000000) -dsimp [-Y1, -Array.all_eq_true, -Y3, -Y4, and_assoc, Y5, Try.f31, equalDevC, h1, h2, e]
    · simp (maxSteps := 4000000) -dsimp [-Y1, -Array.all_eq_true, -Y3, -Y4, and_assoc, Y5, Try.f31, equalDevC, h1, h2, e]
  · simp (maxSteps := 4000000) -dsimp [-Y1, -Array.all_eq_true, -Y3, -Y4, and_assoc, Y5, Try.f31, equalDevC, h1, e]
def sameInstC_S : Reads Try.prog 31 where
  ι := ((Int) × (Int) × (Option Addr) × (Nat) × (List Dev) × (Int) × (Int) × (Option Addr) × (Nat) × (List Dev))
  A := fun (i : ((Int) × (Int) × (Option Addr) × (Nat) × (List Dev) × (Int) × (Int) × (Option Addr) × (Nat) × (List Dev))) => match i with | (code, op, o, cap, xs, code2, op2, o2, cap2, ys) => [.agg #[.int .i64 code, .int .i64 op, .slice o xs.length cap], .agg #[.int .i64 code2, .int .i64 op2, .slice o2 ys.length cap2]]
  pre := fun (i : ((Int) × (Int) × (Option Addr) × (Nat) × (List Dev) × (Int) × (Int) × (Option Addr) × (Nat) × (List Dev))) (F : Facts) => match i with | (code, op, o, cap, xs, code2, op2, o2, cap2, ys) => RdD F o xs ∧ RdD F o2 ys ∧ xs.length ≤ 1048576 ∧ ys.length ≤ 1048576
  res := fun (i : ((Int) × (Int) × (Option Addr) × (Nat) × (List Dev) × (Int) × (Int) × (Option Addr) × (Nat) × (List Dev))) => match i with | (code, op, o, cap, xs, code2, op2, o2, cap2, ys) => .bool (decide ((⟨code, op, xs⟩ : Ins) = ⟨code2, op2, ys⟩))
  mono := by
    intro i F G hs h
    first | exact h | exact h.mono hs | exact ⟨h.1.mono hs, h.2⟩ | exact ⟨h.1.mono hs, h.2.1.mono hs, h.2.2⟩ | exact ⟨h.1.mono hs, h.2.1.mono hs⟩ | exact ⟨h.1.mono hs, h.2.1.mono hs, h.2.2.1.mono hs, h.2.2.2⟩
  uniq := by
    rintro ⟨code, op, o, cap, xs, code2, op2, o2, cap2, ys⟩ ⟨code', op', o', cap', xs', code2', op2', o2', cap2', ys'⟩ F hA h h'
    simp at hA
    (try simp only [Int.natCast_inj] at hA)
    obtain rfl : xs = xs' := RdD.uniq h.1 h'.1 (by simp_all) (by simp_all)
    obtain rfl : ys = ys' := RdD.uniq h.2.1 h'.2.1 (by simp_all) (by simp_all)
    simp_all
  enter := Try.call31
  h := fun i w hp => sameInstC_c i.1 i.2.1 i.2.2.1 i.2.2.2.1 i.2.2.2.2.1 i.2.2.2.2.2.1 i.2.2.2.2.2.2.1 i.2.2.2.2.2.2.2.1 i.2.2.2.2.2.2.2.2.1 i.2.2.2.2.2.2.2.2.2 w (by rw [factF_init]; exact hp)
def sameInstC : Con Try.prog := Con.read sameInstC_S
theorem sameInstC_rw {code op : Int} {o : Option Addr} {cap : Nat} {xs : List Dev} {code2 op2 : Int} {o2 : Option Addr} {cap2 : Nat} {ys : List Dev} {d : Nat} {cx : Cx} {mem : List Blk} {K : C → Prop} (hpre : RdD (nowF cx mem) o xs ∧ RdD (nowF cx mem) o2 ys ∧ xs.length ≤ 1048576 ∧ ys.length ≤ 1048576) : ReadV d sameInstC_S cx [.v (.agg #[.int .i64 code, .int .i64 op, .slice o xs.length cap]), .v (.agg #[.int .i64 code2, .int .i64 op2, .slice o2 ys.length cap2])] mem K = K (.v (.bool (decide ((⟨code, op, xs⟩ : Ins) = ⟨code2, op2, ys⟩)))) := sameInstC_S.eq (code, op, o, cap, xs, code2, op2, o2, cap2, ys) rfl hpre
theorem equalInstC_c (o : Option Addr) (cap : Nat) (xs : List Ins) (o2 : Option Addr) (cap2 : Nat) (ys : List Ins) (w : World) (hpre : RdN (factF ⟨w, [], w, []⟩) o xs ∧ RdN (factF ⟨w, [], w, []⟩) o2 ys ∧ xs.length ≤ 1048576 ∧ ys.length ≤ 1048576 ∧ (∀ x ∈ xs, x.args.length ≤ 1048576) ∧ (∀ x ∈ ys, x.args.length ≤ 1048576)) : Calls Try.prog 30 #[.slice o xs.length cap, .slice o2 ys.length cap2, .func (.func 31) #[] #[]] w fun e w' => e = .returned (.bool (decide (xs = ys))) ∧ RowKit.Below w.heap.size w w' := by
  refine (plain_of_vcs ⟨[sameInstC], []⟩ hmx Try.func30 rfl (by kernel_rfl) (args := [.slice o xs.length cap, .slice o2 ys.length cap2, .func (.func 31) #[] #[]]) (by simp [Try.ntmps30]) w (· = .bool (decide (xs = ys))) 400 ?_).mono fun e w' ⟨v, h1, h2, h3⟩ => ⟨h2 ▸ h1, h3⟩
  obtain ⟨h, g, hl, hl2, hxa, hya⟩ := hpre
  by_cases hlen : xs.length = ys.length
  · have hlen' : (xs.length : Int) = ys.length := by omega
    simp (maxSteps := 4000000) -dsimp [-Y1, -Array.all_eq_true, -Y3, -Y4, and_assoc, Y5, Try.f30, sameInstC, hlen']
    refine loop_inv (σ := ⟨[sameInstC], []⟩) hmx (by kernel_rfl) (fun q cx tm mem => cx = ⟨w, [], w, []⟩ ∧ mem = [] ∧ ∃ i : Nat, i ≤ xs.length ∧ q = xs.length - i ∧ xs.take i = ys.take i ∧ Sx.look tm 17 = .v (.int .i64 i) ∧ Sx.look tm 16 = .v (.int .i64 xs.length) ∧ Sx.look tm 15 = .v (.slice o xs.length cap) ∧ Sx.look tm 1 = .v (.slice o2 ys.length cap2) ∧ Sx.look tm 2 = .v (.func (.func 31) #[] #[]))
      xs.length ⟨rfl, rfl, 0, by omega, rfl, rfl, by simp [Sx.look], by simp [Sx.look, hlen'], by simp [Sx.look], by simp [Sx.look], by simp [Sx.look]⟩ ?_
    rintro q cx tm mem ⟨rfl, rfl, i, hi, rfl, ht, h17, h16, h15, h1, h2⟩
    refine ⟨300, ?_⟩
    by_cases hlt : i < xs.length
    · have hlt2 : i < ys.length := by omega
      obtain ⟨x, hx⟩ : ∃ x, xs[i]? = some x := ⟨xs[i], by simp [hlt]⟩
      obtain ⟨y, hy⟩ : ∃ y, ys[i]? = some y := ⟨ys[i], by simp [hlt2]⟩
      obtain ⟨o', cap', hat⟩ := h.at hx
      obtain ⟨o2', cap2', gat⟩ := g.at hy
      simp (maxSteps := 4000000) -dsimp [-Y1, -Array.all_eq_true, -Y3, -Y4, and_assoc, Y5, Try.f30, sameInstC, h17, h16, h15, h1, h2, hlt, hlt2, h.there hlt, g.there hlt2, hat.all, gat.all]
      intro b b1
      refine (sameInstC_rw ⟨hat.args.mono (sub_now _ _), gat.args.mono (sub_now _ _), hxa x (List.mem_of_getElem? hx), hya y (List.mem_of_getElem? hy)⟩).mpr ?_
      by_cases hxy : x = y
      · subst hxy
        simp (maxSteps := 4000000) -dsimp [-Y1, -Array.all_eq_true, -Y3, -Y4, and_assoc, Y5, Try.f30, sameInstC, h17, h16, h15, h1, h2, i_succ (i := i) (by omega)]
        exact ⟨0, _, by omega, rfl, i + 1, by omega, rfl, take_more ht hx hy, by omega⟩
      · have hne := get_ne hx hy hxy
        have hxy' : ¬ (⟨x.code, x.op, x.args⟩ : Ins) = ⟨y.code, y.op, y.args⟩ := fun e => hxy (by cases x; cases y; simp_all)
        simp (maxSteps := 4000000) -dsimp [-Y1, -Array.all_eq_true, -Y3, -Y4, and_assoc, Y5, Try.f30, sameInstC, h17, h16, h15, h1, h2, hxy', hne]
    · obtain rfl : i = xs.length := by omega
      have := take_all ht hlen
      simp (maxSteps := 4000000) -dsimp [-Y1, -Array.all_eq_true, -Y3, -Y4, and_assoc, Y5, Try.f30, sameInstC, h17, h16, h15, h1, h2, this]
  · have hlen' : ¬ (xs.length : Int) = ys.length := by omega
    have := len_ne hlen
    simp (maxSteps := 4000000) -dsimp [-Y1, -Array.all_eq_true, -Y3, -Y4, and_assoc, Y5, Try.f30, sameInstC, hlen', this]
def equalInstC_S : Reads Try.prog 30 where
  ι := ((Option Addr) × (Nat) × (List Ins) × (Option Addr) × (Nat) × (List Ins))
  A := fun (i : ((Option Addr) × (Nat) × (List Ins) × (Option Addr) × (Nat) × (List Ins))) => match i with | (o, cap, xs, o2, cap2, ys) => [.slice o xs.length cap, .slice o2 ys.length cap2, .func (.func 31) #[] #[]]
  pre := fun (i : ((Option Addr) × (Nat) × (List Ins) × (Option Addr) × (Nat) × (List Ins))) (F : Facts) => match i with | (o, cap, xs, o2, cap2, ys) => RdN F o xs ∧ RdN F o2 ys ∧ xs.length ≤ 1048576 ∧ ys.length ≤ 1048576 ∧ (∀ x ∈ xs, x.args.length ≤ 1048576) ∧ (∀ x ∈ ys, x.args.length ≤ 1048576)
  res := fun (i : ((Option Addr) × (Nat) × (List Ins) × (Option Addr) × (Nat) × (List Ins))) => match i with | (o, cap, xs, o2, cap2, ys) => .bool (decide (xs = ys))
  mono := by
    intro i F G hs h
    first | exact h | exact h.mono hs | exact ⟨h.1.mono hs, h.2⟩ | exact ⟨h.1.mono hs, h.2.1.mono hs, h.2.2⟩ | exact ⟨h.1.mono hs, h.2.1.mono hs⟩ | exact ⟨h.1.mono hs, h.2.1.mono hs, h.2.2.1.mono hs, h.2.2.2⟩
  uniq := by
    rintro ⟨o, cap, xs, o2, cap2, ys⟩ ⟨o', cap', xs', o2', cap2', ys'⟩ F hA h h'
    simp at hA
    (try simp only [Int.natCast_inj] at hA)
    obtain rfl : xs = xs' := RdN.uniq h.1 h'.1 (by simp_all) (by simp_all)
    obtain rfl : ys = ys' := RdN.uniq h.2.1 h'.2.1 (by simp_all) (by simp_all)
    simp_all
  enter := Try.call30
  h := fun i w hp => equalInstC_c i.1 i.2.1 i.2.2.1 i.2.2.2.1 i.2.2.2.2.1 i.2.2.2.2.2 w (by rw [factF_init]; exact hp)
def equalInstC : Con Try.prog := Con.read equalInstC_S
theorem equalInstC_rw {o : Option Addr} {cap : Nat} {xs : List Ins} {o2 : Option Addr} {cap2 : Nat} {ys : List Ins} {d : Nat} {cx : Cx} {mem : List Blk} {K : C → Prop} (hpre : RdN (nowF cx mem) o xs ∧ RdN (nowF cx mem) o2 ys ∧ xs.length ≤ 1048576 ∧ ys.length ≤ 1048576 ∧ (∀ x ∈ xs, x.args.length ≤ 1048576) ∧ (∀ x ∈ ys, x.args.length ≤ 1048576)) : ReadV d equalInstC_S cx [.v (.slice o xs.length cap), .v (.slice o2 ys.length cap2), .v (.func (.func 31) #[] #[])] mem K = K (.v (.bool (decide (xs = ys)))) := equalInstC_S.eq (o, cap, xs, o2, cap2, ys) rfl hpre
theorem listSameC_c (o : Option Addr) (cap : Nat) (xs : List Ins) (o2 : Option Addr) (cap2 : Nat) (ys : List Ins) (w : World) (hpre : RdN (factF ⟨w, [], w, []⟩) o xs ∧ RdN (factF ⟨w, [], w, []⟩) o2 ys ∧ xs.length ≤ 1048576 ∧ ys.length ≤ 1048576 ∧ (∀ x ∈ xs, x.args.length ≤ 1048576) ∧ (∀ x ∈ ys, x.args.length ≤ 1048576)) : Calls Try.prog 17 #[.slice o xs.length cap, .slice o2 ys.length cap2] w fun e w' => e = .returned (.bool (decide (xs = ys))) ∧ RowKit.Below w.heap.size w w' := by
  refine (plain_of_vcs ⟨[equalInstC], []⟩ hmx Try.func17 rfl (by kernel_rfl) (args := [.slice o xs.length cap, .slice o2 ys.length cap2]) (by simp [Try.ntmps17]) w (· = .bool (decide (xs = ys))) 400 ?_).mono fun e w' ⟨v, h1, h2, h3⟩ => ⟨h2 ▸ h1, h3⟩
  obtain ⟨h, g, hl⟩ := hpre
  simp (maxSteps := 4000000) -dsimp [-Y1, -Array.all_eq_true, -Y3, -Y4, and_assoc, Y5, Try.f17, equalInstC, equalInstC_rw ⟨h.mono (sub_now _ _), g.mono (sub_now _ _), hl⟩]
def listSameC_S : Reads Try.prog 17 where
  ι := ((Option Addr) × (Nat) × (List Ins) × (Option Addr) × (Nat) × (List Ins))
  A := fun (i : ((Option Addr) × (Nat) × (List Ins) × (Option Addr) × (Nat) × (List Ins))) => match i with | (o, cap, xs, o2, cap2, ys) => [.slice o xs.length cap, .slice o2 ys.length cap2]
  pre := fun (i : ((Option Addr) × (Nat) × (List Ins) × (Option Addr) × (Nat) × (List Ins))) (F : Facts) => match i with | (o, cap, xs, o2, cap2, ys) => RdN F o xs ∧ RdN F o2 ys ∧ xs.length ≤ 1048576 ∧ ys.length ≤ 1048576 ∧ (∀ x ∈ xs, x.args.length ≤ 1048576) ∧ (∀ x ∈ ys, x.args.length ≤ 1048576)
  res := fun (i : ((Option Addr) × (Nat) × (List Ins) × (Option Addr) × (Nat) × (List Ins))) => match i with | (o, cap, xs, o2, cap2, ys) => .bool (decide (xs = ys))
  mono := by
    intro i F G hs h
    first | exact h | exact h.mono hs | exact ⟨h.1.mono hs, h.2⟩ | exact ⟨h.1.mono hs, h.2.1.mono hs, h.2.2⟩ | exact ⟨h.1.mono hs, h.2.1.mono hs⟩ | exact ⟨h.1.mono hs, h.2.1.mono hs, h.2.2.1.mono hs, h.2.2.2⟩
  uniq := by
    rintro ⟨o, cap, xs, o2, cap2, ys⟩ ⟨o', cap', xs', o2', cap2', ys'⟩ F hA h h'
    simp at hA
    (try simp only [Int.natCast_inj] at hA)
    obtain rfl : xs = xs' := RdN.uniq h.1 h'.1 (by simp_all) (by simp_all)
    obtain rfl : ys = ys' := RdN.uniq h.2.1 h'.2.1 (by simp_all) (by simp_all)
    simp_all
  enter := Try.call17
  h := fun i w hp => listSameC_c i.1 i.2.1 i.2.2.1 i.2.2.2.1 i.2.2.2.2.1 i.2.2.2.2.2 w (by rw [factF_init]; exact hp)
end Go.Proofs.Ytnnpmopnnamakaa
