/-
  Contracts: two lists of instructions are compared.
-/
import Derived.Test.YtclbanhoiaieaaaGreatDoorIva
import Derived.Test.YtclbanhoiaieaaaGreatDoorInva
set_option linter.unusedVariables false
set_option linter.unusedSimpArgs false
set_option maxRecDepth 100000
set_option maxHeartbeats 4000000
namespace Go.Proofs.YtclbanhoiaieaaaGreatDoor
open Go Go.Sx
attribute [local simp] Sx.vcsE1 Sx.vcsE2 Sx.vcsE3 Sx.vcsE4 Sx.vcsE5 Sx.vcsE6 Sx.vcsE7 Sx.vcsE8 Sx.vcsE9 Sx.vcsE10 Sx.vcsE11 Sx.vcsE12 Sx.vcsE13 Sx.vcsE14 Sx.vcsE15 Sx.vcsE16 Sx.vcsE17 Sx.vcsE18 Sx.vcsE19 Sx.get Sx.look Sx.put Sx.pureFn Sx.findOrd Sx.unF Sx.dstOk Sx.isFloatT Sx.endVC Sx.resFn Sx.packC Sx.newFn Sx.storeFn Sx.buildFn Sx.known Sx.aggT Sx.cellsC Sx.findCon Sx.allV Sx.partsV Sx.partsC Sx.fillL Sx.exitTo Sx.fAr Sx.eqFn Sx.eqFieldsFn Sx.eqElemsFn Sx.partFn Sx.sliceFn Sx.boundFn Sx.AppV Sx.CopyV Sx.MakeSliceV Sx.NewsV Sx.GrowV Sx.TextV Sx.bytesL Sx.notInt Sx.typeAt Sx.argAt Sx.den Go.undef Go.Value.cells Go.Value.oneCell' Sx.Con.pure Sx.Con.some Sx.Con.read Sx.Con.make Sx.Con.ext Sx.Con.rel Sx.Con.extS Sx.Con.draw Sx.Con.step Sx.C.one Sx.Draws.steps



theorem take_more {α : Type} {xs ys : List α} {i : Nat} {x : α} (h : xs.take i = ys.take i) (hx : xs[i]? = some x) (hy : ys[i]? = some x) : xs.take (i + 1) = ys.take (i + 1) := by
  rw [List.take_add_one, List.take_add_one, h, hx, hy]
theorem take_all {α : Type} {xs ys : List α} (h : xs.take xs.length = ys.take xs.length) (hl : xs.length = ys.length) : xs = ys := by
  rw [List.take_length, hl, List.take_length] at h; exact h
theorem get_ne {α : Type} {xs ys : List α} {i : Nat} {x y : α} (hx : xs[i]? = some x) (hy : ys[i]? = some y) (h : x ≠ y) : ¬ xs = ys := fun e => by
  subst e; rw [hx] at hy; exact h (Option.some.inj hy)
theorem len_ne {α : Type} {xs ys : List α} (h : xs.length ≠ ys.length) : ¬ xs = ys := fun e => h (by rw [e])

theorem equalDevC_c (o : Option Addr) (cap : Nat) (xs : List Dev) (o2 : Option Addr) (cap2 : Nat) (ys : List Dev) (w : World) (hpre : RdD (factF ⟨w, [], w, []⟩) o xs ∧ RdD (factF ⟨w, [], w, []⟩) o2 ys ∧ xs.length ≤ 1048576 ∧ ys.length ≤ 1048576) : Calls Tryz.prog 160 #[.slice o xs.length cap, .slice o2 ys.length cap2] w fun e w' => e = .returned (.bool (decide (xs = ys))) ∧ RowKit.Below w.heap.size w w' := by
  refine (plain_of_vcs ⟨[], []⟩ hmx Tryz.func160 rfl (by kernel_rfl) (args := [.slice o xs.length cap, .slice o2 ys.length cap2]) (by simp [Tryz.ntmps160]) w (· = .bool (decide (xs = ys))) 400 ?_).mono fun e w' ⟨v, h1, h2, h3⟩ => ⟨h2 ▸ h1, h3⟩
  obtain ⟨h, g, hl, hl2⟩ := hpre
  by_cases hlen : xs.length = ys.length
  · have hlen' : (xs.length : Int) = ys.length := by omega
    simp (maxSteps := 4000000) -dsimp [-List.all_eq_true, -Array.all_eq_true, -Bool.exists_bool, -Bool.forall_bool, and_assoc, List.zipIdx, Tryz.f160, hlen']
    refine loop_inv (σ := ⟨[], []⟩) hmx (by kernel_rfl) (fun q cx tm mem => cx = ⟨w, [], w, []⟩ ∧ mem = [] ∧ ∃ i : Nat, i ≤ xs.length ∧ q = xs.length - i ∧ xs.take i = ys.take i ∧ Sx.look tm 13 = .v (.int .i64 i) ∧ Sx.look tm 12 = .v (.int .i64 xs.length) ∧ Sx.look tm 0 = .v (.slice o xs.length cap) ∧ Sx.look tm 1 = .v (.slice o2 ys.length cap2))
      xs.length ⟨rfl, rfl, 0, by omega, rfl, rfl, by simp [Sx.look], by simp [Sx.look, hlen'], by simp [Sx.look], by simp [Sx.look]⟩ ?_
    rintro q cx tm mem ⟨rfl, rfl, i, hi, rfl, ht, h13, h12, h0, h1⟩
    refine ⟨300, ?_⟩
    by_cases hlt : i < xs.length
    · have hlt2 : i < ys.length := by omega
      obtain ⟨x, hx⟩ : ∃ x, xs[i]? = some x := ⟨xs[i], by simp [hlt]⟩
      obtain ⟨y, hy⟩ : ∃ y, ys[i]? = some y := ⟨ys[i], by simp [hlt2]⟩
      by_cases hxy : x = y
      · subst hxy
        simp (maxSteps := 4000000) -dsimp [-List.all_eq_true, -Array.all_eq_true, -Bool.exists_bool, -Bool.forall_bool, and_assoc, List.zipIdx, Tryz.f160, h13, h12, h0, h1, hlt, hlt2, h.there hlt, g.there hlt2, h.ld _ _ hx, g.ld _ _ hy, i_succ (i := i) (by omega)]
        exact ⟨_, by omega, i + 1, by omega, rfl, take_more ht hx hy, by omega⟩
      · have hne := get_ne hx hy hxy
        have hd : ¬ (x.k = y.k ∧ x.n = y.n ∧ x.p = y.p) := fun ⟨a, b, c⟩ => hxy (by cases x; cases y; simp_all)
        simp (maxSteps := 4000000) -dsimp [-List.all_eq_true, -Array.all_eq_true, -Bool.exists_bool, -Bool.forall_bool, and_assoc, List.zipIdx, Tryz.f160, h13, h12, h0, h1, hlt, hlt2, h.there hlt, g.there hlt2, h.ld _ _ hx, g.ld _ _ hy, i_succ (i := i) (by omega), hne]
        omega
    · obtain rfl : i = xs.length := by omega
      have := take_all ht hlen
      simp (maxSteps := 4000000) -dsimp [-List.all_eq_true, -Array.all_eq_true, -Bool.exists_bool, -Bool.forall_bool, and_assoc, List.zipIdx, Tryz.f160, h13, h12, h0, h1, this]
  · have hlen' : ¬ (xs.length : Int) = ys.length := by omega
    have := len_ne hlen
    simp (maxSteps := 4000000) -dsimp [-List.all_eq_true, -Array.all_eq_true, -Bool.exists_bool, -Bool.forall_bool, and_assoc, List.zipIdx, Tryz.f160, hlen', this]
def equalDevC_S : Reads Tryz.prog 160 where
  ι := ((Option Addr) × (Nat) × (List Dev) × (Option Addr) × (Nat) × (List Dev))
  A := fun (i : ((Option Addr) × (Nat) × (List Dev) × (Option Addr) × (Nat) × (List Dev))) => match i with | (o, cap, xs, o2, cap2, ys) => [.slice o xs.length cap, .slice o2 ys.length cap2]
  pre := fun (i : ((Option Addr) × (Nat) × (List Dev) × (Option Addr) × (Nat) × (List Dev))) (F : Facts) => match i with | (o, cap, xs, o2, cap2, ys) => RdD F o xs ∧ RdD F o2 ys ∧ xs.length ≤ 1048576 ∧ ys.length ≤ 1048576
  res := fun (i : ((Option Addr) × (Nat) × (List Dev) × (Option Addr) × (Nat) × (List Dev))) => match i with | (o, cap, xs, o2, cap2, ys) => .bool (decide (xs = ys))
  mono := by
    intro i F G hs h
    first | exact h | exact h.mono hs | exact ⟨h.1.mono hs, h.2⟩ | exact ⟨h.1.mono hs, h.2.1.mono hs, h.2.2⟩ | exact ⟨h.1.mono hs, h.2.1.mono hs⟩ | exact ⟨h.1.mono hs, h.2.1.mono hs, h.2.2.1.mono hs, h.2.2.2⟩
  uniq := by
    rintro ⟨o, cap, xs, o2, cap2, ys⟩ ⟨o', cap', xs', o2', cap2', ys'⟩ F hA h h'
    simp at hA
    (try simp only [Int.natCast_inj] at hA)
    obtain rfl : xs = xs' := RdD.uniq h.1 h'.1 (by simp_all) (by simp_all)
    obtain rfl : ys = ys' := RdD.uniq h.2.1 h'.2.1 (by simp_all) (by simp_all)
    simp_all
  enter := Tryz.call160
  h := fun i w hp => equalDevC_c i.1 i.2.1 i.2.2.1 i.2.2.2.1 i.2.2.2.2.1 i.2.2.2.2.2 w (by rw [factF_init]; exact hp)
def equalDevC : Con Tryz.prog := Con.read equalDevC_S
theorem equalDevC_rw {o : Option Addr} {cap : Nat} {xs : List Dev} {o2 : Option Addr} {cap2 : Nat} {ys : List Dev} {d : Nat} {cx : Cx} {mem : List Blk} {K : C → Prop} (hpre : RdD (nowF cx mem) o xs ∧ RdD (nowF cx mem) o2 ys ∧ xs.length ≤ 1048576 ∧ ys.length ≤ 1048576) : ReadV d equalDevC_S cx [.v (.slice o xs.length cap), .v (.slice o2 ys.length cap2)] mem K = K (.v (.bool (decide (xs = ys)))) := equalDevC_S.eq (o, cap, xs, o2, cap2, ys) rfl hpre
theorem sameInstC_c (code op : Int) (o : Option Addr) (cap : Nat) (xs : List Dev) (code2 op2 : Int) (o2 : Option Addr) (cap2 : Nat) (ys : List Dev) (w : World) (hpre : RdD (factF ⟨w, [], w, []⟩) o xs ∧ RdD (factF ⟨w, [], w, []⟩) o2 ys ∧ xs.length ≤ 1048576 ∧ ys.length ≤ 1048576) : Calls Tryz.prog 84 #[.agg #[.int .i64 code, .int .i64 op, .slice o xs.length cap], .agg #[.int .i64 code2, .int .i64 op2, .slice o2 ys.length cap2]] w fun e w' => e = .returned (.bool (decide ((⟨code, op, xs⟩ : Ins) = ⟨code2, op2, ys⟩))) ∧ RowKit.Below w.heap.size w w' := by
  refine (plain_of_vcs ⟨[equalDevC], []⟩ hmx Tryz.func84 rfl (by kernel_rfl) (args := [.agg #[.int .i64 code, .int .i64 op, .slice o xs.length cap], .agg #[.int .i64 code2, .int .i64 op2, .slice o2 ys.length cap2]]) (by simp [Tryz.ntmps84]) w (· = .bool (decide ((⟨code, op, xs⟩ : Ins) = ⟨code2, op2, ys⟩))) 400 ?_).mono fun e w' ⟨v, h1, h2, h3⟩ => ⟨h2 ▸ h1, h3⟩
  obtain ⟨h, g, hl⟩ := hpre
  have e := fun d mem K => equalDevC_rw (cap := cap) (cap2 := cap2) (d := d) (cx := ⟨w, [], w, []⟩) (mem := mem) (K := K) ⟨h.mono (sub_now _ _), g.mono (sub_now _ _), hl⟩
  by_cases h1 : code = code2
  · by_cases h2 : op = op2
    · simp (maxSteps := 4000000) -dsimp [-List.all_eq_true, -Array.all_eq_true, -Bool.exists_bool, -Bool.forall_bool, and_assoc, List.zipIdx, Tryz.f84, equalDevC, h1, h2, e]
    · simp (maxSteps := 4000000) -dsimp [-List.all_eq_true, -Array.all_eq_true, -Bool.exists_bool, -Bool.forall_bool, and_assoc, List.zipIdx, Tryz.f84, equalDevC, h1, h2, e]
  · simp (maxSteps := 4000000) -dsimp [-List.all_eq_true, -Array.all_eq_true, -Bool.exists_bool, -Bool.forall_bool, and_assoc, List.zipIdx, Tryz.f84, equalDevC, h1, e]
def sameInstC_S : Reads Tryz.prog 84 where
  ι := ((Int) × (Int) × (Option Addr) × (Nat) × (List Dev) × (Int) × (Int) × (Option Addr) × (Nat) × (List Dev))
  A := fun (i : ((Int) × (Int) × (Option Addr) × (Nat) × (List Dev) × (Int) × (Int) × (Option Addr) × (Nat) × (List Dev))) => match i with | (code, op, o, cap, xs, code2, op2, o2, cap2, ys) => [.agg #[.int .i64 code, .int .i64 op, .slice o xs.length cap], .agg #[.int .i64 code2, .int .i64 op2, .slice o2 ys.length cap2]]
  pre := fun (i : ((Int) × (Int) × (Option Addr) × (Nat) × (List Dev) × (Int) × (Int) × (Option Addr) × (Nat) × (List Dev))) (F : Facts) => match i with | (code, op, o, cap, xs, code2, op2, o2, cap2, ys) => RdD F o xs ∧ RdD F o2 ys ∧ xs.length ≤ 1048576 ∧ ys.length ≤ 1048576
  res := fun (i : ((Int) × (Int) × (Option Addr) × (Nat) × (List Dev) × (Int) × (Int) × (Option Addr) × (Nat) × (List Dev))) => match i with | (code, op, o, cap, xs, code2, op2, o2, cap2, ys) => .bool (decide ((⟨code, op, xs⟩ : Ins) = ⟨code2, op2, ys⟩))
  mono := by
    intro i F G hs h
    first | exact h | exact h.mono hs | exact ⟨h.1.mono hs, h.2⟩ | exact ⟨h.1.mono hs, h.2.1.mono hs, h.2.2⟩ | exact ⟨h.1.mono hs, h.2.1.mono hs⟩ | exact ⟨h.1.mono hs, h.2.1.mono hs, h.2.2.1.mono hs, h.2.2.2⟩
  uniq := by
    rintro ⟨code, op, o, cap, xs, code2, op2, o2, cap2, ys⟩ ⟨code', op', o', cap', xs', code2', op2', o2', cap2', ys'⟩ F hA h h'
    simp at hA
    (try simp only [Int.natCast_inj] at hA)
    obtain rfl : xs = xs' := RdD.uniq h.1 h'.1 (by simp_all) (by simp_all)
    obtain rfl : ys = ys' := RdD.uniq h.2.1 h'.2.1 (by simp_all) (by simp_all)
    simp_all
  enter := Tryz.call84
  h := fun i w hp => sameInstC_c i.1 i.2.1 i.2.2.1 i.2.2.2.1 i.2.2.2.2.1 i.2.2.2.2.2.1 i.2.2.2.2.2.2.1 i.2.2.2.2.2.2.2.1 i.2.2.2.2.2.2.2.2.1 i.2.2.2.2.2.2.2.2.2 w (by rw [factF_init]; exact hp)
def sameInstC : Con Tryz.prog := Con.read sameInstC_S
theorem sameInstC_rw {code op : Int} {o : Option Addr} {cap : Nat} {xs : List Dev} {code2 op2 : Int} {o2 : Option Addr} {cap2 : Nat} {ys : List Dev} {d : Nat} {cx : Cx} {mem : List Blk} {K : C → Prop} (hpre : RdD (nowF cx mem) o xs ∧ RdD (nowF cx mem) o2 ys ∧ xs.length ≤ 1048576 ∧ ys.length ≤ 1048576) : ReadV d sameInstC_S cx [.v (.agg #[.int .i64 code, .int .i64 op, .slice o xs.length cap]), .v (.agg #[.int .i64 code2, .int .i64 op2, .slice o2 ys.length cap2])] mem K = K (.v (.bool (decide ((⟨code, op, xs⟩ : Ins) = ⟨code2, op2, ys⟩)))) := sameInstC_S.eq (code, op, o, cap, xs, code2, op2, o2, cap2, ys) rfl hpre
theorem equalInstC_c (o : Option Addr) (cap : Nat) (xs : List Ins) (o2 : Option Addr) (cap2 : Nat) (ys : List Ins) (w : World) (hpre : RdN (factF ⟨w, [], w, []⟩) o xs ∧ RdN (factF ⟨w, [], w, []⟩) o2 ys ∧ xs.length ≤ 1048576 ∧ ys.length ≤ 1048576 ∧ (∀ x ∈ xs, x.args.length ≤ 1048576) ∧ (∀ x ∈ ys, x.args.length ≤ 1048576)) : Calls Tryz.prog 83 #[.slice o xs.length cap, .slice o2 ys.length cap2, .func (.func 84) #[] #[]] w fun e w' => e = .returned (.bool (decide (xs = ys))) ∧ RowKit.Below w.heap.size w w' := by
  refine (plain_of_vcs ⟨[sameInstC], []⟩ hmx Tryz.func83 rfl (by kernel_rfl) (args := [.slice o xs.length cap, .slice o2 ys.length cap2, .func (.func 84) #[] #[]]) (by simp [Tryz.ntmps83]) w (· = .bool (decide (xs = ys))) 400 ?_).mono fun e w' ⟨v, h1, h2, h3⟩ => ⟨h2 ▸ h1, h3⟩
  obtain ⟨h, g, hl, hl2, hxa, hya⟩ := hpre
  by_cases hlen : xs.length = ys.length
  · have hlen' : (xs.length : Int) = ys.length := by omega
    simp (maxSteps := 4000000) -dsimp [-List.all_eq_true, -Array.all_eq_true, -Bool.exists_bool, -Bool.forall_bool, and_assoc, List.zipIdx, Tryz.f83, sameInstC, hlen']
    refine loop_inv (σ := ⟨[sameInstC], []⟩) hmx (by kernel_rfl) (fun q cx tm mem => cx = ⟨w, [], w, []⟩ ∧ mem = [] ∧ ∃ i : Nat, i ≤ xs.length ∧ q = xs.length - i ∧ xs.take i = ys.take i ∧ Sx.look tm 17 = .v (.int .i64 i) ∧ Sx.look tm 16 = .v (.int .i64 xs.length) ∧ Sx.look tm 15 = .v (.slice o xs.length cap) ∧ Sx.look tm 1 = .v (.slice o2 ys.length cap2) ∧ Sx.look tm 2 = .v (.func (.func 84) #[] #[]))
      xs.length ⟨rfl, rfl, 0, by omega, rfl, rfl, by simp [Sx.look], by simp [Sx.look, hlen'], by simp [Sx.look], by simp [Sx.look], by simp [Sx.look]⟩ ?_
    rintro q cx tm mem ⟨rfl, rfl, i, hi, rfl, ht, h17, h16, h15, h1, h2⟩
    refine ⟨300, ?_⟩
    by_cases hlt : i < xs.length
    · have hlt2 : i < ys.length := by omega
      obtain ⟨x, hx⟩ : ∃ x, xs[i]? = some x := ⟨xs[i], by simp [hlt]⟩
      obtain ⟨y, hy⟩ : ∃ y, ys[i]? = some y := ⟨ys[i], by simp [hlt2]⟩
      obtain ⟨o', cap', hat⟩ := h.at hx
      obtain ⟨o2', cap2', gat⟩ := g.at hy
      simp (maxSteps := 4000000) -dsimp [-List.all_eq_true, -Array.all_eq_true, -Bool.exists_bool, -Bool.forall_bool, and_assoc, List.zipIdx, Tryz.f83, sameInstC, h17, h16, h15, h1, h2, hlt, hlt2, h.there hlt, g.there hlt2, hat.all, gat.all]
      intro b b1
      refine (sameInstC_rw ⟨hat.args.mono (sub_now _ _), gat.args.mono (sub_now _ _), hxa x (List.mem_of_getElem? hx), hya y (List.mem_of_getElem? hy)⟩).mpr ?_
      by_cases hxy : x = y
      · subst hxy
        simp (maxSteps := 4000000) -dsimp [-List.all_eq_true, -Array.all_eq_true, -Bool.exists_bool, -Bool.forall_bool, and_assoc, List.zipIdx, Tryz.f83, sameInstC, h17, h16, h15, h1, h2, i_succ (i := i) (by omega)]
        exact ⟨0, _, by omega, rfl, i + 1, by omega, rfl, take_more ht hx hy, by omega⟩
      · have hne := get_ne hx hy hxy
        have hxy' : ¬ (⟨x.code, x.op, x.args⟩ : Ins) = ⟨y.code, y.op, y.args⟩ := fun e => hxy (by cases x; cases y; simp_all)
        simp (maxSteps := 4000000) -dsimp [-List.all_eq_true, -Array.all_eq_true, -Bool.exists_bool, -Bool.forall_bool, and_assoc, List.zipIdx, Tryz.f83, sameInstC, h17, h16, h15, h1, h2, hxy', hne]
    · obtain rfl : i = xs.length := by omega
      have := take_all ht hlen
      simp (maxSteps := 4000000) -dsimp [-List.all_eq_true, -Array.all_eq_true, -Bool.exists_bool, -Bool.forall_bool, and_assoc, List.zipIdx, Tryz.f83, sameInstC, h17, h16, h15, h1, h2, this]
  · have hlen' : ¬ (xs.length : Int) = ys.length := by omega
    have := len_ne hlen
    simp (maxSteps := 4000000) -dsimp [-List.all_eq_true, -Array.all_eq_true, -Bool.exists_bool, -Bool.forall_bool, and_assoc, List.zipIdx, Tryz.f83, sameInstC, hlen', this]
def equalInstC_S : Reads Tryz.prog 83 where
  ι := ((Option Addr) × (Nat) × (List Ins) × (Option Addr) × (Nat) × (List Ins))
  A := fun (i : ((Option Addr) × (Nat) × (List Ins) × (Option Addr) × (Nat) × (List Ins))) => match i with | (o, cap, xs, o2, cap2, ys) => [.slice o xs.length cap, .slice o2 ys.length cap2, .func (.func 84) #[] #[]]
  pre := fun (i : ((Option Addr) × (Nat) × (List Ins) × (Option Addr) × (Nat) × (List Ins))) (F : Facts) => match i with | (o, cap, xs, o2, cap2, ys) => RdN F o xs ∧ RdN F o2 ys ∧ xs.length ≤ 1048576 ∧ ys.length ≤ 1048576 ∧ (∀ x ∈ xs, x.args.length ≤ 1048576) ∧ (∀ x ∈ ys, x.args.length ≤ 1048576)
  res := fun (i : ((Option Addr) × (Nat) × (List Ins) × (Option Addr) × (Nat) × (List Ins))) => match i with | (o, cap, xs, o2, cap2, ys) => .bool (decide (xs = ys))
  mono := by
    intro i F G hs h
    first | exact h | exact h.mono hs | exact ⟨h.1.mono hs, h.2⟩ | exact ⟨h.1.mono hs, h.2.1.mono hs, h.2.2⟩ | exact ⟨h.1.mono hs, h.2.1.mono hs⟩ | exact ⟨h.1.mono hs, h.2.1.mono hs, h.2.2.1.mono hs, h.2.2.2⟩
  uniq := by
    rintro ⟨o, cap, xs, o2, cap2, ys⟩ ⟨o', cap', xs', o2', cap2', ys'⟩ F hA h h'
    simp at hA
    (try simp only [Int.natCast_inj] at hA)
    obtain rfl : xs = xs' := RdN.uniq h.1 h'.1 (by simp_all) (by simp_all)
    obtain rfl : ys = ys' := RdN.uniq h.2.1 h'.2.1 (by simp_all) (by simp_all)
    simp_all
  enter := Tryz.call83
  h := fun i w hp => equalInstC_c i.1 i.2.1 i.2.2.1 i.2.2.2.1 i.2.2.2.2.1 i.2.2.2.2.2 w (by rw [factF_init]; exact hp)
def equalInstC : Con Tryz.prog := Con.read equalInstC_S
theorem equalInstC_rw {o : Option Addr} {cap : Nat} {xs : List Ins} {o2 : Option Addr} {cap2 : Nat} {ys : List Ins} {d : Nat} {cx : Cx} {mem : List Blk} {K : C → Prop} (hpre : RdN (nowF cx mem) o xs ∧ RdN (nowF cx mem) o2 ys ∧ xs.length ≤ 1048576 ∧ ys.length ≤ 1048576 ∧ (∀ x ∈ xs, x.args.length ≤ 1048576) ∧ (∀ x ∈ ys, x.args.length ≤ 1048576)) : ReadV d equalInstC_S cx [.v (.slice o xs.length cap), .v (.slice o2 ys.length cap2), .v (.func (.func 84) #[] #[])] mem K = K (.v (.bool (decide (xs = ys)))) := equalInstC_S.eq (o, cap, xs, o2, cap2, ys) rfl hpre
theorem listSameC_c (o : Option Addr) (cap : Nat) (xs : List Ins) (o2 : Option Addr) (cap2 : Nat) (ys : List Ins) (w : World) (hpre : RdN (factF ⟨w, [], w, []⟩) o xs ∧ RdN (factF ⟨w, [], w, []⟩) o2 ys ∧ xs.length ≤ 1048576 ∧ ys.length ≤ 1048576 ∧ (∀ x ∈ xs, x.args.length ≤ 1048576) ∧ (∀ x ∈ ys, x.args.length ≤ 1048576)) : Calls Tryz.prog 25 #[.slice o xs.length cap, .slice o2 ys.length cap2] w fun e w' => e = .returned (.bool (decide (xs = ys))) ∧ RowKit.Below w.heap.size w w' := by
  refine (plain_of_vcs ⟨[equalInstC], []⟩ hmx Tryz.func25 rfl (by kernel_rfl) (args := [.slice o xs.length cap, .slice o2 ys.length cap2]) (by simp [Tryz.ntmps25]) w (· = .bool (decide (xs = ys))) 400 ?_).mono fun e w' ⟨v, h1, h2, h3⟩ => ⟨h2 ▸ h1, h3⟩
  obtain ⟨h, g, hl⟩ := hpre
  simp (maxSteps := 4000000) -dsimp [-List.all_eq_true, -Array.all_eq_true, -Bool.exists_bool, -Bool.forall_bool, and_assoc, List.zipIdx, Tryz.f25, equalInstC, equalInstC_rw ⟨h.mono (sub_now _ _), g.mono (sub_now _ _), hl⟩]
def listSameC_S : Reads Tryz.prog 25 where
  ι := ((Option Addr) × (Nat) × (List Ins) × (Option Addr) × (Nat) × (List Ins))
  A := fun (i : ((Option Addr) × (Nat) × (List Ins) × (Option Addr) × (Nat) × (List Ins))) => match i with | (o, cap, xs, o2, cap2, ys) => [.slice o xs.length cap, .slice o2 ys.length cap2]
  pre := fun (i : ((Option Addr) × (Nat) × (List Ins) × (Option Addr) × (Nat) × (List Ins))) (F : Facts) => match i with | (o, cap, xs, o2, cap2, ys) => RdN F o xs ∧ RdN F o2 ys ∧ xs.length ≤ 1048576 ∧ ys.length ≤ 1048576 ∧ (∀ x ∈ xs, x.args.length ≤ 1048576) ∧ (∀ x ∈ ys, x.args.length ≤ 1048576)
  res := fun (i : ((Option Addr) × (Nat) × (List Ins) × (Option Addr) × (Nat) × (List Ins))) => match i with | (o, cap, xs, o2, cap2, ys) => .bool (decide (xs = ys))
  mono := by
    intro i F G hs h
    first | exact h | exact h.mono hs | exact ⟨h.1.mono hs, h.2⟩ | exact ⟨h.1.mono hs, h.2.1.mono hs, h.2.2⟩ | exact ⟨h.1.mono hs, h.2.1.mono hs⟩ | exact ⟨h.1.mono hs, h.2.1.mono hs, h.2.2.1.mono hs, h.2.2.2⟩
  uniq := by
    rintro ⟨o, cap, xs, o2, cap2, ys⟩ ⟨o', cap', xs', o2', cap2', ys'⟩ F hA h h'
    simp at hA
    (try simp only [Int.natCast_inj] at hA)
    obtain rfl : xs = xs' := RdN.uniq h.1 h'.1 (by simp_all) (by simp_all)
    obtain rfl : ys = ys' := RdN.uniq h.2.1 h'.2.1 (by simp_all) (by simp_all)
    simp_all
  enter := Tryz.call25
  h := fun i w hp => listSameC_c i.1 i.2.1 i.2.2.1 i.2.2.2.1 i.2.2.2.2.1 i.2.2.2.2.2 w (by rw [factF_init]; exact hp)
def listSameC : Con Tryz.prog := Con.read listSameC_S
theorem listSameC_rw {o : Option Addr} {cap : Nat} {xs : List Ins} {o2 : Option Addr} {cap2 : Nat} {ys : List Ins} {d : Nat} {cx : Cx} {mem : List Blk} {K : C → Prop} (hpre : RdN (nowF cx mem) o xs ∧ RdN (nowF cx mem) o2 ys ∧ xs.length ≤ 1048576 ∧ ys.length ≤ 1048576 ∧ (∀ x ∈ xs, x.args.length ≤ 1048576) ∧ (∀ x ∈ ys, x.args.length ≤ 1048576)) : ReadV d listSameC_S cx [.v (.slice o xs.length cap), .v (.slice o2 ys.length cap2)] mem K = K (.v (.bool (decide (xs = ys)))) := listSameC_S.eq (o, cap, xs, o2, cap2, ys) rfl hpre
end Go.Proofs.YtclbanhoiaieaaaGreatDoor
