/-
  Contracts: which coils are ok, by the program.
-/
import Derived.Test.YtclbanhoiaieaaaGreatDoorIva
import Derived.Test.YtclbanhoiaieaaaGreatDoorAva
import Derived.Test.YtclbanhoiaieaaaGreatDoorInva
import Derived.Test.YtclbanhoiaieaaaGreatDoorHva
set_option linter.unusedVariables false
set_option linter.unusedSimpArgs false
set_option maxRecDepth 100000
set_option maxHeartbeats 4000000
namespace Go.Proofs.YtclbanhoiaieaaaGreatDoor
open Go Go.Sx
open List renaming all_eq_true → Y1, zipIdx → Y5
open Bool renaming exists_bool → Y3, forall_bool → Y4
attribute [local simp] Sx.vcsE1 Sx.vcsE2 Sx.vcsE3 Sx.vcsE4 Sx.vcsE5 Sx.vcsE6 Sx.vcsE7 Sx.vcsE8 Sx.vcsE9 Sx.vcsE10 Sx.vcsE11 Sx.vcsE12 Sx.vcsE13 Sx.vcsE14 Sx.vcsE15 Sx.vcsE16 Sx.vcsE17 Sx.vcsE18 Sx.vcsE19 Sx.get Sx.look Sx.put Sx.pureFn Sx.findOrd Sx.unF Sx.dstOk Sx.isFloatT Sx.endVC Sx.resFn Sx.packC Sx.newFn Sx.storeFn Sx.buildFn Sx.known Sx.aggT Sx.cellsC Sx.findCon Sx.allV Sx.partsV Sx.partsC Sx.fillL Sx.exitTo Sx.fAr Sx.eqFn Sx.eqFieldsFn Sx.eqElemsFn Sx.partFn Sx.sliceFn Sx.boundFn Sx.AppV Sx.CopyV Sx.MakeSliceV Sx.NewsV Sx.GrowV Sx.TextV Sx.bytesL Sx.notInt Sx.typeAt Sx.argAt Sx.den Go.undef Go.Value.cells Go.Value.oneCell' Sx.Con.pure Sx.Con.some Sx.Con.read Sx.Con.make Sx.Con.ext Sx.Con.rel Sx.Con.extS Sx.Con.draw Sx.Con.step Sx.C.one Sx.Draws.steps

theorem indexC_c (o : Option Addr) (cap : Nat) (ks : List Int) (k : Int) (w : World) (hpre : RdI (factF ⟨w, [], w, []⟩) o ks ∧ ks.length ≤ 1048576) : Calls Tryz.prog 225 #[.slice o ks.length cap, .int .i64 k] w fun e w' => e = .returned (.int .i64 (findI ks k 0)) ∧ RowKit.Below w.heap.size w w' := by
  refine (plain_of_vcs ⟨[], []⟩ hmx Tryz.func225 rfl (by kernel_rfl) (args := [.slice o ks.length cap, .int .i64 k]) (by simp [Tryz.ntmps225]) w (· = .int .i64 (findI ks k 0)) 400 ?_).mono fun e w' ⟨v, h1, h2, h3⟩ => ⟨h2 ▸ h1, h3⟩
  obtain ⟨h, hl⟩ := hpre
  simp (maxSteps := 4000000) -dsimp [-Y1, -Array.all_eq_true, -Y3, -Y4, and_assoc, Y5, Tryz.f225]
  refine loop_inv (σ := ⟨[], []⟩) hmx (by kernel_rfl) (fun m cx tm mem => cx = ⟨w, [], w, []⟩ ∧ mem = [] ∧ ∃ i : Nat, i ≤ ks.length ∧ m = ks.length - i ∧ findI ks k 0 = findI (ks.drop i) k i ∧ Sx.look tm 8 = .v (.int .i64 i) ∧ Sx.look tm 7 = .v (.int .i64 ks.length) ∧ Sx.look tm 0 = .v (.slice o ks.length cap) ∧ Sx.look tm 1 = .v (.int .i64 k))
    ks.length ⟨rfl, rfl, 0, by omega, rfl, rfl, by simp [Sx.look], by simp [Sx.look], by simp [Sx.look], by simp [Sx.look]⟩ ?_
  rintro m cx tm mem ⟨rfl, rfl, i, hi, rfl, hf, h8, h7, h0, h1⟩
  refine ⟨200, ?_⟩
  by_cases hlt : i < ks.length
  · obtain ⟨x, hx⟩ : ∃ x, ks[i]? = some x := ⟨ks[i], by simp [hlt]⟩
    rw [findI_drop hx] at hf
    simp (maxSteps := 4000000) -dsimp [-Y1, -Array.all_eq_true, -Y3, -Y4, and_assoc, Y5, Tryz.f225, h8, h7, h0, h1, hlt, i_succ (i := i) (by omega), h.there hlt, h.ld _ hx]
    refine ⟨fun e => by rw [hf, if_pos e], fun e => ⟨_, by omega, i + 1, by omega, rfl, by rw [hf, if_neg e], by omega⟩⟩
  · obtain rfl : i = ks.length := by omega
    rw [List.drop_length, findI] at hf
    simp (maxSteps := 4000000) -dsimp [-Y1, -Array.all_eq_true, -Y3, -Y4, and_assoc, Y5, Tryz.f225, h8, h7, h0, h1, hf]
def indexC_S : Reads Tryz.prog 225 where
  ι := ((Option Addr) × (Nat) × (List Int) × (Int))
  A := fun (i : ((Option Addr) × (Nat) × (List Int) × (Int))) => match i with | (o, cap, ks, k) => [.slice o ks.length cap, .int .i64 k]
  pre := fun (i : ((Option Addr) × (Nat) × (List Int) × (Int))) (F : Facts) => match i with | (o, cap, ks, k) => RdI F o ks ∧ ks.length ≤ 1048576
  res := fun (i : ((Option Addr) × (Nat) × (List Int) × (Int))) => match i with | (o, cap, ks, k) => .int .i64 (findI ks k 0)
  mono := by
    intro i F G hs h
    first | exact h | exact h.mono hs | exact ⟨h.1.mono hs, h.2⟩ | exact ⟨h.1.mono hs, h.2.1.mono hs, h.2.2⟩ | exact ⟨h.1.mono hs, h.2.1.mono hs⟩ | exact ⟨h.1.mono hs, h.2.1.mono hs, h.2.2.1.mono hs, h.2.2.2⟩
  uniq := by
    rintro ⟨o, cap, ks, k⟩ ⟨o', cap', ks', k'⟩ F hA h h'
    simp at hA
    (try simp only [Int.natCast_inj] at hA)
    obtain rfl : ks = ks' := RdI.uniq h.1 h'.1 (by simp_all) (by simp_all)
    simp_all
  enter := Tryz.call225
  h := fun i w hp => indexC_c i.1 i.2.1 i.2.2.1 i.2.2.2 w (by rw [factF_init]; exact hp)
def indexC : Con Tryz.prog := Con.read indexC_S
theorem indexC_rw {o : Option Addr} {cap : Nat} {ks : List Int} {k : Int} {d : Nat} {cx : Cx} {mem : List Blk} {K : C → Prop} (hpre : RdI (nowF cx mem) o ks ∧ ks.length ≤ 1048576) : ReadV d indexC_S cx [.v (.slice o ks.length cap), .v (.int .i64 k)] mem K = K (.v (.int .i64 (findI ks k 0))) := indexC_S.eq (o, cap, ks, k) rfl hpre
theorem containsC_c (o : Option Addr) (cap : Nat) (ks : List Int) (k : Int) (w : World) (hpre : RdI (factF ⟨w, [], w, []⟩) o ks ∧ ks.length ≤ 1048576) : Calls Tryz.prog 178 #[.slice o ks.length cap, .int .i64 k] w fun e w' => e = .returned (.bool (decide (k ∈ ks))) ∧ RowKit.Below w.heap.size w w' := by
  refine (plain_of_vcs ⟨[indexC], []⟩ hmx Tryz.func178 rfl (by kernel_rfl) (args := [.slice o ks.length cap, .int .i64 k]) (by simp [Tryz.ntmps178]) w (· = .bool (decide (k ∈ ks))) 400 ?_).mono fun e w' ⟨v, h1, h2, h3⟩ => ⟨h2 ▸ h1, h3⟩
  obtain ⟨h, hl⟩ := hpre
  have e := findI_mem ks k 0
  simp (maxSteps := 4000000) -dsimp [-Y1, -Array.all_eq_true, -Y3, -Y4, and_assoc, Y5, Tryz.f178, indexC, indexC_rw ⟨h.mono (sub_now _ _), hl⟩, e]
def containsC_S : Reads Tryz.prog 178 where
  ι := ((Option Addr) × (Nat) × (List Int) × (Int))
  A := fun (i : ((Option Addr) × (Nat) × (List Int) × (Int))) => match i with | (o, cap, ks, k) => [.slice o ks.length cap, .int .i64 k]
  pre := fun (i : ((Option Addr) × (Nat) × (List Int) × (Int))) (F : Facts) => match i with | (o, cap, ks, k) => RdI F o ks ∧ ks.length ≤ 1048576
  res := fun (i : ((Option Addr) × (Nat) × (List Int) × (Int))) => match i with | (o, cap, ks, k) => .bool (decide (k ∈ ks))
  mono := by
    intro i F G hs h
    first | exact h | exact h.mono hs | exact ⟨h.1.mono hs, h.2⟩ | exact ⟨h.1.mono hs, h.2.1.mono hs, h.2.2⟩ | exact ⟨h.1.mono hs, h.2.1.mono hs⟩ | exact ⟨h.1.mono hs, h.2.1.mono hs, h.2.2.1.mono hs, h.2.2.2⟩
  uniq := by
    rintro ⟨o, cap, ks, k⟩ ⟨o', cap', ks', k'⟩ F hA h h'
    simp at hA
    (try simp only [Int.natCast_inj] at hA)
    obtain rfl : ks = ks' := RdI.uniq h.1 h'.1 (by simp_all) (by simp_all)
    simp_all
  enter := Tryz.call178
  h := fun i w hp => containsC_c i.1 i.2.1 i.2.2.1 i.2.2.2 w (by rw [factF_init]; exact hp)
def containsC : Con Tryz.prog := Con.read containsC_S
theorem containsC_rw {o : Option Addr} {cap : Nat} {ks : List Int} {k : Int} {d : Nat} {cx : Cx} {mem : List Blk} {K : C → Prop} (hpre : RdI (nowF cx mem) o ks ∧ ks.length ≤ 1048576) : ReadV d containsC_S cx [.v (.slice o ks.length cap), .v (.int .i64 k)] mem K = K (.v (.bool (decide (k ∈ ks)))) := containsC_S.eq (o, cap, ks, k) rfl hpre
theorem isKindC_c (k n p : Int) (o : Option Addr) (cap : Nat) (ks : List Int) (w : World) (hpre : RdI (factF ⟨w, [], w, []⟩) o ks ∧ ks.length ≤ 1048576) : Calls Tryz.prog 109 #[.agg #[.int .i64 k, .int .i64 n, .int .i64 p], .slice o ks.length cap] w fun e w' => e = .returned (.bool (decide (k ∈ ks))) ∧ RowKit.Below w.heap.size w w' := by
  refine (plain_of_vcs ⟨[containsC], []⟩ hmx Tryz.func109 rfl (by kernel_rfl) (args := [.agg #[.int .i64 k, .int .i64 n, .int .i64 p], .slice o ks.length cap]) (by simp [Tryz.ntmps109]) w (· = .bool (decide (k ∈ ks))) 400 ?_).mono fun e w' ⟨v, h1, h2, h3⟩ => ⟨h2 ▸ h1, h3⟩
  obtain ⟨h, hl⟩ := hpre
  simp (maxSteps := 4000000) -dsimp [-Y1, -Array.all_eq_true, -Y3, -Y4, and_assoc, Y5, Tryz.f109, containsC, containsC_rw ⟨h.mono (sub_now _ _), hl⟩]
def isKindC_S : Reads Tryz.prog 109 where
  ι := ((Int) × (Int) × (Int) × (Option Addr) × (Nat) × (List Int))
  A := fun (i : ((Int) × (Int) × (Int) × (Option Addr) × (Nat) × (List Int))) => match i with | (k, n, p, o, cap, ks) => [.agg #[.int .i64 k, .int .i64 n, .int .i64 p], .slice o ks.length cap]
  pre := fun (i : ((Int) × (Int) × (Int) × (Option Addr) × (Nat) × (List Int))) (F : Facts) => match i with | (k, n, p, o, cap, ks) => RdI F o ks ∧ ks.length ≤ 1048576
  res := fun (i : ((Int) × (Int) × (Int) × (Option Addr) × (Nat) × (List Int))) => match i with | (k, n, p, o, cap, ks) => .bool (decide (k ∈ ks))
  mono := by
    intro i F G hs h
    first | exact h | exact h.mono hs | exact ⟨h.1.mono hs, h.2⟩ | exact ⟨h.1.mono hs, h.2.1.mono hs, h.2.2⟩ | exact ⟨h.1.mono hs, h.2.1.mono hs⟩ | exact ⟨h.1.mono hs, h.2.1.mono hs, h.2.2.1.mono hs, h.2.2.2⟩
  uniq := by
    rintro ⟨k, n, p, o, cap, ks⟩ ⟨k', n', p', o', cap', ks'⟩ F hA h h'
    simp at hA
    (try simp only [Int.natCast_inj] at hA)
    obtain rfl : ks = ks' := RdI.uniq h.1 h'.1 (by simp_all) (by simp_all)
    simp_all
  enter := Tryz.call109
  h := fun i w hp => isKindC_c i.1 i.2.1 i.2.2.1 i.2.2.2.1 i.2.2.2.2.1 i.2.2.2.2.2 w (by rw [factF_init]; exact hp)
def isKindC : Con Tryz.prog := Con.read isKindC_S
theorem isKindC_rw {k n p : Int} {o : Option Addr} {cap : Nat} {ks : List Int} {d : Nat} {cx : Cx} {mem : List Blk} {K : C → Prop} (hpre : RdI (nowF cx mem) o ks ∧ ks.length ≤ 1048576) : ReadV d isKindC_S cx [.v (.agg #[.int .i64 k, .int .i64 n, .int .i64 p]), .v (.slice o ks.length cap)] mem K = K (.v (.bool (decide (k ∈ ks)))) := isKindC_S.eq (k, n, p, o, cap, ks) rfl hpre

theorem isBitC_c (k n p : Int) (w : World) : Calls Tryz.prog 101 #[.agg #[.int .i64 k, .int .i64 n, .int .i64 p]] w fun e w' => e = .returned (.bool (isBit ⟨k, n, p⟩)) ∧ RowKit.Below w.heap.size w w' := by
  refine (plain_of_vcs ⟨[devOkC], []⟩ hmx Tryz.func101 rfl (by kernel_rfl) (args := [.agg #[.int .i64 k, .int .i64 n, .int .i64 p]]) (by simp [Tryz.ntmps101]) w (· = .bool (isBit ⟨k, n, p⟩)) 400 ?_).mono fun e w' ⟨v, h1, h2, h3⟩ => ⟨h2 ▸ h1, h3⟩
  by_cases h : k = 1 ∨ k = 2 ∨ k = 3 ∨ k = 4 ∨ k = 6 ∨ k = 7 ∨ k = 8
  · obtain rfl | rfl | rfl | rfl | rfl | rfl | rfl := h <;> simp (maxSteps := 4000000) -dsimp [-Y1, -Array.all_eq_true, -Y3, -Y4, and_assoc, Y5, Tryz.f101, devOkC, isBit, dOk]
  · have g : k ≠ 1 ∧ k ≠ 2 ∧ k ≠ 3 ∧ k ≠ 4 ∧ k ≠ 6 ∧ k ≠ 7 ∧ k ≠ 8 := by omega
    simp (maxSteps := 4000000) -dsimp [-Y1, -Array.all_eq_true, -Y3, -Y4, and_assoc, Y5, Tryz.f101, devOkC, isBit, dOk, g]
def isBitC : Con Tryz.prog := Con.pure 101 Tryz.call101 (fun (i : ((Int) × (Int) × (Int))) => match i with | (k, n, p) => [.agg #[.int .i64 k, .int .i64 n, .int .i64 p]]) (fun (i : ((Int) × (Int) × (Int))) => match i with | (k, n, p) => True) (fun (i : ((Int) × (Int) × (Int))) => match i with | (k, n, p) => .bool (isBit ⟨k, n, p⟩)) fun i w _ => isBitC_c i.1 i.2.1 i.2.2 w
theorem isWhlC_c (k n p : Int) (w : World) : Calls Tryz.prog 106 #[.agg #[.int .i64 k, .int .i64 n, .int .i64 p]] w fun e w' => e = .returned (.bool (isWhl ⟨k, n, p⟩)) ∧ RowKit.Below w.heap.size w w' := by
  refine (plain_of_vcs ⟨[devOkC], []⟩ hmx Tryz.func106 rfl (by kernel_rfl) (args := [.agg #[.int .i64 k, .int .i64 n, .int .i64 p]]) (by simp [Tryz.ntmps106]) w (· = .bool (isWhl ⟨k, n, p⟩)) 400 ?_).mono fun e w' ⟨v, h1, h2, h3⟩ => ⟨h2 ▸ h1, h3⟩
  by_cases h : k = 7 ∨ k = 8 ∨ k = 9 ∨ k = 11
  · obtain rfl | rfl | rfl | rfl := h <;> simp (maxSteps := 4000000) -dsimp [-Y1, -Array.all_eq_true, -Y3, -Y4, and_assoc, Y5, Tryz.f106, devOkC, isWhl, dOk]
  · have g : k ≠ 7 ∧ k ≠ 8 ∧ k ≠ 9 ∧ k ≠ 11 := by omega
    simp (maxSteps := 4000000) -dsimp [-Y1, -Array.all_eq_true, -Y3, -Y4, and_assoc, Y5, Tryz.f106, devOkC, isWhl, dOk, g]
def isWhlC : Con Tryz.prog := Con.pure 106 Tryz.call106 (fun (i : ((Int) × (Int) × (Int))) => match i with | (k, n, p) => [.agg #[.int .i64 k, .int .i64 n, .int .i64 p]]) (fun (i : ((Int) × (Int) × (Int))) => match i with | (k, n, p) => True) (fun (i : ((Int) × (Int) × (Int))) => match i with | (k, n, p) => .bool (isWhl ⟨k, n, p⟩)) fun i w _ => isWhlC_c i.1 i.2.1 i.2.2 w
theorem isRlC_c (k n p : Int) (w : World) : Calls Tryz.prog 108 #[.agg #[.int .i64 k, .int .i64 n, .int .i64 p]] w fun e w' => e = .returned (.bool (isRl ⟨k, n, p⟩)) ∧ RowKit.Below w.heap.size w w' := by
  refine (plain_of_vcs ⟨[devOkC], []⟩ hmx Tryz.func108 rfl (by kernel_rfl) (args := [.agg #[.int .i64 k, .int .i64 n, .int .i64 p]]) (by simp [Tryz.ntmps108]) w (· = .bool (isRl ⟨k, n, p⟩)) 400 ?_).mono fun e w' ⟨v, h1, h2, h3⟩ => ⟨h2 ▸ h1, h3⟩
  by_cases h : k = 10 ∨ k = 12 ∨ k = 13
  · obtain rfl | rfl | rfl := h <;> simp (maxSteps := 4000000) -dsimp [-Y1, -Array.all_eq_true, -Y3, -Y4, and_assoc, Y5, Tryz.f108, devOkC, isRl, dOk]
  · have g : k ≠ 10 ∧ k ≠ 12 ∧ k ≠ 13 := by omega
    simp (maxSteps := 4000000) -dsimp [-Y1, -Array.all_eq_true, -Y3, -Y4, and_assoc, Y5, Tryz.f108, devOkC, isRl, dOk, g]
def isRlC : Con Tryz.prog := Con.pure 108 Tryz.call108 (fun (i : ((Int) × (Int) × (Int))) => match i with | (k, n, p) => [.agg #[.int .i64 k, .int .i64 n, .int .i64 p]]) (fun (i : ((Int) × (Int) × (Int))) => match i with | (k, n, p) => True) (fun (i : ((Int) × (Int) × (Int))) => match i with | (k, n, p) => .bool (isRl ⟨k, n, p⟩)) fun i w _ => isRlC_c i.1 i.2.1 i.2.2 w
theorem isConOpC_c (op : Int) (w : World) : Calls Tryz.prog 99 #[.int .i64 op] w fun e w' => e = .returned (.bool (decide (1 ≤ op ∧ op ≤ 10))) ∧ RowKit.Below w.heap.size w w' := by
  refine (plain_of_vcs ⟨[withinC], []⟩ hmx Tryz.func99 rfl (by kernel_rfl) (args := [.int .i64 op]) (by simp [Tryz.ntmps99]) w (· = .bool (decide (1 ≤ op ∧ op ≤ 10))) 400 ?_).mono fun e w' ⟨v, h1, h2, h3⟩ => ⟨h2 ▸ h1, h3⟩
  simp (maxSteps := 4000000) -dsimp [-Y1, -Array.all_eq_true, -Y3, -Y4, and_assoc, Y5, Tryz.f99, withinC]
def isConOpC : Con Tryz.prog := Con.pure 99 Tryz.call99 (fun (op : ((Int))) => [.int .i64 op]) (fun (op : ((Int))) => True) (fun (op : ((Int))) => .bool (decide (1 ≤ op ∧ op ≤ 10))) fun op w _ => isConOpC_c op w
theorem isCoilOpC_c (op : Int) (w : World) : Calls Tryz.prog 103 #[.int .i64 op] w fun e w' => e = .returned (.bool (decide (21 ≤ op ∧ op ≤ 37))) ∧ RowKit.Below w.heap.size w w' := by
  refine (plain_of_vcs ⟨[withinC], []⟩ hmx Tryz.func103 rfl (by kernel_rfl) (args := [.int .i64 op]) (by simp [Tryz.ntmps103]) w (· = .bool (decide (21 ≤ op ∧ op ≤ 37))) 400 ?_).mono fun e w' ⟨v, h1, h2, h3⟩ => ⟨h2 ▸ h1, h3⟩
  simp (maxSteps := 4000000) -dsimp [-Y1, -Array.all_eq_true, -Y3, -Y4, and_assoc, Y5, Tryz.f103, withinC]
def isCoilOpC : Con Tryz.prog := Con.pure 103 Tryz.call103 (fun (op : ((Int))) => [.int .i64 op]) (fun (op : ((Int))) => True) (fun (op : ((Int))) => .bool (decide (21 ≤ op ∧ op ≤ 37))) fun op w _ => isCoilOpC_c op w
theorem arityC_c (op : Int) (w : World) : Calls Tryz.prog 175 #[.int .i64 op] w fun e w' => e = .returned (.int .i64 (arity op)) ∧ RowKit.Below w.heap.size w w' := by
  refine (plain_of_vcs ⟨[isConOpC, isCoilOpC], []⟩ hmx Tryz.func175 rfl (by kernel_rfl) (args := [.int .i64 op]) (by simp [Tryz.ntmps175]) w (· = .int .i64 (arity op)) 400 ?_).mono fun e w' ⟨v, h1, h2, h3⟩ => ⟨h2 ▸ h1, h3⟩
  have wz : ∀ j : Int, 0 ≤ j → j < 100 → IntKind.i64.wrap j = j := fun j a b => wrap_i64 (by omega) (by omega)
  by_cases h : 1 ≤ op ∧ op ≤ 10
  · obtain rfl | rfl | rfl | rfl | rfl | rfl | rfl | rfl | rfl | rfl : op = 1 ∨ op = 2 ∨ op = 3 ∨ op = 4 ∨ op = 5 ∨ op = 6 ∨ op = 7 ∨ op = 8 ∨ op = 9 ∨ op = 10 := by omega
    all_goals simp (maxSteps := 4000000) -dsimp [-Y1, -Array.all_eq_true, -Y3, -Y4, and_assoc, Y5, Tryz.f175, isConOpC, isCoilOpC, arity, wz]
  · by_cases g : 21 ≤ op ∧ op ≤ 37
    · obtain rfl | rfl | rfl | rfl | rfl | rfl | rfl | rfl | rfl | rfl | rfl | rfl | rfl | rfl | rfl | rfl | rfl : op = 21 ∨ op = 22 ∨ op = 23 ∨ op = 24 ∨ op = 25 ∨ op = 26 ∨ op = 27 ∨ op = 28 ∨ op = 29 ∨ op = 30 ∨ op = 31 ∨ op = 32 ∨ op = 33 ∨ op = 34 ∨ op = 35 ∨ op = 36 ∨ op = 37 := by omega
      all_goals simp (maxSteps := 4000000) -dsimp [-Y1, -Array.all_eq_true, -Y3, -Y4, and_assoc, Y5, Tryz.f175, isConOpC, isCoilOpC, arity, wz]
    · have e : arity op = 0 := by unfold arity; rw [if_neg (by omega), if_neg (by omega), if_neg (by omega)]
      simp (maxSteps := 4000000) -dsimp [-Y1, -Array.all_eq_true, -Y3, -Y4, and_assoc, Y5, Tryz.f175, isConOpC, isCoilOpC, h, g, e]
      exact ⟨fun a b => absurd ⟨a, b⟩ h, fun _ a b => absurd ⟨a, b⟩ g⟩
def arityC : Con Tryz.prog := Con.pure 175 Tryz.call175 (fun (op : ((Int))) => [.int .i64 op]) (fun (op : ((Int))) => True) (fun (op : ((Int))) => .int .i64 (arity op)) fun op w _ => arityC_c op w
theorem notOkC_c (k n p : Int) (w : World) : Calls Tryz.prog 176 #[.agg #[.int .i64 k, .int .i64 n, .int .i64 p]] w fun e w' => e = .returned (.bool (!dOk ⟨k, n, p⟩)) ∧ RowKit.Below w.heap.size w w' := by
  refine (plain_of_vcs ⟨[devOkC], []⟩ hmx Tryz.func176 rfl (by kernel_rfl) (args := [.agg #[.int .i64 k, .int .i64 n, .int .i64 p]]) (by simp [Tryz.ntmps176]) w (· = .bool (!dOk ⟨k, n, p⟩)) 400 ?_).mono fun e w' ⟨v, h1, h2, h3⟩ => ⟨h2 ▸ h1, h3⟩
  simp (maxSteps := 4000000) -dsimp [-Y1, -Array.all_eq_true, -Y3, -Y4, and_assoc, Y5, Tryz.f176, devOkC, dOk]
def notOkC : Con Tryz.prog := Con.pure 176 Tryz.call176 (fun (i : ((Int) × (Int) × (Int))) => match i with | (k, n, p) => [.agg #[.int .i64 k, .int .i64 n, .int .i64 p]]) (fun (i : ((Int) × (Int) × (Int))) => match i with | (k, n, p) => True) (fun (i : ((Int) × (Int) × (Int))) => match i with | (k, n, p) => .bool (!dOk ⟨k, n, p⟩)) fun i w _ => notOkC_c i.1 i.2.1 i.2.2 w
theorem notWhlC_c (k n p : Int) (w : World) : Calls Tryz.prog 105 #[.agg #[.int .i64 k, .int .i64 n, .int .i64 p]] w fun e w' => e = .returned (.bool (!isWhl ⟨k, n, p⟩)) ∧ RowKit.Below w.heap.size w w' := by
  refine (plain_of_vcs ⟨[isWhlC], []⟩ hmx Tryz.func105 rfl (by kernel_rfl) (args := [.agg #[.int .i64 k, .int .i64 n, .int .i64 p]]) (by simp [Tryz.ntmps105]) w (· = .bool (!isWhl ⟨k, n, p⟩)) 400 ?_).mono fun e w' ⟨v, h1, h2, h3⟩ => ⟨h2 ▸ h1, h3⟩
  simp (maxSteps := 4000000) -dsimp [-Y1, -Array.all_eq_true, -Y3, -Y4, and_assoc, Y5, Tryz.f105, isWhlC]
def notWhlC : Con Tryz.prog := Con.pure 105 Tryz.call105 (fun (i : ((Int) × (Int) × (Int))) => match i with | (k, n, p) => [.agg #[.int .i64 k, .int .i64 n, .int .i64 p]]) (fun (i : ((Int) × (Int) × (Int))) => match i with | (k, n, p) => True) (fun (i : ((Int) × (Int) × (Int))) => match i with | (k, n, p) => .bool (!isWhl ⟨k, n, p⟩)) fun i w _ => notWhlC_c i.1 i.2.1 i.2.2 w
theorem notRlC_c (k n p : Int) (w : World) : Calls Tryz.prog 107 #[.agg #[.int .i64 k, .int .i64 n, .int .i64 p]] w fun e w' => e = .returned (.bool (!isRl ⟨k, n, p⟩)) ∧ RowKit.Below w.heap.size w w' := by
  refine (plain_of_vcs ⟨[isRlC], []⟩ hmx Tryz.func107 rfl (by kernel_rfl) (args := [.agg #[.int .i64 k, .int .i64 n, .int .i64 p]]) (by simp [Tryz.ntmps107]) w (· = .bool (!isRl ⟨k, n, p⟩)) 400 ?_).mono fun e w' ⟨v, h1, h2, h3⟩ => ⟨h2 ▸ h1, h3⟩
  simp (maxSteps := 4000000) -dsimp [-Y1, -Array.all_eq_true, -Y3, -Y4, and_assoc, Y5, Tryz.f107, isRlC]
def notRlC : Con Tryz.prog := Con.pure 107 Tryz.call107 (fun (i : ((Int) × (Int) × (Int))) => match i with | (k, n, p) => [.agg #[.int .i64 k, .int .i64 n, .int .i64 p]]) (fun (i : ((Int) × (Int) × (Int))) => match i with | (k, n, p) => True) (fun (i : ((Int) × (Int) × (Int))) => match i with | (k, n, p) => .bool (!isRl ⟨k, n, p⟩)) fun i w _ => notRlC_c i.1 i.2.1 i.2.2 w
def badF (f : Nat) (d : Dev) : Bool := if f = 176 then !dOk d else if f = 105 then !isWhl d else !isRl d
theorem indexFuncC_c (o : Option Addr) (cap : Nat) (xs : List Dev) (f : Nat) (w : World) (hpre : RdD (factF ⟨w, [], w, []⟩) o xs ∧ xs.length ≤ 1048576 ∧ (f = 176 ∨ f = 105 ∨ f = 107)) : Calls Tryz.prog 177 #[.slice o xs.length cap, .func (.func f) #[] #[]] w fun e w' => e = .returned (.int .i64 (fIdx (badF f) xs 0)) ∧ RowKit.Below w.heap.size w w' := by
  refine (plain_of_vcs ⟨[notOkC, notWhlC, notRlC], []⟩ hmx Tryz.func177 rfl (by kernel_rfl) (args := [.slice o xs.length cap, .func (.func f) #[] #[]]) (by simp [Tryz.ntmps177]) w (· = .int .i64 (fIdx (badF f) xs 0)) 400 ?_).mono fun e w' ⟨v, h1, h2, h3⟩ => ⟨h2 ▸ h1, h3⟩
  obtain ⟨h, hl, hf⟩ := hpre
  simp (maxSteps := 4000000) -dsimp [-Y1, -Array.all_eq_true, -Y3, -Y4, and_assoc, Y5, Tryz.f177, notOkC, notWhlC, notRlC]
  refine loop_inv (σ := ⟨[notOkC, notWhlC, notRlC], []⟩) hmx (by kernel_rfl) (fun m cx tm mem => cx = ⟨w, [], w, []⟩ ∧ mem = [] ∧ ∃ i : Nat, i ≤ xs.length ∧ m = xs.length - i ∧ fIdx (badF f) xs 0 = fIdx (badF f) (xs.drop i) i ∧ Sx.look tm 8 = .v (.int .i64 i) ∧ Sx.look tm 7 = .v (.int .i64 xs.length) ∧ Sx.look tm 0 = .v (.slice o xs.length cap) ∧ Sx.look tm 1 = .v (.func (.func f) #[] #[]))
    xs.length ⟨rfl, rfl, 0, by omega, rfl, rfl, by simp [Sx.look], by simp [Sx.look], by simp [Sx.look], by simp [Sx.look]⟩ ?_
  rintro m cx tm mem ⟨rfl, rfl, i, hi, rfl, hx, h8, h7, h0, h1⟩
  refine ⟨300, ?_⟩
  by_cases hlt : i < xs.length
  · obtain ⟨x, hxi⟩ : ∃ x, xs[i]? = some x := ⟨xs[i], by simp [hlt]⟩
    rw [fIdx_drop hxi] at hx
    by_cases hb : badF f x = true
    · rw [if_pos hb] at hx
      obtain rfl | rfl | rfl := hf
      all_goals
        have hb' := hb
        simp only [badF] at hb'
        simp at hb'
        simp (maxSteps := 4000000) -dsimp [-Y1, -Array.all_eq_true, -Y3, -Y4, and_assoc, Y5, Tryz.f177, notOkC, notWhlC, notRlC, h8, h7, h0, h1, hlt, i_succ (i := i) (by omega), h.there hlt, h.ld _ _ hxi, hb', hx]
    · rw [if_neg hb] at hx
      have em : ∃ m', m' < xs.length - i ∧ ∃ i_1 : Nat, i_1 ≤ xs.length ∧ m' = xs.length - i_1 ∧ fIdx (badF f) xs 0 = fIdx (badF f) (xs.drop i_1) i_1 ∧ (i : Int) + 1 = i_1 := ⟨_, by omega, i + 1, by omega, rfl, hx, by omega⟩
      obtain rfl | rfl | rfl := hf
      all_goals
        have hb' := hb
        simp only [badF] at hb'
        simp at hb'
        simp (maxSteps := 4000000) -dsimp [-Y1, -Array.all_eq_true, -Y3, -Y4, and_assoc, Y5, Tryz.f177, notOkC, notWhlC, notRlC, h8, h7, h0, h1, hlt, i_succ (i := i) (by omega), h.there hlt, h.ld _ _ hxi, hb']
        simpa using em
  · obtain rfl : i = xs.length := by omega
    rw [List.drop_length, fIdx] at hx
    simp (maxSteps := 4000000) -dsimp [-Y1, -Array.all_eq_true, -Y3, -Y4, and_assoc, Y5, Tryz.f177, notOkC, notWhlC, notRlC, h8, h7, h0, h1, hx]
def indexFuncC_S : Reads Tryz.prog 177 where
  ι := ((Option Addr) × (Nat) × (List Dev) × (Nat))
  A := fun (i : ((Option Addr) × (Nat) × (List Dev) × (Nat))) => match i with | (o, cap, xs, f) => [.slice o xs.length cap, .func (.func f) #[] #[]]
  pre := fun (i : ((Option Addr) × (Nat) × (List Dev) × (Nat))) (F : Facts) => match i with | (o, cap, xs, f) => RdD F o xs ∧ xs.length ≤ 1048576 ∧ (f = 176 ∨ f = 105 ∨ f = 107)
  res := fun (i : ((Option Addr) × (Nat) × (List Dev) × (Nat))) => match i with | (o, cap, xs, f) => .int .i64 (fIdx (badF f) xs 0)
  mono := by
    intro i F G hs h
    first | exact h | exact h.mono hs | exact ⟨h.1.mono hs, h.2⟩ | exact ⟨h.1.mono hs, h.2.1.mono hs, h.2.2⟩ | exact ⟨h.1.mono hs, h.2.1.mono hs⟩ | exact ⟨h.1.mono hs, h.2.1.mono hs, h.2.2.1.mono hs, h.2.2.2⟩
  uniq := by
    rintro ⟨o, cap, xs, f⟩ ⟨o', cap', xs', f'⟩ F hA h h'
    simp at hA
    (try simp only [Int.natCast_inj] at hA)
    obtain rfl : xs = xs' := RdD.uniq h.1 h'.1 (by simp_all) (by simp_all)
    simp_all
  enter := Tryz.call177
  h := fun i w hp => indexFuncC_c i.1 i.2.1 i.2.2.1 i.2.2.2 w (by rw [factF_init]; exact hp)
def indexFuncC : Con Tryz.prog := Con.read indexFuncC_S
theorem indexFuncC_rw {o : Option Addr} {cap : Nat} {xs : List Dev} {f : Nat} {d : Nat} {cx : Cx} {mem : List Blk} {K : C → Prop} (hpre : RdD (nowF cx mem) o xs ∧ xs.length ≤ 1048576 ∧ (f = 176 ∨ f = 105 ∨ f = 107)) : ReadV d indexFuncC_S cx [.v (.slice o xs.length cap), .v (.func (.func f) #[] #[])] mem K = K (.v (.int .i64 (fIdx (badF f) xs 0))) := indexFuncC_S.eq (o, cap, xs, f) rfl hpre
theorem containsFuncC_c (o : Option Addr) (cap : Nat) (xs : List Dev) (f : Nat) (w : World) (hpre : RdD (factF ⟨w, [], w, []⟩) o xs ∧ xs.length ≤ 1048576 ∧ (f = 176 ∨ f = 105 ∨ f = 107)) : Calls Tryz.prog 104 #[.slice o xs.length cap, .func (.func f) #[] #[]] w fun e w' => e = .returned (.bool (xs.any (badF f))) ∧ RowKit.Below w.heap.size w w' := by
  refine (plain_of_vcs ⟨[indexFuncC], []⟩ hmx Tryz.func104 rfl (by kernel_rfl) (args := [.slice o xs.length cap, .func (.func f) #[] #[]]) (by simp [Tryz.ntmps104]) w (· = .bool (xs.any (badF f))) 400 ?_).mono fun e w' ⟨v, h1, h2, h3⟩ => ⟨h2 ▸ h1, h3⟩
  obtain ⟨h, hl, hf⟩ := hpre
  have e := fIdx_any (badF f) xs 0 (by decide)
  generalize xs.any (badF f) = q at *
  simp (maxSteps := 4000000) -dsimp [-Y1, -Array.all_eq_true, -Y3, -Y4, and_assoc, Y5, Tryz.f104, indexFuncC, indexFuncC_rw ⟨h.mono (sub_now _ _), hl, hf⟩]
  cases q <;> simp at e ⊢ <;> omega
def containsFuncC_S : Reads Tryz.prog 104 where
  ι := ((Option Addr) × (Nat) × (List Dev) × (Nat))
  A := fun (i : ((Option Addr) × (Nat) × (List Dev) × (Nat))) => match i with | (o, cap, xs, f) => [.slice o xs.length cap, .func (.func f) #[] #[]]
  pre := fun (i : ((Option Addr) × (Nat) × (List Dev) × (Nat))) (F : Facts) => match i with | (o, cap, xs, f) => RdD F o xs ∧ xs.length ≤ 1048576 ∧ (f = 176 ∨ f = 105 ∨ f = 107)
  res := fun (i : ((Option Addr) × (Nat) × (List Dev) × (Nat))) => match i with | (o, cap, xs, f) => .bool (xs.any (badF f))
  mono := by
    intro i F G hs h
    first | exact h | exact h.mono hs | exact ⟨h.1.mono hs, h.2⟩ | exact ⟨h.1.mono hs, h.2.1.mono hs, h.2.2⟩ | exact ⟨h.1.mono hs, h.2.1.mono hs⟩ | exact ⟨h.1.mono hs, h.2.1.mono hs, h.2.2.1.mono hs, h.2.2.2⟩
  uniq := by
    rintro ⟨o, cap, xs, f⟩ ⟨o', cap', xs', f'⟩ F hA h h'
    simp at hA
    (try simp only [Int.natCast_inj] at hA)
    obtain rfl : xs = xs' := RdD.uniq h.1 h'.1 (by simp_all) (by simp_all)
    simp_all
  enter := Tryz.call104
  h := fun i w hp => containsFuncC_c i.1 i.2.1 i.2.2.1 i.2.2.2 w (by rw [factF_init]; exact hp)
def containsFuncC : Con Tryz.prog := Con.read containsFuncC_S
theorem containsFuncC_rw {o : Option Addr} {cap : Nat} {xs : List Dev} {f : Nat} {d : Nat} {cx : Cx} {mem : List Blk} {K : C → Prop} (hpre : RdD (nowF cx mem) o xs ∧ xs.length ≤ 1048576 ∧ (f = 176 ∨ f = 105 ∨ f = 107)) : ReadV d containsFuncC_S cx [.v (.slice o xs.length cap), .v (.func (.func f) #[] #[])] mem K = K (.v (.bool (xs.any (badF f)))) := containsFuncC_S.eq (o, cap, xs, f) rfl hpre

theorem any_ok (xs : List Dev) : xs.any (badF 176) = !xs.all dOk := by
  induction xs with
  | nil => rfl
  | cons x r ih => rw [List.any_cons, List.all_cons, ih, Bool.not_and]; rfl
theorem any_whl (xs : List Dev) : xs.any (badF 105) = !xs.all isWhl := by
  induction xs with
  | nil => rfl
  | cons x r ih => rw [List.any_cons, List.all_cons, ih, Bool.not_and]; rfl
theorem any_rl (xs : List Dev) : xs.any (badF 107) = !xs.all isRl := by
  induction xs with
  | nil => rfl
  | cons x r ih => rw [List.any_cons, List.all_cons, ih, Bool.not_and]; rfl
theorem all_snoc {g : Dev → Bool} {xs : List Dev} {i : Nat} {x : Dev} (hx : xs[i]? = some x) : (xs.take (i + 1)).all g = ((xs.take i).all g && g x) := by
  rw [List.take_add_one, hx, List.all_append]; simp

def wS (xs : List Dev) (i : Nat) : Bool := (xs.take i).all isWhl
def rS (xs : List Dev) (i : Nat) : Bool := (xs.take i).all isRl
theorem bothB_eq (xs : List Dev) : bothB xs = (wS xs xs.length || rS xs xs.length) := by unfold bothB wS rS; rw [List.take_length]
theorem argsOkC_c (op : Int) (o : Option Addr) (cap : Nat) (xs : List Dev) (w : World) (hpre : RdD (factF ⟨w, [], w, []⟩) o xs ∧ xs.length ≤ 1048576) : Calls Tryz.prog 100 #[.agg #[.int .i64 op, .slice o xs.length cap]] w fun e w' => e = .returned (.bool (decide ((xs.length : Int) = arity op) && xs.all dOk)) ∧ RowKit.Below w.heap.size w w' := by
  refine (plain_of_vcs ⟨[arityC, containsFuncC], []⟩ hmx Tryz.func100 rfl (by kernel_rfl) (args := [.agg #[.int .i64 op, .slice o xs.length cap]]) (by simp [Tryz.ntmps100]) w (· = .bool (decide ((xs.length : Int) = arity op) && xs.all dOk)) 400 ?_).mono fun e w' ⟨v, h1, h2, h3⟩ => ⟨h2 ▸ h1, h3⟩
  obtain ⟨h, hl⟩ := hpre
  have z := fun d mem K => containsFuncC_rw (cap := cap) (d := d) (cx := ⟨w, [], w, []⟩) (mem := mem) (K := K) (f := 176) ⟨h.mono (sub_now _ _), hl, Or.inl rfl⟩
  by_cases ha : (xs.length : Int) = arity op
  · simp (maxSteps := 4000000) -dsimp [-Y1, -Array.all_eq_true, -Y3, -Y4, and_assoc, Y5, Tryz.f100, arityC, containsFuncC, z, ha, any_ok]
  · simp (maxSteps := 4000000) -dsimp [-Y1, -Array.all_eq_true, -Y3, -Y4, and_assoc, Y5, Tryz.f100, arityC, containsFuncC, z, ha, any_ok]
def argsOkC_S : Reads Tryz.prog 100 where
  ι := ((Int) × (Option Addr) × (Nat) × (List Dev))
  A := fun (i : ((Int) × (Option Addr) × (Nat) × (List Dev))) => match i with | (op, o, cap, xs) => [.agg #[.int .i64 op, .slice o xs.length cap]]
  pre := fun (i : ((Int) × (Option Addr) × (Nat) × (List Dev))) (F : Facts) => match i with | (op, o, cap, xs) => RdD F o xs ∧ xs.length ≤ 1048576
  res := fun (i : ((Int) × (Option Addr) × (Nat) × (List Dev))) => match i with | (op, o, cap, xs) => .bool (decide ((xs.length : Int) = arity op) && xs.all dOk)
  mono := by
    intro i F G hs h
    first | exact h | exact h.mono hs | exact ⟨h.1.mono hs, h.2⟩ | exact ⟨h.1.mono hs, h.2.1.mono hs, h.2.2⟩ | exact ⟨h.1.mono hs, h.2.1.mono hs⟩ | exact ⟨h.1.mono hs, h.2.1.mono hs, h.2.2.1.mono hs, h.2.2.2⟩
  uniq := by
    rintro ⟨op, o, cap, xs⟩ ⟨op', o', cap', xs'⟩ F hA h h'
    simp at hA
    (try simp only [Int.natCast_inj] at hA)
    obtain rfl : xs = xs' := RdD.uniq h.1 h'.1 (by simp_all) (by simp_all)
    simp_all
  enter := Tryz.call100
  h := fun i w hp => argsOkC_c i.1 i.2.1 i.2.2.1 i.2.2.2 w (by rw [factF_init]; exact hp)
def argsOkC : Con Tryz.prog := Con.read argsOkC_S
theorem argsOkC_rw {op : Int} {o : Option Addr} {cap : Nat} {xs : List Dev} {d : Nat} {cx : Cx} {mem : List Blk} {K : C → Prop} (hpre : RdD (nowF cx mem) o xs ∧ xs.length ≤ 1048576) : ReadV d argsOkC_S cx [.v (.agg #[.int .i64 op, .slice o xs.length cap])] mem K = K (.v (.bool (decide ((xs.length : Int) = arity op) && xs.all dOk))) := argsOkC_S.eq (op, o, cap, xs) rfl hpre
theorem bothOfC_c (o : Option Addr) (cap : Nat) (xs : List Dev) (w : World) (hpre : RdD (factF ⟨w, [], w, []⟩) o xs ∧ xs.length ≤ 1048576) : Calls Tryz.prog 102 #[.slice o xs.length cap] w fun e w' => e = .returned (.bool (bothB xs)) ∧ RowKit.Below w.heap.size w w' := by
  refine (plain_of_vcs ⟨[isWhlC, isRlC], []⟩ hmx Tryz.func102 rfl (by kernel_rfl) (args := [.slice o xs.length cap]) (by simp [Tryz.ntmps102]) w (· = .bool (bothB xs)) 400 ?_).mono fun e w' ⟨v, h1, h2, h3⟩ => ⟨h2 ▸ h1, h3⟩
  obtain ⟨h, hl⟩ := hpre
  simp (maxSteps := 4000000) -dsimp [-Y1, -Array.all_eq_true, -Y3, -Y4, and_assoc, Y5, Tryz.f102, isWhlC, isRlC]
  refine loop_inv (σ := ⟨[isWhlC, isRlC], []⟩) hmx (by kernel_rfl) (fun m cx tm mem => cx = ⟨w, [], w, []⟩ ∧ mem = [] ∧ ∃ (i : Nat) (p q : Bool), i ≤ xs.length ∧ m = xs.length - i ∧ p = wS xs i ∧ q = rS xs i ∧ Sx.look tm 9 = .v (.int .i64 i) ∧ Sx.look tm 8 = .v (.int .i64 xs.length) ∧ Sx.look tm 7 = .v (.slice o xs.length cap) ∧ Sx.look tm 3 = .v (.bool p) ∧ Sx.look tm 4 = .v (.bool q))
    xs.length ⟨rfl, rfl, 0, true, true, by omega, rfl, rfl, rfl, by simp [Sx.look], by simp [Sx.look], by simp [Sx.look], by simp [Sx.look], by simp [Sx.look]⟩ ?_
  rintro m cx tm mem ⟨rfl, rfl, i, p, q, hi, rfl, hp, hq, h9, h8, h7, h3, h4⟩
  refine ⟨300, ?_⟩
  by_cases hlt : i < xs.length
  · obtain ⟨x, hxi⟩ : ∃ x, xs[i]? = some x := ⟨xs[i], by simp [hlt]⟩
    have e1 := all_snoc (g := isWhl) hxi
    have e2 := all_snoc (g := isRl) hxi
    rw [show (xs.take i).all isWhl = p from hp.symm] at e1
    rw [show (xs.take i).all isRl = q from hq.symm] at e2
    have e1' : wS xs (i + 1) = (p && isWhl x) := e1
    have e2' : rS xs (i + 1) = (q && isRl x) := e2
    clear e1 e2
    cases p <;> cases q
    all_goals
      simp (maxSteps := 4000000) -dsimp [-Y1, -Array.all_eq_true, -Y3, -Y4, and_assoc, Y5, Tryz.f102, isWhlC, isRlC, h9, h8, h7, h3, h4, hlt, i_succ (i := i) (by omega), h.there hlt, h.ld _ _ hxi]
      refine ⟨0, _, ?_, rfl, i + 1, by omega, rfl, by omega, ?_, ?_⟩
      · omega
      · simp [e1']
      · simp [e2']
  · obtain rfl : i = xs.length := by omega
    have e := bothB_eq xs
    rw [← hp, ← hq] at e
    simp (maxSteps := 4000000) -dsimp [-Y1, -Array.all_eq_true, -Y3, -Y4, and_assoc, Y5, Tryz.f102, isWhlC, isRlC, h9, h8, h7, h3, h4, e]
    cases p <;> cases q <;> simp
def bothOfC_S : Reads Tryz.prog 102 where
  ι := ((Option Addr) × (Nat) × (List Dev))
  A := fun (i : ((Option Addr) × (Nat) × (List Dev))) => match i with | (o, cap, xs) => [.slice o xs.length cap]
  pre := fun (i : ((Option Addr) × (Nat) × (List Dev))) (F : Facts) => match i with | (o, cap, xs) => RdD F o xs ∧ xs.length ≤ 1048576
  res := fun (i : ((Option Addr) × (Nat) × (List Dev))) => match i with | (o, cap, xs) => .bool (bothB xs)
  mono := by
    intro i F G hs h
    first | exact h | exact h.mono hs | exact ⟨h.1.mono hs, h.2⟩ | exact ⟨h.1.mono hs, h.2.1.mono hs, h.2.2⟩ | exact ⟨h.1.mono hs, h.2.1.mono hs⟩ | exact ⟨h.1.mono hs, h.2.1.mono hs, h.2.2.1.mono hs, h.2.2.2⟩
  uniq := by
    rintro ⟨o, cap, xs⟩ ⟨o', cap', xs'⟩ F hA h h'
    simp at hA
    (try simp only [Int.natCast_inj] at hA)
    obtain rfl : xs = xs' := RdD.uniq h.1 h'.1 (by simp_all) (by simp_all)
    simp_all
  enter := Tryz.call102
  h := fun i w hp => bothOfC_c i.1 i.2.1 i.2.2 w (by rw [factF_init]; exact hp)
def bothOfC : Con Tryz.prog := Con.read bothOfC_S
theorem bothOfC_rw {o : Option Addr} {cap : Nat} {xs : List Dev} {d : Nat} {cx : Cx} {mem : List Blk} {K : C → Prop} (hpre : RdD (nowF cx mem) o xs ∧ xs.length ≤ 1048576) : ReadV d bothOfC_S cx [.v (.slice o xs.length cap)] mem K = K (.v (.bool (bothB xs))) := bothOfC_S.eq (o, cap, xs) rfl hpre

theorem iConC_c (op : Int) (o : Option Addr) (cap : Nat) (xs : List Dev) (w : World) (hpre : RdD (factF ⟨w, [], w, []⟩) o xs ∧ xs.length ≤ 1048576) : Calls Tryz.prog 39 #[.agg #[.int .i64 op, .slice o xs.length cap]] w fun e w' => e = .returned (.bool (conOk op xs)) ∧ RowKit.Below w.heap.size w w' := by
  refine (plain_of_vcs ⟨[isConOpC, argsOkC, isBitC, bothOfC], []⟩ hmx Tryz.func39 rfl (by kernel_rfl) (args := [.agg #[.int .i64 op, .slice o xs.length cap]]) (by simp [Tryz.ntmps39]) w (· = .bool (conOk op xs)) 400 ?_).mono fun e w' ⟨v, h1, h2, h3⟩ => ⟨h2 ▸ h1, h3⟩
  obtain ⟨h, hl⟩ := hpre
  have z := fun d mem K => argsOkC_rw (op := op) (cap := cap) (d := d) (cx := ⟨w, [], w, []⟩) (mem := mem) (K := K) ⟨h.mono (sub_now _ _), hl⟩
  have y := fun d mem K => bothOfC_rw (cap := cap) (d := d) (cx := ⟨w, [], w, []⟩) (mem := mem) (K := K) ⟨h.mono (sub_now _ _), hl⟩
  have e := conOk_eq op xs
  generalize hq : (decide ((xs.length : Int) = arity op) && xs.all dOk) = q at z e
  by_cases h1 : 1 ≤ op ∧ op ≤ 10
  · cases q
    · simp only [Bool.and_false, Bool.false_and] at e
      simp (maxSteps := 4000000) -dsimp [-Y1, -Array.all_eq_true, -Y3, -Y4, and_assoc, Y5, Tryz.f39, isConOpC, argsOkC, isBitC, bothOfC, z, e, h1]
    · simp only [h1, Bool.and_true, decide_true, Bool.true_and, and_self] at e
      simp only [Bool.and_eq_true, decide_eq_true_eq] at hq
      obtain rfl | rfl | rfl | rfl | h5 : op = 1 ∨ op = 2 ∨ op = 3 ∨ op = 4 ∨ 5 ≤ op := by omega
      · obtain ⟨a, rfl⟩ := list_one (by rw [hq.1]; rfl)
        have a0 := h.at0 (x := a) rfl
        simp only [List.length_cons, List.length_nil, Nat.zero_add, Nat.reduceAdd] at z
        simp (maxSteps := 4000000) -dsimp [-Y1, -Array.all_eq_true, -Y3, -Y4, and_assoc, Y5, Tryz.f39, isConOpC, argsOkC, isBitC, bothOfC, z, e, a0.there, a0.all, conB, xD]
      · obtain ⟨a, rfl⟩ := list_one (by rw [hq.1]; rfl)
        have a0 := h.at0 (x := a) rfl
        simp only [List.length_cons, List.length_nil, Nat.zero_add, Nat.reduceAdd] at z
        simp (maxSteps := 4000000) -dsimp [-Y1, -Array.all_eq_true, -Y3, -Y4, and_assoc, Y5, Tryz.f39, isConOpC, argsOkC, isBitC, bothOfC, z, e, a0.there, a0.all, conB, xD]
      · obtain ⟨a, b, rfl⟩ := list_two (by rw [hq.1]; rfl)
        have a0 := h.at0 (x := a) rfl
        have a1 := h.at1 (x := b) rfl
        simp only [List.length_cons, List.length_nil, Nat.zero_add, Nat.reduceAdd] at z
        simp (maxSteps := 4000000) -dsimp [-Y1, -Array.all_eq_true, -Y3, -Y4, and_assoc, Y5, Tryz.f39, isConOpC, argsOkC, isBitC, bothOfC, z, e, a0.there, a0.all, a1.there, a1.k, conB, xD]
        refine ⟨fun hb => ?_, fun hb hb' => absurd (hb'.symm.trans hb) (by simp)⟩
        rw [show isBit a = true from hb, Bool.true_and]; exact Bool.eq_iff_iff.mpr (by simp)
      · obtain ⟨a, b, rfl⟩ := list_two (by rw [hq.1]; rfl)
        have a0 := h.at0 (x := a) rfl
        have a1 := h.at1 (x := b) rfl
        simp only [List.length_cons, List.length_nil, Nat.zero_add, Nat.reduceAdd] at z
        simp (maxSteps := 4000000) -dsimp [-Y1, -Array.all_eq_true, -Y3, -Y4, and_assoc, Y5, Tryz.f39, isConOpC, argsOkC, isBitC, bothOfC, z, e, a0.there, a0.all, a1.there, a1.k, conB, xD]
        refine ⟨fun hb => ?_, fun hb hb' => absurd (hb'.symm.trans hb) (by simp)⟩
        rw [show isBit a = true from hb, Bool.true_and]; exact Bool.eq_iff_iff.mpr (by simp)
      · have n1 : op ≠ 1 ∧ op ≠ 2 ∧ op ≠ 3 ∧ op ≠ 4 ∧ ¬ op ≤ 2 ∧ ¬ op ≤ 4 := by omega
        simp (maxSteps := 4000000) -dsimp [-Y1, -Array.all_eq_true, -Y3, -Y4, and_assoc, Y5, Tryz.f39, isConOpC, argsOkC, isBitC, bothOfC, z, y, e, n1, h1, conB]
        exact fun h6 => by omega
  · simp only [h1, decide_false, Bool.false_and] at e
    by_cases h2 : 1 ≤ op
    · have h3 : ¬ op ≤ 10 := by omega
      simp (maxSteps := 4000000) -dsimp [-Y1, -Array.all_eq_true, -Y3, -Y4, and_assoc, Y5, Tryz.f39, isConOpC, argsOkC, isBitC, bothOfC, z, e, h2, h3]
    · simp (maxSteps := 4000000) -dsimp [-Y1, -Array.all_eq_true, -Y3, -Y4, and_assoc, Y5, Tryz.f39, isConOpC, argsOkC, isBitC, bothOfC, z, e, h2]
def iConC_S : Reads Tryz.prog 39 where
  ι := ((Int) × (Option Addr) × (Nat) × (List Dev))
  A := fun (i : ((Int) × (Option Addr) × (Nat) × (List Dev))) => match i with | (op, o, cap, xs) => [.agg #[.int .i64 op, .slice o xs.length cap]]
  pre := fun (i : ((Int) × (Option Addr) × (Nat) × (List Dev))) (F : Facts) => match i with | (op, o, cap, xs) => RdD F o xs ∧ xs.length ≤ 1048576
  res := fun (i : ((Int) × (Option Addr) × (Nat) × (List Dev))) => match i with | (op, o, cap, xs) => .bool (conOk op xs)
  mono := by
    intro i F G hs h
    first | exact h | exact h.mono hs | exact ⟨h.1.mono hs, h.2⟩ | exact ⟨h.1.mono hs, h.2.1.mono hs, h.2.2⟩ | exact ⟨h.1.mono hs, h.2.1.mono hs⟩ | exact ⟨h.1.mono hs, h.2.1.mono hs, h.2.2.1.mono hs, h.2.2.2⟩
  uniq := by
    rintro ⟨op, o, cap, xs⟩ ⟨op', o', cap', xs'⟩ F hA h h'
    simp at hA
    (try simp only [Int.natCast_inj] at hA)
    obtain rfl : xs = xs' := RdD.uniq h.1 h'.1 (by simp_all) (by simp_all)
    simp_all
  enter := Tryz.call39
  h := fun i w hp => iConC_c i.1 i.2.1 i.2.2.1 i.2.2.2 w (by rw [factF_init]; exact hp)
def iConC : Con Tryz.prog := Con.read iConC_S
theorem iConC_rw {op : Int} {o : Option Addr} {cap : Nat} {xs : List Dev} {d : Nat} {cx : Cx} {mem : List Blk} {K : C → Prop} (hpre : RdD (nowF cx mem) o xs ∧ xs.length ≤ 1048576) : ReadV d iConC_S cx [.v (.agg #[.int .i64 op, .slice o xs.length cap])] mem K = K (.v (.bool (conOk op xs))) := iConC_S.eq (op, o, cap, xs) rfl hpre
theorem isPresetC_c (k n p : Int) (w : World) : Calls Tryz.prog 110 #[.agg #[.int .i64 k, .int .i64 n, .int .i64 p]] w fun e w' => e = .returned (.bool (pOk ⟨k, n, p⟩)) ∧ RowKit.Below w.heap.size w w' := by
  refine (plain_of_vcs ⟨[], []⟩ hmx Tryz.func110 rfl (by kernel_rfl) (args := [.agg #[.int .i64 k, .int .i64 n, .int .i64 p]]) (by simp [Tryz.ntmps110]) w (· = .bool (pOk ⟨k, n, p⟩)) 400 ?_).mono fun e w' ⟨v, h1, h2, h3⟩ => ⟨h2 ▸ h1, h3⟩
  simp (maxSteps := 4000000) -dsimp [-Y1, -Array.all_eq_true, -Y3, -Y4, and_assoc, Y5, Tryz.f110, pOk]
  exact ⟨fun a _ => a, fun a b => absurd b a⟩
def isPresetC : Con Tryz.prog := Con.pure 110 Tryz.call110 (fun (i : ((Int) × (Int) × (Int))) => match i with | (k, n, p) => [.agg #[.int .i64 k, .int .i64 n, .int .i64 p]]) (fun (i : ((Int) × (Int) × (Int))) => match i with | (k, n, p) => True) (fun (i : ((Int) × (Int) × (Int))) => match i with | (k, n, p) => .bool (pOk ⟨k, n, p⟩)) fun i w _ => isPresetC_c i.1 i.2.1 i.2.2 w

theorem iCoilC_c (op : Int) (o : Option Addr) (cap : Nat) (xs : List Dev) (w : World) (hpre : RdD (factF ⟨w, [], w, []⟩) o xs ∧ xs.length ≤ 1048576 ∧ xs.length ≤ cap ∧ cap ≤ 9223372036854775807) : Calls Tryz.prog 40 #[.agg #[.int .i64 op, .slice o xs.length cap]] w fun e w' => e = .returned (.bool (coilOk op xs)) ∧ RowKit.Below w.heap.size w w' := by
  refine (plain_of_vcs ⟨[isCoilOpC, argsOkC, containsFuncC, isKindC, isPresetC], [(3, [(0, false), (1, false), (2, false), (3, false), (4, false), (5, false), (6, false), (7, false), (8, false), (5, true), (9, false)])]⟩ hmx Tryz.func40 rfl (by kernel_rfl) (args := [.agg #[.int .i64 op, .slice o xs.length cap]]) (by simp [Tryz.ntmps40]) w (· = .bool (coilOk op xs)) 400 ?_).mono fun e w' ⟨v, h1, h2, h3⟩ => ⟨h2 ▸ h1, h3⟩
  obtain ⟨h, hl, hcap, hcm⟩ := hpre
  have z := fun d mem K => argsOkC_rw (op := op) (cap := cap) (d := d) (cx := ⟨w, [], w, []⟩) (mem := mem) (K := K) ⟨h.mono (sub_now _ _), hl⟩
  have e := coilOk_eq op xs
  generalize hq : (decide ((xs.length : Int) = arity op) && xs.all dOk) = q at z e
  by_cases h1 : 21 ≤ op ∧ op ≤ 37
  · cases q
    · simp only [Bool.and_false, Bool.false_and] at e
      simp (maxSteps := 4000000) -dsimp [-Y1, -Array.all_eq_true, -Y3, -Y4, and_assoc, Y5, Tryz.f40, isCoilOpC, argsOkC, containsFuncC, isKindC, isPresetC, z, e, h1]
    · simp only [h1, Bool.and_true, decide_true, Bool.true_and, and_self] at e
      simp only [Bool.and_eq_true, decide_eq_true_eq] at hq
      have key : ∀ (a : Dev) (r : List Dev), xs = a :: r → ∃ o', (if (cap : Int) = 1 then o else padd o 3) = o' ∧ RdD (factF ⟨w, [], w, []⟩) o' r := by
        rintro a r rfl
        by_cases hc : (cap : Int) = 1
        · have : r = [] := by cases r with
            | nil => rfl
            | cons b r => simp at hcap; omega
          subst this
          exact ⟨_, rfl, RdO.nil _ _ _⟩
        · rw [if_neg hc]; exact ⟨_, rfl, h.drop1⟩
      obtain rfl | rfl | rfl | rfl | rfl | rfl | rfl | rfl | rfl | rfl | rfl | rfl | rfl | rfl | rfl | rfl | rfl : op = 21 ∨ op = 22 ∨ op = 23 ∨ op = 25 ∨ op = 24 ∨ op = 26 ∨ op = 27 ∨ op = 28 ∨ op = 29 ∨ op = 30 ∨ op = 36 ∨ op = 37 ∨ op = 31 ∨ op = 32 ∨ op = 33 ∨ op = 34 ∨ op = 35 := by omega
      · obtain ⟨⟨ak, an, ap⟩, rfl⟩ := list_one (by rw [hq.1]; rfl)
        have a0 := h.at0 (x := ⟨ak, an, ap⟩) rfl
        obtain ⟨o', ho, hr⟩ := key _ [] rfl
        have z1 := fun d mem K => containsFuncC_rw (cap := cap - 1) (d := d) (cx := ⟨w, [], w, []⟩) (mem := mem) (K := K) (f := 105) ⟨hr.mono (sub_now _ _), by simp, Or.inr (Or.inl rfl)⟩
        have z2 := fun d mem K => containsFuncC_rw (cap := cap - 1) (d := d) (cx := ⟨w, [], w, []⟩) (mem := mem) (K := K) (f := 107) ⟨hr.mono (sub_now _ _), by simp, Or.inr (Or.inr rfl)⟩
        simp only [List.length_cons, List.length_nil, Nat.zero_add, Nat.reduceAdd] at z z1 z2 hcap
        simp only [any_whl, any_rl] at z1 z2
        have hcap' : (1 : Int) ≤ cap := by omega
        simp (maxSteps := 4000000) -dsimp [-Y1, -Array.all_eq_true, -Y3, -Y4, and_assoc, Y5, Tryz.f40, isCoilOpC, argsOkC, containsFuncC, isKindC, isPresetC, z, e, a0.there, a0.all, ho, hcap', z1, z2, coilB, xD]
        intro q0 q1 cx' p hle' hlit
        refine (isKindC_rw (ks := [2, 3]) (cap := 2) ⟨(hlit.ints [2, 3] rfl).mono ((sub_new cx').trans (sub_now cx' _)), by decide⟩).mpr ?_
        simp (maxSteps := 4000000) -dsimp [-Y1, -Array.all_eq_true, -Y3, -Y4, and_assoc, Y5, Tryz.f40, isCoilOpC, argsOkC, containsFuncC, isKindC, isPresetC, z, e, a0.there, a0.all, ho, hcap', z1, z2, coilB, xD]
        exact ⟨hle'.w0, hle'.g0⟩
      · obtain ⟨⟨ak, an, ap⟩, rfl⟩ := list_one (by rw [hq.1]; rfl)
        have a0 := h.at0 (x := ⟨ak, an, ap⟩) rfl
        obtain ⟨o', ho, hr⟩ := key _ [] rfl
        have z1 := fun d mem K => containsFuncC_rw (cap := cap - 1) (d := d) (cx := ⟨w, [], w, []⟩) (mem := mem) (K := K) (f := 105) ⟨hr.mono (sub_now _ _), by simp, Or.inr (Or.inl rfl)⟩
        have z2 := fun d mem K => containsFuncC_rw (cap := cap - 1) (d := d) (cx := ⟨w, [], w, []⟩) (mem := mem) (K := K) (f := 107) ⟨hr.mono (sub_now _ _), by simp, Or.inr (Or.inr rfl)⟩
        simp only [List.length_cons, List.length_nil, Nat.zero_add, Nat.reduceAdd] at z z1 z2 hcap
        simp only [any_whl, any_rl] at z1 z2
        have hcap' : (1 : Int) ≤ cap := by omega
        simp (maxSteps := 4000000) -dsimp [-Y1, -Array.all_eq_true, -Y3, -Y4, and_assoc, Y5, Tryz.f40, isCoilOpC, argsOkC, containsFuncC, isKindC, isPresetC, z, e, a0.there, a0.all, ho, hcap', z1, z2, coilB, xD]
        intro q0 q1 cx' p hle' hlit
        refine (isKindC_rw (ks := [2, 3, 4]) (cap := 3) ⟨(hlit.ints [2, 3, 4] rfl).mono ((sub_new cx').trans (sub_now cx' _)), by decide⟩).mpr ?_
        simp (maxSteps := 4000000) -dsimp [-Y1, -Array.all_eq_true, -Y3, -Y4, and_assoc, Y5, Tryz.f40, isCoilOpC, argsOkC, containsFuncC, isKindC, isPresetC, z, e, a0.there, a0.all, ho, hcap', z1, z2, coilB, xD]
        exact ⟨hle'.w0, hle'.g0⟩
      · obtain ⟨⟨ak, an, ap⟩, rfl⟩ := list_one (by rw [hq.1]; rfl)
        have a0 := h.at0 (x := ⟨ak, an, ap⟩) rfl
        obtain ⟨o', ho, hr⟩ := key _ [] rfl
        have z1 := fun d mem K => containsFuncC_rw (cap := cap - 1) (d := d) (cx := ⟨w, [], w, []⟩) (mem := mem) (K := K) (f := 105) ⟨hr.mono (sub_now _ _), by simp, Or.inr (Or.inl rfl)⟩
        have z2 := fun d mem K => containsFuncC_rw (cap := cap - 1) (d := d) (cx := ⟨w, [], w, []⟩) (mem := mem) (K := K) (f := 107) ⟨hr.mono (sub_now _ _), by simp, Or.inr (Or.inr rfl)⟩
        simp only [List.length_cons, List.length_nil, Nat.zero_add, Nat.reduceAdd] at z z1 z2 hcap
        simp only [any_whl, any_rl] at z1 z2
        have hcap' : (1 : Int) ≤ cap := by omega
        simp (maxSteps := 4000000) -dsimp [-Y1, -Array.all_eq_true, -Y3, -Y4, and_assoc, Y5, Tryz.f40, isCoilOpC, argsOkC, containsFuncC, isKindC, isPresetC, z, e, a0.there, a0.all, ho, hcap', z1, z2, coilB, xD]
        intro q0 q1 cx' p hle' hlit
        refine (isKindC_rw (ks := [2, 3, 4, 7, 8]) (cap := 5) ⟨(hlit.ints [2, 3, 4, 7, 8] rfl).mono ((sub_new cx').trans (sub_now cx' _)), by decide⟩).mpr ?_
        simp (maxSteps := 4000000) -dsimp [-Y1, -Array.all_eq_true, -Y3, -Y4, and_assoc, Y5, Tryz.f40, isCoilOpC, argsOkC, containsFuncC, isKindC, isPresetC, z, e, a0.there, a0.all, ho, hcap', z1, z2, coilB, xD]
        exact ⟨hle'.w0, hle'.g0⟩
      · obtain ⟨⟨ak, an, ap⟩, rfl⟩ := list_one (by rw [hq.1]; rfl)
        have a0 := h.at0 (x := ⟨ak, an, ap⟩) rfl
        obtain ⟨o', ho, hr⟩ := key _ [] rfl
        have z1 := fun d mem K => containsFuncC_rw (cap := cap - 1) (d := d) (cx := ⟨w, [], w, []⟩) (mem := mem) (K := K) (f := 105) ⟨hr.mono (sub_now _ _), by simp, Or.inr (Or.inl rfl)⟩
        have z2 := fun d mem K => containsFuncC_rw (cap := cap - 1) (d := d) (cx := ⟨w, [], w, []⟩) (mem := mem) (K := K) (f := 107) ⟨hr.mono (sub_now _ _), by simp, Or.inr (Or.inr rfl)⟩
        simp only [List.length_cons, List.length_nil, Nat.zero_add, Nat.reduceAdd] at z z1 z2 hcap
        simp only [any_whl, any_rl] at z1 z2
        have hcap' : (1 : Int) ≤ cap := by omega
        simp (maxSteps := 4000000) -dsimp [-Y1, -Array.all_eq_true, -Y3, -Y4, and_assoc, Y5, Tryz.f40, isCoilOpC, argsOkC, containsFuncC, isKindC, isPresetC, z, e, a0.there, a0.all, ho, hcap', z1, z2, coilB, xD]
        exact Bool.eq_iff_iff.mpr (by simp)
      · obtain ⟨⟨ak, an, ap⟩, ⟨bk, bn, bp⟩, rfl⟩ := list_two (by rw [hq.1]; rfl)
        have a0 := h.at0 (x := ⟨ak, an, ap⟩) rfl
        obtain ⟨o', ho, hr⟩ := key _ [⟨bk, bn, bp⟩] rfl
        have z1 := fun d mem K => containsFuncC_rw (cap := cap - 1) (d := d) (cx := ⟨w, [], w, []⟩) (mem := mem) (K := K) (f := 105) ⟨hr.mono (sub_now _ _), by simp, Or.inr (Or.inl rfl)⟩
        have z2 := fun d mem K => containsFuncC_rw (cap := cap - 1) (d := d) (cx := ⟨w, [], w, []⟩) (mem := mem) (K := K) (f := 107) ⟨hr.mono (sub_now _ _), by simp, Or.inr (Or.inr rfl)⟩
        have hc1 : ¬ (cap : Int) = 1 := by simp at hcap; omega
        rw [if_neg hc1] at ho
        subst ho
        have b0 := hr.at0 (x := ⟨bk, bn, bp⟩) rfl
        simp only [List.length_cons, List.length_nil, Nat.zero_add, Nat.reduceAdd] at z z1 z2 hcap
        simp only [any_whl, any_rl] at z1 z2
        have hcap' : (2 : Int) ≤ cap := by omega
        simp (maxSteps := 4000000) -dsimp [-Y1, -Array.all_eq_true, -Y3, -Y4, and_assoc, Y5, Tryz.f40, isCoilOpC, argsOkC, containsFuncC, isKindC, isPresetC, z, e, a0.there, a0.all, b0.there, b0.all, b0.k, hc1, hcap', z1, z2, coilB, xD]
        intro q0 q1 cx' p hle' hlit
        refine (isKindC_rw (ks := [2, 3]) (cap := 2) ⟨(hlit.ints [2, 3] rfl).mono ((sub_new cx').trans (sub_now cx' _)), by decide⟩).mpr ?_
        have b1 := (hr.mono hle'.fact).at0 (x := ⟨bk, bn, bp⟩) rfl
        have hw := hle'.w0
        have hg := hle'.g0
        simp (maxSteps := 4000000) -dsimp [-Y1, -Array.all_eq_true, -Y3, -Y4, and_assoc, Y5, Tryz.f40, isCoilOpC, argsOkC, containsFuncC, isKindC, isPresetC, z, e, a0.there, a0.all, b0.there, b0.all, b0.k, hc1, hcap', z1, z2, coilB, xD, b1.there, b1.k, hw, hg]
        refine ⟨fun hk => ?_, fun n2 n3 hk => by omega⟩
        rw [show (decide (ak = 2) || decide (ak = 3)) = true by simpa using hk, Bool.true_and]
        exact Bool.eq_iff_iff.mpr (by simp)
      · obtain ⟨⟨ak, an, ap⟩, ⟨bk, bn, bp⟩, rfl⟩ := list_two (by rw [hq.1]; rfl)
        have a0 := h.at0 (x := ⟨ak, an, ap⟩) rfl
        obtain ⟨o', ho, hr⟩ := key _ [⟨bk, bn, bp⟩] rfl
        have z1 := fun d mem K => containsFuncC_rw (cap := cap - 1) (d := d) (cx := ⟨w, [], w, []⟩) (mem := mem) (K := K) (f := 105) ⟨hr.mono (sub_now _ _), by simp, Or.inr (Or.inl rfl)⟩
        have z2 := fun d mem K => containsFuncC_rw (cap := cap - 1) (d := d) (cx := ⟨w, [], w, []⟩) (mem := mem) (K := K) (f := 107) ⟨hr.mono (sub_now _ _), by simp, Or.inr (Or.inr rfl)⟩
        have hc1 : ¬ (cap : Int) = 1 := by simp at hcap; omega
        rw [if_neg hc1] at ho
        subst ho
        have b0 := hr.at0 (x := ⟨bk, bn, bp⟩) rfl
        simp only [List.length_cons, List.length_nil, Nat.zero_add, Nat.reduceAdd] at z z1 z2 hcap
        simp only [any_whl, any_rl] at z1 z2
        have hcap' : (2 : Int) ≤ cap := by omega
        simp (maxSteps := 4000000) -dsimp [-Y1, -Array.all_eq_true, -Y3, -Y4, and_assoc, Y5, Tryz.f40, isCoilOpC, argsOkC, containsFuncC, isKindC, isPresetC, z, e, a0.there, a0.all, b0.there, b0.all, b0.k, hc1, hcap', z1, z2, coilB, xD]
        all_goals (generalize isWhl ⟨bk, bn, bp⟩ = u; generalize isRl ⟨bk, bn, bp⟩ = u2; generalize pOk ⟨bk, bn, bp⟩ = u3; cases u <;> cases u2 <;> cases u3 <;> (try simp) <;> (try omega))
      · obtain ⟨⟨ak, an, ap⟩, ⟨bk, bn, bp⟩, rfl⟩ := list_two (by rw [hq.1]; rfl)
        have a0 := h.at0 (x := ⟨ak, an, ap⟩) rfl
        obtain ⟨o', ho, hr⟩ := key _ [⟨bk, bn, bp⟩] rfl
        have z1 := fun d mem K => containsFuncC_rw (cap := cap - 1) (d := d) (cx := ⟨w, [], w, []⟩) (mem := mem) (K := K) (f := 105) ⟨hr.mono (sub_now _ _), by simp, Or.inr (Or.inl rfl)⟩
        have z2 := fun d mem K => containsFuncC_rw (cap := cap - 1) (d := d) (cx := ⟨w, [], w, []⟩) (mem := mem) (K := K) (f := 107) ⟨hr.mono (sub_now _ _), by simp, Or.inr (Or.inr rfl)⟩
        have hc1 : ¬ (cap : Int) = 1 := by simp at hcap; omega
        rw [if_neg hc1] at ho
        subst ho
        have b0 := hr.at0 (x := ⟨bk, bn, bp⟩) rfl
        simp only [List.length_cons, List.length_nil, Nat.zero_add, Nat.reduceAdd] at z z1 z2 hcap
        simp only [any_whl, any_rl] at z1 z2
        have hcap' : (2 : Int) ≤ cap := by omega
        simp (maxSteps := 4000000) -dsimp [-Y1, -Array.all_eq_true, -Y3, -Y4, and_assoc, Y5, Tryz.f40, isCoilOpC, argsOkC, containsFuncC, isKindC, isPresetC, z, e, a0.there, a0.all, b0.there, b0.all, b0.k, hc1, hcap', z1, z2, coilB, xD]
        all_goals (generalize isWhl ⟨bk, bn, bp⟩ = u; generalize isRl ⟨bk, bn, bp⟩ = u2; generalize pOk ⟨bk, bn, bp⟩ = u3; cases u <;> cases u2 <;> cases u3 <;> (try simp) <;> (try omega))
      · obtain ⟨⟨ak, an, ap⟩, ⟨bk, bn, bp⟩, rfl⟩ := list_two (by rw [hq.1]; rfl)
        have a0 := h.at0 (x := ⟨ak, an, ap⟩) rfl
        obtain ⟨o', ho, hr⟩ := key _ [⟨bk, bn, bp⟩] rfl
        have z1 := fun d mem K => containsFuncC_rw (cap := cap - 1) (d := d) (cx := ⟨w, [], w, []⟩) (mem := mem) (K := K) (f := 105) ⟨hr.mono (sub_now _ _), by simp, Or.inr (Or.inl rfl)⟩
        have z2 := fun d mem K => containsFuncC_rw (cap := cap - 1) (d := d) (cx := ⟨w, [], w, []⟩) (mem := mem) (K := K) (f := 107) ⟨hr.mono (sub_now _ _), by simp, Or.inr (Or.inr rfl)⟩
        have hc1 : ¬ (cap : Int) = 1 := by simp at hcap; omega
        rw [if_neg hc1] at ho
        subst ho
        have b0 := hr.at0 (x := ⟨bk, bn, bp⟩) rfl
        simp only [List.length_cons, List.length_nil, Nat.zero_add, Nat.reduceAdd] at z z1 z2 hcap
        simp only [any_whl, any_rl] at z1 z2
        have hcap' : (2 : Int) ≤ cap := by omega
        simp (maxSteps := 4000000) -dsimp [-Y1, -Array.all_eq_true, -Y3, -Y4, and_assoc, Y5, Tryz.f40, isCoilOpC, argsOkC, containsFuncC, isKindC, isPresetC, z, e, a0.there, a0.all, b0.there, b0.all, b0.k, hc1, hcap', z1, z2, coilB, xD]
        all_goals (generalize isWhl ⟨bk, bn, bp⟩ = u; generalize isRl ⟨bk, bn, bp⟩ = u2; generalize pOk ⟨bk, bn, bp⟩ = u3; cases u <;> cases u2 <;> cases u3 <;> (try simp) <;> (try omega))
      · obtain ⟨⟨ak, an, ap⟩, ⟨bk, bn, bp⟩, rfl⟩ := list_two (by rw [hq.1]; rfl)
        have a0 := h.at0 (x := ⟨ak, an, ap⟩) rfl
        obtain ⟨o', ho, hr⟩ := key _ [⟨bk, bn, bp⟩] rfl
        have z1 := fun d mem K => containsFuncC_rw (cap := cap - 1) (d := d) (cx := ⟨w, [], w, []⟩) (mem := mem) (K := K) (f := 105) ⟨hr.mono (sub_now _ _), by simp, Or.inr (Or.inl rfl)⟩
        have z2 := fun d mem K => containsFuncC_rw (cap := cap - 1) (d := d) (cx := ⟨w, [], w, []⟩) (mem := mem) (K := K) (f := 107) ⟨hr.mono (sub_now _ _), by simp, Or.inr (Or.inr rfl)⟩
        have hc1 : ¬ (cap : Int) = 1 := by simp at hcap; omega
        rw [if_neg hc1] at ho
        subst ho
        have b0 := hr.at0 (x := ⟨bk, bn, bp⟩) rfl
        simp only [List.length_cons, List.length_nil, Nat.zero_add, Nat.reduceAdd] at z z1 z2 hcap
        simp only [any_whl, any_rl] at z1 z2
        have hcap' : (2 : Int) ≤ cap := by omega
        simp (maxSteps := 4000000) -dsimp [-Y1, -Array.all_eq_true, -Y3, -Y4, and_assoc, Y5, Tryz.f40, isCoilOpC, argsOkC, containsFuncC, isKindC, isPresetC, z, e, a0.there, a0.all, b0.there, b0.all, b0.k, hc1, hcap', z1, z2, coilB, xD]
        all_goals (generalize isWhl ⟨bk, bn, bp⟩ = u; generalize isRl ⟨bk, bn, bp⟩ = u2; generalize pOk ⟨bk, bn, bp⟩ = u3; cases u <;> cases u2 <;> cases u3 <;> (try simp) <;> (try omega))
      · obtain ⟨⟨ak, an, ap⟩, ⟨bk, bn, bp⟩, rfl⟩ := list_two (by rw [hq.1]; rfl)
        have a0 := h.at0 (x := ⟨ak, an, ap⟩) rfl
        obtain ⟨o', ho, hr⟩ := key _ [⟨bk, bn, bp⟩] rfl
        have z1 := fun d mem K => containsFuncC_rw (cap := cap - 1) (d := d) (cx := ⟨w, [], w, []⟩) (mem := mem) (K := K) (f := 105) ⟨hr.mono (sub_now _ _), by simp, Or.inr (Or.inl rfl)⟩
        have z2 := fun d mem K => containsFuncC_rw (cap := cap - 1) (d := d) (cx := ⟨w, [], w, []⟩) (mem := mem) (K := K) (f := 107) ⟨hr.mono (sub_now _ _), by simp, Or.inr (Or.inr rfl)⟩
        have hc1 : ¬ (cap : Int) = 1 := by simp at hcap; omega
        rw [if_neg hc1] at ho
        subst ho
        have b0 := hr.at0 (x := ⟨bk, bn, bp⟩) rfl
        simp only [List.length_cons, List.length_nil, Nat.zero_add, Nat.reduceAdd] at z z1 z2 hcap
        simp only [any_whl, any_rl] at z1 z2
        have hcap' : (2 : Int) ≤ cap := by omega
        simp (maxSteps := 4000000) -dsimp [-Y1, -Array.all_eq_true, -Y3, -Y4, and_assoc, Y5, Tryz.f40, isCoilOpC, argsOkC, containsFuncC, isKindC, isPresetC, z, e, a0.there, a0.all, b0.there, b0.all, b0.k, hc1, hcap', z1, z2, coilB, xD]
        all_goals (generalize isWhl ⟨bk, bn, bp⟩ = u; generalize isRl ⟨bk, bn, bp⟩ = u2; generalize pOk ⟨bk, bn, bp⟩ = u3; cases u <;> cases u2 <;> cases u3 <;> (try simp) <;> (try omega))
      · obtain ⟨⟨ak, an, ap⟩, ⟨bk, bn, bp⟩, rfl⟩ := list_two (by rw [hq.1]; rfl)
        have a0 := h.at0 (x := ⟨ak, an, ap⟩) rfl
        obtain ⟨o', ho, hr⟩ := key _ [⟨bk, bn, bp⟩] rfl
        have z1 := fun d mem K => containsFuncC_rw (cap := cap - 1) (d := d) (cx := ⟨w, [], w, []⟩) (mem := mem) (K := K) (f := 105) ⟨hr.mono (sub_now _ _), by simp, Or.inr (Or.inl rfl)⟩
        have z2 := fun d mem K => containsFuncC_rw (cap := cap - 1) (d := d) (cx := ⟨w, [], w, []⟩) (mem := mem) (K := K) (f := 107) ⟨hr.mono (sub_now _ _), by simp, Or.inr (Or.inr rfl)⟩
        have hc1 : ¬ (cap : Int) = 1 := by simp at hcap; omega
        rw [if_neg hc1] at ho
        subst ho
        have b0 := hr.at0 (x := ⟨bk, bn, bp⟩) rfl
        simp only [List.length_cons, List.length_nil, Nat.zero_add, Nat.reduceAdd] at z z1 z2 hcap
        simp only [any_whl, any_rl] at z1 z2
        have hcap' : (2 : Int) ≤ cap := by omega
        simp (maxSteps := 4000000) -dsimp [-Y1, -Array.all_eq_true, -Y3, -Y4, and_assoc, Y5, Tryz.f40, isCoilOpC, argsOkC, containsFuncC, isKindC, isPresetC, z, e, a0.there, a0.all, b0.there, b0.all, b0.k, hc1, hcap', z1, z2, coilB, xD]
        all_goals (generalize isWhl ⟨bk, bn, bp⟩ = u; generalize isRl ⟨bk, bn, bp⟩ = u2; generalize pOk ⟨bk, bn, bp⟩ = u3; cases u <;> cases u2 <;> cases u3 <;> (try simp) <;> (try omega))
      · obtain ⟨⟨ak, an, ap⟩, ⟨bk, bn, bp⟩, rfl⟩ := list_two (by rw [hq.1]; rfl)
        have a0 := h.at0 (x := ⟨ak, an, ap⟩) rfl
        obtain ⟨o', ho, hr⟩ := key _ [⟨bk, bn, bp⟩] rfl
        have z1 := fun d mem K => containsFuncC_rw (cap := cap - 1) (d := d) (cx := ⟨w, [], w, []⟩) (mem := mem) (K := K) (f := 105) ⟨hr.mono (sub_now _ _), by simp, Or.inr (Or.inl rfl)⟩
        have z2 := fun d mem K => containsFuncC_rw (cap := cap - 1) (d := d) (cx := ⟨w, [], w, []⟩) (mem := mem) (K := K) (f := 107) ⟨hr.mono (sub_now _ _), by simp, Or.inr (Or.inr rfl)⟩
        have hc1 : ¬ (cap : Int) = 1 := by simp at hcap; omega
        rw [if_neg hc1] at ho
        subst ho
        have b0 := hr.at0 (x := ⟨bk, bn, bp⟩) rfl
        simp only [List.length_cons, List.length_nil, Nat.zero_add, Nat.reduceAdd] at z z1 z2 hcap
        simp only [any_whl, any_rl] at z1 z2
        have hcap' : (2 : Int) ≤ cap := by omega
        simp (maxSteps := 4000000) -dsimp [-Y1, -Array.all_eq_true, -Y3, -Y4, and_assoc, Y5, Tryz.f40, isCoilOpC, argsOkC, containsFuncC, isKindC, isPresetC, z, e, a0.there, a0.all, b0.there, b0.all, b0.k, hc1, hcap', z1, z2, coilB, xD]
        all_goals (generalize isWhl ⟨bk, bn, bp⟩ = u; generalize isRl ⟨bk, bn, bp⟩ = u2; generalize pOk ⟨bk, bn, bp⟩ = u3; cases u <;> cases u2 <;> cases u3 <;> (try simp) <;> (try omega))
      · obtain ⟨⟨ak, an, ap⟩, ⟨bk, bn, bp⟩, ⟨ck, cn, cp⟩, rfl⟩ := list_three (by rw [hq.1]; rfl)
        have a0 := h.at0 (x := ⟨ak, an, ap⟩) rfl
        obtain ⟨o', ho, hr⟩ := key _ [⟨bk, bn, bp⟩, ⟨ck, cn, cp⟩] rfl
        have z1 := fun d mem K => containsFuncC_rw (cap := cap - 1) (d := d) (cx := ⟨w, [], w, []⟩) (mem := mem) (K := K) (f := 105) ⟨hr.mono (sub_now _ _), by simp, Or.inr (Or.inl rfl)⟩
        have z2 := fun d mem K => containsFuncC_rw (cap := cap - 1) (d := d) (cx := ⟨w, [], w, []⟩) (mem := mem) (K := K) (f := 107) ⟨hr.mono (sub_now _ _), by simp, Or.inr (Or.inr rfl)⟩
        have hc1 : ¬ (cap : Int) = 1 := by simp at hcap; omega
        rw [if_neg hc1] at ho
        subst ho
        have b0 := hr.at0 (x := ⟨bk, bn, bp⟩) rfl
        simp only [List.length_cons, List.length_nil, Nat.zero_add, Nat.reduceAdd] at z z1 z2 hcap
        simp only [any_whl, any_rl] at z1 z2
        have hcap' : (3 : Int) ≤ cap := by omega
        simp (maxSteps := 4000000) -dsimp [-Y1, -Array.all_eq_true, -Y3, -Y4, and_assoc, Y5, Tryz.f40, isCoilOpC, argsOkC, containsFuncC, isKindC, isPresetC, z, e, a0.there, a0.all, b0.there, b0.all, b0.k, hc1, hcap', z1, z2, coilB, xD]
        all_goals (generalize isWhl ⟨bk, bn, bp⟩ = u; generalize isRl ⟨bk, bn, bp⟩ = u2; generalize isWhl ⟨ck, cn, cp⟩ = u3; generalize isRl ⟨ck, cn, cp⟩ = u4; cases u <;> cases u2 <;> cases u3 <;> cases u4 <;> (try simp) <;> (try omega))
      · obtain ⟨⟨ak, an, ap⟩, ⟨bk, bn, bp⟩, ⟨ck, cn, cp⟩, rfl⟩ := list_three (by rw [hq.1]; rfl)
        have a0 := h.at0 (x := ⟨ak, an, ap⟩) rfl
        obtain ⟨o', ho, hr⟩ := key _ [⟨bk, bn, bp⟩, ⟨ck, cn, cp⟩] rfl
        have z1 := fun d mem K => containsFuncC_rw (cap := cap - 1) (d := d) (cx := ⟨w, [], w, []⟩) (mem := mem) (K := K) (f := 105) ⟨hr.mono (sub_now _ _), by simp, Or.inr (Or.inl rfl)⟩
        have z2 := fun d mem K => containsFuncC_rw (cap := cap - 1) (d := d) (cx := ⟨w, [], w, []⟩) (mem := mem) (K := K) (f := 107) ⟨hr.mono (sub_now _ _), by simp, Or.inr (Or.inr rfl)⟩
        have hc1 : ¬ (cap : Int) = 1 := by simp at hcap; omega
        rw [if_neg hc1] at ho
        subst ho
        have b0 := hr.at0 (x := ⟨bk, bn, bp⟩) rfl
        simp only [List.length_cons, List.length_nil, Nat.zero_add, Nat.reduceAdd] at z z1 z2 hcap
        simp only [any_whl, any_rl] at z1 z2
        have hcap' : (3 : Int) ≤ cap := by omega
        simp (maxSteps := 4000000) -dsimp [-Y1, -Array.all_eq_true, -Y3, -Y4, and_assoc, Y5, Tryz.f40, isCoilOpC, argsOkC, containsFuncC, isKindC, isPresetC, z, e, a0.there, a0.all, b0.there, b0.all, b0.k, hc1, hcap', z1, z2, coilB, xD]
        all_goals (generalize isWhl ⟨bk, bn, bp⟩ = u; generalize isRl ⟨bk, bn, bp⟩ = u2; generalize isWhl ⟨ck, cn, cp⟩ = u3; generalize isRl ⟨ck, cn, cp⟩ = u4; cases u <;> cases u2 <;> cases u3 <;> cases u4 <;> (try simp) <;> (try omega))
      · obtain ⟨⟨ak, an, ap⟩, ⟨bk, bn, bp⟩, ⟨ck, cn, cp⟩, rfl⟩ := list_three (by rw [hq.1]; rfl)
        have a0 := h.at0 (x := ⟨ak, an, ap⟩) rfl
        obtain ⟨o', ho, hr⟩ := key _ [⟨bk, bn, bp⟩, ⟨ck, cn, cp⟩] rfl
        have z1 := fun d mem K => containsFuncC_rw (cap := cap - 1) (d := d) (cx := ⟨w, [], w, []⟩) (mem := mem) (K := K) (f := 105) ⟨hr.mono (sub_now _ _), by simp, Or.inr (Or.inl rfl)⟩
        have z2 := fun d mem K => containsFuncC_rw (cap := cap - 1) (d := d) (cx := ⟨w, [], w, []⟩) (mem := mem) (K := K) (f := 107) ⟨hr.mono (sub_now _ _), by simp, Or.inr (Or.inr rfl)⟩
        have hc1 : ¬ (cap : Int) = 1 := by simp at hcap; omega
        rw [if_neg hc1] at ho
        subst ho
        have b0 := hr.at0 (x := ⟨bk, bn, bp⟩) rfl
        simp only [List.length_cons, List.length_nil, Nat.zero_add, Nat.reduceAdd] at z z1 z2 hcap
        simp only [any_whl, any_rl] at z1 z2
        have hcap' : (3 : Int) ≤ cap := by omega
        simp (maxSteps := 4000000) -dsimp [-Y1, -Array.all_eq_true, -Y3, -Y4, and_assoc, Y5, Tryz.f40, isCoilOpC, argsOkC, containsFuncC, isKindC, isPresetC, z, e, a0.there, a0.all, b0.there, b0.all, b0.k, hc1, hcap', z1, z2, coilB, xD]
        all_goals (generalize isWhl ⟨bk, bn, bp⟩ = u; generalize isRl ⟨bk, bn, bp⟩ = u2; generalize isWhl ⟨ck, cn, cp⟩ = u3; generalize isRl ⟨ck, cn, cp⟩ = u4; cases u <;> cases u2 <;> cases u3 <;> cases u4 <;> (try simp) <;> (try omega))
      · obtain ⟨⟨ak, an, ap⟩, ⟨bk, bn, bp⟩, ⟨ck, cn, cp⟩, rfl⟩ := list_three (by rw [hq.1]; rfl)
        have a0 := h.at0 (x := ⟨ak, an, ap⟩) rfl
        obtain ⟨o', ho, hr⟩ := key _ [⟨bk, bn, bp⟩, ⟨ck, cn, cp⟩] rfl
        have z1 := fun d mem K => containsFuncC_rw (cap := cap - 1) (d := d) (cx := ⟨w, [], w, []⟩) (mem := mem) (K := K) (f := 105) ⟨hr.mono (sub_now _ _), by simp, Or.inr (Or.inl rfl)⟩
        have z2 := fun d mem K => containsFuncC_rw (cap := cap - 1) (d := d) (cx := ⟨w, [], w, []⟩) (mem := mem) (K := K) (f := 107) ⟨hr.mono (sub_now _ _), by simp, Or.inr (Or.inr rfl)⟩
        have hc1 : ¬ (cap : Int) = 1 := by simp at hcap; omega
        rw [if_neg hc1] at ho
        subst ho
        have b0 := hr.at0 (x := ⟨bk, bn, bp⟩) rfl
        simp only [List.length_cons, List.length_nil, Nat.zero_add, Nat.reduceAdd] at z z1 z2 hcap
        simp only [any_whl, any_rl] at z1 z2
        have hcap' : (3 : Int) ≤ cap := by omega
        simp (maxSteps := 4000000) -dsimp [-Y1, -Array.all_eq_true, -Y3, -Y4, and_assoc, Y5, Tryz.f40, isCoilOpC, argsOkC, containsFuncC, isKindC, isPresetC, z, e, a0.there, a0.all, b0.there, b0.all, b0.k, hc1, hcap', z1, z2, coilB, xD]
        all_goals (generalize isWhl ⟨bk, bn, bp⟩ = u; generalize isRl ⟨bk, bn, bp⟩ = u2; generalize isWhl ⟨ck, cn, cp⟩ = u3; generalize isRl ⟨ck, cn, cp⟩ = u4; cases u <;> cases u2 <;> cases u3 <;> cases u4 <;> (try simp) <;> (try omega))
      · obtain ⟨⟨ak, an, ap⟩, ⟨bk, bn, bp⟩, ⟨ck, cn, cp⟩, rfl⟩ := list_three (by rw [hq.1]; rfl)
        have a0 := h.at0 (x := ⟨ak, an, ap⟩) rfl
        obtain ⟨o', ho, hr⟩ := key _ [⟨bk, bn, bp⟩, ⟨ck, cn, cp⟩] rfl
        have z1 := fun d mem K => containsFuncC_rw (cap := cap - 1) (d := d) (cx := ⟨w, [], w, []⟩) (mem := mem) (K := K) (f := 105) ⟨hr.mono (sub_now _ _), by simp, Or.inr (Or.inl rfl)⟩
        have z2 := fun d mem K => containsFuncC_rw (cap := cap - 1) (d := d) (cx := ⟨w, [], w, []⟩) (mem := mem) (K := K) (f := 107) ⟨hr.mono (sub_now _ _), by simp, Or.inr (Or.inr rfl)⟩
        have hc1 : ¬ (cap : Int) = 1 := by simp at hcap; omega
        rw [if_neg hc1] at ho
        subst ho
        have b0 := hr.at0 (x := ⟨bk, bn, bp⟩) rfl
        simp only [List.length_cons, List.length_nil, Nat.zero_add, Nat.reduceAdd] at z z1 z2 hcap
        simp only [any_whl, any_rl] at z1 z2
        have hcap' : (3 : Int) ≤ cap := by omega
        simp (maxSteps := 4000000) -dsimp [-Y1, -Array.all_eq_true, -Y3, -Y4, and_assoc, Y5, Tryz.f40, isCoilOpC, argsOkC, containsFuncC, isKindC, isPresetC, z, e, a0.there, a0.all, b0.there, b0.all, b0.k, hc1, hcap', z1, z2, coilB, xD]
        all_goals (generalize isWhl ⟨bk, bn, bp⟩ = u; generalize isRl ⟨bk, bn, bp⟩ = u2; generalize isWhl ⟨ck, cn, cp⟩ = u3; generalize isRl ⟨ck, cn, cp⟩ = u4; cases u <;> cases u2 <;> cases u3 <;> cases u4 <;> (try simp) <;> (try omega))
  · simp only [h1, decide_false, Bool.false_and] at e
    by_cases h2 : 21 ≤ op
    · have h3 : ¬ op ≤ 37 := by omega
      simp (maxSteps := 4000000) -dsimp [-Y1, -Array.all_eq_true, -Y3, -Y4, and_assoc, Y5, Tryz.f40, isCoilOpC, argsOkC, containsFuncC, isKindC, isPresetC, z, e, h2, h3]
    · simp (maxSteps := 4000000) -dsimp [-Y1, -Array.all_eq_true, -Y3, -Y4, and_assoc, Y5, Tryz.f40, isCoilOpC, argsOkC, containsFuncC, isKindC, isPresetC, z, e, h2]
def iCoilC_S : Reads Tryz.prog 40 where
  ι := ((Int) × (Option Addr) × (Nat) × (List Dev))
  A := fun (i : ((Int) × (Option Addr) × (Nat) × (List Dev))) => match i with | (op, o, cap, xs) => [.agg #[.int .i64 op, .slice o xs.length cap]]
  pre := fun (i : ((Int) × (Option Addr) × (Nat) × (List Dev))) (F : Facts) => match i with | (op, o, cap, xs) => RdD F o xs ∧ xs.length ≤ 1048576 ∧ xs.length ≤ cap ∧ cap ≤ 9223372036854775807
  res := fun (i : ((Int) × (Option Addr) × (Nat) × (List Dev))) => match i with | (op, o, cap, xs) => .bool (coilOk op xs)
  mono := by
    intro i F G hs h
    first | exact h | exact h.mono hs | exact ⟨h.1.mono hs, h.2⟩ | exact ⟨h.1.mono hs, h.2.1.mono hs, h.2.2⟩ | exact ⟨h.1.mono hs, h.2.1.mono hs⟩ | exact ⟨h.1.mono hs, h.2.1.mono hs, h.2.2.1.mono hs, h.2.2.2⟩
  uniq := by
    rintro ⟨op, o, cap, xs⟩ ⟨op', o', cap', xs'⟩ F hA h h'
    simp at hA
    (try simp only [Int.natCast_inj] at hA)
    obtain rfl : xs = xs' := RdD.uniq h.1 h'.1 (by simp_all) (by simp_all)
    simp_all
  enter := Tryz.call40
  h := fun i w hp => iCoilC_c i.1 i.2.1 i.2.2.1 i.2.2.2 w (by rw [factF_init]; exact hp)
def iCoilC : Con Tryz.prog := Con.read iCoilC_S
theorem iCoilC_rw {op : Int} {o : Option Addr} {cap : Nat} {xs : List Dev} {d : Nat} {cx : Cx} {mem : List Blk} {K : C → Prop} (hpre : RdD (nowF cx mem) o xs ∧ xs.length ≤ 1048576 ∧ xs.length ≤ cap ∧ cap ≤ 9223372036854775807) : ReadV d iCoilC_S cx [.v (.agg #[.int .i64 op, .slice o xs.length cap])] mem K = K (.v (.bool (coilOk op xs))) := iCoilC_S.eq (op, o, cap, xs) rfl hpre
theorem isCodeC_c (c : Int) (w : World) : Calls Tryz.prog 81 #[.int .i64 c] w fun e w' => e = .returned (.bool (decide (1 ≤ c ∧ c ≤ 11))) ∧ RowKit.Below w.heap.size w w' := by
  refine (plain_of_vcs ⟨[withinC], []⟩ hmx Tryz.func81 rfl (by kernel_rfl) (args := [.int .i64 c]) (by simp [Tryz.ntmps81]) w (· = .bool (decide (1 ≤ c ∧ c ≤ 11))) 400 ?_).mono fun e w' ⟨v, h1, h2, h3⟩ => ⟨h2 ▸ h1, h3⟩
  simp (maxSteps := 4000000) -dsimp [-Y1, -Array.all_eq_true, -Y3, -Y4, and_assoc, Y5, Tryz.f81, withinC]
def isCodeC : Con Tryz.prog := Con.pure 81 Tryz.call81 (fun (c : ((Int))) => [.int .i64 c]) (fun (c : ((Int))) => True) (fun (c : ((Int))) => .bool (decide (1 ≤ c ∧ c ≤ 11))) fun c w _ => isCodeC_c c w
theorem asksC_c (c : Int) (w : World) : Calls Tryz.prog 80 #[.int .i64 c] w fun e w' => e = .returned (.bool (decide (1 ≤ c ∧ c ≤ 3))) ∧ RowKit.Below w.heap.size w w' := by
  refine (plain_of_vcs ⟨[withinC], []⟩ hmx Tryz.func80 rfl (by kernel_rfl) (args := [.int .i64 c]) (by simp [Tryz.ntmps80]) w (· = .bool (decide (1 ≤ c ∧ c ≤ 3))) 400 ?_).mono fun e w' ⟨v, h1, h2, h3⟩ => ⟨h2 ▸ h1, h3⟩
  simp (maxSteps := 4000000) -dsimp [-Y1, -Array.all_eq_true, -Y3, -Y4, and_assoc, Y5, Tryz.f80, withinC]
def asksC : Con Tryz.prog := Con.pure 80 Tryz.call80 (fun (c : ((Int))) => [.int .i64 c]) (fun (c : ((Int))) => True) (fun (c : ((Int))) => .bool (decide (1 ≤ c ∧ c ≤ 3))) fun c w _ => asksC_c c w
theorem iListOkC_c (code op : Int) (o : Option Addr) (cap : Nat) (xs : List Dev) (w : World) (hpre : RdD (factF ⟨w, [], w, []⟩) o xs ∧ xs.length ≤ 1048576 ∧ xs.length ≤ cap ∧ cap ≤ 9223372036854775807) : Calls Tryz.prog 22 #[.agg #[.int .i64 code, .int .i64 op, .slice o xs.length cap]] w fun e w' => e = .returned (.bool (insOk ⟨code, op, xs⟩)) ∧ RowKit.Below w.heap.size w w' := by
  refine (plain_of_vcs ⟨[asksC, iConC, iCoilC, isCodeC], []⟩ hmx Tryz.func22 rfl (by kernel_rfl) (args := [.agg #[.int .i64 code, .int .i64 op, .slice o xs.length cap]]) (by simp [Tryz.ntmps22]) w (· = .bool (insOk ⟨code, op, xs⟩)) 400 ?_).mono fun e w' ⟨v, h1, h2, h3⟩ => ⟨h2 ▸ h1, h3⟩
  obtain ⟨h, hl, hcap⟩ := hpre
  have z := fun d mem K => iConC_rw (op := op) (cap := cap) (d := d) (cx := ⟨w, [], w, []⟩) (mem := mem) (K := K) ⟨h.mono (sub_now _ _), hl⟩
  have y := fun d mem K => iCoilC_rw (op := op) (cap := cap) (d := d) (cx := ⟨w, [], w, []⟩) (mem := mem) (K := K) ⟨h.mono (sub_now _ _), hl, hcap⟩
  by_cases h1 : 1 ≤ code ∧ code ≤ 3
  · obtain rfl | rfl | rfl : code = 1 ∨ code = 2 ∨ code = 3 := by omega
    all_goals simp (maxSteps := 4000000) -dsimp [-Y1, -Array.all_eq_true, -Y3, -Y4, and_assoc, Y5, Tryz.f22, asksC, iConC, iCoilC, isCodeC, z, insOk]
  · have h2 : code < 1 ∨ 3 < code := by omega
    by_cases h10 : code = 10
    · subst h10
      simp (maxSteps := 4000000) -dsimp [-Y1, -Array.all_eq_true, -Y3, -Y4, and_assoc, Y5, Tryz.f22, asksC, iConC, iCoilC, isCodeC, y, insOk]
    · have e : insOk ⟨code, op, xs⟩ = decide (1 ≤ code ∧ code ≤ 11 ∧ op = 0 ∧ xs.length = 0) := by unfold insOk; rw [if_neg h1, if_neg h10]
      obtain h2 | h2 := h2
      · have h3 : ¬ 1 ≤ code := by omega
        simp (maxSteps := 4000000) -dsimp [-Y1, -Array.all_eq_true, -Y3, -Y4, and_assoc, Y5, Tryz.f22, asksC, iConC, iCoilC, isCodeC, e, h3, h10]
      · have h3 : 1 ≤ code := by omega
        have h4 : ¬ code ≤ 3 := by omega
        by_cases h5 : code ≤ 11
        · have h9 : ¬ 11 < code := by omega
          by_cases h6 : op = 0
          · subst h6
            by_cases h8 : xs.length = 0
            · obtain rfl : xs = [] := List.eq_nil_of_length_eq_zero h8
              simp (maxSteps := 4000000) -dsimp [-Y1, -Array.all_eq_true, -Y3, -Y4, and_assoc, Y5, Tryz.f22, asksC, iConC, iCoilC, isCodeC, e, h2, h3, h4, h5, h9, h10]
            · have h7 : ¬ (xs.length : Int) = 0 := by omega
              simp (maxSteps := 4000000) -dsimp [-Y1, -Array.all_eq_true, -Y3, -Y4, and_assoc, Y5, Tryz.f22, asksC, iConC, iCoilC, isCodeC, e, h2, h3, h4, h5, h7, h8, h9, h10]
          · simp (maxSteps := 4000000) -dsimp [-Y1, -Array.all_eq_true, -Y3, -Y4, and_assoc, Y5, Tryz.f22, asksC, iConC, iCoilC, isCodeC, e, h2, h3, h4, h5, h6, h9, h10]
        · have h9 : 11 < code := by omega
          simp (maxSteps := 4000000) -dsimp [-Y1, -Array.all_eq_true, -Y3, -Y4, and_assoc, Y5, Tryz.f22, asksC, iConC, iCoilC, isCodeC, e, h2, h3, h4, h5, h9, h10]
def iListOkC_S : Reads Tryz.prog 22 where
  ι := ((Int) × (Int) × (Option Addr) × (Nat) × (List Dev))
  A := fun (i : ((Int) × (Int) × (Option Addr) × (Nat) × (List Dev))) => match i with | (code, op, o, cap, xs) => [.agg #[.int .i64 code, .int .i64 op, .slice o xs.length cap]]
  pre := fun (i : ((Int) × (Int) × (Option Addr) × (Nat) × (List Dev))) (F : Facts) => match i with | (code, op, o, cap, xs) => RdD F o xs ∧ xs.length ≤ 1048576 ∧ xs.length ≤ cap ∧ cap ≤ 9223372036854775807
  res := fun (i : ((Int) × (Int) × (Option Addr) × (Nat) × (List Dev))) => match i with | (code, op, o, cap, xs) => .bool (insOk ⟨code, op, xs⟩)
  mono := by
    intro i F G hs h
    first | exact h | exact h.mono hs | exact ⟨h.1.mono hs, h.2⟩ | exact ⟨h.1.mono hs, h.2.1.mono hs, h.2.2⟩ | exact ⟨h.1.mono hs, h.2.1.mono hs⟩ | exact ⟨h.1.mono hs, h.2.1.mono hs, h.2.2.1.mono hs, h.2.2.2⟩
  uniq := by
    rintro ⟨code, op, o, cap, xs⟩ ⟨code', op', o', cap', xs'⟩ F hA h h'
    simp at hA
    (try simp only [Int.natCast_inj] at hA)
    obtain rfl : xs = xs' := RdD.uniq h.1 h'.1 (by simp_all) (by simp_all)
    simp_all
  enter := Tryz.call22
  h := fun i w hp => iListOkC_c i.1 i.2.1 i.2.2.1 i.2.2.2.1 i.2.2.2.2 w (by rw [factF_init]; exact hp)
def iListOkC : Con Tryz.prog := Con.read iListOkC_S
theorem iListOkC_rw {code op : Int} {o : Option Addr} {cap : Nat} {xs : List Dev} {d : Nat} {cx : Cx} {mem : List Blk} {K : C → Prop} (hpre : RdD (nowF cx mem) o xs ∧ xs.length ≤ 1048576 ∧ xs.length ≤ cap ∧ cap ≤ 9223372036854775807) : ReadV d iListOkC_S cx [.v (.agg #[.int .i64 code, .int .i64 op, .slice o xs.length cap])] mem K = K (.v (.bool (insOk ⟨code, op, xs⟩))) := iListOkC_S.eq (code, op, o, cap, xs) rfl hpre
end Go.Proofs.YtclbanhoiaieaaaGreatDoor
