/-
  Contracts: whether a kind is one of some.
-/
import Derived.Test.YtmlmmaojomghdaaGreatDoorIuh
import Derived.Test.YtmlmmaojomghdaaGreatDoorAuh
set_option linter.unusedVariables false
set_option linter.unusedSimpArgs false
set_option maxRecDepth 100000
set_option maxHeartbeats 4000000
namespace Go.Proofs.YtmlmmaojomghdaaGreatDoor
open Go Go.Sx
attribute [local simp] Sx.vcsE1 Sx.vcsE2 Sx.vcsE3 Sx.vcsE4 Sx.vcsE5 Sx.vcsE6 Sx.vcsE7 Sx.vcsE8 Sx.vcsE9 Sx.vcsE10 Sx.vcsE11 Sx.vcsE12 Sx.vcsE13 Sx.vcsE14 Sx.vcsE15 Sx.vcsE16 Sx.vcsE17 Sx.vcsE18 Sx.vcsE19 Sx.get Sx.look Sx.put Sx.pureFn Sx.findOrd Sx.unF Sx.dstOk Sx.isFloatT Sx.endVC Sx.resFn Sx.packC Sx.newFn Sx.storeFn Sx.buildFn Sx.known Sx.aggT Sx.cellsC Sx.findCon Sx.allV Sx.partsV Sx.partsC Sx.fillL Sx.exitTo Sx.fAr Sx.eqFn Sx.eqFieldsFn Sx.eqElemsFn Sx.partFn Sx.sliceFn Sx.boundFn Sx.AppV Sx.CopyV Sx.MakeSliceV Sx.NewsV Sx.GrowV Sx.TextV Sx.bytesL Sx.notInt Sx.typeAt Sx.argAt Sx.den Go.undef Go.Value.cells Go.Value.oneCell' Sx.Con.pure Sx.Con.some Sx.Con.read Sx.Con.make Sx.Con.ext Sx.Con.rel Sx.Con.extS Sx.Con.draw Sx.Con.step Sx.C.one Sx.Draws.steps

theorem indexC_c (o : Option Addr) (cap : Nat) (ks : List Int) (k : Int) (w : World) (hpre : RdI (factF ⟨w, [], w, []⟩) o ks ∧ ks.length ≤ 1048576) : Calls Tryz.prog 227 #[.slice o ks.length cap, .int .i64 k] w fun e w' => e = .returned (.int .i64 (findI ks k 0)) ∧ RowKit.Below w.heap.size w w' := by
  refine (plain_of_vcs ⟨[], []⟩ hmx Tryz.func227 rfl (by kernel_rfl) (args := [.slice o ks.length cap, .int .i64 k]) (by simp [Tryz.ntmps227]) w (· = .int .i64 (findI ks k 0)) 400 ?_).mono fun e w' ⟨v, h1, h2, h3⟩ => ⟨h2 ▸ h1, h3⟩
  obtain ⟨h, hl⟩ := hpre
  simp (maxSteps := 4000000) -dsimp [-List.all_eq_true, -Array.all_eq_true, -Bool.exists_bool, -Bool.forall_bool, and_assoc, List.zipIdx, Tryz.f227]
  refine loop_inv (σ := ⟨[], []⟩) hmx (by kernel_rfl) (fun m cx tm mem => cx = ⟨w, [], w, []⟩ ∧ mem = [] ∧ ∃ i : Nat, i ≤ ks.length ∧ m = ks.length - i ∧ findI ks k 0 = findI (ks.drop i) k i ∧ Sx.look tm 8 = .v (.int .i64 i) ∧ Sx.look tm 7 = .v (.int .i64 ks.length) ∧ Sx.look tm 0 = .v (.slice o ks.length cap) ∧ Sx.look tm 1 = .v (.int .i64 k))
    ks.length ⟨rfl, rfl, 0, by omega, rfl, rfl, by simp [Sx.look], by simp [Sx.look], by simp [Sx.look], by simp [Sx.look]⟩ ?_
  rintro m cx tm mem ⟨rfl, rfl, i, hi, rfl, hf, h8, h7, h0, h1⟩
  refine ⟨200, ?_⟩
  by_cases hlt : i < ks.length
  · obtain ⟨x, hx⟩ : ∃ x, ks[i]? = some x := ⟨ks[i], by simp [hlt]⟩
    rw [findI_drop hx] at hf
    simp (maxSteps := 4000000) -dsimp [-List.all_eq_true, -Array.all_eq_true, -Bool.exists_bool, -Bool.forall_bool, and_assoc, List.zipIdx, Tryz.f227, h8, h7, h0, h1, hlt, i_succ (i := i) (by omega), h.there hlt, h.ld _ hx]
    refine ⟨fun e => by rw [hf, if_pos e], fun e => ⟨_, by omega, i + 1, by omega, rfl, by rw [hf, if_neg e], by omega⟩⟩
  · obtain rfl : i = ks.length := by omega
    rw [List.drop_length, findI] at hf
    simp (maxSteps := 4000000) -dsimp [-List.all_eq_true, -Array.all_eq_true, -Bool.exists_bool, -Bool.forall_bool, and_assoc, List.zipIdx, Tryz.f227, h8, h7, h0, h1, hf]
def indexC_S : Reads Tryz.prog 227 where
  ι := ((Option Addr) × (Nat) × (List Int) × (Int))
  A := fun (i : ((Option Addr) × (Nat) × (List Int) × (Int))) => match i with | (o, cap, ks, k) => [.slice o ks.length cap, .int .i64 k]
  pre := fun (i : ((Option Addr) × (Nat) × (List Int) × (Int))) (F : Facts) => match i with | (o, cap, ks, k) => RdI F o ks ∧ ks.length ≤ 1048576
  res := fun (i : ((Option Addr) × (Nat) × (List Int) × (Int))) => match i with | (o, cap, ks, k) => .int .i64 (findI ks k 0)
  mono := by
    intro i F G hs h
    first | exact h | exact h.mono hs | exact ⟨h.1.mono hs, h.2⟩ | exact ⟨h.1.mono hs, h.2.1.mono hs, h.2.2⟩ | exact ⟨h.1.mono hs, h.2.1.mono hs⟩ | exact ⟨h.1.mono hs, h.2.1.mono hs, h.2.2.1.mono hs, h.2.2.2⟩
  uniq := by
    rintro ⟨o, cap, ks, k⟩ ⟨o', cap', ks', k'⟩ F hA h h'
    simp at hA
    (try simp only [Int.natCast_inj] at hA)
    obtain rfl : ks = ks' := RdI.uniq h.1 h'.1 (by simp_all) (by simp_all)
    simp_all
  enter := Tryz.call227
  h := fun i w hp => indexC_c i.1 i.2.1 i.2.2.1 i.2.2.2 w (by rw [factF_init]; exact hp)
def indexC : Con Tryz.prog := Con.read indexC_S
theorem indexC_rw {o : Option Addr} {cap : Nat} {ks : List Int} {k : Int} {d : Nat} {cx : Cx} {mem : List Blk} {K : C → Prop} (hpre : RdI (nowF cx mem) o ks ∧ ks.length ≤ 1048576) : ReadV d indexC_S cx [.v (.slice o ks.length cap), .v (.int .i64 k)] mem K = K (.v (.int .i64 (findI ks k 0))) := indexC_S.eq (o, cap, ks, k) rfl hpre
theorem containsC_c (o : Option Addr) (cap : Nat) (ks : List Int) (k : Int) (w : World) (hpre : RdI (factF ⟨w, [], w, []⟩) o ks ∧ ks.length ≤ 1048576) : Calls Tryz.prog 182 #[.slice o ks.length cap, .int .i64 k] w fun e w' => e = .returned (.bool (decide (k ∈ ks))) ∧ RowKit.Below w.heap.size w w' := by
  refine (plain_of_vcs ⟨[indexC], []⟩ hmx Tryz.func182 rfl (by kernel_rfl) (args := [.slice o ks.length cap, .int .i64 k]) (by simp [Tryz.ntmps182]) w (· = .bool (decide (k ∈ ks))) 400 ?_).mono fun e w' ⟨v, h1, h2, h3⟩ => ⟨h2 ▸ h1, h3⟩
  obtain ⟨h, hl⟩ := hpre
  have e := findI_mem ks k 0
  simp (maxSteps := 4000000) -dsimp [-List.all_eq_true, -Array.all_eq_true, -Bool.exists_bool, -Bool.forall_bool, and_assoc, List.zipIdx, Tryz.f182, indexC, indexC_rw ⟨h.mono (sub_now _ _), hl⟩, e]
def containsC_S : Reads Tryz.prog 182 where
  ι := ((Option Addr) × (Nat) × (List Int) × (Int))
  A := fun (i : ((Option Addr) × (Nat) × (List Int) × (Int))) => match i with | (o, cap, ks, k) => [.slice o ks.length cap, .int .i64 k]
  pre := fun (i : ((Option Addr) × (Nat) × (List Int) × (Int))) (F : Facts) => match i with | (o, cap, ks, k) => RdI F o ks ∧ ks.length ≤ 1048576
  res := fun (i : ((Option Addr) × (Nat) × (List Int) × (Int))) => match i with | (o, cap, ks, k) => .bool (decide (k ∈ ks))
  mono := by
    intro i F G hs h
    first | exact h | exact h.mono hs | exact ⟨h.1.mono hs, h.2⟩ | exact ⟨h.1.mono hs, h.2.1.mono hs, h.2.2⟩ | exact ⟨h.1.mono hs, h.2.1.mono hs⟩ | exact ⟨h.1.mono hs, h.2.1.mono hs, h.2.2.1.mono hs, h.2.2.2⟩
  uniq := by
    rintro ⟨o, cap, ks, k⟩ ⟨o', cap', ks', k'⟩ F hA h h'
    simp at hA
    (try simp only [Int.natCast_inj] at hA)
    obtain rfl : ks = ks' := RdI.uniq h.1 h'.1 (by simp_all) (by simp_all)
    simp_all
  enter := Tryz.call182
  h := fun i w hp => containsC_c i.1 i.2.1 i.2.2.1 i.2.2.2 w (by rw [factF_init]; exact hp)
def containsC : Con Tryz.prog := Con.read containsC_S
theorem containsC_rw {o : Option Addr} {cap : Nat} {ks : List Int} {k : Int} {d : Nat} {cx : Cx} {mem : List Blk} {K : C → Prop} (hpre : RdI (nowF cx mem) o ks ∧ ks.length ≤ 1048576) : ReadV d containsC_S cx [.v (.slice o ks.length cap), .v (.int .i64 k)] mem K = K (.v (.bool (decide (k ∈ ks)))) := containsC_S.eq (o, cap, ks, k) rfl hpre
theorem isKindC_c (k n p : Int) (o : Option Addr) (cap : Nat) (ks : List Int) (w : World) (hpre : RdI (factF ⟨w, [], w, []⟩) o ks ∧ ks.length ≤ 1048576) : Calls Tryz.prog 112 #[.agg #[.int .i64 k, .int .i64 n, .int .i64 p], .slice o ks.length cap] w fun e w' => e = .returned (.bool (decide (k ∈ ks))) ∧ RowKit.Below w.heap.size w w' := by
  refine (plain_of_vcs ⟨[containsC], []⟩ hmx Tryz.func112 rfl (by kernel_rfl) (args := [.agg #[.int .i64 k, .int .i64 n, .int .i64 p], .slice o ks.length cap]) (by simp [Tryz.ntmps112]) w (· = .bool (decide (k ∈ ks))) 400 ?_).mono fun e w' ⟨v, h1, h2, h3⟩ => ⟨h2 ▸ h1, h3⟩
  obtain ⟨h, hl⟩ := hpre
  simp (maxSteps := 4000000) -dsimp [-List.all_eq_true, -Array.all_eq_true, -Bool.exists_bool, -Bool.forall_bool, and_assoc, List.zipIdx, Tryz.f112, containsC, containsC_rw ⟨h.mono (sub_now _ _), hl⟩]
def isKindC_S : Reads Tryz.prog 112 where
  ι := ((Int) × (Int) × (Int) × (Option Addr) × (Nat) × (List Int))
  A := fun (i : ((Int) × (Int) × (Int) × (Option Addr) × (Nat) × (List Int))) => match i with | (k, n, p, o, cap, ks) => [.agg #[.int .i64 k, .int .i64 n, .int .i64 p], .slice o ks.length cap]
  pre := fun (i : ((Int) × (Int) × (Int) × (Option Addr) × (Nat) × (List Int))) (F : Facts) => match i with | (k, n, p, o, cap, ks) => RdI F o ks ∧ ks.length ≤ 1048576
  res := fun (i : ((Int) × (Int) × (Int) × (Option Addr) × (Nat) × (List Int))) => match i with | (k, n, p, o, cap, ks) => .bool (decide (k ∈ ks))
  mono := by
    intro i F G hs h
    first | exact h | exact h.mono hs | exact ⟨h.1.mono hs, h.2⟩ | exact ⟨h.1.mono hs, h.2.1.mono hs, h.2.2⟩ | exact ⟨h.1.mono hs, h.2.1.mono hs⟩ | exact ⟨h.1.mono hs, h.2.1.mono hs, h.2.2.1.mono hs, h.2.2.2⟩
  uniq := by
    rintro ⟨k, n, p, o, cap, ks⟩ ⟨k', n', p', o', cap', ks'⟩ F hA h h'
    simp at hA
    (try simp only [Int.natCast_inj] at hA)
    obtain rfl : ks = ks' := RdI.uniq h.1 h'.1 (by simp_all) (by simp_all)
    simp_all
  enter := Tryz.call112
  h := fun i w hp => isKindC_c i.1 i.2.1 i.2.2.1 i.2.2.2.1 i.2.2.2.2.1 i.2.2.2.2.2 w (by rw [factF_init]; exact hp)
def isKindC : Con Tryz.prog := Con.read isKindC_S
theorem isKindC_rw {k n p : Int} {o : Option Addr} {cap : Nat} {ks : List Int} {d : Nat} {cx : Cx} {mem : List Blk} {K : C → Prop} (hpre : RdI (nowF cx mem) o ks ∧ ks.length ≤ 1048576) : ReadV d isKindC_S cx [.v (.agg #[.int .i64 k, .int .i64 n, .int .i64 p]), .v (.slice o ks.length cap)] mem K = K (.v (.bool (decide (k ∈ ks)))) := isKindC_S.eq (k, n, p, o, cap, ks) rfl hpre
end Go.Proofs.YtmlmmaojomghdaaGreatDoor
