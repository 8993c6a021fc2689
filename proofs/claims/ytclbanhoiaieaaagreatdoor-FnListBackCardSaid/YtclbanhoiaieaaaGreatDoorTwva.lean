/-
  Contracts: the words of instructions, by the program (out of its table) and by the reference.
-/
import Derived.Test.YtclbanhoiaieaaaGreatDoorTava
import Derived.Test.YtclbanhoiaieaaaGreatDoorEmva
set_option linter.unusedVariables false
set_option linter.unusedSimpArgs false
set_option maxRecDepth 100000
set_option maxHeartbeats 4000000
namespace Go.Proofs.YtclbanhoiaieaaaGreatDoor
open Go Go.Sx
attribute [local simp] Sx.vcsE1 Sx.vcsE2 Sx.vcsE3 Sx.vcsE4 Sx.vcsE5 Sx.vcsE6 Sx.vcsE7 Sx.vcsE8 Sx.vcsE9 Sx.vcsE10 Sx.vcsE11 Sx.vcsE12 Sx.vcsE13 Sx.vcsE14 Sx.vcsE15 Sx.vcsE16 Sx.vcsE17 Sx.vcsE18 Sx.vcsE19 Sx.get Sx.look Sx.put Sx.pureFn Sx.findOrd Sx.unF Sx.dstOk Sx.isFloatT Sx.endVC Sx.resFn Sx.packC Sx.newFn Sx.storeFn Sx.buildFn Sx.known Sx.aggT Sx.cellsC Sx.findCon Sx.allV Sx.partsV Sx.partsC Sx.fillL Sx.exitTo Sx.fAr Sx.eqFn Sx.eqFieldsFn Sx.eqElemsFn Sx.partFn Sx.sliceFn Sx.boundFn Sx.AppV Sx.CopyV Sx.MakeSliceV Sx.NewsV Sx.GrowV Sx.TextV Sx.bytesL Sx.notInt Sx.typeAt Sx.argAt Sx.den Go.undef Go.Value.cells Go.Value.oneCell' Sx.Con.pure Sx.Con.some Sx.Con.read Sx.Con.make Sx.Con.ext Sx.Con.rel Sx.Con.extS Sx.Con.draw Sx.Con.step Sx.C.one Sx.Draws.steps

def words11 : List Str := [[108, 100], [97, 110, 100], [111, 114], [97, 110, 98], [111, 114, 98], [105, 110, 118], [109, 112, 115], [109, 114, 100], [109, 112, 112], [99, 111, 105, 108], [101, 110, 100]]
def TW (F : Facts) : Prop := RdL F (some ⟨2, 0, none⟩) (words11.map fun z => .string (txt z))
theorem TW.mono {F G : Facts} (h : TW F) (hs : Sub F G) : TW G := RdL.mono h hs
theorem code_cases {c : Int} (h : 1 ≤ c ∧ c ≤ 11) : c = 1 ∨ c = 2 ∨ c = 3 ∨ c = 4 ∨ c = 5 ∨ c = 6 ∨ c = 7 ∨ c = 8 ∨ c = 9 ∨ c = 10 ∨ c = 11 := by omega
theorem wordOf_out {c : Int} (h : ¬ (1 ≤ c ∧ c ≤ 11)) : wordOf c = [] := by
  unfold wordOf
  (repeat' rw [if_neg (by omega)])
theorem listWordC_c (c : Int) (w : World) (hpre : TW (factF ⟨w, [], w, []⟩)) : Calls Tryz.prog 82 #[.int .i64 c] w fun e w' => e = .returned (.string (txt (wordOf c))) ∧ RowKit.Below w.heap.size w w' := by
  refine (plain_of_vcs ⟨[isCodeC], []⟩ hmx Tryz.func82 rfl (by kernel_rfl) (args := [.int .i64 c]) (by simp [Tryz.ntmps82]) w (· = .string (txt (wordOf c))) 400 ?_).mono fun e w' ⟨v, h1, h2, h3⟩ => ⟨h2 ▸ h1, h3⟩
  by_cases hc : 1 ≤ c ∧ c ≤ 11
  · have hq : (words11.map fun z => Value.string (txt z))[c.toNat - 1]? = some (.string (txt (wordOf c))) := by
      rcases code_cases hc with rfl | rfl | rfl | rfl | rfl | rfl | rfl | rfl | rfl | rfl | rfl <;> rfl
    have l0 := fun (d : Nat) (mem : List Blk) (K : Value → Prop) => RdL.ld (P := Tryz.prog) (d := d) (K := K) (RdL.mono hpre (sub_now ⟨w, [], w, []⟩ mem)) (t := 9) (by kernel_rfl) hq
    simp only [padd_some, Nat.zero_add] at l0
    have e1 : IntKind.i64.wrap (c - 1) = c - 1 := wrap_i64 (by omega) (by omega)
    simp (maxSteps := 4000000) -dsimp [-List.all_eq_true, -Array.all_eq_true, -Bool.exists_bool, -Bool.forall_bool, and_assoc, List.zipIdx, Tryz.f82, isCodeC, hc, e1, l0]
    trace_state
    omega
  · rw [wordOf_out hc]
    simp (maxSteps := 4000000) -dsimp [-List.all_eq_true, -Array.all_eq_true, -Bool.exists_bool, -Bool.forall_bool, and_assoc, List.zipIdx, Tryz.f82, isCodeC, hc, txt_eta]
    omega
def listWordC_S : Reads Tryz.prog 82 where
  ι := ((Int))
  A := fun (c : ((Int))) => [.int .i64 c]
  pre := fun (c : ((Int))) (F : Facts) => TW F
  res := fun (c : ((Int))) => .string (txt (wordOf c))
  mono := by
    intro i F G hs h
    first | exact h | exact h.mono hs | exact ⟨h.1.mono hs, h.2⟩ | exact ⟨h.1.mono hs, h.2.1.mono hs, h.2.2⟩ | exact ⟨h.1.mono hs, h.2.1.mono hs⟩ | exact ⟨h.1.mono hs, h.2.1.mono hs, h.2.2.1.mono hs, h.2.2.2⟩
  uniq := by
    rintro c c' F hA h h'
    simp at hA
    (try simp only [Int.natCast_inj] at hA)
    simp_all
  enter := Tryz.call82
  h := fun c w hp => listWordC_c c w (by rw [factF_init]; exact hp)
def listWordC : Con Tryz.prog := Con.read listWordC_S
theorem listWordC_rw {c : Int} {d : Nat} {cx : Cx} {mem : List Blk} {K : C → Prop} (hpre : TW (nowF cx mem)) : ReadV d listWordC_S cx [.v (.int .i64 c)] mem K = K (.v (.string (txt (wordOf c)))) := listWordC_S.eq c rfl hpre
theorem sListWordC_c (c : Int) (w : World) : Calls Tryz.prog 90 #[.int .i64 c] w fun e w' => e = .returned (.string (txt (wordOf c))) ∧ RowKit.Below w.heap.size w w' := by
  refine (plain_of_vcs ⟨[], []⟩ hmx Tryz.func90 rfl (by kernel_rfl) (args := [.int .i64 c]) (by simp [Tryz.ntmps90]) w (· = .string (txt (wordOf c))) 400 ?_).mono fun e w' ⟨v, h1, h2, h3⟩ => ⟨h2 ▸ h1, h3⟩
  by_cases hc : 1 ≤ c ∧ c ≤ 11
  · have hq : (words11.map fun z => Value.string (txt z))[c.toNat - 1]? = some (.string (txt (wordOf c))) := by
      rcases code_cases hc with rfl | rfl | rfl | rfl | rfl | rfl | rfl | rfl | rfl | rfl | rfl <;> rfl
    have e1 : IntKind.i64.wrap (c - 1) = c - 1 := wrap_i64 (by omega) (by omega)
    have h1 : ¬ c < 1 := by omega
    have h2 : ¬ 11 < c := by omega
    simp (maxSteps := 4000000) -dsimp [-List.all_eq_true, -Array.all_eq_true, -Bool.exists_bool, -Bool.forall_bool, and_assoc, List.zipIdx, Tryz.f90, h1, h2, e1]
    intro cx1 p hle hl
    have l0 := fun (d : Nat) (mem : List Blk) (K : Value → Prop) => RdL.ld (P := Tryz.prog) (d := d) (K := K) ((hl.mono ((sub_new cx1).trans (sub_now cx1 mem)) : RdL (nowF cx1 mem) p (words11.map fun z => Value.string (txt z)))) (t := 9) (by kernel_rfl) hq
    have ht : p.isSome = true := RdL.there hl (i := 0) (by decide)
    simp (maxSteps := 4000000) -dsimp [-List.all_eq_true, -Array.all_eq_true, -Bool.exists_bool, -Bool.forall_bool, and_assoc, List.zipIdx, Tryz.f90, h1, h2, e1, l0, ht]
    exact ⟨by omega, by omega, hle.w0, hle.g0⟩
  · rw [wordOf_out hc]
    by_cases h1 : c < 1
    · simp (maxSteps := 4000000) -dsimp [-List.all_eq_true, -Array.all_eq_true, -Bool.exists_bool, -Bool.forall_bool, and_assoc, List.zipIdx, Tryz.f90, h1, txt_eta]
    · have h2 : 11 < c := by omega
      simp (maxSteps := 4000000) -dsimp [-List.all_eq_true, -Array.all_eq_true, -Bool.exists_bool, -Bool.forall_bool, and_assoc, List.zipIdx, Tryz.f90, h1, h2, txt_eta]
def sListWordC : Con Tryz.prog := Con.pure 90 Tryz.call90 (fun (c : ((Int))) => [.int .i64 c]) (fun (c : ((Int))) => True) (fun (c : ((Int))) => .string (txt (wordOf c))) fun c w _ => sListWordC_c c w
end Go.Proofs.YtclbanhoiaieaaaGreatDoor
