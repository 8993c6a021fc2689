/-
  Contracts: the names of coils and the signs of comparisons, by both; contacts and coils as text by the reference.
-/
import Derived.Test.YtmlmmaojomghdaaGreatDoorTsuh
import Derived.Test.YtmlmmaojomghdaaGreatDoorTwuh
import Derived.Test.YtmlmmaojomghdaaGreatDoorEvuh
import Derived.Test.YtmlmmaojomghdaaGreatDoorEmuh
set_option linter.unusedVariables false
set_option linter.unusedSimpArgs false
set_option maxRecDepth 100000
set_option maxHeartbeats 4000000
namespace Go.Proofs.YtmlmmaojomghdaaGreatDoor
open Go Go.Sx
attribute [local simp] Sx.vcsE1 Sx.vcsE2 Sx.vcsE3 Sx.vcsE4 Sx.vcsE5 Sx.vcsE6 Sx.vcsE7 Sx.vcsE8 Sx.vcsE9 Sx.vcsE10 Sx.vcsE11 Sx.vcsE12 Sx.vcsE13 Sx.vcsE14 Sx.vcsE15 Sx.vcsE16 Sx.vcsE17 Sx.vcsE18 Sx.vcsE19 Sx.get Sx.look Sx.put Sx.pureFn Sx.findOrd Sx.unF Sx.dstOk Sx.isFloatT Sx.endVC Sx.resFn Sx.packC Sx.newFn Sx.storeFn Sx.buildFn Sx.known Sx.aggT Sx.cellsC Sx.findCon Sx.allV Sx.partsV Sx.partsC Sx.fillL Sx.exitTo Sx.fAr Sx.eqFn Sx.eqFieldsFn Sx.eqElemsFn Sx.partFn Sx.sliceFn Sx.boundFn Sx.AppV Sx.CopyV Sx.MakeSliceV Sx.NewsV Sx.GrowV Sx.TextV Sx.bytesL Sx.notInt Sx.typeAt Sx.argAt Sx.den Go.undef Go.Value.cells Go.Value.oneCell' Sx.Con.pure Sx.Con.some Sx.Con.read Sx.Con.make Sx.Con.ext Sx.Con.rel Sx.Con.extS Sx.Con.draw Sx.Con.step Sx.C.one Sx.Draws.steps

def words17 : List Str := [[111, 117, 116], [115, 101, 116], [114, 101, 115, 101, 116], [112, 117, 108, 115, 101], [115, 116, 101, 112], [116, 105, 109, 101, 114], [104, 111, 108, 100], [108, 97, 116, 101],
  [99, 111, 117, 110, 116], [109, 111, 118, 101], [97, 100, 100], [115, 117, 98], [109, 117, 108], [100, 105, 118], [114, 101, 109], [114, 101, 97, 108], [119, 104, 111, 108, 101]]
def TN (F : Facts) : Prop := RdL F (some ⟨0, 0, none⟩) (words17.map fun z => .string (txt z))
theorem TN.mono {F G : Facts} (h : TN F) (hs : Sub F G) : TN G := RdL.mono h hs
theorem coil_cases {c : Int} (h : 21 ≤ c ∧ c ≤ 37) : c = 21 ∨ c = 22 ∨ c = 23 ∨ c = 24 ∨ c = 25 ∨ c = 26 ∨ c = 27 ∨ c = 28 ∨ c = 29 ∨ c = 30 ∨ c = 31 ∨ c = 32 ∨ c = 33 ∨ c = 34 ∨ c = 35 ∨ c = 36 ∨ c = 37 := by omega
theorem words17_at {c : Int} (hc : 21 ≤ c ∧ c ≤ 37) : (words17.map fun z => Value.string (txt z))[(c - 21).toNat]? = some (.string (txt (coilName c))) := by
  rcases coil_cases hc with rfl | rfl | rfl | rfl | rfl | rfl | rfl | rfl | rfl | rfl | rfl | rfl | rfl | rfl | rfl | rfl | rfl <;> rfl
theorem coilName_out {c : Int} (h : ¬ (21 ≤ c ∧ c ≤ 37)) : coilName c = [] := by
  unfold coilName
  (repeat' rw [if_neg (by omega)])
theorem coilName_len {c : Int} : (coilName c).length ≤ 5 := by
  by_cases hc : 21 ≤ c ∧ c ≤ 37
  · rcases coil_cases hc with rfl | rfl | rfl | rfl | rfl | rfl | rfl | rfl | rfl | rfl | rfl | rfl | rfl | rfl | rfl | rfl | rfl <;> decide
  · rw [coilName_out hc]; decide
theorem iNameC_c (c : Int) (w : World) (hpre : TN (factF ⟨w, [], w, []⟩)) : Calls Tryz.prog 96 #[.int .i64 c] w fun e w' => e = .returned (.string (txt (coilName c))) ∧ RowKit.Below w.heap.size w w' := by
  refine (plain_of_vcs ⟨[isCoilOpC], []⟩ hmx Tryz.func96 rfl (by kernel_rfl) (args := [.int .i64 c]) (by simp [Tryz.ntmps96]) w (· = .string (txt (coilName c))) 400 ?_).mono fun e w' ⟨v, h1, h2, h3⟩ => ⟨h2 ▸ h1, h3⟩
  by_cases hc : 21 ≤ c ∧ c ≤ 37
  · have hq := words17_at hc
    have l0 := fun (d : Nat) (mem : List Blk) (K : Value → Prop) => RdL.ld (P := Tryz.prog) (d := d) (K := K) (RdL.mono hpre (sub_now ⟨w, [], w, []⟩ mem)) (t := 9) (by kernel_rfl) hq
    simp only [padd_some, Nat.zero_add] at l0
    have e1 : IntKind.i64.wrap (c - 21) = c - 21 := wrap_i64 (by omega) (by omega)
    simp (maxSteps := 4000000) -dsimp [-List.all_eq_true, -Array.all_eq_true, -Bool.exists_bool, -Bool.forall_bool, and_assoc, List.zipIdx, Tryz.f96, isCoilOpC, hc, e1, l0]
    omega
  · rw [coilName_out hc]
    simp (maxSteps := 4000000) -dsimp [-List.all_eq_true, -Array.all_eq_true, -Bool.exists_bool, -Bool.forall_bool, and_assoc, List.zipIdx, Tryz.f96, isCoilOpC, hc, txt_eta]
    omega
def iNameC_S : Reads Tryz.prog 96 where
  ι := ((Int))
  A := fun (c : ((Int))) => [.int .i64 c]
  pre := fun (c : ((Int))) (F : Facts) => TN F
  res := fun (c : ((Int))) => .string (txt (coilName c))
  mono := by
    intro i F G hs h
    first | exact h | exact h.mono hs | exact ⟨h.1.mono hs, h.2⟩ | exact ⟨h.1.mono hs, h.2.1.mono hs, h.2.2⟩ | exact ⟨h.1.mono hs, h.2.1.mono hs⟩ | exact ⟨h.1.mono hs, h.2.1.mono hs, h.2.2.1.mono hs, h.2.2.2⟩
  uniq := by
    rintro c c' F hA h h'
    simp at hA
    (try simp only [Int.natCast_inj] at hA)
    simp_all
  enter := Tryz.call96
  h := fun c w hp => iNameC_c c w (by rw [factF_init]; exact hp)
def iNameC : Con Tryz.prog := Con.read iNameC_S
theorem iNameC_rw {c : Int} {d : Nat} {cx : Cx} {mem : List Blk} {K : C → Prop} (hpre : TN (nowF cx mem)) : ReadV d iNameC_S cx [.v (.int .i64 c)] mem K = K (.v (.string (txt (coilName c)))) := iNameC_S.eq c rfl hpre
theorem sNameC_c (c : Int) (w : World) : Calls Tryz.prog 98 #[.int .i64 c] w fun e w' => e = .returned (.string (txt (coilName c))) ∧ RowKit.Below w.heap.size w w' := by
  refine (plain_of_vcs ⟨[], []⟩ hmx Tryz.func98 rfl (by kernel_rfl) (args := [.int .i64 c]) (by simp [Tryz.ntmps98]) w (· = .string (txt (coilName c))) 400 ?_).mono fun e w' ⟨v, h1, h2, h3⟩ => ⟨h2 ▸ h1, h3⟩
  by_cases hc : 21 ≤ c ∧ c ≤ 37
  · have hq := words17_at hc
    have e1 : IntKind.i64.wrap (c - 21) = c - 21 := wrap_i64 (by omega) (by omega)
    have h1 : ¬ c < 21 := by omega
    have h2 : ¬ 37 < c := by omega
    simp (maxSteps := 4000000) -dsimp [-List.all_eq_true, -Array.all_eq_true, -Bool.exists_bool, -Bool.forall_bool, and_assoc, List.zipIdx, Tryz.f98, h1, h2, e1]
    intro cx1 p hle hl
    have l0 := fun (d : Nat) (mem : List Blk) (K : Value → Prop) => RdL.ld (P := Tryz.prog) (d := d) (K := K) ((hl.mono ((sub_new cx1).trans (sub_now cx1 mem)) : RdL (nowF cx1 mem) p (words17.map fun z => Value.string (txt z)))) (t := 9) (by kernel_rfl) hq
    have ht : p.isSome = true := RdL.there hl (i := 0) (by decide)
    simp (maxSteps := 4000000) -dsimp [-List.all_eq_true, -Array.all_eq_true, -Bool.exists_bool, -Bool.forall_bool, and_assoc, List.zipIdx, Tryz.f98, h1, h2, e1, l0, ht]
    first | exact ⟨by omega, by omega, hle.w0, hle.g0⟩ | exact ⟨by omega, by omega, Option.isSome_iff_exists.1 ht, hle.w0, hle.g0⟩
  · rw [coilName_out hc]
    by_cases h1 : c < 21
    · simp (maxSteps := 4000000) -dsimp [-List.all_eq_true, -Array.all_eq_true, -Bool.exists_bool, -Bool.forall_bool, and_assoc, List.zipIdx, Tryz.f98, h1, txt_eta]
    · have h2 : 37 < c := by omega
      simp (maxSteps := 4000000) -dsimp [-List.all_eq_true, -Array.all_eq_true, -Bool.exists_bool, -Bool.forall_bool, and_assoc, List.zipIdx, Tryz.f98, h1, h2, txt_eta]
def sNameC : Con Tryz.prog := Con.pure 98 Tryz.call98 (fun (c : ((Int))) => [.int .i64 c]) (fun (c : ((Int))) => True) (fun (c : ((Int))) => .string (txt (coilName c))) fun c w _ => sNameC_c c w
def words6 : List Str := [[60], [60, 61], [61], [60, 62], [62, 61], [62]]
theorem words6_at {c : Int} (hc : 5 ≤ c ∧ c ≤ 10) : (words6.map fun z => Value.string (txt z))[(c - 5).toNat]? = some (.string (txt (cmpS (c - 4)))) := by
  have : c = 5 ∨ c = 6 ∨ c = 7 ∨ c = 8 ∨ c = 9 ∨ c = 10 := by omega
  rcases this with rfl | rfl | rfl | rfl | rfl | rfl <;> rfl
theorem cmpS_out {c : Int} (h : ¬ (1 ≤ c ∧ c ≤ 6)) : cmpS c = [] := by
  unfold cmpS
  (repeat' rw [if_neg (by omega)])
theorem cmpS_len (c : Int) : (cmpS c).length ≤ 2 := by
  unfold cmpS
  (repeat' split) <;> decide
theorem sSignC_c (c : Int) (w : World) : Calls Tryz.prog 101 #[.int .i64 c] w fun e w' => e = .returned (.string (txt (cmpS (c - 4)))) ∧ RowKit.Below w.heap.size w w' := by
  refine (plain_of_vcs ⟨[], []⟩ hmx Tryz.func101 rfl (by kernel_rfl) (args := [.int .i64 c]) (by simp [Tryz.ntmps101]) w (· = .string (txt (cmpS (c - 4)))) 400 ?_).mono fun e w' ⟨v, h1, h2, h3⟩ => ⟨h2 ▸ h1, h3⟩
  by_cases hc : 5 ≤ c ∧ c ≤ 10
  · have hq := words6_at hc
    have e1 : IntKind.i64.wrap (c - 5) = c - 5 := wrap_i64 (by omega) (by omega)
    have h1 : ¬ c < 5 := by omega
    have h2 : ¬ 10 < c := by omega
    simp (maxSteps := 4000000) -dsimp [-List.all_eq_true, -Array.all_eq_true, -Bool.exists_bool, -Bool.forall_bool, and_assoc, List.zipIdx, Tryz.f101, h1, h2, e1]
    intro cx1 p hle hl
    have l0 := fun (d : Nat) (mem : List Blk) (K : Value → Prop) => RdL.ld (P := Tryz.prog) (d := d) (K := K) ((hl.mono ((sub_new cx1).trans (sub_now cx1 mem)) : RdL (nowF cx1 mem) p (words6.map fun z => Value.string (txt z)))) (t := 9) (by kernel_rfl) hq
    have ht : p.isSome = true := RdL.there hl (i := 0) (by decide)
    simp (maxSteps := 4000000) -dsimp [-List.all_eq_true, -Array.all_eq_true, -Bool.exists_bool, -Bool.forall_bool, and_assoc, List.zipIdx, Tryz.f101, h1, h2, e1, l0, ht]
    first | exact ⟨by omega, by omega, hle.w0, hle.g0⟩ | exact ⟨by omega, by omega, Option.isSome_iff_exists.1 ht, hle.w0, hle.g0⟩
  · rw [cmpS_out (c := c - 4) (by omega)]
    by_cases h1 : c < 5
    · simp (maxSteps := 4000000) -dsimp [-List.all_eq_true, -Array.all_eq_true, -Bool.exists_bool, -Bool.forall_bool, and_assoc, List.zipIdx, Tryz.f101, h1, txt_eta]
    · have h2 : 10 < c := by omega
      simp (maxSteps := 4000000) -dsimp [-List.all_eq_true, -Array.all_eq_true, -Bool.exists_bool, -Bool.forall_bool, and_assoc, List.zipIdx, Tryz.f101, h1, h2, txt_eta]
def sSignC : Con Tryz.prog := Con.pure 101 Tryz.call101 (fun (c : ((Int))) => [.int .i64 c]) (fun (c : ((Int))) => True) (fun (c : ((Int))) => .string (txt (cmpS (c - 4)))) fun c w _ => sSignC_c c w
theorem isCmpTC_c (c : Int) (w : World) : Calls Tryz.prog 164 #[.int .i64 c] w fun e w' => e = .returned (.bool (decide (1 ≤ c ∧ c ≤ 6))) ∧ RowKit.Below w.heap.size w w' := by
  refine (plain_of_vcs ⟨[withinC], []⟩ hmx Tryz.func164 rfl (by kernel_rfl) (args := [.int .i64 c]) (by simp [Tryz.ntmps164]) w (· = .bool (decide (1 ≤ c ∧ c ≤ 6))) 400 ?_).mono fun e w' ⟨v, h1, h2, h3⟩ => ⟨h2 ▸ h1, h3⟩
  simp (maxSteps := 4000000) -dsimp [-List.all_eq_true, -Array.all_eq_true, -Bool.exists_bool, -Bool.forall_bool, and_assoc, List.zipIdx, Tryz.f164, withinC]
def isCmpTC : Con Tryz.prog := Con.pure 164 Tryz.call164 (fun (c : ((Int))) => [.int .i64 c]) (fun (c : ((Int))) => True) (fun (c : ((Int))) => .bool (decide (1 ≤ c ∧ c ≤ 6))) fun c w _ => isCmpTC_c c w
theorem iCmpTextC_c (c : Int) (w : World) : Calls Tryz.prog 91 #[.int .i64 c] w fun e w' => e = .returned (.string (txt (cmpS c))) ∧ RowKit.Below w.heap.size w w' := by
  refine (plain_of_vcs ⟨[isCmpTC], []⟩ hmx Tryz.func91 rfl (by kernel_rfl) (args := [.int .i64 c]) (by simp [Tryz.ntmps91]) w (· = .string (txt (cmpS c))) 400 ?_).mono fun e w' ⟨v, h1, h2, h3⟩ => ⟨h2 ▸ h1, h3⟩
  by_cases hc : 1 ≤ c ∧ c ≤ 6
  · have : c = 1 ∨ c = 2 ∨ c = 3 ∨ c = 4 ∨ c = 5 ∨ c = 6 := by omega
    rcases this with rfl | rfl | rfl | rfl | rfl | rfl
    all_goals
      have w0 : IntKind.i64.wrap 0 = 0 := by decide
      have w1 : IntKind.i64.wrap 1 = 1 := by decide
      have w2 : IntKind.i64.wrap 2 = 2 := by decide
      have w3 : IntKind.i64.wrap 3 = 3 := by decide
      have w4 : IntKind.i64.wrap 4 = 4 := by decide
      have w5 : IntKind.i64.wrap 5 = 5 := by decide
      simp (maxSteps := 4000000) -dsimp [-List.all_eq_true, -Array.all_eq_true, -Bool.exists_bool, -Bool.forall_bool, and_assoc, List.zipIdx, Tryz.f91, isCmpTC, txt_eta, w0, w1, w2, w3, w4, w5, cmpS]
  · rw [cmpS_out hc]
    simp (maxSteps := 4000000) -dsimp [-List.all_eq_true, -Array.all_eq_true, -Bool.exists_bool, -Bool.forall_bool, and_assoc, List.zipIdx, Tryz.f91, isCmpTC, hc, txt_eta]
    omega
def iCmpTextC : Con Tryz.prog := Con.pure 91 Tryz.call91 (fun (c : ((Int))) => [.int .i64 c]) (fun (c : ((Int))) => True) (fun (c : ((Int))) => .string (txt (cmpS c))) fun c w _ => iCmpTextC_c c w
end Go.Proofs.YtmlmmaojomghdaaGreatDoor
