/-
  Contracts: contacts and coils, instructions, lists as text, by the program.
-/
import Derived.Test.YtclbanhoiaieaaaGreatDoorTsva
import Derived.Test.YtclbanhoiaieaaaGreatDoorTwva
import Derived.Test.YtclbanhoiaieaaaGreatDoorEvva
import Derived.Test.YtclbanhoiaieaaaGreatDoorEmva
import Derived.Test.YtclbanhoiaieaaaGreatDoorTgva
set_option linter.unusedVariables false
set_option linter.unusedSimpArgs false
set_option maxRecDepth 100000
set_option maxHeartbeats 4000000
namespace Go.Proofs.YtclbanhoiaieaaaGreatDoor
open Go Go.Sx
open List renaming all_eq_true → Y1, zipIdx → Y5
open Bool renaming exists_bool → Y3, forall_bool → Y4
attribute [local simp] Sx.vcsE1 Sx.vcsE2 Sx.vcsE3 Sx.vcsE4 Sx.vcsE5 Sx.vcsE6 Sx.vcsE7 Sx.vcsE8 Sx.vcsE9 Sx.vcsE10 Sx.vcsE11 Sx.vcsE12 Sx.vcsE13 Sx.vcsE14 Sx.vcsE15 Sx.vcsE16 Sx.vcsE17 Sx.vcsE18 Sx.vcsE19 Sx.get Sx.look Sx.put Sx.pureFn Sx.findOrd Sx.unF Sx.dstOk Sx.isFloatT Sx.endVC Sx.resFn Sx.packC Sx.newFn Sx.storeFn Sx.buildFn Sx.known Sx.aggT Sx.cellsC Sx.findCon Sx.allV Sx.partsV Sx.partsC Sx.fillL Sx.exitTo Sx.fAr Sx.eqFn Sx.eqFieldsFn Sx.eqElemsFn Sx.partFn Sx.sliceFn Sx.boundFn Sx.AppV Sx.CopyV Sx.MakeSliceV Sx.NewsV Sx.GrowV Sx.TextV Sx.bytesL Sx.notInt Sx.typeAt Sx.argAt Sx.den Go.undef Go.Value.cells Go.Value.oneCell' Sx.Con.pure Sx.Con.some Sx.Con.read Sx.Con.make Sx.Con.ext Sx.Con.rel Sx.Con.extS Sx.Con.draw Sx.Con.step Sx.C.one Sx.Draws.steps

def words17 : List Str := [[111, 117, 116], [115, 101, 116], [114, 101, 115, 101, 116], [112, 117, 108, 115, 101], [115, 116, 101, 112], [116, 105, 109, 101, 114], [104, 111, 108, 100], [108, 97, 116, 101],
  [99, 111, 117, 110, 116], [109, 111, 118, 101], [97, 100, 100], [115, 117, 98], [109, 117, 108], [100, 105, 118], [114, 101, 109], [114, 101, 97, 108], [119, 104, 111, 108, 101]]
def TN (F : Facts) : Prop := RdL F (some ⟨0, 0, none⟩) (words17.map fun z => .string (txt z))
theorem TN.mono {F G : Facts} (h : TN F) (hs : Sub F G) : TN G := RdL.mono h hs
theorem coil_cases {c : Int} (h : 21 ≤ c ∧ c ≤ 37) : c = 21 ∨ c = 22 ∨ c = 23 ∨ c = 24 ∨ c = 25 ∨ c = 26 ∨ c = 27 ∨ c = 28 ∨ c = 29 ∨ c = 30 ∨ c = 31 ∨ c = 32 ∨ c = 33 ∨ c = 34 ∨ c = 35 ∨ c = 36 ∨ c = 37 := by omega
theorem words17_at {c : Int} (hc : 21 ≤ c ∧ c ≤ 37) : (words17.map fun z => Value.string (txt z))[(c - 21).toNat]? = some (.string (txt (coilName c))) := by
  rcases coil_cases hc with rfl | rfl | rfl | rfl | rfl | rfl | rfl | rfl | rfl | rfl | rfl | rfl | rfl | rfl | rfl | rfl | rfl <;> rfl
theorem coilName_out {c : Int} (h : ¬ (21 ≤ c ∧ c ≤ 37)) : coilName c = [] := by
  unfold coilName
  (repeat' rw [if_neg (by omega)])
theorem coilName_len {c : Int} : (coilName c).length ≤ 5 := by
  by_cases hc : 21 ≤ c ∧ c ≤ 37
  · rcases coil_cases hc with rfl | rfl | rfl | rfl | rfl | rfl | rfl | rfl | rfl | rfl | rfl | rfl | rfl | rfl | rfl | rfl | rfl <;> decide
  · rw [coilName_out hc]; decide
theorem iNameC_c (c : Int) (w : World) (hpre : TN (factF ⟨w, [], w, []⟩)) : Calls Tryz.prog 94 #[.int .i64 c] w fun e w' => e = .returned (.string (txt (coilName c))) ∧ RowKit.Below w.heap.size w w' := by
  refine (plain_of_vcs ⟨[isCoilOpC], []⟩ hmx Tryz.func94 rfl (by kernel_rfl) (args := [.int .i64 c]) (by simp [Tryz.ntmps94]) w (· = .string (txt (coilName c))) 400 ?_).mono fun e w' ⟨v, h1, h2, h3⟩ => ⟨h2 ▸ h1, h3⟩
  by_cases hc : 21 ≤ c ∧ c ≤ 37
  · have hq := words17_at hc
    have l0 := fun (d : Nat) (mem : List Blk) (K : Value → Prop) => RdL.ld (P := Tryz.prog) (d := d) (K := K) (RdL.mono hpre (sub_now ⟨w, [], w, []⟩ mem)) (t := 9) (by kernel_rfl) hq
    simp only [padd_some, Nat.zero_add] at l0
    have e1 : IntKind.i64.wrap (c - 21) = c - 21 := wrap_i64 (by omega) (by omega)
    simp (maxSteps := 4000000) -dsimp [-Y1, -Array.all_eq_true, -Y3, -Y4, and_assoc, Y5, Tryz.f94, isCoilOpC, hc, e1, l0]
    omega
  · rw [coilName_out hc]
    simp (maxSteps := 4000000) -dsimp [-Y1, -Array.all_eq_true, -Y3, -Y4, and_assoc, Y5, Tryz.f94, isCoilOpC, hc, txt_eta]
    omega
def iNameC_S : Reads Tryz.prog 94 where
  ι := ((Int))
  A := fun (c : ((Int))) => [.int .i64 c]
  pre := fun (c : ((Int))) (F : Facts) => TN F
  res := fun (c : ((Int))) => .string (txt (coilName c))
  mono := by
    intro i F G hs h
    first | exact h | exact h.mono hs | exact ⟨h.1.mono hs, h.2⟩ | exact ⟨h.1.mono hs, h.2.1.mono hs, h.2.2⟩ | exact ⟨h.1.mono hs, h.2.1.mono hs⟩ | exact ⟨h.1.mono hs, h.2.1.mono hs, h.2.2.1.mono hs, h.2.2.2⟩
  uniq := by
    rintro c c' F hA h h'
    simp at hA
    (try simp only [Int.natCast_inj] at hA)
    simp_all
  enter := Tryz.call94
  h := fun c w hp => iNameC_c c w (by rw [factF_init]; exact hp)
def iNameC : Con Tryz.prog := Con.read iNameC_S
theorem iNameC_rw {c : Int} {d : Nat} {cx : Cx} {mem : List Blk} {K : C → Prop} (hpre : TN (nowF cx mem)) : ReadV d iNameC_S cx [.v (.int .i64 c)] mem K = K (.v (.string (txt (coilName c)))) := iNameC_S.eq c rfl hpre
theorem sNameC_c (c : Int) (w : World) : Calls Tryz.prog 96 #[.int .i64 c] w fun e w' => e = .returned (.string (txt (coilName c))) ∧ RowKit.Below w.heap.size w w' := by
  refine (plain_of_vcs ⟨[], []⟩ hmx Tryz.func96 rfl (by kernel_rfl) (args := [.int .i64 c]) (by simp [Tryz.ntmps96]) w (· = .string (txt (coilName c))) 400 ?_).mono fun e w' ⟨v, h1, h2, h3⟩ => ⟨h2 ▸ h1, h3⟩
  by_cases hc : 21 ≤ c ∧ c ≤ 37
  · have hq := words17_at hc
    have e1 : IntKind.i64.wrap (c - 21) = c - 21 := wrap_i64 (by omega) (by omega)
    have h1 : ¬ c < 21 := by omega
    have h2 : ¬ 37 < c := by omega
    simp (maxSteps := 4000000) -dsimp [-Y1, -Array.all_eq_true, -Y3, -Y4, and_assoc, Y5, Tryz.f96, h1, h2, e1]
    intro cx1 p hle hl
    have l0 := fun (d : Nat) (mem : List Blk) (K : Value → Prop) => RdL.ld (P := Tryz.prog) (d := d) (K := K) ((hl.mono ((sub_new cx1).trans (sub_now cx1 mem)) : RdL (nowF cx1 mem) p (words17.map fun z => Value.string (txt z)))) (t := 9) (by kernel_rfl) hq
    have ht : p.isSome = true := RdL.there hl (i := 0) (by decide)
    simp (maxSteps := 4000000) -dsimp [-Y1, -Array.all_eq_true, -Y3, -Y4, and_assoc, Y5, Tryz.f96, h1, h2, e1, l0, ht]
    first | exact ⟨by omega, by omega, hle.w0, hle.g0⟩ | exact ⟨by omega, by omega, Option.isSome_iff_exists.1 ht, hle.w0, hle.g0⟩
  · rw [coilName_out hc]
    by_cases h1 : c < 21
    · simp (maxSteps := 4000000) -dsimp [-Y1, -Array.all_eq_true, -Y3, -Y4, and_assoc, Y5, Tryz.f96, h1, txt_eta]
    · have h2 : 37 < c := by omega
      simp (maxSteps := 4000000) -dsimp [-Y1, -Array.all_eq_true, -Y3, -Y4, and_assoc, Y5, Tryz.f96, h1, h2, txt_eta]
def sNameC : Con Tryz.prog := Con.pure 96 Tryz.call96 (fun (c : ((Int))) => [.int .i64 c]) (fun (c : ((Int))) => True) (fun (c : ((Int))) => .string (txt (coilName c))) fun c w _ => sNameC_c c w
def words6 : List Str := [[60], [60, 61], [61], [60, 62], [62, 61], [62]]
theorem words6_at {c : Int} (hc : 5 ≤ c ∧ c ≤ 10) : (words6.map fun z => Value.string (txt z))[(c - 5).toNat]? = some (.string (txt (cmpS (c - 4)))) := by
  have : c = 5 ∨ c = 6 ∨ c = 7 ∨ c = 8 ∨ c = 9 ∨ c = 10 := by omega
  rcases this with rfl | rfl | rfl | rfl | rfl | rfl <;> rfl
theorem cmpS_out {c : Int} (h : ¬ (1 ≤ c ∧ c ≤ 6)) : cmpS c = [] := by
  unfold cmpS
  (repeat' rw [if_neg (by omega)])
theorem cmpS_len (c : Int) : (cmpS c).length ≤ 2 := by
  unfold cmpS
  (repeat' split) <;> decide
theorem sSignC_c (c : Int) (w : World) : Calls Tryz.prog 98 #[.int .i64 c] w fun e w' => e = .returned (.string (txt (cmpS (c - 4)))) ∧ RowKit.Below w.heap.size w w' := by
  refine (plain_of_vcs ⟨[], []⟩ hmx Tryz.func98 rfl (by kernel_rfl) (args := [.int .i64 c]) (by simp [Tryz.ntmps98]) w (· = .string (txt (cmpS (c - 4)))) 400 ?_).mono fun e w' ⟨v, h1, h2, h3⟩ => ⟨h2 ▸ h1, h3⟩
  by_cases hc : 5 ≤ c ∧ c ≤ 10
  · have hq := words6_at hc
    have e1 : IntKind.i64.wrap (c - 5) = c - 5 := wrap_i64 (by omega) (by omega)
    have h1 : ¬ c < 5 := by omega
    have h2 : ¬ 10 < c := by omega
    simp (maxSteps := 4000000) -dsimp [-Y1, -Array.all_eq_true, -Y3, -Y4, and_assoc, Y5, Tryz.f98, h1, h2, e1]
    intro cx1 p hle hl
    have l0 := fun (d : Nat) (mem : List Blk) (K : Value → Prop) => RdL.ld (P := Tryz.prog) (d := d) (K := K) ((hl.mono ((sub_new cx1).trans (sub_now cx1 mem)) : RdL (nowF cx1 mem) p (words6.map fun z => Value.string (txt z)))) (t := 9) (by kernel_rfl) hq
    have ht : p.isSome = true := RdL.there hl (i := 0) (by decide)
    simp (maxSteps := 4000000) -dsimp [-Y1, -Array.all_eq_true, -Y3, -Y4, and_assoc, Y5, Tryz.f98, h1, h2, e1, l0, ht]
    first | exact ⟨by omega, by omega, hle.w0, hle.g0⟩ | exact ⟨by omega, by omega, Option.isSome_iff_exists.1 ht, hle.w0, hle.g0⟩
  · rw [cmpS_out (c := c - 4) (by omega)]
    by_cases h1 : c < 5
    · simp (maxSteps := 4000000) -dsimp [-Y1, -Array.all_eq_true, -Y3, -Y4, and_assoc, Y5, Tryz.f98, h1, txt_eta]
    · have h2 : 10 < c := by omega
      simp (maxSteps := 4000000) -dsimp [-Y1, -Array.all_eq_true, -Y3, -Y4, and_assoc, Y5, Tryz.f98, h1, h2, txt_eta]
def sSignC : Con Tryz.prog := Con.pure 98 Tryz.call98 (fun (c : ((Int))) => [.int .i64 c]) (fun (c : ((Int))) => True) (fun (c : ((Int))) => .string (txt (cmpS (c - 4)))) fun c w _ => sSignC_c c w
theorem isCmpTC_c (c : Int) (w : World) : Calls Tryz.prog 171 #[.int .i64 c] w fun e w' => e = .returned (.bool (decide (1 ≤ c ∧ c ≤ 6))) ∧ RowKit.Below w.heap.size w w' := by
  refine (plain_of_vcs ⟨[withinC], []⟩ hmx Tryz.func171 rfl (by kernel_rfl) (args := [.int .i64 c]) (by simp [Tryz.ntmps171]) w (· = .bool (decide (1 ≤ c ∧ c ≤ 6))) 400 ?_).mono fun e w' ⟨v, h1, h2, h3⟩ => ⟨h2 ▸ h1, h3⟩
  simp (maxSteps := 4000000) -dsimp [-Y1, -Array.all_eq_true, -Y3, -Y4, and_assoc, Y5, Tryz.f171, withinC]
def isCmpTC : Con Tryz.prog := Con.pure 171 Tryz.call171 (fun (c : ((Int))) => [.int .i64 c]) (fun (c : ((Int))) => True) (fun (c : ((Int))) => .bool (decide (1 ≤ c ∧ c ≤ 6))) fun c w _ => isCmpTC_c c w
theorem iCmpTextC_c (c : Int) (w : World) : Calls Tryz.prog 95 #[.int .i64 c] w fun e w' => e = .returned (.string (txt (cmpS c))) ∧ RowKit.Below w.heap.size w w' := by
  refine (plain_of_vcs ⟨[isCmpTC], []⟩ hmx Tryz.func95 rfl (by kernel_rfl) (args := [.int .i64 c]) (by simp [Tryz.ntmps95]) w (· = .string (txt (cmpS c))) 400 ?_).mono fun e w' ⟨v, h1, h2, h3⟩ => ⟨h2 ▸ h1, h3⟩
  by_cases hc : 1 ≤ c ∧ c ≤ 6
  · have : c = 1 ∨ c = 2 ∨ c = 3 ∨ c = 4 ∨ c = 5 ∨ c = 6 := by omega
    rcases this with rfl | rfl | rfl | rfl | rfl | rfl
    all_goals
      have w0 : IntKind.i64.wrap 0 = 0 := by decide
      have w1 : IntKind.i64.wrap 1 = 1 := by decide
      have w2 : IntKind.i64.wrap 2 = 2 := by decide
      have w3 : IntKind.i64.wrap 3 = 3 := by decide
      have w4 : IntKind.i64.wrap 4 = 4 := by decide
      have w5 : IntKind.i64.wrap 5 = 5 := by decide
      simp (maxSteps := 4000000) -dsimp [-Y1, -Array.all_eq_true, -Y3, -Y4, and_assoc, Y5, Tryz.f95, isCmpTC, txt_eta, w0, w1, w2, w3, w4, w5, cmpS]
  · rw [cmpS_out hc]
    simp (maxSteps := 4000000) -dsimp [-Y1, -Array.all_eq_true, -Y3, -Y4, and_assoc, Y5, Tryz.f95, isCmpTC, hc, txt_eta]
    omega
def iCmpTextC : Con Tryz.prog := Con.pure 95 Tryz.call95 (fun (c : ((Int))) => [.int .i64 c]) (fun (c : ((Int))) => True) (fun (c : ((Int))) => .string (txt (cmpS c))) fun c w _ => iCmpTextC_c c w

def coilT (op : Int) (xs : List Dev) (i : Nat) : Str := coilName op ++ 58 :: joinL 44 ((xs.take i).map devL)
theorem coilT_one (op : Int) (a : Dev) (r : List Dev) : coilT op (a :: r) 1 = coilName op ++ 58 :: devL a := by simp [coilT, joinL]
theorem coilT_next {op : Int} {xs : List Dev} {i : Nat} {x : Dev} (hi : 1 ≤ i) (hx : xs[i]? = some x) : coilT op xs (i + 1) = coilT op xs i ++ (44 :: devL x) := by
  have h1 := (List.getElem?_eq_some_iff.1 hx).1
  unfold coilT
  have e : xs.take (i + 1) = xs.take i ++ [x] := by
    rw [List.take_add_one, hx]; rfl
  rw [e, List.map_append, List.map_cons, List.map_nil, joinL_snoc _ _ _ (by
    intro h0
    have := congrArg List.length h0
    simp only [List.length_map, List.length_take, List.length_nil] at this
    omega)]
  simp
theorem coilT_full {op : Int} {xs : List Dev} (h : coilOk op xs = true) : coilT op xs xs.length = elemL op xs := by
  unfold coilT elemL
  rw [if_pos h, List.take_length]
theorem coil_arity {op : Int} {xs : List Dev} (h : coilOk op xs = true) : 21 ≤ op ∧ op ≤ 37 ∧ (xs.length : Int) = arity op := by
  have h2 := eOk_all (op := op) (xs := xs) (by unfold eOk; rw [h]; rfl)
  have : 21 ≤ op ∧ op ≤ 37 := by
    unfold coilOk at h
    simp only [Bool.and_eq_true, decide_eq_true_eq] at h
    omega
  exact ⟨this.1, this.2, h2.2⟩
theorem elemL_con {op : Int} {xs : List Dev} (h1 : coilOk op xs = false) (h2 : conOk op xs = true) : elemL op xs = conT op xs := by
  unfold elemL; rw [h1, h2]; rfl
theorem elemL_no {op : Int} {xs : List Dev} (h1 : coilOk op xs = false) (h2 : conOk op xs = false) : elemL op xs = [] := by
  unfold elemL; rw [h1, h2]; rfl
theorem sElemTextC_c (op : Int) (o : Option Addr) (cap : Nat) (xs : List Dev) (w : World) (hpre : RdD (factF ⟨w, [], w, []⟩) o xs ∧ xs.length ≤ 1048576) : Calls Tryz.prog 38 #[.agg #[.int .i64 op, .slice o xs.length cap]] w fun e w' => e = .returned (.string (txt (elemL op xs))) ∧ RowKit.Below w.heap.size w w' := by
  refine (plain_of_vcs ⟨[sCoilC, sConC, sNameC, sDevTextC, sSignC], []⟩ hmx Tryz.func38 rfl (by kernel_rfl) (args := [.agg #[.int .i64 op, .slice o xs.length cap]]) (by simp [Tryz.ntmps38]) w (· = .string (txt (elemL op xs))) 600 ?_).mono fun e w' ⟨v, h1, h2, h3⟩ => ⟨h2 ▸ h1, h3⟩
  obtain ⟨h, hl⟩ := hpre
  have z := fun d mem K => sCoilC_rw (op := op) (cap := cap) (d := d) (cx := ⟨w, [], w, []⟩) (mem := mem) (K := K) ⟨h.mono (sub_now _ _), hl⟩
  have y := fun d mem K => sConC_rw (op := op) (cap := cap) (d := d) (cx := ⟨w, [], w, []⟩) (mem := mem) (K := K) ⟨h.mono (sub_now _ _), hl⟩
  have nl := @coilName_len op
  cases hc : coilOk op xs
  · rw [hc] at z
    cases hn : conOk op xs
    · rw [hn] at y
      rw [elemL_no hc hn]
      simp (maxSteps := 4000000) -dsimp [-Y1, -Array.all_eq_true, -Y3, -Y4, and_assoc, Y5, Tryz.f38, sCoilC, sConC, sNameC, sDevTextC, sSignC, z, y, txt_eta]
    · rw [hn] at y
      rw [elemL_con hc hn]
      rcases con_shape hn with ⟨h12, ⟨ak, an, ap⟩, rfl⟩ | ⟨h3, h10, ⟨ak, an, ap⟩, ⟨bk, bn, bp⟩, rfl⟩
      · simp only [List.length_cons, List.length_nil, Nat.zero_add, Nat.reduceAdd] at z y
        have a0 := h.at0 (x := ⟨ak, an, ap⟩) rfl
        have l0 := devL_len ⟨ak, an, ap⟩
        rcases h12 with rfl | rfl
        · simp (maxSteps := 4000000) -dsimp [-Y1, -Array.all_eq_true, -Y3, -Y4, and_assoc, Y5, Tryz.f38, sCoilC, sConC, sNameC, sDevTextC, sSignC, z, y, a0.there, a0.all, txt_eta, conT, xD]
        · simp (maxSteps := 4000000) -dsimp [-Y1, -Array.all_eq_true, -Y3, -Y4, and_assoc, Y5, Tryz.f38, sCoilC, sConC, sNameC, sDevTextC, sSignC, z, y, a0.there, a0.all, txt_eta, conT, xD]
          omega
      · simp only [List.length_cons, List.length_nil, Nat.zero_add, Nat.reduceAdd] at z y
        have a0 := h.at0 (x := ⟨ak, an, ap⟩) rfl
        have a1 := h.at1 (x := ⟨bk, bn, bp⟩) rfl
        have l0 := devL_len ⟨ak, an, ap⟩
        have l1 := devL_len ⟨bk, bn, bp⟩
        by_cases e3 : op = 3
        · subst e3
          simp (maxSteps := 4000000) -dsimp [-Y1, -Array.all_eq_true, -Y3, -Y4, and_assoc, Y5, Tryz.f38, sCoilC, sConC, sNameC, sDevTextC, sSignC, z, y, a0.there, a0.all, a1.there, a1.all, txt_eta, conT, xD]
          omega
        by_cases e4 : op = 4
        · subst e4
          simp (maxSteps := 4000000) -dsimp [-Y1, -Array.all_eq_true, -Y3, -Y4, and_assoc, Y5, Tryz.f38, sCoilC, sConC, sNameC, sDevTextC, sSignC, z, y, a0.there, a0.all, a1.there, a1.all, txt_eta, conT, xD]
          omega
        have e1 : ¬ op = 1 := by omega
        have e2 : ¬ op = 2 := by omega
        have cl := cmpS_len (op - 4)
        simp (maxSteps := 4000000) -dsimp [-Y1, -Array.all_eq_true, -Y3, -Y4, and_assoc, Y5, Tryz.f38, sCoilC, sConC, sNameC, sDevTextC, sSignC, z, y, a0.there, a0.all, a1.there, a1.all, txt_eta, conT, xD, e1, e2, e3, e4]
        omega
  · rw [hc] at z
    obtain ⟨o1, o2, hq⟩ := coil_arity hc
    have ha := coil_facts op o1 o2
    obtain ⟨⟨ak, an, ap⟩, r, rfl⟩ : ∃ a r, xs = a :: r := by
      cases xs with
      | nil => exfalso; simp at hq; omega
      | cons a r => exact ⟨a, r, rfl⟩
    have a0 := h.at0 (x := ⟨ak, an, ap⟩) rfl
    have l0 := devL_len ⟨ak, an, ap⟩
    have hE := coilT_full hc
    have h1 := coilT_one op ⟨ak, an, ap⟩ r
    generalize hX : (⟨ak, an, ap⟩ : Dev) :: r = xs at *
    have hpos : 0 < xs.length := by rw [← hX]; simp
    simp (maxSteps := 4000000) -dsimp [-Y1, -Array.all_eq_true, -Y3, -Y4, and_assoc, Y5, Tryz.f38, sCoilC, sConC, sNameC, sDevTextC, sSignC, z, hpos, a0.there, a0.all, txt_eta]
    intro b
    refine ⟨by omega, by omega, ?_⟩
    refine loop_inv (σ := ⟨[sCoilC, sConC, sNameC, sDevTextC, sSignC], []⟩) hmx (by kernel_rfl) (fun q cx' tm mem => cx' = ⟨w, [], w, []⟩ ∧ ∃ i : Nat, 1 ≤ i ∧ i ≤ xs.length ∧ q = xs.length - i ∧ (coilT op xs i).length ≤ 20 * i + 20 ∧ mem = [⟨b, [.v (.int .i64 op), .v (.slice o xs.length cap)], 55⟩] ∧ Sx.look tm 4 = .v (.int .i64 i) ∧ Sx.look tm 3 = .v (.string (txt (coilT op xs i))) ∧ Sx.look tm 1 = .p 0 b 0)
      (xs.length - 1) ⟨rfl, 1, by omega, by omega, rfl, by rw [h1]; simp; omega, rfl, by simp [Sx.look], by rw [h1]; simp [Sx.look, txt_eta], by simp [Sx.look]⟩ ?_
    rintro q cx tm mem ⟨rfl, i, hi1, hi, rfl, hB, rfl, j4, j3, j1⟩
    refine ⟨600, ?_⟩
    by_cases hlt : i < xs.length
    · have hlt' : (i : Int) < xs.length := by omega
      obtain ⟨⟨bk, bn, bp⟩, hx⟩ : ∃ x, xs[i]? = some x := ⟨xs[i], by simp [hlt]⟩
      have ai := h.at hx
      have l1 := devL_len ⟨bk, bn, bp⟩
      have e := coilT_next (op := op) hi1 hx
      simp (maxSteps := 4000000) -dsimp [-Y1, -Array.all_eq_true, -Y3, -Y4, and_assoc, Y5, Tryz.f38, sCoilC, sConC, sNameC, sDevTextC, sSignC, j4, j3, j1, hlt, hlt', ai.there, ai.all, txt_eta, i_succ (i := i) (by omega)]
      exact ⟨by omega, h.there hlt, by omega, 1, xs.length - (i + 1), by omega, i + 1, by omega, by omega, rfl, by rw [e]; simp; omega, rfl, by omega, e.symm⟩
    · obtain rfl : i = xs.length := by omega
      simp (maxSteps := 4000000) -dsimp [-Y1, -Array.all_eq_true, -Y3, -Y4, and_assoc, Y5, Tryz.f38, sCoilC, sConC, sNameC, sDevTextC, sSignC, j4, j3, j1, hE]
def sElemTextC_S : Reads Tryz.prog 38 where
  ι := ((Int) × (Option Addr) × (Nat) × (List Dev))
  A := fun (i : ((Int) × (Option Addr) × (Nat) × (List Dev))) => match i with | (op, o, cap, xs) => [.agg #[.int .i64 op, .slice o xs.length cap]]
  pre := fun (i : ((Int) × (Option Addr) × (Nat) × (List Dev))) (F : Facts) => match i with | (op, o, cap, xs) => RdD F o xs ∧ xs.length ≤ 1048576
  res := fun (i : ((Int) × (Option Addr) × (Nat) × (List Dev))) => match i with | (op, o, cap, xs) => .string (txt (elemL op xs))
  mono := by
    intro i F G hs h
    first | exact h | exact h.mono hs | exact ⟨h.1.mono hs, h.2⟩ | exact ⟨h.1.mono hs, h.2.1.mono hs, h.2.2⟩ | exact ⟨h.1.mono hs, h.2.1.mono hs⟩ | exact ⟨h.1.mono hs, h.2.1.mono hs, h.2.2.1.mono hs, h.2.2.2⟩
  uniq := by
    rintro ⟨op, o, cap, xs⟩ ⟨op', o', cap', xs'⟩ F hA h h'
    simp at hA
    (try simp only [Int.natCast_inj] at hA)
    obtain rfl : xs = xs' := RdD.uniq h.1 h'.1 (by simp_all) (by simp_all)
    simp_all
  enter := Tryz.call38
  h := fun i w hp => sElemTextC_c i.1 i.2.1 i.2.2.1 i.2.2.2 w (by rw [factF_init]; exact hp)
def sElemTextC : Con Tryz.prog := Con.read sElemTextC_S
theorem sElemTextC_rw {op : Int} {o : Option Addr} {cap : Nat} {xs : List Dev} {d : Nat} {cx : Cx} {mem : List Blk} {K : C → Prop} (hpre : RdD (nowF cx mem) o xs ∧ xs.length ≤ 1048576) : ReadV d sElemTextC_S cx [.v (.agg #[.int .i64 op, .slice o xs.length cap])] mem K = K (.v (.string (txt (elemL op xs)))) := sElemTextC_S.eq (op, o, cap, xs) rfl hpre
theorem sListOkC_c (code op : Int) (o : Option Addr) (cap : Nat) (xs : List Dev) (w : World) (hpre : RdD (factF ⟨w, [], w, []⟩) o xs ∧ xs.length ≤ 1048576) : Calls Tryz.prog 32 #[.agg #[.int .i64 code, .int .i64 op, .slice o xs.length cap]] w fun e w' => e = .returned (.bool (insOk ⟨code, op, xs⟩)) ∧ RowKit.Below w.heap.size w w' := by
  refine (plain_of_vcs ⟨[sConC, sCoilC], []⟩ hmx Tryz.func32 rfl (by kernel_rfl) (args := [.agg #[.int .i64 code, .int .i64 op, .slice o xs.length cap]]) (by simp [Tryz.ntmps32]) w (· = .bool (insOk ⟨code, op, xs⟩)) 400 ?_).mono fun e w' ⟨v, h1, h2, h3⟩ => ⟨h2 ▸ h1, h3⟩
  obtain ⟨h, hl⟩ := hpre
  have y1 := fun d mem K => sConC_rw (op := op) (cap := cap) (d := d) (cx := ⟨w, [], w, []⟩) (mem := mem) (K := K) ⟨h.mono (sub_now _ _), hl⟩
  have y2 := fun d mem K => sCoilC_rw (op := op) (cap := cap) (d := d) (cx := ⟨w, [], w, []⟩) (mem := mem) (K := K) ⟨h.mono (sub_now _ _), hl⟩
  unfold insOk
  by_cases h1 : code < 1
  · have e : ¬ (1 ≤ code ∧ code ≤ 3) ∧ ¬ code = 10 ∧ ¬ 1 ≤ code := by omega
    simp (maxSteps := 4000000) -dsimp [-Y1, -Array.all_eq_true, -Y3, -Y4, and_assoc, Y5, Tryz.f32, sConC, sCoilC, h1, e]
  by_cases h2 : 11 < code
  · have e : ¬ (1 ≤ code ∧ code ≤ 3) ∧ ¬ code = 10 ∧ ¬ code ≤ 11 := by omega
    simp (maxSteps := 4000000) -dsimp [-Y1, -Array.all_eq_true, -Y3, -Y4, and_assoc, Y5, Tryz.f32, sConC, sCoilC, h1, h2, e]
  by_cases h3 : code ≤ 3
  · have e : 1 ≤ code ∧ code ≤ 3 := by omega
    simp (maxSteps := 4000000) -dsimp [-Y1, -Array.all_eq_true, -Y3, -Y4, and_assoc, Y5, Tryz.f32, sConC, sCoilC, h1, h2, h3, e, y1]
  by_cases h4 : code = 10
  · subst h4
    simp (maxSteps := 4000000) -dsimp [-Y1, -Array.all_eq_true, -Y3, -Y4, and_assoc, Y5, Tryz.f32, sConC, sCoilC, y2]
  have e : ¬ (1 ≤ code ∧ code ≤ 3) ∧ 1 ≤ code ∧ code ≤ 11 := by omega
  by_cases h5 : op = 0
  · subst h5
    simp (maxSteps := 4000000) -dsimp [-Y1, -Array.all_eq_true, -Y3, -Y4, and_assoc, Y5, Tryz.f32, sConC, sCoilC, h1, h2, h3, h4, e]
    try exact Bool.eq_iff_iff.mpr (by simp)
  · simp (maxSteps := 4000000) -dsimp [-Y1, -Array.all_eq_true, -Y3, -Y4, and_assoc, Y5, Tryz.f32, sConC, sCoilC, h1, h2, h3, h4, h5, e]
def sListOkC_S : Reads Tryz.prog 32 where
  ι := ((Int) × (Int) × (Option Addr) × (Nat) × (List Dev))
  A := fun (i : ((Int) × (Int) × (Option Addr) × (Nat) × (List Dev))) => match i with | (code, op, o, cap, xs) => [.agg #[.int .i64 code, .int .i64 op, .slice o xs.length cap]]
  pre := fun (i : ((Int) × (Int) × (Option Addr) × (Nat) × (List Dev))) (F : Facts) => match i with | (code, op, o, cap, xs) => RdD F o xs ∧ xs.length ≤ 1048576
  res := fun (i : ((Int) × (Int) × (Option Addr) × (Nat) × (List Dev))) => match i with | (code, op, o, cap, xs) => .bool (insOk ⟨code, op, xs⟩)
  mono := by
    intro i F G hs h
    first | exact h | exact h.mono hs | exact ⟨h.1.mono hs, h.2⟩ | exact ⟨h.1.mono hs, h.2.1.mono hs, h.2.2⟩ | exact ⟨h.1.mono hs, h.2.1.mono hs⟩ | exact ⟨h.1.mono hs, h.2.1.mono hs, h.2.2.1.mono hs, h.2.2.2⟩
  uniq := by
    rintro ⟨code, op, o, cap, xs⟩ ⟨code', op', o', cap', xs'⟩ F hA h h'
    simp at hA
    (try simp only [Int.natCast_inj] at hA)
    obtain rfl : xs = xs' := RdD.uniq h.1 h'.1 (by simp_all) (by simp_all)
    simp_all
  enter := Tryz.call32
  h := fun i w hp => sListOkC_c i.1 i.2.1 i.2.2.1 i.2.2.2.1 i.2.2.2.2 w (by rw [factF_init]; exact hp)
def sListOkC : Con Tryz.prog := Con.read sListOkC_S
theorem sListOkC_rw {code op : Int} {o : Option Addr} {cap : Nat} {xs : List Dev} {d : Nat} {cx : Cx} {mem : List Blk} {K : C → Prop} (hpre : RdD (nowF cx mem) o xs ∧ xs.length ≤ 1048576) : ReadV d sListOkC_S cx [.v (.agg #[.int .i64 code, .int .i64 op, .slice o xs.length cap])] mem K = K (.v (.bool (insOk ⟨code, op, xs⟩))) := sListOkC_S.eq (code, op, o, cap, xs) rfl hpre
theorem joinL_devs (xs : List Dev) : (joinL 44 (xs.map devL)).length ≤ xs.length * 12 := by
  have h1 := joinL_len 44 (xs.map devL)
  have h2 := flat_len (ws := (xs.map devL).map (· ++ [44])) (b := 12) (by
    intro x hx
    simp only [List.map_map, List.mem_map] at hx
    obtain ⟨d, _, rfl⟩ := hx
    have := devL_len d
    simp; omega)
  refine Nat.le_trans h1 (Nat.le_trans h2 ?_)
  simp only [List.length_map]
  omega
theorem elemL_len (op : Int) (xs : List Dev) : (elemL op xs).length ≤ 100 := by
  cases hc : coilOk op xs
  · cases hn : conOk op xs
    · rw [elemL_no hc hn]; decide
    · rw [elemL_con hc hn]
      have l0 := devL_len (xD xs 0)
      have l1 := devL_len (xD xs 1)
      have l2 := cmpS_len (op - 4)
      unfold conT
      (repeat' split) <;> (try simp only [List.length_cons, List.length_append, List.length_nil]) <;> omega
  · obtain ⟨o1, o2, hq⟩ := coil_arity hc
    have ha := coil_facts op o1 o2
    have hj := joinL_devs xs
    have nl := @coilName_len op
    unfold elemL
    rw [if_pos hc]
    simp only [List.length_cons, List.length_append]
    omega
theorem wordOf_len (c : Int) : (wordOf c).length ≤ 4 := by
  by_cases hc : 1 ≤ c ∧ c ≤ 11
  · rcases code_cases hc with rfl | rfl | rfl | rfl | rfl | rfl | rfl | rfl | rfl | rfl | rfl <;> decide
  · rw [wordOf_out hc]; decide
theorem lineL_len (x : Ins) : (lineL x).length ≤ 110 := by
  have h1 := wordOf_len x.code
  have h2 := elemL_len x.op x.args
  unfold lineL
  (repeat' split) <;> (try simp only [List.length_cons, List.length_append, List.length_nil]) <;> omega
theorem sListLineC_c (code op : Int) (o : Option Addr) (cap : Nat) (xs : List Dev) (w : World) (hpre : RdD (factF ⟨w, [], w, []⟩) o xs ∧ xs.length ≤ 1048576) : Calls Tryz.prog 31 #[.agg #[.int .i64 code, .int .i64 op, .slice o xs.length cap]] w fun e w' => e = .returned (.string (txt (lineL ⟨code, op, xs⟩))) ∧ RowKit.Below w.heap.size w w' := by
  refine (plain_of_vcs ⟨[sListOkC, sListWordC, sElemTextC], []⟩ hmx Tryz.func31 rfl (by kernel_rfl) (args := [.agg #[.int .i64 code, .int .i64 op, .slice o xs.length cap]]) (by simp [Tryz.ntmps31]) w (· = .string (txt (lineL ⟨code, op, xs⟩))) 400 ?_).mono fun e w' ⟨v, h1, h2, h3⟩ => ⟨h2 ▸ h1, h3⟩
  obtain ⟨h, hl⟩ := hpre
  have y1 := fun d mem K => sListOkC_rw (code := code) (op := op) (cap := cap) (d := d) (cx := ⟨w, [], w, []⟩) (mem := mem) (K := K) ⟨h.mono (sub_now _ _), hl⟩
  have y2 := fun d mem K => sElemTextC_rw (op := op) (cap := cap) (d := d) (cx := ⟨w, [], w, []⟩) (mem := mem) (K := K) ⟨h.mono (sub_now _ _), hl⟩
  have l1 := wordOf_len code
  have l2 := elemL_len op xs
  unfold lineL
  simp only
  cases hk : insOk ⟨code, op, xs⟩
  · rw [hk] at y1
    simp (maxSteps := 4000000) -dsimp [-Y1, -Array.all_eq_true, -Y3, -Y4, and_assoc, Y5, Tryz.f31, sListOkC, sListWordC, sElemTextC, y1, txt_eta]
  · rw [hk] at y1
    have h11 : 1 ≤ code ∧ code ≤ 11 := by
      unfold insOk at hk
      simp only at hk
      split at hk
      · omega
      · split at hk
        · omega
        · have := of_decide_eq_true hk
          omega
    by_cases h3 : code ≤ 3
    · have e : 1 ≤ code ∧ code ≤ 3 := by omega
      simp (maxSteps := 4000000) -dsimp [-Y1, -Array.all_eq_true, -Y3, -Y4, and_assoc, Y5, Tryz.f31, sListOkC, sListWordC, sElemTextC, y1, y2, h3, e, txt_eta]
      omega
    · by_cases h10 : code = 10
      · subst h10
        simp (maxSteps := 4000000) -dsimp [-Y1, -Array.all_eq_true, -Y3, -Y4, and_assoc, Y5, Tryz.f31, sListOkC, sListWordC, sElemTextC, y1, y2, txt_eta]
        omega
      · simp (maxSteps := 4000000) -dsimp [-Y1, -Array.all_eq_true, -Y3, -Y4, and_assoc, Y5, Tryz.f31, sListOkC, sListWordC, sElemTextC, y1, y2, h3, h10, txt_eta]
def sListLineC_S : Reads Tryz.prog 31 where
  ι := ((Int) × (Int) × (Option Addr) × (Nat) × (List Dev))
  A := fun (i : ((Int) × (Int) × (Option Addr) × (Nat) × (List Dev))) => match i with | (code, op, o, cap, xs) => [.agg #[.int .i64 code, .int .i64 op, .slice o xs.length cap]]
  pre := fun (i : ((Int) × (Int) × (Option Addr) × (Nat) × (List Dev))) (F : Facts) => match i with | (code, op, o, cap, xs) => RdD F o xs ∧ xs.length ≤ 1048576
  res := fun (i : ((Int) × (Int) × (Option Addr) × (Nat) × (List Dev))) => match i with | (code, op, o, cap, xs) => .string (txt (lineL ⟨code, op, xs⟩))
  mono := by
    intro i F G hs h
    first | exact h | exact h.mono hs | exact ⟨h.1.mono hs, h.2⟩ | exact ⟨h.1.mono hs, h.2.1.mono hs, h.2.2⟩ | exact ⟨h.1.mono hs, h.2.1.mono hs⟩ | exact ⟨h.1.mono hs, h.2.1.mono hs, h.2.2.1.mono hs, h.2.2.2⟩
  uniq := by
    rintro ⟨code, op, o, cap, xs⟩ ⟨code', op', o', cap', xs'⟩ F hA h h'
    simp at hA
    (try simp only [Int.natCast_inj] at hA)
    obtain rfl : xs = xs' := RdD.uniq h.1 h'.1 (by simp_all) (by simp_all)
    simp_all
  enter := Tryz.call31
  h := fun i w hp => sListLineC_c i.1 i.2.1 i.2.2.1 i.2.2.2.1 i.2.2.2.2 w (by rw [factF_init]; exact hp)
def sListLineC : Con Tryz.prog := Con.read sListLineC_S
theorem sListLineC_rw {code op : Int} {o : Option Addr} {cap : Nat} {xs : List Dev} {d : Nat} {cx : Cx} {mem : List Blk} {K : C → Prop} (hpre : RdD (nowF cx mem) o xs ∧ xs.length ≤ 1048576) : ReadV d sListLineC_S cx [.v (.agg #[.int .i64 code, .int .i64 op, .slice o xs.length cap])] mem K = K (.v (.string (txt (lineL ⟨code, op, xs⟩)))) := sListLineC_S.eq (code, op, o, cap, xs) rfl hpre
def lines (xs : List Ins) (i : Nat) : Str := linesL (xs.take i)
theorem lines_next {xs : List Ins} {i : Nat} {x : Ins} (hx : xs[i]? = some x) : lines xs (i + 1) = lines xs i ++ (lineL x ++ [10]) := by
  unfold lines linesL
  rw [List.take_add_one, hx]
  simp
theorem lines_len (xs : List Ins) (i : Nat) : (lines xs i).length ≤ i * 111 := by
  unfold lines linesL
  have h2 := flat_len (ws := (xs.take i).map fun x => lineL x ++ [10]) (b := 111) (by
    intro y hy
    obtain ⟨x, _, rfl⟩ := List.mem_map.1 hy
    have := lineL_len x
    simp; omega)
  refine Nat.le_trans h2 ?_
  simp only [List.length_map, List.length_take]
  have : min i xs.length ≤ i := Nat.min_le_left _ _
  omega
theorem listL_big {xs : List Ins} (h : 1000 < xs.length) : listL xs = [] := by
  unfold listL; rw [if_neg (by omega)]
theorem listL_bad {xs : List Ins} {i : Nat} {x : Ins} (hx : xs[i]? = some x) (h : insOk x = false) : listL xs = [] := by
  unfold listL
  rw [if_neg]
  rintro ⟨_, h2⟩
  have := List.all_eq_true.1 h2 x (List.mem_of_getElem? hx)
  rw [h] at this; cases this
theorem listL_good {xs : List Ins} (hl : xs.length ≤ 1000) (h : ∀ x ∈ xs, insOk x = true) : listL xs = lines xs xs.length := by
  unfold listL lines
  rw [if_pos ⟨hl, List.all_eq_true.2 h⟩, List.take_length]
theorem sListTextC_c (o : Option Addr) (cap : Nat) (xs : List Ins) (w : World) (hpre : RdN (factF ⟨w, [], w, []⟩) o xs ∧ xs.length ≤ 1048576 ∧ (∀ x ∈ xs, x.args.length ≤ 1048576)) : Calls Tryz.prog 35 #[.slice o xs.length cap] w fun e w' => e = .returned (.string (txt (listL xs))) ∧ RowKit.Below w.heap.size w w' := by
  refine (plain_of_vcs ⟨[sListOkC, sListLineC], []⟩ hmx Tryz.func35 rfl (by kernel_rfl) (args := [.slice o xs.length cap]) (by simp [Tryz.ntmps35]) w (· = .string (txt (listL xs))) 400 ?_).mono fun e w' ⟨v, h1, h2, h3⟩ => ⟨h2 ▸ h1, h3⟩
  obtain ⟨h, hl, ha⟩ := hpre
  by_cases hm : xs.length ≤ 1000
  · have hm1 : ¬ (1000 : Int) < xs.length := by omega
    simp (maxSteps := 4000000) -dsimp [-Y1, -Array.all_eq_true, -Y3, -Y4, and_assoc, Y5, Tryz.f35, sListOkC, sListLineC, hm1, txt_eta]
    refine loop_inv (σ := ⟨[sListOkC, sListLineC], []⟩) hmx (by kernel_rfl) (fun q cx' tm mem => cx' = ⟨w, [], w, []⟩ ∧ mem = [] ∧ ∃ i : Nat, i ≤ xs.length ∧ q = xs.length - i ∧ (∀ j, j < i → ∀ x, xs[j]? = some x → insOk x = true) ∧ Sx.look tm 4 = .v (.int .i64 i) ∧ Sx.look tm 3 = .v (.string (txt (lines xs i))) ∧ Sx.look tm 0 = .v (.slice o xs.length cap))
      xs.length ⟨rfl, rfl, 0, by omega, rfl, by omega, by simp [Sx.look], by simp [Sx.look, lines, linesL, txt_eta], by simp [Sx.look]⟩ ?_
    rintro q cx tm mem ⟨rfl, rfl, i, hi, rfl, hk, j4, j3, j0⟩
    refine ⟨600, ?_⟩
    by_cases hlt : i < xs.length
    · have hlt' : (i : Int) < xs.length := by omega
      obtain ⟨x, hx⟩ : ∃ x, xs[i]? = some x := ⟨xs[i], by simp [hlt]⟩
      obtain ⟨o', cap', hat⟩ := h.at hx
      have hxa := ha x (List.mem_of_getElem? hx)
      have y1 := fun d mem K => sListOkC_rw (code := x.code) (op := x.op) (cap := cap') (d := d) (cx := ⟨w, [], w, []⟩) (mem := mem) (K := K) ⟨hat.args.mono (sub_now _ _), hxa⟩
      have y2 := fun d mem K => sListLineC_rw (code := x.code) (op := x.op) (cap := cap') (d := d) (cx := ⟨w, [], w, []⟩) (mem := mem) (K := K) ⟨hat.args.mono (sub_now _ _), hxa⟩
      have ex : (⟨x.code, x.op, x.args⟩ : Ins) = x := rfl
      rw [ex] at y1 y2
      have e := lines_next hx
      have l1 := lines_len xs i
      have l2 := lineL_len x
      cases hq : insOk x
      · rw [hq] at y1
        rw [listL_bad hx hq]
        simp (maxSteps := 4000000) -dsimp [-Y1, -Array.all_eq_true, -Y3, -Y4, and_assoc, Y5, Tryz.f35, sListOkC, sListLineC, j4, j3, j0, hlt, hlt', h.there hlt, hat.all, y1, y2, txt_eta]
      · rw [hq] at y1
        simp (maxSteps := 4000000) -dsimp [-Y1, -Array.all_eq_true, -Y3, -Y4, and_assoc, Y5, Tryz.f35, sListOkC, sListLineC, j4, j3, j0, hlt, hlt', h.there hlt, hat.all, y1, y2, txt_eta, i_succ (i := i) (by omega)]
        exact ⟨by omega, by omega, xs.length - (i + 1), by omega, i + 1, by omega, rfl, fun j hj y hy => if hji : j = i then by subst hji; rw [hx] at hy; cases hy; exact hq else hk j (by omega) y hy, by omega, e.symm⟩
    · obtain rfl : i = xs.length := by omega
      have hE : listL xs = lines xs xs.length := listL_good hm fun x hx => by
        obtain ⟨j, hj, rfl⟩ := List.mem_iff_getElem.1 hx
        exact hk j hj _ (by simp [hj])
      rw [hE]
      simp (maxSteps := 4000000) -dsimp [-Y1, -Array.all_eq_true, -Y3, -Y4, and_assoc, Y5, Tryz.f35, sListOkC, sListLineC, j4, j3, j0]
  · have hm1 : (1000 : Int) < xs.length := by omega
    rw [listL_big (by omega)]
    simp (maxSteps := 4000000) -dsimp [-Y1, -Array.all_eq_true, -Y3, -Y4, and_assoc, Y5, Tryz.f35, sListOkC, sListLineC, hm1, txt_eta]
def sListTextC_S : Reads Tryz.prog 35 where
  ι := ((Option Addr) × (Nat) × (List Ins))
  A := fun (i : ((Option Addr) × (Nat) × (List Ins))) => match i with | (o, cap, xs) => [.slice o xs.length cap]
  pre := fun (i : ((Option Addr) × (Nat) × (List Ins))) (F : Facts) => match i with | (o, cap, xs) => RdN F o xs ∧ xs.length ≤ 1048576 ∧ (∀ x ∈ xs, x.args.length ≤ 1048576)
  res := fun (i : ((Option Addr) × (Nat) × (List Ins))) => match i with | (o, cap, xs) => .string (txt (listL xs))
  mono := by
    intro i F G hs h
    first | exact h | exact h.mono hs | exact ⟨h.1.mono hs, h.2⟩ | exact ⟨h.1.mono hs, h.2.1.mono hs, h.2.2⟩ | exact ⟨h.1.mono hs, h.2.1.mono hs⟩ | exact ⟨h.1.mono hs, h.2.1.mono hs, h.2.2.1.mono hs, h.2.2.2⟩
  uniq := by
    rintro ⟨o, cap, xs⟩ ⟨o', cap', xs'⟩ F hA h h'
    simp at hA
    (try simp only [Int.natCast_inj] at hA)
    obtain rfl : xs = xs' := RdN.uniq h.1 h'.1 (by simp_all) (by simp_all)
    simp_all
  enter := Tryz.call35
  h := fun i w hp => sListTextC_c i.1 i.2.1 i.2.2 w (by rw [factF_init]; exact hp)
def sListTextC : Con Tryz.prog := Con.read sListTextC_S
theorem sListTextC_rw {o : Option Addr} {cap : Nat} {xs : List Ins} {d : Nat} {cx : Cx} {mem : List Blk} {K : C → Prop} (hpre : RdN (nowF cx mem) o xs ∧ xs.length ≤ 1048576 ∧ (∀ x ∈ xs, x.args.length ≤ 1048576)) : ReadV d sListTextC_S cx [.v (.slice o xs.length cap)] mem K = K (.v (.string (txt (listL xs)))) := sListTextC_S.eq (o, cap, xs) rfl hpre

structure TC (F : Facts) : Prop where
  t : TT F
  n : TN F
theorem TC.mono {F G : Facts} (h : TC F) (hs : Sub F G) : TC G := ⟨h.t.mono hs, h.n.mono hs⟩
structure TL (F : Facts) : Prop where
  t : TT F
  n : TN F
  w : TW F
theorem TL.mono {F G : Facts} (h : TL F) (hs : Sub F G) : TL G := ⟨h.t.mono hs, h.n.mono hs, h.w.mono hs⟩
theorem TL.c {F : Facts} (h : TL F) : TC F := ⟨h.t, h.n⟩
def TB (ws : List Str) : List C := ws.map fun z => .v (.string (txt z))
theorem TB_len (ws : List Str) : (TB ws).length = ws.length := by simp [TB]
theorem TB_push (ws : List Str) (z : Str) (pad : List C) : TB ws ++ .v (.string (txt z)) :: pad = TB (ws ++ [z]) ++ pad := by simp [TB]
theorem TB_take (ws : List Str) (pad : List C) {n : Nat} (h : ws.length = n) : (TB ws ++ pad).take n = TB ws := by rw [← h, ← TB_len ws, List.take_left]
theorem TB_full {ws : List Str} {pad : List C} {cp n : Nat} (h : ws.length = n) (h1 : pad.length = cp - n) (h2 : n ≤ cp) : (TB ws ++ pad).length = cp * 1 := by rw [List.length_append, TB_len]; omega
theorem join_TB {cx : Cx} {mem : List Blk} {b cp d n : Nat} {c : UInt8} {W : List Str} {pad : List C} {ty : TypeId} {K : C → Prop} (hk : mem[1]? = some ⟨b, TB W ++ pad, ty⟩) (hn : W.length = n) (hWc : n ≤ cp) (hl : n ≤ 1000) (hs : (joinL c W).length ≤ 100000)
    (h : K (.v (.string (txt (joinL c W))))) : RdsW d join_S cx [.s 1 b 0 n cp, .v (.string (txt [c]))] mem K := by
  subst hn
  refine readW_at (S := join_S) (some ⟨b, 0, none⟩, cp, W, c) (by simp [den, join_S]) (fun w' hm' => ⟨?_, ?_, by simpa using hWc, by simp; omega, by simp; omega⟩) h
  · intro j v hj
    simp only [List.getElem?_map] at hj
    cases hz : W[j]? with
    | none => rw [hz] at hj; cases hj
    | some z =>
      rw [hz] at hj
      cases hj
      refine ⟨_, rfl, ?_⟩
      rw [addr_add, Nat.zero_add]
      have hjl := (List.getElem?_eq_some_iff.1 hz).1
      exact blk_cell hm' hk (c := .v (.string (txt z))) (by
        rw [List.getElem?_append_left (by rw [TB_len]; exact hjl)]
        unfold TB
        rw [List.getElem?_map, hz]; rfl)
  · intro a ha
    cases ha; rfl
def devsW (xs : List Dev) (i : Nat) : List Str := (xs.take i).map devL
theorem devsW_len {xs : List Dev} {i : Nat} (h : i ≤ xs.length) : (devsW xs i).length = i := by unfold devsW; simp; omega
theorem devsW_next {xs : List Dev} {i : Nat} {x : Dev} (hx : xs[i]? = some x) : devsW xs (i + 1) = devsW xs i ++ [devL x] := by unfold devsW; rw [List.take_add_one, hx]; simp
theorem devsW_full (xs : List Dev) : devsW xs xs.length = xs.map devL := by unfold devsW; rw [List.take_length]
theorem iElemTextC_c (op : Int) (o : Option Addr) (cap : Nat) (xs : List Dev) (w : World) (hpre : RdD (factF ⟨w, [], w, []⟩) o xs ∧ TC (factF ⟨w, [], w, []⟩) ∧ (xs.length ≤ 1048576 ∧ xs.length ≤ cap ∧ cap ≤ 9223372036854775807)) : Calls Tryz.prog 37 #[.agg #[.int .i64 op, .slice o xs.length cap]] w fun e w' => e = .returned (.string (txt (elemL op xs))) ∧ RowKit.Below w.heap.size w w' := by
  refine (plain_of_vcs ⟨[iCoilC, iConC, iNameC, iDevTextC, iCmpTextC, joinC], []⟩ hmx Tryz.func37 rfl (by kernel_rfl) (args := [.agg #[.int .i64 op, .slice o xs.length cap]]) (by simp [Tryz.ntmps37]) w (· = .string (txt (elemL op xs))) 700 ?_).mono fun e w' ⟨v, h1, h2, h3⟩ => ⟨h2 ▸ h1, h3⟩
  obtain ⟨h, ht, hl, hlc, hcap⟩ := hpre
  simp (maxSteps := 4000000) -dsimp [-Y1, -Array.all_eq_true, -Y3, -Y4, and_assoc, Y5, Tryz.f37, iCoilC, iConC, iNameC, iDevTextC, iCmpTextC, joinC]
  intro b0 b1
  refine loop_inv (σ := ⟨[iCoilC, iConC, iNameC, iDevTextC, iCmpTextC, joinC], []⟩) hmx (by kernel_rfl) (fun q cx' tm mem => Le ⟨w, [], w, []⟩ cx' ∧ ∃ (i b' cp : Nat) (pad : List C), i ≤ xs.length ∧ q = xs.length - i ∧ i ≤ cp ∧ cp ≤ maxLen ∧ pad.length = cp - i ∧ mem = [⟨b0, [.v (.int .i64 op), .v (.slice o xs.length cap)], 55⟩, ⟨b', TB (devsW xs i) ++ pad, 9⟩] ∧
      Sx.look tm 10 = .v (.int .i64 i) ∧ Sx.look tm 9 = .v (.int .i64 xs.length) ∧ Sx.look tm 8 = .v (.slice o xs.length cap) ∧ Sx.look tm 3 = .s 1 b' 0 i cp ∧ Sx.look tm 1 = .p 0 b0 0)
    xs.length ⟨Le.refl _, 0, b1, 0, [], by omega, rfl, by omega, by decide, rfl, by simp [devsW, TB], by simp [Sx.look], by simp [Sx.look], by simp [Sx.look], by simp [Sx.look], by simp [Sx.look]⟩ ?_
  rintro q cx tm mem ⟨hle, i, b', cp, pad, hi, rfl, hWc, hcp, hpad, rfl, j10, j9, j8, j3, j1⟩
  refine ⟨700, ?_⟩
  have hD := h.mono hle.fact
  have hT := ht.mono hle.fact
  by_cases hlt : i < xs.length
  · have hlt' : (i : Int) < xs.length := by omega
    obtain ⟨⟨k, n, p⟩, hx⟩ : ∃ x, xs[i]? = some x := ⟨xs[i], by simp [hlt]⟩
    have ai := hD.at hx
    have t0 := fun (d : Nat) (mem : List Blk) (K : C → Prop) => iDevTextC_rw (k := k) (n := n) (p := p) (d := d) (cx := cx) (mem := mem) (K := K) (hT.t.mono (sub_now _ _))
    have e := devsW_next hx
    have el := devsW_len (xs := xs) (i := i) (by omega)
    have e0 := TB_take (devsW xs i) pad el
    have e1 := TB_full el hpad hWc
    simp (maxSteps := 4000000) -dsimp [-Y1, -Array.all_eq_true, -Y3, -Y4, and_assoc, Y5, Tryz.f37, iCoilC, iConC, iNameC, iDevTextC, iCmpTextC, joinC, j10, j9, j8, j3, j1, hlt, hlt', hD.there hlt, ai.all, t0, i_succ (i := i) (by omega)]
    intro b cx' p' hle' hlit
    rw [RdL.sl (hlit.mono ((sub_new cx').trans (sub_now _ _))) (by rfl)]
    unfold GrowV
    simp (maxSteps := 4000000) -dsimp [-Y1, -Array.all_eq_true, -Y3, -Y4, and_assoc, Y5, Tryz.f37, iCoilC, iConC, iNameC, iDevTextC, iCmpTextC, joinC, j10, j9, j8, j3, j1, e0, e1, i_succ (i := i) (by omega)]
    exact ⟨hWc, hcp, by unfold maxLen; omega, by omega, fun b4 cp4 pad4 g1 g2 g3 => ⟨2, xs.length - (i + 1), by omega, hle.trans hle', i + 1, by omega, rfl, b4, cp4, g1, g2, pad4, g3, by rw [e, ← TB_push]; rfl, by omega, rfl, rfl, rfl⟩⟩
  · obtain rfl : i = xs.length := by omega
    rw [devsW_full]
    have nl := @coilName_len op
    have z := fun d mem K => iCoilC_rw (op := op) (cap := cap) (d := d) (cx := cx) (mem := mem) (K := K) ⟨hD.mono (sub_now _ _), hl, hlc, hcap⟩
    have y := fun d mem K => iConC_rw (op := op) (cap := cap) (d := d) (cx := cx) (mem := mem) (K := K) ⟨hD.mono (sub_now _ _), hl⟩
    have nm := fun d mem K => iNameC_rw (c := op) (d := d) (cx := cx) (mem := mem) (K := K) (hT.n.mono (sub_now _ _))
    have w0 := hle.w0
    have g0 := hle.g0
    have hlt2 : ¬ (xs.length : Int) < xs.length := by omega
    cases hc : coilOk op xs
    · rw [hc] at z
      cases hn : conOk op xs
      · rw [hn] at y
        rw [elemL_no hc hn]
        simp (maxSteps := 4000000) -dsimp [-Y1, -Array.all_eq_true, -Y3, -Y4, and_assoc, Y5, Tryz.f37, iCoilC, iConC, iNameC, iDevTextC, iCmpTextC, joinC, j10, j9, j8, j3, j1, hlt2, z, y, txt_eta]
        first | exact ⟨w0, g0⟩ | exact g0
      · rw [hn] at y
        rw [elemL_con hc hn]
        rcases con_shape hn with ⟨h12, a, rfl⟩ | ⟨h3, h10, a, b, rfl⟩
        · simp only [List.length_cons, List.length_nil, Nat.zero_add, Nat.reduceAdd] at z y j3 j8 j9 j10 hWc hlt2
          have l0 := devL_len a
          rcases h12 with rfl | rfl
          · simp (maxSteps := 4000000) -dsimp [-Y1, -Array.all_eq_true, -Y3, -Y4, and_assoc, Y5, Tryz.f37, iCoilC, iConC, iNameC, iDevTextC, iCmpTextC, joinC, j10, j9, j8, j3, j1, hlt2, z, y, txt_eta, conT, xD, TB]
            (repeat with_reducible refine And.intro (by omega) ?_)
            first | exact ⟨w0, g0⟩ | exact g0
          · simp (maxSteps := 4000000) -dsimp [-Y1, -Array.all_eq_true, -Y3, -Y4, and_assoc, Y5, Tryz.f37, iCoilC, iConC, iNameC, iDevTextC, iCmpTextC, joinC, j10, j9, j8, j3, j1, hlt2, z, y, txt_eta, conT, xD, TB]
            (repeat with_reducible refine And.intro (by omega) ?_)
            first | exact ⟨w0, g0⟩ | exact g0
        · simp only [List.length_cons, List.length_nil, Nat.zero_add, Nat.reduceAdd] at z y j3 j8 j9 j10 hWc hlt2
          have l0 := devL_len a
          have l1 := devL_len b
          by_cases e3 : op = 3
          · subst e3
            simp (maxSteps := 4000000) -dsimp [-Y1, -Array.all_eq_true, -Y3, -Y4, and_assoc, Y5, Tryz.f37, iCoilC, iConC, iNameC, iDevTextC, iCmpTextC, joinC, j10, j9, j8, j3, j1, hlt2, z, y, txt_eta, conT, xD, TB]
            (repeat with_reducible refine And.intro (by omega) ?_)
            first | exact ⟨w0, g0⟩ | exact g0
          by_cases e4 : op = 4
          · subst e4
            simp (maxSteps := 4000000) -dsimp [-Y1, -Array.all_eq_true, -Y3, -Y4, and_assoc, Y5, Tryz.f37, iCoilC, iConC, iNameC, iDevTextC, iCmpTextC, joinC, j10, j9, j8, j3, j1, hlt2, z, y, txt_eta, conT, xD, TB]
            (repeat with_reducible refine And.intro (by omega) ?_)
            first | exact ⟨w0, g0⟩ | exact g0
          have e1 : ¬ op = 1 := by omega
          have e2 : ¬ op = 2 := by omega
          have cl := cmpS_len (op - 4)
          have e5 : IntKind.i64.wrap (op - 5) = op - 5 := wrap_i64 (by omega) (by omega)
          have e6 : IntKind.i64.wrap (op - 5 + 1) = op - 4 := by rw [wrap_i64 (by omega) (by omega)]; omega
          simp (maxSteps := 4000000) -dsimp [-Y1, -Array.all_eq_true, -Y3, -Y4, and_assoc, Y5, Tryz.f37, iCoilC, iConC, iNameC, iDevTextC, iCmpTextC, joinC, j10, j9, j8, j3, j1, hlt2, z, y, txt_eta, conT, xD, TB, e1, e2, e3, e4, e5, e6]
          (repeat with_reducible refine And.intro (by omega) ?_)
          first | exact ⟨w0, g0⟩ | exact g0
    · rw [hc] at z
      obtain ⟨o1, o2, hq⟩ := coil_arity hc
      have ha := coil_facts op o1 o2
      have hj := joinL_devs xs
      have eE : elemL op xs = coilName op ++ 58 :: joinL 44 (xs.map devL) := by unfold elemL; rw [if_pos hc]
      rw [eE]
      simp (maxSteps := 4000000) -dsimp [-Y1, -Array.all_eq_true, -Y3, -Y4, and_assoc, Y5, Tryz.f37, iCoilC, iConC, iNameC, iDevTextC, iCmpTextC, joinC, j10, j9, j8, j3, j1, hlt2, z, nm, Con.readW, txt_eta]
      refine ⟨by omega, ?_⟩
      refine join_TB (W := xs.map devL) rfl (by simp) hWc (by omega) (by omega) ?_
      simp (maxSteps := 4000000) -dsimp [-Y1, -Array.all_eq_true, -Y3, -Y4, and_assoc, Y5, Tryz.f37, iCoilC, iConC, iNameC, iDevTextC, iCmpTextC, joinC, txt_eta]
      (repeat with_reducible refine And.intro (by omega) ?_)
      first | exact ⟨w0, g0⟩ | exact g0
def iElemTextC_S : Reads Tryz.prog 37 where
  ι := ((Int) × (Option Addr) × (Nat) × (List Dev))
  A := fun (i : ((Int) × (Option Addr) × (Nat) × (List Dev))) => match i with | (op, o, cap, xs) => [.agg #[.int .i64 op, .slice o xs.length cap]]
  pre := fun (i : ((Int) × (Option Addr) × (Nat) × (List Dev))) (F : Facts) => match i with | (op, o, cap, xs) => RdD F o xs ∧ TC F ∧ (xs.length ≤ 1048576 ∧ xs.length ≤ cap ∧ cap ≤ 9223372036854775807)
  res := fun (i : ((Int) × (Option Addr) × (Nat) × (List Dev))) => match i with | (op, o, cap, xs) => .string (txt (elemL op xs))
  mono := by
    intro i F G hs h
    first | exact h | exact h.mono hs | exact ⟨h.1.mono hs, h.2⟩ | exact ⟨h.1.mono hs, h.2.1.mono hs, h.2.2⟩ | exact ⟨h.1.mono hs, h.2.1.mono hs⟩ | exact ⟨h.1.mono hs, h.2.1.mono hs, h.2.2.1.mono hs, h.2.2.2⟩
  uniq := by
    rintro ⟨op, o, cap, xs⟩ ⟨op', o', cap', xs'⟩ F hA h h'
    simp at hA
    (try simp only [Int.natCast_inj] at hA)
    obtain rfl : xs = xs' := RdD.uniq h.1 h'.1 (by simp_all) (by simp_all)
    simp_all
  enter := Tryz.call37
  h := fun i w hp => iElemTextC_c i.1 i.2.1 i.2.2.1 i.2.2.2 w (by rw [factF_init]; exact hp)
def iElemTextC : Con Tryz.prog := Con.read iElemTextC_S
theorem iElemTextC_rw {op : Int} {o : Option Addr} {cap : Nat} {xs : List Dev} {d : Nat} {cx : Cx} {mem : List Blk} {K : C → Prop} (hpre : RdD (nowF cx mem) o xs ∧ TC (nowF cx mem) ∧ (xs.length ≤ 1048576 ∧ xs.length ≤ cap ∧ cap ≤ 9223372036854775807)) : ReadV d iElemTextC_S cx [.v (.agg #[.int .i64 op, .slice o xs.length cap])] mem K = K (.v (.string (txt (elemL op xs)))) := iElemTextC_S.eq (op, o, cap, xs) rfl hpre
theorem iListLineC_c (code op : Int) (o : Option Addr) (cap : Nat) (xs : List Dev) (w : World) (hpre : RdD (factF ⟨w, [], w, []⟩) o xs ∧ TL (factF ⟨w, [], w, []⟩) ∧ (xs.length ≤ 1048576 ∧ xs.length ≤ cap ∧ cap ≤ 9223372036854775807)) : Calls Tryz.prog 23 #[.agg #[.int .i64 code, .int .i64 op, .slice o xs.length cap]] w fun e w' => e = .returned (.string (txt (lineL ⟨code, op, xs⟩))) ∧ RowKit.Below w.heap.size w w' := by
  refine (plain_of_vcs ⟨[iListOkC, asksC, listWordC, iElemTextC], []⟩ hmx Tryz.func23 rfl (by kernel_rfl) (args := [.agg #[.int .i64 code, .int .i64 op, .slice o xs.length cap]]) (by simp [Tryz.ntmps23]) w (· = .string (txt (lineL ⟨code, op, xs⟩))) 400 ?_).mono fun e w' ⟨v, h1, h2, h3⟩ => ⟨h2 ▸ h1, h3⟩
  obtain ⟨h, ht, hl, hlc, hcap⟩ := hpre
  have y1 := fun d mem K => iListOkC_rw (code := code) (op := op) (cap := cap) (d := d) (cx := ⟨w, [], w, []⟩) (mem := mem) (K := K) ⟨h.mono (sub_now _ _), hl, hlc, hcap⟩
  have y2 := fun d mem K => iElemTextC_rw (op := op) (cap := cap) (d := d) (cx := ⟨w, [], w, []⟩) (mem := mem) (K := K) ⟨h.mono (sub_now _ _), (ht.mono (sub_now _ _)).c, hl, hlc, hcap⟩
  have y3 := fun d mem K => listWordC_rw (c := code) (d := d) (cx := ⟨w, [], w, []⟩) (mem := mem) (K := K) (ht.w.mono (sub_now _ _))
  have l1 := wordOf_len code
  have l2 := elemL_len op xs
  unfold lineL
  simp only
  cases hk : insOk ⟨code, op, xs⟩
  · rw [hk] at y1
    simp (maxSteps := 4000000) -dsimp [-Y1, -Array.all_eq_true, -Y3, -Y4, and_assoc, Y5, Tryz.f23, iListOkC, asksC, listWordC, iElemTextC, y1, txt_eta]
  · rw [hk] at y1
    have h11 : 1 ≤ code ∧ code ≤ 11 := by
      unfold insOk at hk
      simp only at hk
      split at hk
      · omega
      · split at hk
        · omega
        · have := of_decide_eq_true hk
          omega
    have h1 := h11.1
    by_cases h3 : code ≤ 3
    · have e : 1 ≤ code ∧ code ≤ 3 := by omega
      simp (maxSteps := 4000000) -dsimp [-Y1, -Array.all_eq_true, -Y3, -Y4, and_assoc, Y5, Tryz.f23, iListOkC, asksC, listWordC, iElemTextC, y1, y2, y3, h1, h3, e, txt_eta]
      omega
    · by_cases h10 : code = 10
      · subst h10
        simp (maxSteps := 4000000) -dsimp [-Y1, -Array.all_eq_true, -Y3, -Y4, and_assoc, Y5, Tryz.f23, iListOkC, asksC, listWordC, iElemTextC, y1, y2, y3, txt_eta]
        omega
      · simp (maxSteps := 4000000) -dsimp [-Y1, -Array.all_eq_true, -Y3, -Y4, and_assoc, Y5, Tryz.f23, iListOkC, asksC, listWordC, iElemTextC, y1, y2, y3, h1, h3, h10, txt_eta]
        omega
def iListLineC_S : Reads Tryz.prog 23 where
  ι := ((Int) × (Int) × (Option Addr) × (Nat) × (List Dev))
  A := fun (i : ((Int) × (Int) × (Option Addr) × (Nat) × (List Dev))) => match i with | (code, op, o, cap, xs) => [.agg #[.int .i64 code, .int .i64 op, .slice o xs.length cap]]
  pre := fun (i : ((Int) × (Int) × (Option Addr) × (Nat) × (List Dev))) (F : Facts) => match i with | (code, op, o, cap, xs) => RdD F o xs ∧ TL F ∧ (xs.length ≤ 1048576 ∧ xs.length ≤ cap ∧ cap ≤ 9223372036854775807)
  res := fun (i : ((Int) × (Int) × (Option Addr) × (Nat) × (List Dev))) => match i with | (code, op, o, cap, xs) => .string (txt (lineL ⟨code, op, xs⟩))
  mono := by
    intro i F G hs h
    first | exact h | exact h.mono hs | exact ⟨h.1.mono hs, h.2⟩ | exact ⟨h.1.mono hs, h.2.1.mono hs, h.2.2⟩ | exact ⟨h.1.mono hs, h.2.1.mono hs⟩ | exact ⟨h.1.mono hs, h.2.1.mono hs, h.2.2.1.mono hs, h.2.2.2⟩
  uniq := by
    rintro ⟨code, op, o, cap, xs⟩ ⟨code', op', o', cap', xs'⟩ F hA h h'
    simp at hA
    (try simp only [Int.natCast_inj] at hA)
    obtain rfl : xs = xs' := RdD.uniq h.1 h'.1 (by simp_all) (by simp_all)
    simp_all
  enter := Tryz.call23
  h := fun i w hp => iListLineC_c i.1 i.2.1 i.2.2.1 i.2.2.2.1 i.2.2.2.2 w (by rw [factF_init]; exact hp)
def iListLineC : Con Tryz.prog := Con.read iListLineC_S
theorem iListLineC_rw {code op : Int} {o : Option Addr} {cap : Nat} {xs : List Dev} {d : Nat} {cx : Cx} {mem : List Blk} {K : C → Prop} (hpre : RdD (nowF cx mem) o xs ∧ TL (nowF cx mem) ∧ (xs.length ≤ 1048576 ∧ xs.length ≤ cap ∧ cap ≤ 9223372036854775807)) : ReadV d iListLineC_S cx [.v (.agg #[.int .i64 code, .int .i64 op, .slice o xs.length cap])] mem K = K (.v (.string (txt (lineL ⟨code, op, xs⟩)))) := iListLineC_S.eq (code, op, o, cap, xs) rfl hpre
end Go.Proofs.YtclbanhoiaieaaaGreatDoor
