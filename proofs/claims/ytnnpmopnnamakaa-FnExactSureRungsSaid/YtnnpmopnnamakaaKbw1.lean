/-
  Contracts: lists of instructions copied into known blocks.
-/
import Derived.Test.YtnnpmopnnamakaaIlw1
import Derived.Test.YtnnpmopnnamakaaKmw1
set_option linter.unusedVariables false
set_option linter.unusedSimpArgs false
set_option maxRecDepth 100000
set_option maxHeartbeats 4000000
namespace Go.Proofs.Ytnnpmopnnamakaa
open Go Go.Sx
open List renaming all_eq_true → Y1, zipIdx → Y5
open Bool renaming exists_bool → Y3, forall_bool → Y4
attribute [local simp] Sx.vcsE1 Sx.vcsE2 Sx.vcsE3 Sx.vcsE4 Sx.vcsE5 Sx.vcsE6 Sx.vcsE7 Sx.vcsE8 Sx.vcsE9 Sx.vcsE10 Sx.vcsE11 Sx.vcsE12 Sx.vcsE13 Sx.vcsE14 Sx.vcsE15 Sx.vcsE16 Sx.vcsE17 Sx.vcsE18 Sx.vcsE19 Sx.get Sx.look Sx.put Sx.pureFn Sx.findOrd Sx.unF Sx.dstOk Sx.isFloatT Sx.endVC Sx.resFn Sx.packC Sx.newFn Sx.storeFn Sx.buildFn Sx.known Sx.aggT Sx.cellsC Sx.findCon Sx.allV Sx.partsV Sx.partsC Sx.fillL Sx.exitTo Sx.fAr Sx.eqFn Sx.eqFieldsFn Sx.eqElemsFn Sx.partFn Sx.sliceFn Sx.boundFn Sx.AppV Sx.CopyV Sx.MakeSliceV Sx.NewsV Sx.GrowV Sx.TextV Sx.bytesL Sx.notInt Sx.typeAt Sx.argAt Sx.den Go.undef Go.Value.cells Go.Value.oneCell' Sx.Con.pure Sx.Con.some Sx.Con.read Sx.Con.make Sx.Con.ext Sx.Con.rel Sx.Con.extS Sx.Con.draw Sx.Con.step Sx.C.one Sx.Draws.steps

theorem toArgsG_c (o : Option Addr) (cap : Nat) (xs : List Dev) (cx : Cx) (mem : List Blk) (w : World) (hpre : RdD (factF cx) o xs ∧ List.length xs ≤ 1048576) (hm : MemRel cx mem w) :
    Calls Try.prog 49 (([.v (.slice o (List.length xs) cap)] : List C).map den).toArray w fun e w' => ∃ cx' c mem', e = .returned (den c) ∧ MemRel cx' mem' w' ∧ cx' = cx ∧ ∃ b, c = .v (.slice (some ⟨b, 0, none⟩) (List.length xs) (List.length xs)) ∧ mem' = mem ++ [⟨b, rowD xs (List.length xs) (List.length xs), 54⟩] := by
  refine step_of_vcs ⟨[toDevArgC], []⟩ hmx Try.func49 rfl (by kernel_rfl) (args := [.v (.slice o (List.length xs) cap)]) (by simp [Try.ntmps49]) hm (fun cx' c mem' => cx' = cx ∧ ∃ b, c = .v (.slice (some ⟨b, 0, none⟩) (List.length xs) (List.length xs)) ∧ mem' = mem ++ [⟨b, rowD xs (List.length xs) (List.length xs), 54⟩]) 400 ?_
  obtain ⟨h, hl⟩ := hpre
  simp (maxSteps := 4000000) -dsimp [-Y1, -Array.all_eq_true, -Y3, -Y4, and_assoc, Y5, Try.f49, toDevArgC]
  refine ⟨by omega, by omega, fun b => ?_⟩
  refine loop_inv (σ := ⟨[toDevArgC], []⟩) hmx (by kernel_rfl) (fun m cx' tm mem' => cx' = cx ∧ ∃ i : Nat, i ≤ xs.length ∧ m = xs.length - i ∧ mem' = mem ++ [⟨b, rowD xs i xs.length, 54⟩] ∧ Sx.look tm 4 = .v (.int .i64 i) ∧ Sx.look tm 3 = .s mem.length b 0 xs.length xs.length ∧ Sx.look tm 0 = .v (.slice o xs.length cap))
    xs.length ⟨rfl, 0, by omega, rfl, by rw [rowD_zero]; simp [zeroD], by simp [Sx.look], by simp [Sx.look], by simp [Sx.look]⟩ ?_
  rintro m cx' tm mem' ⟨rfl, i, hi, rfl, rfl, h4, h3, h0⟩
  refine ⟨200, ?_⟩
  by_cases hlt : i < xs.length
  · obtain ⟨d, hd⟩ : ∃ d, xs[i]? = some d := ⟨xs[i], by simp [hlt]⟩
    have e1 := i_succ (i := i) (by omega)
    have e2 := rowD_set hd hlt
    simp at e2
    have e3 := len_rowD (xs := xs) (i := i) (n := xs.length) (by omega) (by omega)
    have e4 := h.there hlt
    simp (maxSteps := 4000000) -dsimp [-Y1, -Array.all_eq_true, -Y3, -Y4, and_assoc, Y5, Try.f49, toDevArgC, h4, h3, h0, hlt, e1, e2, e3, e4, h.ld _ _ hd, List.getElem?_append, List.set_append]
    exact ⟨by omega, mem.length + 1, xs.length - (i + 1), by omega, i + 1, by omega, rfl, List.take_of_length_le (by simp), by omega⟩
  · obtain rfl : i = xs.length := by omega
    simp (maxSteps := 4000000) -dsimp [-Y1, -Array.all_eq_true, -Y3, -Y4, and_assoc, Y5, Try.f49, toDevArgC, h4, h3, h0]
    exact endK_val ⟨rfl, b, rfl, rfl⟩
def toArgsG_S : Gens Try.prog 49 where
  ι := ((Option Addr) × (Nat) × (List Dev))
  A := fun (i : ((Option Addr) × (Nat) × (List Dev))) => match i with | (o, cap, xs) => [.v (.slice o (List.length xs) cap)]
  pre := fun (i : ((Option Addr) × (Nat) × (List Dev))) (cx : Cx) (mem : List Blk) => match i with | (o, cap, xs) => RdD (factF cx) o xs ∧ List.length xs ≤ 1048576
  post := fun (i : ((Option Addr) × (Nat) × (List Dev))) (cx : Cx) (mem : List Blk) (cx' : Cx) (c : C) (mem' : List Blk) => match i with | (o, cap, xs) => cx' = cx ∧ ∃ b, c = .v (.slice (some ⟨b, 0, none⟩) (List.length xs) (List.length xs)) ∧ mem' = mem ++ [⟨b, rowD xs (List.length xs) (List.length xs), 54⟩]
  enter := Try.call49
  h := fun i cx mem w hp hm => toArgsG_c i.1 i.2.1 i.2.2 cx mem w hp hm
def toArgsG : Con Try.prog := Con.gen toArgsG_S
theorem toArgsG_at {o : Option Addr} {cap : Nat} {xs : List Dev} {d : Nat} {cx : Cx} {mem : List Blk} {K : Cx → C → List Blk → Prop} (hpre : RdD (factF cx) o xs ∧ List.length xs ≤ 1048576) (h : ∀ cx' c mem', (cx' = cx ∧ ∃ b, c = .v (.slice (some ⟨b, 0, none⟩) (List.length xs) (List.length xs)) ∧ mem' = mem ++ [⟨b, rowD xs (List.length xs) (List.length xs), 54⟩]) → K cx' c mem') : GenV d toArgsG_S cx [.v (.slice o (List.length xs) cap)] mem K := ⟨(o, cap, xs), rfl, hpre, h⟩
theorem toElemG_c (op : Int) (o : Option Addr) (cap : Nat) (xs : List Dev) (cx : Cx) (mem : List Blk) (w : World) (hpre : RdD (factF cx) o xs ∧ List.length xs ≤ 1048576) (hm : MemRel cx mem w) :
    Calls Try.prog 33 (([.v (.agg #[.int .i64 op, .slice o (List.length xs) cap])] : List C).map den).toArray w fun e w' => ∃ cx' c mem', e = .returned (den c) ∧ MemRel cx' mem' w' ∧ cx' = cx ∧ ∃ b, c = .v (.agg #[.int .i64 op, .slice (some ⟨b, 0, none⟩) (List.length xs) (List.length xs)]) ∧ mem' = mem ++ [⟨b, rowD xs (List.length xs) (List.length xs), 54⟩] := by
  refine step_of_vcs ⟨[toArgsG], []⟩ hmx Try.func33 rfl (by kernel_rfl) (args := [.v (.agg #[.int .i64 op, .slice o (List.length xs) cap])]) (by simp [Try.ntmps33]) hm (fun cx' c mem' => cx' = cx ∧ ∃ b, c = .v (.agg #[.int .i64 op, .slice (some ⟨b, 0, none⟩) (List.length xs) (List.length xs)]) ∧ mem' = mem ++ [⟨b, rowD xs (List.length xs) (List.length xs), 54⟩]) 400 ?_
  obtain ⟨h, hl⟩ := hpre
  simp (maxSteps := 4000000) -dsimp [-Y1, -Array.all_eq_true, -Y3, -Y4, and_assoc, Y5, Try.f33, toArgsG, Con.gen]
  intro b0 b1 b2
  refine toArgsG_at ⟨h, hl⟩ ?_
  rintro cx1 c1 mem1 ⟨rfl, b, rfl, rfl⟩
  simp (maxSteps := 4000000) -dsimp [-Y1, -Array.all_eq_true, -Y3, -Y4, and_assoc, Y5, Try.f33, toArgsG, Con.gen, List.getElem?_append, List.set_append]
  exact endK_mid (ex := [_, _, _]) (ys := [_]) ⟨rfl, b, rfl, rfl⟩
def toElemG_S : Gens Try.prog 33 where
  ι := ((Int) × (Option Addr) × (Nat) × (List Dev))
  A := fun (i : ((Int) × (Option Addr) × (Nat) × (List Dev))) => match i with | (op, o, cap, xs) => [.v (.agg #[.int .i64 op, .slice o (List.length xs) cap])]
  pre := fun (i : ((Int) × (Option Addr) × (Nat) × (List Dev))) (cx : Cx) (mem : List Blk) => match i with | (op, o, cap, xs) => RdD (factF cx) o xs ∧ List.length xs ≤ 1048576
  post := fun (i : ((Int) × (Option Addr) × (Nat) × (List Dev))) (cx : Cx) (mem : List Blk) (cx' : Cx) (c : C) (mem' : List Blk) => match i with | (op, o, cap, xs) => cx' = cx ∧ ∃ b, c = .v (.agg #[.int .i64 op, .slice (some ⟨b, 0, none⟩) (List.length xs) (List.length xs)]) ∧ mem' = mem ++ [⟨b, rowD xs (List.length xs) (List.length xs), 54⟩]
  enter := Try.call33
  h := fun i cx mem w hp hm => toElemG_c i.1 i.2.1 i.2.2.1 i.2.2.2 cx mem w hp hm
def toElemG : Con Try.prog := Con.gen toElemG_S
theorem toElemG_at {op : Int} {o : Option Addr} {cap : Nat} {xs : List Dev} {d : Nat} {cx : Cx} {mem : List Blk} {K : Cx → C → List Blk → Prop} (hpre : RdD (factF cx) o xs ∧ List.length xs ≤ 1048576) (h : ∀ cx' c mem', (cx' = cx ∧ ∃ b, c = .v (.agg #[.int .i64 op, .slice (some ⟨b, 0, none⟩) (List.length xs) (List.length xs)]) ∧ mem' = mem ++ [⟨b, rowD xs (List.length xs) (List.length xs), 54⟩]) → K cx' c mem') : GenV d toElemG_S cx [.v (.agg #[.int .i64 op, .slice o (List.length xs) cap])] mem K := ⟨(op, o, cap, xs), rfl, hpre, h⟩
theorem toInstG_c (code op : Int) (o : Option Addr) (cap : Nat) (xs : List Dev) (cx : Cx) (mem : List Blk) (w : World) (hpre : RdD (factF cx) o xs ∧ List.length xs ≤ 1048576) (hm : MemRel cx mem w) :
    Calls Try.prog 20 (([.v (.agg #[.int .i64 code, .int .i64 op, .slice o (List.length xs) cap])] : List C).map den).toArray w fun e w' => ∃ cx' c mem', e = .returned (den c) ∧ MemRel cx' mem' w' ∧ cx' = cx ∧ ∃ b, c = .v (.agg #[.int .i64 code, .int .i64 op, .slice (some ⟨b, 0, none⟩) (List.length xs) (List.length xs)]) ∧ mem' = mem ++ [⟨b, rowD xs (List.length xs) (List.length xs), 54⟩] := by
  refine step_of_vcs ⟨[toElemG], []⟩ hmx Try.func20 rfl (by kernel_rfl) (args := [.v (.agg #[.int .i64 code, .int .i64 op, .slice o (List.length xs) cap])]) (by simp [Try.ntmps20]) hm (fun cx' c mem' => cx' = cx ∧ ∃ b, c = .v (.agg #[.int .i64 code, .int .i64 op, .slice (some ⟨b, 0, none⟩) (List.length xs) (List.length xs)]) ∧ mem' = mem ++ [⟨b, rowD xs (List.length xs) (List.length xs), 54⟩]) 400 ?_
  obtain ⟨h, hl⟩ := hpre
  simp (maxSteps := 4000000) -dsimp [-Y1, -Array.all_eq_true, -Y3, -Y4, and_assoc, Y5, Try.f20, toElemG, Con.gen]
  intro b0 b1 b2
  refine toElemG_at ⟨h, hl⟩ ?_
  rintro cx1 c1 mem1 ⟨rfl, b, rfl, rfl⟩
  simp (maxSteps := 4000000) -dsimp [-Y1, -Array.all_eq_true, -Y3, -Y4, and_assoc, Y5, Try.f20, toElemG, Con.gen, List.getElem?_append, List.set_append]
  exact endK_mid (ex := [_, _, _]) (ys := [_]) ⟨rfl, b, rfl, rfl⟩
def toInstG_S : Gens Try.prog 20 where
  ι := ((Int) × (Int) × (Option Addr) × (Nat) × (List Dev))
  A := fun (i : ((Int) × (Int) × (Option Addr) × (Nat) × (List Dev))) => match i with | (code, op, o, cap, xs) => [.v (.agg #[.int .i64 code, .int .i64 op, .slice o (List.length xs) cap])]
  pre := fun (i : ((Int) × (Int) × (Option Addr) × (Nat) × (List Dev))) (cx : Cx) (mem : List Blk) => match i with | (code, op, o, cap, xs) => RdD (factF cx) o xs ∧ List.length xs ≤ 1048576
  post := fun (i : ((Int) × (Int) × (Option Addr) × (Nat) × (List Dev))) (cx : Cx) (mem : List Blk) (cx' : Cx) (c : C) (mem' : List Blk) => match i with | (code, op, o, cap, xs) => cx' = cx ∧ ∃ b, c = .v (.agg #[.int .i64 code, .int .i64 op, .slice (some ⟨b, 0, none⟩) (List.length xs) (List.length xs)]) ∧ mem' = mem ++ [⟨b, rowD xs (List.length xs) (List.length xs), 54⟩]
  enter := Try.call20
  h := fun i cx mem w hp hm => toInstG_c i.1 i.2.1 i.2.2.1 i.2.2.2.1 i.2.2.2.2 cx mem w hp hm
def toInstG : Con Try.prog := Con.gen toInstG_S
theorem toInstG_at {code op : Int} {o : Option Addr} {cap : Nat} {xs : List Dev} {d : Nat} {cx : Cx} {mem : List Blk} {K : Cx → C → List Blk → Prop} (hpre : RdD (factF cx) o xs ∧ List.length xs ≤ 1048576) (h : ∀ cx' c mem', (cx' = cx ∧ ∃ b, c = .v (.agg #[.int .i64 code, .int .i64 op, .slice (some ⟨b, 0, none⟩) (List.length xs) (List.length xs)]) ∧ mem' = mem ++ [⟨b, rowD xs (List.length xs) (List.length xs), 54⟩]) → K cx' c mem') : GenV d toInstG_S cx [.v (.agg #[.int .i64 code, .int .i64 op, .slice o (List.length xs) cap])] mem K := ⟨(code, op, o, cap, xs), rfl, hpre, h⟩
structure KL (xs : List Ins) (rs : List (List Value)) (As : List Blk) : Prop where
  le : rs.length ≤ xs.length
  al : As.length = rs.length
  at' : ∀ (i : Nat) x, i < rs.length → xs[i]? = some x → ∃ a, rs[i]? = some [.int .i64 x.code, .int .i64 x.op, .slice (some ⟨a, 0, none⟩) x.args.length x.args.length] ∧ As[i]? = some ⟨a, rowD x.args x.args.length x.args.length, 54⟩
theorem KL.nil (xs : List Ins) : KL xs [] [] := ⟨by simp, rfl, fun i x h => by simp at h⟩
theorem KL.len {xs : List Ins} {rs : List (List Value)} {As : List Blk} (h : KL xs rs As) : ∀ r ∈ rs, r.length = 3 := fun r hr => by
  obtain ⟨i, hi⟩ := List.getElem?_of_mem hr
  have hil := (List.getElem?_eq_some_iff.1 hi).1
  have := h.le
  obtain ⟨a, h1, _⟩ := h.at' i (xs[i]'(by omega)) hil (by simp [show i < xs.length by omega])
  rw [hi] at h1
  cases h1
  rfl
theorem KL.snoc {xs : List Ins} {rs : List (List Value)} {As : List Blk} {x : Ins} {a : Nat} (h : KL xs rs As) (hx : xs[rs.length]? = some x) :
    KL xs (rs ++ [[.int .i64 x.code, .int .i64 x.op, .slice (some ⟨a, 0, none⟩) x.args.length x.args.length]]) (As ++ [⟨a, rowD x.args x.args.length x.args.length, 54⟩]) := by
  have hl := (List.getElem?_eq_some_iff.1 hx).1
  refine ⟨by simp; omega, by simp [h.al], fun i y hi hy => ?_⟩
  by_cases e : i < rs.length
  · obtain ⟨b, h1, h2⟩ := h.at' i y e hy
    refine ⟨b, ?_, ?_⟩
    · rw [List.getElem?_append_left e]; exact h1
    · rw [List.getElem?_append_left (by rw [h.al]; exact e)]; exact h2
  · have : i = rs.length := by simp at hi; omega
    subst this
    rw [hx] at hy
    cases hy
    refine ⟨a, ?_, ?_⟩
    · rw [List.getElem?_append_right (Nat.le_refl _), Nat.sub_self]; rfl
    · rw [List.getElem?_append_right (by rw [h.al]; exact Nat.le_refl _), h.al, Nat.sub_self]; rfl
theorem toInstSG_c (o : Option Addr) (cap : Nat) (xs : List Ins) (cx : Cx) (mem : List Blk) (w : World) (hpre : RdN (factF cx) o xs ∧ List.length xs ≤ 1048576 ∧ (∀ x ∈ xs, x.args.length ≤ 1048576)) (hm : MemRel cx mem w) :
    Calls Try.prog 7 (([.v (.slice o (List.length xs) cap)] : List C).map den).toArray w fun e w' => ∃ cx' c mem', e = .returned (den c) ∧ MemRel cx' mem' w' ∧ cx' = cx ∧ ∃ b rs As, c = .v (.slice (some ⟨b, 0, none⟩) (List.length xs) (List.length xs)) ∧ KL xs rs As ∧ List.length rs = List.length xs ∧ mem' = mem ++ (⟨b, rowZ zI rs (List.length xs), 49⟩ :: As) := by
  refine step_of_vcs ⟨[toInstG], []⟩ hmx Try.func7 rfl (by kernel_rfl) (args := [.v (.slice o (List.length xs) cap)]) (by simp [Try.ntmps7]) hm (fun cx' c mem' => cx' = cx ∧ ∃ b rs As, c = .v (.slice (some ⟨b, 0, none⟩) (List.length xs) (List.length xs)) ∧ KL xs rs As ∧ List.length rs = List.length xs ∧ mem' = mem ++ (⟨b, rowZ zI rs (List.length xs), 49⟩ :: As)) 400 ?_
  obtain ⟨h, hl, hx⟩ := hpre
  simp (maxSteps := 4000000) -dsimp [-Y1, -Array.all_eq_true, -Y3, -Y4, and_assoc, Y5, Try.f7, toInstG, Con.gen]
  refine ⟨by omega, by omega, fun b => ?_⟩
  refine loop_inv (σ := ⟨[toInstG], []⟩) hmx (by kernel_rfl) (fun q cx' tm mem' => cx' = cx ∧ ∃ (rs : List (List Value)) (As : List Blk), q = xs.length - rs.length ∧ KL xs rs As ∧ mem' = mem ++ (⟨b, rowZ zI rs xs.length, 49⟩ :: As) ∧ Sx.look tm 4 = .v (.int .i64 rs.length) ∧ Sx.look tm 3 = .s mem.length b 0 xs.length xs.length ∧ Sx.look tm 0 = .v (.slice o xs.length cap))
    xs.length ⟨rfl, [], [], rfl, KL.nil _, by rw [rowZ_nil]; simp [zI], by simp [Sx.look], by simp [Sx.look], by simp [Sx.look]⟩ ?_
  rintro q cx' tm mem' ⟨rfl, rs, As, rfl, hK, rfl, h4, h3, h0⟩
  refine ⟨300, ?_⟩
  have e3 := len_rowZ (n := xs.length) zI_len hK.len hK.le
  by_cases hlt : rs.length < xs.length
  · obtain ⟨x, hxi⟩ : ∃ x, xs[rs.length]? = some x := ⟨xs[rs.length], by simp [hlt]⟩
    obtain ⟨o', cap', hat⟩ := h.at hxi
    simp (maxSteps := 4000000) -dsimp [-Y1, -Array.all_eq_true, -Y3, -Y4, and_assoc, Y5, Try.f7, toInstG, Con.gen, h4, h3, h0, hlt, h.there hlt, hat.all]
    refine toInstG_at (code := x.code) (op := x.op) (xs := x.args) ⟨hat.args, hx x (List.mem_of_getElem? hxi)⟩ ?_
    rintro cx1 c1 mem1 ⟨rfl, a, rfl, rfl⟩
    have e2 := rowZ_set (r := [.int .i64 x.code, .int .i64 x.op, .slice (some ⟨a, 0, none⟩) x.args.length x.args.length]) zI_len hK.len hlt rfl
    simp at e2
    simp (maxSteps := 4000000) -dsimp [-Y1, -Array.all_eq_true, -Y3, -Y4, and_assoc, Y5, Try.f7, toInstG, Con.gen, h4, h3, h0, hlt, e2, e3, i_succ (i := rs.length) (by omega), List.getElem?_append, List.set_append]
    exact ⟨by omega, mem.length + (As.length + 2), xs.length - (rs.length + 1), by omega, rs ++ [_], by simp, As ++ [_], hK.snoc hxi, List.take_of_length_le (by simp), by simp⟩
  · have : rs.length = xs.length := by have := hK.le; omega
    simp (maxSteps := 4000000) -dsimp [-Y1, -Array.all_eq_true, -Y3, -Y4, and_assoc, Y5, Try.f7, toInstG, Con.gen, h4, h3, h0, hlt]
    exact endK_val ⟨rfl, b, rs, As, rfl, hK, this, rfl⟩
def toInstSG_S : Gens Try.prog 7 where
  ι := ((Option Addr) × (Nat) × (List Ins))
  A := fun (i : ((Option Addr) × (Nat) × (List Ins))) => match i with | (o, cap, xs) => [.v (.slice o (List.length xs) cap)]
  pre := fun (i : ((Option Addr) × (Nat) × (List Ins))) (cx : Cx) (mem : List Blk) => match i with | (o, cap, xs) => RdN (factF cx) o xs ∧ List.length xs ≤ 1048576 ∧ (∀ x ∈ xs, x.args.length ≤ 1048576)
  post := fun (i : ((Option Addr) × (Nat) × (List Ins))) (cx : Cx) (mem : List Blk) (cx' : Cx) (c : C) (mem' : List Blk) => match i with | (o, cap, xs) => cx' = cx ∧ ∃ b rs As, c = .v (.slice (some ⟨b, 0, none⟩) (List.length xs) (List.length xs)) ∧ KL xs rs As ∧ List.length rs = List.length xs ∧ mem' = mem ++ (⟨b, rowZ zI rs (List.length xs), 49⟩ :: As)
  enter := Try.call7
  h := fun i cx mem w hp hm => toInstSG_c i.1 i.2.1 i.2.2 cx mem w hp hm
def toInstSG : Con Try.prog := Con.gen toInstSG_S
theorem toInstSG_at {o : Option Addr} {cap : Nat} {xs : List Ins} {d : Nat} {cx : Cx} {mem : List Blk} {K : Cx → C → List Blk → Prop} (hpre : RdN (factF cx) o xs ∧ List.length xs ≤ 1048576 ∧ (∀ x ∈ xs, x.args.length ≤ 1048576)) (h : ∀ cx' c mem', (cx' = cx ∧ ∃ b rs As, c = .v (.slice (some ⟨b, 0, none⟩) (List.length xs) (List.length xs)) ∧ KL xs rs As ∧ List.length rs = List.length xs ∧ mem' = mem ++ (⟨b, rowZ zI rs (List.length xs), 49⟩ :: As)) → K cx' c mem') : GenV d toInstSG_S cx [.v (.slice o (List.length xs) cap)] mem K := ⟨(o, cap, xs), rfl, hpre, h⟩
theorem markArgsG_c (k b n : Nat) (cells : List C) (q : Int) (cx : Cx) (mem : List Blk) (w : World) (hpre : mem[k]? = some ⟨b, cells, 54⟩ ∧ List.length cells = n * 3 ∧ n ≤ 1048576 ∧ 0 ≤ q ∧ q ≤ 4611686018427387904) (hm : MemRel cx mem w) :
    Calls Try.prog 23 (([.s k b 0 n n, .v (.int .i64 q)] : List C).map den).toArray w fun e w' => ∃ cx' c mem', e = .returned (den c) ∧ MemRel cx' mem' w' ∧ cx' = cx ∧ c = .v (.int .i64 (q + 3 * n)) ∧ ∃ cells', List.length cells' = n * 3 ∧ mem' = mem.set k ⟨b, cells', 54⟩ := by
  refine step_of_vcs ⟨[], []⟩ hmx Try.func23 rfl (by kernel_rfl) (args := [.s k b 0 n n, .v (.int .i64 q)]) (by simp [Try.ntmps23]) hm (fun cx' c mem' => cx' = cx ∧ c = .v (.int .i64 (q + 3 * n)) ∧ ∃ cells', List.length cells' = n * 3 ∧ mem' = mem.set k ⟨b, cells', 54⟩) 400 ?_
  obtain ⟨hk, hcl, hn, hq0, hq1⟩ := hpre
  have hkl := (List.getElem?_eq_some_iff.1 hk).1
  simp (maxSteps := 4000000) -dsimp [-Y1, -Array.all_eq_true, -Y3, -Y4, and_assoc, Y5, Try.f23, Con.gen]
  refine loop_inv (σ := ⟨[], []⟩) hmx (by kernel_rfl) (fun m cx' tm mem' => cx' = cx ∧ ∃ (i : Nat) (cs : List C), i ≤ n ∧ m = n - i ∧ List.length cs = n * 3 ∧ mem' = mem.set k ⟨b, cs, 54⟩ ∧ Sx.look tm 5 = .v (.int .i64 i) ∧ Sx.look tm 1 = .v (.int .i64 (q + 3 * i)) ∧ Sx.look tm 0 = .s k b 0 n n)
    n ⟨rfl, 0, cells, by omega, rfl, hcl, by rw [← (List.getElem?_eq_some_iff.1 hk).2]; exact (List.set_getElem_self hkl).symm, by simp [Sx.look], by simp [Sx.look], by simp [Sx.look]⟩ ?_
  rintro m cx' tm mem' ⟨rfl, i, cs, hi, rfl, hcs, rfl, h5, h1, h0⟩
  refine ⟨400, ?_⟩
  by_cases hlt : i < n
  · have w1 : IntKind.i64.wrap (q + 3 * (i : Int) + 1) = q + 3 * (i : Int) + 1 := wrap_i64 (by omega) (by omega)
    have w2 : IntKind.i64.wrap (q + 3 * (i : Int) + 1 + 1) = q + 3 * (i : Int) + 1 + 1 := wrap_i64 (by omega) (by omega)
    have w3 : IntKind.i64.wrap (q + 3 * (i : Int) + 1 + 1 + 1) = q + 3 * (i : Int) + 1 + 1 + 1 := wrap_i64 (by omega) (by omega)
    have b1 : i * 3 < n * 3 := by omega
    have b2 : i * 3 + 1 < n * 3 := by omega
    have b3 : i * 3 + 2 < n * 3 := by omega
    simp (maxSteps := 4000000) -dsimp [-Y1, -Array.all_eq_true, -Y3, -Y4, and_assoc, Y5, Try.f23, Con.gen, h5, h1, h0, hlt, hkl, hcs, w1, w2, w3, b1, b2, b3, List.getElem?_set, List.getElem_set, i_succ (i := i) (by omega)]
    exact ⟨by omega, by omega, by omega, mem.length, n - (i + 1), by omega, i + 1, by omega, rfl, _, by simpa using hcs, List.take_of_length_le (by simp), by omega, by omega⟩
  · obtain rfl : i = n := by omega
    simp (maxSteps := 4000000) -dsimp [-Y1, -Array.all_eq_true, -Y3, -Y4, and_assoc, Y5, Try.f23, Con.gen, h5, h1, h0]
    exact EndK.all ⟨rfl, rfl, cs, hcs, rfl⟩
def markArgsG_S : Gens Try.prog 23 where
  ι := ((Nat) × (Nat) × (Nat) × (List C) × (Int))
  A := fun (i : ((Nat) × (Nat) × (Nat) × (List C) × (Int))) => match i with | (k, b, n, cells, q) => [.s k b 0 n n, .v (.int .i64 q)]
  pre := fun (i : ((Nat) × (Nat) × (Nat) × (List C) × (Int))) (cx : Cx) (mem : List Blk) => match i with | (k, b, n, cells, q) => mem[k]? = some ⟨b, cells, 54⟩ ∧ List.length cells = n * 3 ∧ n ≤ 1048576 ∧ 0 ≤ q ∧ q ≤ 4611686018427387904
  post := fun (i : ((Nat) × (Nat) × (Nat) × (List C) × (Int))) (cx : Cx) (mem : List Blk) (cx' : Cx) (c : C) (mem' : List Blk) => match i with | (k, b, n, cells, q) => cx' = cx ∧ c = .v (.int .i64 (q + 3 * n)) ∧ ∃ cells', List.length cells' = n * 3 ∧ mem' = mem.set k ⟨b, cells', 54⟩
  enter := Try.call23
  h := fun i cx mem w hp hm => markArgsG_c i.1 i.2.1 i.2.2.1 i.2.2.2.1 i.2.2.2.2 cx mem w hp hm
def markArgsV_S : Gens Try.prog 23 where
  ι := Nat × Nat × Nat × List C × Int
  A i := [.v (.slice (some ⟨i.2.1, 0, none⟩) i.2.2.1 i.2.2.1), .v (.int .i64 i.2.2.2.2)]
  pre i cx mem := markArgsG_S.pre i cx mem
  post i cx mem cx' c mem' := markArgsG_S.post i cx mem cx' c mem'
  enter := markArgsG_S.enter
  h := fun (k, b, n, cells, q) cx mem w hp hm => markArgsG_S.h (k, b, n, cells, q) cx mem w hp hm
def markArgsV : Con Try.prog := Con.gen markArgsV_S
theorem markArgsV_at {k b n : Nat} {cells : List C} {q : Int} {d : Nat} {cx : Cx} {mem : List Blk} {K : Cx → C → List Blk → Prop} (hpre : mem[k]? = some ⟨b, cells, 54⟩ ∧ List.length cells = n * 3 ∧ n ≤ 1048576 ∧ 0 ≤ q ∧ q ≤ 4611686018427387904)
    (h : ∀ cells', List.length cells' = n * 3 → K cx (.v (.int .i64 (q + 3 * n))) (mem.set k ⟨b, cells', 54⟩)) : GenV d markArgsV_S cx [.v (.slice (some ⟨b, 0, none⟩) n n), .v (.int .i64 q)] mem K :=
  ⟨(k, b, n, cells, q), rfl, hpre, by rintro _ _ _ ⟨rfl, rfl, cs, h1, rfl⟩; exact h cs h1⟩
structure KM (xs : List Ins) (cells : List C) (As : List Blk) : Prop where
  len : cells.length = xs.length * 3
  al : As.length = xs.length
  at' : ∀ (i : Nat) x, xs[i]? = some x → ∃ a cs, cells[i * 3 + 2]? = some (.v (.slice (some ⟨a, 0, none⟩) x.args.length x.args.length)) ∧ As[i]? = some ⟨a, cs, 54⟩ ∧ cs.length = x.args.length * 3
theorem KM.set {xs : List Ins} {cells : List C} {As : List Blk} (h : KM xs cells As) {j : Nat} {c : C} (hj : j % 3 ≠ 2) : KM xs (cells.set j c) As := by
  refine ⟨by simpa using h.len, h.al, fun i x hx => ?_⟩
  obtain ⟨a, cs, h1, h2⟩ := h.at' i x hx
  refine ⟨a, cs, ?_, h2⟩
  rw [List.getElem?_set_ne (by omega)]
  exact h1
theorem KM.setA {xs : List Ins} {cells : List C} {As : List Blk} (h : KM xs cells As) {j a : Nat} {cs cs' : List C} (hj : As[j]? = some ⟨a, cs, 54⟩) (hl : cs'.length = cs.length) : KM xs cells (As.set j ⟨a, cs', 54⟩) := by
  refine ⟨h.len, by simpa using h.al, fun i x hx => ?_⟩
  obtain ⟨a', cs2, h1, h2, h3⟩ := h.at' i x hx
  by_cases e : j = i
  · subst e
    rw [hj] at h2
    cases h2
    exact ⟨a, cs', h1, by rw [List.getElem?_set_self (List.getElem?_eq_some_iff.1 hj).1], by omega⟩
  · exact ⟨a', cs2, h1, by rw [List.getElem?_set_ne e]; exact h2, h3⟩
theorem KL.km {xs : List Ins} {rs : List (List Value)} {As : List Blk} (h : KL xs rs As) (hl : rs.length = xs.length) : KM xs (rowZ zI rs xs.length) As := by
  refine ⟨len_rowZ zI_len h.len h.le, by rw [h.al, hl], fun i x hx => ?_⟩
  have hi := (List.getElem?_eq_some_iff.1 hx).1
  obtain ⟨a, h1, h2⟩ := h.at' i x (by omega) hx
  refine ⟨a, _, ?_, h2, by rw [len_rowD] <;> omega⟩
  have hf := flat_at rs i _ h.len h1 2 _ rfl
  unfold rowZ
  rw [List.getElem?_map, List.getElem?_append_left (List.getElem?_eq_some_iff.1 hf).1, hf]
  rfl
theorem get_mid {m1 m2 As : List Blk} {B : Blk} {i : Nat} (h : i < As.length) : (m1 ++ B :: (As ++ m2))[m1.length + 1 + i]? = As[i]? := by
  rw [List.getElem?_append_right (by omega), show m1.length + 1 + i - m1.length = i + 1 by omega, List.getElem?_cons_succ, List.getElem?_append_left h]
theorem set_mid {m1 m2 As : List Blk} {B X : Blk} {i : Nat} (h : i < As.length) : (m1 ++ B :: (As ++ m2)).set (m1.length + 1 + i) X = m1 ++ B :: (As.set i X ++ m2) := by
  rw [List.set_append_right _ _ (by omega), show m1.length + 1 + i - m1.length = i + 1 by omega, List.set_cons_succ, List.set_append_left _ _ h]
theorem markInstSG_c (m1 m2 : List Blk) (b : Nat) (xs : List Ins) (cells : List C) (As : List Blk) (q : Int) (cx : Cx) (mem : List Blk) (w : World) (hpre : mem = m1 ++ (⟨b, cells, 49⟩ :: As ++ m2) ∧ KM xs cells As ∧ List.length xs ≤ 1048576 ∧ (∀ x ∈ xs, x.args.length ≤ 1048576) ∧ 0 ≤ q ∧ q ≤ 1048576) (hm : MemRel cx mem w) :
    Calls Try.prog 11 (([.s (List.length m1) b 0 (List.length xs) (List.length xs), .v (.int .i64 q)] : List C).map den).toArray w fun e w' => ∃ cx' c mem', e = .returned (den c) ∧ MemRel cx' mem' w' ∧ cx' = cx ∧ ∃ (q' : Int) (cells' : List C) (As' : List Blk), c = .v (.int .i64 q') ∧ 0 ≤ q' ∧ KM xs cells' As' ∧ mem' = m1 ++ (⟨b, cells', 49⟩ :: As' ++ m2) := by
  refine step_of_vcs ⟨[markArgsV], []⟩ hmx Try.func11 rfl (by kernel_rfl) (args := [.s (List.length m1) b 0 (List.length xs) (List.length xs), .v (.int .i64 q)]) (by simp [Try.ntmps11]) hm (fun cx' c mem' => cx' = cx ∧ ∃ (q' : Int) (cells' : List C) (As' : List Blk), c = .v (.int .i64 q') ∧ 0 ≤ q' ∧ KM xs cells' As' ∧ mem' = m1 ++ (⟨b, cells', 49⟩ :: As' ++ m2)) 400 ?_
  obtain ⟨rfl, hK, hl, hxa, hq0, hq1⟩ := hpre
  simp (maxSteps := 4000000) -dsimp [-Y1, -Array.all_eq_true, -Y3, -Y4, and_assoc, Y5, Try.f11, markArgsV, Con.gen]
  refine loop_inv (σ := ⟨[markArgsV], []⟩) hmx (by kernel_rfl) (fun m cx' tm mem' => cx' = cx ∧ ∃ (i : Nat) (q' : Int) (cs : List C) (Bs : List Blk), i ≤ xs.length ∧ m = xs.length - i ∧ 0 ≤ q' ∧ q' ≤ q + 4000000 * i ∧ KM xs cs Bs ∧ mem' = m1 ++ ⟨b, cs, 49⟩ :: (Bs ++ m2) ∧ Sx.look tm 5 = .v (.int .i64 i) ∧ Sx.look tm 1 = .v (.int .i64 q') ∧ Sx.look tm 0 = .s m1.length b 0 xs.length xs.length)
    xs.length ⟨rfl, 0, q, cells, As, by omega, rfl, hq0, by omega, hK, rfl, by simp [Sx.look], by simp [Sx.look], by simp [Sx.look]⟩ ?_
  rintro m cx' tm mem' ⟨rfl, i, q', cs, Bs, hi, rfl, hp0, hp1, hB, rfl, h5, h1, h0⟩
  refine ⟨400, ?_⟩
  by_cases hlt : i < xs.length
  · obtain ⟨x, hx⟩ : ∃ x, xs[i]? = some x := ⟨xs[i], by simp [hlt]⟩
    have hax := hxa x (List.mem_of_getElem? hx)
    have hcl := hB.len
    have hbl := hB.al
    have w1 : IntKind.i64.wrap (q' + 1) = q' + 1 := wrap_i64 (by omega) (by omega)
    have w2 : IntKind.i64.wrap (q' + 1 + 1) = q' + 1 + 1 := wrap_i64 (by omega) (by omega)
    have hB2 := (hB.set (j := i * 3) (c := .v (.int .i64 q')) (by omega)).set (j := i * 3 + 1) (c := .v (.int .i64 (q' + 1))) (by omega)
    obtain ⟨a, cs2, k1, k2, k3⟩ := hB2.at' i x hx
    have k1' := (List.getElem?_eq_some_iff.1 k1).2
    have b1 : i * 3 < xs.length * 3 := by omega
    have b2 : i * 3 + 1 < xs.length * 3 := by omega
    have b3 : i * 3 + 2 < xs.length * 3 := by omega
    simp (maxSteps := 4000000) -dsimp [-Y1, -Array.all_eq_true, -Y3, -Y4, and_assoc, Y5, Try.f11, markArgsV, Con.gen, h5, h1, h0, hlt, hcl, w1, w2, b1, b2, b3, k1, k1', List.getElem?_append, List.set_append, List.getElem_append]
    refine ⟨by omega, by omega, markArgsV_at (k := m1.length + 1 + i) ⟨by rw [get_mid (by omega)]; exact k2, k3, hax, by omega, by omega⟩ ?_⟩
    intro cs3 k4
    rw [set_mid (by omega)]
    have hB3 := hB2.setA k2 (by omega : cs3.length = cs2.length)
    simp (maxSteps := 4000000) -dsimp [-Y1, -Array.all_eq_true, -Y3, -Y4, and_assoc, Y5, Try.f11, markArgsV, Con.gen, h5, h1, h0, i_succ (i := i) (by omega)]
    exact ⟨m1.length + (Bs.length + m2.length + 1), xs.length - (i + 1), by omega, i + 1, by omega, rfl, _, by omega, by omega, _, _, hB3, List.take_of_length_le (by simp), by omega, rfl⟩
  · obtain rfl : i = xs.length := by omega
    simp (maxSteps := 4000000) -dsimp [-Y1, -Array.all_eq_true, -Y3, -Y4, and_assoc, Y5, Try.f11, markArgsV, Con.gen, h5, h1, h0, hlt]
    exact EndK.all ⟨rfl, q', cs, Bs, rfl, hp0, hB, by simp⟩
def markInstSG_S : Gens Try.prog 11 where
  ι := ((List Blk) × (List Blk) × (Nat) × (List Ins) × (List C) × (List Blk) × (Int))
  A := fun (i : ((List Blk) × (List Blk) × (Nat) × (List Ins) × (List C) × (List Blk) × (Int))) => match i with | (m1, m2, b, xs, cells, As, q) => [.s (List.length m1) b 0 (List.length xs) (List.length xs), .v (.int .i64 q)]
  pre := fun (i : ((List Blk) × (List Blk) × (Nat) × (List Ins) × (List C) × (List Blk) × (Int))) (cx : Cx) (mem : List Blk) => match i with | (m1, m2, b, xs, cells, As, q) => mem = m1 ++ (⟨b, cells, 49⟩ :: As ++ m2) ∧ KM xs cells As ∧ List.length xs ≤ 1048576 ∧ (∀ x ∈ xs, x.args.length ≤ 1048576) ∧ 0 ≤ q ∧ q ≤ 1048576
  post := fun (i : ((List Blk) × (List Blk) × (Nat) × (List Ins) × (List C) × (List Blk) × (Int))) (cx : Cx) (mem : List Blk) (cx' : Cx) (c : C) (mem' : List Blk) => match i with | (m1, m2, b, xs, cells, As, q) => cx' = cx ∧ ∃ (q' : Int) (cells' : List C) (As' : List Blk), c = .v (.int .i64 q') ∧ 0 ≤ q' ∧ KM xs cells' As' ∧ mem' = m1 ++ (⟨b, cells', 49⟩ :: As' ++ m2)
  enter := Try.call11
  h := fun i cx mem w hp hm => markInstSG_c i.1 i.2.1 i.2.2.1 i.2.2.2.1 i.2.2.2.2.1 i.2.2.2.2.2.1 i.2.2.2.2.2.2 cx mem w hp hm
end Go.Proofs.Ytnnpmopnnamakaa
