/-
  Contracts: marks laid into rows of instructions in known blocks, and found there again.
-/
import Derived.Test.YtnnpmopnnamakaaJaw1
import Derived.Test.YtnnpmopnnamakaaIlw1
set_option linter.unusedVariables false
set_option linter.unusedSimpArgs false
set_option maxRecDepth 100000
set_option maxHeartbeats 4000000
namespace Go.Proofs.Ytnnpmopnnamakaa
open Go Go.Sx
open List renaming all_eq_true → Y1, zipIdx → Y5
open Bool renaming exists_bool → Y3, forall_bool → Y4
attribute [local simp] Sx.vcsE1 Sx.vcsE2 Sx.vcsE3 Sx.vcsE4 Sx.vcsE5 Sx.vcsE6 Sx.vcsE7 Sx.vcsE8 Sx.vcsE9 Sx.vcsE10 Sx.vcsE11 Sx.vcsE12 Sx.vcsE13 Sx.vcsE14 Sx.vcsE15 Sx.vcsE16 Sx.vcsE17 Sx.vcsE18 Sx.vcsE19 Sx.get Sx.look Sx.put Sx.pureFn Sx.findOrd Sx.unF Sx.dstOk Sx.isFloatT Sx.endVC Sx.resFn Sx.packC Sx.newFn Sx.storeFn Sx.buildFn Sx.known Sx.aggT Sx.cellsC Sx.findCon Sx.allV Sx.partsV Sx.partsC Sx.fillL Sx.exitTo Sx.fAr Sx.eqFn Sx.eqFieldsFn Sx.eqElemsFn Sx.partFn Sx.sliceFn Sx.boundFn Sx.AppV Sx.CopyV Sx.MakeSliceV Sx.NewsV Sx.GrowV Sx.TextV Sx.bytesL Sx.notInt Sx.typeAt Sx.argAt Sx.den Go.undef Go.Value.cells Go.Value.oneCell' Sx.Con.pure Sx.Con.some Sx.Con.read Sx.Con.make Sx.Con.ext Sx.Con.rel Sx.Con.extS Sx.Con.draw Sx.Con.step Sx.C.one Sx.Draws.steps

theorem markDsP_c (k b n cp : Nat) (cells : List C) (q : Int) (cx : Cx) (mem : List Blk) (w : World) (hpre : mem[k]? = some ⟨b, cells, 54⟩ ∧ List.length cells = cp * 3 ∧ n ≤ cp ∧ n ≤ 1048576 ∧ 0 ≤ q ∧ q ≤ 4611686018427387904) (hm : MemRel cx mem w) :
    Calls Try.prog 23 (([.s k b 0 n cp, .v (.int .i64 q)] : List C).map den).toArray w fun e w' => ∃ cx' c mem', e = .returned (den c) ∧ MemRel cx' mem' w' ∧ cx' = cx ∧ c = .v (.int .i64 (q + 3 * n)) ∧ mem' = mem.set k ⟨b, DB (marksD q n) ++ List.drop (n * 3) cells, 54⟩ := by
  refine step_of_vcs ⟨[], []⟩ hmx Try.func23 rfl (by kernel_rfl) (args := [.s k b 0 n cp, .v (.int .i64 q)]) (by simp [Try.ntmps23]) hm (fun cx' c mem' => cx' = cx ∧ c = .v (.int .i64 (q + 3 * n)) ∧ mem' = mem.set k ⟨b, DB (marksD q n) ++ List.drop (n * 3) cells, 54⟩) 400 ?_
  obtain ⟨hk, hcl, hnc, hn, hq0, hq1⟩ := hpre
  have hkl := (List.getElem?_eq_some_iff.1 hk).1
  simp (maxSteps := 4000000) -dsimp [-Y1, -Array.all_eq_true, -Y3, -Y4, and_assoc, Y5, Try.f23, Con.gen]
  refine loop_inv (σ := ⟨[], []⟩) hmx (by kernel_rfl) (fun m cx' tm mem' => cx' = cx ∧ ∃ (i : Nat) (cs : List C), i ≤ n ∧ m = n - i ∧ cs = DB (marksD q i) ++ cells.drop (i * 3) ∧ mem' = mem.set k ⟨b, cs, 54⟩ ∧ Sx.look tm 5 = .v (.int .i64 i) ∧ Sx.look tm 1 = .v (.int .i64 (q + 3 * i)) ∧ Sx.look tm 0 = .s k b 0 n cp)
    n ⟨rfl, 0, cells, by omega, rfl, by simp [marksD, DB, encDs], by rw [← (List.getElem?_eq_some_iff.1 hk).2]; exact (List.set_getElem_self hkl).symm, by simp [Sx.look], by simp [Sx.look], by simp [Sx.look]⟩ ?_
  rintro m cx' tm mem' ⟨rfl, i, cs, hi, rfl, hcs, rfl, h5, h1, h0⟩
  refine ⟨400, ?_⟩
  by_cases hlt : i < n
  · have hM := DB_mark (q := q) (i := i) (cells := cells) (by omega)
    rw [← hcs] at hM
    have hcl2 : cs.length = cp * 3 := by rw [hcs, List.length_append, DB_len, marksD_len, List.length_drop, hcl]; omega
    have w1 : IntKind.i64.wrap (q + 3 * (i : Int) + 1) = q + 3 * (i : Int) + 1 := wrap_i64 (by omega) (by omega)
    have w2 : IntKind.i64.wrap (q + 3 * (i : Int) + 1 + 1) = q + 3 * (i : Int) + 1 + 1 := wrap_i64 (by omega) (by omega)
    have w3 : IntKind.i64.wrap (q + 3 * (i : Int) + 1 + 1 + 1) = q + 3 * (i : Int) + 1 + 1 + 1 := wrap_i64 (by omega) (by omega)
    have b1 : i * 3 < cp * 3 := by omega
    have b2 : i * 3 + 1 < cp * 3 := by omega
    have b3 : i * 3 + 2 < cp * 3 := by omega
    simp (maxSteps := 4000000) -dsimp [-Y1, -Array.all_eq_true, -Y3, -Y4, and_assoc, Y5, Try.f23, Con.gen, h5, h1, h0, hlt, hkl, hcl2, w1, w2, w3, b1, b2, b3, List.getElem?_set, List.getElem_set, i_succ (i := i) (by omega)]
    exact ⟨by omega, by omega, by omega, mem.length, n - (i + 1), by omega, i + 1, by omega, rfl, by rw [hM]; exact List.take_of_length_le (by simp), by omega, by omega⟩
  · obtain rfl : i = n := by omega
    simp (maxSteps := 4000000) -dsimp [-Y1, -Array.all_eq_true, -Y3, -Y4, and_assoc, Y5, Try.f23, Con.gen, h5, h1, h0]
    rw [hcs]
    exact EndK.all ⟨rfl, rfl, rfl⟩
def markDsP_S : Gens Try.prog 23 where
  ι := ((Nat) × (Nat) × (Nat) × (Nat) × (List C) × (Int))
  A := fun (i : ((Nat) × (Nat) × (Nat) × (Nat) × (List C) × (Int))) => match i with | (k, b, n, cp, cells, q) => [.s k b 0 n cp, .v (.int .i64 q)]
  pre := fun (i : ((Nat) × (Nat) × (Nat) × (Nat) × (List C) × (Int))) (cx : Cx) (mem : List Blk) => match i with | (k, b, n, cp, cells, q) => mem[k]? = some ⟨b, cells, 54⟩ ∧ List.length cells = cp * 3 ∧ n ≤ cp ∧ n ≤ 1048576 ∧ 0 ≤ q ∧ q ≤ 4611686018427387904
  post := fun (i : ((Nat) × (Nat) × (Nat) × (Nat) × (List C) × (Int))) (cx : Cx) (mem : List Blk) (cx' : Cx) (c : C) (mem' : List Blk) => match i with | (k, b, n, cp, cells, q) => cx' = cx ∧ c = .v (.int .i64 (q + 3 * n)) ∧ mem' = mem.set k ⟨b, DB (marksD q n) ++ List.drop (n * 3) cells, 54⟩
  enter := Try.call23
  h := fun i cx mem w hp hm => markDsP_c i.1 i.2.1 i.2.2.1 i.2.2.2.1 i.2.2.2.2.1 i.2.2.2.2.2 cx mem w hp hm
def markDsV_S : Gens Try.prog 23 where
  ι := Nat × Nat × Nat × Nat × List C × Int
  A i := [.v (.slice (some ⟨i.2.1, 0, none⟩) i.2.2.1 i.2.2.2.1), .v (.int .i64 i.2.2.2.2.2)]
  pre i cx mem := markDsP_S.pre i cx mem
  post i cx mem cx' c mem' := markDsP_S.post i cx mem cx' c mem'
  enter := markDsP_S.enter
  h := fun (k, b, n, cp, cells, q) cx mem w hp hm => markDsP_S.h (k, b, n, cp, cells, q) cx mem w hp hm
theorem markDsN_c (q : Int) (cx : Cx) (mem : List Blk) (w : World) (hpre : 0 ≤ q) (hm : MemRel cx mem w) :
    Calls Try.prog 23 (([.v (.slice none 0 0), .v (.int .i64 q)] : List C).map den).toArray w fun e w' => ∃ cx' c mem', e = .returned (den c) ∧ MemRel cx' mem' w' ∧ cx' = cx ∧ c = .v (.int .i64 q) ∧ mem' = mem := by
  refine step_of_vcs ⟨[], []⟩ hmx Try.func23 rfl (by kernel_rfl) (args := [.v (.slice none 0 0), .v (.int .i64 q)]) (by simp [Try.ntmps23]) hm (fun cx' c mem' => cx' = cx ∧ c = .v (.int .i64 q) ∧ mem' = mem) 200 ?_
  simp (maxSteps := 4000000) -dsimp [-Y1, -Array.all_eq_true, -Y3, -Y4, and_assoc, Y5, Try.f23, Con.gen]
  refine loop_unroll (σ := ⟨[], []⟩) (n := 200) hmx (by kernel_rfl) ?_
  simp (maxSteps := 4000000) -dsimp [-Y1, -Array.all_eq_true, -Y3, -Y4, and_assoc, Y5, Try.f23, Con.gen]
  exact EndK.all ⟨rfl, rfl, rfl⟩
def markDsN_S : Gens Try.prog 23 where
  ι := ((Int))
  A := fun (q : ((Int))) => [.v (.slice none 0 0), .v (.int .i64 q)]
  pre := fun (q : ((Int))) (cx : Cx) (mem : List Blk) => 0 ≤ q
  post := fun (q : ((Int))) (cx : Cx) (mem : List Blk) (cx' : Cx) (c : C) (mem' : List Blk) => cx' = cx ∧ c = .v (.int .i64 q) ∧ mem' = mem
  enter := Try.call23
  h := fun q cx mem w hp hm => markDsN_c q cx mem w hp hm
theorem markDsN_at {q : Int} {d : Nat} {cx : Cx} {mem : List Blk} {K : Cx → C → List Blk → Prop} (hpre : 0 ≤ q) (h : ∀ cx' c mem', (cx' = cx ∧ c = .v (.int .i64 q) ∧ mem' = mem) → K cx' c mem') : GenV d markDsN_S cx [.v (.slice none 0 0), .v (.int .i64 q)] mem K := ⟨q, rfl, hpre, h⟩
def markDsU : Con Try.prog := Con.gen (gensSum markDsV_S markDsN_S)
theorem markDsV_at {k b n cp : Nat} {cells : List C} {q : Int} {d : Nat} {cx : Cx} {mem : List Blk} {K : Cx → C → List Blk → Prop} (hpre : mem[k]? = some ⟨b, cells, 54⟩ ∧ List.length cells = cp * 3 ∧ n ≤ cp ∧ n ≤ 1048576 ∧ 0 ≤ q ∧ q ≤ 4611686018427387904)
    (h : K cx (.v (.int .i64 (q + 3 * n))) (mem.set k ⟨b, DB (marksD q n) ++ cells.drop (n * 3), 54⟩)) : GenV d (gensSum markDsV_S markDsN_S) cx [.v (.slice (some ⟨b, 0, none⟩) n cp), .v (.int .i64 q)] mem K :=
  gensSum_l ⟨(k, b, n, cp, cells, q), rfl, hpre, by rintro _ _ _ ⟨rfl, rfl, rfl⟩; exact h⟩
theorem heldDsC_c (o : Option Addr) (cap n : Nat) (q : Int) (w : World) (hpre : RdD (factF ⟨w, [], w, []⟩) o (marksD q n) ∧ n ≤ 1048576 ∧ 0 ≤ q ∧ q ≤ 1048576) : Calls Try.prog 35 #[.slice o n cap, .int .i64 q] w fun e w' => ∃ v, e = .returned v ∧ (fun v => v = .int .i64 (q + 3 * n)) v ∧ RowKit.Below w.heap.size w w' := by
  refine plain_of_vcs ⟨[], []⟩ hmx Try.func35 rfl (by kernel_rfl) (args := [.slice o n cap, .int .i64 q]) (by simp [Try.ntmps35]) w (fun v => v = .int .i64 (q + 3 * n)) 400 ?_
  obtain ⟨h, hn, hq0, hq1⟩ := hpre
  simp (maxSteps := 4000000) -dsimp [-Y1, -Array.all_eq_true, -Y3, -Y4, and_assoc, Y5, Try.f35]
  refine loop_inv (σ := ⟨[], []⟩) hmx (by kernel_rfl) (fun m cx tm mem => cx = ⟨w, [], w, []⟩ ∧ mem = [] ∧ ∃ i : Nat, i ≤ n ∧ m = n - i ∧ Sx.look tm 5 = .v (.int .i64 i) ∧ Sx.look tm 1 = .v (.int .i64 (q + 3 * i)) ∧ Sx.look tm 0 = .v (.slice o n cap))
    n ⟨rfl, rfl, 0, by omega, rfl, by simp [Sx.look], by simp [Sx.look], by simp [Sx.look]⟩ ?_
  rintro m cx tm mem ⟨rfl, rfl, i, hi, rfl, h5, h1, h0⟩
  refine ⟨400, ?_⟩
  by_cases hlt : i < n
  · have w1 : IntKind.i64.wrap (q + 3 * (i : Int) + 1) = q + 3 * (i : Int) + 1 := wrap_i64 (by omega) (by omega)
    have w2 : IntKind.i64.wrap (q + 3 * (i : Int) + 1 + 1) = q + 3 * (i : Int) + 1 + 1 := wrap_i64 (by omega) (by omega)
    have w3 : IntKind.i64.wrap (q + 3 * (i : Int) + 1 + 1 + 1) = q + 3 * (i : Int) + 1 + 1 + 1 := wrap_i64 (by omega) (by omega)
    have hth : o.isSome = true := by
      obtain ⟨_, a, rfl, _⟩ := h i _ (marksD_at hlt)
      rfl
    have l0 := fun (d : Nat) (mem : List Blk) (K : Value → Prop) => RdO.ld_zero (P := Try.prog) (d := d) (K := K) (RdO.mono h (sub_now ⟨w, [], w, []⟩ mem)) (t := 3) (by kernel_rfl) (marksD_at hlt) rfl
    have l1 := fun (d : Nat) (mem : List Blk) (K : Value → Prop) => RdO.ld_one (P := Try.prog) (d := d) (K := K) (RdO.mono h (sub_now ⟨w, [], w, []⟩ mem)) (t := 3) (by kernel_rfl) (marksD_at hlt) (j := 1) rfl
    have l2 := fun (d : Nat) (mem : List Blk) (K : Value → Prop) => RdO.ld_one (P := Try.prog) (d := d) (K := K) (RdO.mono h (sub_now ⟨w, [], w, []⟩ mem)) (t := 3) (by kernel_rfl) (marksD_at hlt) (j := 2) rfl
    simp (maxSteps := 4000000) -dsimp [-Y1, -Array.all_eq_true, -Y3, -Y4, and_assoc, Y5, Try.f35, h5, h1, h0, hlt, hth, l0, l1, l2, w1, w2, w3, i_succ (i := i) (by omega)]
    exact ⟨n - (i + 1), by omega, i + 1, by omega, rfl, by omega, by omega⟩
  · obtain rfl : i = n := by omega
    simp (maxSteps := 4000000) -dsimp [-Y1, -Array.all_eq_true, -Y3, -Y4, and_assoc, Y5, Try.f35, h5, h1, h0]
def heldDsC_S : Rels Try.prog 35 where
  ι := ((Option Addr) × (Nat) × (Nat) × (Int))
  A := fun (i : ((Option Addr) × (Nat) × (Nat) × (Int))) => match i with | (o, cap, n, q) => [.slice o n cap, .int .i64 q]
  pre := fun (i : ((Option Addr) × (Nat) × (Nat) × (Int))) (F : Facts) => match i with | (o, cap, n, q) => RdD F o (marksD q n) ∧ n ≤ 1048576 ∧ 0 ≤ q ∧ q ≤ 1048576
  post := fun (i : ((Option Addr) × (Nat) × (Nat) × (Int))) => match i with | (o, cap, n, q) => fun v => v = .int .i64 (q + 3 * n)
  mono := by
    intro i F G hs h
    first | exact h | exact h.mono hs | exact ⟨h.1.mono hs, h.2⟩ | exact ⟨h.1.mono hs, h.2.1.mono hs, h.2.2⟩ | exact ⟨h.1.mono hs, h.2.1.mono hs⟩ | exact ⟨h.1.mono hs, h.2.1.mono hs, h.2.2.1.mono hs, h.2.2.2⟩
  enter := Try.call35
  h := fun i w hp => heldDsC_c i.1 i.2.1 i.2.2.1 i.2.2.2 w (by rw [factF_init]; exact hp)
def heldDsC : Con Try.prog := Con.rel heldDsC_S
theorem markInP_c (m1 As m2 : List Blk) (b n cp : Nat) (cells : List C) (J : Nat → Option Nat) (xs : List Ins) (q : Int) (cx : Cx) (mem : List Blk) (w : World) (hpre : mem = m1 ++ (⟨b, cells, 49⟩ :: (As ++ m2)) ∧ KX 54 xs cells As J ∧ (n = List.length xs ∧ List.length cells = cp * 3 ∧ List.length xs ≤ 1000) ∧ (∀ x ∈ xs, List.length x.args ≤ 3) ∧ 0 ≤ q ∧ q ≤ 1000000) (hm : MemRel cx mem w) :
    Calls Try.prog 11 (([.s (List.length m1) b 0 n cp, .v (.int .i64 q)] : List C).map den).toArray w fun e w' => ∃ cx' c mem', e = .returned (den c) ∧ MemRel cx' mem' w' ∧ cx' = cx ∧ c = .v (.int .i64 (endM q xs)) ∧ ∃ cells' As', KX 54 (markN q xs) cells' As' J ∧ List.length cells' = List.length cells ∧ mem' = m1 ++ (⟨b, cells', 49⟩ :: (As' ++ m2)) := by
  refine step_of_vcs ⟨[markDsU], []⟩ hmx Try.func11 rfl (by kernel_rfl) (args := [.s (List.length m1) b 0 n cp, .v (.int .i64 q)]) (by simp [Try.ntmps11]) hm (fun cx' c mem' => cx' = cx ∧ c = .v (.int .i64 (endM q xs)) ∧ ∃ cells' As', KX 54 (markN q xs) cells' As' J ∧ List.length cells' = List.length cells ∧ mem' = m1 ++ (⟨b, cells', 49⟩ :: (As' ++ m2))) 500 ?_
  obtain ⟨rfl, hK, ⟨rfl, hcl, hxl⟩, hxa, hq0, hq1⟩ := hpre
  have hkl := hK.len
  have hbd := fun i => endM_bd q (xs.take i) fun y hy => hxa y (List.mem_of_mem_take hy)
  simp (maxSteps := 4000000) -dsimp [-Y1, -Array.all_eq_true, -Y3, -Y4, and_assoc, Y5, Try.f11, markDsU, Con.gen]
  refine loop_inv (σ := ⟨[markDsU], []⟩) hmx (by kernel_rfl) (fun m cx' tm mem' => cx' = cx ∧ ∃ i : Nat, i ≤ xs.length ∧ m = xs.length - i ∧ ∃ ys : List Ins, MarkedTo q xs i ys ∧ ∃ (cs : List C) (Bs : List Blk), KX 54 ys cs Bs J ∧ cs.length = cp * 3 ∧ mem' = m1 ++ (⟨b, cs, 49⟩ :: (Bs ++ m2)) ∧ Sx.look tm 5 = .v (.int .i64 i) ∧ Sx.look tm 1 = .v (.int .i64 (endM q (xs.take i))) ∧ Sx.look tm 0 = .s m1.length b 0 xs.length cp)
    xs.length ⟨rfl, 0, by omega, rfl, xs, MarkedTo.zero _ _, cells, As, hK, hcl, rfl, by simp [Sx.look], by simp [Sx.look, endM], by simp [Sx.look]⟩ ?_
  rintro m cx' tm mem' ⟨rfl, i, hi, rfl, ys, hM, cs, Bs, hY, hcs, rfl, h5, h1, h0⟩
  refine ⟨500, ?_⟩
  by_cases hlt : i < xs.length
  · obtain ⟨x, hx⟩ : ∃ x, xs[i]? = some x := ⟨xs[i], by simp [hlt]⟩
    have hy := hM.2 i x hx
    rw [if_neg (Nat.lt_irrefl i)] at hy
    have hxal := hxa x (List.mem_of_getElem? hx)
    have hM' := hM.step hx
    have hst := endM_step (q := q) hx
    obtain ⟨g1, g2, g3⟩ := hY.at' i x hy
    obtain ⟨hq2, hq3⟩ := hbd i
    have htl : (xs.take i).length = i := by rw [List.length_take]; omega
    rw [htl] at hq3
    generalize endM q (xs.take i) = p at *
    have w1 : IntKind.i64.wrap (p + 1) = p + 1 := wrap_i64 (by omega) (by omega)
    have w2 : IntKind.i64.wrap (p + 1 + 1) = p + 1 + 1 := wrap_i64 (by omega) (by omega)
    have b1 : i * 3 < cp * 3 := by omega
    have b2 : i * 3 + 1 < cp * 3 := by omega
    have b3 : i * 3 + 2 < cp * 3 := by omega
    have hne : ¬ i * 3 = i * 3 + 1 + 1 := by omega
    rcases g3 with ⟨k0, k1, k2⟩ | ⟨j, bo, co, po, k1, k2, k3, k4, k5, k6⟩
    · have k1e : ∀ h : i * 3 + 2 < cs.length, cs[i * 3 + 2]'h = .v (.slice none 0 0) := fun h => (List.getElem?_eq_some_iff.1 k1).2
      have hnew := hY.bare hy k0 k2 p (p + 1) k1
      simp (maxSteps := 4000000) -dsimp [-Y1, -Array.all_eq_true, -Y3, -Y4, and_assoc, Y5, Try.f11, markDsU, Con.gen, h5, h1, h0, hlt, hcs, w1, w2, b1, b2, b3, k1, k1e, hne, List.getElem?_append, List.set_append, List.getElem?_set, List.getElem_set, i_succ (i := i) (by omega)]
      refine ⟨by omega, by omega, gensSum_r (markDsN_at (by omega) ?_)⟩
      rintro _ _ _ ⟨rfl, rfl, rfl⟩
      have hst' : endM q (xs.take (i + 1)) = p + 1 + 1 := by rw [hst]; unfold nextM; rw [k0]; simp
      have hmk : markI p x = ⟨p, p + 1, []⟩ := by unfold markI; rw [k0]; rfl
      rw [hmk] at hM'
      simp (maxSteps := 4000000) -dsimp [-Y1, -Array.all_eq_true, -Y3, -Y4, and_assoc, Y5, Try.f11, markDsU, Con.gen, h5, h1, h0, hlt, hcs, w1, w2, i_succ (i := i) (by omega)]
      exact ⟨_, xs.length - (i + 1), by omega, i + 1, by omega, rfl, _, hM', _, _, hnew, by simpa using hcs, List.take_of_length_le (Nat.le_refl _), by omega, hst'.symm⟩
    · have k1e : ∀ h : i * 3 + 2 < cs.length, cs[i * 3 + 2]'h = .v (.slice (some ⟨bo, 0, none⟩) x.args.length co) := fun h => (List.getElem?_eq_some_iff.1 k1).2
      have hnew := hY.full hy k1 k2 k3 k4 k5 k6 p (p + 1) (marksD_len (p + 1 + 1) x.args.length)
      simp (maxSteps := 4000000) -dsimp [-Y1, -Array.all_eq_true, -Y3, -Y4, and_assoc, Y5, Try.f11, markDsU, Con.gen, h5, h1, h0, hlt, hcs, w1, w2, b1, b2, b3, k1, k1e, hne, List.getElem?_append, List.set_append, List.getElem?_set, List.getElem_set, i_succ (i := i) (by omega)]
      refine ⟨by omega, by omega, markDsV_at (k := m1.length + (j + 1)) ⟨mid_get k3, by rw [List.length_append, DB_len]; omega, k4, by omega, by omega, by omega⟩ ?_⟩
      rw [mid_set (List.getElem?_eq_some_iff.1 k3).1, ← DB_len x.args, List.drop_left]
      have hst' : endM q (xs.take (i + 1)) = p + 1 + 1 + 3 * (x.args.length : Int) := by rw [hst]; rfl
      have hmk : markI p x = ⟨p, p + 1, marksD (p + 1 + 1) x.args.length⟩ := rfl
      rw [hmk] at hM'
      generalize hds : marksD (p + 1 + 1) x.args.length = ds at *
      simp (maxSteps := 4000000) -dsimp [-Y1, -Array.all_eq_true, -Y3, -Y4, and_assoc, Y5, Try.f11, markDsU, Con.gen, h5, h1, h0, hlt, hcs, w1, w2, i_succ (i := i) (by omega)]
      exact ⟨_, xs.length - (i + 1), by omega, i + 1, by omega, rfl, _, hM', _, _, hnew, by simpa using hcs, List.take_of_length_le (Nat.le_refl _), by omega, hst'.symm⟩
  · obtain rfl : i = xs.length := by omega
    rw [List.take_length] at h1
    obtain rfl := hM.fin
    simp (maxSteps := 4000000) -dsimp [-Y1, -Array.all_eq_true, -Y3, -Y4, and_assoc, Y5, Try.f11, markDsU, Con.gen, h5, h1, h0]
    exact EndK.all ⟨rfl, rfl, cs, Bs, hY, by omega, rfl⟩
def markInP_S : Gens Try.prog 11 where
  ι := ((List Blk) × (List Blk) × (List Blk) × (Nat) × (Nat) × (Nat) × (List C) × (Nat → Option Nat) × (List Ins) × (Int))
  A := fun (i : ((List Blk) × (List Blk) × (List Blk) × (Nat) × (Nat) × (Nat) × (List C) × (Nat → Option Nat) × (List Ins) × (Int))) => match i with | (m1, As, m2, b, n, cp, cells, J, xs, q) => [.s (List.length m1) b 0 n cp, .v (.int .i64 q)]
  pre := fun (i : ((List Blk) × (List Blk) × (List Blk) × (Nat) × (Nat) × (Nat) × (List C) × (Nat → Option Nat) × (List Ins) × (Int))) (cx : Cx) (mem : List Blk) => match i with | (m1, As, m2, b, n, cp, cells, J, xs, q) => mem = m1 ++ (⟨b, cells, 49⟩ :: (As ++ m2)) ∧ KX 54 xs cells As J ∧ (n = List.length xs ∧ List.length cells = cp * 3 ∧ List.length xs ≤ 1000) ∧ (∀ x ∈ xs, List.length x.args ≤ 3) ∧ 0 ≤ q ∧ q ≤ 1000000
  post := fun (i : ((List Blk) × (List Blk) × (List Blk) × (Nat) × (Nat) × (Nat) × (List C) × (Nat → Option Nat) × (List Ins) × (Int))) (cx : Cx) (mem : List Blk) (cx' : Cx) (c : C) (mem' : List Blk) => match i with | (m1, As, m2, b, n, cp, cells, J, xs, q) => cx' = cx ∧ c = .v (.int .i64 (endM q xs)) ∧ ∃ cells' As', KX 54 (markN q xs) cells' As' J ∧ List.length cells' = List.length cells ∧ mem' = m1 ++ (⟨b, cells', 49⟩ :: (As' ++ m2))
  enter := Try.call11
  h := fun i cx mem w hp hm => markInP_c i.1 i.2.1 i.2.2.1 i.2.2.2.1 i.2.2.2.2.1 i.2.2.2.2.2.1 i.2.2.2.2.2.2.1 i.2.2.2.2.2.2.2.1 i.2.2.2.2.2.2.2.2.1 i.2.2.2.2.2.2.2.2.2 cx mem w hp hm
theorem heldInC_c (o : Option Addr) (cap : Nat) (xs : List Ins) (q : Int) (w : World) (hpre : RdN (factF ⟨w, [], w, []⟩) o (markN q xs) ∧ (xs.length ≤ 1000 ∧ (∀ x ∈ xs, x.args.length ≤ 3) ∧ 0 ≤ q ∧ q ≤ 1000000)) : Calls Try.prog 24 #[.slice o xs.length cap, .int .i64 q] w fun e w' => ∃ v, e = .returned v ∧ (fun v => v = .int .i64 (endM q xs)) v ∧ RowKit.Below w.heap.size w w' := by
  refine plain_of_vcs ⟨[heldDsC], []⟩ hmx Try.func24 rfl (by kernel_rfl) (args := [.slice o xs.length cap, .int .i64 q]) (by simp [Try.ntmps24]) w (fun v => v = .int .i64 (endM q xs)) 500 ?_
  obtain ⟨h, hxl, hxa, hq0, hq1⟩ := hpre
  have hbd := fun i => endM_bd q (xs.take i) fun y hy => hxa y (List.mem_of_mem_take hy)
  have hml := markN_len q xs
  simp (maxSteps := 4000000) -dsimp [-Y1, -Array.all_eq_true, -Y3, -Y4, and_assoc, Y5, Try.f24, heldDsC]
  refine loop_inv (σ := ⟨[heldDsC], []⟩) hmx (by kernel_rfl) (fun m cx tm mem => cx = ⟨w, [], w, []⟩ ∧ mem = [] ∧ ∃ i : Nat, i ≤ xs.length ∧ m = xs.length - i ∧ Sx.look tm 5 = .v (.int .i64 i) ∧ Sx.look tm 1 = .v (.int .i64 (endM q (xs.take i))) ∧ Sx.look tm 0 = .v (.slice o xs.length cap))
    xs.length ⟨rfl, rfl, 0, by omega, rfl, by simp [Sx.look], by simp [Sx.look, endM], by simp [Sx.look]⟩ ?_
  rintro m cx tm mem ⟨rfl, rfl, i, hi, rfl, h5, h1, h0⟩
  refine ⟨500, ?_⟩
  by_cases hlt : i < xs.length
  · obtain ⟨x, hx⟩ : ∃ x, xs[i]? = some x := ⟨xs[i], by simp [hlt]⟩
    have hxal := hxa x (List.mem_of_getElem? hx)
    have hst := endM_step (q := q) hx
    obtain ⟨o', cap', hat⟩ := h.at (markN_at (q := q) hx)
    obtain ⟨hq2, hq3⟩ := hbd i
    have htl : (xs.take i).length = i := by rw [List.length_take]; omega
    rw [htl] at hq3
    generalize endM q (xs.take i) = p at *
    have hth := h.there (i := i) (by omega)
    have c1 : (markI p x).code = p := rfl
    have c2 : (markI p x).op = p + 1 := rfl
    have c3 : (markI p x).args.length = x.args.length := marksD_len _ _
    have w1 : IntKind.i64.wrap (p + 1) = p + 1 := wrap_i64 (by omega) (by omega)
    have w2 : IntKind.i64.wrap (p + 1 + 1) = p + 1 + 1 := wrap_i64 (by omega) (by omega)
    simp (maxSteps := 4000000) -dsimp [-Y1, -Array.all_eq_true, -Y3, -Y4, and_assoc, Y5, Try.f24, heldDsC, h5, h1, h0, hlt, hth, hat.code, hat.op, hat.sl, c1, c2, c3, w1, w2]
    refine ⟨(o', cap', x.args.length, p + 1 + 1), rfl, ⟨hat.args.mono (sub_now _ _), by omega, by omega, by omega⟩, ?_⟩
    rintro v rfl
    have hn : ¬ p + 1 + 1 + 3 * (x.args.length : Int) < 0 := by omega
    simp (maxSteps := 4000000) -dsimp [-Y1, -Array.all_eq_true, -Y3, -Y4, and_assoc, Y5, Try.f24, heldDsC, h5, h1, h0, hn, i_succ (i := i) (by omega)]
    exact ⟨xs.length - (i + 1), by omega, i + 1, by omega, rfl, by omega, hst.symm⟩
  · obtain rfl : i = xs.length := by omega
    rw [List.take_length] at h1
    simp (maxSteps := 4000000) -dsimp [-Y1, -Array.all_eq_true, -Y3, -Y4, and_assoc, Y5, Try.f24, heldDsC, h5, h1, h0]
def heldInC_S : Rels Try.prog 24 where
  ι := ((Option Addr) × (Nat) × (List Ins) × (Int))
  A := fun (i : ((Option Addr) × (Nat) × (List Ins) × (Int))) => match i with | (o, cap, xs, q) => [.slice o xs.length cap, .int .i64 q]
  pre := fun (i : ((Option Addr) × (Nat) × (List Ins) × (Int))) (F : Facts) => match i with | (o, cap, xs, q) => RdN F o (markN q xs) ∧ (xs.length ≤ 1000 ∧ (∀ x ∈ xs, x.args.length ≤ 3) ∧ 0 ≤ q ∧ q ≤ 1000000)
  post := fun (i : ((Option Addr) × (Nat) × (List Ins) × (Int))) => match i with | (o, cap, xs, q) => fun v => v = .int .i64 (endM q xs)
  mono := by
    intro i F G hs h
    first | exact h | exact h.mono hs | exact ⟨h.1.mono hs, h.2⟩ | exact ⟨h.1.mono hs, h.2.1.mono hs, h.2.2⟩ | exact ⟨h.1.mono hs, h.2.1.mono hs⟩ | exact ⟨h.1.mono hs, h.2.1.mono hs, h.2.2.1.mono hs, h.2.2.2⟩
  enter := Try.call24
  h := fun i w hp => heldInC_c i.1 i.2.1 i.2.2.1 i.2.2.2 w (by rw [factF_init]; exact hp)
def heldInC : Con Try.prog := Con.rel heldInC_S
def markInV_S : Gens Try.prog 11 where
  ι := List Blk × List Blk × List Blk × Nat × Nat × Nat × List C × (Nat → Option Nat) × List Ins × Int
  A i := [.v (.slice (some ⟨i.2.2.2.1, 0, none⟩) i.2.2.2.2.1 i.2.2.2.2.2.1), .v (.int .i64 i.2.2.2.2.2.2.2.2.2)]
  pre i cx mem := markInP_S.pre i cx mem
  post i cx mem cx' c mem' := markInP_S.post i cx mem cx' c mem'
  enter := markInP_S.enter
  h := fun (m1, As, m2, b, n, cp, cells, J, xs, q) cx mem w hp hm => markInP_S.h (m1, As, m2, b, n, cp, cells, J, xs, q) cx mem w hp hm
theorem markInN_c (q : Int) (cx : Cx) (mem : List Blk) (w : World) (hpre : 0 ≤ q) (hm : MemRel cx mem w) :
    Calls Try.prog 11 (([.v (.slice none 0 0), .v (.int .i64 q)] : List C).map den).toArray w fun e w' => ∃ cx' c mem', e = .returned (den c) ∧ MemRel cx' mem' w' ∧ cx' = cx ∧ c = .v (.int .i64 q) ∧ mem' = mem := by
  refine step_of_vcs ⟨[markDsU], []⟩ hmx Try.func11 rfl (by kernel_rfl) (args := [.v (.slice none 0 0), .v (.int .i64 q)]) (by simp [Try.ntmps11]) hm (fun cx' c mem' => cx' = cx ∧ c = .v (.int .i64 q) ∧ mem' = mem) 200 ?_
  simp (maxSteps := 4000000) -dsimp [-Y1, -Array.all_eq_true, -Y3, -Y4, and_assoc, Y5, Try.f11, markDsU, Con.gen]
  refine loop_unroll (σ := ⟨[markDsU], []⟩) (n := 200) hmx (by kernel_rfl) ?_
  simp (maxSteps := 4000000) -dsimp [-Y1, -Array.all_eq_true, -Y3, -Y4, and_assoc, Y5, Try.f11, markDsU, Con.gen]
  exact EndK.all ⟨rfl, rfl, rfl⟩
def markInN_S : Gens Try.prog 11 where
  ι := ((Int))
  A := fun (q : ((Int))) => [.v (.slice none 0 0), .v (.int .i64 q)]
  pre := fun (q : ((Int))) (cx : Cx) (mem : List Blk) => 0 ≤ q
  post := fun (q : ((Int))) (cx : Cx) (mem : List Blk) (cx' : Cx) (c : C) (mem' : List Blk) => cx' = cx ∧ c = .v (.int .i64 q) ∧ mem' = mem
  enter := Try.call11
  h := fun q cx mem w hp hm => markInN_c q cx mem w hp hm
def markInU : Con Try.prog := Con.gen (gensSum markInV_S markInN_S)
theorem markInV_at {m1 As m2 : List Blk} {b n cp : Nat} {cells : List C} {J : Nat → Option Nat} {xs : List Ins} {q : Int} {d : Nat} {cx : Cx} {mem : List Blk} {K : Cx → C → List Blk → Prop} (hmem : mem = m1 ++ (⟨b, cells, 49⟩ :: (As ++ m2))) (hK : KX 54 xs cells As J) (hn : n = List.length xs) (hcl : List.length cells = cp * 3) (hxl : List.length xs ≤ 1000) (hxa : ∀ x ∈ xs, List.length x.args ≤ 3) (hq : 0 ≤ q ∧ q ≤ 1000000)
    (h : ∀ cells' As', List.length cells' = List.length cells → KX 54 (markN q xs) cells' As' J → K cx (.v (.int .i64 (endM q xs))) (m1 ++ (⟨b, cells', 49⟩ :: (As' ++ m2)))) : GenV d (gensSum markInV_S markInN_S) cx [.v (.slice (some ⟨b, 0, none⟩) n cp), .v (.int .i64 q)] mem K :=
  gensSum_l ⟨(m1, As, m2, b, n, cp, cells, J, xs, q), rfl, ⟨hmem, hK, ⟨hn, hcl, hxl⟩, hxa, hq⟩, by rintro _ _ _ ⟨rfl, rfl, cs, Bs, h1, h2, rfl⟩; exact h cs Bs h2 h1⟩
end Go.Proofs.Ytnnpmopnnamakaa
