/-
  Contracts: marks laid into operands.
-/
import Derived.Test.YtclbanhoiaieaaaGreatDoorUgvb
set_option linter.unusedVariables false
set_option linter.unusedSimpArgs false
set_option maxRecDepth 100000
set_option maxHeartbeats 4000000
namespace Go.Sx
open Go
def gensSum {P : Program} {f : FuncId} (S T : Gens P f) : Gens P f where
  ι := S.ι ⊕ T.ι
  A := Sum.elim S.A T.A
  pre := Sum.elim S.pre T.pre
  post := Sum.elim S.post T.post
  enter := S.enter
  h := fun i cx mem w hp hm => match i, hp with
    | .inl i, hp => S.h i cx mem w hp hm
    | .inr j, hp => T.h j cx mem w hp hm
theorem gensSum_l {P : Program} {f : FuncId} {S T : Gens P f} {d : Nat} {cx : Cx} {args : List C} {mem : List Blk} {K : Cx → C → List Blk → Prop} (h : GenV d S cx args mem K) : GenV d (gensSum S T) cx args mem K := by
  obtain ⟨i, h1, h2, h3⟩ := h
  exact ⟨.inl i, h1, h2, h3⟩
theorem gensSum_r {P : Program} {f : FuncId} {S T : Gens P f} {d : Nat} {cx : Cx} {args : List C} {mem : List Blk} {K : Cx → C → List Blk → Prop} (h : GenV d T cx args mem K) : GenV d (gensSum S T) cx args mem K := by
  obtain ⟨i, h1, h2, h3⟩ := h
  exact ⟨.inr i, h1, h2, h3⟩
theorem arity_le3 (op : Int) : 0 ≤ arity op ∧ arity op ≤ 3 := by unfold arity; (repeat' split) <;> omega
def marksD (q : Int) (n : Nat) : List Dev := (List.range n).map fun (i : Nat) => ⟨q + 3 * (i : Int), q + 3 * (i : Int) + 1, q + 3 * (i : Int) + 1 + 1⟩
theorem marksD_len (q : Int) (n : Nat) : (marksD q n).length = n := by simp [marksD]
theorem marksD_succ (q : Int) (n : Nat) : marksD q (n + 1) = marksD q n ++ [⟨q + 3 * (n : Int), q + 3 * (n : Int) + 1, q + 3 * (n : Int) + 1 + 1⟩] := by
  simp [marksD, List.range_succ]
theorem marksD_at {q : Int} {n i : Nat} (h : i < n) : ((marksD q n).map encD)[i]? = some [.int .i64 (q + 3 * (i : Int)), .int .i64 (q + 3 * (i : Int) + 1), .int .i64 (q + 3 * (i : Int) + 1 + 1)] := by
  simp [marksD, h, encD]
theorem DB_mark {q : Int} {i : Nat} {cells : List C} (h : i * 3 + 3 ≤ cells.length) :
    (((DB (marksD q i) ++ cells.drop (i * 3)).set (i * 3) (.v (.int .i64 (q + 3 * (i : Int))))).set (i * 3 + 1) (.v (.int .i64 (q + 3 * (i : Int) + 1)))).set (i * 3 + 2) (.v (.int .i64 (q + 3 * (i : Int) + 1 + 1))) =
      DB (marksD q (i + 1)) ++ cells.drop ((i + 1) * 3) := by
  have hl : (DB (marksD q i)).length = i * 3 := by rw [DB_len, marksD_len]
  have e : cells.drop (i * 3) = cells[i * 3]'(by omega) :: cells[i * 3 + 1]'(by omega) :: cells[i * 3 + 2]'(by omega) :: cells.drop ((i + 1) * 3) := by
    rw [List.drop_eq_getElem_cons (by omega), List.drop_eq_getElem_cons (by omega), List.drop_eq_getElem_cons (by omega)]
    congr 4
    omega
  rw [e]
  generalize cells[i * 3]'(by omega) = x
  generalize cells[i * 3 + 1]'(by omega) = y
  generalize cells[i * 3 + 2]'(by omega) = z
  generalize cells.drop ((i + 1) * 3) = r
  rw [marksD_succ, ← DB_push]
  generalize DB (marksD q i) = a at *
  rw [← hl]
  simp [List.set_append]
end Go.Sx
namespace Go.Proofs.YtclbanhoiaieaaaGreatDoor
open Go Go.Sx
attribute [local simp] Sx.vcsE1 Sx.vcsE2 Sx.vcsE3 Sx.vcsE4 Sx.vcsE5 Sx.vcsE6 Sx.vcsE7 Sx.vcsE8 Sx.vcsE9 Sx.vcsE10 Sx.vcsE11 Sx.vcsE12 Sx.vcsE13 Sx.vcsE14 Sx.vcsE15 Sx.vcsE16 Sx.vcsE17 Sx.vcsE18 Sx.vcsE19 Sx.get Sx.look Sx.put Sx.pureFn Sx.findOrd Sx.unF Sx.dstOk Sx.isFloatT Sx.endVC Sx.resFn Sx.packC Sx.newFn Sx.storeFn Sx.buildFn Sx.known Sx.aggT Sx.cellsC Sx.findCon Sx.allV Sx.partsV Sx.partsC Sx.fillL Sx.exitTo Sx.fAr Sx.eqFn Sx.eqFieldsFn Sx.eqElemsFn Sx.partFn Sx.sliceFn Sx.boundFn Sx.AppV Sx.CopyV Sx.MakeSliceV Sx.NewsV Sx.GrowV Sx.TextV Sx.bytesL Sx.notInt Sx.typeAt Sx.argAt Sx.den Go.undef Go.Value.cells Go.Value.oneCell' Sx.Con.pure Sx.Con.some Sx.Con.read Sx.Con.make Sx.Con.ext Sx.Con.rel Sx.Con.extS Sx.Con.draw Sx.Con.step Sx.C.one Sx.Draws.steps

theorem markDsP_c (k b n cp : Nat) (cells : List C) (q : Int) (cx : Cx) (mem : List Blk) (w : World) (hpre : mem[k]? = some ⟨b, cells, 91⟩ ∧ List.length cells = cp * 3 ∧ n ≤ cp ∧ n ≤ 1048576 ∧ 0 ≤ q ∧ q ≤ 4611686018427387904) (hm : MemRel cx mem w) :
    Calls Tryz.prog 86 (([.s k b 0 n cp, .v (.int .i64 q)] : List C).map den).toArray w fun e w' => ∃ cx' c mem', e = .returned (den c) ∧ MemRel cx' mem' w' ∧ cx' = cx ∧ c = .v (.int .i64 (q + 3 * n)) ∧ mem' = mem.set k ⟨b, DB (marksD q n) ++ List.drop (n * 3) cells, 91⟩ := by
  refine step_of_vcs ⟨[], []⟩ hmx Tryz.func86 rfl (by kernel_rfl) (args := [.s k b 0 n cp, .v (.int .i64 q)]) (by simp [Tryz.ntmps86]) hm (fun cx' c mem' => cx' = cx ∧ c = .v (.int .i64 (q + 3 * n)) ∧ mem' = mem.set k ⟨b, DB (marksD q n) ++ List.drop (n * 3) cells, 91⟩) 400 ?_
  obtain ⟨hk, hcl, hnc, hn, hq0, hq1⟩ := hpre
  have hkl := (List.getElem?_eq_some_iff.1 hk).1
  simp (maxSteps := 4000000) -dsimp [-List.all_eq_true, -Array.all_eq_true, -Bool.exists_bool, -Bool.forall_bool, and_assoc, List.zipIdx, Tryz.f86, Con.gen]
  refine loop_inv (σ := ⟨[], []⟩) hmx (by kernel_rfl) (fun m cx' tm mem' => cx' = cx ∧ ∃ (i : Nat) (cs : List C), i ≤ n ∧ m = n - i ∧ cs = DB (marksD q i) ++ cells.drop (i * 3) ∧ mem' = mem.set k ⟨b, cs, 91⟩ ∧ Sx.look tm 5 = .v (.int .i64 i) ∧ Sx.look tm 1 = .v (.int .i64 (q + 3 * i)) ∧ Sx.look tm 0 = .s k b 0 n cp)
    n ⟨rfl, 0, cells, by omega, rfl, by simp [marksD, DB, encDs], by rw [← (List.getElem?_eq_some_iff.1 hk).2]; exact (List.set_getElem_self hkl).symm, by simp [Sx.look], by simp [Sx.look], by simp [Sx.look]⟩ ?_
  rintro m cx' tm mem' ⟨rfl, i, cs, hi, rfl, hcs, rfl, h5, h1, h0⟩
  refine ⟨400, ?_⟩
  by_cases hlt : i < n
  · have hM := DB_mark (q := q) (i := i) (cells := cells) (by omega)
    rw [← hcs] at hM
    have hcl2 : cs.length = cp * 3 := by rw [hcs, List.length_append, DB_len, marksD_len, List.length_drop, hcl]; omega
    have w1 : IntKind.i64.wrap (q + 3 * (i : Int) + 1) = q + 3 * (i : Int) + 1 := wrap_i64 (by omega) (by omega)
    have w2 : IntKind.i64.wrap (q + 3 * (i : Int) + 1 + 1) = q + 3 * (i : Int) + 1 + 1 := wrap_i64 (by omega) (by omega)
    have w3 : IntKind.i64.wrap (q + 3 * (i : Int) + 1 + 1 + 1) = q + 3 * (i : Int) + 1 + 1 + 1 := wrap_i64 (by omega) (by omega)
    have b1 : i * 3 < cp * 3 := by omega
    have b2 : i * 3 + 1 < cp * 3 := by omega
    have b3 : i * 3 + 2 < cp * 3 := by omega
    simp (maxSteps := 4000000) -dsimp [-List.all_eq_true, -Array.all_eq_true, -Bool.exists_bool, -Bool.forall_bool, and_assoc, List.zipIdx, Tryz.f86, Con.gen, h5, h1, h0, hlt, hkl, hcl2, w1, w2, w3, b1, b2, b3, List.getElem?_set, List.getElem_set, i_succ (i := i) (by omega)]
    exact ⟨by omega, by omega, by omega, mem.length, n - (i + 1), by omega, i + 1, by omega, rfl, by rw [hM]; exact List.take_of_length_le (by simp), by omega, by omega⟩
  · obtain rfl : i = n := by omega
    simp (maxSteps := 4000000) -dsimp [-List.all_eq_true, -Array.all_eq_true, -Bool.exists_bool, -Bool.forall_bool, and_assoc, List.zipIdx, Tryz.f86, Con.gen, h5, h1, h0]
    rw [hcs]
    exact EndK.all ⟨rfl, rfl, rfl⟩
def markDsP_S : Gens Tryz.prog 86 where
  ι := ((Nat) × (Nat) × (Nat) × (Nat) × (List C) × (Int))
  A := fun (i : ((Nat) × (Nat) × (Nat) × (Nat) × (List C) × (Int))) => match i with | (k, b, n, cp, cells, q) => [.s k b 0 n cp, .v (.int .i64 q)]
  pre := fun (i : ((Nat) × (Nat) × (Nat) × (Nat) × (List C) × (Int))) (cx : Cx) (mem : List Blk) => match i with | (k, b, n, cp, cells, q) => mem[k]? = some ⟨b, cells, 91⟩ ∧ List.length cells = cp * 3 ∧ n ≤ cp ∧ n ≤ 1048576 ∧ 0 ≤ q ∧ q ≤ 4611686018427387904
  post := fun (i : ((Nat) × (Nat) × (Nat) × (Nat) × (List C) × (Int))) (cx : Cx) (mem : List Blk) (cx' : Cx) (c : C) (mem' : List Blk) => match i with | (k, b, n, cp, cells, q) => cx' = cx ∧ c = .v (.int .i64 (q + 3 * n)) ∧ mem' = mem.set k ⟨b, DB (marksD q n) ++ List.drop (n * 3) cells, 91⟩
  enter := Tryz.call86
  h := fun i cx mem w hp hm => markDsP_c i.1 i.2.1 i.2.2.1 i.2.2.2.1 i.2.2.2.2.1 i.2.2.2.2.2 cx mem w hp hm
def markDsV_S : Gens Tryz.prog 86 where
  ι := Nat × Nat × Nat × Nat × List C × Int
  A i := [.v (.slice (some ⟨i.2.1, 0, none⟩) i.2.2.1 i.2.2.2.1), .v (.int .i64 i.2.2.2.2.2)]
  pre i cx mem := markDsP_S.pre i cx mem
  post i cx mem cx' c mem' := markDsP_S.post i cx mem cx' c mem'
  enter := markDsP_S.enter
  h := fun (k, b, n, cp, cells, q) cx mem w hp hm => markDsP_S.h (k, b, n, cp, cells, q) cx mem w hp hm
theorem markDsN_c (q : Int) (cx : Cx) (mem : List Blk) (w : World) (hpre : 0 ≤ q) (hm : MemRel cx mem w) :
    Calls Tryz.prog 86 (([.v (.slice none 0 0), .v (.int .i64 q)] : List C).map den).toArray w fun e w' => ∃ cx' c mem', e = .returned (den c) ∧ MemRel cx' mem' w' ∧ cx' = cx ∧ c = .v (.int .i64 q) ∧ mem' = mem := by
  refine step_of_vcs ⟨[], []⟩ hmx Tryz.func86 rfl (by kernel_rfl) (args := [.v (.slice none 0 0), .v (.int .i64 q)]) (by simp [Tryz.ntmps86]) hm (fun cx' c mem' => cx' = cx ∧ c = .v (.int .i64 q) ∧ mem' = mem) 200 ?_
  simp (maxSteps := 4000000) -dsimp [-List.all_eq_true, -Array.all_eq_true, -Bool.exists_bool, -Bool.forall_bool, and_assoc, List.zipIdx, Tryz.f86, Con.gen]
  refine loop_unroll (σ := ⟨[], []⟩) (n := 200) hmx (by kernel_rfl) ?_
  simp (maxSteps := 4000000) -dsimp [-List.all_eq_true, -Array.all_eq_true, -Bool.exists_bool, -Bool.forall_bool, and_assoc, List.zipIdx, Tryz.f86, Con.gen]
  exact EndK.all ⟨rfl, rfl, rfl⟩
def markDsN_S : Gens Tryz.prog 86 where
  ι := ((Int))
  A := fun (q : ((Int))) => [.v (.slice none 0 0), .v (.int .i64 q)]
  pre := fun (q : ((Int))) (cx : Cx) (mem : List Blk) => 0 ≤ q
  post := fun (q : ((Int))) (cx : Cx) (mem : List Blk) (cx' : Cx) (c : C) (mem' : List Blk) => cx' = cx ∧ c = .v (.int .i64 q) ∧ mem' = mem
  enter := Tryz.call86
  h := fun q cx mem w hp hm => markDsN_c q cx mem w hp hm
theorem markDsN_at {q : Int} {d : Nat} {cx : Cx} {mem : List Blk} {K : Cx → C → List Blk → Prop} (hpre : 0 ≤ q) (h : ∀ cx' c mem', (cx' = cx ∧ c = .v (.int .i64 q) ∧ mem' = mem) → K cx' c mem') : GenV d markDsN_S cx [.v (.slice none 0 0), .v (.int .i64 q)] mem K := ⟨q, rfl, hpre, h⟩
def markDsU : Con Tryz.prog := Con.gen (gensSum markDsV_S markDsN_S)
theorem markDsV_at {k b n cp : Nat} {cells : List C} {q : Int} {d : Nat} {cx : Cx} {mem : List Blk} {K : Cx → C → List Blk → Prop} (hpre : mem[k]? = some ⟨b, cells, 91⟩ ∧ List.length cells = cp * 3 ∧ n ≤ cp ∧ n ≤ 1048576 ∧ 0 ≤ q ∧ q ≤ 4611686018427387904)
    (h : K cx (.v (.int .i64 (q + 3 * n))) (mem.set k ⟨b, DB (marksD q n) ++ cells.drop (n * 3), 91⟩)) : GenV d (gensSum markDsV_S markDsN_S) cx [.v (.slice (some ⟨b, 0, none⟩) n cp), .v (.int .i64 q)] mem K :=
  gensSum_l ⟨(k, b, n, cp, cells, q), rfl, hpre, by rintro _ _ _ ⟨rfl, rfl, rfl⟩; exact h⟩
theorem heldDsC_c (o : Option Addr) (cap n : Nat) (q : Int) (w : World) (hpre : RdD (factF ⟨w, [], w, []⟩) o (marksD q n) ∧ n ≤ 1048576 ∧ 0 ≤ q ∧ q ≤ 1048576) : Calls Tryz.prog 87 #[.slice o n cap, .int .i64 q] w fun e w' => ∃ v, e = .returned v ∧ (fun v => v = .int .i64 (q + 3 * n)) v ∧ RowKit.Below w.heap.size w w' := by
  refine plain_of_vcs ⟨[], []⟩ hmx Tryz.func87 rfl (by kernel_rfl) (args := [.slice o n cap, .int .i64 q]) (by simp [Tryz.ntmps87]) w (fun v => v = .int .i64 (q + 3 * n)) 400 ?_
  obtain ⟨h, hn, hq0, hq1⟩ := hpre
  simp (maxSteps := 4000000) -dsimp [-List.all_eq_true, -Array.all_eq_true, -Bool.exists_bool, -Bool.forall_bool, and_assoc, List.zipIdx, Tryz.f87]
  refine loop_inv (σ := ⟨[], []⟩) hmx (by kernel_rfl) (fun m cx tm mem => cx = ⟨w, [], w, []⟩ ∧ mem = [] ∧ ∃ i : Nat, i ≤ n ∧ m = n - i ∧ Sx.look tm 5 = .v (.int .i64 i) ∧ Sx.look tm 1 = .v (.int .i64 (q + 3 * i)) ∧ Sx.look tm 0 = .v (.slice o n cap))
    n ⟨rfl, rfl, 0, by omega, rfl, by simp [Sx.look], by simp [Sx.look], by simp [Sx.look]⟩ ?_
  rintro m cx tm mem ⟨rfl, rfl, i, hi, rfl, h5, h1, h0⟩
  refine ⟨400, ?_⟩
  by_cases hlt : i < n
  · have w1 : IntKind.i64.wrap (q + 3 * (i : Int) + 1) = q + 3 * (i : Int) + 1 := wrap_i64 (by omega) (by omega)
    have w2 : IntKind.i64.wrap (q + 3 * (i : Int) + 1 + 1) = q + 3 * (i : Int) + 1 + 1 := wrap_i64 (by omega) (by omega)
    have w3 : IntKind.i64.wrap (q + 3 * (i : Int) + 1 + 1 + 1) = q + 3 * (i : Int) + 1 + 1 + 1 := wrap_i64 (by omega) (by omega)
    have hth : o.isSome = true := by
      obtain ⟨_, a, rfl, _⟩ := h i _ (marksD_at hlt)
      rfl
    have l0 := fun (d : Nat) (mem : List Blk) (K : Value → Prop) => RdO.ld_zero (P := Tryz.prog) (d := d) (K := K) (RdO.mono h (sub_now ⟨w, [], w, []⟩ mem)) (t := 3) (by kernel_rfl) (marksD_at hlt) rfl
    have l1 := fun (d : Nat) (mem : List Blk) (K : Value → Prop) => RdO.ld_one (P := Tryz.prog) (d := d) (K := K) (RdO.mono h (sub_now ⟨w, [], w, []⟩ mem)) (t := 3) (by kernel_rfl) (marksD_at hlt) (j := 1) rfl
    have l2 := fun (d : Nat) (mem : List Blk) (K : Value → Prop) => RdO.ld_one (P := Tryz.prog) (d := d) (K := K) (RdO.mono h (sub_now ⟨w, [], w, []⟩ mem)) (t := 3) (by kernel_rfl) (marksD_at hlt) (j := 2) rfl
    simp (maxSteps := 4000000) -dsimp [-List.all_eq_true, -Array.all_eq_true, -Bool.exists_bool, -Bool.forall_bool, and_assoc, List.zipIdx, Tryz.f87, h5, h1, h0, hlt, hth, l0, l1, l2, w1, w2, w3, i_succ (i := i) (by omega)]
    exact ⟨n - (i + 1), by omega, i + 1, by omega, rfl, by omega, by omega⟩
  · obtain rfl : i = n := by omega
    simp (maxSteps := 4000000) -dsimp [-List.all_eq_true, -Array.all_eq_true, -Bool.exists_bool, -Bool.forall_bool, and_assoc, List.zipIdx, Tryz.f87, h5, h1, h0]
def heldDsC_S : Rels Tryz.prog 87 where
  ι := ((Option Addr) × (Nat) × (Nat) × (Int))
  A := fun (i : ((Option Addr) × (Nat) × (Nat) × (Int))) => match i with | (o, cap, n, q) => [.slice o n cap, .int .i64 q]
  pre := fun (i : ((Option Addr) × (Nat) × (Nat) × (Int))) (F : Facts) => match i with | (o, cap, n, q) => RdD F o (marksD q n) ∧ n ≤ 1048576 ∧ 0 ≤ q ∧ q ≤ 1048576
  post := fun (i : ((Option Addr) × (Nat) × (Nat) × (Int))) => match i with | (o, cap, n, q) => fun v => v = .int .i64 (q + 3 * n)
  mono := by
    intro i F G hs h
    first | exact h | exact h.mono hs | exact ⟨h.1.mono hs, h.2⟩ | exact ⟨h.1.mono hs, h.2.1.mono hs, h.2.2⟩ | exact ⟨h.1.mono hs, h.2.1.mono hs⟩ | exact ⟨h.1.mono hs, h.2.1.mono hs, h.2.2.1.mono hs, h.2.2.2⟩
  enter := Tryz.call87
  h := fun i w hp => heldDsC_c i.1 i.2.1 i.2.2.1 i.2.2.2 w (by rw [factF_init]; exact hp)
def heldDsC : Con Tryz.prog := Con.rel heldDsC_S
end Go.Proofs.YtclbanhoiaieaaaGreatDoor
