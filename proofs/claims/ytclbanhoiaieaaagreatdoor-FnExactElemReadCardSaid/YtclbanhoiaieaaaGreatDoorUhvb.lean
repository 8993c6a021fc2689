/-
  Contacts and coils read out of a text: the program's returns what the reference's returns, and no two answers share memory.
-/
import Derived.Test.YtclbanhoiaieaaaGreatDoorUvvb
set_option linter.unusedVariables false
set_option linter.unusedSimpArgs false
set_option maxRecDepth 100000
set_option maxHeartbeats 4000000
namespace Go.Proofs.YtclbanhoiaieaaaGreatDoor
open Go Go.Sx
open List renaming all_eq_true → Y1, zipIdx → Y5
open Bool renaming exists_bool → Y3, forall_bool → Y4
attribute [local simp] Sx.vcsE1 Sx.vcsE2 Sx.vcsE3 Sx.vcsE4 Sx.vcsE5 Sx.vcsE6 Sx.vcsE7 Sx.vcsE8 Sx.vcsE9 Sx.vcsE10 Sx.vcsE11 Sx.vcsE12 Sx.vcsE13 Sx.vcsE14 Sx.vcsE15 Sx.vcsE16 Sx.vcsE17 Sx.vcsE18 Sx.vcsE19 Sx.get Sx.look Sx.put Sx.pureFn Sx.findOrd Sx.unF Sx.dstOk Sx.isFloatT Sx.endVC Sx.resFn Sx.packC Sx.newFn Sx.storeFn Sx.buildFn Sx.known Sx.aggT Sx.cellsC Sx.findCon Sx.allV Sx.partsV Sx.partsC Sx.fillL Sx.exitTo Sx.fAr Sx.eqFn Sx.eqFieldsFn Sx.eqElemsFn Sx.partFn Sx.sliceFn Sx.boundFn Sx.AppV Sx.CopyV Sx.MakeSliceV Sx.NewsV Sx.GrowV Sx.TextV Sx.bytesL Sx.notInt Sx.typeAt Sx.argAt Sx.den Go.undef Go.Value.cells Go.Value.oneCell' Sx.Con.pure Sx.Con.some Sx.Con.read Sx.Con.make Sx.Con.ext Sx.Con.rel Sx.Con.extS Sx.Con.draw Sx.Con.step Sx.C.one Sx.Draws.steps

theorem markElK_c (k b n cp : Nat) (cells : List C) (op : Int) (q : Int) (cx : Cx) (mem : List Blk) (w : World) (hpre : mem[k]? = some ⟨b, cells, 91⟩ ∧ List.length cells = cp * 3 ∧ n ≤ cp ∧ n ≤ 1048576 ∧ 0 ≤ q ∧ q ≤ 4611686018427387904) (hm : MemRel cx mem w) :
    Calls Tryz.prog 46 (([.v (.agg #[.int .i64 op, .slice (some ⟨b, 0, none⟩) n cp]), .v (.int .i64 q)] : List C).map den).toArray w fun e w' => ∃ cx' c mem', e = .returned (den c) ∧ MemRel cx' mem' w' ∧ cx' = cx ∧ c = .v (.int .i64 (q + 3 * n)) ∧ mem' = mem.set k ⟨b, DB (marksD q n) ++ List.drop (n * 3) cells, 91⟩ := by
  refine step_of_vcs ⟨[markDsU], []⟩ hmx Tryz.func46 rfl (by kernel_rfl) (args := [.v (.agg #[.int .i64 op, .slice (some ⟨b, 0, none⟩) n cp]), .v (.int .i64 q)]) (by simp [Tryz.ntmps46]) hm (fun cx' c mem' => cx' = cx ∧ c = .v (.int .i64 (q + 3 * n)) ∧ mem' = mem.set k ⟨b, DB (marksD q n) ++ List.drop (n * 3) cells, 91⟩) 400 ?_
  obtain ⟨hk, hr⟩ := hpre
  have hkl := (List.getElem?_eq_some_iff.1 hk).1
  simp (maxSteps := 4000000) -dsimp [-Y1, -Array.all_eq_true, -Y3, -Y4, and_assoc, Y5, Tryz.f46, markDsU, Con.gen]
  intro b0
  refine markDsV_at (k := k) ⟨by rw [List.getElem?_append_left hkl]; exact hk, hr⟩ ?_
  rw [List.set_append_left _ _ hkl]
  simp (maxSteps := 4000000) -dsimp [-Y1, -Array.all_eq_true, -Y3, -Y4, and_assoc, Y5, Tryz.f46, markDsU, Con.gen]
  refine EndK.plain mem.length ⟨rfl, rfl, ?_⟩
  rw [List.take_append_of_le_length (by simp), List.take_of_length_le (by simp)]
def markElK_S : Gens Tryz.prog 46 where
  ι := ((Nat) × (Nat) × (Nat) × (Nat) × (List C) × (Int) × (Int))
  A := fun (i : ((Nat) × (Nat) × (Nat) × (Nat) × (List C) × (Int) × (Int))) => match i with | (k, b, n, cp, cells, op, q) => [.v (.agg #[.int .i64 op, .slice (some ⟨b, 0, none⟩) n cp]), .v (.int .i64 q)]
  pre := fun (i : ((Nat) × (Nat) × (Nat) × (Nat) × (List C) × (Int) × (Int))) (cx : Cx) (mem : List Blk) => match i with | (k, b, n, cp, cells, op, q) => mem[k]? = some ⟨b, cells, 91⟩ ∧ List.length cells = cp * 3 ∧ n ≤ cp ∧ n ≤ 1048576 ∧ 0 ≤ q ∧ q ≤ 4611686018427387904
  post := fun (i : ((Nat) × (Nat) × (Nat) × (Nat) × (List C) × (Int) × (Int))) (cx : Cx) (mem : List Blk) (cx' : Cx) (c : C) (mem' : List Blk) => match i with | (k, b, n, cp, cells, op, q) => cx' = cx ∧ c = .v (.int .i64 (q + 3 * n)) ∧ mem' = mem.set k ⟨b, DB (marksD q n) ++ List.drop (n * 3) cells, 91⟩
  enter := Tryz.call46
  h := fun i cx mem w hp hm => markElK_c i.1 i.2.1 i.2.2.1 i.2.2.2.1 i.2.2.2.2.1 i.2.2.2.2.2.1 i.2.2.2.2.2.2 cx mem w hp hm
theorem markElK_at {k b n cp : Nat} {cells : List C} {op : Int} {q : Int} {d : Nat} {cx : Cx} {mem : List Blk} {K : Cx → C → List Blk → Prop} (hpre : mem[k]? = some ⟨b, cells, 91⟩ ∧ List.length cells = cp * 3 ∧ n ≤ cp ∧ n ≤ 1048576 ∧ 0 ≤ q ∧ q ≤ 4611686018427387904) (h : ∀ cx' c mem', (cx' = cx ∧ c = .v (.int .i64 (q + 3 * n)) ∧ mem' = mem.set k ⟨b, DB (marksD q n) ++ List.drop (n * 3) cells, 91⟩) → K cx' c mem') : GenV d markElK_S cx [.v (.agg #[.int .i64 op, .slice (some ⟨b, 0, none⟩) n cp]), .v (.int .i64 q)] mem K := ⟨(k, b, n, cp, cells, op, q), rfl, hpre, h⟩
theorem markElN_c (op : Int) (q : Int) (cx : Cx) (mem : List Blk) (w : World) (hpre : 0 ≤ q) (hm : MemRel cx mem w) :
    Calls Tryz.prog 46 (([.v (.agg #[.int .i64 op, .slice none 0 0]), .v (.int .i64 q)] : List C).map den).toArray w fun e w' => ∃ cx' c mem', e = .returned (den c) ∧ MemRel cx' mem' w' ∧ cx' = cx ∧ c = .v (.int .i64 q) ∧ mem' = mem := by
  refine step_of_vcs ⟨[markDsU], []⟩ hmx Tryz.func46 rfl (by kernel_rfl) (args := [.v (.agg #[.int .i64 op, .slice none 0 0]), .v (.int .i64 q)]) (by simp [Tryz.ntmps46]) hm (fun cx' c mem' => cx' = cx ∧ c = .v (.int .i64 q) ∧ mem' = mem) 400 ?_
  simp (maxSteps := 4000000) -dsimp [-Y1, -Array.all_eq_true, -Y3, -Y4, and_assoc, Y5, Tryz.f46, markDsU, Con.gen]
  intro b0
  refine gensSum_r (markDsN_at hpre ?_)
  rintro _ _ _ ⟨rfl, rfl, rfl⟩
  simp (maxSteps := 4000000) -dsimp [-Y1, -Array.all_eq_true, -Y3, -Y4, and_assoc, Y5, Tryz.f46, markDsU, Con.gen]
  refine EndK.plain mem.length ⟨rfl, rfl, ?_⟩
  simp
def markElN_S : Gens Tryz.prog 46 where
  ι := ((Int) × (Int))
  A := fun (i : ((Int) × (Int))) => match i with | (op, q) => [.v (.agg #[.int .i64 op, .slice none 0 0]), .v (.int .i64 q)]
  pre := fun (i : ((Int) × (Int))) (cx : Cx) (mem : List Blk) => match i with | (op, q) => 0 ≤ q
  post := fun (i : ((Int) × (Int))) (cx : Cx) (mem : List Blk) (cx' : Cx) (c : C) (mem' : List Blk) => match i with | (op, q) => cx' = cx ∧ c = .v (.int .i64 q) ∧ mem' = mem
  enter := Tryz.call46
  h := fun i cx mem w hp hm => markElN_c i.1 i.2 cx mem w hp hm
theorem markElN_at {op : Int} {q : Int} {d : Nat} {cx : Cx} {mem : List Blk} {K : Cx → C → List Blk → Prop} (hpre : 0 ≤ q) (h : ∀ cx' c mem', (cx' = cx ∧ c = .v (.int .i64 q) ∧ mem' = mem) → K cx' c mem') : GenV d markElN_S cx [.v (.agg #[.int .i64 op, .slice none 0 0]), .v (.int .i64 q)] mem K := ⟨(op, q), rfl, hpre, h⟩
def markElU : Con Tryz.prog := Con.gen (gensSum markElK_S markElN_S)
theorem heldElC_c (op : Int) (o : Option Addr) (cap n : Nat) (q : Int) (w : World) (hpre : RdD (factF ⟨w, [], w, []⟩) o (marksD q n) ∧ n ≤ 1048576 ∧ 0 ≤ q ∧ q ≤ 1048576) : Calls Tryz.prog 47 #[.agg #[.int .i64 op, .slice o n cap], .int .i64 q] w fun e w' => ∃ v, e = .returned v ∧ (fun v => v = .int .i64 (q + 3 * n)) v ∧ RowKit.Below w.heap.size w w' := by
  refine plain_of_vcs ⟨[heldDsC], []⟩ hmx Tryz.func47 rfl (by kernel_rfl) (args := [.agg #[.int .i64 op, .slice o n cap], .int .i64 q]) (by simp [Tryz.ntmps47]) w (fun v => v = .int .i64 (q + 3 * n)) 400 ?_
  obtain ⟨h, hn, hq0, hq1⟩ := hpre
  have hq : ¬ q + 3 * (n : Int) < 0 := by omega
  simp (maxSteps := 4000000) -dsimp [-Y1, -Array.all_eq_true, -Y3, -Y4, and_assoc, Y5, Tryz.f47, heldDsC]
  intro b0
  refine ⟨(o, cap, n, q), rfl, ⟨h.mono (sub_now _ _), hn, hq0, hq1⟩, ?_⟩
  rintro v rfl
  simp (maxSteps := 4000000) -dsimp [-Y1, -Array.all_eq_true, -Y3, -Y4, and_assoc, Y5, Tryz.f47, heldDsC, hq]
def heldElC_S : Rels Tryz.prog 47 where
  ι := ((Int) × (Option Addr) × (Nat) × (Nat) × (Int))
  A := fun (i : ((Int) × (Option Addr) × (Nat) × (Nat) × (Int))) => match i with | (op, o, cap, n, q) => [.agg #[.int .i64 op, .slice o n cap], .int .i64 q]
  pre := fun (i : ((Int) × (Option Addr) × (Nat) × (Nat) × (Int))) (F : Facts) => match i with | (op, o, cap, n, q) => RdD F o (marksD q n) ∧ n ≤ 1048576 ∧ 0 ≤ q ∧ q ≤ 1048576
  post := fun (i : ((Int) × (Option Addr) × (Nat) × (Nat) × (Int))) => match i with | (op, o, cap, n, q) => fun v => v = .int .i64 (q + 3 * n)
  mono := by
    intro i F G hs h
    first | exact h | exact h.mono hs | exact ⟨h.1.mono hs, h.2⟩ | exact ⟨h.1.mono hs, h.2.1.mono hs, h.2.2⟩ | exact ⟨h.1.mono hs, h.2.1.mono hs⟩ | exact ⟨h.1.mono hs, h.2.1.mono hs, h.2.2.1.mono hs, h.2.2.2⟩
  enter := Tryz.call47
  h := fun i w hp => heldElC_c i.1 i.2.1 i.2.2.1 i.2.2.2.1 i.2.2.2.2 w (by rw [factF_init]; exact hp)
def heldElU_S := gensL heldElC_S
def heldElU : Con Tryz.prog := Con.gen heldElU_S
def eqElW : Con Tryz.prog := Con.readW eqElemC_S
theorem eqElW_at {op : Int} {o o2 : Option Addr} {cap cap2 : Nat} {xs : List Dev} {d : Nat} {cx : Cx} {mem : List Blk} {K : C → Prop} (h2 : ∀ w, MemRel cx mem w → RdD w.cell? o xs ∧ RdD w.cell? o2 xs ∧ xs.length ≤ 1048576) (h : K (.v (.bool true))) :
    RdsW d eqElemC_S cx [.v (.agg #[.int .i64 op, .slice o xs.length cap]), .v (.agg #[.int .i64 op, .slice o2 xs.length cap2])] mem K :=
  readW_at (S := eqElemC_S) (op, o, cap, xs, o2, cap2) rfl h2 h
theorem lawElemReadC_c (s : Str) (w : World) (hpre : TE (factF ⟨w, [], w, []⟩)) : Calls Tryz.prog 10 #[.string (txt s)] w fun e w' => e = .returned (.bool true) ∧ RowKit.Below w.heap.size w w' := by
  refine (plain_of_vcs ⟨[sElemReadC, iElemReadU, eqElW, markElU, heldElU], []⟩ hmx Tryz.func10 rfl (by kernel_rfl) (args := [.string (txt s)]) (by simp [Tryz.ntmps10]) w (· = .bool true) 500 ?_).mono fun e w' ⟨v, h1, h2, h3⟩ => ⟨h2 ▸ h1, h3⟩
  have ht := hpre
  by_cases hs : 1048576 < s.length
  · have hs1 : (1048576 : Int) < s.length := by omega
    simp (maxSteps := 4000000) -dsimp [-Y1, -Array.all_eq_true, -Y3, -Y4, and_assoc, Y5, Tryz.f10, sElemReadC, iElemReadU, eqElW, markElU, heldElU, hs1]
  have hs1 : ¬ (1048576 : Int) < s.length := by omega
  simp (maxSteps := 4000000) -dsimp [-Y1, -Array.all_eq_true, -Y3, -Y4, and_assoc, Y5, Tryz.f10, sElemReadC, iElemReadU, eqElW, markElU, heldElU, hs1, Con.gen, Con.readW]
  refine ⟨s, rfl, ⟨trivial, by omega⟩, ?_⟩
  rintro cx1 v hle1 hv
  obtain ⟨op, o, cap, xs, rfl, hd, c1, c2, hr⟩ := hv.ex
  replace hd := hd.mono (sub_new _)
  simp (maxSteps := 4000000) -dsimp [-Y1, -Array.all_eq_true, -Y3, -Y4, and_assoc, Y5, Tryz.f10, sElemReadC, iElemReadU, eqElW, markElU, heldElU, Con.gen, Con.readW]
  intro b1
  refine iElemReadU_at (ht.mono hle1.fact) (by omega) ?_
  intro cx2 c3 ex hle2 hE
  rcases hE with ⟨er, rfl, rfl⟩ | ⟨e, b, cp, pad, er, rfl, rfl, p1, p2, p3⟩
  · rw [er] at hr
    rcases hr with ⟨_, h0, -, -⟩ | ⟨-, rfl, rfl⟩
    · cases h0
    simp (maxSteps := 4000000) -dsimp [-Y1, -Array.all_eq_true, -Y3, -Y4, and_assoc, Y5, Tryz.f10, sElemReadC, iElemReadU, eqElW, markElU, heldElU, er, Con.gen, Con.readW]
    intro b3
    refine eqElW_at (xs := []) (fun w hm => ⟨RdO.nil _ _ _, RdO.nil _ _ _, by simp⟩) ?_
    simp (maxSteps := 4000000) -dsimp [-Y1, -Array.all_eq_true, -Y3, -Y4, and_assoc, Y5, Tryz.f10, sElemReadC, iElemReadU, eqElW, markElU, heldElU, er, Con.gen, Con.readW]
    refine gensSum_r (markElN_at (by decide) ?_)
    rintro _ _ _ ⟨rfl, rfl, rfl⟩
    simp (maxSteps := 4000000) -dsimp [-Y1, -Array.all_eq_true, -Y3, -Y4, and_assoc, Y5, Tryz.f10, sElemReadC, iElemReadU, eqElW, markElU, heldElU, er, Con.gen, Con.readW]
    refine gensL_at (S := heldElC_S) (0, none, 0, 0, 1) rfl (fun w hm => ⟨RdO.nil _ _ _, by omega, by omega, by omega⟩) ?_
    rintro v rfl
    simp (maxSteps := 4000000) -dsimp [-Y1, -Array.all_eq_true, -Y3, -Y4, and_assoc, Y5, Tryz.f10, sElemReadC, iElemReadU, eqElW, markElU, heldElU, er, Con.gen, Con.readW]
    refine iElemReadU_at (ht.mono (hle1.trans hle2).fact) (by omega) ?_
    intro cx4 c4 ex4 hle4 hE4
    rcases hE4 with ⟨er4, rfl, rfl⟩ | ⟨e, b, cp, pad, er4, rfl, rfl, p1, p2, p3⟩
    case' inr => rw [er] at er4; cases er4
    simp (maxSteps := 4000000) -dsimp [-Y1, -Array.all_eq_true, -Y3, -Y4, and_assoc, Y5, Tryz.f10, sElemReadC, iElemReadU, eqElW, markElU, heldElU, er, Con.gen, Con.readW]
    intro b5
    refine eqElW_at (xs := []) (fun w hm => ⟨RdO.nil _ _ _, RdO.nil _ _ _, by simp⟩) ?_
    simp (maxSteps := 4000000) -dsimp [-Y1, -Array.all_eq_true, -Y3, -Y4, and_assoc, Y5, Tryz.f10, sElemReadC, iElemReadU, eqElW, markElU, heldElU, er, Con.gen, Con.readW]
    refine gensL_at (S := heldElC_S) (0, none, 0, 0, 1) rfl (fun w hm => ⟨RdO.nil _ _ _, by omega, by omega, by omega⟩) ?_
    rintro v rfl
    have hw := ((hle1.trans hle2).trans hle4).w0
    have hg := ((hle1.trans hle2).trans hle4).g0
    simp (maxSteps := 4000000) -dsimp [-Y1, -Array.all_eq_true, -Y3, -Y4, and_assoc, Y5, Tryz.f10, sElemReadC, iElemReadU, eqElW, markElU, heldElU, er, Con.gen, Con.readW, hw, hg]
  · have har := arity_le3 e.1
    have hal := (eOk_all (elemRd_some er).1).2
    rw [er] at hr
    rcases hr with ⟨_, h0, rfl, rfl⟩ | ⟨h0, -, -⟩
    case' inr => cases h0
    cases h0
    have hq : ¬ (1 + 3 * (e.2.length : Int)) < 0 := by omega
    simp (maxSteps := 4000000) -dsimp [-Y1, -Array.all_eq_true, -Y3, -Y4, and_assoc, Y5, Tryz.f10, sElemReadC, iElemReadU, eqElW, markElU, heldElU, er, Con.gen, Con.readW]
    intro b3
    refine eqElW_at (xs := e.2) (fun w hm => ⟨DB_rd (pad := pad) hm (k := 1) rfl, (hd.mono hle2.fact).mono (fact_cell hm), by omega⟩) ?_
    simp (maxSteps := 4000000) -dsimp [-Y1, -Array.all_eq_true, -Y3, -Y4, and_assoc, Y5, Tryz.f10, sElemReadC, iElemReadU, eqElW, markElU, heldElU, er, Con.gen, Con.readW]
    refine gensSum_l (markElK_at (k := 1) (cells := DB e.2 ++ pad) ⟨rfl, by rw [List.length_append, DB_len]; omega, p1, by omega, by decide, by decide⟩ ?_)
    rintro _ _ _ ⟨rfl, rfl, rfl⟩
    have hdr : (DB e.2 ++ pad).drop (e.2.length * 3) = pad := by rw [← DB_len e.2, List.drop_left]
    rw [hdr]
    simp (maxSteps := 4000000) -dsimp [-Y1, -Array.all_eq_true, -Y3, -Y4, and_assoc, Y5, Tryz.f10, sElemReadC, iElemReadU, eqElW, markElU, heldElU, er, Con.gen, Con.readW]
    have hn := marksD_len 1 e.2.length
    generalize hM : marksD 1 e.2.length = M at *
    refine gensL_at (S := heldElC_S) (e.1, some ⟨b, 0, none⟩, cp, e.2.length, 1) rfl (fun w hm => ⟨by rw [hM]; exact DB_rd (pad := pad) hm (k := 1) rfl, by omega, by omega, by omega⟩) ?_
    rintro v rfl
    simp (maxSteps := 4000000) -dsimp [-Y1, -Array.all_eq_true, -Y3, -Y4, and_assoc, Y5, Tryz.f10, sElemReadC, iElemReadU, eqElW, markElU, heldElU, er, Con.gen, Con.readW, hq]
    refine iElemReadU_at (ht.mono (hle1.trans hle2).fact) (by omega) ?_
    intro cx4 c4 ex4 hle4 hE4
    rcases hE4 with ⟨er4, rfl, rfl⟩ | ⟨e4, b4, cp4, pad4, er4, rfl, rfl, r1, r2, r3⟩
    · rw [er] at er4; cases er4
    rw [er] at er4
    cases er4
    simp (maxSteps := 4000000) -dsimp [-Y1, -Array.all_eq_true, -Y3, -Y4, and_assoc, Y5, Tryz.f10, sElemReadC, iElemReadU, eqElW, markElU, heldElU, er, Con.gen, Con.readW]
    intro b5
    refine eqElW_at (xs := e.2) (fun w hm => ⟨DB_rd (pad := pad4) hm (k := 3) rfl, (hd.mono (hle2.trans hle4).fact).mono (fact_cell hm), by omega⟩) ?_
    simp (maxSteps := 4000000) -dsimp [-Y1, -Array.all_eq_true, -Y3, -Y4, and_assoc, Y5, Tryz.f10, sElemReadC, iElemReadU, eqElW, markElU, heldElU, er, Con.gen, Con.readW]
    refine gensL_at (S := heldElC_S) (e.1, some ⟨b, 0, none⟩, cp, e.2.length, 1) rfl (fun w hm => ⟨by rw [hM]; exact DB_rd (pad := pad) hm (k := 1) rfl, by omega, by omega, by omega⟩) ?_
    rintro v rfl
    have hw := ((hle1.trans hle2).trans hle4).w0
    have hg := ((hle1.trans hle2).trans hle4).g0
    simp (maxSteps := 4000000) -dsimp [-Y1, -Array.all_eq_true, -Y3, -Y4, and_assoc, Y5, Tryz.f10, sElemReadC, iElemReadU, eqElW, markElU, heldElU, er, Con.gen, Con.readW, hq, hw, hg]
end Go.Proofs.YtclbanhoiaieaaaGreatDoor
