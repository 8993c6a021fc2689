/-
  Contracts: the machine whose stacks are lists, by the reference.
-/
import Derived.Test.YtfhnbdlkiemaeaaGreatMrmt
import Derived.Test.YtfhnbdlkiemaeaaGreatSqmt
set_option linter.unusedVariables false
set_option linter.unusedSimpArgs false
set_option maxRecDepth 100000
set_option maxHeartbeats 4000000
namespace Go.Sx
open Go

def rowB (l : List Bool) (pad : List C) : List C := l.map (fun b => C.v (.bool b)) ++ pad
def BRow (TB : TypeId) (n0 : Nat) (oc : C) (l : List Bool) (mem : List Blk) : Prop :=
  (oc = .v (.slice none 0 0) ∧ l = []) ∨ ∃ ko bo cap pad, oc = .s ko bo 0 l.length cap ∧ n0 < ko ∧ mem[ko]? = some ⟨bo, rowB l pad, TB⟩ ∧ l.length ≤ cap ∧ cap ≤ maxLen ∧ (rowB l pad).length = cap
def Apart (a b : C) : Prop := ∀ k x o l c k' x' o' l' c', a = .s k x o l c → b = .s k' x' o' l' c' → k ≠ k'
def idBlk (TI : TypeId) (bx : Nat) (m : M) (ob og : C) : Blk := ⟨bx, cellC m ++ [ob, og], TI⟩
structure IdP (TI TB : TypeId) (mem0 : List Blk) (bx : Nat) (t : ID) (mem : List Blk) : Prop where
  pre : mem.take mem0.length = mem0
  lt : mem0.length < mem.length
  ex : ∃ ob og, mem[mem0.length]? = some (idBlk TI bx t.m ob og) ∧ BRow TB mem0.length ob t.bits mem ∧ BRow TB mem0.length og t.forks mem ∧ Apart ob og
theorem Apart.symm {a b : C} (h : Apart a b) : Apart b a := fun _ _ _ _ _ _ _ _ _ _ h1 h2 e => h _ _ _ _ _ _ _ _ _ _ h2 h1 e.symm
theorem apart_nil {b : C} : Apart (.v (.slice none 0 0)) b := fun _ _ _ _ _ _ _ _ _ _ h1 _ => by cases h1
theorem rowB_len (l : List Bool) (pad : List C) : (rowB l pad).length = l.length + pad.length := by simp [rowB]
theorem rowB_take (l : List Bool) (pad : List C) : (rowB l pad).take l.length = l.map (fun b => C.v (.bool b)) := by
  unfold rowB; rw [List.take_left' (by simp)]
theorem rowB_snoc (l : List Bool) (x : Bool) (pad : List C) : rowB (l ++ [x]) pad = l.map (fun b => C.v (.bool b)) ++ (C.v (.bool x) :: pad) := by simp [rowB]
theorem rowB_pop {l : List Bool} (h : l ≠ []) (pad : List C) : rowB l pad = rowB l.dropLast (C.v (.bool (lastB l)) :: pad) := by
  have e : l = l.dropLast ++ [lastB l] := by
    have := List.dropLast_concat_getLast h
    unfold lastB
    rw [List.getLast?_eq_some_getLast h]
    exact this.symm
  have := rowB_snoc l.dropLast (lastB l) pad
  rw [← e] at this
  rw [this]; rfl
theorem rowB_last {l : List Bool} (h : l ≠ []) (pad : List C) : (rowB l pad)[l.length - 1]? = some (.v (.bool (lastB l))) := by
  rw [rowB_pop h]
  unfold rowB
  rw [List.getElem?_append_right (by simp)]
  simp
theorem BRow.some {TB : TypeId} {n0 : Nat} {oc : C} {l : List Bool} {mem : List Blk} (h : BRow TB n0 oc l mem) (hl : l ≠ []) : ∃ ko bo cap pad, oc = .s ko bo 0 l.length cap ∧ n0 < ko ∧ mem[ko]? = some ⟨bo, rowB l pad, TB⟩ ∧ l.length ≤ cap ∧ cap ≤ maxLen ∧ (rowB l pad).length = cap := by
  rcases h with ⟨_, h⟩ | h
  · exact absurd h hl
  · exact h
theorem BRow.set {TB : TypeId} {n0 : Nat} {oc : C} {l : List Bool} {mem : List Blk} (h : BRow TB n0 oc l mem) (k : Nat) (B : Blk) (hk : ∀ ko x o l c, oc = .s ko x o l c → ko ≠ k) : BRow TB n0 oc l (mem.set k B) := by
  rcases h with h | ⟨ko, bo, cap, pad, rfl, h1, h2, h3⟩
  · exact Or.inl h
  · refine Or.inr ⟨ko, bo, cap, pad, rfl, h1, ?_, h3⟩
    have := hk _ _ _ _ _ rfl
    rw [List.getElem?_set_ne (by omega)]
    exact h2
theorem BRow.app {TB : TypeId} {n0 : Nat} {oc : C} {l : List Bool} {mem : List Blk} (h : BRow TB n0 oc l mem) (ex : List Blk) : BRow TB n0 oc l (mem ++ ex) := by
  rcases h with h | ⟨ko, bo, cap, pad, rfl, h1, h2, h3⟩
  · exact Or.inl h
  · refine Or.inr ⟨ko, bo, cap, pad, rfl, h1, ?_, h3⟩
    rw [List.getElem?_append_left (List.getElem?_eq_some_iff.1 h2).1]
    exact h2
theorem BRow.lt {TB : TypeId} {n0 : Nat} {oc : C} {l : List Bool} {mem : List Blk} (h : BRow TB n0 oc l mem) {k x o n c} (e : oc = .s k x o n c) : n0 < k ∧ k < mem.length := by
  rcases h with ⟨h, _⟩ | ⟨ko, bo, cap, pad, rfl, h1, h2, h3⟩
  · rw [h] at e; cases e
  · cases e; exact ⟨h1, (List.getElem?_eq_some_iff.1 h2).1⟩
theorem IdP.app {TI TB : TypeId} {mem0 : List Blk} {bx : Nat} {t : ID} {mem : List Blk} (h : IdP TI TB mem0 bx t mem) (ex : List Blk) : IdP TI TB mem0 bx t (mem ++ ex) := by
  obtain ⟨h1, h2, ob, og, h3, h4, h5, h6⟩ := h
  refine ⟨by rw [List.take_append_of_le_length (by omega)]; exact h1, by simp; omega, ob, og, ?_, h4.app _, h5.app _, h6⟩
  rw [List.getElem?_append_left h2]; exact h3
theorem IdP.put {TI TB : TypeId} {mem0 : List Blk} {bx : Nat} {m : M} {bits forks : List Bool} {ob og : C} {mem : List Blk} (h1 : mem.take mem0.length = mem0) (h2 : mem0.length < mem.length)
    (h4 : BRow TB mem0.length ob bits mem) (h5 : BRow TB mem0.length og forks mem) (h6 : Apart ob og) : IdP TI TB mem0 bx ⟨m, bits, forks⟩ (mem.set mem0.length (idBlk TI bx m ob og)) := by
  refine ⟨by rw [List.take_set_of_le (by omega)]; exact h1, by simpa using h2, ob, og, ?_, h4.set _ _ fun ko x o l c e => ?_, h5.set _ _ fun ko x o l c e => ?_, h6⟩
  · rw [List.getElem?_set_self h2]
  · have := (h4.lt e).1; omega
  · have := (h5.lt e).1; omega
theorem BRow.new {TB : TypeId} {n0 b' cap' : Nat} {x : Bool} {pad : List C} {mem : List Blk} (h : n0 < mem.length) (h1 : 1 ≤ cap') (h2 : cap' ≤ maxLen) (h3 : pad.length = cap' - 1) :
    BRow TB n0 (.s mem.length b' 0 1 cap') [x] (mem ++ [⟨b', C.v (.bool x) :: pad, TB⟩]) := by
  refine Or.inr ⟨mem.length, b', cap', pad, rfl, h, ?_, h1, h2, ?_⟩
  · rw [List.getElem?_append_right (Nat.le_refl _), Nat.sub_self]; rfl
  · rw [rowB_len, h3]; simp; omega
theorem BRow.grow {TB : TypeId} {n0 ko b' cap' : Nat} {l : List Bool} {x : Bool} {pad : List C} {mem : List Blk} (h : n0 < ko) (hk : ko < mem.length) (h1 : l.length + 1 ≤ cap') (h2 : cap' ≤ maxLen) (h3 : pad.length = cap' - (l.length + 1)) :
    BRow TB n0 (.s ko b' 0 (l.length + 1) cap') (l ++ [x]) (mem.set ko ⟨b', List.map (fun b => C.v (.bool b)) l ++ C.v (.bool x) :: pad, TB⟩) := by
  refine Or.inr ⟨ko, b', cap', pad, by simp, h, ?_, by simpa using h1, h2, ?_⟩
  · rw [List.getElem?_set_self hk, rowB_snoc]
  · rw [rowB_len, h3]; simp; omega
theorem IdP.pushNil {TI TB : TypeId} {mem0 : List Blk} {bx b' cap' : Nat} {m : M} {forks : List Bool} {x : Bool} {og : C} {pad : List C} {mem : List Blk} (h1 : mem.take mem0.length = mem0) (h2 : mem0.length < mem.length)
    (hf : BRow TB mem0.length og forks mem) (d1 : 1 ≤ cap') (d2 : cap' ≤ maxLen) (d3 : pad.length = cap' - 1) :
    IdP TI TB mem0 bx ⟨m, [x], forks⟩ (mem.set mem0.length ⟨bx, cellC m ++ [.s mem.length b' 0 1 cap', og], TI⟩ ++ [⟨b', C.v (.bool x) :: pad, TB⟩]) := by
  rw [← List.set_append_left _ _ h2]
  exact IdP.put (by rw [List.take_append_of_le_length (by omega)]; exact h1) (by simp; omega) (BRow.new h2 d1 d2 d3) (hf.app _) fun k b o l c k' b2 o' l' c' e1 e2 => by
    cases e1
    have := (hf.lt e2).2
    omega
theorem IdP.pushNilF {TI TB : TypeId} {mem0 : List Blk} {bx b' cap' : Nat} {m : M} {bits : List Bool} {x : Bool} {ob : C} {pad : List C} {mem : List Blk} (h1 : mem.take mem0.length = mem0) (h2 : mem0.length < mem.length)
    (hb : BRow TB mem0.length ob bits mem) (d1 : 1 ≤ cap') (d2 : cap' ≤ maxLen) (d3 : pad.length = cap' - 1) :
    IdP TI TB mem0 bx ⟨m, bits, [x]⟩ (mem.set mem0.length ⟨bx, cellC m ++ [ob, .s mem.length b' 0 1 cap'], TI⟩ ++ [⟨b', C.v (.bool x) :: pad, TB⟩]) := by
  rw [← List.set_append_left _ _ h2]
  exact IdP.put (by rw [List.take_append_of_le_length (by omega)]; exact h1) (by simp; omega) (hb.app _) (BRow.new h2 d1 d2 d3) fun k b o l c k' b2 o' l' c' e2 e1 => by
    cases e1
    have := (hb.lt e2).2
    omega
theorem IdP.push {TI TB : TypeId} {mem0 : List Blk} {bx ko bo b' cap cap' : Nat} {m : M} {bits forks : List Bool} {x : Bool} {og : C} {pad : List C} {mem : List Blk} (h1 : mem.take mem0.length = mem0) (h2 : mem0.length < mem.length)
    (g1 : mem0.length < ko) (g2 : ko < mem.length) (hf : BRow TB mem0.length og forks mem) (ha : Apart (.s ko bo 0 bits.length cap) og) (d1 : bits.length + 1 ≤ cap') (d2 : cap' ≤ maxLen) (d3 : pad.length = cap' - (bits.length + 1)) :
    IdP TI TB mem0 bx ⟨m, bits ++ [x], forks⟩ ((mem.set ko ⟨b', List.map (fun b => C.v (.bool b)) bits ++ C.v (.bool x) :: pad, TB⟩).set mem0.length ⟨bx, cellC m ++ [.s ko b' 0 (bits.length + 1) cap', og], TI⟩) := by
  exact IdP.put (by rw [List.take_set_of_le (by omega)]; exact h1) (by simpa using h2) (BRow.grow g1 g2 d1 d2 d3) (hf.set _ _ fun k x o l c e => (ha _ _ _ _ _ _ _ _ _ _ rfl e).symm) fun k b o l c k' b2 o' l' c' e1 e2 => by
    cases e1
    exact ha _ _ _ _ _ _ _ _ _ _ rfl e2
theorem IdP.pushF {TI TB : TypeId} {mem0 : List Blk} {bx ko bo b' cap cap' : Nat} {m : M} {bits forks : List Bool} {x : Bool} {ob : C} {pad : List C} {mem : List Blk} (h1 : mem.take mem0.length = mem0) (h2 : mem0.length < mem.length)
    (g1 : mem0.length < ko) (g2 : ko < mem.length) (hb : BRow TB mem0.length ob bits mem) (ha : Apart ob (.s ko bo 0 forks.length cap)) (d1 : forks.length + 1 ≤ cap') (d2 : cap' ≤ maxLen) (d3 : pad.length = cap' - (forks.length + 1)) :
    IdP TI TB mem0 bx ⟨m, bits, forks ++ [x]⟩ ((mem.set ko ⟨b', List.map (fun b => C.v (.bool b)) forks ++ C.v (.bool x) :: pad, TB⟩).set mem0.length ⟨bx, cellC m ++ [ob, .s ko b' 0 (forks.length + 1) cap'], TI⟩) := by
  exact IdP.put (by rw [List.take_set_of_le (by omega)]; exact h1) (by simpa using h2) (hb.set _ _ fun k x o l c e => ha _ _ _ _ _ _ _ _ _ _ e rfl) (BRow.grow g1 g2 d1 d2 d3) fun k b o l c k' b2 o' l' c' e1 e2 => by
    cases e2
    exact ha _ _ _ _ _ _ _ _ _ _ e1 rfl
@[simp] theorem id_136 (m : M) (a b : C) : (cellC m ++ [a, b])[136]? = some a := by kernel_rfl
@[simp] theorem id_137 (m : M) (a b : C) : (cellC m ++ [a, b])[137]? = some b := by kernel_rfl
@[simp] theorem id_e136 (m : M) (a b : C) (h : 136 < (cellC m ++ [a, b]).length) : (cellC m ++ [a, b])[136]'h = a := by kernel_rfl
@[simp] theorem id_e137 (m : M) (a b : C) (h : 137 < (cellC m ++ [a, b]).length) : (cellC m ++ [a, b])[137]'h = b := by kernel_rfl
theorem id_take (m : M) (a b : C) : List.take 136 (cellC m ++ [a, b]) = cellC m := by kernel_rfl
theorem id_set136 (m : M) (a b x : C) : (cellC m ++ [a, b]).set 136 x = cellC m ++ [x, b] := by kernel_rfl
theorem id_set137 (m : M) (a b x : C) : (cellC m ++ [a, b]).set 137 x = cellC m ++ [a, x] := by kernel_rfl
theorem id_spl (m m' : M) (a b : C) : splice (cellC m ++ [a, b]) 0 (cellC m') = cellC m' ++ [a, b] := by kernel_rfl
theorem id_len (m : M) (a b : C) : (cellC m ++ [a, b]).length = 138 := by kernel_rfl
end Go.Sx
namespace Go.Proofs.YtfhnbdlkiemaeaaGreat
open Go Go.Sx
open List renaming all_eq_true → Y1, zipIdx → Y5
open Bool renaming exists_bool → Y3, forall_bool → Y4
attribute [local simp] Sx.vcsE1 Sx.vcsE2 Sx.vcsE3 Sx.vcsE4 Sx.vcsE5 Sx.vcsE6 Sx.vcsE7 Sx.vcsE8 Sx.vcsE9 Sx.vcsE10 Sx.vcsE11 Sx.vcsE12 Sx.vcsE13 Sx.vcsE14 Sx.vcsE15 Sx.vcsE16 Sx.vcsE17 Sx.vcsE18 Sx.vcsE19 Sx.get Sx.look Sx.put Sx.pureFn Sx.findOrd Sx.unF Sx.dstOk Sx.isFloatT Sx.endVC Sx.resFn Sx.packC Sx.newFn Sx.storeFn Sx.buildFn Sx.known Sx.aggT Sx.cellsC Sx.findCon Sx.allV Sx.partsV Sx.partsC Sx.fillL Sx.exitTo Sx.fAr Sx.eqFn Sx.eqFieldsFn Sx.eqElemsFn Sx.partFn Sx.sliceFn Sx.boundFn Sx.AppV Sx.CopyV Sx.MakeSliceV Sx.NewsV Sx.GrowV Sx.TextV Sx.bytesL Sx.notInt Sx.typeAt Sx.argAt Sx.den Go.undef Go.Value.cells Go.Value.oneCell' Sx.Con.pure Sx.Con.some Sx.Con.read Sx.Con.make Sx.Con.ext Sx.Con.rel Sx.Con.extS Sx.Con.draw Sx.Con.step Sx.C.one Sx.Draws.steps

theorem idPopC_c (mem0 : List Blk) (bx : Nat) (t : ID) (cx : Cx) (mem : List Blk) (w : World) (hpre : IdP 104 4 mem0 bx t mem ∧ t.bits ≠ [] ∧ List.length t.bits ≤ 16) (hm : MemRel cx mem w) :
    Calls Tryz.prog 104 (([.p (List.length mem0) bx 0] : List C).map den).toArray w fun e w' => ∃ cx' c mem', e = .returned (den c) ∧ MemRel cx' mem' w' ∧ cx' = cx ∧ c = .v (.bool (lastB t.bits)) ∧ IdP 104 4 mem0 bx ⟨t.m, t.bits.dropLast, t.forks⟩ mem' ∧ ∃ B, mem' = mem.set (List.length mem0) B := by
  refine step_of_vcs ⟨[], []⟩ hmx Tryz.func104 rfl (by kernel_rfl) (args := [.p (List.length mem0) bx 0]) (by simp [Tryz.ntmps104]) hm (fun cx' c mem' => cx' = cx ∧ c = .v (.bool (lastB t.bits)) ∧ IdP 104 4 mem0 bx ⟨t.m, t.bits.dropLast, t.forks⟩ mem' ∧ ∃ B, mem' = mem.set (List.length mem0) B) 400 ?_
  obtain ⟨⟨h1, h2, ob, og, hk, hb, hf, ha⟩, hne, hl⟩ := hpre
  obtain ⟨ko, bo, cap, pad, rfl, g1, g2, g3, g4, g5⟩ := hb.some hne
  have hk2 := (List.getElem?_eq_some_iff.1 hk).2
  have hg2 := (List.getElem?_eq_some_iff.1 g2).2
  have hgl := (List.getElem?_eq_some_iff.1 g2).1
  have hpos : 0 < t.bits.length := List.length_pos_iff.2 hne
  have hw : IntKind.i64.wrap ((t.bits.length : Int) - 1) = ((t.bits.length - 1 : Nat) : Int) := by
    rw [wrap_i64 (by omega) (by omega)]; omega
  have hlast := rowB_last hne pad
  have hl2 := (List.getElem?_eq_some_iff.1 hlast).2
  have o1 : t.bits.length - 1 < t.bits.length := by omega
  have o2 : t.bits.length - 1 ≤ cap := by omega
  simp (maxSteps := 4000000) -dsimp [-Y1, -Array.all_eq_true, -Y3, -Y4, and_assoc, Y5, Tryz.f104, h2, hk, hk2, g2, hg2, hgl, hw, hlast, hl2, o1, o2, idBlk, id_len, id_set136]
  have hdl : t.bits.dropLast.length = t.bits.length - 1 := List.length_dropLast
  refine EndK.all ⟨rfl, rfl, IdP.put h1 h2 (Or.inr ⟨ko, bo, cap, C.v (.bool (lastB t.bits)) :: pad, by rw [hdl], g1, by rw [← rowB_pop hne]; exact g2, by omega, g4, by rw [← rowB_pop hne]; exact g5⟩) hf fun k b o l c k' b' o' l' c' e1 e2 => ?_, _, rfl⟩
  cases e1
  exact ha _ _ _ _ _ _ _ _ _ _ rfl e2
def idPopC_S : Gens Tryz.prog 104 where
  ι := ((List Blk) × (Nat) × (ID))
  A := fun (i : ((List Blk) × (Nat) × (ID))) => match i with | (mem0, bx, t) => [.p (List.length mem0) bx 0]
  pre := fun (i : ((List Blk) × (Nat) × (ID))) (cx : Cx) (mem : List Blk) => match i with | (mem0, bx, t) => IdP 104 4 mem0 bx t mem ∧ t.bits ≠ [] ∧ List.length t.bits ≤ 16
  post := fun (i : ((List Blk) × (Nat) × (ID))) (cx : Cx) (mem : List Blk) (cx' : Cx) (c : C) (mem' : List Blk) => match i with | (mem0, bx, t) => cx' = cx ∧ c = .v (.bool (lastB t.bits)) ∧ IdP 104 4 mem0 bx ⟨t.m, t.bits.dropLast, t.forks⟩ mem' ∧ ∃ B, mem' = mem.set (List.length mem0) B
  enter := Tryz.call104
  h := fun i cx mem w hp hm => idPopC_c i.1 i.2.1 i.2.2 cx mem w hp hm
def idPopC : Con Tryz.prog := Con.gen idPopC_S
theorem idPopC_at {mem0 : List Blk} {bx : Nat} {t : ID} {d : Nat} {cx : Cx} {mem : List Blk} {K : Cx → C → List Blk → Prop} (hpre : IdP 104 4 mem0 bx t mem ∧ t.bits ≠ [] ∧ List.length t.bits ≤ 16) (h : ∀ cx' c mem', (cx' = cx ∧ c = .v (.bool (lastB t.bits)) ∧ IdP 104 4 mem0 bx ⟨t.m, t.bits.dropLast, t.forks⟩ mem' ∧ ∃ B, mem' = mem.set (List.length mem0) B) → K cx' c mem') : GenV d idPopC_S cx [.p (List.length mem0) bx 0] mem K := ⟨(mem0, bx, t), rfl, hpre, h⟩
theorem idJoinC_c (mem0 : List Blk) (bx : Nat) (t : ID) (code : Int) (b : Bool) (cx : Cx) (mem : List Blk) (w : World) (hpre : IdP 104 4 mem0 bx t mem ∧ (code = 1 → List.length t.bits < 16) ∧ (code ≠ 1 → t.bits ≠ []) ∧ List.length t.bits ≤ 16) (hm : MemRel cx mem w) :
    Calls Tryz.prog 103 (([.p (List.length mem0) bx 0, .v (.int .i64 code), .v (.bool b)] : List C).map den).toArray w fun e w' => ∃ cx' c mem', e = .returned (den c) ∧ MemRel cx' mem' w' ∧ Le cx cx' ∧ c = .v (.tuple #[]) ∧ IdP 104 4 mem0 bx ⟨t.m, idJoin code t.bits b, t.forks⟩ mem' := by
  refine step_of_vcs ⟨[idPopC], []⟩ hmx Tryz.func103 rfl (by kernel_rfl) (args := [.p (List.length mem0) bx 0, .v (.int .i64 code), .v (.bool b)]) (by simp [Tryz.ntmps103]) hm (fun cx' c mem' => Le cx cx' ∧ c = .v (.tuple #[]) ∧ IdP 104 4 mem0 bx ⟨t.m, idJoin code t.bits b, t.forks⟩ mem') 400 ?_
  obtain ⟨hP, hc1, hc2, hl⟩ := hpre
  obtain ⟨m, l, f⟩ := t
  simp only at hP hc1 hc2 hl
  by_cases c1 : code = 1
  · subst c1
    have hl1 := hc1 rfl
    have e : ∀ l : List Bool, idJoin 1 l b = l ++ [b] := fun l => rfl
    obtain ⟨h1, h2, ob, og, hk, hb, hf, ha⟩ := hP
    have hk2 := (List.getElem?_eq_some_iff.1 hk).2
    rcases hb with ⟨rfl, hnil⟩ | ⟨ko, bo, cap, pad, rfl, g1, g2, g3, g4, g5⟩
    · simp (maxSteps := 4000000) -dsimp [-Y1, -Array.all_eq_true, -Y3, -Y4, and_assoc, Y5, Tryz.f103, idPopC, Con.gen, h2, hk, hk2, idBlk, id_len, id_set136]
      intro cx2 lq hle2 hl2
      rw [RdL.sl ((hl2.mono (sub_new cx2)).mono (sub_now _ _)) (by simp)]
      unfold GrowV
      simp (maxSteps := 4000000) -dsimp [-Y1, -Array.all_eq_true, -Y3, -Y4, and_assoc, Y5, Tryz.f103, idPopC, Con.gen, h2, hk, hk2, idBlk, id_len, id_set136, List.getElem?_append, List.set_append]
      refine ⟨by decide, fun b8 cap8 pad8 d1 d2 d3 => EndK.all ⟨hle2, rfl, ?_⟩⟩
      have hz := IdP.pushNil (TI := 104) (TB := 4) (bx := bx) (b' := b8) (m := m) (x := b) h1 h2 hf d1 d2 d3
      have hnil : l = [] := hnil
      rw [e]
      rw [hnil]
      exact hz
    · have hg2 := (List.getElem?_eq_some_iff.1 g2).2
      have hgl := (List.getElem?_eq_some_iff.1 g2).1
      have hrt := rowB_take l pad
      have hn : ¬ ko = mem0.length := by omega
      have hml : l.length + 1 ≤ maxLen := by unfold maxLen; omega
      have g3' : l.length ≤ cap := g3
      simp (maxSteps := 4000000) -dsimp [-Y1, -Array.all_eq_true, -Y3, -Y4, and_assoc, Y5, Tryz.f103, idPopC, Con.gen, h2, hk, hk2, g2, hg2, hgl, idBlk, id_len, id_set136]
      intro cx2 lq hle2 hl2
      rw [RdL.sl ((hl2.mono (sub_new cx2)).mono (sub_now _ _)) (by simp)]
      unfold GrowV
      simp (maxSteps := 4000000) -dsimp [-Y1, -Array.all_eq_true, -Y3, -Y4, and_assoc, Y5, Tryz.f103, idPopC, Con.gen, h2, hk, hk2, g2, hg2, hgl, g3', g4, g5, hrt, hml, idBlk, id_len, id_set136, List.getElem_set, hn]
      refine ⟨by omega, fun b8 cap8 pad8 d1 d2 d3 => EndK.all ⟨hle2, rfl, ?_⟩⟩
      rw [e]
      exact IdP.push h1 h2 g1 hgl hf ha d1 d2 d3
  · have hne := hc2 c1
    by_cases c2 : code = 2
    · have e : idJoin code l b = l.dropLast ++ [lastB l && b] := by unfold idJoin; rw [if_neg c1, if_pos c2]
      rw [e]
      clear e
      have c1' : ¬ (2 : Int) = 1 := by decide
      subst c2
      simp (maxSteps := 4000000) -dsimp [-Y1, -Array.all_eq_true, -Y3, -Y4, and_assoc, Y5, Tryz.f103, idPopC, Con.gen]
      refine idPopC_at (t := ⟨m, l, f⟩) ⟨hP, hne, hl⟩ ?_
      rintro _ _ mem1 ⟨rfl, rfl, hP1, -⟩
      simp only at hP1
      obtain ⟨l', hl'⟩ : ∃ l', l' = l.dropLast := ⟨_, rfl⟩
      have hll : l'.length ≤ 16 := by rw [hl', List.length_dropLast]; omega
      rw [← hl'] at hP1 ⊢
      cases hlb : lastB l
      · simp only [Bool.false_and]
        obtain ⟨h1, h2, ob, og, hk, hb, hf, ha⟩ := hP1
        have hk2 := (List.getElem?_eq_some_iff.1 hk).2
        rcases hb with ⟨rfl, hnil⟩ | ⟨ko, bo, cap, pad, rfl, g1, g2, g3, g4, g5⟩
        · simp (maxSteps := 4000000) -dsimp [-Y1, -Array.all_eq_true, -Y3, -Y4, and_assoc, Y5, Tryz.f103, idPopC, Con.gen, h2, hk, hk2, idBlk, id_len, id_set136]
          intro cx2 lq hle2 hl2
          rw [RdL.sl ((hl2.mono (sub_new cx2)).mono (sub_now _ _)) (by simp)]
          unfold GrowV
          simp (maxSteps := 4000000) -dsimp [-Y1, -Array.all_eq_true, -Y3, -Y4, and_assoc, Y5, Tryz.f103, idPopC, Con.gen, h2, hk, hk2, idBlk, id_len, id_set136, List.getElem?_append, List.set_append]
          refine ⟨by decide, fun b8 cap8 pad8 d1 d2 d3 => EndK.all ⟨hle2, rfl, ?_⟩⟩
          have hz := IdP.pushNil (TI := 104) (TB := 4) (bx := bx) (b' := b8) (m := m) (x := false) h1 h2 hf d1 d2 d3
          have hnil : l' = [] := hnil
          skip
          rw [hnil]
          exact hz
        · have hg2 := (List.getElem?_eq_some_iff.1 g2).2
          have hgl := (List.getElem?_eq_some_iff.1 g2).1
          have hrt := rowB_take l' pad
          have hn : ¬ ko = mem0.length := by omega
          have hml : l'.length + 1 ≤ maxLen := by unfold maxLen; omega
          have g3' : l'.length ≤ cap := g3
          simp (maxSteps := 4000000) -dsimp [-Y1, -Array.all_eq_true, -Y3, -Y4, and_assoc, Y5, Tryz.f103, idPopC, Con.gen, h2, hk, hk2, g2, hg2, hgl, idBlk, id_len, id_set136]
          intro cx2 lq hle2 hl2
          rw [RdL.sl ((hl2.mono (sub_new cx2)).mono (sub_now _ _)) (by simp)]
          unfold GrowV
          simp (maxSteps := 4000000) -dsimp [-Y1, -Array.all_eq_true, -Y3, -Y4, and_assoc, Y5, Tryz.f103, idPopC, Con.gen, h2, hk, hk2, g2, hg2, hgl, g3', g4, g5, hrt, hml, idBlk, id_len, id_set136, List.getElem_set, hn]
          refine ⟨by omega, fun b8 cap8 pad8 d1 d2 d3 => EndK.all ⟨hle2, rfl, ?_⟩⟩
          skip
          exact IdP.push h1 h2 g1 hgl hf ha d1 d2 d3
      · simp only [Bool.true_and]
        obtain ⟨h1, h2, ob, og, hk, hb, hf, ha⟩ := hP1
        have hk2 := (List.getElem?_eq_some_iff.1 hk).2
        rcases hb with ⟨rfl, hnil⟩ | ⟨ko, bo, cap, pad, rfl, g1, g2, g3, g4, g5⟩
        · simp (maxSteps := 4000000) -dsimp [-Y1, -Array.all_eq_true, -Y3, -Y4, and_assoc, Y5, Tryz.f103, idPopC, Con.gen, h2, hk, hk2, idBlk, id_len, id_set136]
          intro cx2 lq hle2 hl2
          rw [RdL.sl ((hl2.mono (sub_new cx2)).mono (sub_now _ _)) (by simp)]
          unfold GrowV
          simp (maxSteps := 4000000) -dsimp [-Y1, -Array.all_eq_true, -Y3, -Y4, and_assoc, Y5, Tryz.f103, idPopC, Con.gen, h2, hk, hk2, idBlk, id_len, id_set136, List.getElem?_append, List.set_append]
          refine ⟨by decide, fun b8 cap8 pad8 d1 d2 d3 => EndK.all ⟨hle2, rfl, ?_⟩⟩
          have hz := IdP.pushNil (TI := 104) (TB := 4) (bx := bx) (b' := b8) (m := m) (x := b) h1 h2 hf d1 d2 d3
          have hnil : l' = [] := hnil
          skip
          rw [hnil]
          exact hz
        · have hg2 := (List.getElem?_eq_some_iff.1 g2).2
          have hgl := (List.getElem?_eq_some_iff.1 g2).1
          have hrt := rowB_take l' pad
          have hn : ¬ ko = mem0.length := by omega
          have hml : l'.length + 1 ≤ maxLen := by unfold maxLen; omega
          have g3' : l'.length ≤ cap := g3
          simp (maxSteps := 4000000) -dsimp [-Y1, -Array.all_eq_true, -Y3, -Y4, and_assoc, Y5, Tryz.f103, idPopC, Con.gen, h2, hk, hk2, g2, hg2, hgl, idBlk, id_len, id_set136]
          intro cx2 lq hle2 hl2
          rw [RdL.sl ((hl2.mono (sub_new cx2)).mono (sub_now _ _)) (by simp)]
          unfold GrowV
          simp (maxSteps := 4000000) -dsimp [-Y1, -Array.all_eq_true, -Y3, -Y4, and_assoc, Y5, Tryz.f103, idPopC, Con.gen, h2, hk, hk2, g2, hg2, hgl, g3', g4, g5, hrt, hml, idBlk, id_len, id_set136, List.getElem_set, hn]
          refine ⟨by omega, fun b8 cap8 pad8 d1 d2 d3 => EndK.all ⟨hle2, rfl, ?_⟩⟩
          skip
          exact IdP.push h1 h2 g1 hgl hf ha d1 d2 d3
    · have e : idJoin code l b = l.dropLast ++ [lastB l || b] := by unfold idJoin; rw [if_neg c1, if_neg c2]
      rw [e]
      clear e
      simp (maxSteps := 4000000) -dsimp [-Y1, -Array.all_eq_true, -Y3, -Y4, and_assoc, Y5, Tryz.f103, idPopC, Con.gen, c1, c2]
      refine idPopC_at (t := ⟨m, l, f⟩) ⟨hP, hne, hl⟩ ?_
      rintro _ _ mem1 ⟨rfl, rfl, hP1, -⟩
      simp only at hP1
      obtain ⟨l', hl'⟩ : ∃ l', l' = l.dropLast := ⟨_, rfl⟩
      have hll : l'.length ≤ 16 := by rw [hl', List.length_dropLast]; omega
      rw [← hl'] at hP1 ⊢
      cases hlb : lastB l
      · simp only [Bool.false_or]
        obtain ⟨h1, h2, ob, og, hk, hb, hf, ha⟩ := hP1
        have hk2 := (List.getElem?_eq_some_iff.1 hk).2
        rcases hb with ⟨rfl, hnil⟩ | ⟨ko, bo, cap, pad, rfl, g1, g2, g3, g4, g5⟩
        · simp (maxSteps := 4000000) -dsimp [-Y1, -Array.all_eq_true, -Y3, -Y4, and_assoc, Y5, Tryz.f103, idPopC, Con.gen, h2, hk, hk2, idBlk, id_len, id_set136]
          intro cx2 lq hle2 hl2
          rw [RdL.sl ((hl2.mono (sub_new cx2)).mono (sub_now _ _)) (by simp)]
          unfold GrowV
          simp (maxSteps := 4000000) -dsimp [-Y1, -Array.all_eq_true, -Y3, -Y4, and_assoc, Y5, Tryz.f103, idPopC, Con.gen, h2, hk, hk2, idBlk, id_len, id_set136, List.getElem?_append, List.set_append]
          refine ⟨by decide, fun b8 cap8 pad8 d1 d2 d3 => EndK.all ⟨hle2, rfl, ?_⟩⟩
          have hz := IdP.pushNil (TI := 104) (TB := 4) (bx := bx) (b' := b8) (m := m) (x := b) h1 h2 hf d1 d2 d3
          have hnil : l' = [] := hnil
          skip
          rw [hnil]
          exact hz
        · have hg2 := (List.getElem?_eq_some_iff.1 g2).2
          have hgl := (List.getElem?_eq_some_iff.1 g2).1
          have hrt := rowB_take l' pad
          have hn : ¬ ko = mem0.length := by omega
          have hml : l'.length + 1 ≤ maxLen := by unfold maxLen; omega
          have g3' : l'.length ≤ cap := g3
          simp (maxSteps := 4000000) -dsimp [-Y1, -Array.all_eq_true, -Y3, -Y4, and_assoc, Y5, Tryz.f103, idPopC, Con.gen, h2, hk, hk2, g2, hg2, hgl, idBlk, id_len, id_set136]
          intro cx2 lq hle2 hl2
          rw [RdL.sl ((hl2.mono (sub_new cx2)).mono (sub_now _ _)) (by simp)]
          unfold GrowV
          simp (maxSteps := 4000000) -dsimp [-Y1, -Array.all_eq_true, -Y3, -Y4, and_assoc, Y5, Tryz.f103, idPopC, Con.gen, h2, hk, hk2, g2, hg2, hgl, g3', g4, g5, hrt, hml, idBlk, id_len, id_set136, List.getElem_set, hn]
          refine ⟨by omega, fun b8 cap8 pad8 d1 d2 d3 => EndK.all ⟨hle2, rfl, ?_⟩⟩
          skip
          exact IdP.push h1 h2 g1 hgl hf ha d1 d2 d3
      · simp only [Bool.true_or]
        obtain ⟨h1, h2, ob, og, hk, hb, hf, ha⟩ := hP1
        have hk2 := (List.getElem?_eq_some_iff.1 hk).2
        rcases hb with ⟨rfl, hnil⟩ | ⟨ko, bo, cap, pad, rfl, g1, g2, g3, g4, g5⟩
        · simp (maxSteps := 4000000) -dsimp [-Y1, -Array.all_eq_true, -Y3, -Y4, and_assoc, Y5, Tryz.f103, idPopC, Con.gen, h2, hk, hk2, idBlk, id_len, id_set136]
          intro cx2 lq hle2 hl2
          rw [RdL.sl ((hl2.mono (sub_new cx2)).mono (sub_now _ _)) (by simp)]
          unfold GrowV
          simp (maxSteps := 4000000) -dsimp [-Y1, -Array.all_eq_true, -Y3, -Y4, and_assoc, Y5, Tryz.f103, idPopC, Con.gen, h2, hk, hk2, idBlk, id_len, id_set136, List.getElem?_append, List.set_append]
          refine ⟨by decide, fun b8 cap8 pad8 d1 d2 d3 => EndK.all ⟨hle2, rfl, ?_⟩⟩
          have hz := IdP.pushNil (TI := 104) (TB := 4) (bx := bx) (b' := b8) (m := m) (x := true) h1 h2 hf d1 d2 d3
          have hnil : l' = [] := hnil
          skip
          rw [hnil]
          exact hz
        · have hg2 := (List.getElem?_eq_some_iff.1 g2).2
          have hgl := (List.getElem?_eq_some_iff.1 g2).1
          have hrt := rowB_take l' pad
          have hn : ¬ ko = mem0.length := by omega
          have hml : l'.length + 1 ≤ maxLen := by unfold maxLen; omega
          have g3' : l'.length ≤ cap := g3
          simp (maxSteps := 4000000) -dsimp [-Y1, -Array.all_eq_true, -Y3, -Y4, and_assoc, Y5, Tryz.f103, idPopC, Con.gen, h2, hk, hk2, g2, hg2, hgl, idBlk, id_len, id_set136]
          intro cx2 lq hle2 hl2
          rw [RdL.sl ((hl2.mono (sub_new cx2)).mono (sub_now _ _)) (by simp)]
          unfold GrowV
          simp (maxSteps := 4000000) -dsimp [-Y1, -Array.all_eq_true, -Y3, -Y4, and_assoc, Y5, Tryz.f103, idPopC, Con.gen, h2, hk, hk2, g2, hg2, hgl, g3', g4, g5, hrt, hml, idBlk, id_len, id_set136, List.getElem_set, hn]
          refine ⟨by omega, fun b8 cap8 pad8 d1 d2 d3 => EndK.all ⟨hle2, rfl, ?_⟩⟩
          skip
          exact IdP.push h1 h2 g1 hgl hf ha d1 d2 d3
def idJoinC_S : Gens Tryz.prog 103 where
  ι := ((List Blk) × (Nat) × (ID) × (Int) × (Bool))
  A := fun (i : ((List Blk) × (Nat) × (ID) × (Int) × (Bool))) => match i with | (mem0, bx, t, code, b) => [.p (List.length mem0) bx 0, .v (.int .i64 code), .v (.bool b)]
  pre := fun (i : ((List Blk) × (Nat) × (ID) × (Int) × (Bool))) (cx : Cx) (mem : List Blk) => match i with | (mem0, bx, t, code, b) => IdP 104 4 mem0 bx t mem ∧ (code = 1 → List.length t.bits < 16) ∧ (code ≠ 1 → t.bits ≠ []) ∧ List.length t.bits ≤ 16
  post := fun (i : ((List Blk) × (Nat) × (ID) × (Int) × (Bool))) (cx : Cx) (mem : List Blk) (cx' : Cx) (c : C) (mem' : List Blk) => match i with | (mem0, bx, t, code, b) => Le cx cx' ∧ c = .v (.tuple #[]) ∧ IdP 104 4 mem0 bx ⟨t.m, idJoin code t.bits b, t.forks⟩ mem'
  enter := Tryz.call103
  h := fun i cx mem w hp hm => idJoinC_c i.1 i.2.1 i.2.2.1 i.2.2.2.1 i.2.2.2.2 cx mem w hp hm
def idJoinC : Con Tryz.prog := Con.gen idJoinC_S
theorem idJoinC_at {mem0 : List Blk} {bx : Nat} {t : ID} {code : Int} {b : Bool} {d : Nat} {cx : Cx} {mem : List Blk} {K : Cx → C → List Blk → Prop} (hpre : IdP 104 4 mem0 bx t mem ∧ (code = 1 → List.length t.bits < 16) ∧ (code ≠ 1 → t.bits ≠ []) ∧ List.length t.bits ≤ 16) (h : ∀ cx' c mem', (Le cx cx' ∧ c = .v (.tuple #[]) ∧ IdP 104 4 mem0 bx ⟨t.m, idJoin code t.bits b, t.forks⟩ mem') → K cx' c mem') : GenV d idJoinC_S cx [.p (List.length mem0) bx 0, .v (.int .i64 code), .v (.bool b)] mem K := ⟨(mem0, bx, t, code, b), rfl, hpre, h⟩
end Go.Proofs.YtfhnbdlkiemaeaaGreat
