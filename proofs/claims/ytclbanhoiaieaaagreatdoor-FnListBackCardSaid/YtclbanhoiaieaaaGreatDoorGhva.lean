/-
  Contracts: a player takes a step.
-/
import Derived.Test.YtclbanhoiaieaaaGreatDoorInva
import Derived.Test.YtclbanhoiaieaaaGreatDoorSwva
import Derived.Test.YtclbanhoiaieaaaGreatDoorGeva
set_option linter.unusedVariables false
set_option linter.unusedSimpArgs false
set_option maxRecDepth 100000
set_option maxHeartbeats 4000000
namespace Go.Sx
open Go

structure PS where
  xs : List Ins
  bits : Int
  forks : Int
  base : Bool
  fresh : Bool
def putBase (b : Bool) (code : Int) : Bool := b || code == 10 || code == 7
def rowsC (rows : List (List Value)) (pad : List C) : List C := (List.flatten rows).map C.v ++ pad
def OutRow (TI : TypeId) (F : Facts) (n0 : Nat) (oc : C) (xs : List Ins) (mem : List Blk) : Prop :=
  (oc = .v (.slice none 0 0) ∧ xs = []) ∨ ∃ ko bo cap rows pad, oc = .s ko bo 0 xs.length cap ∧ n0 < ko ∧ mem[ko]? = some ⟨bo, rowsC rows pad, TI⟩ ∧ RdF F rows xs ∧ rows.length = xs.length ∧ xs.length ≤ cap ∧ cap ≤ maxLen ∧ pad.length = (cap - xs.length) * 3
def playBlk (TP : TypeId) (R : Rdr) (bp : Nat) (oc : C) (s : PS) : Blk := ⟨bp, [.p R.k R.b 0, oc, .v (.int .i64 s.bits), .v (.int .i64 s.forks), .v (.bool s.base), .v (.bool s.fresh)], TP⟩
structure Play (TP TI : TypeId) (F : Facts) (R : Rdr) (mem0 : List Blk) (bp : Nat) (s : PS) (p : Int) (mem : List Blk) : Prop where
  args : ∀ x ∈ s.xs, x.args.length ≤ 3
  take : mem.take mem0.length = mem0.set R.k (R.blk p)
  ex : ∃ oc, mem[mem0.length]? = some (playBlk TP R bp oc s) ∧ OutRow TI F mem0.length oc s.xs mem
variable {TP TI : TypeId} {F : Facts} {R : Rdr} {mem0 mem : List Blk} {bp : Nat} {s : PS} {p : Int}
theorem Play.lt (h : Play TP TI F R mem0 bp s p mem) : mem0.length < mem.length := by
  obtain ⟨oc, h1, _⟩ := h.ex
  exact (List.getElem?_eq_some_iff.1 h1).1
theorem Play.rd (h : Play TP TI F R mem0 bp s p mem) (hl : R.k < mem0.length) : mem[R.k]? = some (R.blk p) := by
  have := congrArg (·[R.k]?) h.take
  simp only [List.getElem?_take, hl, if_true] at this
  rw [this]; simp [hl]
theorem set_self {α : Type} {l : List α} {k : Nat} {x : α} (h : l[k]? = some x) : l.set k x = l := by
  apply List.ext_getElem?
  intro i
  rw [List.getElem?_set]
  split
  · subst_vars
    split
    · exact h.symm
    · rename_i hl
      rw [List.getElem?_eq_none (by omega)] at h; simp at h
  · rfl
theorem Play.self (h : Play TP TI F R mem0 bp s p mem) (hl : R.k < mem0.length) : mem.set R.k (R.blk p) = mem := set_self (h.rd hl)
theorem OutRow.mono {G : Facts} {n0 : Nat} {oc : C} {xs : List Ins} (h : OutRow TI F n0 oc xs mem) (hs : Sub F G) : OutRow TI G n0 oc xs mem := by
  rcases h with h | ⟨ko, bo, cap, rows, pad, h1, h2, h3, h4, h5⟩
  · exact Or.inl h
  · exact Or.inr ⟨ko, bo, cap, rows, pad, h1, h2, h3, h4.mono hs, h5⟩
theorem outRow_to {n0 : Nat} {oc : C} {xs : List Ins} {mem' : List Blk} (h : OutRow TI F n0 oc xs mem) (hm : ∀ k, n0 < k → k < mem.length → mem'[k]? = mem[k]?) : OutRow TI F n0 oc xs mem' := by
  rcases h with h | ⟨ko, bo, cap, rows, pad, h1, h2, h3, h4, h5⟩
  · exact Or.inl h
  · exact Or.inr ⟨ko, bo, cap, rows, pad, h1, h2, by rw [hm ko h2 (List.getElem?_eq_some_iff.1 h3).1]; exact h3, h4, h5⟩
theorem Play.mono {G : Facts} (h : Play TP TI F R mem0 bp s p mem) (hs : Sub F G) : Play TP TI G R mem0 bp s p mem := by
  obtain ⟨oc, h1, h2⟩ := h.ex
  exact ⟨h.args, h.take, oc, h1, OutRow.mono h2 hs⟩
theorem Play.draw {G : Facts} (h : Play TP TI F R mem0 bp s p mem) (hl : R.k < mem0.length) (hs : Sub F G) (p' : Int) : Play TP TI G R mem0 bp s p' (mem.set R.k (R.blk p')) := by
  obtain ⟨oc, h1, h2⟩ := h.ex
  refine ⟨h.args, ?_, oc, ?_, outRow_to (OutRow.mono h2 hs) fun k hk _ => ?_⟩
  · rw [List.take_set, h.take, List.set_set]
  · rw [List.getElem?_set]; rw [if_neg (by omega)]; exact h1
  · rw [List.getElem?_set]; rw [if_neg (by omega)]
theorem Play.app {ex : List Blk} (h : Play TP TI F R mem0 bp s p mem) : Play TP TI F R mem0 bp s p (mem ++ ex) := by
  obtain ⟨oc, h1, h2⟩ := h.ex
  have hl := h.lt
  refine ⟨h.args, ?_, oc, ?_, outRow_to h2 fun k hk hk' => ?_⟩
  · rw [List.take_append_of_le_length (by omega)]; exact h.take
  · rw [List.getElem?_append_left hl]; exact h1
  · rw [List.getElem?_append_left hk']
theorem Play.upd (h : Play TP TI F R mem0 bp s p mem) {oc : C} (ho : mem[mem0.length]? = some (playBlk TP R bp oc s)) (s' : PS) (hx : s'.xs = s.xs) : Play TP TI F R mem0 bp s' p (mem.set mem0.length (playBlk TP R bp oc s')) := by
  obtain ⟨oc', h1, h2⟩ := h.ex
  have hl := h.lt
  have e : oc' = oc := by
    rw [h1] at ho
    simp only [playBlk, Option.some.injEq, Blk.mk.injEq, List.cons.injEq, true_and] at ho
    exact ho.1.1
  subst e
  refine ⟨by rw [hx]; exact h.args, ?_, oc', ?_, ?_⟩
  · rw [List.take_set_of_le (Nat.le_refl _)]; exact h.take
  · rw [List.getElem?_set]; simp [hl]
  · rw [hx]
    exact outRow_to h2 fun k hk _ => by rw [List.getElem?_set]; rw [if_neg (by omega)]
theorem args_snoc {xs : List Ins} {x : Ins} (h : ∀ y ∈ xs, y.args.length ≤ 3) (hx : x.args.length ≤ 3) : ∀ y ∈ xs ++ [x], y.args.length ≤ 3 := by
  intro y hy
  rcases List.mem_append.1 hy with h1 | h1
  · exact h y h1
  · rw [List.mem_singleton] at h1; rw [h1]; exact hx
theorem rowsC_take {rows : List (List Value)} {pad : List C} {n : Nat} (hr : ∀ r ∈ rows, r.length = 3) (hn : n = rows.length * 3) : (rowsC rows pad).take n = (List.flatten rows).map C.v := by
  unfold rowsC
  rw [List.take_left' (by rw [List.length_map, len_flat hr, hn])]
theorem rowsC_snoc (rows : List (List Value)) (r : List Value) (pad : List C) : (List.flatten rows).map C.v ++ (r.map C.v ++ pad) = rowsC (rows ++ [r]) pad := by simp [rowsC]
theorem rowsC_len {rows : List (List Value)} {pad : List C} (hr : ∀ r ∈ rows, r.length = 3) : (rowsC rows pad).length = rows.length * 3 + pad.length := by
  unfold rowsC; rw [List.length_append, List.length_map, len_flat hr]
theorem RdF.push {rows : List (List Value)} {xs : List Ins} {r : List Value} {x : Ins} (h : RdF F rows xs) (hl : rows.length = xs.length) (hr : RdR F r x) : RdF F (rows ++ [r]) (xs ++ [x]) := by
  refine ⟨by simp [hl], fun j r' x' h1 h2 => ?_⟩
  rw [List.getElem?_append] at h1 h2
  rw [hl] at h1
  split at h1
  · rename_i hj
    rw [if_pos hj] at h2
    exact h.at' j r' x' h1 h2
  · rename_i hj
    rw [if_neg hj] at h2
    have : j - xs.length = 0 := by
      rcases Nat.eq_zero_or_pos (j - xs.length) with e | e
      · exact e
      · rw [List.getElem?_eq_none (by simp; omega)] at h1; simp at h1
    rw [this] at h1 h2
    simp at h1 h2
    subst h1 h2
    exact hr
theorem RdF.nil' (F : Facts) : RdF F [] [] := ⟨by simp, by simp⟩
theorem OutRow.last {n0 : Nat} {oc : C} {xs : List Ins} {x : Ins} (h : OutRow TI F n0 oc (xs ++ [x]) mem) :
    ∃ ko bo cap rows pad, oc = .s ko bo 0 (xs.length + 1) cap ∧ n0 < ko ∧ mem[ko]? = some ⟨bo, rowsC rows pad, TI⟩ ∧ (rowsC rows pad)[xs.length * 3]? = some (.v (.int .i64 x.code)) ∧ xs.length + 1 ≤ cap ∧ cap ≤ maxLen ∧ (rowsC rows pad).length = cap * 3 := by
  rcases h with ⟨_, h⟩ | ⟨ko, bo, cap, rows, pad, h1, h2, h3, h4, h5, h6, h7, h8⟩
  · simp at h
  · simp only [List.length_append, List.length_cons, List.length_nil] at h1 h5 h6 h8
    have hr3 := h4.len
    obtain ⟨r, hr⟩ : ∃ r, rows[xs.length]? = some r := ⟨rows[xs.length]'(by omega), by simp⟩
    have hx : (xs ++ [x])[xs.length]? = some x := by simp
    obtain ⟨o, c, e, _⟩ := (h4.at' _ _ _ hr hx).ex
    have hf := flat_at rows xs.length r hr3 hr 0 (.int .i64 x.code) (by rw [e]; rfl)
    refine ⟨ko, bo, cap, rows, pad, h1, h2, h3, ?_, by omega, h7, ?_⟩
    · unfold rowsC
      have hl := (List.getElem?_eq_some_iff.1 hf).1
      rw [List.getElem?_append_left (by rw [List.length_map]; simpa using hl), List.getElem?_map]
      rw [Nat.add_zero] at hf
      rw [hf]; rfl
    · rw [rowsC_len hr3]; omega
end Go.Sx
namespace Go.Proofs.YtclbanhoiaieaaaGreatDoor
open Go Go.Sx
open List renaming all_eq_true → Y1, zipIdx → Y5
open Bool renaming exists_bool → Y3, forall_bool → Y4
attribute [local simp] Sx.vcsE1 Sx.vcsE2 Sx.vcsE3 Sx.vcsE4 Sx.vcsE5 Sx.vcsE6 Sx.vcsE7 Sx.vcsE8 Sx.vcsE9 Sx.vcsE10 Sx.vcsE11 Sx.vcsE12 Sx.vcsE13 Sx.vcsE14 Sx.vcsE15 Sx.vcsE16 Sx.vcsE17 Sx.vcsE18 Sx.vcsE19 Sx.get Sx.look Sx.put Sx.pureFn Sx.findOrd Sx.unF Sx.dstOk Sx.isFloatT Sx.endVC Sx.resFn Sx.packC Sx.newFn Sx.storeFn Sx.buildFn Sx.known Sx.aggT Sx.cellsC Sx.findCon Sx.allV Sx.partsV Sx.partsC Sx.fillL Sx.exitTo Sx.fAr Sx.eqFn Sx.eqFieldsFn Sx.eqElemsFn Sx.partFn Sx.sliceFn Sx.boundFn Sx.AppV Sx.CopyV Sx.MakeSliceV Sx.NewsV Sx.GrowV Sx.TextV Sx.bytesL Sx.notInt Sx.typeAt Sx.argAt Sx.den Go.undef Go.Value.cells Go.Value.oneCell' Sx.Con.pure Sx.Con.some Sx.Con.read Sx.Con.make Sx.Con.ext Sx.Con.rel Sx.Con.extS Sx.Con.draw Sx.Con.step Sx.C.one Sx.Draws.steps

abbrev Pl := Play 206 57
theorem put_nil {F : Facts} {R : Rdr} {mem0 mem : List Blk} {bp : Nat} {s : PS} {p p' : Int} (hP : Pl F R mem0 bp s p mem) (hl : R.k < mem0.length) (hx0 : s.xs = []) {b1 b2 cap : Nat} {pad : List C} {r : List Value} {x : Ins} {base fresh : Bool} (hr : RdR F r x) (hxa : x.args.length ≤ 3) (h1 : 1 ≤ cap) (h2 : cap ≤ maxLen) (h3 : pad.length = (cap - 1) * 3) :
    Pl F R mem0 bp ⟨s.xs ++ [x], s.bits, s.forks, base, fresh⟩ p' ((mem.set R.k (R.blk p')).set mem0.length ⟨bp, [.p R.k R.b 0, .s (mem.length + 1) b2 0 1 cap, .v (.int .i64 s.bits), .v (.int .i64 s.forks), .v (.bool base), .v (.bool fresh)], 206⟩ ++ [⟨b1, r.map C.v, 57⟩, ⟨b2, r.map C.v ++ pad, 57⟩]) := by
  have hn := hP.lt
  refine ⟨args_snoc hP.args hxa, ?_, .s (mem.length + 1) b2 0 1 cap, ?_, Or.inr ⟨mem.length + 1, b2, cap, [r], pad, by rw [hx0]; rfl, by omega, ?_, by rw [hx0]; exact RdF.push (RdF.nil' F) rfl hr, by rw [hx0]; rfl, by rw [hx0]; exact h1, h2, by rw [hx0]; exact h3⟩⟩
  · rw [List.take_append_of_le_length (by simp; omega), List.take_set_of_le (Nat.le_refl _), List.take_set, hP.take, List.set_set]
  · rw [List.getElem?_append_left (by simp; omega), List.getElem?_set]
    simp [hn, playBlk]
  · rw [List.getElem?_append_right (by simp)]
    simp [rowsC]
theorem put_row {F : Facts} {R : Rdr} {mem0 mem : List Blk} {bp : Nat} {s : PS} {p p' : Int} (hP : Pl F R mem0 bp s p mem) (hl : R.k < mem0.length) {ko bo b1 b2 cap' : Nat} {rows : List (List Value)} {pad pad' : List C} {r : List Value} {x : Ins} {base fresh : Bool}
    (hko : mem0.length < ko) (hm : mem[ko]? = some ⟨bo, rowsC rows pad, 57⟩) (hf : RdF F rows s.xs) (hrl : rows.length = s.xs.length) (hr : RdR F r x) (hxa : x.args.length ≤ 3) (h1 : s.xs.length + 1 ≤ cap') (h2 : cap' ≤ maxLen) (h3 : pad'.length = (cap' - (s.xs.length + 1)) * 3) :
    Pl F R mem0 bp ⟨s.xs ++ [x], s.bits, s.forks, base, fresh⟩ p' (((mem.set R.k (R.blk p')).set ko ⟨b2, (List.map (List.map C.v) rows).flatten ++ (r.map C.v ++ pad'), 57⟩).set mem0.length ⟨bp, [.p R.k R.b 0, .s ko b2 0 (s.xs.length + 1) cap', .v (.int .i64 s.bits), .v (.int .i64 s.forks), .v (.bool base), .v (.bool fresh)], 206⟩ ++ [⟨b1, r.map C.v, 57⟩]) := by
  have hn := hP.lt
  have hkl := (List.getElem?_eq_some_iff.1 hm).1
  refine ⟨args_snoc hP.args hxa, ?_, .s ko b2 0 (s.xs.length + 1) cap', ?_, Or.inr ⟨ko, b2, cap', rows ++ [r], pad', by simp, hko, ?_, RdF.push hf hrl hr, by simp [hrl], by simpa using h1, h2, by simpa using h3⟩⟩
  · rw [List.take_append_of_le_length (by simp; omega), List.take_set_of_le (Nat.le_refl _), List.take_set_of_le (by omega), List.take_set, hP.take, List.set_set]
  · rw [List.getElem?_append_left (by simp; omega), List.getElem?_set]
    simp [hn, playBlk]
  · rw [List.getElem?_append_left (by simp; omega), List.getElem?_set, if_neg (by omega), List.getElem?_set]
    rw [if_pos rfl, if_pos (by simpa using hkl), ← List.map_flatten, rowsC_snoc]
theorem putC_c (code : Int) (R : Rdr) (mem0 : List Blk) (bp : Nat) (s : PS) (p : Int) (cx : Cx) (mem : List Blk) (w : World) (hpre : R.ty = 160 ∧ R.Is (factF cx) mem0 ∧ Pl (factF cx) R mem0 bp s p mem ∧ 0 ≤ p ∧ p + 100 ≤ 1125899906842624 ∧ s.xs.length ≤ 100000) (hm : MemRel cx mem w) :
    Calls Tryz.prog 252 (([.p mem0.length bp 0, .v (.int .i64 code)] : List C).map den).toArray w fun e w' => ∃ cx' c mem', e = .returned (den c) ∧ MemRel cx' mem' w' ∧ c = .v (.tuple #[]) ∧ Le cx cx' ∧ ∃ x p', Pl (factF cx') R mem0 bp ⟨s.xs ++ [x], s.bits, s.forks, putBase s.base code, code == 10⟩ p' mem' ∧ x.code = code ∧ x.args.length ≤ 3 ∧ p ≤ p' ∧ p' ≤ p + 100 := by
  refine step_of_vcs ⟨[l4ContactC, l4CoilC], [(5, [(0, false), (1, false), (2, false), (3, false), (4, false), (5, false), (6, false), (4, true), (7, false), (8, false), (9, false), (10, false)])]⟩ hmx Tryz.func252 rfl (by kernel_rfl) (args := [.p mem0.length bp 0, .v (.int .i64 code)]) (by simp [Tryz.ntmps252]) hm (fun cx' c mem' => c = .v (.tuple #[]) ∧ Le cx cx' ∧ ∃ x p', Pl (factF cx') R mem0 bp ⟨s.xs ++ [x], s.bits, s.forks, putBase s.base code, code == 10⟩ p' mem' ∧ x.code = code ∧ x.args.length ≤ 3 ∧ p ≤ p' ∧ p' ≤ p + 100) 400 ?_
  obtain ⟨hty, hR, hP, hp, hpc, hl⟩ := hpre
  have hlt := hR.lt
  have hn := hP.lt
  have hRm : R.Is (factF cx) mem := hR.on (Sub.refl _) (by omega)
  have hRl := hRm.lt
  have hne : ¬ R.k = mem0.length := by omega
  obtain ⟨oc, hk, ho⟩ := hP.ex
  unfold playBlk at hk
  have hk2 := (List.getElem?_eq_some_iff.1 hk).2
  rw [← hP.self hlt]
  by_cases h3 : code ≤ 3
  · have h10 : ¬ code = 10 ∧ ¬ code = 7 ∧ (code == 10) = false := by refine ⟨by omega, by omega, by simp; omega⟩
    have hb : putBase s.base code = s.base := by unfold putBase; simp [h10]
    rcases ho with ⟨rfl, hx0⟩ | ⟨ko, bo, cap, rows, pad, rfl, hko, hm', hf, hrl, hxc, hcm, hpad⟩
    · simp (maxSteps := 4000000) -dsimp [-Y1, -Array.all_eq_true, -Y3, -Y4, and_assoc, Y5, Tryz.f252, l4ContactC, l4CoilC, h3, h10, hn, hRl, hne, hk, hk2, List.getElem?_append, List.getElem?_set, List.set_append]
      intro b
      refine l4ContactC_at hRm hty (Le.refl cx) ⟨by omega, by omega⟩ trivial ?_
      rintro cx1 _ p1 hle1 - q1 q2 ⟨op, xs, ⟨⟨o, icap, rfl, hd, c1, c2⟩⟩, hxl⟩
      simp (maxSteps := 4000000) -dsimp [-Y1, -Array.all_eq_true, -Y3, -Y4, and_assoc, Y5, Tryz.f252, l4ContactC, l4CoilC, h3, h10, hn, hRl, hne, hk, hk2, List.getElem?_append, List.getElem?_set, List.set_append]
      intro cx2 lit hle2 hl2
      rw [RdO.sl (size := 3) (rows := [[.int .i64 code, .int .i64 op, .slice o xs.length icap]]) ((hl2.mono ((sub_new cx2).trans (sub_now _ _))).rows (by decide) (by simp) (by simp)) (by decide) (by simp)]
      unfold GrowV
      simp (maxSteps := 4000000) -dsimp [-Y1, -Array.all_eq_true, -Y3, -Y4, and_assoc, Y5, Tryz.f252, l4ContactC, l4CoilC, h3, h10, hn, hRl, hne, hk, hk2, List.getElem?_append, List.getElem?_set, List.set_append]
      refine ⟨by decide, fun b2 cap2 pad2 d1 d2 d3 => ?_⟩
      have hpl := put_nil (b1 := b) (b2 := b2) (p' := p1) (x := ⟨code, op, xs⟩) (base := s.base) (fresh := false) (hP := Play.mono hP (hle1.trans hle2).fact) hlt hx0 (RdR.mk ⟨o, icap, rfl, hd.mono hle2.fact, c1, c2⟩) (by first | (show xs.length ≤ 3; omega) | simp) d1 d2 d3
      exact EndK.all ⟨rfl, hle1.trans hle2, ⟨code, op, xs⟩, p1, by rw [hb, h10.2.2]; exact hpl, rfl, by omega, by omega, by omega⟩
    · have hkl := (List.getElem?_eq_some_iff.1 hm').1
      have hm2 := (List.getElem?_eq_some_iff.1 hm').2
      have hk3 : ¬ R.k = ko ∧ ¬ mem0.length = ko ∧ ¬ ko = mem0.length := by omega
      have hr3 : ∀ r ∈ rows, r.length = 3 := hf.len
      have hrc : (rowsC rows pad).length = cap * 3 := by rw [rowsC_len hr3, hrl]; omega
      have hrt := rowsC_take (pad := pad) hr3 (n := s.xs.length * 3) (by rw [hrl])
      have hx1 : s.xs.length + 1 ≤ maxLen := by unfold maxLen; omega
      simp (maxSteps := 4000000) -dsimp [-Y1, -Array.all_eq_true, -Y3, -Y4, and_assoc, Y5, Tryz.f252, l4ContactC, l4CoilC, h3, h10, hn, hRl, hne, hk, hk2, List.getElem?_append, List.getElem?_set, List.set_append, hm', hm2, hkl, hk3, hrc, hrt, hxc, hcm, hx1]
      intro b
      refine l4ContactC_at hRm hty (Le.refl cx) ⟨by omega, by omega⟩ trivial ?_
      rintro cx1 _ p1 hle1 - q1 q2 ⟨op, xs, ⟨⟨o, icap, rfl, hd, c1, c2⟩⟩, hxl⟩
      simp (maxSteps := 4000000) -dsimp [-Y1, -Array.all_eq_true, -Y3, -Y4, and_assoc, Y5, Tryz.f252, l4ContactC, l4CoilC, h3, h10, hn, hRl, hne, hk, hk2, List.getElem?_append, List.getElem?_set, List.set_append, hm', hm2, hkl, hk3, hrc, hrt, hxc, hcm, hx1]
      intro cx2 lit hle2 hl2
      rw [RdO.sl (size := 3) (rows := [[.int .i64 code, .int .i64 op, .slice o xs.length icap]]) ((hl2.mono ((sub_new cx2).trans (sub_now _ _))).rows (by decide) (by simp) (by simp)) (by decide) (by simp)]
      unfold GrowV
      simp (maxSteps := 4000000) -dsimp [-Y1, -Array.all_eq_true, -Y3, -Y4, and_assoc, Y5, Tryz.f252, l4ContactC, l4CoilC, h3, h10, hn, hRl, hne, hk, hk2, List.getElem?_append, List.getElem?_set, List.set_append, hm', hm2, hkl, hk3, hrc, hrt, hxc, hcm, hx1]
      refine ⟨by omega, fun b2 cap2 pad2 d1 d2 d3 => ?_⟩
      have hpl := put_row (b1 := b) (b2 := b2) (p' := p1) (x := ⟨code, op, xs⟩) (base := s.base) (fresh := false) (hP := Play.mono hP (hle1.trans hle2).fact) hlt hko hm' (hf.mono (hle1.trans hle2).fact) hrl (RdR.mk ⟨o, icap, rfl, hd.mono hle2.fact, c1, c2⟩) (by first | (show xs.length ≤ 3; omega) | simp) d1 d2 d3
      exact EndK.all ⟨rfl, hle1.trans hle2, ⟨code, op, xs⟩, p1, by rw [hb, h10.2.2]; exact hpl, rfl, by omega, by omega, by omega⟩
  by_cases h10 : code = 10
  · subst h10
    have h3 : ¬ (10 : Int) ≤ 3 := by omega
    have hb : putBase s.base 10 = true := by unfold putBase; simp
    rcases ho with ⟨rfl, hx0⟩ | ⟨ko, bo, cap, rows, pad, rfl, hko, hm', hf, hrl, hxc, hcm, hpad⟩
    · simp (maxSteps := 4000000) -dsimp [-Y1, -Array.all_eq_true, -Y3, -Y4, and_assoc, Y5, Tryz.f252, l4ContactC, l4CoilC, hn, hRl, hne, hk, hk2, List.getElem?_append, List.getElem?_set, List.set_append]
      intro b
      refine l4CoilC_at hRm hty (Le.refl cx) ⟨by omega, by omega⟩ trivial ?_
      rintro cx1 _ p1 hle1 - q1 q2 ⟨op, xs, ⟨⟨o, icap, rfl, hd, c1, c2⟩⟩, hxl⟩
      simp (maxSteps := 4000000) -dsimp [-Y1, -Array.all_eq_true, -Y3, -Y4, and_assoc, Y5, Tryz.f252, l4ContactC, l4CoilC, hn, hRl, hne, hk, hk2, List.getElem?_append, List.getElem?_set, List.set_append]
      intro cx2 lit hle2 hl2
      rw [RdO.sl (size := 3) (rows := [[.int .i64 10, .int .i64 op, .slice o xs.length icap]]) ((hl2.mono ((sub_new cx2).trans (sub_now _ _))).rows (by decide) (by simp) (by simp)) (by decide) (by simp)]
      unfold GrowV
      simp (maxSteps := 4000000) -dsimp [-Y1, -Array.all_eq_true, -Y3, -Y4, and_assoc, Y5, Tryz.f252, l4ContactC, l4CoilC, hn, hRl, hne, hk, hk2, List.getElem?_append, List.getElem?_set, List.set_append]
      refine ⟨by decide, fun b2 cap2 pad2 d1 d2 d3 => ?_⟩
      have hpl := put_nil (b1 := b) (b2 := b2) (p' := p1) (x := ⟨10, op, xs⟩) (base := true) (fresh := true) (hP := Play.mono hP (hle1.trans hle2).fact) hlt hx0 (RdR.mk ⟨o, icap, rfl, hd.mono hle2.fact, c1, c2⟩) (by first | (show xs.length ≤ 3; omega) | simp) d1 d2 d3
      exact EndK.all ⟨rfl, hle1.trans hle2, ⟨10, op, xs⟩, p1, by rw [hb]; exact hpl, rfl, by omega, by omega, by omega⟩
    · have hkl := (List.getElem?_eq_some_iff.1 hm').1
      have hm2 := (List.getElem?_eq_some_iff.1 hm').2
      have hk3 : ¬ R.k = ko ∧ ¬ mem0.length = ko ∧ ¬ ko = mem0.length := by omega
      have hr3 : ∀ r ∈ rows, r.length = 3 := hf.len
      have hrc : (rowsC rows pad).length = cap * 3 := by rw [rowsC_len hr3, hrl]; omega
      have hrt := rowsC_take (pad := pad) hr3 (n := s.xs.length * 3) (by rw [hrl])
      have hx1 : s.xs.length + 1 ≤ maxLen := by unfold maxLen; omega
      simp (maxSteps := 4000000) -dsimp [-Y1, -Array.all_eq_true, -Y3, -Y4, and_assoc, Y5, Tryz.f252, l4ContactC, l4CoilC, hn, hRl, hne, hk, hk2, List.getElem?_append, List.getElem?_set, List.set_append, hm', hm2, hkl, hk3, hrc, hrt, hxc, hcm, hx1]
      intro b
      refine l4CoilC_at hRm hty (Le.refl cx) ⟨by omega, by omega⟩ trivial ?_
      rintro cx1 _ p1 hle1 - q1 q2 ⟨op, xs, ⟨⟨o, icap, rfl, hd, c1, c2⟩⟩, hxl⟩
      simp (maxSteps := 4000000) -dsimp [-Y1, -Array.all_eq_true, -Y3, -Y4, and_assoc, Y5, Tryz.f252, l4ContactC, l4CoilC, hn, hRl, hne, hk, hk2, List.getElem?_append, List.getElem?_set, List.set_append, hm', hm2, hkl, hk3, hrc, hrt, hxc, hcm, hx1]
      intro cx2 lit hle2 hl2
      rw [RdO.sl (size := 3) (rows := [[.int .i64 10, .int .i64 op, .slice o xs.length icap]]) ((hl2.mono ((sub_new cx2).trans (sub_now _ _))).rows (by decide) (by simp) (by simp)) (by decide) (by simp)]
      unfold GrowV
      simp (maxSteps := 4000000) -dsimp [-Y1, -Array.all_eq_true, -Y3, -Y4, and_assoc, Y5, Tryz.f252, l4ContactC, l4CoilC, hn, hRl, hne, hk, hk2, List.getElem?_append, List.getElem?_set, List.set_append, hm', hm2, hkl, hk3, hrc, hrt, hxc, hcm, hx1]
      refine ⟨by omega, fun b2 cap2 pad2 d1 d2 d3 => ?_⟩
      have hpl := put_row (b1 := b) (b2 := b2) (p' := p1) (x := ⟨10, op, xs⟩) (base := true) (fresh := true) (hP := Play.mono hP (hle1.trans hle2).fact) hlt hko hm' (hf.mono (hle1.trans hle2).fact) hrl (RdR.mk ⟨o, icap, rfl, hd.mono hle2.fact, c1, c2⟩) (by first | (show xs.length ≤ 3; omega) | simp) d1 d2 d3
      exact EndK.all ⟨rfl, hle1.trans hle2, ⟨10, op, xs⟩, p1, by rw [hb]; exact hpl, rfl, by omega, by omega, by omega⟩
  by_cases h7 : code = 7
  · subst h7
    have hb : putBase s.base 7 = true := by unfold putBase; simp
    rcases ho with ⟨rfl, hx0⟩ | ⟨ko, bo, cap, rows, pad, rfl, hko, hm', hf, hrl, hxc, hcm, hpad⟩
    · simp (maxSteps := 4000000) -dsimp [-Y1, -Array.all_eq_true, -Y3, -Y4, and_assoc, Y5, Tryz.f252, l4ContactC, l4CoilC, hn, hRl, hne, hk, hk2, List.getElem?_append, List.getElem?_set, List.set_append]
      intro b
      intro cx2 lit hle2 hl2
      rw [RdO.sl (size := 3) (rows := [[.int .i64 7, .int .i64 0, .slice none 0 0]]) ((hl2.mono ((sub_new cx2).trans (sub_now _ _))).rows (by decide) (by simp) (by simp)) (by decide) (by simp)]
      unfold GrowV
      simp (maxSteps := 4000000) -dsimp [-Y1, -Array.all_eq_true, -Y3, -Y4, and_assoc, Y5, Tryz.f252, l4ContactC, l4CoilC, hn, hRl, hne, hk, hk2, List.getElem?_append, List.getElem?_set, List.set_append]
      refine ⟨by decide, fun b2 cap2 pad2 d1 d2 d3 => ?_⟩
      have hpl := put_nil (b1 := b) (b2 := b2) (p' := p) (x := ⟨7, 0, []⟩) (base := true) (fresh := false) (hP := Play.mono hP (hle2).fact) hlt hx0 (RdR.mk ⟨none, 0, rfl, RdO.nil _ _ _, by simp, by decide⟩) (by first | (show xs.length ≤ 3; omega) | simp) d1 d2 d3
      exact EndK.all ⟨rfl, hle2, ⟨7, 0, []⟩, p, by rw [hb]; exact hpl, rfl, by simp, by omega, by omega⟩
    · have hkl := (List.getElem?_eq_some_iff.1 hm').1
      have hm2 := (List.getElem?_eq_some_iff.1 hm').2
      have hk3 : ¬ R.k = ko ∧ ¬ mem0.length = ko ∧ ¬ ko = mem0.length := by omega
      have hr3 : ∀ r ∈ rows, r.length = 3 := hf.len
      have hrc : (rowsC rows pad).length = cap * 3 := by rw [rowsC_len hr3, hrl]; omega
      have hrt := rowsC_take (pad := pad) hr3 (n := s.xs.length * 3) (by rw [hrl])
      have hx1 : s.xs.length + 1 ≤ maxLen := by unfold maxLen; omega
      simp (maxSteps := 4000000) -dsimp [-Y1, -Array.all_eq_true, -Y3, -Y4, and_assoc, Y5, Tryz.f252, l4ContactC, l4CoilC, hn, hRl, hne, hk, hk2, List.getElem?_append, List.getElem?_set, List.set_append, hm', hm2, hkl, hk3, hrc, hrt, hxc, hcm, hx1]
      intro b
      intro cx2 lit hle2 hl2
      rw [RdO.sl (size := 3) (rows := [[.int .i64 7, .int .i64 0, .slice none 0 0]]) ((hl2.mono ((sub_new cx2).trans (sub_now _ _))).rows (by decide) (by simp) (by simp)) (by decide) (by simp)]
      unfold GrowV
      simp (maxSteps := 4000000) -dsimp [-Y1, -Array.all_eq_true, -Y3, -Y4, and_assoc, Y5, Tryz.f252, l4ContactC, l4CoilC, hn, hRl, hne, hk, hk2, List.getElem?_append, List.getElem?_set, List.set_append, hm', hm2, hkl, hk3, hrc, hrt, hxc, hcm, hx1]
      refine ⟨by omega, fun b2 cap2 pad2 d1 d2 d3 => ?_⟩
      have hpl := put_row (b1 := b) (b2 := b2) (p' := p) (x := ⟨7, 0, []⟩) (base := true) (fresh := false) (hP := Play.mono hP (hle2).fact) hlt hko hm' (hf.mono (hle2).fact) hrl (RdR.mk ⟨none, 0, rfl, RdO.nil _ _ _, by simp, by decide⟩) (by first | (show xs.length ≤ 3; omega) | simp) d1 d2 d3
      exact EndK.all ⟨rfl, hle2, ⟨7, 0, []⟩, p, by rw [hb]; exact hpl, rfl, by simp, by omega, by omega⟩
  · have h11 : (code == 10) = false := beq_eq_false_iff_ne.mpr h10
    have hb : putBase s.base code = s.base := by unfold putBase; rw [h11, beq_eq_false_iff_ne.mpr h7]; simp
    rcases ho with ⟨rfl, hx0⟩ | ⟨ko, bo, cap, rows, pad, rfl, hko, hm', hf, hrl, hxc, hcm, hpad⟩
    · simp (maxSteps := 4000000) -dsimp [-Y1, -Array.all_eq_true, -Y3, -Y4, and_assoc, Y5, Tryz.f252, l4ContactC, l4CoilC, h3, h7, h11, h10, hn, hRl, hne, hk, hk2, List.getElem?_append, List.getElem?_set, List.set_append]
      intro b
      intro cx2 lit hle2 hl2
      rw [RdO.sl (size := 3) (rows := [[.int .i64 code, .int .i64 0, .slice none 0 0]]) ((hl2.mono ((sub_new cx2).trans (sub_now _ _))).rows (by decide) (by simp) (by simp)) (by decide) (by simp)]
      unfold GrowV
      simp (maxSteps := 4000000) -dsimp [-Y1, -Array.all_eq_true, -Y3, -Y4, and_assoc, Y5, Tryz.f252, l4ContactC, l4CoilC, h3, h7, h11, h10, hn, hRl, hne, hk, hk2, List.getElem?_append, List.getElem?_set, List.set_append]
      refine ⟨by decide, fun b2 cap2 pad2 d1 d2 d3 => ?_⟩
      have hpl := put_nil (b1 := b) (b2 := b2) (p' := p) (x := ⟨code, 0, []⟩) (base := s.base) (fresh := false) (hP := Play.mono hP (hle2).fact) hlt hx0 (RdR.mk ⟨none, 0, rfl, RdO.nil _ _ _, by simp, by decide⟩) (by first | (show xs.length ≤ 3; omega) | simp) d1 d2 d3
      exact EndK.all ⟨rfl, hle2, ⟨code, 0, []⟩, p, by rw [hb, h11]; exact hpl, rfl, by simp, by omega, by omega⟩
    · have hkl := (List.getElem?_eq_some_iff.1 hm').1
      have hm2 := (List.getElem?_eq_some_iff.1 hm').2
      have hk3 : ¬ R.k = ko ∧ ¬ mem0.length = ko ∧ ¬ ko = mem0.length := by omega
      have hr3 : ∀ r ∈ rows, r.length = 3 := hf.len
      have hrc : (rowsC rows pad).length = cap * 3 := by rw [rowsC_len hr3, hrl]; omega
      have hrt := rowsC_take (pad := pad) hr3 (n := s.xs.length * 3) (by rw [hrl])
      have hx1 : s.xs.length + 1 ≤ maxLen := by unfold maxLen; omega
      simp (maxSteps := 4000000) -dsimp [-Y1, -Array.all_eq_true, -Y3, -Y4, and_assoc, Y5, Tryz.f252, l4ContactC, l4CoilC, h3, h7, h11, h10, hn, hRl, hne, hk, hk2, List.getElem?_append, List.getElem?_set, List.set_append, hm', hm2, hkl, hk3, hrc, hrt, hxc, hcm, hx1]
      intro b
      intro cx2 lit hle2 hl2
      rw [RdO.sl (size := 3) (rows := [[.int .i64 code, .int .i64 0, .slice none 0 0]]) ((hl2.mono ((sub_new cx2).trans (sub_now _ _))).rows (by decide) (by simp) (by simp)) (by decide) (by simp)]
      unfold GrowV
      simp (maxSteps := 4000000) -dsimp [-Y1, -Array.all_eq_true, -Y3, -Y4, and_assoc, Y5, Tryz.f252, l4ContactC, l4CoilC, h3, h7, h11, h10, hn, hRl, hne, hk, hk2, List.getElem?_append, List.getElem?_set, List.set_append, hm', hm2, hkl, hk3, hrc, hrt, hxc, hcm, hx1]
      refine ⟨by omega, fun b2 cap2 pad2 d1 d2 d3 => ?_⟩
      have hpl := put_row (b1 := b) (b2 := b2) (p' := p) (x := ⟨code, 0, []⟩) (base := s.base) (fresh := false) (hP := Play.mono hP (hle2).fact) hlt hko hm' (hf.mono (hle2).fact) hrl (RdR.mk ⟨none, 0, rfl, RdO.nil _ _ _, by simp, by decide⟩) (by first | (show xs.length ≤ 3; omega) | simp) d1 d2 d3
      exact EndK.all ⟨rfl, hle2, ⟨code, 0, []⟩, p, by rw [hb, h11]; exact hpl, rfl, by simp, by omega, by omega⟩
def putC_S : Gens Tryz.prog 252 where
  ι := ((Int) × (Rdr) × (List Blk) × (Nat) × (PS) × (Int))
  A := fun (i : ((Int) × (Rdr) × (List Blk) × (Nat) × (PS) × (Int))) => match i with | (code, R, mem0, bp, s, p) => [.p mem0.length bp 0, .v (.int .i64 code)]
  pre := fun (i : ((Int) × (Rdr) × (List Blk) × (Nat) × (PS) × (Int))) (cx : Cx) (mem : List Blk) => match i with | (code, R, mem0, bp, s, p) => R.ty = 160 ∧ R.Is (factF cx) mem0 ∧ Pl (factF cx) R mem0 bp s p mem ∧ 0 ≤ p ∧ p + 100 ≤ 1125899906842624 ∧ s.xs.length ≤ 100000
  post := fun (i : ((Int) × (Rdr) × (List Blk) × (Nat) × (PS) × (Int))) (cx : Cx) (mem : List Blk) (cx' : Cx) (c : C) (mem' : List Blk) => match i with | (code, R, mem0, bp, s, p) => c = .v (.tuple #[]) ∧ Le cx cx' ∧ ∃ x p', Pl (factF cx') R mem0 bp ⟨s.xs ++ [x], s.bits, s.forks, putBase s.base code, code == 10⟩ p' mem' ∧ x.code = code ∧ x.args.length ≤ 3 ∧ p ≤ p' ∧ p' ≤ p + 100
  enter := Tryz.call252
  h := fun i cx mem w hp hm => putC_c i.1 i.2.1 i.2.2.1 i.2.2.2.1 i.2.2.2.2.1 i.2.2.2.2.2 cx mem w hp hm
def putC : Con Tryz.prog := Con.gen putC_S
theorem putC_at {code : Int} {R : Rdr} {mem0 : List Blk} {bp : Nat} {s : PS} {p : Int} {d : Nat} {cx : Cx} {mem : List Blk} {K : Cx → C → List Blk → Prop} (hpre : R.ty = 160 ∧ R.Is (factF cx) mem0 ∧ Pl (factF cx) R mem0 bp s p mem ∧ 0 ≤ p ∧ p + 100 ≤ 1125899906842624 ∧ s.xs.length ≤ 100000) (h : ∀ cx' c mem', (c = .v (.tuple #[]) ∧ Le cx cx' ∧ ∃ x p', Pl (factF cx') R mem0 bp ⟨s.xs ++ [x], s.bits, s.forks, putBase s.base code, code == 10⟩ p' mem' ∧ x.code = code ∧ x.args.length ≤ 3 ∧ p ≤ p' ∧ p' ≤ p + 100) → K cx' c mem') : GenV d putC_S cx [.p mem0.length bp 0, .v (.int .i64 code)] mem K := ⟨(code, R, mem0, bp, s, p), rfl, hpre, h⟩

theorem pick_play {d : Nat} {n p : Int} {K : Cx → C → List Blk → Prop} {R : Rdr} {cx0 cx : Cx} {mem0 mem : List Blk} {bp : Nat} {s : PS} (hR : R.Is (factF cx0) mem0) (hty : R.ty = 160) (hle : Le cx0 cx) (hP : Pl (factF cx) R mem0 bp s p mem)
    (hp : 0 ≤ p ∧ p + 1 ≤ 1125899906842624) (hn : n ≤ 1048576)
    (h : ∀ cx' v p' mem', Le cx0 cx' → Pl (factF cx') R mem0 bp s p' mem' → p ≤ p' → p' ≤ p + 1 → (∃ x, v = .int .i64 x ∧ 0 ≤ x ∧ (x < n ∨ x = 0)) → K cx' (.v v) mem') :
    DrawV d pickC_S cx [.p R.k R.b 0, .v (.int .i64 n)] mem K := by
  have hs := hP.self hR.lt
  have hl := hP.lt
  rw [← hs]
  exact pickC_at0 (hR.on hle.fact (by omega)) hty (Le.refl cx) hp hn fun cx' v p' h1 h2 h3 h4 h5 => h cx' v p' _ (hle.trans h1) (hP.draw hR.lt h1.fact p') h3 h4 h5
theorem put_play {d : Nat} {code p : Int} {K : Cx → C → List Blk → Prop} {R : Rdr} {cx0 cx1 cx : Cx} {mem0 mem : List Blk} {bp : Nat} {s : PS} (hR : R.Is (factF cx0) mem0) (hty : R.ty = 160) (hle : Le cx0 cx1) (hle2 : Le cx1 cx) (hP : Pl (factF cx) R mem0 bp s p mem)
    (hp : 0 ≤ p ∧ p + 100 ≤ 1125899906842624) (hl : s.xs.length ≤ 100000)
    (h : ∀ cx' x p' mem', Le cx1 cx' → Pl (factF cx') R mem0 bp ⟨s.xs ++ [x], s.bits, s.forks, putBase s.base code, code == 10⟩ p' mem' → x.code = code → p ≤ p' → p' ≤ p + 100 → K cx' (.v (.tuple #[])) mem') :
    GenV d putC_S cx [.p mem0.length bp 0, .v (.int .i64 code)] mem K := by
  refine putC_at ⟨hty, hR.on (hle.trans hle2).fact (Nat.le_refl _), hP, hp.1, hp.2, hl⟩ ?_
  rintro cx' c mem' ⟨rfl, h1, x, p', h2, h3, h4, h5, h6⟩
  exact h _ _ _ _ (hle2.trans h1) h2 h3 h5 h6
theorem Play.blk {F : Facts} {R : Rdr} {mem0 mem : List Blk} {bp : Nat} {s : PS} {p : Int} (hP : Pl F R mem0 bp s p mem) : ∃ oc, mem[mem0.length]? = some ⟨bp, [.p R.k R.b 0, oc, .v (.int .i64 s.bits), .v (.int .i64 s.forks), .v (.bool s.base), .v (.bool s.fresh)], 206⟩ := by
  obtain ⟨oc, h, _⟩ := hP.ex
  exact ⟨oc, h⟩
theorem Play.upd' {F : Facts} {R : Rdr} {mem0 mem : List Blk} {bp : Nat} {s : PS} {p : Int} (hP : Pl F R mem0 bp s p mem) {oc : C} (hk : mem[mem0.length]? = some ⟨bp, [.p R.k R.b 0, oc, .v (.int .i64 s.bits), .v (.int .i64 s.forks), .v (.bool s.base), .v (.bool s.fresh)], 206⟩)
    (bits forks : Int) (base fresh : Bool) : Pl F R mem0 bp ⟨s.xs, bits, forks, base, fresh⟩ p (mem.set mem0.length ⟨bp, [.p R.k R.b 0, oc, .v (.int .i64 bits), .v (.int .i64 forks), .v (.bool base), .v (.bool fresh)], 206⟩) :=
  hP.upd hk ⟨s.xs, bits, forks, base, fresh⟩ rfl
theorem closeC_c (R : Rdr) (mem0 : List Blk) (bp : Nat) (s : PS) (p : Int) (cx : Cx) (mem : List Blk) (w : World) (hpre : R.ty = 160 ∧ R.Is (factF cx) mem0 ∧ Pl (factF cx) R mem0 bp s p mem ∧ 0 ≤ p ∧ p + 4000 ≤ 1125899906842624 ∧ s.xs.length ≤ 90000 ∧ 0 ≤ s.bits ∧ s.bits ≤ 16) (hm : MemRel cx mem w) :
    Calls Tryz.prog 254 (([.p mem0.length bp 0] : List C).map den).toArray w fun e w' => ∃ cx' c mem', e = .returned (den c) ∧ MemRel cx' mem' w' ∧ c = .v (.tuple #[]) ∧ Le cx cx' ∧ ∃ s' p', Pl (factF cx') R mem0 bp s' p' mem' ∧ p ≤ p' ∧ p' ≤ p + 4000 ∧ s.xs.length ≤ s'.xs.length ∧ s'.xs.length ≤ s.xs.length + 17 ∧ s'.forks = s.forks ∧ s'.bits = min s.bits 1 := by
  refine step_of_vcs ⟨[pickC, putC], []⟩ hmx Tryz.func254 rfl (by kernel_rfl) (args := [.p mem0.length bp 0]) (by simp [Tryz.ntmps254]) hm (fun cx' c mem' => c = .v (.tuple #[]) ∧ Le cx cx' ∧ ∃ s' p', Pl (factF cx') R mem0 bp s' p' mem' ∧ p ≤ p' ∧ p' ≤ p + 4000 ∧ s.xs.length ≤ s'.xs.length ∧ s'.xs.length ≤ s.xs.length + 17 ∧ s'.forks = s.forks ∧ s'.bits = min s.bits 1) 400 ?_
  obtain ⟨hty, hR, hP, hp, hpc, hl, hb0, hb1⟩ := hpre
  have hlt := hR.lt
  simp (maxSteps := 4000000) -dsimp [-Y1, -Array.all_eq_true, -Y3, -Y4, and_assoc, Y5, Tryz.f254, pickC, putC]
  refine loop_inv (σ := ⟨[pickC, putC], []⟩) hmx (by kernel_rfl) (fun q cx' tm mem' => Le cx cx' ∧ ∃ s' p', Pl (factF cx') R mem0 bp s' p' mem' ∧ p ≤ p' ∧ p' ≤ p + 200 * (s.bits - s'.bits) ∧ s.xs.length ≤ s'.xs.length ∧ (s'.xs.length : Int) ≤ s.xs.length + (s.bits - s'.bits) ∧ s'.forks = s.forks ∧ 0 ≤ s'.bits ∧ s'.bits ≤ s.bits ∧ (1 ≤ s.bits → 1 ≤ s'.bits) ∧ (s.bits = 0 → s'.bits = 0) ∧ q = s'.bits.toNat ∧ Sx.look tm 0 = .p mem0.length bp 0)
    s.bits.toNat ⟨Le.refl _, s, p, hP, by omega, by omega, by omega, by omega, rfl, by omega, by omega, by omega, by omega, rfl, by simp [Sx.look]⟩ ?_
  rintro q cx1 tm mem1 ⟨hle1, s1, p1, hP1, a1, a2, a3, a4, a5, a6, a7, a8, a9, rfl, j0⟩
  refine ⟨400, ?_⟩
  have hn := hP1.lt
  obtain ⟨oc, hk⟩ := Play.blk hP1
  have hk2 := (List.getElem?_eq_some_iff.1 hk).2
  have hxl : (s1.xs.length : Int) ≤ 90016 := by omega
  by_cases hbig : 1 < s1.bits
  · have hb16 : IntKind.i64.wrap (s1.bits - 1) = s1.bits - 1 := wrap_i64 (by omega) (by omega)
    have fin : ∀ (cx2 : Cx) (x : Ins) (p2 : Int) (base : Bool) (fresh : Bool) (mem2 : List Blk) (oc2 : C), Le cx1 cx2 → Pl (factF cx2) R mem0 bp ⟨s1.xs ++ [x], s1.bits, s1.forks, base, fresh⟩ p2 mem2 → p1 ≤ p2 → p2 ≤ p1 + 101 →
        mem2[mem0.length]? = some ⟨bp, [.p R.k R.b 0, oc2, .v (.int .i64 s1.bits), .v (.int .i64 s1.forks), .v (.bool base), .v (.bool fresh)], 206⟩ →
        Le cx cx2 ∧ ∃ s' p', Pl (factF cx2) R mem0 bp s' p' (mem2.set mem0.length ⟨bp, [.p R.k R.b 0, oc2, .v (.int .i64 (s1.bits - 1)), .v (.int .i64 s1.forks), .v (.bool base), .v (.bool fresh)], 206⟩) ∧ p ≤ p' ∧ p' ≤ p + 200 * (s.bits - s'.bits) ∧ s.xs.length ≤ s'.xs.length ∧ (s'.xs.length : Int) ≤ s.xs.length + (s.bits - s'.bits) ∧ s'.forks = s.forks ∧ 0 ≤ s'.bits ∧ s'.bits ≤ s.bits ∧ (1 ≤ s.bits → 1 ≤ s'.bits) ∧ (s.bits = 0 → s'.bits = 0) ∧ (s1.bits - 1).toNat = s'.bits.toNat := by
      intro cx2 x p2 base fresh mem2 oc2 h1 h2 h3 h4 h5
      exact ⟨hle1.trans h1, ⟨s1.xs ++ [x], s1.bits - 1, s1.forks, base, fresh⟩, p2, Play.upd' h2 h5 (s1.bits - 1) s1.forks base fresh, by omega, by simp only; omega, by simp; omega, by simp; omega, a5, by simp only; omega, by simp only; omega, by simp only; omega, by simp only; omega, rfl⟩
    by_cases hbt : s1.base = true
    · by_cases hb2 : s1.bits = 2
      · have hb3 := eq_true hb2
        simp (maxSteps := 4000000) -dsimp [-Y1, -Array.all_eq_true, -Y3, -Y4, and_assoc, Y5, Tryz.f254, pickC, putC, j0, hn, hk, hk2, hbig, hbt, hb3, Con.gen]
        refine put_play hR hty hle1 (Le.refl _) hP1 (by omega) (by omega) ?_
        rintro cx2 x p2 mem2 hle2 hP2 - b1 b2
        have hn2 := hP2.lt
        obtain ⟨oc2, hk4⟩ := Play.blk hP2
        simp only at hk4
        have hk5 := (List.getElem?_eq_some_iff.1 hk4).2
        simp (maxSteps := 4000000) -dsimp [-Y1, -Array.all_eq_true, -Y3, -Y4, and_assoc, Y5, Tryz.f254, pickC, putC, j0, hn2, hk4, hk5, hbig, hb16]
        refine ⟨mem2.length, (s1.bits - 1).toNat, by omega, ?_⟩
        rw [List.take_of_length_le (by simp)]
        exact fin _ _ _ _ _ _ _ hle2 hP2 (by omega) (by omega) hk4
      · have hb3 := eq_false hb2
        simp (maxSteps := 4000000) -dsimp [-Y1, -Array.all_eq_true, -Y3, -Y4, and_assoc, Y5, Tryz.f254, pickC, putC, j0, hn, hk, hk2, hbig, hbt, hb3, Con.gen]
        refine pick_play (hR.on hle1.fact (Nat.le_refl _)) hty (Le.refl _) hP1 (by omega) (by omega) ?_
        rintro cx3 v p3 mem3 hle3 hP3 c1 c2 ⟨y, rfl, y0, y1⟩
        have hn3 := hP3.lt
        obtain ⟨oc3, hk6⟩ := Play.blk hP3
        have hk7 := (List.getElem?_eq_some_iff.1 hk6).2
        by_cases hy : y = 0
        · simp (maxSteps := 4000000) -dsimp [-Y1, -Array.all_eq_true, -Y3, -Y4, and_assoc, Y5, Tryz.f254, pickC, putC, j0, hn3, hk6, hk7, hbig, hy, Con.gen]
          refine put_play hR hty hle1 hle3 hP3 (by omega) (by omega) ?_
          rintro cx2 x p2 mem2 hle2 hP2 - b1 b2
          have hn2 := hP2.lt
          obtain ⟨oc2, hk4⟩ := Play.blk hP2
          simp only at hk4
          have hk5 := (List.getElem?_eq_some_iff.1 hk4).2
          simp (maxSteps := 4000000) -dsimp [-Y1, -Array.all_eq_true, -Y3, -Y4, and_assoc, Y5, Tryz.f254, pickC, putC, j0, hn2, hk4, hk5, hbig, hb16]
          refine ⟨mem2.length, (s1.bits - 1).toNat, by omega, ?_⟩
          rw [List.take_of_length_le (by simp)]
          exact fin _ _ _ _ _ _ _ hle2 hP2 (by omega) (by omega) hk4
        · simp (maxSteps := 4000000) -dsimp [-Y1, -Array.all_eq_true, -Y3, -Y4, and_assoc, Y5, Tryz.f254, pickC, putC, j0, hn3, hk6, hk7, hbig, hy, Con.gen]
          refine put_play hR hty hle1 hle3 hP3 (by omega) (by omega) ?_
          rintro cx2 x p2 mem2 hle2 hP2 - b1 b2
          have hn2 := hP2.lt
          obtain ⟨oc2, hk4⟩ := Play.blk hP2
          simp only at hk4
          have hk5 := (List.getElem?_eq_some_iff.1 hk4).2
          simp (maxSteps := 4000000) -dsimp [-Y1, -Array.all_eq_true, -Y3, -Y4, and_assoc, Y5, Tryz.f254, pickC, putC, j0, hn2, hk4, hk5, hbig, hb16]
          refine ⟨mem2.length, (s1.bits - 1).toNat, by omega, ?_⟩
          rw [List.take_of_length_le (by simp)]
          exact fin _ _ _ _ _ _ _ hle2 hP2 (by omega) (by omega) hk4
    · simp (maxSteps := 4000000) -dsimp [-Y1, -Array.all_eq_true, -Y3, -Y4, and_assoc, Y5, Tryz.f254, pickC, putC, j0, hn, hk, hk2, hbig, hbt, Con.gen]
      refine pick_play (hR.on hle1.fact (Nat.le_refl _)) hty (Le.refl _) hP1 (by omega) (by omega) ?_
      rintro cx3 v p3 mem3 hle3 hP3 c1 c2 ⟨y, rfl, y0, y1⟩
      have hn3 := hP3.lt
      obtain ⟨oc3, hk6⟩ := Play.blk hP3
      have hk7 := (List.getElem?_eq_some_iff.1 hk6).2
      by_cases hy : y = 0
      · simp (maxSteps := 4000000) -dsimp [-Y1, -Array.all_eq_true, -Y3, -Y4, and_assoc, Y5, Tryz.f254, pickC, putC, j0, hn3, hk6, hk7, hbig, hy, Con.gen]
        refine put_play hR hty hle1 hle3 hP3 (by omega) (by omega) ?_
        rintro cx2 x p2 mem2 hle2 hP2 - b1 b2
        have hn2 := hP2.lt
        obtain ⟨oc2, hk4⟩ := Play.blk hP2
        simp only at hk4
        have hk5 := (List.getElem?_eq_some_iff.1 hk4).2
        simp (maxSteps := 4000000) -dsimp [-Y1, -Array.all_eq_true, -Y3, -Y4, and_assoc, Y5, Tryz.f254, pickC, putC, j0, hn2, hk4, hk5, hbig, hb16]
        refine ⟨mem2.length, (s1.bits - 1).toNat, by omega, ?_⟩
        rw [List.take_of_length_le (by simp)]
        exact fin _ _ _ _ _ _ _ hle2 hP2 (by omega) (by omega) hk4
      · simp (maxSteps := 4000000) -dsimp [-Y1, -Array.all_eq_true, -Y3, -Y4, and_assoc, Y5, Tryz.f254, pickC, putC, j0, hn3, hk6, hk7, hbig, hy, Con.gen]
        refine put_play hR hty hle1 hle3 hP3 (by omega) (by omega) ?_
        rintro cx2 x p2 mem2 hle2 hP2 - b1 b2
        have hn2 := hP2.lt
        obtain ⟨oc2, hk4⟩ := Play.blk hP2
        simp only at hk4
        have hk5 := (List.getElem?_eq_some_iff.1 hk4).2
        simp (maxSteps := 4000000) -dsimp [-Y1, -Array.all_eq_true, -Y3, -Y4, and_assoc, Y5, Tryz.f254, pickC, putC, j0, hn2, hk4, hk5, hbig, hb16]
        refine ⟨mem2.length, (s1.bits - 1).toNat, by omega, ?_⟩
        rw [List.take_of_length_le (by simp)]
        exact fin _ _ _ _ _ _ _ hle2 hP2 (by omega) (by omega) hk4
  · cases hf : s1.fresh
    · simp (maxSteps := 4000000) -dsimp [-Y1, -Array.all_eq_true, -Y3, -Y4, and_assoc, Y5, Tryz.f254, pickC, putC, j0, hn, hk, hk2, hbig, hf, Con.gen]
      refine put_play hR hty hle1 (Le.refl _) hP1 (by omega) (by omega) ?_
      rintro cx2 x p2 mem2 hle2 hP2 - b1 b2
      simp (maxSteps := 4000000) -dsimp [-Y1, -Array.all_eq_true, -Y3, -Y4, and_assoc, Y5, Tryz.f254, pickC, putC]
      exact EndK.all ⟨rfl, hle1.trans hle2, _, p2, hP2, by omega, by omega, by simp; omega, by simp; omega, a5, by simp only; omega⟩
    · simp (maxSteps := 4000000) -dsimp [-Y1, -Array.all_eq_true, -Y3, -Y4, and_assoc, Y5, Tryz.f254, pickC, putC, j0, hn, hk, hk2, hbig, hf, Con.gen]
      exact EndK.all ⟨rfl, hle1, s1, p1, hP1, by omega, by omega, by omega, by omega, a5, by omega⟩
def closeC_S : Gens Tryz.prog 254 where
  ι := ((Rdr) × (List Blk) × (Nat) × (PS) × (Int))
  A := fun (i : ((Rdr) × (List Blk) × (Nat) × (PS) × (Int))) => match i with | (R, mem0, bp, s, p) => [.p mem0.length bp 0]
  pre := fun (i : ((Rdr) × (List Blk) × (Nat) × (PS) × (Int))) (cx : Cx) (mem : List Blk) => match i with | (R, mem0, bp, s, p) => R.ty = 160 ∧ R.Is (factF cx) mem0 ∧ Pl (factF cx) R mem0 bp s p mem ∧ 0 ≤ p ∧ p + 4000 ≤ 1125899906842624 ∧ s.xs.length ≤ 90000 ∧ 0 ≤ s.bits ∧ s.bits ≤ 16
  post := fun (i : ((Rdr) × (List Blk) × (Nat) × (PS) × (Int))) (cx : Cx) (mem : List Blk) (cx' : Cx) (c : C) (mem' : List Blk) => match i with | (R, mem0, bp, s, p) => c = .v (.tuple #[]) ∧ Le cx cx' ∧ ∃ s' p', Pl (factF cx') R mem0 bp s' p' mem' ∧ p ≤ p' ∧ p' ≤ p + 4000 ∧ s.xs.length ≤ s'.xs.length ∧ s'.xs.length ≤ s.xs.length + 17 ∧ s'.forks = s.forks ∧ s'.bits = min s.bits 1
  enter := Tryz.call254
  h := fun i cx mem w hp hm => closeC_c i.1 i.2.1 i.2.2.1 i.2.2.2.1 i.2.2.2.2 cx mem w hp hm
def closeC : Con Tryz.prog := Con.gen closeC_S
theorem closeC_at {R : Rdr} {mem0 : List Blk} {bp : Nat} {s : PS} {p : Int} {d : Nat} {cx : Cx} {mem : List Blk} {K : Cx → C → List Blk → Prop} (hpre : R.ty = 160 ∧ R.Is (factF cx) mem0 ∧ Pl (factF cx) R mem0 bp s p mem ∧ 0 ≤ p ∧ p + 4000 ≤ 1125899906842624 ∧ s.xs.length ≤ 90000 ∧ 0 ≤ s.bits ∧ s.bits ≤ 16) (h : ∀ cx' c mem', (c = .v (.tuple #[]) ∧ Le cx cx' ∧ ∃ s' p', Pl (factF cx') R mem0 bp s' p' mem' ∧ p ≤ p' ∧ p' ≤ p + 4000 ∧ s.xs.length ≤ s'.xs.length ∧ s'.xs.length ≤ s.xs.length + 17 ∧ s'.forks = s.forks ∧ s'.bits = min s.bits 1) → K cx' c mem') : GenV d closeC_S cx [.p mem0.length bp 0] mem K := ⟨(R, mem0, bp, s, p), rfl, hpre, h⟩

theorem close_play {d : Nat} {p : Int} {K : Cx → C → List Blk → Prop} {R : Rdr} {cx0 cx1 cx : Cx} {mem0 mem : List Blk} {bp : Nat} {s : PS} (hR : R.Is (factF cx0) mem0) (hty : R.ty = 160) (hle : Le cx0 cx1) (hle2 : Le cx1 cx) (hP : Pl (factF cx) R mem0 bp s p mem)
    (hp : 0 ≤ p ∧ p + 4000 ≤ 1125899906842624) (hl : s.xs.length ≤ 90000) (hb : 0 ≤ s.bits ∧ s.bits ≤ 16)
    (h : ∀ cx' s' p' mem', Le cx1 cx' → Pl (factF cx') R mem0 bp s' p' mem' → p ≤ p' → p' ≤ p + 4000 → s.xs.length ≤ s'.xs.length → s'.xs.length ≤ s.xs.length + 17 → s'.forks = s.forks → s'.bits = min s.bits 1 → K cx' (.v (.tuple #[])) mem') :
    GenV d closeC_S cx [.p mem0.length bp 0] mem K := by
  refine closeC_at ⟨hty, hR.on (hle.trans hle2).fact (Nat.le_refl _), hP, hp.1, hp.2, hl, hb.1, hb.2⟩ ?_
  rintro cx' c mem' ⟨rfl, h1, s', p', h2, h3, h4, h5, h6, h7, h8⟩
  exact h _ _ _ _ (hle2.trans h1) h2 h3 h4 h5 h6 h7 h8
theorem stepC_c (R : Rdr) (mem0 : List Blk) (bp : Nat) (s : PS) (p : Int) (cx : Cx) (mem : List Blk) (w : World) (hpre : R.ty = 160 ∧ R.Is (factF cx) mem0 ∧ Pl (factF cx) R mem0 bp s p mem ∧ 0 ≤ p ∧ p + 5000 ≤ 1125899906842624 ∧ s.xs.length ≤ 80000 ∧ 0 ≤ s.bits ∧ s.bits ≤ 16 ∧ 0 ≤ s.forks ∧ s.forks ≤ 8) (hm : MemRel cx mem w) :
    Calls Tryz.prog 253 (([.p mem0.length bp 0] : List C).map den).toArray w fun e w' => ∃ cx' c mem', e = .returned (den c) ∧ MemRel cx' mem' w' ∧ c = .v (.tuple #[]) ∧ Le cx cx' ∧ ∃ s' p', Pl (factF cx') R mem0 bp s' p' mem' ∧ p ≤ p' ∧ p' ≤ p + 5000 ∧ s.xs.length ≤ s'.xs.length ∧ s'.xs.length ≤ s.xs.length + 19 ∧ 0 ≤ s'.bits ∧ s'.bits ≤ 16 ∧ 0 ≤ s'.forks ∧ s'.forks ≤ 8 := by
  refine step_of_vcs ⟨[pickC, putC, closeC], []⟩ hmx Tryz.func253 rfl (by kernel_rfl) (args := [.p mem0.length bp 0]) (by simp [Tryz.ntmps253]) hm (fun cx' c mem' => c = .v (.tuple #[]) ∧ Le cx cx' ∧ ∃ s' p', Pl (factF cx') R mem0 bp s' p' mem' ∧ p ≤ p' ∧ p' ≤ p + 5000 ∧ s.xs.length ≤ s'.xs.length ∧ s'.xs.length ≤ s.xs.length + 19 ∧ 0 ≤ s'.bits ∧ s'.bits ≤ 16 ∧ 0 ≤ s'.forks ∧ s'.forks ≤ 8) 400 ?_
  obtain ⟨hty, hR, hP, hp, hpc, hl, hb0, hb1, hf0, hf1⟩ := hpre
  have hlt := hR.lt
  have hn := hP.lt
  obtain ⟨oc, hk⟩ := Play.blk hP
  have hk2 := (List.getElem?_eq_some_iff.1 hk).2
  cases hbase : s.base
  · simp (maxSteps := 4000000) -dsimp [-Y1, -Array.all_eq_true, -Y3, -Y4, and_assoc, Y5, Tryz.f253, pickC, putC, closeC, hn, hk, hk2, hbase, Con.gen]
    refine pick_play hR hty (Le.refl _) hP (by omega) (by omega) ?_
    rintro cx3 v p3 mem3 hle3 hP3 c1 c2 ⟨y, rfl, y0, y1⟩
    have hn3 := hP3.lt
    obtain ⟨oc3, hk6⟩ := Play.blk hP3
    have hk7 := (List.getElem?_eq_some_iff.1 hk6).2
    obtain hy | hy | hy | hy | hy | hy | hy | hy | hy | hy | hy : y = 0 ∨ y = 1 ∨ y = 2 ∨ y = 3 ∨ y = 4 ∨ y = 5 ∨ y = 6 ∨ y = 7 ∨ y = 8 ∨ y = 9 ∨ y = 10 := by omega
    · by_cases hc : s.bits < 16
      · have hq := eq_true hc
        have hw := (wrap_i64 (x := s.bits + 1) (by omega) (by omega))
        simp (maxSteps := 4000000) -dsimp [-Y1, -Array.all_eq_true, -Y3, -Y4, and_assoc, Y5, Tryz.f253, pickC, putC, closeC, hn3, hk6, hk7, hbase, hy, hq, hw, Con.gen]
        refine put_play hR hty (Le.refl _) hle3 hP3 (by omega) (by omega) ?_
        rintro cx4 x p4 mem4 hle4 hP4 - d1 d2
        have hn4 := hP4.lt
        obtain ⟨oc4, hk8⟩ := Play.blk hP4
        simp only at hk8
        have hk9 := (List.getElem?_eq_some_iff.1 hk8).2
        simp (maxSteps := 4000000) -dsimp [-Y1, -Array.all_eq_true, -Y3, -Y4, and_assoc, Y5, Tryz.f253, pickC, putC, closeC, hn4, hk8, hk9, Con.gen, hw]
        exact EndK.all ⟨rfl, hle4, _, p4, (Play.upd' hP4 hk8 (s.bits + 1) s.forks _ _), by omega, by omega, by simp, by simp; try omega, by simp only; omega, by simp only; omega, by simp only; omega, by simp only; omega⟩
      · have hq := eq_false hc
        have hw := trivial
        simp (maxSteps := 4000000) -dsimp [-Y1, -Array.all_eq_true, -Y3, -Y4, and_assoc, Y5, Tryz.f253, pickC, putC, closeC, hn3, hk6, hk7, hbase, hy, hq, hw, Con.gen]
        exact EndK.all ⟨rfl, hle3, s, p3, hP3, by omega, by omega, by omega, by omega, by omega, by omega, by omega, by omega⟩
    · by_cases hc : s.bits < 16
      · have hq := eq_true hc
        have hw := (wrap_i64 (x := s.bits + 1) (by omega) (by omega))
        simp (maxSteps := 4000000) -dsimp [-Y1, -Array.all_eq_true, -Y3, -Y4, and_assoc, Y5, Tryz.f253, pickC, putC, closeC, hn3, hk6, hk7, hbase, hy, hq, hw, Con.gen]
        refine put_play hR hty (Le.refl _) hle3 hP3 (by omega) (by omega) ?_
        rintro cx4 x p4 mem4 hle4 hP4 - d1 d2
        have hn4 := hP4.lt
        obtain ⟨oc4, hk8⟩ := Play.blk hP4
        simp only at hk8
        have hk9 := (List.getElem?_eq_some_iff.1 hk8).2
        simp (maxSteps := 4000000) -dsimp [-Y1, -Array.all_eq_true, -Y3, -Y4, and_assoc, Y5, Tryz.f253, pickC, putC, closeC, hn4, hk8, hk9, Con.gen, hw]
        exact EndK.all ⟨rfl, hle4, _, p4, (Play.upd' hP4 hk8 (s.bits + 1) s.forks _ _), by omega, by omega, by simp, by simp; try omega, by simp only; omega, by simp only; omega, by simp only; omega, by simp only; omega⟩
      · have hq := eq_false hc
        have hw := trivial
        simp (maxSteps := 4000000) -dsimp [-Y1, -Array.all_eq_true, -Y3, -Y4, and_assoc, Y5, Tryz.f253, pickC, putC, closeC, hn3, hk6, hk7, hbase, hy, hq, hw, Con.gen]
        exact EndK.all ⟨rfl, hle3, s, p3, hP3, by omega, by omega, by omega, by omega, by omega, by omega, by omega, by omega⟩
    · have hw := trivial
      simp (maxSteps := 4000000) -dsimp [-Y1, -Array.all_eq_true, -Y3, -Y4, and_assoc, Y5, Tryz.f253, pickC, putC, closeC, hn3, hk6, hk7, hbase, hy, hw, Con.gen]
      refine put_play hR hty (Le.refl _) hle3 hP3 (by omega) (by omega) ?_
      rintro cx4 x p4 mem4 hle4 hP4 - d1 d2
      have hn4 := hP4.lt
      obtain ⟨oc4, hk8⟩ := Play.blk hP4
      simp only at hk8
      have hk9 := (List.getElem?_eq_some_iff.1 hk8).2
      simp (maxSteps := 4000000) -dsimp [-Y1, -Array.all_eq_true, -Y3, -Y4, and_assoc, Y5, Tryz.f253, pickC, putC, closeC, hn4, hk8, hk9, Con.gen, hw]
      exact EndK.all ⟨rfl, hle4, _, p4, hP4, by omega, by omega, by simp, by simp; try omega, by simp only; omega, by simp only; omega, by simp only; omega, by simp only; omega⟩
    · have hw := trivial
      simp (maxSteps := 4000000) -dsimp [-Y1, -Array.all_eq_true, -Y3, -Y4, and_assoc, Y5, Tryz.f253, pickC, putC, closeC, hn3, hk6, hk7, hbase, hy, hw, Con.gen]
      refine put_play hR hty (Le.refl _) hle3 hP3 (by omega) (by omega) ?_
      rintro cx4 x p4 mem4 hle4 hP4 - d1 d2
      have hn4 := hP4.lt
      obtain ⟨oc4, hk8⟩ := Play.blk hP4
      simp only at hk8
      have hk9 := (List.getElem?_eq_some_iff.1 hk8).2
      simp (maxSteps := 4000000) -dsimp [-Y1, -Array.all_eq_true, -Y3, -Y4, and_assoc, Y5, Tryz.f253, pickC, putC, closeC, hn4, hk8, hk9, Con.gen, hw]
      exact EndK.all ⟨rfl, hle4, _, p4, hP4, by omega, by omega, by simp, by simp; try omega, by simp only; omega, by simp only; omega, by simp only; omega, by simp only; omega⟩
    · by_cases hc : 1 ≤ s.bits
      · have hq := eq_true hc
        have hw := trivial
        simp (maxSteps := 4000000) -dsimp [-Y1, -Array.all_eq_true, -Y3, -Y4, and_assoc, Y5, Tryz.f253, pickC, putC, closeC, hn3, hk6, hk7, hbase, hy, hq, hw, Con.gen]
        refine put_play hR hty (Le.refl _) hle3 hP3 (by omega) (by omega) ?_
        rintro cx4 x p4 mem4 hle4 hP4 - d1 d2
        have hn4 := hP4.lt
        obtain ⟨oc4, hk8⟩ := Play.blk hP4
        simp only at hk8
        have hk9 := (List.getElem?_eq_some_iff.1 hk8).2
        simp (maxSteps := 4000000) -dsimp [-Y1, -Array.all_eq_true, -Y3, -Y4, and_assoc, Y5, Tryz.f253, pickC, putC, closeC, hn4, hk8, hk9, Con.gen, hw]
        exact EndK.all ⟨rfl, hle4, _, p4, hP4, by omega, by omega, by simp, by simp; try omega, by simp only; omega, by simp only; omega, by simp only; omega, by simp only; omega⟩
      · have hq := eq_false hc
        have hw := trivial
        simp (maxSteps := 4000000) -dsimp [-Y1, -Array.all_eq_true, -Y3, -Y4, and_assoc, Y5, Tryz.f253, pickC, putC, closeC, hn3, hk6, hk7, hbase, hy, hq, hw, Con.gen]
        exact EndK.all ⟨rfl, hle3, s, p3, hP3, by omega, by omega, by omega, by omega, by omega, by omega, by omega, by omega⟩
    · by_cases hc : 1 ≤ s.bits
      · have hq := eq_true hc
        have hw := trivial
        simp (maxSteps := 4000000) -dsimp [-Y1, -Array.all_eq_true, -Y3, -Y4, and_assoc, Y5, Tryz.f253, pickC, putC, closeC, hn3, hk6, hk7, hbase, hy, hq, hw, Con.gen]
        refine pick_play (hR.on hle3.fact (Nat.le_refl _)) hty (Le.refl _) hP3 (by omega) (by omega) ?_
        rintro cx5 v p5 mem5 hle5 hP5 e1 e2 ⟨z, rfl, z0, z1⟩
        have hn5 := hP5.lt
        obtain ⟨oc5, hk10⟩ := Play.blk hP5
        have hk11 := (List.getElem?_eq_some_iff.1 hk10).2
        by_cases hz : z = 0
        · simp (maxSteps := 4000000) -dsimp [-Y1, -Array.all_eq_true, -Y3, -Y4, and_assoc, Y5, Tryz.f253, pickC, putC, closeC, hn5, hk10, hk11, hz, Con.gen]
          refine put_play hR hty (Le.refl _) (hle3.trans hle5) hP5 (by omega) (by omega) ?_
          rintro cx4 x p4 mem4 hle4 hP4 - d1 d2
          have hn4 := hP4.lt
          obtain ⟨oc4, hk8⟩ := Play.blk hP4
          simp only at hk8
          have hk9 := (List.getElem?_eq_some_iff.1 hk8).2
          simp (maxSteps := 4000000) -dsimp [-Y1, -Array.all_eq_true, -Y3, -Y4, and_assoc, Y5, Tryz.f253, pickC, putC, closeC, hn4, hk8, hk9, Con.gen, hw]
          exact EndK.all ⟨rfl, hle4, _, p4, hP4, by omega, by omega, by simp, by simp; try omega, by simp only; omega, by simp only; omega, by simp only; omega, by simp only; omega⟩
        · simp (maxSteps := 4000000) -dsimp [-Y1, -Array.all_eq_true, -Y3, -Y4, and_assoc, Y5, Tryz.f253, pickC, putC, closeC, hn5, hk10, hk11, hz, Con.gen]
          exact EndK.all ⟨rfl, hle3.trans hle5, s, p5, hP5, by omega, by omega, by omega, by omega, by omega, by omega, by omega, by omega⟩
      · have hq := eq_false hc
        have hw := trivial
        simp (maxSteps := 4000000) -dsimp [-Y1, -Array.all_eq_true, -Y3, -Y4, and_assoc, Y5, Tryz.f253, pickC, putC, closeC, hn3, hk6, hk7, hbase, hy, hq, hw, Con.gen]
        exact EndK.all ⟨rfl, hle3, s, p3, hP3, by omega, by omega, by omega, by omega, by omega, by omega, by omega, by omega⟩
    · by_cases hc : 1 < s.bits
      · have hq := eq_true hc
        have hw := (wrap_i64 (x := s.bits - 1) (by omega) (by omega))
        simp (maxSteps := 4000000) -dsimp [-Y1, -Array.all_eq_true, -Y3, -Y4, and_assoc, Y5, Tryz.f253, pickC, putC, closeC, hn3, hk6, hk7, hbase, hy, hq, hw, Con.gen]
        refine put_play hR hty (Le.refl _) hle3 hP3 (by omega) (by omega) ?_
        rintro cx4 x p4 mem4 hle4 hP4 - d1 d2
        have hn4 := hP4.lt
        obtain ⟨oc4, hk8⟩ := Play.blk hP4
        simp only at hk8
        have hk9 := (List.getElem?_eq_some_iff.1 hk8).2
        simp (maxSteps := 4000000) -dsimp [-Y1, -Array.all_eq_true, -Y3, -Y4, and_assoc, Y5, Tryz.f253, pickC, putC, closeC, hn4, hk8, hk9, Con.gen, hw]
        exact EndK.all ⟨rfl, hle4, _, p4, (Play.upd' hP4 hk8 (s.bits - 1) s.forks _ _), by omega, by omega, by simp, by simp; try omega, by simp only; omega, by simp only; omega, by simp only; omega, by simp only; omega⟩
      · have hq := eq_false hc
        have hw := trivial
        simp (maxSteps := 4000000) -dsimp [-Y1, -Array.all_eq_true, -Y3, -Y4, and_assoc, Y5, Tryz.f253, pickC, putC, closeC, hn3, hk6, hk7, hbase, hy, hq, hw, Con.gen]
        exact EndK.all ⟨rfl, hle3, s, p3, hP3, by omega, by omega, by omega, by omega, by omega, by omega, by omega, by omega⟩
    · by_cases hc : 1 < s.bits
      · have hq := eq_true hc
        have hw := (wrap_i64 (x := s.bits - 1) (by omega) (by omega))
        simp (maxSteps := 4000000) -dsimp [-Y1, -Array.all_eq_true, -Y3, -Y4, and_assoc, Y5, Tryz.f253, pickC, putC, closeC, hn3, hk6, hk7, hbase, hy, hq, hw, Con.gen]
        refine put_play hR hty (Le.refl _) hle3 hP3 (by omega) (by omega) ?_
        rintro cx4 x p4 mem4 hle4 hP4 - d1 d2
        have hn4 := hP4.lt
        obtain ⟨oc4, hk8⟩ := Play.blk hP4
        simp only at hk8
        have hk9 := (List.getElem?_eq_some_iff.1 hk8).2
        simp (maxSteps := 4000000) -dsimp [-Y1, -Array.all_eq_true, -Y3, -Y4, and_assoc, Y5, Tryz.f253, pickC, putC, closeC, hn4, hk8, hk9, Con.gen, hw]
        exact EndK.all ⟨rfl, hle4, _, p4, (Play.upd' hP4 hk8 (s.bits - 1) s.forks _ _), by omega, by omega, by simp, by simp; try omega, by simp only; omega, by simp only; omega, by simp only; omega, by simp only; omega⟩
      · have hq := eq_false hc
        have hw := trivial
        simp (maxSteps := 4000000) -dsimp [-Y1, -Array.all_eq_true, -Y3, -Y4, and_assoc, Y5, Tryz.f253, pickC, putC, closeC, hn3, hk6, hk7, hbase, hy, hq, hw, Con.gen]
        exact EndK.all ⟨rfl, hle3, s, p3, hP3, by omega, by omega, by omega, by omega, by omega, by omega, by omega, by omega⟩
    · by_cases hc : s.bits = 1
      · have hq := eq_true hc
        have hw := trivial
        simp (maxSteps := 4000000) -dsimp [-Y1, -Array.all_eq_true, -Y3, -Y4, and_assoc, Y5, Tryz.f253, pickC, putC, closeC, hn3, hk6, hk7, hbase, hy, hq, hw, Con.gen]
        refine put_play hR hty (Le.refl _) hle3 hP3 (by omega) (by omega) ?_
        rintro cx4 x p4 mem4 hle4 hP4 - d1 d2
        have hn4 := hP4.lt
        obtain ⟨oc4, hk8⟩ := Play.blk hP4
        simp only at hk8
        have hk9 := (List.getElem?_eq_some_iff.1 hk8).2
        simp (maxSteps := 4000000) -dsimp [-Y1, -Array.all_eq_true, -Y3, -Y4, and_assoc, Y5, Tryz.f253, pickC, putC, closeC, hn4, hk8, hk9, Con.gen, hw]
        exact EndK.all ⟨rfl, hle4, _, p4, hP4, by omega, by omega, by simp, by simp; try omega, by simp only; omega, by simp only; omega, by simp only; omega, by simp only; omega⟩
      · have hq := eq_false hc
        have hw := trivial
        simp (maxSteps := 4000000) -dsimp [-Y1, -Array.all_eq_true, -Y3, -Y4, and_assoc, Y5, Tryz.f253, pickC, putC, closeC, hn3, hk6, hk7, hbase, hy, hq, hw, Con.gen]
        exact EndK.all ⟨rfl, hle3, s, p3, hP3, by omega, by omega, by omega, by omega, by omega, by omega, by omega, by omega⟩
    · by_cases hc : s.bits = 1
      · have hq := eq_true hc
        by_cases hd : s.forks < 8
        · have hr := eq_true hd
          have hw := (wrap_i64 (x := s.forks + 1) (by omega) (by omega))
          simp (maxSteps := 4000000) -dsimp [-Y1, -Array.all_eq_true, -Y3, -Y4, and_assoc, Y5, Tryz.f253, pickC, putC, closeC, hn3, hk6, hk7, hbase, hy, hq, hr, hw, Con.gen]
          refine put_play hR hty (Le.refl _) hle3 hP3 (by omega) (by omega) ?_
          rintro cx4 x p4 mem4 hle4 hP4 - d1 d2
          have hn4 := hP4.lt
          obtain ⟨oc4, hk8⟩ := Play.blk hP4
          simp only at hk8
          have hk9 := (List.getElem?_eq_some_iff.1 hk8).2
          simp (maxSteps := 4000000) -dsimp [-Y1, -Array.all_eq_true, -Y3, -Y4, and_assoc, Y5, Tryz.f253, pickC, putC, closeC, hn4, hk8, hk9, Con.gen, hw]
          exact EndK.all ⟨rfl, hle4, _, p4, (Play.upd' hP4 hk8 s.bits (s.forks + 1) _ _), by omega, by omega, by simp, by simp; try omega, by simp only; omega, by simp only; omega, by simp only; omega, by simp only; omega⟩
        · have hr := eq_false hd
          have hw := trivial
          simp (maxSteps := 4000000) -dsimp [-Y1, -Array.all_eq_true, -Y3, -Y4, and_assoc, Y5, Tryz.f253, pickC, putC, closeC, hn3, hk6, hk7, hbase, hy, hq, hr, hw, Con.gen]
          exact EndK.all ⟨rfl, hle3, s, p3, hP3, by omega, by omega, by omega, by omega, by omega, by omega, by omega, by omega⟩
      · have hq := eq_false hc
        have hw := trivial
        simp (maxSteps := 4000000) -dsimp [-Y1, -Array.all_eq_true, -Y3, -Y4, and_assoc, Y5, Tryz.f253, pickC, putC, closeC, hn3, hk6, hk7, hbase, hy, hq, hw, Con.gen]
        exact EndK.all ⟨rfl, hle3, s, p3, hP3, by omega, by omega, by omega, by omega, by omega, by omega, by omega, by omega⟩
    · by_cases hc : 0 < s.forks
      · have hq := eq_true hc
        simp (maxSteps := 4000000) -dsimp [-Y1, -Array.all_eq_true, -Y3, -Y4, and_assoc, Y5, Tryz.f253, pickC, putC, closeC, hn3, hk6, hk7, hbase, hy, hq, Con.gen]
        refine close_play hR hty (Le.refl _) hle3 hP3 (by omega) (by omega) (by omega) ?_
        rintro cx4 s4 p4 mem4 hle4 hP4 d1 d2 d3 d4 d5 d6
        have hn4 := hP4.lt
        obtain ⟨oc4, hk8⟩ := Play.blk hP4
        have hk9 := (List.getElem?_eq_some_iff.1 hk8).2
        simp (maxSteps := 4000000) -dsimp [-Y1, -Array.all_eq_true, -Y3, -Y4, and_assoc, Y5, Tryz.f253, pickC, putC, closeC, hn4, hk8, hk9, Con.gen]
        refine pick_play (hR.on hle4.fact (Nat.le_refl _)) hty (Le.refl _) hP4 (by omega) (by omega) ?_
        rintro cx5 v p5 mem5 hle5 hP5 e1 e2 ⟨z, rfl, z0, z1⟩
        have hn5 := hP5.lt
        obtain ⟨oc5, hk10⟩ := Play.blk hP5
        have hk11 := (List.getElem?_eq_some_iff.1 hk10).2
        have hw8 : IntKind.i64.wrap (8 + z) = 8 + z := wrap_i64 (by omega) (by omega)
        simp (maxSteps := 4000000) -dsimp [-Y1, -Array.all_eq_true, -Y3, -Y4, and_assoc, Y5, Tryz.f253, pickC, putC, closeC, hn5, hk10, hk11, hw8, Con.gen]
        refine put_play hR hty (Le.refl _) (hle4.trans hle5) hP5 (by omega) (by omega) ?_
        rintro cx6 x p6 mem6 hle6 hP6 hxc f1 f2
        have hn6 := hP6.lt
        obtain ⟨oc6, hk12, ho6⟩ := hP6.ex
        unfold playBlk at hk12
        simp only at hk12 ho6
        have hk13 := (List.getElem?_eq_some_iff.1 hk12).2
        obtain ⟨ko, bo, cap, rows, pad, rfl, hko, hm6, hlast, hc1, hc2, hlen6⟩ := OutRow.last ho6
        rw [hxc] at hlast
        have hkl6 := (List.getElem?_eq_some_iff.1 hm6).1
        have hm7 := (List.getElem?_eq_some_iff.1 hm6).2
        have hll := (List.getElem?_eq_some_iff.1 hlast).1
        have hlg := (List.getElem?_eq_some_iff.1 hlast).2
        have hw6 : IntKind.i64.wrap ((s4.xs.length : Int) + 1 - 1) = s4.xs.length := by rw [wrap_i64 (by omega) (by omega)]; omega
        have hw7 : IntKind.i64.wrap (s4.xs.length : Int) = s4.xs.length := wrap_i64 (by omega) (by omega)
        have hlt6 : (s4.xs.length : Int) < (s4.xs.length : Int) + 1 := by omega
        have hwf : IntKind.i64.wrap (s4.forks - 1) = s4.forks - 1 := wrap_i64 (by omega) (by omega)
        by_cases hz : z = 1
        · simp (maxSteps := 4000000) -dsimp [-Y1, -Array.all_eq_true, -Y3, -Y4, and_assoc, Y5, Tryz.f253, pickC, putC, closeC, hn6, hk12, hk13, hm6, hm7, hkl6, hlast, hll, hlg, hw6, hw7, hlt6, hwf, hz, Con.gen]
          subst hz
          exact EndK.all ⟨rfl, hle6, _, p6, (Play.upd' hP6 hk12 s4.bits (s4.forks - 1) _ _), by omega, by omega, by simp; omega, by simp; omega, by simp only; omega, by simp only; omega, by simp only; omega, by simp only; omega⟩
        · simp (maxSteps := 4000000) -dsimp [-Y1, -Array.all_eq_true, -Y3, -Y4, and_assoc, Y5, Tryz.f253, pickC, putC, closeC, hn6, hk12, hk13, hm6, hm7, hkl6, hlast, hll, hlg, hw6, hw7, hlt6, hwf, hz, Con.gen]
          refine ⟨fun h9 => absurd h9 (by omega), fun _ => ?_⟩
          exact EndK.all ⟨rfl, hle6, _, p6, hP6, by omega, by omega, by simp; omega, by simp; omega, by simp only; omega, by simp only; omega, by simp only; omega, by simp only; omega⟩
      · have hq := eq_false hc
        simp (maxSteps := 4000000) -dsimp [-Y1, -Array.all_eq_true, -Y3, -Y4, and_assoc, Y5, Tryz.f253, pickC, putC, closeC, hn3, hk6, hk7, hbase, hy, hq, Con.gen]
        exact EndK.all ⟨rfl, hle3, s, p3, hP3, by omega, by omega, by omega, by omega, by omega, by omega, by omega, by omega⟩
  · simp (maxSteps := 4000000) -dsimp [-Y1, -Array.all_eq_true, -Y3, -Y4, and_assoc, Y5, Tryz.f253, pickC, putC, closeC, hn, hk, hk2, hbase, Con.gen]
    refine pick_play hR hty (Le.refl _) hP (by omega) (by omega) ?_
    rintro cx3 v p3 mem3 hle3 hP3 c1 c2 ⟨y, rfl, y0, y1⟩
    have hn3 := hP3.lt
    obtain ⟨oc3, hk6⟩ := Play.blk hP3
    have hk7 := (List.getElem?_eq_some_iff.1 hk6).2
    obtain hy | hy | hy | hy | hy | hy | hy | hy | hy | hy | hy : y = 0 ∨ y = 1 ∨ y = 2 ∨ y = 3 ∨ y = 4 ∨ y = 5 ∨ y = 6 ∨ y = 7 ∨ y = 8 ∨ y = 9 ∨ y = 10 := by omega
    · by_cases hc : s.bits < 16
      · have hq := eq_true hc
        have hw := (wrap_i64 (x := s.bits + 1) (by omega) (by omega))
        simp (maxSteps := 4000000) -dsimp [-Y1, -Array.all_eq_true, -Y3, -Y4, and_assoc, Y5, Tryz.f253, pickC, putC, closeC, hn3, hk6, hk7, hbase, hy, hq, hw, Con.gen]
        refine put_play hR hty (Le.refl _) hle3 hP3 (by omega) (by omega) ?_
        rintro cx4 x p4 mem4 hle4 hP4 - d1 d2
        have hn4 := hP4.lt
        obtain ⟨oc4, hk8⟩ := Play.blk hP4
        simp only at hk8
        have hk9 := (List.getElem?_eq_some_iff.1 hk8).2
        simp (maxSteps := 4000000) -dsimp [-Y1, -Array.all_eq_true, -Y3, -Y4, and_assoc, Y5, Tryz.f253, pickC, putC, closeC, hn4, hk8, hk9, Con.gen, hw]
        exact EndK.all ⟨rfl, hle4, _, p4, (Play.upd' hP4 hk8 (s.bits + 1) s.forks _ _), by omega, by omega, by simp, by simp; try omega, by simp only; omega, by simp only; omega, by simp only; omega, by simp only; omega⟩
      · have hq := eq_false hc
        have hw := trivial
        simp (maxSteps := 4000000) -dsimp [-Y1, -Array.all_eq_true, -Y3, -Y4, and_assoc, Y5, Tryz.f253, pickC, putC, closeC, hn3, hk6, hk7, hbase, hy, hq, hw, Con.gen]
        exact EndK.all ⟨rfl, hle3, s, p3, hP3, by omega, by omega, by omega, by omega, by omega, by omega, by omega, by omega⟩
    · by_cases hc : s.bits < 16
      · have hq := eq_true hc
        have hw := (wrap_i64 (x := s.bits + 1) (by omega) (by omega))
        simp (maxSteps := 4000000) -dsimp [-Y1, -Array.all_eq_true, -Y3, -Y4, and_assoc, Y5, Tryz.f253, pickC, putC, closeC, hn3, hk6, hk7, hbase, hy, hq, hw, Con.gen]
        refine put_play hR hty (Le.refl _) hle3 hP3 (by omega) (by omega) ?_
        rintro cx4 x p4 mem4 hle4 hP4 - d1 d2
        have hn4 := hP4.lt
        obtain ⟨oc4, hk8⟩ := Play.blk hP4
        simp only at hk8
        have hk9 := (List.getElem?_eq_some_iff.1 hk8).2
        simp (maxSteps := 4000000) -dsimp [-Y1, -Array.all_eq_true, -Y3, -Y4, and_assoc, Y5, Tryz.f253, pickC, putC, closeC, hn4, hk8, hk9, Con.gen, hw]
        exact EndK.all ⟨rfl, hle4, _, p4, (Play.upd' hP4 hk8 (s.bits + 1) s.forks _ _), by omega, by omega, by simp, by simp; try omega, by simp only; omega, by simp only; omega, by simp only; omega, by simp only; omega⟩
      · have hq := eq_false hc
        have hw := trivial
        simp (maxSteps := 4000000) -dsimp [-Y1, -Array.all_eq_true, -Y3, -Y4, and_assoc, Y5, Tryz.f253, pickC, putC, closeC, hn3, hk6, hk7, hbase, hy, hq, hw, Con.gen]
        exact EndK.all ⟨rfl, hle3, s, p3, hP3, by omega, by omega, by omega, by omega, by omega, by omega, by omega, by omega⟩
    · have hw := trivial
      simp (maxSteps := 4000000) -dsimp [-Y1, -Array.all_eq_true, -Y3, -Y4, and_assoc, Y5, Tryz.f253, pickC, putC, closeC, hn3, hk6, hk7, hbase, hy, hw, Con.gen]
      refine put_play hR hty (Le.refl _) hle3 hP3 (by omega) (by omega) ?_
      rintro cx4 x p4 mem4 hle4 hP4 - d1 d2
      have hn4 := hP4.lt
      obtain ⟨oc4, hk8⟩ := Play.blk hP4
      simp only at hk8
      have hk9 := (List.getElem?_eq_some_iff.1 hk8).2
      simp (maxSteps := 4000000) -dsimp [-Y1, -Array.all_eq_true, -Y3, -Y4, and_assoc, Y5, Tryz.f253, pickC, putC, closeC, hn4, hk8, hk9, Con.gen, hw]
      exact EndK.all ⟨rfl, hle4, _, p4, hP4, by omega, by omega, by simp, by simp; try omega, by simp only; omega, by simp only; omega, by simp only; omega, by simp only; omega⟩
    · have hw := trivial
      simp (maxSteps := 4000000) -dsimp [-Y1, -Array.all_eq_true, -Y3, -Y4, and_assoc, Y5, Tryz.f253, pickC, putC, closeC, hn3, hk6, hk7, hbase, hy, hw, Con.gen]
      refine put_play hR hty (Le.refl _) hle3 hP3 (by omega) (by omega) ?_
      rintro cx4 x p4 mem4 hle4 hP4 - d1 d2
      have hn4 := hP4.lt
      obtain ⟨oc4, hk8⟩ := Play.blk hP4
      simp only at hk8
      have hk9 := (List.getElem?_eq_some_iff.1 hk8).2
      simp (maxSteps := 4000000) -dsimp [-Y1, -Array.all_eq_true, -Y3, -Y4, and_assoc, Y5, Tryz.f253, pickC, putC, closeC, hn4, hk8, hk9, Con.gen, hw]
      exact EndK.all ⟨rfl, hle4, _, p4, hP4, by omega, by omega, by simp, by simp; try omega, by simp only; omega, by simp only; omega, by simp only; omega, by simp only; omega⟩
    · by_cases hc : 2 ≤ s.bits
      · have hq := eq_true hc
        have hw := trivial
        simp (maxSteps := 4000000) -dsimp [-Y1, -Array.all_eq_true, -Y3, -Y4, and_assoc, Y5, Tryz.f253, pickC, putC, closeC, hn3, hk6, hk7, hbase, hy, hq, hw, Con.gen]
        refine put_play hR hty (Le.refl _) hle3 hP3 (by omega) (by omega) ?_
        rintro cx4 x p4 mem4 hle4 hP4 - d1 d2
        have hn4 := hP4.lt
        obtain ⟨oc4, hk8⟩ := Play.blk hP4
        simp only at hk8
        have hk9 := (List.getElem?_eq_some_iff.1 hk8).2
        simp (maxSteps := 4000000) -dsimp [-Y1, -Array.all_eq_true, -Y3, -Y4, and_assoc, Y5, Tryz.f253, pickC, putC, closeC, hn4, hk8, hk9, Con.gen, hw]
        exact EndK.all ⟨rfl, hle4, _, p4, hP4, by omega, by omega, by simp, by simp; try omega, by simp only; omega, by simp only; omega, by simp only; omega, by simp only; omega⟩
      · have hq := eq_false hc
        have hw := trivial
        simp (maxSteps := 4000000) -dsimp [-Y1, -Array.all_eq_true, -Y3, -Y4, and_assoc, Y5, Tryz.f253, pickC, putC, closeC, hn3, hk6, hk7, hbase, hy, hq, hw, Con.gen]
        exact EndK.all ⟨rfl, hle3, s, p3, hP3, by omega, by omega, by omega, by omega, by omega, by omega, by omega, by omega⟩
    · by_cases hc : 2 ≤ s.bits
      · have hq := eq_true hc
        have hw := trivial
        simp (maxSteps := 4000000) -dsimp [-Y1, -Array.all_eq_true, -Y3, -Y4, and_assoc, Y5, Tryz.f253, pickC, putC, closeC, hn3, hk6, hk7, hbase, hy, hq, hw, Con.gen]
        refine pick_play (hR.on hle3.fact (Nat.le_refl _)) hty (Le.refl _) hP3 (by omega) (by omega) ?_
        rintro cx5 v p5 mem5 hle5 hP5 e1 e2 ⟨z, rfl, z0, z1⟩
        have hn5 := hP5.lt
        obtain ⟨oc5, hk10⟩ := Play.blk hP5
        have hk11 := (List.getElem?_eq_some_iff.1 hk10).2
        by_cases hz : z = 0
        · simp (maxSteps := 4000000) -dsimp [-Y1, -Array.all_eq_true, -Y3, -Y4, and_assoc, Y5, Tryz.f253, pickC, putC, closeC, hn5, hk10, hk11, hz, Con.gen]
          refine put_play hR hty (Le.refl _) (hle3.trans hle5) hP5 (by omega) (by omega) ?_
          rintro cx4 x p4 mem4 hle4 hP4 - d1 d2
          have hn4 := hP4.lt
          obtain ⟨oc4, hk8⟩ := Play.blk hP4
          simp only at hk8
          have hk9 := (List.getElem?_eq_some_iff.1 hk8).2
          simp (maxSteps := 4000000) -dsimp [-Y1, -Array.all_eq_true, -Y3, -Y4, and_assoc, Y5, Tryz.f253, pickC, putC, closeC, hn4, hk8, hk9, Con.gen, hw]
          exact EndK.all ⟨rfl, hle4, _, p4, hP4, by omega, by omega, by simp, by simp; try omega, by simp only; omega, by simp only; omega, by simp only; omega, by simp only; omega⟩
        · simp (maxSteps := 4000000) -dsimp [-Y1, -Array.all_eq_true, -Y3, -Y4, and_assoc, Y5, Tryz.f253, pickC, putC, closeC, hn5, hk10, hk11, hz, Con.gen]
          exact EndK.all ⟨rfl, hle3.trans hle5, s, p5, hP5, by omega, by omega, by omega, by omega, by omega, by omega, by omega, by omega⟩
      · have hq := eq_false hc
        have hw := trivial
        simp (maxSteps := 4000000) -dsimp [-Y1, -Array.all_eq_true, -Y3, -Y4, and_assoc, Y5, Tryz.f253, pickC, putC, closeC, hn3, hk6, hk7, hbase, hy, hq, hw, Con.gen]
        exact EndK.all ⟨rfl, hle3, s, p3, hP3, by omega, by omega, by omega, by omega, by omega, by omega, by omega, by omega⟩
    · by_cases hc : 1 < s.bits
      · have hq := eq_true hc
        have hw := (wrap_i64 (x := s.bits - 1) (by omega) (by omega))
        simp (maxSteps := 4000000) -dsimp [-Y1, -Array.all_eq_true, -Y3, -Y4, and_assoc, Y5, Tryz.f253, pickC, putC, closeC, hn3, hk6, hk7, hbase, hy, hq, hw, Con.gen]
        refine put_play hR hty (Le.refl _) hle3 hP3 (by omega) (by omega) ?_
        rintro cx4 x p4 mem4 hle4 hP4 - d1 d2
        have hn4 := hP4.lt
        obtain ⟨oc4, hk8⟩ := Play.blk hP4
        simp only at hk8
        have hk9 := (List.getElem?_eq_some_iff.1 hk8).2
        simp (maxSteps := 4000000) -dsimp [-Y1, -Array.all_eq_true, -Y3, -Y4, and_assoc, Y5, Tryz.f253, pickC, putC, closeC, hn4, hk8, hk9, Con.gen, hw]
        exact EndK.all ⟨rfl, hle4, _, p4, (Play.upd' hP4 hk8 (s.bits - 1) s.forks _ _), by omega, by omega, by simp, by simp; try omega, by simp only; omega, by simp only; omega, by simp only; omega, by simp only; omega⟩
      · have hq := eq_false hc
        have hw := trivial
        simp (maxSteps := 4000000) -dsimp [-Y1, -Array.all_eq_true, -Y3, -Y4, and_assoc, Y5, Tryz.f253, pickC, putC, closeC, hn3, hk6, hk7, hbase, hy, hq, hw, Con.gen]
        exact EndK.all ⟨rfl, hle3, s, p3, hP3, by omega, by omega, by omega, by omega, by omega, by omega, by omega, by omega⟩
    · by_cases hc : 2 < s.bits
      · have hq := eq_true hc
        have hw := (wrap_i64 (x := s.bits - 1) (by omega) (by omega))
        simp (maxSteps := 4000000) -dsimp [-Y1, -Array.all_eq_true, -Y3, -Y4, and_assoc, Y5, Tryz.f253, pickC, putC, closeC, hn3, hk6, hk7, hbase, hy, hq, hw, Con.gen]
        refine put_play hR hty (Le.refl _) hle3 hP3 (by omega) (by omega) ?_
        rintro cx4 x p4 mem4 hle4 hP4 - d1 d2
        have hn4 := hP4.lt
        obtain ⟨oc4, hk8⟩ := Play.blk hP4
        simp only at hk8
        have hk9 := (List.getElem?_eq_some_iff.1 hk8).2
        simp (maxSteps := 4000000) -dsimp [-Y1, -Array.all_eq_true, -Y3, -Y4, and_assoc, Y5, Tryz.f253, pickC, putC, closeC, hn4, hk8, hk9, Con.gen, hw]
        exact EndK.all ⟨rfl, hle4, _, p4, (Play.upd' hP4 hk8 (s.bits - 1) s.forks _ _), by omega, by omega, by simp, by simp; try omega, by simp only; omega, by simp only; omega, by simp only; omega, by simp only; omega⟩
      · have hq := eq_false hc
        have hw := trivial
        simp (maxSteps := 4000000) -dsimp [-Y1, -Array.all_eq_true, -Y3, -Y4, and_assoc, Y5, Tryz.f253, pickC, putC, closeC, hn3, hk6, hk7, hbase, hy, hq, hw, Con.gen]
        exact EndK.all ⟨rfl, hle3, s, p3, hP3, by omega, by omega, by omega, by omega, by omega, by omega, by omega, by omega⟩
    · by_cases hc : s.bits = 1
      · have hq := eq_true hc
        have hw := trivial
        simp (maxSteps := 4000000) -dsimp [-Y1, -Array.all_eq_true, -Y3, -Y4, and_assoc, Y5, Tryz.f253, pickC, putC, closeC, hn3, hk6, hk7, hbase, hy, hq, hw, Con.gen]
        refine put_play hR hty (Le.refl _) hle3 hP3 (by omega) (by omega) ?_
        rintro cx4 x p4 mem4 hle4 hP4 - d1 d2
        have hn4 := hP4.lt
        obtain ⟨oc4, hk8⟩ := Play.blk hP4
        simp only at hk8
        have hk9 := (List.getElem?_eq_some_iff.1 hk8).2
        simp (maxSteps := 4000000) -dsimp [-Y1, -Array.all_eq_true, -Y3, -Y4, and_assoc, Y5, Tryz.f253, pickC, putC, closeC, hn4, hk8, hk9, Con.gen, hw]
        exact EndK.all ⟨rfl, hle4, _, p4, hP4, by omega, by omega, by simp, by simp; try omega, by simp only; omega, by simp only; omega, by simp only; omega, by simp only; omega⟩
      · have hq := eq_false hc
        have hw := trivial
        simp (maxSteps := 4000000) -dsimp [-Y1, -Array.all_eq_true, -Y3, -Y4, and_assoc, Y5, Tryz.f253, pickC, putC, closeC, hn3, hk6, hk7, hbase, hy, hq, hw, Con.gen]
        exact EndK.all ⟨rfl, hle3, s, p3, hP3, by omega, by omega, by omega, by omega, by omega, by omega, by omega, by omega⟩
    · by_cases hc : s.bits = 1
      · have hq := eq_true hc
        by_cases hd : s.forks < 8
        · have hr := eq_true hd
          have hw := (wrap_i64 (x := s.forks + 1) (by omega) (by omega))
          simp (maxSteps := 4000000) -dsimp [-Y1, -Array.all_eq_true, -Y3, -Y4, and_assoc, Y5, Tryz.f253, pickC, putC, closeC, hn3, hk6, hk7, hbase, hy, hq, hr, hw, Con.gen]
          refine put_play hR hty (Le.refl _) hle3 hP3 (by omega) (by omega) ?_
          rintro cx4 x p4 mem4 hle4 hP4 - d1 d2
          have hn4 := hP4.lt
          obtain ⟨oc4, hk8⟩ := Play.blk hP4
          simp only at hk8
          have hk9 := (List.getElem?_eq_some_iff.1 hk8).2
          simp (maxSteps := 4000000) -dsimp [-Y1, -Array.all_eq_true, -Y3, -Y4, and_assoc, Y5, Tryz.f253, pickC, putC, closeC, hn4, hk8, hk9, Con.gen, hw]
          exact EndK.all ⟨rfl, hle4, _, p4, (Play.upd' hP4 hk8 s.bits (s.forks + 1) _ _), by omega, by omega, by simp, by simp; try omega, by simp only; omega, by simp only; omega, by simp only; omega, by simp only; omega⟩
        · have hr := eq_false hd
          have hw := trivial
          simp (maxSteps := 4000000) -dsimp [-Y1, -Array.all_eq_true, -Y3, -Y4, and_assoc, Y5, Tryz.f253, pickC, putC, closeC, hn3, hk6, hk7, hbase, hy, hq, hr, hw, Con.gen]
          exact EndK.all ⟨rfl, hle3, s, p3, hP3, by omega, by omega, by omega, by omega, by omega, by omega, by omega, by omega⟩
      · have hq := eq_false hc
        have hw := trivial
        simp (maxSteps := 4000000) -dsimp [-Y1, -Array.all_eq_true, -Y3, -Y4, and_assoc, Y5, Tryz.f253, pickC, putC, closeC, hn3, hk6, hk7, hbase, hy, hq, hw, Con.gen]
        exact EndK.all ⟨rfl, hle3, s, p3, hP3, by omega, by omega, by omega, by omega, by omega, by omega, by omega, by omega⟩
    · by_cases hc : 0 < s.forks
      · have hq := eq_true hc
        simp (maxSteps := 4000000) -dsimp [-Y1, -Array.all_eq_true, -Y3, -Y4, and_assoc, Y5, Tryz.f253, pickC, putC, closeC, hn3, hk6, hk7, hbase, hy, hq, Con.gen]
        refine close_play hR hty (Le.refl _) hle3 hP3 (by omega) (by omega) (by omega) ?_
        rintro cx4 s4 p4 mem4 hle4 hP4 d1 d2 d3 d4 d5 d6
        have hn4 := hP4.lt
        obtain ⟨oc4, hk8⟩ := Play.blk hP4
        have hk9 := (List.getElem?_eq_some_iff.1 hk8).2
        simp (maxSteps := 4000000) -dsimp [-Y1, -Array.all_eq_true, -Y3, -Y4, and_assoc, Y5, Tryz.f253, pickC, putC, closeC, hn4, hk8, hk9, Con.gen]
        refine pick_play (hR.on hle4.fact (Nat.le_refl _)) hty (Le.refl _) hP4 (by omega) (by omega) ?_
        rintro cx5 v p5 mem5 hle5 hP5 e1 e2 ⟨z, rfl, z0, z1⟩
        have hn5 := hP5.lt
        obtain ⟨oc5, hk10⟩ := Play.blk hP5
        have hk11 := (List.getElem?_eq_some_iff.1 hk10).2
        have hw8 : IntKind.i64.wrap (8 + z) = 8 + z := wrap_i64 (by omega) (by omega)
        simp (maxSteps := 4000000) -dsimp [-Y1, -Array.all_eq_true, -Y3, -Y4, and_assoc, Y5, Tryz.f253, pickC, putC, closeC, hn5, hk10, hk11, hw8, Con.gen]
        refine put_play hR hty (Le.refl _) (hle4.trans hle5) hP5 (by omega) (by omega) ?_
        rintro cx6 x p6 mem6 hle6 hP6 hxc f1 f2
        have hn6 := hP6.lt
        obtain ⟨oc6, hk12, ho6⟩ := hP6.ex
        unfold playBlk at hk12
        simp only at hk12 ho6
        have hk13 := (List.getElem?_eq_some_iff.1 hk12).2
        obtain ⟨ko, bo, cap, rows, pad, rfl, hko, hm6, hlast, hc1, hc2, hlen6⟩ := OutRow.last ho6
        rw [hxc] at hlast
        have hkl6 := (List.getElem?_eq_some_iff.1 hm6).1
        have hm7 := (List.getElem?_eq_some_iff.1 hm6).2
        have hll := (List.getElem?_eq_some_iff.1 hlast).1
        have hlg := (List.getElem?_eq_some_iff.1 hlast).2
        have hw6 : IntKind.i64.wrap ((s4.xs.length : Int) + 1 - 1) = s4.xs.length := by rw [wrap_i64 (by omega) (by omega)]; omega
        have hw7 : IntKind.i64.wrap (s4.xs.length : Int) = s4.xs.length := wrap_i64 (by omega) (by omega)
        have hlt6 : (s4.xs.length : Int) < (s4.xs.length : Int) + 1 := by omega
        have hwf : IntKind.i64.wrap (s4.forks - 1) = s4.forks - 1 := wrap_i64 (by omega) (by omega)
        by_cases hz : z = 1
        · simp (maxSteps := 4000000) -dsimp [-Y1, -Array.all_eq_true, -Y3, -Y4, and_assoc, Y5, Tryz.f253, pickC, putC, closeC, hn6, hk12, hk13, hm6, hm7, hkl6, hlast, hll, hlg, hw6, hw7, hlt6, hwf, hz, Con.gen]
          subst hz
          exact EndK.all ⟨rfl, hle6, _, p6, (Play.upd' hP6 hk12 s4.bits (s4.forks - 1) _ _), by omega, by omega, by simp; omega, by simp; omega, by simp only; omega, by simp only; omega, by simp only; omega, by simp only; omega⟩
        · simp (maxSteps := 4000000) -dsimp [-Y1, -Array.all_eq_true, -Y3, -Y4, and_assoc, Y5, Tryz.f253, pickC, putC, closeC, hn6, hk12, hk13, hm6, hm7, hkl6, hlast, hll, hlg, hw6, hw7, hlt6, hwf, hz, Con.gen]
          refine ⟨fun h9 => absurd h9 (by omega), fun _ => ?_⟩
          exact EndK.all ⟨rfl, hle6, _, p6, hP6, by omega, by omega, by simp; omega, by simp; omega, by simp only; omega, by simp only; omega, by simp only; omega, by simp only; omega⟩
      · have hq := eq_false hc
        simp (maxSteps := 4000000) -dsimp [-Y1, -Array.all_eq_true, -Y3, -Y4, and_assoc, Y5, Tryz.f253, pickC, putC, closeC, hn3, hk6, hk7, hbase, hy, hq, Con.gen]
        exact EndK.all ⟨rfl, hle3, s, p3, hP3, by omega, by omega, by omega, by omega, by omega, by omega, by omega, by omega⟩
def stepC_S : Gens Tryz.prog 253 where
  ι := ((Rdr) × (List Blk) × (Nat) × (PS) × (Int))
  A := fun (i : ((Rdr) × (List Blk) × (Nat) × (PS) × (Int))) => match i with | (R, mem0, bp, s, p) => [.p mem0.length bp 0]
  pre := fun (i : ((Rdr) × (List Blk) × (Nat) × (PS) × (Int))) (cx : Cx) (mem : List Blk) => match i with | (R, mem0, bp, s, p) => R.ty = 160 ∧ R.Is (factF cx) mem0 ∧ Pl (factF cx) R mem0 bp s p mem ∧ 0 ≤ p ∧ p + 5000 ≤ 1125899906842624 ∧ s.xs.length ≤ 80000 ∧ 0 ≤ s.bits ∧ s.bits ≤ 16 ∧ 0 ≤ s.forks ∧ s.forks ≤ 8
  post := fun (i : ((Rdr) × (List Blk) × (Nat) × (PS) × (Int))) (cx : Cx) (mem : List Blk) (cx' : Cx) (c : C) (mem' : List Blk) => match i with | (R, mem0, bp, s, p) => c = .v (.tuple #[]) ∧ Le cx cx' ∧ ∃ s' p', Pl (factF cx') R mem0 bp s' p' mem' ∧ p ≤ p' ∧ p' ≤ p + 5000 ∧ s.xs.length ≤ s'.xs.length ∧ s'.xs.length ≤ s.xs.length + 19 ∧ 0 ≤ s'.bits ∧ s'.bits ≤ 16 ∧ 0 ≤ s'.forks ∧ s'.forks ≤ 8
  enter := Tryz.call253
  h := fun i cx mem w hp hm => stepC_c i.1 i.2.1 i.2.2.1 i.2.2.2.1 i.2.2.2.2 cx mem w hp hm
def stepC : Con Tryz.prog := Con.gen stepC_S
theorem stepC_at {R : Rdr} {mem0 : List Blk} {bp : Nat} {s : PS} {p : Int} {d : Nat} {cx : Cx} {mem : List Blk} {K : Cx → C → List Blk → Prop} (hpre : R.ty = 160 ∧ R.Is (factF cx) mem0 ∧ Pl (factF cx) R mem0 bp s p mem ∧ 0 ≤ p ∧ p + 5000 ≤ 1125899906842624 ∧ s.xs.length ≤ 80000 ∧ 0 ≤ s.bits ∧ s.bits ≤ 16 ∧ 0 ≤ s.forks ∧ s.forks ≤ 8) (h : ∀ cx' c mem', (c = .v (.tuple #[]) ∧ Le cx cx' ∧ ∃ s' p', Pl (factF cx') R mem0 bp s' p' mem' ∧ p ≤ p' ∧ p' ≤ p + 5000 ∧ s.xs.length ≤ s'.xs.length ∧ s'.xs.length ≤ s.xs.length + 19 ∧ 0 ≤ s'.bits ∧ s'.bits ≤ 16 ∧ 0 ≤ s'.forks ∧ s'.forks ≤ 8) → K cx' c mem') : GenV d stepC_S cx [.p mem0.length bp 0] mem K := ⟨(R, mem0, bp, s, p), rfl, hpre, h⟩
end Go.Proofs.YtclbanhoiaieaaaGreatDoor
