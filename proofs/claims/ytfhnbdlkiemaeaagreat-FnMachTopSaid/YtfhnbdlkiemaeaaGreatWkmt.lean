/-
  Contracts: the machine whose stacks are lists does an instruction.
-/
import Derived.Test.YtfhnbdlkiemaeaaGreatWimt
set_option linter.unusedVariables false
set_option linter.unusedSimpArgs false
set_option maxRecDepth 100000
set_option maxHeartbeats 4000000
namespace Go.Sx
open Go

theorem idN_low {t : ID} {x : Ins} {dt : Int} (h : 1 ≤ x.code ∧ x.code ≤ 3) : idN t x dt = ⟨testM t.m x.op (argD x.args 0) (argD x.args 1), idJoin x.code t.bits (testB t.m x.op (argD x.args 0) (argD x.args 1)), t.forks⟩ := by unfold idN; rw [if_pos h]
theorem idN_45 {t : ID} {x : Ins} {dt : Int} (h : x.code = 4 ∨ x.code = 5) : idN t x dt = ⟨t.m, idJoin (x.code - 2) t.bits.dropLast (lastB t.bits), t.forks⟩ := by unfold idN; rw [if_neg (by omega), if_pos h]
theorem idN_6 {t : ID} {x : Ins} {dt : Int} (h : x.code = 6) : idN t x dt = ⟨t.m, t.bits.dropLast ++ [!lastB t.bits], t.forks⟩ := by unfold idN; rw [if_neg (by omega), if_neg (by omega), if_pos h]
theorem idN_7 {t : ID} {x : Ins} {dt : Int} (h : x.code = 7) : idN t x dt = ⟨t.m, t.bits, t.forks ++ [lastB t.bits]⟩ := by unfold idN; rw [if_neg (by omega), if_neg (by omega), if_neg (by omega), if_pos h]
theorem idN_8 {t : ID} {x : Ins} {dt : Int} (h : x.code = 8) : idN t x dt = ⟨t.m, t.bits.dropLast ++ [lastB t.forks], t.forks⟩ := by unfold idN; rw [if_neg (by omega), if_neg (by omega), if_neg (by omega), if_neg (by omega), if_pos h]
theorem idN_9 {t : ID} {x : Ins} {dt : Int} (h : x.code = 9) : idN t x dt = ⟨t.m, t.bits.dropLast ++ [lastB t.forks], t.forks.dropLast⟩ := by unfold idN; rw [if_neg (by omega), if_neg (by omega), if_neg (by omega), if_neg (by omega), if_neg (by omega), if_pos h]
theorem idN_10 {t : ID} {x : Ins} {dt : Int} (h : x.code = 10) : idN t x dt = ⟨doM t.m x.op (argD x.args 0) (argD x.args 1) (argD x.args 2) (lastB t.bits) dt, t.bits, t.forks⟩ := by unfold idN; rw [if_neg (by omega), if_neg (by omega), if_neg (by omega), if_neg (by omega), if_neg (by omega), if_neg (by omega), if_pos h]
theorem idN_11 {t : ID} {x : Ins} {dt : Int} (h : x.code = 11) : idN t x dt = ⟨t.m, t.bits.dropLast, t.forks⟩ := by unfold idN; rw [if_neg (by omega), if_neg (by omega), if_neg (by omega), if_neg (by omega), if_neg (by omega), if_neg (by omega), if_neg (by omega), if_pos h]
theorem idN_no {t : ID} {x : Ins} {dt : Int} (h : x.code < 1 ∨ 11 < x.code) : idN t x dt = t := by unfold idN; rw [if_neg (by omega), if_neg (by omega), if_neg (by omega), if_neg (by omega), if_neg (by omega), if_neg (by omega), if_neg (by omega), if_neg (by omega)]
theorem halt_needs {b f : Int} {x : Ins} (h : haltN b f x = 0) (hc : 1 ≤ x.code ∧ x.code ≤ 11) : needsN x.code ≤ b ∧ (x.code = 8 ∨ x.code = 9 → f ≠ 0) ∧ (x.code = 1 → b ≠ 16) ∧ (x.code = 7 → f ≠ 8) := by
  unfold haltN at h
  rw [if_neg (by simpa using hc)] at h
  split at h
  · omega
  rename_i a
  split at h
  · omega
  rename_i c
  refine ⟨by omega, fun e => by omega, fun e => by omega, fun e => by omega⟩
theorem BRow.cut {TB : TypeId} {n0 kf bf cf : Nat} {f : List Bool} {padf : List C} {mem : List Blk} (hne : f ≠ []) (g1 : n0 < kf) (g2 : mem[kf]? = Option.some ⟨bf, rowB f padf, TB⟩) (g3 : f.length ≤ cf) (g4 : cf ≤ maxLen) (g5 : (rowB f padf).length = cf) :
    BRow TB n0 (.s kf bf 0 (f.length - 1) cf) f.dropLast mem := by
  refine Or.inr ⟨kf, bf, cf, C.v (.bool (lastB f)) :: padf, by rw [List.length_dropLast], g1, by rw [← rowB_pop hne]; exact g2, by rw [List.length_dropLast]; omega, g4, by rw [← rowB_pop hne]; exact g5⟩
theorem wz0 : IntKind.i64.wrap 0 = 0 := by kernel_rfl
theorem wz2 : IntKind.i64.wrap 2 = 2 := by kernel_rfl
theorem wz3 : IntKind.i64.wrap 3 = 3 := by kernel_rfl
theorem wz1 : IntKind.i64.wrap 1 = 1 := by kernel_rfl
end Go.Sx
namespace Go.Proofs.YtfhnbdlkiemaeaaGreat
open Go Go.Sx
open List renaming all_eq_true → Y1, zipIdx → Y5
open Bool renaming exists_bool → Y3, forall_bool → Y4
attribute [local simp] Sx.vcsE1 Sx.vcsE2 Sx.vcsE3 Sx.vcsE4 Sx.vcsE5 Sx.vcsE6 Sx.vcsE7 Sx.vcsE8 Sx.vcsE9 Sx.vcsE10 Sx.vcsE11 Sx.vcsE12 Sx.vcsE13 Sx.vcsE14 Sx.vcsE15 Sx.vcsE16 Sx.vcsE17 Sx.vcsE18 Sx.vcsE19 Sx.get Sx.look Sx.put Sx.pureFn Sx.findOrd Sx.unF Sx.dstOk Sx.isFloatT Sx.endVC Sx.resFn Sx.packC Sx.newFn Sx.storeFn Sx.buildFn Sx.known Sx.aggT Sx.cellsC Sx.findCon Sx.allV Sx.partsV Sx.partsC Sx.fillL Sx.exitTo Sx.fAr Sx.eqFn Sx.eqFieldsFn Sx.eqElemsFn Sx.partFn Sx.sliceFn Sx.boundFn Sx.AppV Sx.CopyV Sx.MakeSliceV Sx.NewsV Sx.GrowV Sx.TextV Sx.bytesL Sx.notInt Sx.typeAt Sx.argAt Sx.den Go.undef Go.Value.cells Go.Value.oneCell' Sx.Con.pure Sx.Con.some Sx.Con.read Sx.Con.make Sx.Con.ext Sx.Con.rel Sx.Con.extS Sx.Con.draw Sx.Con.step Sx.C.one Sx.Draws.steps

theorem idDoC_c (mem0 : List Blk) (bx : Nat) (t : ID) (code op : Int) (o : Option Addr) (cap : Nat) (xs : List Dev) (dt : Int) (cx : Cx) (mem : List Blk) (w : World) (hpre : IdP 104 4 mem0 bx t mem ∧ RdD (factF cx) o xs ∧ List.length xs ≤ 1048576 ∧ MOk t.m ∧ 0 ≤ dt ∧ dt < 65536 ∧ List.length t.bits ≤ 16 ∧ List.length t.forks ≤ 8 ∧ haltN (List.length t.bits) (List.length t.forks) ⟨code, op, xs⟩ = 0) (hm : MemRel cx mem w) :
    Calls Tryz.prog 44 (([.p (List.length mem0) bx 0, .v (.agg #[.int .i64 code, .int .i64 op, .slice o (List.length xs) cap]), .v (.int .u16 dt)] : List C).map den).toArray w fun e w' => ∃ cx' c mem', e = .returned (den c) ∧ MemRel cx' mem' w' ∧ Le cx cx' ∧ c = .v (.tuple #[]) ∧ ∃ t' : ID, IdP 104 4 mem0 bx t' mem' ∧ t'.bits = (idN t ⟨code, op, xs⟩ dt).bits ∧ t'.forks = (idN t ⟨code, op, xs⟩ dt).forks ∧ MSame t'.m (idN t ⟨code, op, xs⟩ dt).m ∧ MOk t'.m := by
  refine step_of_vcs ⟨[idPopC, idJoinC, sActTestC, sActDoC], [(17, [(0, false), (1, false), (2, false), (3, false), (4, false), (5, false), (6, false), (7, false), (8, false), (9, false), (10, false), (11, false), (12, false), (13, false), (14, false), (15, false), (16, false), (17, false), (4, true), (18, false), (19, false), (20, false), (21, false)]), (20, [(0, false), (1, false), (2, false), (3, false), (4, false), (5, false), (6, false), (7, false), (8, false), (9, false), (10, false), (11, false), (12, false), (4, true), (13, false), (14, false), (15, false), (16, false)]), (23, [(0, false), (1, false), (2, false), (3, false), (4, false), (5, false), (6, false), (7, false), (8, false), (9, false), (10, false), (11, false), (12, false), (4, true), (13, false), (14, false), (15, false), (16, false)])]⟩ hmx Tryz.func44 rfl (by kernel_rfl) (args := [.p (List.length mem0) bx 0, .v (.agg #[.int .i64 code, .int .i64 op, .slice o (List.length xs) cap]), .v (.int .u16 dt)]) (by simp [Tryz.ntmps44]) hm (fun cx' c mem' => Le cx cx' ∧ c = .v (.tuple #[]) ∧ ∃ t' : ID, IdP 104 4 mem0 bx t' mem' ∧ t'.bits = (idN t ⟨code, op, xs⟩ dt).bits ∧ t'.forks = (idN t ⟨code, op, xs⟩ dt).forks ∧ MSame t'.m (idN t ⟨code, op, xs⟩ dt).m ∧ MOk t'.m) 600 ?_
  obtain ⟨hP, h, hl, hmm, hd1, hd2, hbl, hfl, hh⟩ := hpre
  obtain ⟨m, l, f⟩ := t
  simp only at hmm hbl hfl hh ⊢
  have hP0 := hP
  obtain ⟨h1, h2, ob, og, hk, hb, hf, ha⟩ := hP
  simp only at hk hb hf
  have hk2 := (List.getElem?_eq_some_iff.1 hk).2
  obtain ⟨nf, hnf⟩ : ∃ nf : Int, (f.length : Int) = nf := ⟨_, rfl⟩
  have hwt : IntKind.i64.wrap (nf - 1) = nf - 1 := wrap_i64 (by omega) (by omega)
  have w0 := wz0
  have w2 := wz2
  have w3 := wz3
  have t1 := fun (d : Nat) (mem : List Blk) (K : C → Prop) => sActTestC_rw (d := d) (cx := cx) (mem := mem) (K := K) (m := m) (op := op) (o := o) (cap := cap) (xs := xs) ⟨h.mono (sub_now _ _), hmm⟩
  have tmo := testM_ok (op := op) (a := argD xs 0) (b := argD xs 1) hmm
  have hog : (og = .v (.slice none 0 0) ∧ nf = 0) ∨ ∃ ko bo cf, og = .s ko bo 0 f.length cf := by
    rcases hf with ⟨e, e2⟩ | ⟨ko, bo, cb, pad, e, _⟩
    · left; exact ⟨e, by rw [← hnf, e2]; rfl⟩
    · right; exact ⟨ko, bo, cb, e⟩
  by_cases hc : 1 ≤ code ∧ code ≤ 11
  · obtain ⟨n1, n2, n3, n4⟩ := halt_needs hh hc
    simp only at n1 n2 n3 n4
    have nel : 1 ≤ (l.length : Int) → l ≠ [] := fun a e => by rw [e] at a; simp at a
    by_cases c1 : code = 1
    · subst c1
      rw [idN_low (by simp)]
      simp only
      have q1 : (1 : Int) = 1 → l.length < 16 := fun e => by have := n3 rfl; omega
      have q2 : (1 : Int) ≠ 1 → l ≠ [] := fun e => nel (by exact absurd rfl e)
      rcases hog with ⟨rfl, rfl⟩ | ⟨ko, bo, cf, rfl⟩
      all_goals
        simp (maxSteps := 4000000) -dsimp [-Y1, -Array.all_eq_true, -Y3, -Y4, and_assoc, Y5, Tryz.f44, idPopC, idJoinC, sActTestC, sActDoC, -Sx.splice_two, Con.gen, t1, h2, hk, hk2, idBlk, id_len, id_take, id_set136, id_set137, id_spl, List.getElem?_append, List.getElem_append, List.set_append, hnf, hwt, w0, w2, w3]
        intro b0 b1
        refine idJoinC_at (t := ⟨testM m op (argD xs 0) (argD xs 1), l, f⟩) ⟨(IdP.put h1 h2 hb hf ha).app _, q1, q2, hbl⟩ ?_
        rintro cx3 _ mem3 ⟨hle3, rfl, hP3⟩
        simp (maxSteps := 4000000) -dsimp [-Y1, -Array.all_eq_true, -Y3, -Y4, and_assoc, Y5, Tryz.f44, idPopC, idJoinC, sActTestC, sActDoC, Con.gen]
        exact EndK.all ⟨hle3, rfl, _, hP3, rfl, rfl, MSame_refl _, tmo⟩

    by_cases c2 : code = 2
    · subst c2
      rw [idN_low (by simp)]
      simp only
      have q1 : (2 : Int) = 1 → l.length < 16 := fun e => by exact absurd e (by decide)
      have q2 : (2 : Int) ≠ 1 → l ≠ [] := fun e => nel (by unfold needsN at n1; simp at n1; omega)
      rcases hog with ⟨rfl, rfl⟩ | ⟨ko, bo, cf, rfl⟩
      all_goals
        simp (maxSteps := 4000000) -dsimp [-Y1, -Array.all_eq_true, -Y3, -Y4, and_assoc, Y5, Tryz.f44, idPopC, idJoinC, sActTestC, sActDoC, -Sx.splice_two, Con.gen, t1, h2, hk, hk2, idBlk, id_len, id_take, id_set136, id_set137, id_spl, List.getElem?_append, List.getElem_append, List.set_append, hnf, hwt, w0, w2, w3]
        intro b0 b1
        refine idJoinC_at (t := ⟨testM m op (argD xs 0) (argD xs 1), l, f⟩) ⟨(IdP.put h1 h2 hb hf ha).app _, q1, q2, hbl⟩ ?_
        rintro cx3 _ mem3 ⟨hle3, rfl, hP3⟩
        simp (maxSteps := 4000000) -dsimp [-Y1, -Array.all_eq_true, -Y3, -Y4, and_assoc, Y5, Tryz.f44, idPopC, idJoinC, sActTestC, sActDoC, Con.gen]
        exact EndK.all ⟨hle3, rfl, _, hP3, rfl, rfl, MSame_refl _, tmo⟩

    by_cases c3 : code = 3
    · subst c3
      rw [idN_low (by simp)]
      simp only
      have q1 : (3 : Int) = 1 → l.length < 16 := fun e => by exact absurd e (by decide)
      have q2 : (3 : Int) ≠ 1 → l ≠ [] := fun e => nel (by unfold needsN at n1; simp at n1; omega)
      rcases hog with ⟨rfl, rfl⟩ | ⟨ko, bo, cf, rfl⟩
      all_goals
        simp (maxSteps := 4000000) -dsimp [-Y1, -Array.all_eq_true, -Y3, -Y4, and_assoc, Y5, Tryz.f44, idPopC, idJoinC, sActTestC, sActDoC, -Sx.splice_two, Con.gen, t1, h2, hk, hk2, idBlk, id_len, id_take, id_set136, id_set137, id_spl, List.getElem?_append, List.getElem_append, List.set_append, hnf, hwt, w0, w2, w3]
        intro b0 b1
        refine idJoinC_at (t := ⟨testM m op (argD xs 0) (argD xs 1), l, f⟩) ⟨(IdP.put h1 h2 hb hf ha).app _, q1, q2, hbl⟩ ?_
        rintro cx3 _ mem3 ⟨hle3, rfl, hP3⟩
        simp (maxSteps := 4000000) -dsimp [-Y1, -Array.all_eq_true, -Y3, -Y4, and_assoc, Y5, Tryz.f44, idPopC, idJoinC, sActTestC, sActDoC, Con.gen]
        exact EndK.all ⟨hle3, rfl, _, hP3, rfl, rfl, MSame_refl _, tmo⟩

    by_cases c4 : code = 4
    · subst c4
      rw [idN_45 (by simp)]
      simp only
      have q0 : 2 ≤ (l.length : Int) := by unfold needsN at n1; simp at n1; omega
      have hne := nel (by omega)
      have hdl : l.dropLast.length = l.length - 1 := List.length_dropLast
      rcases hog with ⟨rfl, rfl⟩ | ⟨ko, bo, cf, rfl⟩
      all_goals
        simp (maxSteps := 4000000) -dsimp [-Y1, -Array.all_eq_true, -Y3, -Y4, and_assoc, Y5, Tryz.f44, idPopC, idJoinC, sActTestC, sActDoC, -Sx.splice_two, Con.gen, t1, h2, hk, hk2, idBlk, id_len, id_take, id_set136, id_set137, id_spl, List.getElem?_append, List.getElem_append, List.set_append, hnf, hwt, w0, w2, w3]
        intro b0
        refine idPopC_at (t := ⟨m, l, f⟩) ⟨hP0.app _, hne, hbl⟩ ?_
        rintro _ _ mem1 ⟨rfl, rfl, hP1, B1, hB1⟩
        have hi : mem1[mem.length]? = some ⟨b0, [.v (.int .i64 4), .v (.int .i64 op), .v (.slice o xs.length cap)], 66⟩ := by
          rw [hB1, List.getElem?_set_ne (by omega), List.getElem?_append_right (Nat.le_refl _), Nat.sub_self]; rfl
        have hil := (List.getElem?_eq_some_iff.1 hi).1
        have hi2 := (List.getElem?_eq_some_iff.1 hi).2
        have w1 := wz1
        simp (maxSteps := 4000000) -dsimp [-Y1, -Array.all_eq_true, -Y3, -Y4, and_assoc, Y5, Tryz.f44, idPopC, idJoinC, sActTestC, sActDoC, -Sx.splice_two, Con.gen, hi, hil, hi2, w1, h2, hk, hk2, idBlk, id_len, id_take, id_set136, id_set137, id_spl, List.getElem?_append, List.getElem_append, List.set_append, hnf, hwt, w0, w2, w3]
        refine idJoinC_at (t := ⟨m, l.dropLast, f⟩) ⟨hP1, fun e => absurd e (by decide), fun _ e => by simp only at e; rw [e] at hdl; simp at hdl; omega, by simp only; omega⟩ ?_
        rintro cx3 _ mem3 ⟨hle3, rfl, hP3⟩
        simp (maxSteps := 4000000) -dsimp [-Y1, -Array.all_eq_true, -Y3, -Y4, and_assoc, Y5, Tryz.f44, idPopC, idJoinC, sActTestC, sActDoC, Con.gen]
        exact EndK.all ⟨hle3, rfl, _, hP3, rfl, rfl, MSame_refl _, hmm⟩

    by_cases c5 : code = 5
    · subst c5
      rw [idN_45 (by simp)]
      simp only
      have q0 : 2 ≤ (l.length : Int) := by unfold needsN at n1; simp at n1; omega
      have hne := nel (by omega)
      have hdl : l.dropLast.length = l.length - 1 := List.length_dropLast
      rcases hog with ⟨rfl, rfl⟩ | ⟨ko, bo, cf, rfl⟩
      all_goals
        simp (maxSteps := 4000000) -dsimp [-Y1, -Array.all_eq_true, -Y3, -Y4, and_assoc, Y5, Tryz.f44, idPopC, idJoinC, sActTestC, sActDoC, -Sx.splice_two, Con.gen, t1, h2, hk, hk2, idBlk, id_len, id_take, id_set136, id_set137, id_spl, List.getElem?_append, List.getElem_append, List.set_append, hnf, hwt, w0, w2, w3]
        intro b0
        refine idPopC_at (t := ⟨m, l, f⟩) ⟨hP0.app _, hne, hbl⟩ ?_
        rintro _ _ mem1 ⟨rfl, rfl, hP1, B1, hB1⟩
        have hi : mem1[mem.length]? = some ⟨b0, [.v (.int .i64 5), .v (.int .i64 op), .v (.slice o xs.length cap)], 66⟩ := by
          rw [hB1, List.getElem?_set_ne (by omega), List.getElem?_append_right (Nat.le_refl _), Nat.sub_self]; rfl
        have hil := (List.getElem?_eq_some_iff.1 hi).1
        have hi2 := (List.getElem?_eq_some_iff.1 hi).2
        have w1 := wz1
        simp (maxSteps := 4000000) -dsimp [-Y1, -Array.all_eq_true, -Y3, -Y4, and_assoc, Y5, Tryz.f44, idPopC, idJoinC, sActTestC, sActDoC, -Sx.splice_two, Con.gen, hi, hil, hi2, w1, h2, hk, hk2, idBlk, id_len, id_take, id_set136, id_set137, id_spl, List.getElem?_append, List.getElem_append, List.set_append, hnf, hwt, w0, w2, w3]
        refine idJoinC_at (t := ⟨m, l.dropLast, f⟩) ⟨hP1, fun e => absurd e (by decide), fun _ e => by simp only at e; rw [e] at hdl; simp at hdl; omega, by simp only; omega⟩ ?_
        rintro cx3 _ mem3 ⟨hle3, rfl, hP3⟩
        simp (maxSteps := 4000000) -dsimp [-Y1, -Array.all_eq_true, -Y3, -Y4, and_assoc, Y5, Tryz.f44, idPopC, idJoinC, sActTestC, sActDoC, Con.gen]
        exact EndK.all ⟨hle3, rfl, _, hP3, rfl, rfl, MSame_refl _, hmm⟩

    by_cases c6 : code = 6
    · subst c6
      rw [idN_6 (by simp)]
      simp only
      have hne := nel (by unfold needsN at n1; simp at n1; omega)
      obtain ⟨l', hl'⟩ : ∃ l', l' = l.dropLast := ⟨_, rfl⟩
      have hll : l'.length ≤ 16 := by rw [hl', List.length_dropLast]; omega
      rw [← hl']
      rcases hog with ⟨rfl, rfl⟩ | ⟨ko, bo, cf, rfl⟩
      all_goals
        simp (maxSteps := 4000000) -dsimp [-Y1, -Array.all_eq_true, -Y3, -Y4, and_assoc, Y5, Tryz.f44, idPopC, idJoinC, sActTestC, sActDoC, -Sx.splice_two, Con.gen, h2, hk, hk2, idBlk, id_len, id_take, id_set136, id_set137, id_spl, List.getElem?_append, List.getElem_append, List.set_append, hnf, hwt, w0, w2, w3]
        intro b0
        refine idPopC_at (t := ⟨m, l, f⟩) ⟨hP0.app _, hne, hbl⟩ ?_
        rintro _ _ mem1 ⟨rfl, rfl, hP1, -⟩
        simp only at hP1
        rw [← hl'] at hP1
        obtain ⟨h1', h2', ob', og', hk', hb', hf', ha'⟩ := hP1
        simp only at hk' hb' hf'
        have hk2' := (List.getElem?_eq_some_iff.1 hk').2
        simp only
        rcases hb' with ⟨rfl, hnil⟩ | ⟨ko', bo', cap', pad, rfl, g1, g2, g3, g4, g5⟩
        · simp (maxSteps := 4000000) -dsimp [-Y1, -Array.all_eq_true, -Y3, -Y4, and_assoc, Y5, Tryz.f44, idPopC, idJoinC, sActTestC, sActDoC, -Sx.splice_two, Con.gen, h2', hk', hk2', idBlk, id_len, id_take, id_set136, id_set137, id_spl, List.getElem?_append, List.getElem_append, List.set_append, hnf, hwt, w0, w2, w3]
          intro cx2 lq hle2 hl2
          rw [RdL.sl ((hl2.mono (sub_new cx2)).mono (sub_now _ _)) (by simp)]
          unfold GrowV
          simp (maxSteps := 4000000) -dsimp [-Y1, -Array.all_eq_true, -Y3, -Y4, and_assoc, Y5, Tryz.f44, idPopC, idJoinC, sActTestC, sActDoC, -Sx.splice_two, Con.gen, h2', hk', hk2', idBlk, id_len, id_take, id_set136, id_set137, id_spl, List.getElem?_append, List.getElem_append, List.set_append, hnf, hwt, w0, w2, w3]
          refine ⟨by decide, fun b8 cap8 pad8 d1 d2 d3 => ?_⟩
          have hnil : l' = [] := hnil
          rw [hnil]
          have hz := IdP.pushNil (TI := 104) (TB := 4) (bx := bx) (b' := b8) (m := m) (x := (!lastB l)) h1' h2' hf' d1 d2 d3
          exact EndK.all ⟨hle2, rfl, _, hz, rfl, rfl, MSame_refl _, hmm⟩
        · have hg2 := (List.getElem?_eq_some_iff.1 g2).2
          have hgl := (List.getElem?_eq_some_iff.1 g2).1
          have hrt := rowB_take l' pad
          have hn : ¬ ko' = mem0.length := by omega
          have hml : List.length l' + 1 ≤ maxLen := by unfold maxLen; omega
          have g3' : List.length l' ≤ cap' := g3
          simp (maxSteps := 4000000) -dsimp [-Y1, -Array.all_eq_true, -Y3, -Y4, and_assoc, Y5, Tryz.f44, idPopC, idJoinC, sActTestC, sActDoC, -Sx.splice_two, Con.gen, h2', hk', hk2', g2, hg2, hgl, idBlk, id_len, id_take, id_set136, id_set137, id_spl, List.getElem?_append, List.getElem_append, List.set_append, hnf, hwt, w0, w2, w3]
          intro cx2 lq hle2 hl2
          rw [RdL.sl ((hl2.mono (sub_new cx2)).mono (sub_now _ _)) (by simp)]
          unfold GrowV
          simp (maxSteps := 4000000) -dsimp [-Y1, -Array.all_eq_true, -Y3, -Y4, and_assoc, Y5, Tryz.f44, idPopC, idJoinC, sActTestC, sActDoC, -Sx.splice_two, Con.gen, h2', hk', hk2', g2, hg2, hgl, g3', g4, g5, hrt, hml, List.getElem_set, hn, idBlk, id_len, id_take, id_set136, id_set137, id_spl, List.getElem?_append, List.getElem_append, List.set_append, hnf, hwt, w0, w2, w3]
          refine ⟨by omega, fun b8 cap8 pad8 d1 d2 d3 => ?_⟩
          have hz := IdP.push (TI := 104) (TB := 4) (bx := bx) (b' := b8) (m := m) (x := (!lastB l)) h1' h2' g1 hgl hf' ha' d1 d2 d3
          exact EndK.all ⟨hle2, rfl, _, hz, rfl, rfl, MSame_refl _, hmm⟩

    by_cases c7 : code = 7
    · subst c7
      rw [idN_7 (by simp)]
      simp only
      have hne := nel (by unfold needsN at n1; simp at n1; omega)
      obtain ⟨kb, bb, cb, padb, rfl, u1, u2, u3, u4, u5⟩ := hb.some hne
      have hu2 := (List.getElem?_eq_some_iff.1 u2).2
      have hul := (List.getElem?_eq_some_iff.1 u2).1
      have hpos : 0 < l.length := List.length_pos_iff.2 hne
      have wl : IntKind.i64.wrap ((l.length : Int) - 1) = ((l.length - 1 : Nat) : Int) := by
        rw [wrap_i64 (by omega) (by omega)]
        omega
      have hlast := rowB_last hne padb
      have hlast2 := (List.getElem?_eq_some_iff.1 hlast).2
      have hlast3 := (List.getElem?_eq_some_iff.1 hlast).1
      have o1 : l.length - 1 < l.length := by omega
      have hml : f.length + 1 ≤ maxLen := by unfold maxLen; omega
      rcases hf with ⟨rfl, hnil⟩ | ⟨ko, bo, cf, pad, rfl, g1, g2, g3, g4, g5⟩
      · have hnil : f = [] := hnil
        obtain rfl : nf = 0 := by rw [← hnf, hnil]; rfl
        simp (maxSteps := 4000000) -dsimp [-Y1, -Array.all_eq_true, -Y3, -Y4, and_assoc, Y5, Tryz.f44, idPopC, idJoinC, sActTestC, sActDoC, -Sx.splice_two, Con.gen, u2, hu2, hul, wl, hlast, hlast2, hlast3, o1, h2, hk, hk2, idBlk, id_len, id_take, id_set136, id_set137, id_spl, List.getElem?_append, List.getElem_append, List.set_append, hnf, hwt, w0, w2, w3]
        intro b0 cx2 lq hle2 hl2
        rw [RdL.sl ((hl2.mono (sub_new cx2)).mono (sub_now _ _)) (by simp)]
        unfold GrowV
        simp (maxSteps := 4000000) -dsimp [-Y1, -Array.all_eq_true, -Y3, -Y4, and_assoc, Y5, Tryz.f44, idPopC, idJoinC, sActTestC, sActDoC, -Sx.splice_two, Con.gen, u2, hu2, hul, wl, hlast, hlast2, hlast3, o1, h2, hk, hk2, idBlk, id_len, id_take, id_set136, id_set137, id_spl, List.getElem?_append, List.getElem_append, List.set_append, hnf, hwt, w0, w2, w3]
        refine ⟨by decide, fun b8 cap8 pad8 d1 d2 d3 => ?_⟩
        have hz := IdP.pushNilF (TI := 104) (TB := 4) (bx := bx) (b' := b8) (m := m) (x := lastB l) (mem := mem ++ [⟨b0, [.v (.int .i64 7), .v (.int .i64 op), .v (.slice o xs.length cap)], 66⟩]) (by rw [List.take_append_of_le_length (by omega)]; exact h1) (by simp; omega) (hb.app _) d1 d2 d3
        rw [List.set_append_left _ _ h2, List.length_append, List.append_assoc] at hz
        exact EndK.all ⟨hle2, rfl, _, hz, rfl, by rw [hnil]; rfl, MSame_refl _, hmm⟩
      · have hg2 := (List.getElem?_eq_some_iff.1 g2).2
        have hgl := (List.getElem?_eq_some_iff.1 g2).1
        have hrt := rowB_take f pad
        have hn : ¬ ko = mem0.length := by omega
        simp (maxSteps := 4000000) -dsimp [-Y1, -Array.all_eq_true, -Y3, -Y4, and_assoc, Y5, Tryz.f44, idPopC, idJoinC, sActTestC, sActDoC, -Sx.splice_two, Con.gen, g2, hg2, hgl, u2, hu2, hul, wl, hlast, hlast2, hlast3, o1, h2, hk, hk2, idBlk, id_len, id_take, id_set136, id_set137, id_spl, List.getElem?_append, List.getElem_append, List.set_append, hnf, hwt, w0, w2, w3]
        intro b0 cx2 lq hle2 hl2
        rw [RdL.sl ((hl2.mono (sub_new cx2)).mono (sub_now _ _)) (by simp)]
        unfold GrowV
        simp (maxSteps := 4000000) -dsimp [-Y1, -Array.all_eq_true, -Y3, -Y4, and_assoc, Y5, Tryz.f44, idPopC, idJoinC, sActTestC, sActDoC, -Sx.splice_two, Con.gen, g2, hg2, hgl, g3, g4, g5, hrt, hml, List.getElem_set, hn, u2, hu2, hul, wl, hlast, hlast2, hlast3, o1, h2, hk, hk2, idBlk, id_len, id_take, id_set136, id_set137, id_spl, List.getElem?_append, List.getElem_append, List.set_append, hnf, hwt, w0, w2, w3]
        refine ⟨by omega, fun b8 cap8 pad8 d1 d2 d3 => ?_⟩
        have hz := IdP.pushF (TI := 104) (TB := 4) (bx := bx) (b' := b8) (m := m) (x := lastB l) h1 h2 g1 hgl hb ha d1 d2 d3
        exact EndK.all ⟨hle2, rfl, _, hz.app _, rfl, rfl, MSame_refl _, hmm⟩

    by_cases c10 : code = 10
    · subst c10
      rw [idN_10 (by simp)]
      simp only
      have hne := nel (by unfold needsN at n1; simp at n1; omega)
      obtain ⟨kb, bb, cb, padb, rfl, u1, u2, u3, u4, u5⟩ := (show BRow 4 mem0.length ob l mem from hb).some hne
      have hu2 := (List.getElem?_eq_some_iff.1 u2).2
      have hul := (List.getElem?_eq_some_iff.1 u2).1
      have hpos : 0 < l.length := List.length_pos_iff.2 hne
      have wl : IntKind.i64.wrap ((l.length : Int) - 1) = ((l.length - 1 : Nat) : Int) := by
        rw [wrap_i64 (by omega) (by omega)]
        omega
      have hlast := rowB_last hne padb
      have hlast2 := (List.getElem?_eq_some_iff.1 hlast).2
      have hlast3 := (List.getElem?_eq_some_iff.1 hlast).1
      have o1 : l.length - 1 < l.length := by omega
      rcases hog with ⟨rfl, rfl⟩ | ⟨ko, bo, cf, rfl⟩
      all_goals
        simp (maxSteps := 4000000) -dsimp [-Y1, -Array.all_eq_true, -Y3, -Y4, and_assoc, Y5, Tryz.f44, idPopC, idJoinC, sActTestC, sActDoC, -Sx.splice_two, Con.gen, u2, hu2, hul, wl, hlast, hlast2, hlast3, o1, h2, hk, hk2, idBlk, id_len, id_take, id_set136, id_set137, id_spl, List.getElem?_append, List.getElem_append, List.set_append, hnf, hwt, w0, w2, w3]
        intro b0
        refine ⟨(m, op, o, cap, xs, lastB l, dt), rfl, ⟨h.mono (sub_now _ _), hmm, hd1, hd2⟩, fun v hv => ?_⟩
        obtain ⟨m', rfl, s1, k1⟩ := hv.ex
        simp (maxSteps := 4000000) -dsimp [-Y1, -Array.all_eq_true, -Y3, -Y4, and_assoc, Y5, Tryz.f44, idPopC, idJoinC, sActTestC, sActDoC, -Sx.splice_two, Con.gen, u2, hu2, hul, wl, hlast, hlast2, hlast3, o1, h2, hk, hk2, idBlk, id_len, id_take, id_set136, id_set137, id_spl, List.getElem?_append, List.getElem_append, List.set_append, hnf, hwt, w0, w2, w3]
        exact EndK.all ⟨Le.refl _, rfl, _, (IdP.put (m := m') h1 h2 hb hf ha).app _, rfl, rfl, s1, k1⟩

    by_cases c8 : code = 8
    · subst c8
      rw [idN_8 (by simp)]
      simp only
      have hne := nel (by unfold needsN at n1; simp at n1; omega)
      have nef : f ≠ [] := fun e => by
        have := n2 (by simp)
        rw [e] at this
        simp at this
      have hfpos : 0 < f.length := List.length_pos_iff.2 nef
      have wtop : IntKind.i64.wrap ((f.length : Int) - 1) = ((f.length - 1 : Nat) : Int) := by
        rw [wrap_i64 (by omega) (by omega)]
        omega
      obtain ⟨l', hl'⟩ : ∃ l', l' = l.dropLast := ⟨_, rfl⟩
      have hll : l'.length ≤ 16 := by rw [hl', List.length_dropLast]; omega
      rw [← hl']
      have of1 : f.length - 1 < f.length := by omega
      obtain ⟨kf0, bf0, cf0, padf0, rfl, v10, v20, v30, v40, v50⟩ := hf.some nef
      simp (maxSteps := 4000000) -dsimp [-Y1, -Array.all_eq_true, -Y3, -Y4, and_assoc, Y5, Tryz.f44, idPopC, idJoinC, sActTestC, sActDoC, -Sx.splice_two, Con.gen, h2, hk, hk2, idBlk, id_len, id_take, id_set136, id_set137, id_spl, List.getElem?_append, List.getElem_append, List.set_append, w0, w2, w3, wtop]
      intro b0
      refine idPopC_at (t := ⟨m, l, f⟩) ⟨hP0.app _, hne, hbl⟩ ?_
      rintro _ _ mem1 ⟨rfl, rfl, hP1, -⟩
      simp only at hP1
      rw [← hl'] at hP1
      obtain ⟨h1', h2', ob', og', hk', hb', hf', ha'⟩ := hP1
      simp only at hk' hb' hf'
      have hk2' := (List.getElem?_eq_some_iff.1 hk').2
      obtain ⟨kf, bf, cf, padf, rfl, v1, v2, v3, v4, v5⟩ := hf'.some nef
      have hv2 := (List.getElem?_eq_some_iff.1 v2).2
      have hvl := (List.getElem?_eq_some_iff.1 v2).1
      have flast := rowB_last nef padf
      have flast2 := (List.getElem?_eq_some_iff.1 flast).2
      have flast3 := (List.getElem?_eq_some_iff.1 flast).1
      simp only
      rcases hb' with ⟨rfl, hnil⟩ | ⟨ko', bo', cap', pad, rfl, g1, g2, g3, g4, g5⟩
      · simp (maxSteps := 4000000) -dsimp [-Y1, -Array.all_eq_true, -Y3, -Y4, and_assoc, Y5, Tryz.f44, idPopC, idJoinC, sActTestC, sActDoC, -Sx.splice_two, Con.gen, h2', hk', hk2', v2, hv2, hvl, flast, flast2, flast3, of1, wtop, idBlk, id_len, id_take, id_set136, id_set137, id_spl, List.getElem?_append, List.getElem_append, List.set_append, w0, w2, w3]
        intro cx2 lq hle2 hl2
        rw [RdL.sl ((hl2.mono (sub_new cx2)).mono (sub_now _ _)) (by simp)]
        unfold GrowV
        simp (maxSteps := 4000000) -dsimp [-Y1, -Array.all_eq_true, -Y3, -Y4, and_assoc, Y5, Tryz.f44, idPopC, idJoinC, sActTestC, sActDoC, -Sx.splice_two, Con.gen, h2', hk', hk2', v2, hv2, hvl, flast, flast2, flast3, of1, wtop, idBlk, id_len, id_take, id_set136, id_set137, id_spl, List.getElem?_append, List.getElem_append, List.set_append, w0, w2, w3]
        refine ⟨by decide, fun b8 cap8 pad8 d1 d2 d3 => ?_⟩
        have hnil : l' = [] := hnil
        rw [hnil]
        have hz := IdP.pushNil (TI := 104) (TB := 4) (bx := bx) (b' := b8) (m := m) (x := (lastB f)) h1' h2' hf' d1 d2 d3
        exact EndK.all ⟨hle2, rfl, _, hz, rfl, rfl, MSame_refl _, hmm⟩
      · have hg2 := (List.getElem?_eq_some_iff.1 g2).2
        have hgl := (List.getElem?_eq_some_iff.1 g2).1
        have hrt := rowB_take l' pad
        have hn : ¬ ko' = mem0.length := by omega
        have hml : List.length l' + 1 ≤ maxLen := by unfold maxLen; omega
        have g3' : List.length l' ≤ cap' := g3
        simp (maxSteps := 4000000) -dsimp [-Y1, -Array.all_eq_true, -Y3, -Y4, and_assoc, Y5, Tryz.f44, idPopC, idJoinC, sActTestC, sActDoC, -Sx.splice_two, Con.gen, h2', hk', hk2', g2, hg2, hgl, v2, hv2, hvl, flast, flast2, flast3, of1, wtop, idBlk, id_len, id_take, id_set136, id_set137, id_spl, List.getElem?_append, List.getElem_append, List.set_append, w0, w2, w3]
        intro cx2 lq hle2 hl2
        rw [RdL.sl ((hl2.mono (sub_new cx2)).mono (sub_now _ _)) (by simp)]
        unfold GrowV
        simp (maxSteps := 4000000) -dsimp [-Y1, -Array.all_eq_true, -Y3, -Y4, and_assoc, Y5, Tryz.f44, idPopC, idJoinC, sActTestC, sActDoC, -Sx.splice_two, Con.gen, h2', hk', hk2', g2, hg2, hgl, g3', g4, g5, hrt, hml, List.getElem_set, hn, v2, hv2, hvl, flast, flast2, flast3, of1, wtop, idBlk, id_len, id_take, id_set136, id_set137, id_spl, List.getElem?_append, List.getElem_append, List.set_append, w0, w2, w3]
        refine ⟨by omega, fun b8 cap8 pad8 d1 d2 d3 => ?_⟩
        have hz := IdP.push (TI := 104) (TB := 4) (bx := bx) (b' := b8) (m := m) (x := (lastB f)) h1' h2' g1 hgl hf' ha' d1 d2 d3
        exact EndK.all ⟨hle2, rfl, _, hz, rfl, rfl, MSame_refl _, hmm⟩

    by_cases c9 : code = 9
    · subst c9
      rw [idN_9 (by simp)]
      simp only
      have hne := nel (by unfold needsN at n1; simp at n1; omega)
      have nef : f ≠ [] := fun e => by
        have := n2 (by simp)
        rw [e] at this
        simp at this
      have hfpos : 0 < f.length := List.length_pos_iff.2 nef
      have wtop : IntKind.i64.wrap ((f.length : Int) - 1) = ((f.length - 1 : Nat) : Int) := by
        rw [wrap_i64 (by omega) (by omega)]
        omega
      obtain ⟨l', hl'⟩ : ∃ l', l' = l.dropLast := ⟨_, rfl⟩
      have hll : l'.length ≤ 16 := by rw [hl', List.length_dropLast]; omega
      rw [← hl']
      have of1 : f.length - 1 < f.length := by omega
      obtain ⟨kf0, bf0, cf0, padf0, rfl, v10, v20, v30, v40, v50⟩ := hf.some nef
      simp (maxSteps := 4000000) -dsimp [-Y1, -Array.all_eq_true, -Y3, -Y4, and_assoc, Y5, Tryz.f44, idPopC, idJoinC, sActTestC, sActDoC, -Sx.splice_two, Con.gen, h2, hk, hk2, idBlk, id_len, id_take, id_set136, id_set137, id_spl, List.getElem?_append, List.getElem_append, List.set_append, w0, w2, w3, wtop]
      intro b0
      refine idPopC_at (t := ⟨m, l, f⟩) ⟨hP0.app _, hne, hbl⟩ ?_
      rintro _ _ mem1 ⟨rfl, rfl, hP1, -⟩
      simp only at hP1
      rw [← hl'] at hP1
      obtain ⟨h1', h2', ob', og', hk', hb', hf', ha'⟩ := hP1
      simp only at hk' hb' hf'
      have hk2' := (List.getElem?_eq_some_iff.1 hk').2
      obtain ⟨kf, bf, cf, padf, rfl, v1, v2, v3, v4, v5⟩ := hf'.some nef
      have hv2 := (List.getElem?_eq_some_iff.1 v2).2
      have hvl := (List.getElem?_eq_some_iff.1 v2).1
      have flast := rowB_last nef padf
      have flast2 := (List.getElem?_eq_some_iff.1 flast).2
      have flast3 := (List.getElem?_eq_some_iff.1 flast).1
      simp only
      rcases hb' with ⟨rfl, hnil⟩ | ⟨ko', bo', cap', pad, rfl, g1, g2, g3, g4, g5⟩
      · simp (maxSteps := 4000000) -dsimp [-Y1, -Array.all_eq_true, -Y3, -Y4, and_assoc, Y5, Tryz.f44, idPopC, idJoinC, sActTestC, sActDoC, -Sx.splice_two, Con.gen, h2', hk', hk2', v2, hv2, hvl, flast, flast2, flast3, of1, wtop, idBlk, id_len, id_take, id_set136, id_set137, id_spl, List.getElem?_append, List.getElem_append, List.set_append, w0, w2, w3]
        intro cx2 lq hle2 hl2
        rw [RdL.sl ((hl2.mono (sub_new cx2)).mono (sub_now _ _)) (by simp)]
        unfold GrowV
        simp (maxSteps := 4000000) -dsimp [-Y1, -Array.all_eq_true, -Y3, -Y4, and_assoc, Y5, Tryz.f44, idPopC, idJoinC, sActTestC, sActDoC, -Sx.splice_two, Con.gen, h2', hk', hk2', v2, hv2, hvl, flast, flast2, flast3, of1, wtop, idBlk, id_len, id_take, id_set136, id_set137, id_spl, List.getElem?_append, List.getElem_append, List.set_append, w0, w2, w3]
        refine ⟨by decide, fun b8 cap8 pad8 d1 d2 d3 => ⟨by omega, ?_⟩⟩
        have hnil : l' = [] := hnil
        have hz := IdP.pushNil (TI := 104) (TB := 4) (bx := bx) (b' := b8) (m := m) (x := lastB f) h1' h2' (BRow.cut nef v1 v2 v3 v4 v5) d1 d2 d3
        exact EndK.all ⟨hle2, rfl, _, hz, by rw [hnil]; rfl, rfl, MSame_refl _, hmm⟩
      · have hg2 := (List.getElem?_eq_some_iff.1 g2).2
        have hgl := (List.getElem?_eq_some_iff.1 g2).1
        have hrt := rowB_take l' pad
        have hn : ¬ ko' = mem0.length := by omega
        have hml : List.length l' + 1 ≤ maxLen := by unfold maxLen; omega
        have g3' : List.length l' ≤ cap' := g3
        simp (maxSteps := 4000000) -dsimp [-Y1, -Array.all_eq_true, -Y3, -Y4, and_assoc, Y5, Tryz.f44, idPopC, idJoinC, sActTestC, sActDoC, -Sx.splice_two, Con.gen, h2', hk', hk2', g2, hg2, hgl, v2, hv2, hvl, flast, flast2, flast3, of1, wtop, idBlk, id_len, id_take, id_set136, id_set137, id_spl, List.getElem?_append, List.getElem_append, List.set_append, w0, w2, w3]
        intro cx2 lq hle2 hl2
        rw [RdL.sl ((hl2.mono (sub_new cx2)).mono (sub_now _ _)) (by simp)]
        unfold GrowV
        simp (maxSteps := 4000000) -dsimp [-Y1, -Array.all_eq_true, -Y3, -Y4, and_assoc, Y5, Tryz.f44, idPopC, idJoinC, sActTestC, sActDoC, -Sx.splice_two, Con.gen, h2', hk', hk2', g2, hg2, hgl, g3', g4, g5, hrt, hml, List.getElem_set, hn, v2, hv2, hvl, flast, flast2, flast3, of1, wtop, idBlk, id_len, id_take, id_set136, id_set137, id_spl, List.getElem?_append, List.getElem_append, List.set_append, w0, w2, w3]
        refine ⟨by omega, fun b8 cap8 pad8 d1 d2 d3 => ⟨by omega, ?_⟩⟩
        have ha2 : Apart (.s ko' bo' 0 (List.length l') cap') (.s kf bf 0 (f.length - 1) cf) := fun _ _ _ _ _ _ _ _ _ _ e1 e2 => by
          cases e1
          cases e2
          exact ha' _ _ _ _ _ _ _ _ _ _ rfl rfl
        have hz := IdP.push (TI := 104) (TB := 4) (bx := bx) (b' := b8) (m := m) (x := lastB f) h1' h2' g1 hgl (BRow.cut nef v1 v2 v3 v4 v5) ha2 d1 d2 d3
        exact EndK.all ⟨hle2, rfl, _, hz, rfl, rfl, MSame_refl _, hmm⟩

    by_cases c11 : code = 11
    · subst c11
      rw [idN_11 (by simp)]
      simp only
      have hne := nel (by unfold needsN at n1; simp at n1; omega)
      rcases hog with ⟨rfl, rfl⟩ | ⟨ko, bo, cf, rfl⟩
      all_goals
        simp (maxSteps := 4000000) -dsimp [-Y1, -Array.all_eq_true, -Y3, -Y4, and_assoc, Y5, Tryz.f44, idPopC, idJoinC, sActTestC, sActDoC, -Sx.splice_two, Con.gen, h2, hk, hk2, idBlk, id_len, id_take, id_set136, id_set137, id_spl, List.getElem?_append, List.getElem_append, List.set_append, hnf, hwt, w0, w2, w3]
        intro b0
        refine idPopC_at (t := ⟨m, l, f⟩) ⟨hP0.app _, hne, hbl⟩ ?_
        rintro _ _ mem1 ⟨rfl, rfl, hP1, -⟩
        simp (maxSteps := 4000000) -dsimp [-Y1, -Array.all_eq_true, -Y3, -Y4, and_assoc, Y5, Tryz.f44, idPopC, idJoinC, sActTestC, sActDoC, Con.gen]
        exact EndK.all ⟨Le.refl _, rfl, _, hP1, rfl, rfl, MSame_refl _, hmm⟩

    exfalso
    omega
  · have hno : code < 1 ∨ 11 < code := by omega
    rw [idN_no hno]
    have e1 : ¬ code = 1 ∧ ¬ code = 2 ∧ ¬ code = 3 ∧ ¬ code = 4 ∧ ¬ code = 5 ∧ ¬ code = 6 ∧ ¬ code = 7 ∧ ¬ code = 8 ∧ ¬ code = 9 ∧ ¬ code = 10 ∧ ¬ code = 11 := by omega
    rcases hog with ⟨rfl, rfl⟩ | ⟨ko, bo, cf, rfl⟩
    all_goals
      simp (maxSteps := 4000000) -dsimp [-Y1, -Array.all_eq_true, -Y3, -Y4, and_assoc, Y5, Tryz.f44, idPopC, idJoinC, sActTestC, sActDoC, -Sx.splice_two, Con.gen, e1, h2, hk, hk2, idBlk, id_len, id_take, id_set136, id_set137, id_spl, List.getElem?_append, List.getElem_append, List.set_append, hnf, hwt, w0, w2, w3]
      exact fun _ => EndK.all ⟨Le.refl _, rfl, ⟨m, l, f⟩, hP0.app _, rfl, rfl, MSame_refl _, hmm⟩
def idDoC_S : Gens Tryz.prog 44 where
  ι := ((List Blk) × (Nat) × (ID) × (Int) × (Int) × (Option Addr) × (Nat) × (List Dev) × (Int))
  A := fun (i : ((List Blk) × (Nat) × (ID) × (Int) × (Int) × (Option Addr) × (Nat) × (List Dev) × (Int))) => match i with | (mem0, bx, t, code, op, o, cap, xs, dt) => [.p (List.length mem0) bx 0, .v (.agg #[.int .i64 code, .int .i64 op, .slice o (List.length xs) cap]), .v (.int .u16 dt)]
  pre := fun (i : ((List Blk) × (Nat) × (ID) × (Int) × (Int) × (Option Addr) × (Nat) × (List Dev) × (Int))) (cx : Cx) (mem : List Blk) => match i with | (mem0, bx, t, code, op, o, cap, xs, dt) => IdP 104 4 mem0 bx t mem ∧ RdD (factF cx) o xs ∧ List.length xs ≤ 1048576 ∧ MOk t.m ∧ 0 ≤ dt ∧ dt < 65536 ∧ List.length t.bits ≤ 16 ∧ List.length t.forks ≤ 8 ∧ haltN (List.length t.bits) (List.length t.forks) ⟨code, op, xs⟩ = 0
  post := fun (i : ((List Blk) × (Nat) × (ID) × (Int) × (Int) × (Option Addr) × (Nat) × (List Dev) × (Int))) (cx : Cx) (mem : List Blk) (cx' : Cx) (c : C) (mem' : List Blk) => match i with | (mem0, bx, t, code, op, o, cap, xs, dt) => Le cx cx' ∧ c = .v (.tuple #[]) ∧ ∃ t' : ID, IdP 104 4 mem0 bx t' mem' ∧ t'.bits = (idN t ⟨code, op, xs⟩ dt).bits ∧ t'.forks = (idN t ⟨code, op, xs⟩ dt).forks ∧ MSame t'.m (idN t ⟨code, op, xs⟩ dt).m ∧ MOk t'.m
  enter := Tryz.call44
  h := fun i cx mem w hp hm => idDoC_c i.1 i.2.1 i.2.2.1 i.2.2.2.1 i.2.2.2.2.1 i.2.2.2.2.2.1 i.2.2.2.2.2.2.1 i.2.2.2.2.2.2.2.1 i.2.2.2.2.2.2.2.2 cx mem w hp hm
def idDoC : Con Tryz.prog := Con.gen idDoC_S
theorem idDoC_at {mem0 : List Blk} {bx : Nat} {t : ID} {code op : Int} {o : Option Addr} {cap : Nat} {xs : List Dev} {dt : Int} {d : Nat} {cx : Cx} {mem : List Blk} {K : Cx → C → List Blk → Prop} (hpre : IdP 104 4 mem0 bx t mem ∧ RdD (factF cx) o xs ∧ List.length xs ≤ 1048576 ∧ MOk t.m ∧ 0 ≤ dt ∧ dt < 65536 ∧ List.length t.bits ≤ 16 ∧ List.length t.forks ≤ 8 ∧ haltN (List.length t.bits) (List.length t.forks) ⟨code, op, xs⟩ = 0) (h : ∀ cx' c mem', (Le cx cx' ∧ c = .v (.tuple #[]) ∧ ∃ t' : ID, IdP 104 4 mem0 bx t' mem' ∧ t'.bits = (idN t ⟨code, op, xs⟩ dt).bits ∧ t'.forks = (idN t ⟨code, op, xs⟩ dt).forks ∧ MSame t'.m (idN t ⟨code, op, xs⟩ dt).m ∧ MOk t'.m) → K cx' c mem') : GenV d idDoC_S cx [.p (List.length mem0) bx 0, .v (.agg #[.int .i64 code, .int .i64 op, .slice o (List.length xs) cap]), .v (.int .u16 dt)] mem K := ⟨(mem0, bx, t, code, op, o, cap, xs, dt), rfl, hpre, h⟩
end Go.Proofs.YtfhnbdlkiemaeaaGreat
