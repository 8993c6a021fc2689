/-
  Contracts: why the machine whose stacks are lists stops.
-/
import Derived.Test.YtfhnbdlkiemaeaaGreatWimt
set_option linter.unusedVariables false
set_option linter.unusedSimpArgs false
set_option maxRecDepth 100000
set_option maxHeartbeats 4000000
namespace Go.Proofs.YtfhnbdlkiemaeaaGreat
open Go Go.Sx
attribute [local simp] Sx.vcsE1 Sx.vcsE2 Sx.vcsE3 Sx.vcsE4 Sx.vcsE5 Sx.vcsE6 Sx.vcsE7 Sx.vcsE8 Sx.vcsE9 Sx.vcsE10 Sx.vcsE11 Sx.vcsE12 Sx.vcsE13 Sx.vcsE14 Sx.vcsE15 Sx.vcsE16 Sx.vcsE17 Sx.vcsE18 Sx.vcsE19 Sx.get Sx.look Sx.put Sx.pureFn Sx.findOrd Sx.unF Sx.dstOk Sx.isFloatT Sx.endVC Sx.resFn Sx.packC Sx.newFn Sx.storeFn Sx.buildFn Sx.known Sx.aggT Sx.cellsC Sx.findCon Sx.allV Sx.partsV Sx.partsC Sx.fillL Sx.exitTo Sx.fAr Sx.eqFn Sx.eqFieldsFn Sx.eqElemsFn Sx.partFn Sx.sliceFn Sx.boundFn Sx.AppV Sx.CopyV Sx.MakeSliceV Sx.NewsV Sx.GrowV Sx.TextV Sx.bytesL Sx.notInt Sx.typeAt Sx.argAt Sx.den Go.undef Go.Value.cells Go.Value.oneCell' Sx.Con.pure Sx.Con.some Sx.Con.read Sx.Con.make Sx.Con.ext Sx.Con.rel Sx.Con.extS Sx.Con.draw Sx.Con.step Sx.C.one Sx.Draws.steps

theorem outD_dev (d : Dev) : outD d = decide (0 < devSize d.k ∧ (d.n < 0 ∨ devSize d.k ≤ d.n)) := by
  unfold outD
  by_cases hk : 1 ≤ d.k ∧ d.k ≤ 10
  · have := (devSize_pos hk.1 hk.2).1
    rw [decide_eq_decide]
    constructor
    · rintro ⟨a, b, c⟩; exact ⟨this, c⟩
    · rintro ⟨a, b⟩; exact ⟨hk.1, hk.2, b⟩
  · have : devSize d.k = 0 := by unfold devSize; (repeat' split) <;> omega
    rw [decide_eq_decide]
    constructor
    · rintro ⟨a, b, c⟩; exact absurd ⟨a, b⟩ hk
    · rintro ⟨a, b⟩; omega
theorem any_drop {xs : List Dev} {i : Nat} {x : Dev} (h : xs[i]? = some x) : (xs.drop i).any outD = (outD x || (xs.drop (i + 1)).any outD) := by
  have hi := (List.getElem?_eq_some_iff.1 h).1
  have e := (List.getElem?_eq_some_iff.1 h).2
  rw [List.drop_eq_getElem_cons hi, e, List.any_cons]
theorem idWrongC_c (mem0 : List Blk) (bx : Nat) (t : ID) (code op : Int) (o : Option Addr) (cap : Nat) (xs : List Dev) (cx : Cx) (mem : List Blk) (w : World) (hpre : IdP 104 4 mem0 bx t mem ∧ RdD (factF cx) o xs ∧ List.length xs ≤ 1048576) (hm : MemRel cx mem w) :
    Calls Tryz.prog 43 (([.p (List.length mem0) bx 0, .v (.agg #[.int .i64 code, .int .i64 op, .slice o (List.length xs) cap])] : List C).map den).toArray w fun e w' => ∃ cx' c mem', e = .returned (den c) ∧ MemRel cx' mem' w' ∧ cx' = cx ∧ c = .v (.int .i64 (haltN (List.length t.bits) (List.length t.forks) ⟨code, op, xs⟩)) ∧ mem' = mem := by
  refine step_of_vcs ⟨[sNeedsC, sDevSizeC], []⟩ hmx Tryz.func43 rfl (by kernel_rfl) (args := [.p (List.length mem0) bx 0, .v (.agg #[.int .i64 code, .int .i64 op, .slice o (List.length xs) cap])]) (by simp [Tryz.ntmps43]) hm (fun cx' c mem' => cx' = cx ∧ c = .v (.int .i64 (haltN (List.length t.bits) (List.length t.forks) ⟨code, op, xs⟩)) ∧ mem' = mem) 400 ?_
  obtain ⟨hP, h, hl⟩ := hpre
  obtain ⟨m, l, f⟩ := t
  obtain ⟨h1, h2, ob, og, hk, hb, hf, ha⟩ := hP
  simp only at hk hb hf ⊢
  have hk2 := (List.getElem?_eq_some_iff.1 hk).2
  obtain ⟨nb, hnb⟩ : ∃ nb : Int, (l.length : Int) = nb := ⟨_, rfl⟩
  obtain ⟨nf, hnf⟩ : ∃ nf : Int, (f.length : Int) = nf := ⟨_, rfl⟩
  have hob : (ob = .v (.slice none 0 0) ∧ nb = 0) ∨ ∃ ko bo cb, ob = .s ko bo 0 l.length cb := by
    rcases hb with ⟨e, e2⟩ | ⟨ko, bo, cb, pad, e, _⟩
    · left; exact ⟨e, by rw [← hnb, e2]; rfl⟩
    · right; exact ⟨ko, bo, cb, e⟩
  have hog : (og = .v (.slice none 0 0) ∧ nf = 0) ∨ ∃ ko bo cb, og = .s ko bo 0 f.length cb := by
    rcases hf with ⟨e, e2⟩ | ⟨ko, bo, cb, pad, e, _⟩
    · left; exact ⟨e, by rw [← hnf, e2]; rfl⟩
    · right; exact ⟨ko, bo, cb, e⟩
  rw [hnb, hnf]
  clear hb hf ha
  by_cases hc : 1 ≤ code ∧ code ≤ 11
  · have hc1 : ¬ code < 1 := by omega
    have hc2 : ¬ 11 < code := by omega
    have e : haltN nb nf ⟨code, op, xs⟩ = if nb < needsN code ∨ ((code = 8 ∨ code = 9) ∧ nf = 0) then 1 else if (code = 1 ∧ nb = 16) ∨ (code = 7 ∧ nf = 8) then 2 else if xs.any outD then 3 else 0 := by
      unfold haltN; rw [if_neg (by simpa using hc)]
    rw [e]
    clear e
    obtain ⟨q0, hq0⟩ : ∃ q0, xs.any outD = q0 := ⟨_, rfl⟩
    rw [hq0]
    have hcls : ((nb < needsN code) = True ∧ (needsN code ≤ nb) = False ∧ (nb < needsN code) = True ∧ (nb < needsN code) = True ∧ (nb < needsN code) = True ∧ (nb < needsN code) = True ∧ (nb < needsN code) = True)
      ∨ ((nb < needsN code) = False ∧ (needsN code ≤ nb) = True ∧ (code = 8) = True ∧ (code = 9) = False ∧ (code = 1) = False ∧ (code = 7) = False ∧ (nf = 0) = True)
      ∨ ((nb < needsN code) = False ∧ (needsN code ≤ nb) = True ∧ (code = 8) = True ∧ (code = 9) = False ∧ (code = 1) = False ∧ (code = 7) = False ∧ (nf = 0) = False)
      ∨ ((nb < needsN code) = False ∧ (needsN code ≤ nb) = True ∧ (code = 8) = False ∧ (code = 9) = True ∧ (code = 1) = False ∧ (code = 7) = False ∧ (nf = 0) = True)
      ∨ ((nb < needsN code) = False ∧ (needsN code ≤ nb) = True ∧ (code = 8) = False ∧ (code = 9) = True ∧ (code = 1) = False ∧ (code = 7) = False ∧ (nf = 0) = False)
      ∨ ((nb < needsN code) = False ∧ (needsN code ≤ nb) = True ∧ (code = 8) = False ∧ (code = 9) = False ∧ (code = 1) = True ∧ (code = 7) = False ∧ (nb = 16) = True)
      ∨ ((nb < needsN code) = False ∧ (needsN code ≤ nb) = True ∧ (code = 8) = False ∧ (code = 9) = False ∧ (code = 1) = True ∧ (code = 7) = False ∧ (nb = 16) = False)
      ∨ ((nb < needsN code) = False ∧ (needsN code ≤ nb) = True ∧ (code = 8) = False ∧ (code = 9) = False ∧ (code = 1) = False ∧ (code = 7) = True ∧ (nf = 8) = True)
      ∨ ((nb < needsN code) = False ∧ (needsN code ≤ nb) = True ∧ (code = 8) = False ∧ (code = 9) = False ∧ (code = 1) = False ∧ (code = 7) = True ∧ (nf = 8) = False)
      ∨ ((nb < needsN code) = False ∧ (needsN code ≤ nb) = True ∧ (code = 8) = False ∧ (code = 9) = False ∧ (code = 1) = False ∧ (code = 7) = False ∧ (nb < needsN code) = False) := by
      by_cases u1 : nb < needsN code
      · left; exact ⟨eq_true u1, eq_false (by omega), eq_true u1, eq_true u1, eq_true u1, eq_true u1, eq_true u1⟩
      have u2 := eq_false u1
      have u3 : (needsN code ≤ nb) = True := eq_true (by omega)
      right
      by_cases k : code = 8
      · by_cases z : nf = 0
        · left; exact ⟨u2, u3, eq_true k, eq_false (by omega), eq_false (by omega), eq_false (by omega), eq_true z⟩
        · right; left; exact ⟨u2, u3, eq_true k, eq_false (by omega), eq_false (by omega), eq_false (by omega), eq_false z⟩
      have n8 := k
      right; right
      by_cases k : code = 9
      · by_cases z : nf = 0
        · left; exact ⟨u2, u3, eq_false (by omega), eq_true k, eq_false (by omega), eq_false (by omega), eq_true z⟩
        · right; left; exact ⟨u2, u3, eq_false (by omega), eq_true k, eq_false (by omega), eq_false (by omega), eq_false z⟩
      have n9 := k
      right; right
      by_cases k : code = 1
      · by_cases z : nb = 16
        · left; exact ⟨u2, u3, eq_false (by omega), eq_false (by omega), eq_true k, eq_false (by omega), eq_true z⟩
        · right; left; exact ⟨u2, u3, eq_false (by omega), eq_false (by omega), eq_true k, eq_false (by omega), eq_false z⟩
      have n1 := k
      right; right
      by_cases k : code = 7
      · by_cases z : nf = 8
        · left; exact ⟨u2, u3, eq_false (by omega), eq_false (by omega), eq_false (by omega), eq_true k, eq_true z⟩
        · right; left; exact ⟨u2, u3, eq_false (by omega), eq_false (by omega), eq_false (by omega), eq_true k, eq_false z⟩
      have n7 := k
      right; right
      exact ⟨u2, u3, eq_false n8, eq_false n9, eq_false n1, eq_false n7, u2⟩
    have hr8 : (nf = 0) = True ∨ (nf = 0) = False := by
      by_cases z : nf = 0
      · exact Or.inl (eq_true z)
      · exact Or.inr (eq_false z)
    rcases hr8 with r8 | r8 <;> rcases hcls with ⟨r1, r2, r3, r4, r5, r6, r7⟩ | ⟨r1, r2, r3, r4, r5, r6, r7⟩ | ⟨r1, r2, r3, r4, r5, r6, r7⟩ | ⟨r1, r2, r3, r4, r5, r6, r7⟩ | ⟨r1, r2, r3, r4, r5, r6, r7⟩ | ⟨r1, r2, r3, r4, r5, r6, r7⟩ | ⟨r1, r2, r3, r4, r5, r6, r7⟩ | ⟨r1, r2, r3, r4, r5, r6, r7⟩ | ⟨r1, r2, r3, r4, r5, r6, r7⟩ | ⟨r1, r2, r3, r4, r5, r6, r7⟩ <;> rcases hob with ⟨rfl, rfl⟩ | ⟨ko, bo, cb, rfl⟩ <;> rcases hog with ⟨rfl, rfl⟩ | ⟨ko2, bo2, cf, rfl⟩
    all_goals first | (exfalso; revert r7 r8; simp; done) | (exfalso; simp_all; done) | skip
    all_goals simp (maxSteps := 4000000) -dsimp [-List.all_eq_true, -Array.all_eq_true, -Bool.exists_bool, -Bool.forall_bool, and_assoc, List.zipIdx, Tryz.f43, sNeedsC, sDevSizeC, h2, hk, hk2, idBlk, id_len, hnb, hnf, List.getElem?_append, List.getElem_append, hc1, hc2, r1, r2, r3, r4, r5, r6, r7, r8]
    all_goals first | (refine fun _ => EndK.left ⟨rfl, ?_, rfl⟩; simp [r1, r2, r3, r4, r5, r6, r7, r8]; done) | skip
    all_goals
      intro b0
      refine loop_inv (σ := ⟨[sNeedsC, sDevSizeC], []⟩) hmx (by kernel_rfl) (fun q cx' tm mem' => cx' = cx ∧ ∃ k : Nat, k ≤ xs.length ∧ q = xs.length - k ∧ q0 = (xs.drop k).any outD ∧ mem' = mem ++ [⟨b0, [.v (.int .i64 code), .v (.int .i64 op), .v (.slice o xs.length cap)], 66⟩] ∧ Sx.look tm 5 = .v (.int .i64 k) ∧ Sx.look tm 3 = .p mem.length b0 0)
        xs.length ⟨rfl, 0, by omega, rfl, hq0.symm, rfl, by simp [Sx.look], by simp [Sx.look]⟩ ?_
      rintro q cx' tm mem' ⟨rfl, k, hkl, rfl, hqk, rfl, j5, j3⟩
      refine ⟨400, ?_⟩
      by_cases hlt : k < xs.length
      · obtain ⟨x, hx⟩ : ∃ x, xs[k]? = some x := ⟨xs[k], by simp [hlt]⟩
        rw [any_drop hx, outD_dev] at hqk
        obtain ⟨xk, xn, xp⟩ := x
        simp only at hqk
        by_cases z1 : 0 < devSize xk
        · by_cases z2 : xn < 0 ∨ devSize xk ≤ xn
          · have hq1 : q0 = true := by rw [hqk]; simp [z1, z2]
            have z1' : ¬ devSize xk ≤ 0 := by omega
            by_cases z3 : xn < 0
            · have z3' : ¬ 0 ≤ xn := by omega
              simp (maxSteps := 4000000) -dsimp [-List.all_eq_true, -Array.all_eq_true, -Bool.exists_bool, -Bool.forall_bool, and_assoc, List.zipIdx, Tryz.f43, sNeedsC, sDevSizeC, h2, hk, hk2, idBlk, id_len, List.getElem?_append, List.getElem_append, j5, j3, hlt, h.there hlt, h.ld _ _ hx, z1, z1', z3, z3']
              refine fun _ => EndK.left ⟨rfl, ?_, rfl⟩
              simp [r1, r2, r3, r4, r5, r6, r7, r8, hq1]
            · have z4 : devSize xk ≤ xn := by omega
              have z4' : ¬ xn < devSize xk := by omega
              have z3' : 0 ≤ xn := by omega
              simp (maxSteps := 4000000) -dsimp [-List.all_eq_true, -Array.all_eq_true, -Bool.exists_bool, -Bool.forall_bool, and_assoc, List.zipIdx, Tryz.f43, sNeedsC, sDevSizeC, h2, hk, hk2, idBlk, id_len, List.getElem?_append, List.getElem_append, j5, j3, hlt, h.there hlt, h.ld _ _ hx, z1, z1', z3, z3', z4, z4']
              refine fun _ => EndK.left ⟨rfl, ?_, rfl⟩
              simp [r1, r2, r3, r4, r5, r6, r7, r8, hq1]
          · have hq1 : q0 = (xs.drop (k + 1)).any outD := by rw [hqk]; simp [z1, z2]
            have z3 : ¬ xn < 0 := fun h => z2 (Or.inl h)
            have z4 : ¬ devSize xk ≤ xn := fun h => z2 (Or.inr h)
            have z1' : ¬ devSize xk ≤ 0 := by omega
            have z3' : 0 ≤ xn := by omega
            have z4' : xn < devSize xk := by omega
            simp (maxSteps := 4000000) -dsimp [-List.all_eq_true, -Array.all_eq_true, -Bool.exists_bool, -Bool.forall_bool, and_assoc, List.zipIdx, Tryz.f43, sNeedsC, sDevSizeC, h2, hk, hk2, idBlk, id_len, List.getElem?_append, List.getElem_append, j5, j3, hlt, h.there hlt, h.ld _ _ hx, z1, z1', z3, z3', z4, z4', i_succ (i := k) (by omega)]
            exact fun _ => ⟨mem.length + 1, xs.length - (k + 1), by omega, k + 1, by omega, rfl, hq1, by simp [List.take_append, List.take_of_length_le], by omega⟩
        · have hq1 : q0 = (xs.drop (k + 1)).any outD := by rw [hqk]; simp [z1]
          have z1' : devSize xk ≤ 0 := by omega
          simp (maxSteps := 4000000) -dsimp [-List.all_eq_true, -Array.all_eq_true, -Bool.exists_bool, -Bool.forall_bool, and_assoc, List.zipIdx, Tryz.f43, sNeedsC, sDevSizeC, h2, hk, hk2, idBlk, id_len, List.getElem?_append, List.getElem_append, j5, j3, hlt, h.there hlt, h.ld _ _ hx, z1, z1', i_succ (i := k) (by omega)]
          exact fun _ => ⟨mem.length + 1, xs.length - (k + 1), by omega, k + 1, by omega, rfl, hq1, by simp [List.take_append, List.take_of_length_le], by omega⟩
      · obtain rfl : k = xs.length := by omega
        rw [List.drop_length] at hqk
        have hq1 : q0 = false := hqk
        simp (maxSteps := 4000000) -dsimp [-List.all_eq_true, -Array.all_eq_true, -Bool.exists_bool, -Bool.forall_bool, and_assoc, List.zipIdx, Tryz.f43, sNeedsC, sDevSizeC, h2, hk, hk2, idBlk, id_len, List.getElem?_append, List.getElem_append, j5, j3, r1, r2, r3, r4, r5, r6, r7, r8, hq1]
        refine EndK.left ⟨rfl, ?_, rfl⟩
        simp [r1, r2, r3, r4, r5, r6, r7, r8, hq1]
  · have e : haltN nb nf ⟨code, op, xs⟩ = 0 := by unfold haltN; rw [if_pos hc]
    rw [e]
    by_cases hc1 : code < 1
    · simp (maxSteps := 4000000) -dsimp [-List.all_eq_true, -Array.all_eq_true, -Bool.exists_bool, -Bool.forall_bool, and_assoc, List.zipIdx, Tryz.f43, sNeedsC, sDevSizeC, h2, hk, hk2, idBlk, id_len, hnb, hnf, List.getElem?_append, List.getElem_append, hc1]
      exact fun _ => EndK.left ⟨rfl, rfl, rfl⟩
    · have hc2 : 11 < code := by omega
      simp (maxSteps := 4000000) -dsimp [-List.all_eq_true, -Array.all_eq_true, -Bool.exists_bool, -Bool.forall_bool, and_assoc, List.zipIdx, Tryz.f43, sNeedsC, sDevSizeC, h2, hk, hk2, idBlk, id_len, hnb, hnf, List.getElem?_append, List.getElem_append, hc1, hc2]
      exact fun _ => EndK.left ⟨rfl, rfl, rfl⟩
def idWrongC_S : Gens Tryz.prog 43 where
  ι := ((List Blk) × (Nat) × (ID) × (Int) × (Int) × (Option Addr) × (Nat) × (List Dev))
  A := fun (i : ((List Blk) × (Nat) × (ID) × (Int) × (Int) × (Option Addr) × (Nat) × (List Dev))) => match i with | (mem0, bx, t, code, op, o, cap, xs) => [.p (List.length mem0) bx 0, .v (.agg #[.int .i64 code, .int .i64 op, .slice o (List.length xs) cap])]
  pre := fun (i : ((List Blk) × (Nat) × (ID) × (Int) × (Int) × (Option Addr) × (Nat) × (List Dev))) (cx : Cx) (mem : List Blk) => match i with | (mem0, bx, t, code, op, o, cap, xs) => IdP 104 4 mem0 bx t mem ∧ RdD (factF cx) o xs ∧ List.length xs ≤ 1048576
  post := fun (i : ((List Blk) × (Nat) × (ID) × (Int) × (Int) × (Option Addr) × (Nat) × (List Dev))) (cx : Cx) (mem : List Blk) (cx' : Cx) (c : C) (mem' : List Blk) => match i with | (mem0, bx, t, code, op, o, cap, xs) => cx' = cx ∧ c = .v (.int .i64 (haltN (List.length t.bits) (List.length t.forks) ⟨code, op, xs⟩)) ∧ mem' = mem
  enter := Tryz.call43
  h := fun i cx mem w hp hm => idWrongC_c i.1 i.2.1 i.2.2.1 i.2.2.2.1 i.2.2.2.2.1 i.2.2.2.2.2.1 i.2.2.2.2.2.2.1 i.2.2.2.2.2.2.2 cx mem w hp hm
def idWrongC : Con Tryz.prog := Con.gen idWrongC_S
theorem idWrongC_at {mem0 : List Blk} {bx : Nat} {t : ID} {code op : Int} {o : Option Addr} {cap : Nat} {xs : List Dev} {d : Nat} {cx : Cx} {mem : List Blk} {K : Cx → C → List Blk → Prop} (hpre : IdP 104 4 mem0 bx t mem ∧ RdD (factF cx) o xs ∧ List.length xs ≤ 1048576) (h : ∀ cx' c mem', (cx' = cx ∧ c = .v (.int .i64 (haltN (List.length t.bits) (List.length t.forks) ⟨code, op, xs⟩)) ∧ mem' = mem) → K cx' c mem') : GenV d idWrongC_S cx [.p (List.length mem0) bx 0, .v (.agg #[.int .i64 code, .int .i64 op, .slice o (List.length xs) cap])] mem K := ⟨(mem0, bx, t, code, op, o, cap, xs), rfl, hpre, h⟩
end Go.Proofs.YtfhnbdlkiemaeaaGreat
