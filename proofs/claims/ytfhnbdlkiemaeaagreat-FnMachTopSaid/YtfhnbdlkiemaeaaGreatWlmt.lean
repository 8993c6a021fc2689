/-
  Contracts: the machine that looks, by the reference.
-/
import Derived.Test.YtfhnbdlkiemaeaaGreatWkmt
import Derived.Test.YtfhnbdlkiemaeaaGreatWjmt
import Derived.Test.YtfhnbdlkiemaeaaGreatMwmt
set_option linter.unusedVariables false
set_option linter.unusedSimpArgs false
set_option maxRecDepth 100000
set_option maxHeartbeats 4000000
namespace Go.Proofs.YtfhnbdlkiemaeaaGreat
open Go Go.Sx
attribute [local simp] Sx.vcsE1 Sx.vcsE2 Sx.vcsE3 Sx.vcsE4 Sx.vcsE5 Sx.vcsE6 Sx.vcsE7 Sx.vcsE8 Sx.vcsE9 Sx.vcsE10 Sx.vcsE11 Sx.vcsE12 Sx.vcsE13 Sx.vcsE14 Sx.vcsE15 Sx.vcsE16 Sx.vcsE17 Sx.vcsE18 Sx.vcsE19 Sx.get Sx.look Sx.put Sx.pureFn Sx.findOrd Sx.unF Sx.dstOk Sx.isFloatT Sx.endVC Sx.resFn Sx.packC Sx.newFn Sx.storeFn Sx.buildFn Sx.known Sx.aggT Sx.cellsC Sx.findCon Sx.allV Sx.partsV Sx.partsC Sx.fillL Sx.exitTo Sx.fAr Sx.eqFn Sx.eqFieldsFn Sx.eqElemsFn Sx.partFn Sx.sliceFn Sx.boundFn Sx.AppV Sx.CopyV Sx.MakeSliceV Sx.NewsV Sx.GrowV Sx.TextV Sx.bytesL Sx.notInt Sx.typeAt Sx.argAt Sx.den Go.undef Go.Value.cells Go.Value.oneCell' Sx.Con.pure Sx.Con.some Sx.Con.read Sx.Con.make Sx.Con.ext Sx.Con.rel Sx.Con.extS Sx.Con.draw Sx.Con.step Sx.C.one Sx.Draws.steps

theorem take_at {mem mem0 : List Blk} {n : Nat} (h : mem.take n = mem0) (k : Nat) (hk : k < mem0.length) : mem[k]? = some (mem0[k]'hk) := by
  subst h
  rw [List.length_take] at hk
  simp [show k < n by omega, show k < mem.length by omega]
theorem idP_boot {TI TB : TypeId} {mem0 : List Blk} {bx : Nat} {m : M} : IdP TI TB mem0 bx ⟨m, [], []⟩ (mem0 ++ [⟨bx, cellC m ++ [.v (.slice none 0 0), .v (.slice none 0 0)], TI⟩]) :=
  ⟨by simp, by simp, _, _, by rw [List.getElem?_append_right (Nat.le_refl _), Nat.sub_self]; rfl, Or.inl ⟨rfl, rfl⟩, Or.inl ⟨rfl, rfl⟩, apart_nil⟩
theorem idR_boot (m : M) : IdR (bootN m) ⟨m, [], []⟩ := ⟨MSame_refl _, rfl, by simp, rfl, by simp⟩
theorem stk_h (l : List Bool) : (stk l).2 = l.length := rfl
theorem zero_id : zeroL Tryz.prog 104 = some (cellL zeroM ++ [.slice none 0 0, .slice none 0 0]) := by kernel_rfl
theorem id_build (m : M) : cellL m ++ List.drop 136 (cellL zeroM ++ [Value.slice none 0 0, .slice none 0 0]) = cellL m ++ [.slice none 0 0, .slice none 0 0] := by kernel_rfl
theorem id_zlen : (cellL zeroM ++ [Value.slice none 0 0, .slice none 0 0]).length = 138 := by kernel_rfl
theorem sWatchC_c (o : Option Addr) (cap : Nat) (xs : List Ins) (m : M) (s : Smp) (w : World) (hpre : RdN (factF ⟨w, [], w, []⟩) o xs ∧ MOk m ∧ SmpOk s ∧ xs.length ≤ 1048576 ∧ (∀ x ∈ xs, x.args.length ≤ 1048576)) : Calls Tryz.prog 10 #[.slice o xs.length cap, .agg (cells m), .agg (sampleL s.x s.dt s.f).toArray] w fun e w' => ∃ v, e = .returned v ∧ (fun v => IsWt v (watchN xs m s)) v ∧ RowKit.Below w.heap.size w w' := by
  refine plain_of_vcs ⟨[sActStartC, idWrongC, idDoC, sActEndC], []⟩ hmx Tryz.func10 rfl (by kernel_rfl) (args := [.slice o xs.length cap, .agg (cells m), .agg (sampleL s.x s.dt s.f).toArray]) (by simp [Tryz.ntmps10]) w (fun v => IsWt v (watchN xs m s)) 400 ?_
  obtain ⟨h, hm, hsm, hl, hxa⟩ := hpre
  by_cases h1k : xs.length ≤ 1000
  · have hm1 : ¬ (1000 : Int) < xs.length := by omega
    have h0 := start_ok hm hsm
    obtain ⟨W, hW⟩ : ∃ W, W = watchGo s.dt xs xs.length 0 (startN m s) := ⟨_, rfl⟩
    have e : watchN xs m s = if W.1.1 ≠ 0 then (m, W.1) else (ranM W.2.m, (0, 0)) := by unfold watchN; rw [if_pos h1k, ← hW]; rfl
    rw [e]
    simp (maxSteps := 4000000) -dsimp [-List.all_eq_true, -Array.all_eq_true, -Bool.exists_bool, -Bool.forall_bool, and_assoc, List.zipIdx, Tryz.f10, sActStartC, idWrongC, idDoC, sActEndC, -Sx.splice_two, Con.gen, spl3i, spl2w, zero_st, st_build, sm_take, allV_map, sm_len, sm_inj, len_stL, hm1, zero_id, id_build, id_zlen, len_cellL]
    intro b b1 b2 b3 b4
    obtain ⟨mem0, hmem0⟩ : ∃ mem0 : List Blk, mem0 = [⟨b, cellC m, 38⟩, ⟨b1, List.map C.v (sampleL s.x s.dt s.f), 41⟩, ⟨b2, cellC zeroM, 38⟩, ⟨b3, [.v (.int .i64 0), .v (.int .i64 0)], 45⟩] := ⟨_, rfl⟩
    have hm4 : mem0.length = 4 := by rw [hmem0]; rfl
    refine loop_inv (σ := ⟨[sActStartC, idWrongC, idDoC, sActEndC], []⟩) hmx (by kernel_rfl) (fun q cx tm mem => Le ⟨w, [], w, []⟩ cx ∧ ∃ (i : Nat) (t : ID), i ≤ xs.length ∧ q = xs.length - i ∧ IdR (Sx.runN (startN m s) s.dt (xs.take i)) t ∧ MOk t.m ∧ W = watchGo s.dt xs (xs.length - i) i (Sx.runN (startN m s) s.dt (xs.take i)) ∧ IdP 104 4 mem0 b4 t mem ∧
        Sx.look tm 9 = .v (.int .i64 i) ∧ Sx.look tm 0 = .v (.slice o xs.length cap) ∧ Sx.look tm 4 = .p 0 b 0 ∧ Sx.look tm 5 = .p 1 b1 0 ∧ Sx.look tm 6 = .p 2 b2 0 ∧ Sx.look tm 7 = .p 3 b3 0 ∧ Sx.look tm 8 = .p 4 b4 0)
      xs.length ⟨Le.refl _, 0, ⟨actStart m s.x s.dt s.f, [], []⟩, by omega, rfl, idR_boot _, h0.m, hW, by rw [hmem0]; exact idP_boot (mem0 := [_, _, _, _]), by simp [Sx.look], by simp [Sx.look], by simp [Sx.look], by simp [Sx.look], by simp [Sx.look], by simp [Sx.look], by simp [Sx.look]⟩ ?_
    rintro q cx tm mem ⟨hle, i, t, hi, rfl, hR, hok, hWi, hP, j9, j0, j4, j5, j6, j7, j8⟩
    refine ⟨500, ?_⟩
    have hpre := hP.pre
    have hlen := hP.lt
    rw [hm4] at hpre hlen
    have k0 := take_at hpre 0 (by omega)
    have k1 := take_at hpre 1 (by omega)
    have k2 := take_at hpre 2 (by omega)
    have k3 := take_at hpre 3 (by omega)
    simp only [hmem0, List.getElem_cons_zero, List.getElem_cons_succ] at k0 k1 k2 k3
    have l0 := (List.getElem?_eq_some_iff.1 k0).2
    have l1 := (List.getElem?_eq_some_iff.1 k1).2
    have l2 := (List.getElem?_eq_some_iff.1 k2).2
    have l3 := (List.getElem?_eq_some_iff.1 k3).2
    have z0 : 0 < mem.length := by omega
    have z1 : 1 < mem.length := by omega
    have z2 : 2 < mem.length := by omega
    have z3 : 3 < mem.length := by omega
    have z4 : 4 < mem.length := by omega
    have hw := hle.w0
    have hg := hle.g0
    have h' := h.mono hle.fact
    by_cases hlt : i < xs.length
    · obtain ⟨x, hx⟩ : ∃ x, xs[i]? = some x := ⟨xs[i], by simp [hlt]⟩
      obtain ⟨o', cap', hat⟩ := h'.at hx
      have hax := hxa x (List.mem_of_getElem? hx)
      have eg : xs.length - i = (xs.length - (i + 1)) + 1 := by omega
      rw [eg, watchGo_succ hx, hR.s, hR.f, stk_h, stk_h] at hWi
      simp (maxSteps := 4000000) -dsimp [-List.all_eq_true, -Array.all_eq_true, -Bool.exists_bool, -Bool.forall_bool, and_assoc, List.zipIdx, Tryz.f10, sActStartC, idWrongC, idDoC, sActEndC, -Sx.splice_two, Con.gen, j9, j0, j4, j5, j6, j7, j8, hlt, h'.there hlt, hat.all]
      have key := fun K hK => idWrongC_at (d := 2) (cx := cx) (mem := mem) (K := K) (mem0 := mem0) (bx := b4) (t := t) (code := x.code) (op := x.op) (o := o') (cap := cap') (xs := x.args) ⟨hP, hat.args, hax⟩ hK
      rw [hm4] at key
      refine key _ ?_
      rintro cx5 c5 mem5 ⟨e5, e6, e7⟩
      rw [e5, e6, e7]
      have ex : haltN t.bits.length t.forks.length ⟨x.code, x.op, x.args⟩ = haltN t.bits.length t.forks.length x := rfl
      rw [ex]
      by_cases hz : haltN t.bits.length t.forks.length x = 0
      · rw [if_neg (by simp [hz])] at hWi
        simp (maxSteps := 4000000) -dsimp [-List.all_eq_true, -Array.all_eq_true, -Bool.exists_bool, -Bool.forall_bool, and_assoc, List.zipIdx, Tryz.f10, sActStartC, idWrongC, idDoC, sActEndC, -Sx.splice_two, Con.gen, j9, j0, j4, j5, j6, j7, j8, hlt, h'.there hlt, hat.all, hz, k1, l1, z1, sm_get, sm_gete]
        have key2 := fun K hK => idDoC_at (d := 2) (cx := cx) (mem := mem) (K := K) (mem0 := mem0) (bx := b4) (t := t) (code := x.code) (op := x.op) (o := o') (cap := cap') (xs := x.args) (dt := s.dt) ⟨hP, hat.args, hax, hok, hsm.dt.1, hsm.dt.2, hR.sl, hR.fl, hz⟩ hK
        rw [hm4] at key2
        refine key2 _ ?_
        rintro cx6 c6 mem6 ⟨hle6, e8, t', hP', eb, ef, em, hok'⟩
        rw [e8]
        have st := idN_step s.dt hR hz
        have hR' : IdR (Sx.runN (startN m s) s.dt (xs.take (i + 1))) t' := by
          rw [runN_take hx]
          exact ⟨st.m.trans em.symm, st.s.trans (by rw [eb]), by rw [eb]; exact st.sl, st.f.trans (by rw [ef]), by rw [ef]; exact st.fl⟩
        simp (maxSteps := 4000000) -dsimp [-List.all_eq_true, -Array.all_eq_true, -Bool.exists_bool, -Bool.forall_bool, and_assoc, List.zipIdx, Tryz.f10, sActStartC, idWrongC, idDoC, sActEndC, -Sx.splice_two, Con.gen, j9, j0, j4, j5, j6, j7, j8, i_succ (i := i) (by omega)]
        exact ⟨mem6.length, xs.length - (i + 1), by omega, hle.trans hle6, i + 1, by omega, rfl, t', hR', hok', by rw [hWi, runN_take hx], by rw [List.take_of_length_le (Nat.le_refl _)]; exact hP', by omega⟩
      · have hzp : 0 < haltN t.bits.length t.forks.length x := by have := haltN_range t.bits.length t.forks.length x; omega
        rw [if_pos (by simpa using hz)] at hWi
        have hz' : ¬ W.1.1 = 0 := by rw [hWi]; exact hz
        rw [if_neg hz']
        simp (maxSteps := 4000000) -dsimp [-List.all_eq_true, -Array.all_eq_true, -Bool.exists_bool, -Bool.forall_bool, and_assoc, List.zipIdx, Tryz.f10, sActStartC, idWrongC, idDoC, sActEndC, -Sx.splice_two, Con.gen, spl2w, j9, j0, j4, j5, j6, j7, j8, hzp, k0, l0, k2, l2, k3, l3, z0, z1, z2, z3, List.getElem?_set, List.getElem_set]
        exact ⟨hw, hg, ⟨m, by rw [hWi], MSame_refl _, hm⟩⟩
    · obtain rfl : i = xs.length := by omega
      rw [Nat.sub_self, watchGo, List.take_length] at hWi
      rw [List.take_length] at hR
      have hz' : W.1.1 = 0 := by rw [hWi]
      rw [if_pos hz']
      obtain ⟨ob, og, hk, hb, hf, ha⟩ := hP.ex
      rw [hm4] at hk
      have hk2 := (List.getElem?_eq_some_iff.1 hk).2
      simp (maxSteps := 4000000) -dsimp [-List.all_eq_true, -Array.all_eq_true, -Bool.exists_bool, -Bool.forall_bool, and_assoc, List.zipIdx, Tryz.f10, sActStartC, idWrongC, idDoC, sActEndC, -Sx.splice_two, Con.gen, spl2w, j9, j0, j4, j5, j6, j7, j8, hk, hk2, idBlk, id_take, id_len, k2, l2, k3, l3, z2, z3, z4, List.getElem?_set, List.getElem_set]
      exact ⟨hw, hg, ⟨_, rfl, by rw [hWi]; exact (ran_same hR.m).symm, ran_ok hok⟩⟩
  · have hm1 : (1000 : Int) < xs.length := by omega
    have e : watchN xs m s = (m, (0, 0)) := by unfold watchN; rw [if_neg h1k]
    rw [e]
    simp (maxSteps := 4000000) -dsimp [-List.all_eq_true, -Array.all_eq_true, -Bool.exists_bool, -Bool.forall_bool, and_assoc, List.zipIdx, Tryz.f10, sActStartC, idWrongC, idDoC, sActEndC, hm1, Con.gen, -Sx.splice_two, spl2w]
    exact ⟨m, rfl, MSame_refl _, hm⟩
def sWatchC_S : Rels Tryz.prog 10 where
  ι := ((Option Addr) × (Nat) × (List Ins) × (M) × (Smp))
  A := fun (i : ((Option Addr) × (Nat) × (List Ins) × (M) × (Smp))) => match i with | (o, cap, xs, m, s) => [.slice o xs.length cap, .agg (cells m), .agg (sampleL s.x s.dt s.f).toArray]
  pre := fun (i : ((Option Addr) × (Nat) × (List Ins) × (M) × (Smp))) (F : Facts) => match i with | (o, cap, xs, m, s) => RdN F o xs ∧ MOk m ∧ SmpOk s ∧ xs.length ≤ 1048576 ∧ (∀ x ∈ xs, x.args.length ≤ 1048576)
  post := fun (i : ((Option Addr) × (Nat) × (List Ins) × (M) × (Smp))) => match i with | (o, cap, xs, m, s) => fun v => IsWt v (watchN xs m s)
  mono := by
    intro i F G hs h
    first | exact h | exact h.mono hs | exact ⟨h.1.mono hs, h.2⟩ | exact ⟨h.1.mono hs, h.2.1.mono hs, h.2.2⟩ | exact ⟨h.1.mono hs, h.2.1.mono hs⟩
  enter := Tryz.call10
  h := fun i w hp => sWatchC_c i.1 i.2.1 i.2.2.1 i.2.2.2.1 i.2.2.2.2 w (by rw [factF_init]; exact hp)
def sWatchC : Con Tryz.prog := Con.rel sWatchC_S
end Go.Proofs.YtfhnbdlkiemaeaaGreat
