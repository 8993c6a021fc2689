/-
  Contracts: a memory read out of its text, by the program.
-/
import Derived.RangeFuncCalls
import Derived.Test.YtclbanhoiaieaaaGreatDoorVkvc
set_option linter.unusedVariables false
set_option linter.unusedSimpArgs false
namespace Go.Proofs.YtclbanhoiaieaaaGreatDoor
open Go Go.Sx Go.RowKit Go.Shelf

attribute [local go_sem] Oper.semAt_some

theorem zc : Tryz.zeroCells36 = cells zeroM := by kernel_rfl
theorem cells_136 (m : M) : (cells m).size = 136 := by kernel_rfl
theorem cells_allOne (m : M) : (cells m).toList.all (fun v => v.oneCell') = true := by kernel_rfl
theorem st_mem {b : Nat} {W : World} {m m' : M} (h : W.heap[b]? = some (.cells (cells m) 36 (0, 0))) : (storeCells ⟨b, 0, none⟩ (cells m').toList).run Tryz.prog W = .ok () (W.setRow b (cells m')) := by
  have h1 := cells_136 m
  have h2 := cells_136 m'
  have h3 := len_cellL m
  have h4 := len_cellL m'
  have := run_storeCells_at (P := Tryz.prog) b 0 36 (cells m').toList 0 (cells m) W h (by simp [h1, h2, h4]) (fun v hv => List.all_eq_true.1 (cells_allOne m') v hv)
  rw [this]
  congr 2
theorem st_memL {b : Nat} {W : World} {m m' : M} (h : W.heap[b]? = some (.cells (cells m) 36 (0, 0))) : (storeCells ⟨b, 0, none⟩ (cellL m')).run Tryz.prog W = .ok () (W.setRow b (cells m')) := by
  have := st_mem (m' := m') h
  simpa using this
theorem ld_mem {b : Nat} {W : World} {m : M} (h : W.heap[b]? = some (.cells (cells m) 36 (0, 0))) : (loadVar 36 ⟨b, 0, none⟩).run Tryz.prog W = .ok (.agg (cells m)) W := by
  have h1 := cells_136 m
  have h3 := len_cellL m
  have hc : Tryz.prog.cellsOf 36 = 136 := by kernel_rfl
  have := load_agg (P := Tryz.prog) (t := 36) (b := b) (off := 0) (w := W) (vs := (cells m).toList) h (by kernel_rfl) (by rw [hc, List.drop_zero, List.take_of_length_le (by simp [h1, h3])]) (by rw [hc, h1]; decide)
  exact this
theorem ld_step {F : Fence} {n : Nat} {o : Oper} {x : Operand} {a : Act} {W : World} {next : Act → World → Prop} {Q : Exit → Act → World → Prop} {b : Nat} {m : M} (ho : o.op = .load 36 x) (hro : F.round = none)
    (hx : a.eval x = .pointer (some ⟨b, 0, none⟩)) (hW : W.heap[b]? = some (.cells (cells m) 36 (0, 0))) (h : next (a.put o.dst (.agg (cells m))) W) :
    Oper.wpIn F n Tryz.prog o a W next Q := by
  obtain ⟨dst, op, ty, pos, aft, gd⟩ := o
  simp only at ho
  subst ho
  refine ⟨fun f hf => ?_, ?_⟩
  · simp [Oper.about] at hf
  · have : ((Oper.semAt F.round a.eval ⟨dst, .load 36 x, ty, pos, aft, gd⟩).run Tryz.prog W) = .ok (.value (.agg (cells m))) W := by
      rw [hro]
      simp [Oper.semAt, execOp, hx, Instr.loadAt, Instr.sureAddr, ld_mem hW]
    rw [this]
    exact h
theorem belowSet {B g : Nat} {w0 w : World} (hb : Below B w0 w) (hg : B ≤ g) (cs : Array Value) : Below B w0 (w.setRow g cs) := ⟨hb.os, hb.tape, hb.output, by rw [setRow_size]; exact hb.size, fun k hk => (setRow_other w g k cs (by omega)).trans (hb.block k hk)⟩
set_option maxRecDepth 100000 in
theorem res_mem {tmps : Array Value} {W : World} {m : M} {bo : Bool} {b : Nat} (h2 : tmps.getD 2 undef = .pointer (some ⟨b, 0, none⟩)) (h3 : tmps.getD 3 undef = .bool bo) (hW : W.heap[b]? = some (.cells (cells m) 36 (0, 0))) :
    (results Tryz.f12 tmps).run Tryz.prog W = .ok (.tuple #[.agg (cells m), .bool bo]) W := by
  have hres : Tryz.f12.results = #[.cell 2 36, .tmp 3] := rfl
  have hld := ld_mem hW
  generalize cells m = cs at *
  unfold results
  rw [Array.mapM_eq_mapM_toList, hres, Sem.run_bind, map_eq_pure_bind, Sem.run_bind]
  have hA : (asAddr (tmps.getD 2 undef)).run Tryz.prog W = .ok ⟨b, 0, none⟩ W := by rw [h2]; rfl
  simp only [List.mapM_cons, List.mapM_nil, Sem.run_bind, hA, Result.andThen_ok, hld, Sem.run_pure, h3]
  rfl
theorem split_run (t : Str) (W : World) (hx : TX W.cell?) (hl : t.length ≤ 2000000) : Calls Tryz.prog 52 #[.string (txt t), .string (txt [32])] W fun e W' =>
    e = .returned (.slice (some ⟨W.heap.size, 0, none⟩) (cutL 32 t).length (cutL 32 t).length) ∧ W' = W.alloc (.cells ((cutL 32 t).map fun z => Value.string (txt z)).toArray 9) := by
  obtain ⟨m, hmx⟩ := hx.len
  refine (Tryz.strings_Split (txt t) (txt [32]) m W (by rw [txt_size]; omega) hmx (by exact Nat.le_refl 1)).mono ?_
  rintro e w' ⟨rfl, rfl⟩
  have hb : Lib.splitB (txt [32]) 0 (Lib.countB (txt t) (txt [32])) (txt t) = (cutL 32 t).map txt := bytes_back (by rw [Lib.splitB_data]; exact split_cut 32 t)
  have hlen := Lib.splitB_all (txt [32]) (by exact Nat.le_refl 1) 0 _ (txt t) rfl
  rw [hb, List.length_map] at hlen
  rw [hb, ← hlen]
  exact ⟨rfl, by rw [List.map_map]; rfl⟩
theorem word_run {b : Nat} {m : M} {t : Str} {W : World} (hW : W.heap[b]? = some (.cells (cells m) 36 (0, 0))) (hm : MOk m) (hl : t.length ≤ 1100000) (hT : TR (factF ⟨W, [b], W, [b]⟩)) :
    Calls Tryz.prog 53 #[.pointer (some ⟨b, 0, none⟩), .string (txt t)] W fun e W' => e = .returned (.tuple #[]) ∧ (∃ m', WordTo m t m' ∧ W'.heap[b]? = some (.cells (cells m') 36 (0, 0))) ∧
      W.heap.size ≤ W'.heap.size ∧ W'.os = W.os ∧ W'.tape = W.tape ∧ W'.output = W.output ∧ ∀ i, i < W.heap.size → i ≠ b → W'.heap[i]? = W.heap[i]? := by
  have hb : b < W.heap.size := (Array.getElem?_eq_some_iff.1 hW).1
  have e1 : (cellC m).map den = (cells m).toList := by
    unfold cellC cells
    rw [List.map_map]
    simp
    rfl
  have hrel : MemRel ⟨W, [b], W, [b]⟩ [⟨b, cellC m, 36⟩] W := by
    refine ⟨rfl, rfl, rfl, fun _ _ _ => rfl, fun _ _ _ => rfl, Nat.le_refl _, Nat.le_refl _, fun k B hk => ?_, fun B hB => Or.inl ?_, fun B hB _ => ?_, fun i j B C hi hj _ => ?_⟩
    · cases k with
      | zero => simp at hk; subst hk; rw [hW, e1]
      | succ k => simp at hk
    · simp at hB; subst hB; simp
    · simp at hB; subst hB; simp
    · cases i <;> cases j <;> simp at hi hj <;> rfl
  refine (iReadWordC_S.h (0, b, m, t) ⟨W, [b], W, [b]⟩ [⟨b, cellC m, 36⟩] W ⟨rfl, hT, hm, hl⟩ hrel).mono ?_
  rintro e W' ⟨cx', c, mem', rfl, hm', hle, rfl, m', rfl, hw⟩
  have e2 : (cellC m').map den = (cells m').toList := by
    unfold cellC cells
    rw [List.map_map]
    simp
    rfl
  have hb' := hm'.blk 0 ⟨b, cellC m', 36⟩ rfl
  simp only [e2] at hb'
  have h0 := hle.w0
  have hg := hle.g0
  simp only at h0 hg
  refine ⟨rfl, ⟨m', hw, hb'⟩, ?_, ?_, ?_, ?_, fun i hi hib => ?_⟩
  · have := hm'.le01; have := hm'.le1; rw [h0] at *; omega
  · have := hm'.os; rw [h0] at this; exact this
  · have := hm'.tape; rw [h0] at this; exact this
  · have := hm'.output; rw [h0] at this; exact this
  · have := hm'.frame i (by rw [h0]; exact hi) (by rw [hg]; simpa using hib)
    rw [h0] at this; exact this
set_option maxRecDepth 100000 in
set_option maxHeartbeats 2000000 in
theorem iMemRead_run (t : Str) (w : World) (hT : TR w.cell?) (hlen : t.length ≤ 1100000) :
    Calls Tryz.prog 12 #[.string (txt t)] w fun e W' => ∃ v, e = .returned v ∧ (∃ m ok, v = .tuple #[.agg (cells m), .bool ok] ∧ ReadsTo t m ok) ∧ Below w.heap.size w W' := by
  refine (callsIn_wide (n := 5)).1 ?_
  refine callsIn_of_wp_marks Tryz.func12 rfl trivial ?_ rfl
  simp only [Tryz.ntmps12, List.size_toArray, List.length_cons, List.length_nil, Nat.reduceAdd, Nat.reduceSub, Array.replicate_succ, Array.replicate_zero, List.push_toArray, List.append_toArray, List.nil_append, List.cons_append]
  have hts : (txt t).size = t.length := txt_size t
  by_cases hl : 6000 < t.length
  · gi_wp2
    obtain ⟨W0, hW0⟩ : ∃ W0, (w.alloc (Obj.cells Tryz.zeroCells36 36)).alloc (Obj.cells Tryz.zeroCells36 36) = W0 := ⟨_, rfl⟩
    have e1 : W0.heap[w.heap.size + 1]? = some (.cells (cells zeroM) 36 (0, 0)) := by
      rw [← hW0, zc]
      have := World.alloc_heap_new (w.alloc (Obj.cells (cells zeroM) 36)) (Obj.cells (cells zeroM) 36)
      rwa [World.size_alloc] at this
    have e0 : W0.heap[w.heap.size]? = some (.cells (cells zeroM) 36 (0, 0)) := by
      rw [← hW0, zc]
      exact (Below.heap_alloc _ _ _ (by simp)).trans (World.alloc_heap_new w _)
    have e2 := setRow_heap W0 (w.heap.size + 1) _ (cells zeroM) _ _ e1
    have e3 := (setRow_other W0 (w.heap.size + 1) w.heap.size (cells zeroM) (by omega)).trans e0
    have hB : Below w.heap.size w W0 := by
      rw [← hW0]
      exact ((Below.refl _ w).alloc (Nat.le_refl _) _).alloc (by simp) _
    rw [hW0, zc, st_mem e1]
    gi_wp2
    refine ld_step (x := .tmp 4) rfl rfl rfl e2 ?_
    gi_wp2
    rw [st_memL e3]
    gi_wp2
    exact ⟨_, res_mem rfl rfl (setRow_heap _ _ _ _ _ _ e3), _, rfl, ⟨zeroM, false, rfl, reads_long hl⟩, belowSet (belowSet hB (by omega) _) (Nat.le_refl _) _⟩
  · have hl2 : ¬ (6000 : Int) < t.length := by omega
    have hl3 : t.length ≤ 6000 := by omega
    gi_wp2
    obtain ⟨W0, hW0⟩ : ∃ W0, (w.alloc (Obj.cells Tryz.zeroCells36 36)).alloc (Obj.cells Tryz.zeroCells36 36) = W0 := ⟨_, rfl⟩
    have e1 : W0.heap[w.heap.size + 1]? = some (.cells (cells zeroM) 36 (0, 0)) := by
      rw [← hW0, zc]
      have := World.alloc_heap_new (w.alloc (Obj.cells (cells zeroM) 36)) (Obj.cells (cells zeroM) 36)
      rwa [World.size_alloc] at this
    have e0 : W0.heap[w.heap.size]? = some (.cells (cells zeroM) 36 (0, 0)) := by
      rw [← hW0, zc]
      exact (Below.heap_alloc _ _ _ (by simp)).trans (World.alloc_heap_new w _)
    have hsz0 : W0.heap.size = w.heap.size + 2 := by rw [← hW0]; simp
    have hB0 : Below w.heap.size w W0 := by
      rw [← hW0]
      exact ((Below.refl _ w).alloc (Nat.le_refl _) _).alloc (by simp) _
    rw [hW0, zc, st_mem e1]
    obtain ⟨W1, hW1⟩ : ∃ W1, W0.setRow (w.heap.size + 1) (cells zeroM) = W1 := ⟨_, rfl⟩
    have f1 : W1.heap[w.heap.size + 1]? = some (.cells (cells zeroM) 36 (0, 0)) := by rw [← hW1]; exact setRow_heap W0 (w.heap.size + 1) _ (cells zeroM) _ _ e1
    have f0 : W1.heap[w.heap.size]? = some (.cells (cells zeroM) 36 (0, 0)) := by rw [← hW1]; exact (setRow_other W0 (w.heap.size + 1) w.heap.size (cells zeroM) (by omega)).trans e0
    have hsz1 : W1.heap.size = w.heap.size + 2 := by rw [← hW1, setRow_size, hsz0]
    have hB1 : Below w.heap.size w W1 := by rw [← hW1]; exact belowSet hB0 (by omega) _
    rw [hW1]
    have hx1 : TX W1.cell? := hT.x.mono fun a v h => (World.cell?_of_block (hB1.block a.block (block_lt_of_cell h))).trans h
    have e32 : (⟨#[32]⟩ : ByteArray) = txt [32] := rfl
    gi_wp2_with (first | (refine ⟨trivial, ?_⟩; gi_at_call 52; refine (callsIn_wide.2 (split_run t W1 hx1 (by omega))).mono ?_; rintro e w' ⟨rfl, rfl⟩) | (refine ⟨trivial, ?_⟩; gi_at_call 51; refine (values_in Fence.wide _ trivial rfl _ _ _ _).mono ?_; rintro e w' ⟨rfl, rfl⟩))
    have hsub : ∀ {W' : World} {v : Value} {a : Addr}, Below w.heap.size w W' → w.cell? a = some v → W'.cell? a = some v := fun hb h => (World.cell?_of_block (hb.block _ (block_lt_of_cell h))).trans h
    obtain ⟨ws, hws⟩ : ∃ ws : List SW, ws.map (·.1) = cutL 32 t := ⟨(cutL 32 t).attach.map fun z => ⟨z.1, by have := cutL_sub 32 t z.1 z.2; omega⟩, by simp⟩
    have hwl : ws.length = (cutL 32 t).length := by rw [← hws, List.length_map]
    have hwt : ws.length ≤ 6001 := by rw [hwl]; have := cutL_len 32 t; omega
    rw [← hws]
    simp only [List.length_map]
    obtain ⟨W2, hW2⟩ : ∃ W2, W1.alloc (Obj.cells (List.map (fun z => Value.string (txt z)) (ws.map (·.1))).toArray 9) = W2 := ⟨_, rfl⟩
    have hsz2 : W2.heap.size = w.heap.size + 3 := by rw [← hW2, World.size_alloc, hsz1]
    have g2 : W2.heap[w.heap.size + 2]? = some (.cells (List.map (fun z => Value.string (txt z)) (ws.map (·.1))).toArray 9 (0, 0)) := by
      rw [← hW2, ← hsz1]; exact World.alloc_heap_new W1 _
    have g1 : W2.heap[w.heap.size + 1]? = some (.cells (cells zeroM) 36 (0, 0)) := by rw [← hW2]; exact (Below.heap_alloc W1 _ _ (by omega)).trans f1
    have g0 : W2.heap[w.heap.size]? = some (.cells (cells zeroM) 36 (0, 0)) := by rw [← hW2]; exact (Below.heap_alloc W1 _ _ (by omega)).trans f0
    have hB2 : Below w.heap.size w W2 := by rw [← hW2]; exact hB1.alloc (by omega) _
    rw [hW2]
    obtain ⟨W3, hW3⟩ : ∃ W3, W2.alloc (Obj.cells #[Value.slice (some { block := w.heap.size + 2, off := 0 }) ws.length ws.length] 74) = W3 := ⟨_, rfl⟩
    have hsz3 : W3.heap.size = w.heap.size + 4 := by rw [← hW3, World.size_alloc, hsz2]
    have k3 : W3.heap[w.heap.size + 3]? = some (.cells #[Value.slice (some { block := w.heap.size + 2, off := 0 }) ws.length ws.length] 74 (0, 0)) := by
      rw [← hW3, ← hsz2]; exact World.alloc_heap_new W2 _
    have k2 : W3.heap[w.heap.size + 2]? = some (.cells (List.map (fun z => Value.string (txt z)) (ws.map (·.1))).toArray 9 (0, 0)) := by rw [← hW3]; exact (Below.heap_alloc W2 _ _ (by omega)).trans g2
    have k1 : W3.heap[w.heap.size + 1]? = some (.cells (cells zeroM) 36 (0, 0)) := by rw [← hW3]; exact (Below.heap_alloc W2 _ _ (by omega)).trans g1
    have k0 : W3.heap[w.heap.size]? = some (.cells (cells zeroM) 36 (0, 0)) := by rw [← hW3]; exact (Below.heap_alloc W2 _ _ (by omega)).trans g0
    have hB3 : Below w.heap.size w W3 := by rw [← hW3]; exact hB2.alloc (by omega) _
    rw [hW3]
    refine wpIn_rangeFunc_ownF rfl (by omega) (gf := 129) (lb := #[.pointer (some ⟨w.heap.size + 3, 0, none⟩)]) rfl trivial (enters_of Tryz.func129 (by kernel_rfl) rfl)
      (values_stops Fence.wide _ trivial rfl (by omega) (w.heap.size + 3) (w.heap.size + 1) (w.heap.size + 2) ws.length ws (by omega) W3 (by omega) (by omega) (by omega)
        (by simp [World.cell?, k3]) (fun j hj => by simp [World.cell?, k2, hj]))
      (fun h k => h.trans k) (fun W l o o' _ h hc _ i o2 hi ho2 hc2 => by
        rw [World.putObj_heap_other (fun e => by subst e; rw [h] at ho2; cases ho2; rw [hc] at hc2; cases hc2)]; exact ho2)
      (Below.refl _ _) (fun _ => rfl)
      (fun pre W => ((∃ m, MemTo (pre.map (·.1)) pre.length m ∧ W.heap[w.heap.size + 1]? = some (.cells (cells m) 36 (0, 0))) ∧ W.heap[w.heap.size]? = some (.cells (cells zeroM) 36 (0, 0))) ∧ Below w.heap.size w W)
      (fun _ _ _ => False)
      (OwnFrom.and (Own.from (fun s A B row hs hg hr => by
        obtain ⟨⟨m, hm1, hm2⟩, hm3⟩ := hs
        exact ⟨⟨m, hm1, (grownBy_keeps_cells hg hr hm2 rfl).trans hm2⟩, (grownBy_keeps_cells hg hr hm3 rfl).trans hm3⟩) _) (ownFrom_below (Nat.le_refl _) (by omega)))
      (fun _ _ _ _ _ hs _ _ => hs)
      ⟨⟨⟨zeroM, MemTo.zero _, k1⟩, k0⟩, hB3⟩
      (fun x => { tmps := #[Value.string (txt t), undef, Value.pointer (some { block := w.heap.size, off := 0 }), Value.bool false, Value.pointer (some { block := w.heap.size + 1, off := 0 }), .string (txt x.1), Value.agg (cells zeroM), Value.string (txt t), Value.int IntKind.i64 ↑(List.length t), Value.bool (decide (6000 < (t.length : Int))), undef, Value.string (txt t), Value.slice (some { block := w.heap.size + 2, off := 0 }) (cutL 32 t).length (cutL 32 t).length, Value.func (Fn.func 129) #[] #[Value.pointer (some { block := w.heap.size + 2 + 1, off := 0 })], .string (txt x.1), undef, undef, undef, undef, undef, undef, undef, undef], defers := [] }) ?assign ?body ?done ?stop
    case assign =>
      intro l x W K hK
      gi_wp2
      exact hK
    case body =>
      rintro l pre x W ⟨⟨⟨m, hm1, hm2⟩, hm3⟩, hB⟩ _
      have hTx : TR (factF ⟨W, [w.heap.size + 1], W, [w.heap.size + 1]⟩) := hT.mono fun a v h => by
        have := block_lt_of_cell h
        unfold factF
        simp only
        rw [if_neg (by simp; omega)]
        exact hsub hB h
      have hb1 := (Array.getElem?_eq_some_iff.1 hm2).1
      gi_wp2
      refine ⟨trivial, ?_⟩
      refine (CallsIn.inRound l (callsIn_wide.2 (word_run hm2 hm1.1 x.2 hTx))).mono ?_
      rintro e W' ⟨rfl, ⟨m', hw, hW'⟩, s1, s2, s3, s4, s5⟩
      gi_wp2
      refine ⟨⟨s1, fun k o hk ho => (s5 k (Array.getElem?_eq_some_iff.1 hk).1 (fun e => by subst e; rw [hm2] at hk; cases hk; cases ho)).trans hk⟩, fun i o hi ho _ => (s5 i (Array.getElem?_eq_some_iff.1 ho).1 hi).trans ho, ⟨⟨m', ?_, hW'⟩, (s5 _ (by omega) (by omega)).trans hm3⟩, hB.trans ⟨s2, s3, s4, s1, fun k hk => s5 k (by omega) (by omega)⟩⟩
      rw [List.length_append, List.length_singleton]
      refine MemTo.step (t := x.1) (MemTo.congr ?_ hm1) ?_ hw
      · rw [List.map_append, List.take_append_of_le_length (by rw [List.length_map]; exact Nat.le_refl _)]
      · rw [List.map_append, List.getElem?_append_right (by rw [List.length_map]; exact Nat.le_refl _), List.length_map, Nat.sub_self]; rfl
    case done =>
      rintro D ys W hD rfl ⟨⟨⟨m, hm1, hm2⟩, hm3⟩, hB⟩ hK
      have hb1 := (Array.getElem?_eq_some_iff.1 hm2).1
      have hDl := (Array.getElem?_eq_some_iff.1 hK).1
      have hTT : TT (factF ⟨W, [], W, []⟩) := by rw [factF_init]; exact (hT.mono fun a v h => hsub hB h).t
      gi_wp2
      refine ld_step (x := .tmp 4) rfl rfl rfl hm2 ?_
      by_cases hq : memL m = t
      · have hq' : txt (memL m) = txt t := by rw [hq]
        gi_wp2_with (first | (refine ⟨trivial, ?_⟩; gi_at_call 15; refine (callsIn_wide.2 (iMemTextC_c m W ⟨hTT, hm1.1⟩)).mono ?_; rw [hq']; rintro e W4 ⟨rfl, hb4⟩))
        have q1 := (hb4.block _ hb1).trans hm2
        have q0 := (hb4.block _ (by omega)).trans hm3
        have qD := (hb4.block _ hDl).trans hK
        refine ld_step (x := .tmp 4) rfl rfl rfl q1 ?_
        gi_wp2
        rw [st_memL q0]
        gi_wp2
        have qD' := (setRow_other W4 w.heap.size D (cells m) (by omega)).trans qD
        refine ⟨by simp, .inl ⟨_, _, rfl, run_takeDeferred qD', ?_⟩⟩
        refine ⟨_, res_mem (m := m) (b := w.heap.size) (bo := true) rfl rfl ((World.putObj_heap_other (by omega)).trans (setRow_heap _ _ _ _ _ _ q0)), _, rfl, ⟨m, true, rfl, reads_yes hm1.1 hq⟩, ?_⟩
        exact (belowSet (hB.trans (hb4.mono hB.size)) (Nat.le_refl _) _).trans (belowK_b (w := w) (Nat.le_refl _) _ D _ _ (by omega) qD' rfl rfl)
      · have hq' : ¬ txt (memL m) = txt t := fun e => hq (txt_inj.1 e)
        gi_wp2_with (first | (refine ⟨trivial, ?_⟩; gi_at_call 15; refine (callsIn_wide.2 (iMemTextC_c m W ⟨hTT, hm1.1⟩)).mono ?_; rintro e W4 ⟨rfl, hb4⟩))
        have q0 := (hb4.block _ (by omega)).trans hm3
        have qD := (hb4.block _ hDl).trans hK
        rw [zc, st_mem q0]
        gi_wp2
        have qD' := (setRow_other W4 w.heap.size D (cells zeroM) (by omega)).trans qD
        refine ⟨by simp, .inl ⟨_, _, rfl, run_takeDeferred qD', ?_⟩⟩
        refine ⟨_, res_mem (m := zeroM) (b := w.heap.size) (bo := false) rfl rfl ((World.putObj_heap_other (by omega)).trans (setRow_heap _ _ _ _ _ _ q0)), _, rfl, ⟨zeroM, false, rfl, ?_⟩, ?_⟩
        · refine reads_no (fun x hx ht => ?_) hq
          have hm4 : MemTo (List.map (·.1) ys) (List.map (·.1) ys).length m := by rw [List.length_map]; exact hm1
          exact hm4.fin (Or.inl hws) hx ht
        · exact (belowSet (hB.trans (hb4.mono hB.size)) (Nat.le_refl _) _).trans (belowK_b (w := w) (Nat.le_refl _) _ D _ _ (by omega) qD' rfl rfl)
        all_goals first | exact absurd (by assumption) hq | (rename_i hh; exact absurd (by simpa using hh) hq) | (exfalso; simp_all)
    case stop =>
      rintro D c pre W _ _ h _
      exact h.elim
def iMemRead_S : Rels Tryz.prog 12 where
  ι := Str
  A i := [.string (txt i)]
  pre i F := TR F ∧ i.length ≤ 1100000
  post i v := ∃ m ok, v = .tuple #[.agg (cells m), .bool ok] ∧ ReadsTo i m ok
  mono i F G hs h := ⟨h.1.mono hs, h.2⟩
  enter := Tryz.call12
  h := fun t w hp => (iMemRead_run t w hp.1 hp.2).mono fun e w' h => h
def iMemReadC : Con Tryz.prog := Con.rel iMemRead_S
end Go.Proofs.YtclbanhoiaieaaaGreatDoor
