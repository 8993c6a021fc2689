/-
  Contracts: a trace handed back in a known block; traces marked, looked at again, compared.
-/
import Derived.Test.YtfhnbdlkiemaeaaKb
import Derived.Test.YtfhnbdlkiemaeaaSs
set_option linter.unusedVariables false
set_option linter.unusedSimpArgs false
set_option maxRecDepth 100000
set_option maxHeartbeats 4000000
namespace Go.Sx
open Go

section
variable {P : Program}
/-- What was made over no memory, laid behind a memory. -/
theorem memRel_lift {cx cx2 : Cx} {mem mem2 : List Blk} {w w' : World} (hm : MemRel cx mem w) (h2 : MemRel cx2 mem2 w') (hle : Le ⟨w, [], w, []⟩ cx2) :
    ∃ cx', MemRel cx' (mem ++ mem2) w' ∧ Le cx cx' := by
  have hb := below_of_rel h2 hle.w0 hle.g0
  obtain ⟨h1, hle1, _⟩ := memRel_on hm hb
  have hge : ∀ b ∈ mem2, w.heap.size ≤ b.id := fun b hb => by
    refine Nat.le_of_not_lt fun hlt => ?_
    have := h2.low b hb (by rw [hle.w0]; exact hlt)
    rw [hle.g0] at this
    simp at this
  have hlt : ∀ b ∈ mem, b.id < w.heap.size := fun b hb => by
    obtain ⟨k, hk⟩ := List.getElem?_of_mem hb
    exact (Array.getElem?_eq_some_iff.1 (hm.blk k b hk)).1
  have hw1 := hm.le1
  have hw01 := hm.le01
  refine ⟨⟨cx.w0, cx.g0, w', (mem ++ mem2).map (·.id)⟩, ⟨h1.os, h1.tape, h1.output, h1.frame, fun _ _ _ => rfl, h1.le01, Nat.le_refl _, fun k b hk => ?_, fun b hb => Or.inl (List.mem_map.2 ⟨b, hb, rfl⟩), fun b hb hl => ?_, fun i j b c hi hj e => ?_⟩, rfl, rfl, fun a v e => ?_⟩
  · by_cases hl : k < mem.length
    · rw [List.getElem?_append_left hl] at hk; exact h1.blk k b hk
    · rw [List.getElem?_append_right (by omega)] at hk; exact h2.blk _ b hk
  · rcases List.mem_append.1 hb with hb | hb
    · exact h1.low b hb hl
    · have := hge b hb
      have hl' : b.id < cx.w0.heap.size := hl
      omega
  · have key : ∀ (i j : Nat) (b c : Blk), (mem ++ mem2)[i]? = some b → (mem ++ mem2)[j]? = some c → b.id = c.id → i < mem.length → mem.length ≤ j → False := by
      intro i j b c hi hj e h3 h4
      rw [List.getElem?_append_left h3] at hi
      rw [List.getElem?_append_right h4] at hj
      have := hlt b (List.mem_of_getElem? hi)
      have := hge c (List.mem_of_getElem? hj)
      omega
    by_cases h3 : i < mem.length
    · by_cases h4 : j < mem.length
      · rw [List.getElem?_append_left h3] at hi
        rw [List.getElem?_append_left h4] at hj
        exact h1.inj i j b c hi hj e
      · exact (key i j b c hi hj e h3 (by omega)).elim
    · by_cases h4 : j < mem.length
      · exact (key j i c b hj hi e.symm h4 (by omega)).elim
      · rw [List.getElem?_append_right (by omega)] at hi hj
        have := h2.inj _ _ b c hi hj e
        omega
  · have e1 := hle1.fact a v e
    unfold factF at e1 ⊢
    split at e1
    · simp at e1
    · rename_i hg
      rw [if_neg]
      · exact e1
      · simp only [List.map_append, List.mem_append]
        rintro (h5 | h5)
        · exact hg h5
        · simp only [List.mem_map] at h5
          obtain ⟨b, hb, hbe⟩ := h5
          have h6 := hge b hb
          unfold factF at e
          split at e
          · simp at e
          · have h7 := block_lt_of_cell e
            omega
/-- A relation over known blocks. -/
def gensL {f : FuncId} (S : Rels P f) : Gens P f where
  ι := S.ι × List C
  A i := i.2
  pre i cx mem := i.2.map den = S.A i.1 ∧ ∀ w, MemRel cx mem w → S.pre i.1 w.cell?
  post i cx mem cx' c mem' := cx' = cx ∧ mem' = mem ∧ ∃ v, c = .v v ∧ S.post i.1 v
  enter := S.enter
  h i cx mem w hp hm := by
    rw [hp.1]
    refine (S.h i.1 w (hp.2 w hm)).mono ?_
    rintro e w' ⟨v, rfl, hpo, hb⟩
    exact ⟨cx, .v _, mem, rfl, memRel_below hm hb, rfl, rfl, v, rfl, hpo⟩
theorem gensL_at {f : FuncId} {S : Rels P f} {d : Nat} {cx : Cx} {args : List C} {mem : List Blk} {K : Cx → C → List Blk → Prop} (i : S.ι) (h1 : args.map den = S.A i) (h2 : ∀ w, MemRel cx mem w → S.pre i w.cell?) (h : ∀ v, S.post i v → K cx (.v v) mem) : GenV d (gensL S) cx args mem K :=
  ⟨(i, args), rfl, ⟨h1, h2⟩, by rintro _ _ _ ⟨rfl, rfl, v, rfl, hp⟩; exact h v hp⟩
end
end Go.Sx
namespace Go.Proofs.Ytfhnbdlkiemaeaa
open Go Go.Sx
open Go.Sx renaming vcsE1 → Z1, vcsE2 → Z2, vcsE3 → Z3, vcsE4 → Z4, vcsE5 → Z5, vcsE6 → Z6, vcsE7 → Z7, vcsE8 → Z8, vcsE9 → Z9, vcsE10 → Z10, vcsE11 → Z11, vcsE12 → Z12, vcsE13 → Z13, vcsE14 → Z14, vcsE15 → Z15, vcsE16 → Z16, vcsE17 → Z17, vcsE18 → Z18, vcsE19 → Z19, get → Z20, look → Z21, put → Z22, pureFn → Z23, findOrd → Z24, unF → Z25, dstOk → Z26, isFloatT → Z27, endVC → Z28, resFn → Z29, packC → Z30, newFn → Z31, storeFn → Z32, buildFn → Z33, known → Z35, aggT → Z36, cellsC → Z37, findCon → Z39, allV → Z42, partsV → Z43, partsC → Z44, fillL → Z45, exitTo → Z46, fAr → Z47, eqFn → Z50, eqFieldsFn → Z51, eqElemsFn → Z52, partFn → Z53, sliceFn → Z54, boundFn → Z55, AppV → Z56, CopyV → Z57, MakeSliceV → Z58, NewsV → Z59, GrowV → Z60, TextV → Z61, bytesL → Z62, notInt → Z63, typeAt → Z64, argAt → Z65, den → Z70
open Go renaming undef → Z34
open Go.Value renaming cells → Z38, oneCell' → Z49
open Go.Sx.Con renaming pure → Z40, some → Z41, read → Z66, make → Z67, ext → Z68, rel → Z69, extS → Z71, draw → Z72, step → Z73
open Go.Sx.C renaming one → Z48
open Go.Sx.Draws renaming steps → Z74
theorem sureTraceK_c (o : Option Addr) (cap : Nat) (xs : List Ins) (cx : Cx) (mem : List Blk) (w : World) (hpre : mem = [] ∧ RdN (factF cx) o xs ∧ List.length xs ≤ 1048576) (hm : MemRel cx mem w) :
    Calls Try.prog 11 (([.v (.slice o (List.length xs) cap)] : List C).map den).toArray w fun e w' => ∃ cx' c mem', e = .returned (den c) ∧ MemRel cx' mem' w' ∧ Le cx cx' ∧ ∃ (b cp : Nat) (pad : List C), c = .v (.slice (some ⟨b, 0, none⟩) (trN xs) cp) ∧ mem' = [⟨b, trC xs (trN xs) ++ pad, 52⟩] ∧ trN xs ≤ cp ∧ cp ≤ maxLen ∧ List.length pad = (cp - trN xs) * 2 := by
  refine step_of_vcs ⟨[thenC], []⟩ hmx Try.func11 rfl (by kernel_rfl) (args := [.v (.slice o (List.length xs) cap)]) (by simp [Try.ntmps11]) hm (fun cx' c mem' => Le cx cx' ∧ ∃ (b cp : Nat) (pad : List C), c = .v (.slice (some ⟨b, 0, none⟩) (trN xs) cp) ∧ mem' = [⟨b, trC xs (trN xs) ++ pad, 52⟩] ∧ trN xs ≤ cp ∧ cp ≤ maxLen ∧ List.length pad = (cp - trN xs) * 2) 400 ?_
  obtain ⟨rfl, h, hl⟩ := hpre
  by_cases hm1k : xs.length ≤ 1000
  · have hm1 : ¬ (1000 : Int) < xs.length := by omega
    have hn : trN xs = xs.length := by unfold trN; rw [if_pos hm1k]
    rw [hn]
    simp (maxSteps := 4000000) -dsimp [-List.all_eq_true, -Array.all_eq_true, -Bool.exists_bool, -Bool.forall_bool, Z1, Z2, Z3, Z4, Z5, Z6, Z7, Z8, Z9, Z10, Z11, Z12, Z13, Z14, Z15, Z16, Z17, Z18, Z19, Z20, Z21, Z22, Z23, Z24, Z25, Z26, Z27, Z28, Z29, Z30, Z31, Z32, Z33, Z34, Z35, Z36, Z37, Z38, Z39, Z40, Z41, Z42, Z43, Z44, Z45, Z46, Z47, Z48, Z49, Z50, Z51, Z52, Z53, and_assoc, List.zipIdx, Z54, Z55, Z56, Z57, Z58, Z59, Z60, Z61, Z62, Z63, Z64, Z65, Z66, Z67, Z68, Z69, Z70, Z71, Z72, Z73, Z74, Try.f11, thenC, hm1]
    intro b b1
    refine loop_inv (σ := ⟨[thenC], []⟩) hmx (by kernel_rfl) (fun q cx' tm mem => Le cx cx' ∧ ∃ (i b' cp : Nat) (pad : List C), i ≤ xs.length ∧ q = xs.length - i ∧ i ≤ cp ∧ cp ≤ maxLen ∧ pad.length = (cp - i) * 2 ∧ mem = [⟨b', trC xs i ++ pad, 52⟩, ⟨b1, [.v (.int .i64 (hB xs i)), .v (.int .i64 (hF xs i))], 52⟩] ∧ Sx.look tm 15 = .v (.int .i64 i) ∧ Sx.look tm 14 = .v (.int .i64 xs.length) ∧ Sx.look tm 13 = .v (.slice o xs.length cap) ∧ Sx.look tm 4 = .p 1 b1 0 ∧ Sx.look tm 3 = .s 0 b' 0 i cp)
      xs.length ⟨Le.refl _, 0, b, 0, [], by omega, rfl, by omega, by decide, rfl, rfl, by simp [Sx.look], by simp [Sx.look], by simp [Sx.look], by simp [Sx.look], by simp [Sx.look]⟩ ?_
    rintro q cx1 tm mem ⟨hle, i, b', cp, pad, hi, rfl, hicp, hcp, hpad, rfl, h15, h14, h13, h4, h3⟩
    refine ⟨300, ?_⟩
    have hc := h.mono hle.fact
    by_cases hlt : i < xs.length
    · obtain ⟨x, hx⟩ : ∃ x, xs[i]? = some x := ⟨xs[i], by simp [hlt]⟩
      obtain ⟨o', cap', hat⟩ := hc.at hx
      have a1 := hB_abs xs i hi
      have a2 := hF_abs xs i hi
      have hp : -1048576 ≤ hB xs i ∧ hB xs i ≤ 1048576 ∧ -1048576 ≤ hF xs i ∧ hF xs i ≤ 1048576 := by omega
      simp (maxSteps := 4000000) -dsimp [-List.all_eq_true, -Array.all_eq_true, -Bool.exists_bool, -Bool.forall_bool, Z1, Z2, Z3, Z4, Z5, Z6, Z7, Z8, Z9, Z10, Z11, Z12, Z13, Z14, Z15, Z16, Z17, Z18, Z19, Z20, Z21, Z22, Z23, Z24, Z25, Z26, Z27, Z28, Z29, Z30, Z31, Z32, Z33, Z34, Z35, Z36, Z37, Z38, Z39, Z40, Z41, Z42, Z43, Z44, Z45, Z46, Z47, Z48, Z49, Z50, Z51, Z52, Z53, and_assoc, List.zipIdx, Z54, Z55, Z56, Z57, Z58, Z59, Z60, Z61, Z62, Z63, Z64, Z65, Z66, Z67, Z68, Z69, Z70, Z71, Z72, Z73, Z74, Try.f11, thenC, h15, h14, h13, h4, h3, hlt, hc.there hlt, hat.all, hp]
      intro b2 cx' p hle' hlit
      rw [RdO.sl (size := 2) (rows := [[.int .i64 (hB xs i + dB x.code), .int .i64 (hF xs i + dF x.code)]]) ((hlit.mono ((sub_new cx').trans (sub_now _ _))).rows (by decide) (by simp) (by simp)) (by decide) (by simp)]
      have e0 := trC_take xs i pad
      have e1 := trC_len xs i
      unfold GrowV
      simp (maxSteps := 4000000) -dsimp [-List.all_eq_true, -Array.all_eq_true, -Bool.exists_bool, -Bool.forall_bool, Z1, Z2, Z3, Z4, Z5, Z6, Z7, Z8, Z9, Z10, Z11, Z12, Z13, Z14, Z15, Z16, Z17, Z18, Z19, Z20, Z21, Z22, Z23, Z24, Z25, Z26, Z27, Z28, Z29, Z30, Z31, Z32, Z33, Z34, Z35, Z36, Z37, Z38, Z39, Z40, Z41, Z42, Z43, Z44, Z45, Z46, Z47, Z48, Z49, Z50, Z51, Z52, Z53, and_assoc, List.zipIdx, Z54, Z55, Z56, Z57, Z58, Z59, Z60, Z61, Z62, Z63, Z64, Z65, Z66, Z67, Z68, Z69, Z70, Z71, Z72, Z73, Z74, Try.f11, thenC, h15, h14, h13, h4, h3, e0, e1, i_succ (i := i) (by omega)]
      have em : i + 1 ≤ maxLen := by unfold maxLen; omega
      refine ⟨by omega, hicp, hcp, em, by omega, fun b4 cp4 pad4 g1 g2 g3 => ⟨2, _, ?_, hle.trans hle', i + 1, by omega, rfl, b4, cp4, g1, g2, pad4, g3, ?_, by omega, rfl, rfl, rfl⟩⟩
      · omega
      · rw [trC_succ hx, hB_succ hx, hF_succ hx]; simp
    · obtain rfl : i = xs.length := by omega
      simp (maxSteps := 4000000) -dsimp [-List.all_eq_true, -Array.all_eq_true, -Bool.exists_bool, -Bool.forall_bool, Z1, Z2, Z3, Z4, Z5, Z6, Z7, Z8, Z9, Z10, Z11, Z12, Z13, Z14, Z15, Z16, Z17, Z18, Z19, Z20, Z21, Z22, Z23, Z24, Z25, Z26, Z27, Z28, Z29, Z30, Z31, Z32, Z33, Z34, Z35, Z36, Z37, Z38, Z39, Z40, Z41, Z42, Z43, Z44, Z45, Z46, Z47, Z48, Z49, Z50, Z51, Z52, Z53, and_assoc, List.zipIdx, Z54, Z55, Z56, Z57, Z58, Z59, Z60, Z61, Z62, Z63, Z64, Z65, Z66, Z67, Z68, Z69, Z70, Z71, Z72, Z73, Z74, Try.f11, thenC, h15, h14, h13, h4, h3]
      exact fun w' hm => ⟨cx1, .v (.slice (some ⟨b', 0, none⟩) xs.length cp), _, rfl, memRel_take hm 1, hle, b', cp, pad, rfl, rfl, by omega, hcp, hpad⟩
  · have hm1 : (1000 : Int) < xs.length := by omega
    have hn : trN xs = 0 := by unfold trN; rw [if_neg hm1k]
    rw [hn]
    simp (maxSteps := 4000000) -dsimp [-List.all_eq_true, -Array.all_eq_true, -Bool.exists_bool, -Bool.forall_bool, Z1, Z2, Z3, Z4, Z5, Z6, Z7, Z8, Z9, Z10, Z11, Z12, Z13, Z14, Z15, Z16, Z17, Z18, Z19, Z20, Z21, Z22, Z23, Z24, Z25, Z26, Z27, Z28, Z29, Z30, Z31, Z32, Z33, Z34, Z35, Z36, Z37, Z38, Z39, Z40, Z41, Z42, Z43, Z44, Z45, Z46, Z47, Z48, Z49, Z50, Z51, Z52, Z53, and_assoc, List.zipIdx, Z54, Z55, Z56, Z57, Z58, Z59, Z60, Z61, Z62, Z63, Z64, Z65, Z66, Z67, Z68, Z69, Z70, Z71, Z72, Z73, Z74, Try.f11, thenC, hm1]
    intro b b1
    exact fun w' hm => ⟨cx, .v (.slice (some ⟨b, 0, none⟩) 0 0), _, rfl, memRel_take hm 1, Le.refl _, b, 0, [], rfl, rfl, by omega, by decide, rfl⟩
def sureTraceK_S : Gens Try.prog 11 where
  ι := ((Option Addr) × (Nat) × (List Ins))
  A := fun (i : ((Option Addr) × (Nat) × (List Ins))) => match i with | (o, cap, xs) => [.v (.slice o (List.length xs) cap)]
  pre := fun (i : ((Option Addr) × (Nat) × (List Ins))) (cx : Cx) (mem : List Blk) => match i with | (o, cap, xs) => mem = [] ∧ RdN (factF cx) o xs ∧ List.length xs ≤ 1048576
  post := fun (i : ((Option Addr) × (Nat) × (List Ins))) (cx : Cx) (mem : List Blk) (cx' : Cx) (c : C) (mem' : List Blk) => match i with | (o, cap, xs) => Le cx cx' ∧ ∃ (b cp : Nat) (pad : List C), c = .v (.slice (some ⟨b, 0, none⟩) (trN xs) cp) ∧ mem' = [⟨b, trC xs (trN xs) ++ pad, 52⟩] ∧ trN xs ≤ cp ∧ cp ≤ maxLen ∧ List.length pad = (cp - trN xs) * 2
  enter := Try.call11
  h := fun i cx mem w hp hm => sureTraceK_c i.1 i.2.1 i.2.2 cx mem w hp hm
def sureTraceK : Con Try.prog := Con.gen sureTraceK_S
theorem sureTraceK_at {o : Option Addr} {cap : Nat} {xs : List Ins} {d : Nat} {cx : Cx} {mem : List Blk} {K : Cx → C → List Blk → Prop} (hpre : mem = [] ∧ RdN (factF cx) o xs ∧ List.length xs ≤ 1048576) (h : ∀ cx' c mem', (Le cx cx' ∧ ∃ (b cp : Nat) (pad : List C), c = .v (.slice (some ⟨b, 0, none⟩) (trN xs) cp) ∧ mem' = [⟨b, trC xs (trN xs) ++ pad, 52⟩] ∧ trN xs ≤ cp ∧ cp ≤ maxLen ∧ List.length pad = (cp - trN xs) * 2) → K cx' c mem') : GenV d sureTraceK_S cx [.v (.slice o (List.length xs) cap)] mem K := ⟨(o, cap, xs), rfl, hpre, h⟩
/-- The same over any memory: what it reads may lie in known blocks. -/
def sureTraceU_S : Gens Try.prog 11 where
  ι := Option Addr × Nat × List Ins
  A i := [.v (.slice i.1 i.2.2.length i.2.1)]
  pre i cx mem := ∀ w, MemRel cx mem w → RdN w.cell? i.1 i.2.2 ∧ i.2.2.length ≤ 1048576
  post i cx mem cx' c mem' := Le cx cx' ∧ ∃ (b cp : Nat) (pad : List C), c = .v (.slice (some ⟨b, 0, none⟩) (trN i.2.2) cp) ∧ mem' = mem ++ [⟨b, trC i.2.2 (trN i.2.2) ++ pad, 52⟩] ∧ trN i.2.2 ≤ cp ∧ cp ≤ maxLen ∧ pad.length = (cp - trN i.2.2) * 2
  enter := sureTraceK_S.enter
  h := fun (o, cap, xs) cx mem w hp hm => by
    obtain ⟨h1, h2⟩ := hp w hm
    refine (sureTraceK_c o cap xs ⟨w, [], w, []⟩ [] w ⟨rfl, by rw [factF_init]; exact h1, h2⟩ (memRel_nil w)).mono ?_
    rintro e w' ⟨cx2, c, mem2, rfl, hm2, hle, b, cp, pad, rfl, rfl, k1, k2, k3⟩
    obtain ⟨cx', g1, g2⟩ := memRel_lift hm hm2 hle
    exact ⟨cx', _, _, rfl, g1, g2, b, cp, pad, rfl, rfl, k1, k2, k3⟩
def sureTraceU : Con Try.prog := Con.gen sureTraceU_S
theorem sureTraceU_at {o : Option Addr} {cap : Nat} {xs : List Ins} {d : Nat} {cx : Cx} {mem : List Blk} {K : Cx → C → List Blk → Prop} (hpre : ∀ w, MemRel cx mem w → RdN w.cell? o xs ∧ xs.length ≤ 1048576)
    (h : ∀ cx' b cp pad, Le cx cx' → trN xs ≤ cp → cp ≤ maxLen → pad.length = (cp - trN xs) * 2 → K cx' (.v (.slice (some ⟨b, 0, none⟩) (trN xs) cp)) (mem ++ [⟨b, trC xs (trN xs) ++ pad, 52⟩])) : GenV d sureTraceU_S cx [.v (.slice o xs.length cap)] mem K :=
  ⟨(o, cap, xs), rfl, hpre, by rintro cx' _ _ ⟨hle, b, cp, pad, rfl, rfl, k1, k2, k3⟩; exact h cx' b cp pad hle k1 k2 k3⟩
/-- The first rows marked, from q on. -/
def MkS (q : Int) (i : Nat) (cs : List C) : Prop := ∀ j, j < i → cs[j * 2]? = some (.v (.int .i64 (q + 2 * j))) ∧ cs[j * 2 + 1]? = some (.v (.int .i64 (q + 2 * j + 1)))
theorem MkS.step {q : Int} {i : Nat} {cs : List C} (h : MkS q i cs) (hl : i * 2 + 1 < cs.length) : MkS q (i + 1) ((cs.set (i * 2) (.v (.int .i64 (q + 2 * i)))).set (i * 2 + 1) (.v (.int .i64 (q + 2 * i + 1)))) := by
  intro j hj
  by_cases e : j = i
  · subst e
    refine ⟨?_, ?_⟩
    · rw [List.getElem?_set_ne (by omega), List.getElem?_set_self (by omega)]
    · rw [List.getElem?_set_self (by simpa using hl)]
  · obtain ⟨h1, h2⟩ := h j (by omega)
    refine ⟨?_, ?_⟩
    · rw [List.getElem?_set_ne (by omega), List.getElem?_set_ne (by omega)]; exact h1
    · rw [List.getElem?_set_ne (by omega), List.getElem?_set_ne (by omega)]; exact h2
theorem markStG_c (k b n cp : Nat) (cells : List C) (q : Int) (cx : Cx) (mem : List Blk) (w : World) (hpre : mem[k]? = some ⟨b, cells, 52⟩ ∧ n * 2 ≤ List.length cells ∧ n ≤ 1048576 ∧ 0 ≤ q ∧ q ≤ 1048576) (hm : MemRel cx mem w) :
    Calls Try.prog 15 (([.s k b 0 n cp, .v (.int .i64 q)] : List C).map den).toArray w fun e w' => ∃ cx' c mem', e = .returned (den c) ∧ MemRel cx' mem' w' ∧ cx' = cx ∧ c = .v (.int .i64 (q + 2 * n)) ∧ ∃ cells', List.length cells' = List.length cells ∧ MkS q n cells' ∧ mem' = mem.set k ⟨b, cells', 52⟩ := by
  refine step_of_vcs ⟨[], []⟩ hmx Try.func15 rfl (by kernel_rfl) (args := [.s k b 0 n cp, .v (.int .i64 q)]) (by simp [Try.ntmps15]) hm (fun cx' c mem' => cx' = cx ∧ c = .v (.int .i64 (q + 2 * n)) ∧ ∃ cells', List.length cells' = List.length cells ∧ MkS q n cells' ∧ mem' = mem.set k ⟨b, cells', 52⟩) 400 ?_
  obtain ⟨hk, hcl, hn, hq0, hq1⟩ := hpre
  have hkl := (List.getElem?_eq_some_iff.1 hk).1
  simp (maxSteps := 4000000) -dsimp [-List.all_eq_true, -Array.all_eq_true, -Bool.exists_bool, -Bool.forall_bool, Z1, Z2, Z3, Z4, Z5, Z6, Z7, Z8, Z9, Z10, Z11, Z12, Z13, Z14, Z15, Z16, Z17, Z18, Z19, Z20, Z21, Z22, Z23, Z24, Z25, Z26, Z27, Z28, Z29, Z30, Z31, Z32, Z33, Z34, Z35, Z36, Z37, Z38, Z39, Z40, Z41, Z42, Z43, Z44, Z45, Z46, Z47, Z48, Z49, Z50, Z51, Z52, Z53, and_assoc, List.zipIdx, Z54, Z55, Z56, Z57, Z58, Z59, Z60, Z61, Z62, Z63, Z64, Z65, Z66, Z67, Z68, Z69, Z70, Z71, Z72, Z73, Z74, Try.f15, Con.gen]
  refine loop_inv (σ := ⟨[], []⟩) hmx (by kernel_rfl) (fun m cx' tm mem' => cx' = cx ∧ ∃ (i : Nat) (cs : List C), i ≤ n ∧ m = n - i ∧ List.length cs = List.length cells ∧ MkS q i cs ∧ mem' = mem.set k ⟨b, cs, 52⟩ ∧ Sx.look tm 5 = .v (.int .i64 i) ∧ Sx.look tm 1 = .v (.int .i64 (q + 2 * i)) ∧ Sx.look tm 0 = .s k b 0 n cp)
    n ⟨rfl, 0, cells, by omega, rfl, rfl, fun j h => by omega, by rw [← (List.getElem?_eq_some_iff.1 hk).2]; exact (List.set_getElem_self hkl).symm, by simp [Sx.look], by simp [Sx.look], by simp [Sx.look]⟩ ?_
  rintro m cx' tm mem' ⟨rfl, i, cs, hi, rfl, hcs, hMk, rfl, h5, h1, h0⟩
  refine ⟨400, ?_⟩
  by_cases hlt : i < n
  · have w1 : IntKind.i64.wrap (q + 2 * (i : Int) + 1) = q + 2 * (i : Int) + 1 := wrap_i64 (by omega) (by omega)
    have w2 : IntKind.i64.wrap (q + 2 * (i : Int) + 1 + 1) = q + 2 * (i : Int) + 1 + 1 := wrap_i64 (by omega) (by omega)
    have b1 : i * 2 < cells.length := by omega
    have b2 : i * 2 + 1 < cells.length := by omega
    have hs := hMk.step (by omega)
    simp (maxSteps := 4000000) -dsimp [-List.all_eq_true, -Array.all_eq_true, -Bool.exists_bool, -Bool.forall_bool, Z1, Z2, Z3, Z4, Z5, Z6, Z7, Z8, Z9, Z10, Z11, Z12, Z13, Z14, Z15, Z16, Z17, Z18, Z19, Z20, Z21, Z22, Z23, Z24, Z25, Z26, Z27, Z28, Z29, Z30, Z31, Z32, Z33, Z34, Z35, Z36, Z37, Z38, Z39, Z40, Z41, Z42, Z43, Z44, Z45, Z46, Z47, Z48, Z49, Z50, Z51, Z52, Z53, and_assoc, List.zipIdx, Z54, Z55, Z56, Z57, Z58, Z59, Z60, Z61, Z62, Z63, Z64, Z65, Z66, Z67, Z68, Z69, Z70, Z71, Z72, Z73, Z74, Try.f15, Con.gen, h5, h1, h0, hlt, hkl, hcs, w1, w2, b1, b2, List.getElem?_set, List.getElem_set, i_succ (i := i) (by omega)]
    exact ⟨by omega, by omega, mem.length, n - (i + 1), by omega, i + 1, by omega, rfl, _, by simpa using hcs, hs, List.take_of_length_le (by simp), by omega, by omega⟩
  · obtain rfl : i = n := by omega
    simp (maxSteps := 4000000) -dsimp [-List.all_eq_true, -Array.all_eq_true, -Bool.exists_bool, -Bool.forall_bool, Z1, Z2, Z3, Z4, Z5, Z6, Z7, Z8, Z9, Z10, Z11, Z12, Z13, Z14, Z15, Z16, Z17, Z18, Z19, Z20, Z21, Z22, Z23, Z24, Z25, Z26, Z27, Z28, Z29, Z30, Z31, Z32, Z33, Z34, Z35, Z36, Z37, Z38, Z39, Z40, Z41, Z42, Z43, Z44, Z45, Z46, Z47, Z48, Z49, Z50, Z51, Z52, Z53, and_assoc, List.zipIdx, Z54, Z55, Z56, Z57, Z58, Z59, Z60, Z61, Z62, Z63, Z64, Z65, Z66, Z67, Z68, Z69, Z70, Z71, Z72, Z73, Z74, Try.f15, Con.gen, h5, h1, h0]
    exact EndK.all ⟨rfl, rfl, cs, hcs, hMk, rfl⟩
def markStG_S : Gens Try.prog 15 where
  ι := ((Nat) × (Nat) × (Nat) × (Nat) × (List C) × (Int))
  A := fun (i : ((Nat) × (Nat) × (Nat) × (Nat) × (List C) × (Int))) => match i with | (k, b, n, cp, cells, q) => [.s k b 0 n cp, .v (.int .i64 q)]
  pre := fun (i : ((Nat) × (Nat) × (Nat) × (Nat) × (List C) × (Int))) (cx : Cx) (mem : List Blk) => match i with | (k, b, n, cp, cells, q) => mem[k]? = some ⟨b, cells, 52⟩ ∧ n * 2 ≤ List.length cells ∧ n ≤ 1048576 ∧ 0 ≤ q ∧ q ≤ 1048576
  post := fun (i : ((Nat) × (Nat) × (Nat) × (Nat) × (List C) × (Int))) (cx : Cx) (mem : List Blk) (cx' : Cx) (c : C) (mem' : List Blk) => match i with | (k, b, n, cp, cells, q) => cx' = cx ∧ c = .v (.int .i64 (q + 2 * n)) ∧ ∃ cells', List.length cells' = List.length cells ∧ MkS q n cells' ∧ mem' = mem.set k ⟨b, cells', 52⟩
  enter := Try.call15
  h := fun i cx mem w hp hm => markStG_c i.1 i.2.1 i.2.2.1 i.2.2.2.1 i.2.2.2.2.1 i.2.2.2.2.2 cx mem w hp hm
def markStG : Con Try.prog := Con.gen markStG_S
theorem markStG_at {k b n cp : Nat} {cells : List C} {q : Int} {d : Nat} {cx : Cx} {mem : List Blk} {K : Cx → C → List Blk → Prop} (hpre : mem[k]? = some ⟨b, cells, 52⟩ ∧ n * 2 ≤ List.length cells ∧ n ≤ 1048576 ∧ 0 ≤ q ∧ q ≤ 1048576) (h : ∀ cx' c mem', (cx' = cx ∧ c = .v (.int .i64 (q + 2 * n)) ∧ ∃ cells', List.length cells' = List.length cells ∧ MkS q n cells' ∧ mem' = mem.set k ⟨b, cells', 52⟩) → K cx' c mem') : GenV d markStG_S cx [.s k b 0 n cp, .v (.int .i64 q)] mem K := ⟨(k, b, n, cp, cells, q), rfl, hpre, h⟩
def markStV_S : Gens Try.prog 15 where
  ι := Nat × Nat × Nat × Nat × List C × Int
  A i := [.v (.slice (some ⟨i.2.1, 0, none⟩) i.2.2.1 i.2.2.2.1), .v (.int .i64 i.2.2.2.2.2)]
  pre i cx mem := markStG_S.pre i cx mem
  post i cx mem cx' c mem' := markStG_S.post i cx mem cx' c mem'
  enter := markStG_S.enter
  h := fun (k, b, n, cp, cells, q) cx mem w hp hm => markStG_S.h (k, b, n, cp, cells, q) cx mem w hp hm
def markStV : Con Try.prog := Con.gen markStV_S
theorem markStV_at {k b n cp : Nat} {cells : List C} {q : Int} {d : Nat} {cx : Cx} {mem : List Blk} {K : Cx → C → List Blk → Prop} (hpre : mem[k]? = some ⟨b, cells, 52⟩ ∧ n * 2 ≤ List.length cells ∧ n ≤ 1048576 ∧ 0 ≤ q ∧ q ≤ 1048576)
    (h : ∀ cells', List.length cells' = List.length cells → MkS q n cells' → K cx (.v (.int .i64 (q + 2 * n))) (mem.set k ⟨b, cells', 52⟩)) : GenV d markStV_S cx [.v (.slice (some ⟨b, 0, none⟩) n cp), .v (.int .i64 q)] mem K :=
  ⟨(k, b, n, cp, cells, q), rfl, hpre, by rintro _ _ _ ⟨rfl, rfl, cs, h1, h2, rfl⟩; exact h cs h1 h2⟩
theorem eqSureStateD_c (a b : Int) (w : World) : Calls Try.prog 31 #[.agg #[.int .i64 a, .int .i64 b], .agg #[.int .i64 a, .int .i64 b]] w fun e w' => e = .returned (.bool true) ∧ RowKit.Below w.heap.size w w' := by
  refine (plain_of_vcs ⟨[], []⟩ hmx Try.func31 rfl (by kernel_rfl) (args := [.agg #[.int .i64 a, .int .i64 b], .agg #[.int .i64 a, .int .i64 b]]) (by simp [Try.ntmps31]) w (· = .bool true) 400 ?_).mono fun e w' ⟨v, h1, h2, h3⟩ => ⟨h2 ▸ h1, h3⟩
  simp (maxSteps := 4000000) -dsimp [-List.all_eq_true, -Array.all_eq_true, -Bool.exists_bool, -Bool.forall_bool, Z1, Z2, Z3, Z4, Z5, Z6, Z7, Z8, Z9, Z10, Z11, Z12, Z13, Z14, Z15, Z16, Z17, Z18, Z19, Z20, Z21, Z22, Z23, Z24, Z25, Z26, Z27, Z28, Z29, Z30, Z31, Z32, Z33, Z34, Z35, Z36, Z37, Z38, Z39, Z40, Z41, Z42, Z43, Z44, Z45, Z46, Z47, Z48, Z49, Z50, Z51, Z52, Z53, and_assoc, List.zipIdx, Z54, Z55, Z56, Z57, Z58, Z59, Z60, Z61, Z62, Z63, Z64, Z65, Z66, Z67, Z68, Z69, Z70, Z71, Z72, Z73, Z74, Try.f31]
def eqSureStateD : Con Try.prog := Con.pure 31 Try.call31 (fun (i : ((Int) × (Int))) => match i with | (a, b) => [.agg #[.int .i64 a, .int .i64 b], .agg #[.int .i64 a, .int .i64 b]]) (fun (i : ((Int) × (Int))) => match i with | (a, b) => True) (fun (i : ((Int) × (Int))) => match i with | (a, b) => .bool true) fun i w _ => eqSureStateD_c i.1 i.2 w
def mkRows (q : Int) (n : Nat) : List (List Value) := (List.range n).map fun (i : Nat) => [.int .i64 (q + 2 * (i : Int)), .int .i64 (q + 2 * (i : Int) + 1)]
theorem mkRows_at {q : Int} {n i : Nat} (h : i < n) : (mkRows q n)[i]? = some [.int .i64 (q + 2 * (i : Int)), .int .i64 (q + 2 * (i : Int) + 1)] := by
  unfold mkRows
  rw [List.getElem?_map, List.getElem?_range h]; rfl
theorem mkS_rows {q : Int} {n b : Nat} {cs : List C} {F : Facts} (h : MkS q n cs) (hF : ∀ (off : Nat) c, cs[off]? = some c → F ⟨b, off, none⟩ = some (den c)) : RdO F 2 (some ⟨b, 0, none⟩) (mkRows q n) := by
  intro i r hr
  have hi : i < n := by
    have := (List.getElem?_eq_some_iff.1 hr).1
    simpa [mkRows] using this
  rw [mkRows_at hi] at hr
  cases hr
  obtain ⟨h1, h2⟩ := h i hi
  refine ⟨rfl, _, rfl, fun j x hx => ?_⟩
  rw [addr_add, Nat.zero_add]
  match j, hx with
  | 0, hx =>
    have : x = .int .i64 (q + 2 * (i : Int)) := by simpa using hx.symm
    subst this
    exact hF _ _ h1
  | 1, hx =>
    have : x = .int .i64 (q + 2 * (i : Int) + 1) := by simpa using hx.symm
    subst this
    exact hF _ _ h2
  | j + 2, hx => simp at hx
theorem heldStC_c (o : Option Addr) (cap n : Nat) (q : Int) (w : World) (hpre : RdO (factF ⟨w, [], w, []⟩) 2 o (mkRows q n) ∧ n ≤ 1048576 ∧ 0 ≤ q ∧ q ≤ 1048576) : Calls Try.prog 16 #[.slice o n cap, .int .i64 q] w fun e w' => ∃ v, e = .returned v ∧ (fun v => v = .int .i64 (q + 2 * n)) v ∧ RowKit.Below w.heap.size w w' := by
  refine plain_of_vcs ⟨[], []⟩ hmx Try.func16 rfl (by kernel_rfl) (args := [.slice o n cap, .int .i64 q]) (by simp [Try.ntmps16]) w (fun v => v = .int .i64 (q + 2 * n)) 400 ?_
  obtain ⟨h, hn, hq0, hq1⟩ := hpre
  simp (maxSteps := 4000000) -dsimp [-List.all_eq_true, -Array.all_eq_true, -Bool.exists_bool, -Bool.forall_bool, Z1, Z2, Z3, Z4, Z5, Z6, Z7, Z8, Z9, Z10, Z11, Z12, Z13, Z14, Z15, Z16, Z17, Z18, Z19, Z20, Z21, Z22, Z23, Z24, Z25, Z26, Z27, Z28, Z29, Z30, Z31, Z32, Z33, Z34, Z35, Z36, Z37, Z38, Z39, Z40, Z41, Z42, Z43, Z44, Z45, Z46, Z47, Z48, Z49, Z50, Z51, Z52, Z53, and_assoc, List.zipIdx, Z54, Z55, Z56, Z57, Z58, Z59, Z60, Z61, Z62, Z63, Z64, Z65, Z66, Z67, Z68, Z69, Z70, Z71, Z72, Z73, Z74, Try.f16]
  refine loop_inv (σ := ⟨[], []⟩) hmx (by kernel_rfl) (fun m cx tm mem => cx = ⟨w, [], w, []⟩ ∧ mem = [] ∧ ∃ i : Nat, i ≤ n ∧ m = n - i ∧ Sx.look tm 5 = .v (.int .i64 i) ∧ Sx.look tm 1 = .v (.int .i64 (q + 2 * i)) ∧ Sx.look tm 0 = .v (.slice o n cap))
    n ⟨rfl, rfl, 0, by omega, rfl, by simp [Sx.look], by simp [Sx.look], by simp [Sx.look]⟩ ?_
  rintro m cx tm mem ⟨rfl, rfl, i, hi, rfl, h5, h1, h0⟩
  refine ⟨400, ?_⟩
  by_cases hlt : i < n
  · have w1 : IntKind.i64.wrap (q + 2 * (i : Int) + 1) = q + 2 * (i : Int) + 1 := wrap_i64 (by omega) (by omega)
    have w2 : IntKind.i64.wrap (q + 2 * (i : Int) + 1 + 1) = q + 2 * (i : Int) + 1 + 1 := wrap_i64 (by omega) (by omega)
    have hth : o.isSome = true := by
      obtain ⟨_, a, rfl, _⟩ := h i _ (mkRows_at hlt)
      rfl
    have l0 := fun (d : Nat) (mem : List Blk) (K : Value → Prop) => RdO.ld_zero (P := Try.prog) (d := d) (K := K) (h.mono (sub_now ⟨w, [], w, []⟩ mem)) (t := 3) (by kernel_rfl) (mkRows_at hlt) rfl
    have l1 := fun (d : Nat) (mem : List Blk) (K : Value → Prop) => RdO.ld_one (P := Try.prog) (d := d) (K := K) (h.mono (sub_now ⟨w, [], w, []⟩ mem)) (t := 3) (by kernel_rfl) (mkRows_at hlt) (j := 1) rfl
    simp (maxSteps := 4000000) -dsimp [-List.all_eq_true, -Array.all_eq_true, -Bool.exists_bool, -Bool.forall_bool, Z1, Z2, Z3, Z4, Z5, Z6, Z7, Z8, Z9, Z10, Z11, Z12, Z13, Z14, Z15, Z16, Z17, Z18, Z19, Z20, Z21, Z22, Z23, Z24, Z25, Z26, Z27, Z28, Z29, Z30, Z31, Z32, Z33, Z34, Z35, Z36, Z37, Z38, Z39, Z40, Z41, Z42, Z43, Z44, Z45, Z46, Z47, Z48, Z49, Z50, Z51, Z52, Z53, and_assoc, List.zipIdx, Z54, Z55, Z56, Z57, Z58, Z59, Z60, Z61, Z62, Z63, Z64, Z65, Z66, Z67, Z68, Z69, Z70, Z71, Z72, Z73, Z74, Try.f16, h5, h1, h0, hlt, hth, l0, l1, w1, w2, i_succ (i := i) (by omega)]
    exact ⟨n - (i + 1), by omega, i + 1, by omega, rfl, by omega, by omega⟩
  · obtain rfl : i = n := by omega
    simp (maxSteps := 4000000) -dsimp [-List.all_eq_true, -Array.all_eq_true, -Bool.exists_bool, -Bool.forall_bool, Z1, Z2, Z3, Z4, Z5, Z6, Z7, Z8, Z9, Z10, Z11, Z12, Z13, Z14, Z15, Z16, Z17, Z18, Z19, Z20, Z21, Z22, Z23, Z24, Z25, Z26, Z27, Z28, Z29, Z30, Z31, Z32, Z33, Z34, Z35, Z36, Z37, Z38, Z39, Z40, Z41, Z42, Z43, Z44, Z45, Z46, Z47, Z48, Z49, Z50, Z51, Z52, Z53, and_assoc, List.zipIdx, Z54, Z55, Z56, Z57, Z58, Z59, Z60, Z61, Z62, Z63, Z64, Z65, Z66, Z67, Z68, Z69, Z70, Z71, Z72, Z73, Z74, Try.f16, h5, h1, h0]
def heldStC_S : Rels Try.prog 16 where
  ι := ((Option Addr) × (Nat) × (Nat) × (Int))
  A := fun (i : ((Option Addr) × (Nat) × (Nat) × (Int))) => match i with | (o, cap, n, q) => [.slice o n cap, .int .i64 q]
  pre := fun (i : ((Option Addr) × (Nat) × (Nat) × (Int))) (F : Facts) => match i with | (o, cap, n, q) => RdO F 2 o (mkRows q n) ∧ n ≤ 1048576 ∧ 0 ≤ q ∧ q ≤ 1048576
  post := fun (i : ((Option Addr) × (Nat) × (Nat) × (Int))) => match i with | (o, cap, n, q) => fun v => v = .int .i64 (q + 2 * n)
  mono := by
    intro i F G hs h
    first | exact h | exact h.mono hs | exact ⟨h.1.mono hs, h.2⟩ | exact ⟨h.1.mono hs, h.2.1.mono hs, h.2.2⟩ | exact ⟨h.1.mono hs, h.2.1.mono hs⟩
  enter := Try.call16
  h := fun i w hp => heldStC_c i.1 i.2.1 i.2.2.1 i.2.2.2 w (by rw [factF_init]; exact hp)
def heldStC : Con Try.prog := Con.rel heldStC_S
theorem eqStSC_c (o : Option Addr) (cap : Nat) (o2 : Option Addr) (cap2 : Nat) (xs : List Ins) (w : World) (hpre : RdO (factF ⟨w, [], w, []⟩) 2 o (trRows xs (trN xs)) ∧ RdO (factF ⟨w, [], w, []⟩) 2 o2 (trRows xs (trN xs)) ∧ xs.length ≤ 1048576) : Calls Try.prog 12 #[.slice o (trN xs) cap, .slice o2 (trN xs) cap2] w fun e w' => ∃ v, e = .returned v ∧ (fun v => v = .bool true) v ∧ RowKit.Below w.heap.size w w' := by
  refine plain_of_vcs ⟨[eqSureStateD], []⟩ hmx Try.func12 rfl (by kernel_rfl) (args := [.slice o (trN xs) cap, .slice o2 (trN xs) cap2]) (by simp [Try.ntmps12]) w (fun v => v = .bool true) 400 ?_
  obtain ⟨h, g, hl⟩ := hpre
  have htl := trN_le xs
  simp (maxSteps := 4000000) -dsimp [-List.all_eq_true, -Array.all_eq_true, -Bool.exists_bool, -Bool.forall_bool, Z1, Z2, Z3, Z4, Z5, Z6, Z7, Z8, Z9, Z10, Z11, Z12, Z13, Z14, Z15, Z16, Z17, Z18, Z19, Z20, Z21, Z22, Z23, Z24, Z25, Z26, Z27, Z28, Z29, Z30, Z31, Z32, Z33, Z34, Z35, Z36, Z37, Z38, Z39, Z40, Z41, Z42, Z43, Z44, Z45, Z46, Z47, Z48, Z49, Z50, Z51, Z52, Z53, and_assoc, List.zipIdx, Z54, Z55, Z56, Z57, Z58, Z59, Z60, Z61, Z62, Z63, Z64, Z65, Z66, Z67, Z68, Z69, Z70, Z71, Z72, Z73, Z74, Try.f12, eqSureStateD]
  refine loop_inv (σ := ⟨[eqSureStateD], []⟩) hmx (by kernel_rfl) (fun m cx tm mem => cx = ⟨w, [], w, []⟩ ∧ mem = [] ∧ ∃ i : Nat, i ≤ trN xs ∧ m = trN xs - i ∧ Sx.look tm 5 = .v (.int .i64 i) ∧ Sx.look tm 0 = .v (.slice o (trN xs) cap) ∧ Sx.look tm 1 = .v (.slice o2 (trN xs) cap2))
    (trN xs) ⟨rfl, rfl, 0, by omega, rfl, by simp [Sx.look], by simp [Sx.look], by simp [Sx.look]⟩ ?_
  rintro m cx tm mem ⟨rfl, rfl, i, hi, rfl, h5, h0, h1⟩
  refine ⟨400, ?_⟩
  by_cases hlt : i < trN xs
  · have hat := trAt h hlt
    have gat := trAt g hlt
    simp (maxSteps := 4000000) -dsimp [-List.all_eq_true, -Array.all_eq_true, -Bool.exists_bool, -Bool.forall_bool, Z1, Z2, Z3, Z4, Z5, Z6, Z7, Z8, Z9, Z10, Z11, Z12, Z13, Z14, Z15, Z16, Z17, Z18, Z19, Z20, Z21, Z22, Z23, Z24, Z25, Z26, Z27, Z28, Z29, Z30, Z31, Z32, Z33, Z34, Z35, Z36, Z37, Z38, Z39, Z40, Z41, Z42, Z43, Z44, Z45, Z46, Z47, Z48, Z49, Z50, Z51, Z52, Z53, and_assoc, List.zipIdx, Z54, Z55, Z56, Z57, Z58, Z59, Z60, Z61, Z62, Z63, Z64, Z65, Z66, Z67, Z68, Z69, Z70, Z71, Z72, Z73, Z74, Try.f12, eqSureStateD, h5, h1, h0, hlt, hat.there, gat.there, hat.all, gat.all, i_succ (i := i) (by omega)]
    exact ⟨trN xs - (i + 1), by omega, i + 1, by omega, rfl, by omega⟩
  · obtain rfl : i = trN xs := by omega
    simp (maxSteps := 4000000) -dsimp [-List.all_eq_true, -Array.all_eq_true, -Bool.exists_bool, -Bool.forall_bool, Z1, Z2, Z3, Z4, Z5, Z6, Z7, Z8, Z9, Z10, Z11, Z12, Z13, Z14, Z15, Z16, Z17, Z18, Z19, Z20, Z21, Z22, Z23, Z24, Z25, Z26, Z27, Z28, Z29, Z30, Z31, Z32, Z33, Z34, Z35, Z36, Z37, Z38, Z39, Z40, Z41, Z42, Z43, Z44, Z45, Z46, Z47, Z48, Z49, Z50, Z51, Z52, Z53, and_assoc, List.zipIdx, Z54, Z55, Z56, Z57, Z58, Z59, Z60, Z61, Z62, Z63, Z64, Z65, Z66, Z67, Z68, Z69, Z70, Z71, Z72, Z73, Z74, Try.f12, eqSureStateD, h5, h1, h0]
def eqStSC_S : Rels Try.prog 12 where
  ι := ((Option Addr) × (Nat) × (Option Addr) × (Nat) × (List Ins))
  A := fun (i : ((Option Addr) × (Nat) × (Option Addr) × (Nat) × (List Ins))) => match i with | (o, cap, o2, cap2, xs) => [.slice o (trN xs) cap, .slice o2 (trN xs) cap2]
  pre := fun (i : ((Option Addr) × (Nat) × (Option Addr) × (Nat) × (List Ins))) (F : Facts) => match i with | (o, cap, o2, cap2, xs) => RdO F 2 o (trRows xs (trN xs)) ∧ RdO F 2 o2 (trRows xs (trN xs)) ∧ xs.length ≤ 1048576
  post := fun (i : ((Option Addr) × (Nat) × (Option Addr) × (Nat) × (List Ins))) => match i with | (o, cap, o2, cap2, xs) => fun v => v = .bool true
  mono := by
    intro i F G hs h
    first | exact h | exact h.mono hs | exact ⟨h.1.mono hs, h.2⟩ | exact ⟨h.1.mono hs, h.2.1.mono hs, h.2.2⟩ | exact ⟨h.1.mono hs, h.2.1.mono hs⟩
  enter := Try.call12
  h := fun i w hp => eqStSC_c i.1 i.2.1 i.2.2.1 i.2.2.2.1 i.2.2.2.2 w (by rw [factF_init]; exact hp)
def eqStSC : Con Try.prog := Con.rel eqStSC_S

end Go.Proofs.Ytfhnbdlkiemaeaa
