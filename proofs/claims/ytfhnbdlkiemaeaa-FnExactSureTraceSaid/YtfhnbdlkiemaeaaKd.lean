/-
  Contracts: the law of traces, walked.
-/
import Derived.Test.YtfhnbdlkiemaeaaKc
set_option linter.unusedVariables false
set_option linter.unusedSimpArgs false
set_option maxRecDepth 100000
set_option maxHeartbeats 4000000
namespace Go.Proofs.Ytfhnbdlkiemaeaa
open Go Go.Sx
open Go.Sx renaming vcsE1 → Z1, vcsE2 → Z2, vcsE3 → Z3, vcsE4 → Z4, vcsE5 → Z5, vcsE6 → Z6, vcsE7 → Z7, vcsE8 → Z8, vcsE9 → Z9, vcsE10 → Z10, vcsE11 → Z11, vcsE12 → Z12, vcsE13 → Z13, vcsE14 → Z14, vcsE15 → Z15, vcsE16 → Z16, vcsE17 → Z17, vcsE18 → Z18, vcsE19 → Z19, get → Z20, look → Z21, put → Z22, pureFn → Z23, findOrd → Z24, unF → Z25, dstOk → Z26, isFloatT → Z27, endVC → Z28, resFn → Z29, packC → Z30, newFn → Z31, storeFn → Z32, buildFn → Z33, known → Z35, aggT → Z36, cellsC → Z37, findCon → Z39, allV → Z42, partsV → Z43, partsC → Z44, fillL → Z45, exitTo → Z46, fAr → Z47, eqFn → Z50, eqFieldsFn → Z51, eqElemsFn → Z52, partFn → Z53, sliceFn → Z54, boundFn → Z55, AppV → Z56, CopyV → Z57, MakeSliceV → Z58, NewsV → Z59, GrowV → Z60, TextV → Z61, bytesL → Z62, notInt → Z63, typeAt → Z64, argAt → Z65, den → Z70
open Go renaming undef → Z34
open Go.Value renaming cells → Z38, oneCell' → Z49
open Go.Sx.Con renaming pure → Z40, some → Z41, read → Z66, make → Z67, ext → Z68, rel → Z69, extS → Z71, draw → Z72, step → Z73
open Go.Sx.C renaming one → Z48
open Go.Sx.Draws renaming steps → Z74

/-- Rows of cells, all known. -/
theorem rdO_flat {F : Facts} {b size : Nat} {rows : List (List Value)} {pad : List C} (hr : ∀ r ∈ rows, r.length = size) (h : ∀ (off : Nat) c, (rows.flatten.map C.v ++ pad)[off]? = some c → F ⟨b, off, none⟩ = some (den c)) : RdO F size (some ⟨b, 0, none⟩) rows := by
  intro i r hr'
  refine ⟨hr r (List.mem_of_getElem? hr'), _, rfl, fun j x hx => ?_⟩
  have hf := flat_at rows i r hr hr' j x hx
  have hl := (List.getElem?_eq_some_iff.1 hf).1
  rw [addr_add, Nat.zero_add]
  refine h _ (.v x) ?_
  rw [List.getElem?_append_left (by rw [List.length_map]; exact hl), List.getElem?_map, hf]
  rfl
theorem encDs_flat (xs : List Dev) : encDs xs = (xs.map encD).flatten := by
  induction xs with
  | nil => rfl
  | cons a l ih =>
    have : encDs (a :: l) = encD a ++ encDs l := rfl
    rw [this, ih]; rfl
theorem rowD_rd {F : Facts} {a : Nat} {xs : List Dev} (h : ∀ (off : Nat) c, (rowD xs xs.length xs.length)[off]? = some c → F ⟨a, off, none⟩ = some (den c)) : RdD F (some ⟨a, 0, none⟩) xs := by
  refine rdO_flat (pad := []) (fun r hr => ?_) fun off c hc => h off c ?_
  · obtain ⟨d, _, rfl⟩ := List.mem_map.1 hr; rfl
  · rw [rowD_end rfl, encDs_flat]; simpa using hc
theorem KL.rd {F : Facts} {b : Nat} {xs : List Ins} {rs : List (List Value)} {As : List Blk} (h : KL xs rs As) (hl : rs.length = xs.length) (ha : ∀ x ∈ xs, x.args.length ≤ 1048576)
    (hF : ∀ (off : Nat) c, (rowZ zI rs xs.length)[off]? = some c → F ⟨b, off, none⟩ = some (den c))
    (hA : ∀ A ∈ As, ∀ (off : Nat) c, A.cells[off]? = some c → F ⟨A.id, off, none⟩ = some (den c)) : RdN F (some ⟨b, 0, none⟩) xs := by
  refine ⟨rs, rdO_flat (pad := []) h.len fun off c hc => hF off c ?_, hl, fun i r x hr hx => ?_⟩
  · rw [rowZ_end hl.symm]; simpa using hc
  · have hi := (List.getElem?_eq_some_iff.1 hr).1
    obtain ⟨a, h1, h2⟩ := h.at' i x hi hx
    rw [hr] at h1
    cases h1
    have := ha x (List.mem_of_getElem? hx)
    exact ⟨_, _, rfl, rowD_rd (hA _ (List.mem_of_getElem? h2)), Nat.le_refl _, by unfold maxLen; omega⟩
theorem KL.mem {cx : Cx} {mem : List Blk} {w : World} {b : Nat} {xs : List Ins} {rs : List (List Value)} {As : List Blk} (hm : MemRel cx mem w) (h : KL xs rs As) (hl : rs.length = xs.length) (ha : ∀ x ∈ xs, x.args.length ≤ 1048576)
    (hk : ⟨b, rowZ zI rs xs.length, 57⟩ ∈ mem) (hA : ∀ A ∈ As, A ∈ mem) : RdN w.cell? (some ⟨b, 0, none⟩) xs :=
  h.rd hl ha (fun off c hc => by
    obtain ⟨q, hq⟩ := List.getElem?_of_mem hk
    exact blk_cell hm hq hc) fun A hAm off c hc => by
    obtain ⟨q, hq⟩ := List.getElem?_of_mem (hA A hAm)
    exact blk_cell hm hq hc
theorem trC_rd {cx : Cx} {mem : List Blk} {w : World} {b : Nat} {xs : List Ins} {pad : List C} (hm : MemRel cx mem w) (hk : ⟨b, trC xs (trN xs) ++ pad, 52⟩ ∈ mem) : RdO w.cell? 2 (some ⟨b, 0, none⟩) (trRows xs (trN xs)) := by
  obtain ⟨q, hq⟩ := List.getElem?_of_mem hk
  exact rdO_flat (pad := pad) trRows_two fun off c hc => blk_cell hm hq hc
theorem mkS_rd {cx : Cx} {mem : List Blk} {w : World} {q : Int} {n b : Nat} {cs : List C} (hm : MemRel cx mem w) (hk : ⟨b, cs, 52⟩ ∈ mem) (h : MkS q n cs) : RdO w.cell? 2 (some ⟨b, 0, none⟩) (mkRows q n) := by
  obtain ⟨k, hk'⟩ := List.getElem?_of_mem hk
  exact mkS_rows h fun off c hc => blk_cell hm hk' hc
theorem markStV_mid {m1 m2 : List Blk} {b n cp : Nat} {cells : List C} {q : Int} {d : Nat} {cx : Cx} {mem : List Blk} {K : Cx → C → List Blk → Prop} (hmem : mem = m1 ++ ⟨b, cells, 52⟩ :: m2) (hpre : n * 2 ≤ List.length cells ∧ n ≤ 1048576 ∧ 0 ≤ q ∧ q ≤ 1048576)
    (h : ∀ cells', List.length cells' = List.length cells → MkS q n cells' → K cx (.v (.int .i64 (q + 2 * n))) (m1 ++ ⟨b, cells', 52⟩ :: m2)) : GenV d markStV_S cx [.v (.slice (some ⟨b, 0, none⟩) n cp), .v (.int .i64 q)] mem K := by
  subst hmem
  refine markStV_at (k := m1.length) ⟨by simp, hpre⟩ fun cs h1 h2 => ?_
  have := h cs h1 h2
  simpa using this
def markInstSV_S : Gens Try.prog 14 where
  ι := List Blk × List Blk × Nat × List Ins × List C × List Blk × Int
  A i := [.v (.slice (some ⟨i.2.2.1, 0, none⟩) i.2.2.2.1.length i.2.2.2.1.length), .v (.int .i64 i.2.2.2.2.2.2)]
  pre i cx mem := markInstSG_S.pre i cx mem
  post i cx mem cx' c mem' := markInstSG_S.post i cx mem cx' c mem'
  enter := markInstSG_S.enter
  h := fun (m1, m2, b, xs, cells, As, q) cx mem w hp hm => markInstSG_S.h (m1, m2, b, xs, cells, As, q) cx mem w hp hm
def markInstSV : Con Try.prog := Con.gen markInstSV_S
theorem markInstSV_at {m1 m2 : List Blk} {b : Nat} {xs : List Ins} {cells : List C} {As : List Blk} {q : Int} {d : Nat} {cx : Cx} {mem : List Blk} {K : Cx → C → List Blk → Prop} (hpre : mem = m1 ++ (⟨b, cells, 57⟩ :: As ++ m2) ∧ KM xs cells As ∧ List.length xs ≤ 1048576 ∧ (∀ x ∈ xs, x.args.length ≤ 1048576) ∧ 0 ≤ q ∧ q ≤ 1048576)
    (h : ∀ (q' : Int) (cells' : List C) (As' : List Blk), 0 ≤ q' → KM xs cells' As' → K cx (.v (.int .i64 q')) (m1 ++ (⟨b, cells', 57⟩ :: As' ++ m2))) : GenV d markInstSV_S cx [.v (.slice (some ⟨b, 0, none⟩) xs.length xs.length), .v (.int .i64 q)] mem K :=
  ⟨(m1, m2, b, xs, cells, As, q), rfl, hpre, by rintro _ _ _ ⟨rfl, q', cs, Bs, rfl, h1, h2, rfl⟩; exact h q' cs Bs h1 h2⟩
def sTraceW : Con Try.prog := Con.makeW sSureTraceC_S
def eqInstSW : Con Try.prog := Con.readW eqInstSC_S
theorem eqInstSW_at {o o2 : Option Addr} {cap cap2 : Nat} {xs : List Ins} {d : Nat} {cx : Cx} {mem : List Blk} {K : C → Prop} (h2 : ∀ w, MemRel cx mem w → RdN w.cell? o xs ∧ RdN w.cell? o2 xs ∧ xs.length ≤ 1048576 ∧ (∀ x ∈ xs, x.args.length ≤ 1048576)) (h : K (.v (.bool true))) : RdsW d eqInstSC_S cx [.v (.slice o xs.length cap), .v (.slice o2 xs.length cap2)] mem K :=
  readW_at (S := eqInstSC_S) (o, cap, xs, o2, cap2) rfl h2 h
def eqStSU_S := gensL eqStSC_S
def eqStSU : Con Try.prog := Con.gen eqStSU_S
def heldStU_S := gensL heldStC_S
def heldStU : Con Try.prog := Con.gen heldStU_S
theorem lawSureTraceC_c (o : Option Addr) (cap : Nat) (xs : List Ins) (w : World) (hpre : RdN (factF ⟨w, [], w, []⟩) o xs ∧ xs.length ≤ 9223372036854775807) : Calls Try.prog 3 #[.slice o xs.length cap] w fun e w' => e = .returned (.bool true) ∧ RowKit.Below w.heap.size w w' := by
  refine (plain_of_vcs ⟨[szInstSC, toInstSG, sTraceW, sureTraceU, eqStSU, eqInstSW, markInstSV, markStV, heldStU], []⟩ hmx Try.func3 rfl (by kernel_rfl) (args := [.slice o xs.length cap]) (by simp [Try.ntmps3]) w (· = .bool true) 400 ?_).mono fun e w' ⟨v, h1, h2, h3⟩ => ⟨h2 ▸ h1, h3⟩
  obtain ⟨h, hl⟩ := hpre
  have z1 := fun d mem K => szInstSC_rw (cap := cap) (d := d) (cx := ⟨w, [], w, []⟩) (mem := mem) (K := K) (left := 1048576) ⟨h.mono (sub_now _ _), by decide, by decide, hl⟩
  by_cases hs : 0 ≤ szS xs 1048576
  · obtain ⟨hx1, hx2⟩ := szS_ok (by decide) hs
    have hs1 : ¬ szS xs 1048576 < 0 := by omega
    have htl := trN_le xs
    simp (maxSteps := 4000000) -dsimp [-List.all_eq_true, -Array.all_eq_true, -Bool.exists_bool, -Bool.forall_bool, Z1, Z2, Z3, Z4, Z5, Z6, Z7, Z8, Z9, Z10, Z11, Z12, Z13, Z14, Z15, Z16, Z17, Z18, Z19, Z20, Z21, Z22, Z23, Z24, Z25, Z26, Z27, Z28, Z29, Z30, Z31, Z32, Z33, Z34, Z35, Z36, Z37, Z38, Z39, Z40, Z41, Z42, Z43, Z44, Z45, Z46, Z47, Z48, Z49, Z50, Z51, Z52, Z53, and_assoc, List.zipIdx, Z54, Z55, Z56, Z57, Z58, Z59, Z60, Z61, Z62, Z63, Z64, Z65, Z66, Z67, Z68, Z69, Z70, Z71, Z72, Z73, Z74, Try.f3, szInstSC, toInstSG, sTraceW, sureTraceU, eqStSU, eqInstSW, markInstSV, markStV, heldStU, z1, hs1, Con.gen, Con.makeW, Con.readW]
    refine toInstSG_at ⟨h, hx1, hx2⟩ ?_
    rintro cx1 c1 mem1 ⟨rfl, b1, rs1, As1, rfl, hK1, hl1, rfl⟩
    simp (maxSteps := 4000000) -dsimp [-List.all_eq_true, -Array.all_eq_true, -Bool.exists_bool, -Bool.forall_bool, Z1, Z2, Z3, Z4, Z5, Z6, Z7, Z8, Z9, Z10, Z11, Z12, Z13, Z14, Z15, Z16, Z17, Z18, Z19, Z20, Z21, Z22, Z23, Z24, Z25, Z26, Z27, Z28, Z29, Z30, Z31, Z32, Z33, Z34, Z35, Z36, Z37, Z38, Z39, Z40, Z41, Z42, Z43, Z44, Z45, Z46, Z47, Z48, Z49, Z50, Z51, Z52, Z53, and_assoc, List.zipIdx, Z54, Z55, Z56, Z57, Z58, Z59, Z60, Z61, Z62, Z63, Z64, Z65, Z66, Z67, Z68, Z69, Z70, Z71, Z72, Z73, Z74, Try.f3, szInstSC, toInstSG, sTraceW, sureTraceU, eqStSU, eqInstSW, markInstSV, markStV, heldStU, Con.gen, Con.makeW, Con.readW]
    refine makeW_at (S := sSureTraceC_S) (some ⟨b1, 0, none⟩, xs.length, xs) rfl (fun w hm => ⟨hK1.mem hm hl1 hx2 (by simp) (by simp +contextual), hx1⟩) ?_
    rintro cx2 v2 hle2 hv2
    obtain ⟨wo, wcap, rfl, hwd, _, _⟩ := hv2.ex
    replace hwd := hwd.mono (sub_new _)
    simp (maxSteps := 4000000) -dsimp [-List.all_eq_true, -Array.all_eq_true, -Bool.exists_bool, -Bool.forall_bool, Z1, Z2, Z3, Z4, Z5, Z6, Z7, Z8, Z9, Z10, Z11, Z12, Z13, Z14, Z15, Z16, Z17, Z18, Z19, Z20, Z21, Z22, Z23, Z24, Z25, Z26, Z27, Z28, Z29, Z30, Z31, Z32, Z33, Z34, Z35, Z36, Z37, Z38, Z39, Z40, Z41, Z42, Z43, Z44, Z45, Z46, Z47, Z48, Z49, Z50, Z51, Z52, Z53, and_assoc, List.zipIdx, Z54, Z55, Z56, Z57, Z58, Z59, Z60, Z61, Z62, Z63, Z64, Z65, Z66, Z67, Z68, Z69, Z70, Z71, Z72, Z73, Z74, Try.f3, szInstSC, toInstSG, sTraceW, sureTraceU, eqStSU, eqInstSW, markInstSV, markStV, heldStU, Con.gen, Con.makeW, Con.readW]
    refine toInstSG_at ⟨h.mono hle2.fact, hx1, hx2⟩ ?_
    rintro cx3 c3 mem3 ⟨rfl, b3, rs3, As3, rfl, hK3, hl3, rfl⟩
    simp (maxSteps := 4000000) -dsimp [-List.all_eq_true, -Array.all_eq_true, -Bool.exists_bool, -Bool.forall_bool, Z1, Z2, Z3, Z4, Z5, Z6, Z7, Z8, Z9, Z10, Z11, Z12, Z13, Z14, Z15, Z16, Z17, Z18, Z19, Z20, Z21, Z22, Z23, Z24, Z25, Z26, Z27, Z28, Z29, Z30, Z31, Z32, Z33, Z34, Z35, Z36, Z37, Z38, Z39, Z40, Z41, Z42, Z43, Z44, Z45, Z46, Z47, Z48, Z49, Z50, Z51, Z52, Z53, and_assoc, List.zipIdx, Z54, Z55, Z56, Z57, Z58, Z59, Z60, Z61, Z62, Z63, Z64, Z65, Z66, Z67, Z68, Z69, Z70, Z71, Z72, Z73, Z74, Try.f3, szInstSC, toInstSG, sTraceW, sureTraceU, eqStSU, eqInstSW, markInstSV, markStV, heldStU, Con.gen, Con.makeW, Con.readW]
    refine sureTraceU_at (xs := xs) (fun w hm => ⟨hK3.mem hm hl3 hx2 (by simp) (by simp +contextual), hx1⟩) ?_
    intro cx4 b4 cp4 pad4 hle4 k1 k2 k3
    simp (maxSteps := 4000000) -dsimp [-List.all_eq_true, -Array.all_eq_true, -Bool.exists_bool, -Bool.forall_bool, Z1, Z2, Z3, Z4, Z5, Z6, Z7, Z8, Z9, Z10, Z11, Z12, Z13, Z14, Z15, Z16, Z17, Z18, Z19, Z20, Z21, Z22, Z23, Z24, Z25, Z26, Z27, Z28, Z29, Z30, Z31, Z32, Z33, Z34, Z35, Z36, Z37, Z38, Z39, Z40, Z41, Z42, Z43, Z44, Z45, Z46, Z47, Z48, Z49, Z50, Z51, Z52, Z53, and_assoc, List.zipIdx, Z54, Z55, Z56, Z57, Z58, Z59, Z60, Z61, Z62, Z63, Z64, Z65, Z66, Z67, Z68, Z69, Z70, Z71, Z72, Z73, Z74, Try.f3, szInstSC, toInstSG, sTraceW, sureTraceU, eqStSU, eqInstSW, markInstSV, markStV, heldStU, Con.gen, Con.makeW, Con.readW]
    refine gensL_at (S := eqStSC_S) (some ⟨b4, 0, none⟩, cp4, wo, wcap, xs) rfl (fun w hm => ⟨trC_rd (pad := pad4) hm (by simp), (hwd.mono hle4.fact).mono (fact_cell hm), hx1⟩) ?_
    rintro v5 rfl
    simp (maxSteps := 4000000) -dsimp [-List.all_eq_true, -Array.all_eq_true, -Bool.exists_bool, -Bool.forall_bool, Z1, Z2, Z3, Z4, Z5, Z6, Z7, Z8, Z9, Z10, Z11, Z12, Z13, Z14, Z15, Z16, Z17, Z18, Z19, Z20, Z21, Z22, Z23, Z24, Z25, Z26, Z27, Z28, Z29, Z30, Z31, Z32, Z33, Z34, Z35, Z36, Z37, Z38, Z39, Z40, Z41, Z42, Z43, Z44, Z45, Z46, Z47, Z48, Z49, Z50, Z51, Z52, Z53, and_assoc, List.zipIdx, Z54, Z55, Z56, Z57, Z58, Z59, Z60, Z61, Z62, Z63, Z64, Z65, Z66, Z67, Z68, Z69, Z70, Z71, Z72, Z73, Z74, Try.f3, szInstSC, toInstSG, sTraceW, sureTraceU, eqStSU, eqInstSW, markInstSV, markStV, heldStU, Con.gen, Con.makeW, Con.readW]
    refine toInstSG_at ⟨h.mono (hle2.trans hle4).fact, hx1, hx2⟩ ?_
    rintro cx6 c6 mem6 ⟨rfl, b6, rs6, As6, rfl, hK6, hl6, rfl⟩
    simp (maxSteps := 4000000) -dsimp [-List.all_eq_true, -Array.all_eq_true, -Bool.exists_bool, -Bool.forall_bool, Z1, Z2, Z3, Z4, Z5, Z6, Z7, Z8, Z9, Z10, Z11, Z12, Z13, Z14, Z15, Z16, Z17, Z18, Z19, Z20, Z21, Z22, Z23, Z24, Z25, Z26, Z27, Z28, Z29, Z30, Z31, Z32, Z33, Z34, Z35, Z36, Z37, Z38, Z39, Z40, Z41, Z42, Z43, Z44, Z45, Z46, Z47, Z48, Z49, Z50, Z51, Z52, Z53, and_assoc, List.zipIdx, Z54, Z55, Z56, Z57, Z58, Z59, Z60, Z61, Z62, Z63, Z64, Z65, Z66, Z67, Z68, Z69, Z70, Z71, Z72, Z73, Z74, Try.f3, szInstSC, toInstSG, sTraceW, sureTraceU, eqStSU, eqInstSW, markInstSV, markStV, heldStU, Con.gen, Con.makeW, Con.readW]
    refine eqInstSW_at (fun w hm => ⟨hK3.mem hm hl3 hx2 (by simp) (by simp +contextual), hK6.mem hm hl6 hx2 (by simp) (by simp +contextual), hx1, hx2⟩) ?_
    simp (maxSteps := 4000000) -dsimp [-List.all_eq_true, -Array.all_eq_true, -Bool.exists_bool, -Bool.forall_bool, Z1, Z2, Z3, Z4, Z5, Z6, Z7, Z8, Z9, Z10, Z11, Z12, Z13, Z14, Z15, Z16, Z17, Z18, Z19, Z20, Z21, Z22, Z23, Z24, Z25, Z26, Z27, Z28, Z29, Z30, Z31, Z32, Z33, Z34, Z35, Z36, Z37, Z38, Z39, Z40, Z41, Z42, Z43, Z44, Z45, Z46, Z47, Z48, Z49, Z50, Z51, Z52, Z53, and_assoc, List.zipIdx, Z54, Z55, Z56, Z57, Z58, Z59, Z60, Z61, Z62, Z63, Z64, Z65, Z66, Z67, Z68, Z69, Z70, Z71, Z72, Z73, Z74, Try.f3, szInstSC, toInstSG, sTraceW, sureTraceU, eqStSU, eqInstSW, markInstSV, markStV, heldStU, Con.gen, Con.makeW, Con.readW]
    refine markInstSV_at (m1 := ⟨b1, rowZ zI rs1 xs.length, 57⟩ :: As1) (m2 := ⟨b4, trC xs (trN xs) ++ pad4, 52⟩ :: ⟨b6, rowZ zI rs6 xs.length, 57⟩ :: As6) ⟨by simp, hK3.km hl3, hx1, hx2, by omega, by omega⟩ ?_
    intro q7 cs7 As7 hq7 hK7
    have hq7' : ¬ q7 < 0 := by omega
    simp (maxSteps := 4000000) -dsimp [-List.all_eq_true, -Array.all_eq_true, -Bool.exists_bool, -Bool.forall_bool, Z1, Z2, Z3, Z4, Z5, Z6, Z7, Z8, Z9, Z10, Z11, Z12, Z13, Z14, Z15, Z16, Z17, Z18, Z19, Z20, Z21, Z22, Z23, Z24, Z25, Z26, Z27, Z28, Z29, Z30, Z31, Z32, Z33, Z34, Z35, Z36, Z37, Z38, Z39, Z40, Z41, Z42, Z43, Z44, Z45, Z46, Z47, Z48, Z49, Z50, Z51, Z52, Z53, and_assoc, List.zipIdx, Z54, Z55, Z56, Z57, Z58, Z59, Z60, Z61, Z62, Z63, Z64, Z65, Z66, Z67, Z68, Z69, Z70, Z71, Z72, Z73, Z74, Try.f3, szInstSC, toInstSG, sTraceW, sureTraceU, eqStSU, eqInstSW, markInstSV, markStV, heldStU, Con.gen, Con.makeW, Con.readW, hq7']
    refine gensL_at (S := eqStSC_S) (some ⟨b4, 0, none⟩, cp4, wo, wcap, xs) rfl (fun w hm => ⟨trC_rd (pad := pad4) hm (by simp), (hwd.mono hle4.fact).mono (fact_cell hm), hx1⟩) ?_
    rintro v8 rfl
    simp (maxSteps := 4000000) -dsimp [-List.all_eq_true, -Array.all_eq_true, -Bool.exists_bool, -Bool.forall_bool, Z1, Z2, Z3, Z4, Z5, Z6, Z7, Z8, Z9, Z10, Z11, Z12, Z13, Z14, Z15, Z16, Z17, Z18, Z19, Z20, Z21, Z22, Z23, Z24, Z25, Z26, Z27, Z28, Z29, Z30, Z31, Z32, Z33, Z34, Z35, Z36, Z37, Z38, Z39, Z40, Z41, Z42, Z43, Z44, Z45, Z46, Z47, Z48, Z49, Z50, Z51, Z52, Z53, and_assoc, List.zipIdx, Z54, Z55, Z56, Z57, Z58, Z59, Z60, Z61, Z62, Z63, Z64, Z65, Z66, Z67, Z68, Z69, Z70, Z71, Z72, Z73, Z74, Try.f3, szInstSC, toInstSG, sTraceW, sureTraceU, eqStSU, eqInstSW, markInstSV, markStV, heldStU, Con.gen, Con.makeW, Con.readW]
    refine markStV_mid (cells := trC xs (trN xs) ++ pad4) (m1 := ⟨b1, rowZ zI rs1 xs.length, 57⟩ :: (As1 ++ ⟨b3, cs7, 57⟩ :: As7)) (m2 := ⟨b6, rowZ zI rs6 xs.length, 57⟩ :: As6) (by simp) ⟨by simp [trC_len], by omega, by omega, by omega⟩ ?_
    intro cs9 hl9 hM9
    simp (maxSteps := 4000000) -dsimp [-List.all_eq_true, -Array.all_eq_true, -Bool.exists_bool, -Bool.forall_bool, Z1, Z2, Z3, Z4, Z5, Z6, Z7, Z8, Z9, Z10, Z11, Z12, Z13, Z14, Z15, Z16, Z17, Z18, Z19, Z20, Z21, Z22, Z23, Z24, Z25, Z26, Z27, Z28, Z29, Z30, Z31, Z32, Z33, Z34, Z35, Z36, Z37, Z38, Z39, Z40, Z41, Z42, Z43, Z44, Z45, Z46, Z47, Z48, Z49, Z50, Z51, Z52, Z53, and_assoc, List.zipIdx, Z54, Z55, Z56, Z57, Z58, Z59, Z60, Z61, Z62, Z63, Z64, Z65, Z66, Z67, Z68, Z69, Z70, Z71, Z72, Z73, Z74, Try.f3, szInstSC, toInstSG, sTraceW, sureTraceU, eqStSU, eqInstSW, markInstSV, markStV, heldStU, Con.gen, Con.makeW, Con.readW]
    refine gensL_at (S := heldStC_S) (some ⟨b4, 0, none⟩, cp4, trN xs, 1) rfl (fun w hm => ⟨mkS_rd (cs := cs9) hm (by simp) hM9, by omega, by omega, by omega⟩) ?_
    rintro v10 rfl
    have hq10 : ¬ (1 + 2 * (trN xs : Int)) < 0 := by omega
    simp (maxSteps := 4000000) -dsimp [-List.all_eq_true, -Array.all_eq_true, -Bool.exists_bool, -Bool.forall_bool, Z1, Z2, Z3, Z4, Z5, Z6, Z7, Z8, Z9, Z10, Z11, Z12, Z13, Z14, Z15, Z16, Z17, Z18, Z19, Z20, Z21, Z22, Z23, Z24, Z25, Z26, Z27, Z28, Z29, Z30, Z31, Z32, Z33, Z34, Z35, Z36, Z37, Z38, Z39, Z40, Z41, Z42, Z43, Z44, Z45, Z46, Z47, Z48, Z49, Z50, Z51, Z52, Z53, and_assoc, List.zipIdx, Z54, Z55, Z56, Z57, Z58, Z59, Z60, Z61, Z62, Z63, Z64, Z65, Z66, Z67, Z68, Z69, Z70, Z71, Z72, Z73, Z74, Try.f3, szInstSC, toInstSG, sTraceW, sureTraceU, eqStSU, eqInstSW, markInstSV, markStV, heldStU, Con.gen, Con.makeW, Con.readW, hq10]
    refine toInstSG_at ⟨h.mono (hle2.trans hle4).fact, hx1, hx2⟩ ?_
    rintro cx11 c11 mem11 ⟨rfl, b11, rs11, As11, rfl, hK11, hl11, rfl⟩
    simp (maxSteps := 4000000) -dsimp [-List.all_eq_true, -Array.all_eq_true, -Bool.exists_bool, -Bool.forall_bool, Z1, Z2, Z3, Z4, Z5, Z6, Z7, Z8, Z9, Z10, Z11, Z12, Z13, Z14, Z15, Z16, Z17, Z18, Z19, Z20, Z21, Z22, Z23, Z24, Z25, Z26, Z27, Z28, Z29, Z30, Z31, Z32, Z33, Z34, Z35, Z36, Z37, Z38, Z39, Z40, Z41, Z42, Z43, Z44, Z45, Z46, Z47, Z48, Z49, Z50, Z51, Z52, Z53, and_assoc, List.zipIdx, Z54, Z55, Z56, Z57, Z58, Z59, Z60, Z61, Z62, Z63, Z64, Z65, Z66, Z67, Z68, Z69, Z70, Z71, Z72, Z73, Z74, Try.f3, szInstSC, toInstSG, sTraceW, sureTraceU, eqStSU, eqInstSW, markInstSV, markStV, heldStU, Con.gen, Con.makeW, Con.readW]
    refine sureTraceU_at (xs := xs) (fun w hm => ⟨hK11.mem hm hl11 hx2 (by simp) (by simp +contextual), hx1⟩) ?_
    intro cx12 b12 cp12 pad12 hle12 g1 g2 g3
    simp (maxSteps := 4000000) -dsimp [-List.all_eq_true, -Array.all_eq_true, -Bool.exists_bool, -Bool.forall_bool, Z1, Z2, Z3, Z4, Z5, Z6, Z7, Z8, Z9, Z10, Z11, Z12, Z13, Z14, Z15, Z16, Z17, Z18, Z19, Z20, Z21, Z22, Z23, Z24, Z25, Z26, Z27, Z28, Z29, Z30, Z31, Z32, Z33, Z34, Z35, Z36, Z37, Z38, Z39, Z40, Z41, Z42, Z43, Z44, Z45, Z46, Z47, Z48, Z49, Z50, Z51, Z52, Z53, and_assoc, List.zipIdx, Z54, Z55, Z56, Z57, Z58, Z59, Z60, Z61, Z62, Z63, Z64, Z65, Z66, Z67, Z68, Z69, Z70, Z71, Z72, Z73, Z74, Try.f3, szInstSC, toInstSG, sTraceW, sureTraceU, eqStSU, eqInstSW, markInstSV, markStV, heldStU, Con.gen, Con.makeW, Con.readW]
    refine gensL_at (S := eqStSC_S) (some ⟨b12, 0, none⟩, cp12, wo, wcap, xs) rfl (fun w hm => ⟨trC_rd (pad := pad12) hm (by simp), (hwd.mono (hle4.trans hle12).fact).mono (fact_cell hm), hx1⟩) ?_
    rintro v13 rfl
    simp (maxSteps := 4000000) -dsimp [-List.all_eq_true, -Array.all_eq_true, -Bool.exists_bool, -Bool.forall_bool, Z1, Z2, Z3, Z4, Z5, Z6, Z7, Z8, Z9, Z10, Z11, Z12, Z13, Z14, Z15, Z16, Z17, Z18, Z19, Z20, Z21, Z22, Z23, Z24, Z25, Z26, Z27, Z28, Z29, Z30, Z31, Z32, Z33, Z34, Z35, Z36, Z37, Z38, Z39, Z40, Z41, Z42, Z43, Z44, Z45, Z46, Z47, Z48, Z49, Z50, Z51, Z52, Z53, and_assoc, List.zipIdx, Z54, Z55, Z56, Z57, Z58, Z59, Z60, Z61, Z62, Z63, Z64, Z65, Z66, Z67, Z68, Z69, Z70, Z71, Z72, Z73, Z74, Try.f3, szInstSC, toInstSG, sTraceW, sureTraceU, eqStSU, eqInstSW, markInstSV, markStV, heldStU, Con.gen, Con.makeW, Con.readW]
    refine gensL_at (S := heldStC_S) (some ⟨b4, 0, none⟩, cp4, trN xs, 1) rfl (fun w hm => ⟨mkS_rd (cs := cs9) hm (by simp) hM9, by omega, by omega, by omega⟩) ?_
    rintro v14 rfl
    have hw := ((hle2.trans hle4).trans hle12).w0
    have hg := ((hle2.trans hle4).trans hle12).g0
    simp (maxSteps := 4000000) -dsimp [-List.all_eq_true, -Array.all_eq_true, -Bool.exists_bool, -Bool.forall_bool, Z1, Z2, Z3, Z4, Z5, Z6, Z7, Z8, Z9, Z10, Z11, Z12, Z13, Z14, Z15, Z16, Z17, Z18, Z19, Z20, Z21, Z22, Z23, Z24, Z25, Z26, Z27, Z28, Z29, Z30, Z31, Z32, Z33, Z34, Z35, Z36, Z37, Z38, Z39, Z40, Z41, Z42, Z43, Z44, Z45, Z46, Z47, Z48, Z49, Z50, Z51, Z52, Z53, and_assoc, List.zipIdx, Z54, Z55, Z56, Z57, Z58, Z59, Z60, Z61, Z62, Z63, Z64, Z65, Z66, Z67, Z68, Z69, Z70, Z71, Z72, Z73, Z74, Try.f3, szInstSC, toInstSG, sTraceW, sureTraceU, eqStSU, eqInstSW, markInstSV, markStV, heldStU, Con.gen, Con.makeW, Con.readW, hq10, hw, hg]
  · have hs1 : szS xs 1048576 < 0 := by omega
    simp (maxSteps := 4000000) -dsimp [-List.all_eq_true, -Array.all_eq_true, -Bool.exists_bool, -Bool.forall_bool, Z1, Z2, Z3, Z4, Z5, Z6, Z7, Z8, Z9, Z10, Z11, Z12, Z13, Z14, Z15, Z16, Z17, Z18, Z19, Z20, Z21, Z22, Z23, Z24, Z25, Z26, Z27, Z28, Z29, Z30, Z31, Z32, Z33, Z34, Z35, Z36, Z37, Z38, Z39, Z40, Z41, Z42, Z43, Z44, Z45, Z46, Z47, Z48, Z49, Z50, Z51, Z52, Z53, and_assoc, List.zipIdx, Z54, Z55, Z56, Z57, Z58, Z59, Z60, Z61, Z62, Z63, Z64, Z65, Z66, Z67, Z68, Z69, Z70, Z71, Z72, Z73, Z74, Try.f3, szInstSC, toInstSG, sTraceW, sureTraceU, eqStSU, eqInstSW, markInstSV, markStV, heldStU, z1, hs1]
def lawSureTraceC_S : Reads Try.prog 3 where
  ι := ((Option Addr) × (Nat) × (List Ins))
  A := fun (i : ((Option Addr) × (Nat) × (List Ins))) => match i with | (o, cap, xs) => [.slice o xs.length cap]
  pre := fun (i : ((Option Addr) × (Nat) × (List Ins))) (F : Facts) => match i with | (o, cap, xs) => RdN F o xs ∧ xs.length ≤ 9223372036854775807
  res := fun (i : ((Option Addr) × (Nat) × (List Ins))) => match i with | (o, cap, xs) => .bool true
  mono := by
    intro i F G hs h
    first | exact h | exact h.mono hs | exact ⟨h.1.mono hs, h.2⟩ | exact ⟨h.1.mono hs, h.2.1.mono hs, h.2.2⟩ | exact ⟨h.1.mono hs, h.2.1.mono hs⟩
  uniq := by
    rintro ⟨o, cap, xs⟩ ⟨o', cap', xs'⟩ F hA h h'
    simp at hA
    (try simp only [Int.natCast_inj] at hA)
    obtain rfl : xs = xs' := RdN.uniq h.1 h'.1 (by simp_all) (by simp_all)
    simp_all
  enter := Try.call3
  h := fun i w hp => lawSureTraceC_c i.1 i.2.1 i.2.2 w (by rw [factF_init]; exact hp)
def lawSureTraceC : Con Try.prog := Con.read lawSureTraceC_S
theorem lawSureTraceC_rw {o : Option Addr} {cap : Nat} {xs : List Ins} {d : Nat} {cx : Cx} {mem : List Blk} {K : C → Prop} (hpre : RdN (nowF cx mem) o xs ∧ xs.length ≤ 9223372036854775807) : ReadV d lawSureTraceC_S cx [.v (.slice o xs.length cap)] mem K = K (.v (.bool true)) := lawSureTraceC_S.eq (o, cap, xs) rfl hpre
end Go.Proofs.Ytfhnbdlkiemaeaa
