/-
  Contract: the law of rungs, walked: the program's rungs are the reference's, and share no memory.
-/
import Derived.Test.YtnnpmopnnamakaaJgw1
import Derived.Test.YtnnpmopnnamakaaJhw1
import Derived.Test.YtnnpmopnnamakaaKbw1
set_option linter.unusedVariables false
set_option linter.unusedSimpArgs false
set_option maxRecDepth 100000
set_option maxHeartbeats 4000000
namespace Go.Proofs.Ytnnpmopnnamakaa
open Go Go.Sx
open List renaming all_eq_true → Y1, zipIdx → Y5
open Bool renaming exists_bool → Y3, forall_bool → Y4
attribute [local simp] Sx.vcsE1 Sx.vcsE2 Sx.vcsE3 Sx.vcsE4 Sx.vcsE5 Sx.vcsE6 Sx.vcsE7 Sx.vcsE8 Sx.vcsE9 Sx.vcsE10 Sx.vcsE11 Sx.vcsE12 Sx.vcsE13 Sx.vcsE14 Sx.vcsE15 Sx.vcsE16 Sx.vcsE17 Sx.vcsE18 Sx.vcsE19 Sx.get Sx.look Sx.put Sx.pureFn Sx.findOrd Sx.unF Sx.dstOk Sx.isFloatT Sx.endVC Sx.resFn Sx.packC Sx.newFn Sx.storeFn Sx.buildFn Sx.known Sx.aggT Sx.cellsC Sx.findCon Sx.allV Sx.partsV Sx.partsC Sx.fillL Sx.exitTo Sx.fAr Sx.eqFn Sx.eqFieldsFn Sx.eqElemsFn Sx.partFn Sx.sliceFn Sx.boundFn Sx.AppV Sx.CopyV Sx.MakeSliceV Sx.NewsV Sx.GrowV Sx.TextV Sx.bytesL Sx.notInt Sx.typeAt Sx.argAt Sx.den Go.undef Go.Value.cells Go.Value.oneCell' Sx.Con.pure Sx.Con.some Sx.Con.read Sx.Con.make Sx.Con.ext Sx.Con.rel Sx.Con.extS Sx.Con.draw Sx.Con.step Sx.C.one Sx.Draws.steps

theorem rdO_flat {F : Facts} {b size : Nat} {rows : List (List Value)} {pad : List C} (hr : ∀ r ∈ rows, r.length = size) (h : ∀ (off : Nat) c, (rows.flatten.map C.v ++ pad)[off]? = some c → F ⟨b, off, none⟩ = some (den c)) : RdO F size (some ⟨b, 0, none⟩) rows := by
  intro i r hr'
  refine ⟨hr r (List.mem_of_getElem? hr'), _, rfl, fun j x hx => ?_⟩
  have hf := flat_at rows i r hr hr' j x hx
  have hl := (List.getElem?_eq_some_iff.1 hf).1
  rw [addr_add, Nat.zero_add]
  refine h _ (.v x) ?_
  rw [List.getElem?_append_left (by rw [List.length_map]; exact hl), List.getElem?_map, hf]
  rfl
theorem encDs_flat (xs : List Dev) : encDs xs = (xs.map encD).flatten := by
  induction xs with
  | nil => rfl
  | cons a l ih =>
    have : encDs (a :: l) = encD a ++ encDs l := rfl
    rw [this, ih]; rfl
theorem rowD_rd {F : Facts} {a : Nat} {xs : List Dev} (h : ∀ (off : Nat) c, (rowD xs xs.length xs.length)[off]? = some c → F ⟨a, off, none⟩ = some (den c)) : RdD F (some ⟨a, 0, none⟩) xs := by
  refine rdO_flat (pad := []) (fun r hr => ?_) fun off c hc => h off c ?_
  · obtain ⟨d, _, rfl⟩ := List.mem_map.1 hr; rfl
  · rw [rowD_end rfl, encDs_flat]; simpa using hc
theorem KL.rd {F : Facts} {b : Nat} {xs : List Ins} {rs : List (List Value)} {As : List Blk} (h : KL xs rs As) (hl : rs.length = xs.length) (ha : ∀ x ∈ xs, x.args.length ≤ 1048576)
    (hF : ∀ (off : Nat) c, (rowZ zI rs xs.length)[off]? = some c → F ⟨b, off, none⟩ = some (den c))
    (hA : ∀ A ∈ As, ∀ (off : Nat) c, A.cells[off]? = some c → F ⟨A.id, off, none⟩ = some (den c)) : RdN F (some ⟨b, 0, none⟩) xs := by
  refine ⟨rs, rdO_flat (pad := []) h.len fun off c hc => hF off c ?_, hl, fun i r x hr hx => ?_⟩
  · rw [rowZ_end hl.symm]; simpa using hc
  · have hi := (List.getElem?_eq_some_iff.1 hr).1
    obtain ⟨a, h1, h2⟩ := h.at' i x hi hx
    rw [hr] at h1
    cases h1
    have := ha x (List.mem_of_getElem? hx)
    exact ⟨_, _, rfl, rowD_rd (hA _ (List.mem_of_getElem? h2)), Nat.le_refl _, by unfold maxLen; omega⟩
theorem KL.mem {cx : Cx} {mem : List Blk} {w : World} {b : Nat} {xs : List Ins} {rs : List (List Value)} {As : List Blk} (hm : MemRel cx mem w) (h : KL xs rs As) (hl : rs.length = xs.length) (ha : ∀ x ∈ xs, x.args.length ≤ 1048576)
    (hk : ⟨b, rowZ zI rs xs.length, 49⟩ ∈ mem) (hA : ∀ A ∈ As, A ∈ mem) : RdN w.cell? (some ⟨b, 0, none⟩) xs :=
  h.rd hl ha (fun off c hc => by
    obtain ⟨q, hq⟩ := List.getElem?_of_mem hk
    exact blk_cell hm hq hc) fun A hAm off c hc => by
    obtain ⟨q, hq⟩ := List.getElem?_of_mem (hA A hAm)
    exact blk_cell hm hq hc
def markInstSV_S : Gens Try.prog 11 where
  ι := List Blk × List Blk × Nat × List Ins × List C × List Blk × Int
  A i := [.v (.slice (some ⟨i.2.2.1, 0, none⟩) i.2.2.2.1.length i.2.2.2.1.length), .v (.int .i64 i.2.2.2.2.2.2)]
  pre i cx mem := markInstSG_S.pre i cx mem
  post i cx mem cx' c mem' := markInstSG_S.post i cx mem cx' c mem'
  enter := markInstSG_S.enter
  h := fun (m1, m2, b, xs, cells, As, q) cx mem w hp hm => markInstSG_S.h (m1, m2, b, xs, cells, As, q) cx mem w hp hm
def markInstSV : Con Try.prog := Con.gen markInstSV_S
theorem markInstSV_at {m1 m2 : List Blk} {b : Nat} {xs : List Ins} {cells : List C} {As : List Blk} {q : Int} {d : Nat} {cx : Cx} {mem : List Blk} {K : Cx → C → List Blk → Prop} (hpre : mem = m1 ++ (⟨b, cells, 49⟩ :: As ++ m2) ∧ KM xs cells As ∧ List.length xs ≤ 1048576 ∧ (∀ x ∈ xs, x.args.length ≤ 1048576) ∧ 0 ≤ q ∧ q ≤ 1048576)
    (h : ∀ (q' : Int) (cells' : List C) (As' : List Blk), 0 ≤ q' → KM xs cells' As' → K cx (.v (.int .i64 q')) (m1 ++ (⟨b, cells', 49⟩ :: As' ++ m2))) : GenV d markInstSV_S cx [.v (.slice (some ⟨b, 0, none⟩) xs.length xs.length), .v (.int .i64 q)] mem K :=
  ⟨(m1, m2, b, xs, cells, As, q), rfl, hpre, by rintro _ _ _ ⟨rfl, q', cs, Bs, rfl, h1, h2, rfl⟩; exact h q' cs Bs h1 h2⟩
def eqInstSW : Con Try.prog := Con.readW eqInstSC_S
theorem eqInstSW_at {o o2 : Option Addr} {cap cap2 : Nat} {xs : List Ins} {d : Nat} {cx : Cx} {mem : List Blk} {K : C → Prop} (h2 : ∀ w, MemRel cx mem w → RdN w.cell? o xs ∧ RdN w.cell? o2 xs ∧ xs.length ≤ 1048576 ∧ (∀ x ∈ xs, x.args.length ≤ 1048576)) (h : K (.v (.bool true))) : RdsW d eqInstSC_S cx [.v (.slice o xs.length cap), .v (.slice o2 xs.length cap2)] mem K :=
  readW_at (S := eqInstSC_S) (o, cap, xs, o2, cap2) rfl h2 h
def eqSSU_S := gensL eqSSC_S
def eqSSU : Con Try.prog := Con.gen eqSSU_S
theorem eqSSU_at {o o2 : Option Addr} {cap cap2 n n2 : Nat} {rs : List (List Ins)} {d : Nat} {cx : Cx} {mem : List Blk} {K : Cx → C → List Blk → Prop} (hn : n = rs.length) (hn2 : n2 = rs.length) (h2 : ∀ w, MemRel cx mem w → RgsAt w.cell? o rs ∧ RgsAt w.cell? o2 rs)
    (h3 : rs.length ≤ 1048576 ∧ (∀ r ∈ rs, r.length ≤ 1048576 ∧ ∀ x ∈ r, x.args.length ≤ 1048576)) (h : K cx (.v (.bool true)) mem) : GenV d eqSSU_S cx [.v (.slice o n cap), .v (.slice o2 n2 cap2)] mem K := by
  subst hn hn2
  exact gensL_at (S := eqSSC_S) (o, cap, rs, o2, cap2) rfl (fun w hm => ⟨(h2 w hm).1, (h2 w hm).2, h3⟩) (by rintro v rfl; exact h)
def heldSSU_S := gensL heldSSC_S
def heldSSU : Con Try.prog := Con.gen heldSSU_S
theorem heldSSU_at {o : Option Addr} {cap n : Nat} {rs : List (List Ins)} {q : Int} {d : Nat} {cx : Cx} {mem : List Blk} {K : Cx → C → List Blk → Prop} (hn : n = rs.length) (h2 : ∀ w, MemRel cx mem w → RgsAt w.cell? o (markR q rs))
    (h3 : rs.flatten.length ≤ 1000 ∧ (∀ r ∈ rs, r.length ≤ 1000 ∧ ∀ x ∈ r, x.args.length ≤ 3) ∧ rs.length ≤ 1048576 ∧ 0 ≤ q ∧ q ≤ 1000) (h : K cx (.v (.int .i64 (endR q rs))) mem) : GenV d heldSSU_S cx [.v (.slice o n cap), .v (.int .i64 q)] mem K := by
  subst hn
  exact gensL_at (S := heldSSC_S) (o, cap, rs, q) rfl (fun w hm => ⟨h2 w hm, h3⟩) (by rintro v rfl; exact h)
def markSSV_S : Gens Try.prog 12 where
  ι := List Blk × List Blk × List Grp × Nat × Nat × List C × Int
  A i := [.v (.slice (some ⟨i.2.2.2.1, 0, none⟩) i.2.2.1.length i.2.2.2.2.1), .v (.int .i64 i.2.2.2.2.2.2)]
  pre i cx mem := markSSP_S.pre i cx mem
  post i cx mem cx' c mem' := markSSP_S.post i cx mem cx' c mem'
  enter := markSSP_S.enter
  h := fun (m1, m2, gs, b, cp, cells, q) cx mem w hp hm => markSSP_S.h (m1, m2, gs, b, cp, cells, q) cx mem w hp hm
def markSSU : Con Try.prog := Con.gen markSSV_S
theorem markSSU_at {m1 m2 : List Blk} {gs : List Grp} {b cp : Nat} {cells : List C} {q : Int} {d : Nat} {cx : Cx} {mem : List Blk} {K : Cx → C → List Blk → Prop}
    (hmem : mem = m1 ++ (⟨b, cells, 26⟩ :: (allB 49 gs ++ m2))) (hC : ∀ (i : Nat) g, gs[i]? = some g → cells[i]? = some (C.v g.hd)) (hok : ∀ g ∈ gs, g.Ok 54 ∧ g.r.length ≤ 1000 ∧ ∀ x ∈ g.r, x.args.length ≤ 3)
    (hl : gs.length ≤ 1048576) (hf : (gs.map Grp.r).flatten.length ≤ 1000) (hq : 0 ≤ q ∧ q ≤ 1000)
    (h : ∀ gs' : List Grp, gs'.map Grp.hd = gs.map Grp.hd → gs'.map Grp.r = markR q (gs.map Grp.r) → (∀ g ∈ gs', g.Ok 54) → K cx (.v (.int .i64 (endR q (gs.map Grp.r)))) (m1 ++ (⟨b, cells, 26⟩ :: (allB 49 gs' ++ m2)))) :
    GenV d markSSV_S cx [.v (.slice (some ⟨b, 0, none⟩) gs.length cp), .v (.int .i64 q)] mem K :=
  ⟨(m1, m2, gs, b, cp, cells, q), rfl, ⟨hmem, hC, hok, hl, hf, hq.1, hq.2⟩, by rintro _ _ _ ⟨rfl, rfl, gs', h1, h2, h3, rfl⟩; exact h gs' h1 h2 h3⟩
theorem hd_HB {gs gs' : List Grp} (h : gs'.map Grp.hd = gs.map Grp.hd) : HB gs' = HB gs := by
  have e : ∀ l : List Grp, HB l = (l.map Grp.hd).map C.v := fun l => by simp [HB]
  rw [e, e, h]
theorem lawSureRungsC_c (o : Option Addr) (cap : Nat) (xs : List Ins) (w : World) (hpre : RdN (factF ⟨w, [], w, []⟩) o xs ∧ xs.length ≤ 9223372036854775807) : Calls Try.prog 3 #[.slice o xs.length cap] w fun e w' => e = .returned (.bool true) ∧ RowKit.Below w.heap.size w w' := by
  refine (plain_of_vcs ⟨[szInstSC, toInstSG, sSureRungsW, iSureRungsU, eqSSU, eqInstSW, markInstSV, markSSU, heldSSU], []⟩ hmx Try.func3 rfl (by kernel_rfl) (args := [.slice o xs.length cap]) (by simp [Try.ntmps3]) w (· = .bool true) 400 ?_).mono fun e w' ⟨v, h1, h2, h3⟩ => ⟨h2 ▸ h1, h3⟩
  obtain ⟨h, hl⟩ := hpre
  have z1 := fun d mem K => szInstSC_rw (cap := cap) (d := d) (cx := ⟨w, [], w, []⟩) (mem := mem) (K := K) (left := 1048576) ⟨h.mono (sub_now _ _), by decide, by decide, hl⟩
  by_cases hs : 0 ≤ szS xs 1048576
  · obtain ⟨hx1, hx2⟩ := szS_ok (by decide) hs
    have hs1 : ¬ szS xs 1048576 < 0 := by omega
    have hxm : xs.length ≤ maxLen := by unfold maxLen; omega
    obtain ⟨hb1, hb2⟩ := rungs_bd xs
    have hb3 := rungs_count xs
    have hb4 : ∀ r ∈ rungsN xs, r.length ≤ 1048576 ∧ ∀ x ∈ r, x.args.length ≤ 1048576 := fun r hr => by
      obtain ⟨g1, g2⟩ := hb2 r hr
      exact ⟨by omega, fun x hx => by have := g2 x hx; omega⟩
    simp (maxSteps := 4000000) -dsimp [-Y1, -Array.all_eq_true, -Y3, -Y4, and_assoc, Y5, Try.f3, szInstSC, toInstSG, sSureRungsW, iSureRungsU, eqSSU, eqInstSW, markInstSV, markSSU, heldSSU, z1, hs1, Con.gen, Con.makeW, Con.readW]
    refine toInstSG_at ⟨h, hx1, hx2⟩ ?_
    rintro cx1 c1 mem1 ⟨rfl, b1, rs1, As1, rfl, hK1, hl1, rfl⟩
    simp (maxSteps := 4000000) -dsimp [-Y1, -Array.all_eq_true, -Y3, -Y4, and_assoc, Y5, Try.f3, szInstSC, toInstSG, sSureRungsW, iSureRungsU, eqSSU, eqInstSW, markInstSV, markSSU, heldSSU, Con.gen, Con.makeW, Con.readW]
    refine makeW_at (S := sSureRungs_S) (some ⟨b1, 0, none⟩, xs.length, xs) rfl (fun w hm => ⟨hK1.mem hm hl1 hx2 (by simp) (by simp +contextual), hx1, hx2, Nat.le_refl _, hxm⟩) ?_
    rintro cx2 v2 hle2 hv2
    obtain ⟨wo, wcap, rfl, hwd, _, _⟩ := (show IsRungs _ _ (rungsN xs) from hv2).at
    replace hwd := hwd.mono (sub_new _)
    simp (maxSteps := 4000000) -dsimp [-Y1, -Array.all_eq_true, -Y3, -Y4, and_assoc, Y5, Try.f3, szInstSC, toInstSG, sSureRungsW, iSureRungsU, eqSSU, eqInstSW, markInstSV, markSSU, heldSSU, Con.gen, Con.makeW, Con.readW]
    refine toInstSG_at ⟨h.mono hle2.fact, hx1, hx2⟩ ?_
    rintro cx3 c3 mem3 ⟨rfl, b3, rs3, As3, rfl, hK3, hl3, rfl⟩
    simp (maxSteps := 4000000) -dsimp [-Y1, -Array.all_eq_true, -Y3, -Y4, and_assoc, Y5, Try.f3, szInstSC, toInstSG, sSureRungsW, iSureRungsU, eqSSU, eqInstSW, markInstSV, markSSU, heldSSU, Con.gen, Con.makeW, Con.readW]
    refine iSureRungsU_at (xs := xs) rfl rfl (fun w hm => hK3.mem hm hl3 hx2 (by simp) (by simp +contextual)) ⟨hx1, hx2, Nat.le_refl _, hxm⟩ ?_
    rintro cx4 c4 ex4 hle4 ⟨gs, b4, cp4, pad4, hrs, hgo, rfl, rfl, k1, k2⟩
    have hgn : gs.length = (rungsN xs).length := by rw [hrs]; simp
    have hgl : gs.length ≤ 1048576 := by omega
    rw [hrs] at hb1 hb2 hb3 hb4 hwd
    have hmn := markR_len 1 (gs.map Grp.r)
    have hen := (endR_bd 1 (gs.map Grp.r) fun r hr x hx => (hb2 r hr).2 x hx).1
    have hgk : ∀ g ∈ gs, g.Ok 54 ∧ g.r.length ≤ 1000 ∧ ∀ x ∈ g.r, x.args.length ≤ 3 := fun g hg => ⟨hgo g hg, hb2 g.r (List.mem_map.2 ⟨g, hg, rfl⟩)⟩
    have hrl : (gs.map Grp.r).length = gs.length := by simp
    have hrn : (rungsN xs).length = (gs.map Grp.r).length := by rw [hrs]
    have hw4 := hwd.mono hle4.fact
    simp (maxSteps := 4000000) -dsimp [-Y1, -Array.all_eq_true, -Y3, -Y4, and_assoc, Y5, Try.f3, szInstSC, toInstSG, sSureRungsW, iSureRungsU, eqSSU, eqInstSW, markInstSV, markSSU, heldSSU, Con.gen, Con.makeW, Con.readW]
    refine eqSSU_at (rs := gs.map Grp.r) hrl.symm hrn (fun w hm => ⟨gs_mem (ts := 26) (ti := 49) (pad := pad4) hm hgo (by simp) (by simp +contextual), hw4.mono (fact_cell hm)⟩) ⟨by omega, hb4⟩ ?_
    simp (maxSteps := 4000000) -dsimp [-Y1, -Array.all_eq_true, -Y3, -Y4, and_assoc, Y5, Try.f3, szInstSC, toInstSG, sSureRungsW, iSureRungsU, eqSSU, eqInstSW, markInstSV, markSSU, heldSSU, Con.gen, Con.makeW, Con.readW]
    refine toInstSG_at ⟨h.mono (hle2.trans hle4).fact, hx1, hx2⟩ ?_
    rintro cx6 c6 mem6 ⟨rfl, b6, rs6, As6, rfl, hK6, hl6, rfl⟩
    simp (maxSteps := 4000000) -dsimp [-Y1, -Array.all_eq_true, -Y3, -Y4, and_assoc, Y5, Try.f3, szInstSC, toInstSG, sSureRungsW, iSureRungsU, eqSSU, eqInstSW, markInstSV, markSSU, heldSSU, Con.gen, Con.makeW, Con.readW]
    refine eqInstSW_at (fun w hm => ⟨hK3.mem hm hl3 hx2 (by simp) (by simp +contextual), hK6.mem hm hl6 hx2 (by simp) (by simp +contextual), hx1, hx2⟩) ?_
    simp (maxSteps := 4000000) -dsimp [-Y1, -Array.all_eq_true, -Y3, -Y4, and_assoc, Y5, Try.f3, szInstSC, toInstSG, sSureRungsW, iSureRungsU, eqSSU, eqInstSW, markInstSV, markSSU, heldSSU, Con.gen, Con.makeW, Con.readW]
    refine markInstSV_at (m1 := ⟨b1, rowZ zI rs1 xs.length, 49⟩ :: As1) (m2 := (⟨b4, HB gs ++ pad4, 26⟩ :: allB 49 gs) ++ (⟨b6, rowZ zI rs6 xs.length, 49⟩ :: As6)) ⟨by simp, hK3.km hl3, hx1, hx2, by omega, by omega⟩ ?_
    intro q7 cs7 As7 hq7 hK7
    have hq7' : ¬ q7 < 0 := by omega
    simp (maxSteps := 4000000) -dsimp [-Y1, -Array.all_eq_true, -Y3, -Y4, and_assoc, Y5, Try.f3, szInstSC, toInstSG, sSureRungsW, iSureRungsU, eqSSU, eqInstSW, markInstSV, markSSU, heldSSU, Con.gen, Con.makeW, Con.readW, hq7']
    refine eqSSU_at (rs := gs.map Grp.r) hrl.symm hrn (fun w hm => ⟨gs_mem (ts := 26) (ti := 49) (pad := pad4) hm hgo (by simp) (by simp +contextual), hw4.mono (fact_cell hm)⟩) ⟨by omega, hb4⟩ ?_
    simp (maxSteps := 4000000) -dsimp [-Y1, -Array.all_eq_true, -Y3, -Y4, and_assoc, Y5, Try.f3, szInstSC, toInstSG, sSureRungsW, iSureRungsU, eqSSU, eqInstSW, markInstSV, markSSU, heldSSU, Con.gen, Con.makeW, Con.readW]
    refine markSSU_at (m1 := ⟨b1, rowZ zI rs1 xs.length, 49⟩ :: (As1 ++ ⟨b3, cs7, 49⟩ :: As7)) (m2 := ⟨b6, rowZ zI rs6 xs.length, 49⟩ :: As6) (gs := gs) (cells := HB gs ++ pad4) (by simp) (fun i g hg => HB_at hg) hgk hgl hb1 ⟨by decide, by decide⟩ ?_
    intro gs9 d1 d2 d3
    have hHB := hd_HB d1
    simp (maxSteps := 4000000) -dsimp [-Y1, -Array.all_eq_true, -Y3, -Y4, and_assoc, Y5, Try.f3, szInstSC, toInstSG, sSureRungsW, iSureRungsU, eqSSU, eqInstSW, markInstSV, markSSU, heldSSU, Con.gen, Con.makeW, Con.readW]
    refine heldSSU_at (rs := gs.map Grp.r) hrl.symm (fun w hm => by
      rw [← d2]
      refine gs_mem (ts := 26) (ti := 49) (pad := pad4) hm d3 (by rw [hHB]; simp) (by simp +contextual)) ⟨hb1, hb2, by omega, by decide, by decide⟩ ?_
    have hn10 : ¬ endR 1 (gs.map Grp.r) < 0 := by omega
    obtain ⟨en, hen'⟩ : ∃ en, en = endR 1 (gs.map Grp.r) := ⟨_, rfl⟩
    rw [← hen'] at hn10 ⊢
    simp (maxSteps := 4000000) -dsimp [-Y1, -Array.all_eq_true, -Y3, -Y4, and_assoc, Y5, Try.f3, szInstSC, toInstSG, sSureRungsW, iSureRungsU, eqSSU, eqInstSW, markInstSV, markSSU, heldSSU, Con.gen, Con.makeW, Con.readW, hn10]
    refine toInstSG_at ⟨h.mono (hle2.trans hle4).fact, hx1, hx2⟩ ?_
    rintro cx11 c11 mem11 ⟨rfl, b11, rs11, As11, rfl, hK11, hl11, rfl⟩
    simp (maxSteps := 4000000) -dsimp [-Y1, -Array.all_eq_true, -Y3, -Y4, and_assoc, Y5, Try.f3, szInstSC, toInstSG, sSureRungsW, iSureRungsU, eqSSU, eqInstSW, markInstSV, markSSU, heldSSU, Con.gen, Con.makeW, Con.readW]
    refine iSureRungsU_at (xs := xs) rfl rfl (fun w hm => hK11.mem hm hl11 hx2 (by simp) (by simp +contextual)) ⟨hx1, hx2, Nat.le_refl _, hxm⟩ ?_
    rintro cx12 c12 ex12 hle12 ⟨gs12, b12, cp12, pad12, hrs12, hgo12, rfl, rfl, k121, k122⟩
    have hrl12 : gs12.length = (gs12.map Grp.r).length := by simp
    have hgg : gs12.map Grp.r = gs.map Grp.r := by rw [← hrs12, hrs]
    rw [hgg] at hrl12
    simp (maxSteps := 4000000) -dsimp [-Y1, -Array.all_eq_true, -Y3, -Y4, and_assoc, Y5, Try.f3, szInstSC, toInstSG, sSureRungsW, iSureRungsU, eqSSU, eqInstSW, markInstSV, markSSU, heldSSU, Con.gen, Con.makeW, Con.readW]
    refine eqSSU_at (rs := gs.map Grp.r) hrl12 hrn (fun w hm => ⟨by rw [← hgg]; exact gs_mem (ts := 26) (ti := 49) (pad := pad12) hm hgo12 (by simp) (by simp +contextual), (hw4.mono hle12.fact).mono (fact_cell hm)⟩) ⟨by omega, hb4⟩ ?_
    simp (maxSteps := 4000000) -dsimp [-Y1, -Array.all_eq_true, -Y3, -Y4, and_assoc, Y5, Try.f3, szInstSC, toInstSG, sSureRungsW, iSureRungsU, eqSSU, eqInstSW, markInstSV, markSSU, heldSSU, Con.gen, Con.makeW, Con.readW]
    refine heldSSU_at (rs := gs.map Grp.r) hrl.symm (fun w hm => by
      rw [← d2]
      refine gs_mem (ts := 26) (ti := 49) (pad := pad4) hm d3 (by rw [hHB]; simp) (by simp +contextual)) ⟨hb1, hb2, by omega, by decide, by decide⟩ ?_
    rw [← hen']
    have hw := ((hle2.trans hle4).trans hle12).w0
    have hg := ((hle2.trans hle4).trans hle12).g0
    simp (maxSteps := 4000000) -dsimp [-Y1, -Array.all_eq_true, -Y3, -Y4, and_assoc, Y5, Try.f3, szInstSC, toInstSG, sSureRungsW, iSureRungsU, eqSSU, eqInstSW, markInstSV, markSSU, heldSSU, Con.gen, Con.makeW, Con.readW, hn10, hw, hg]
  · have hs1 : szS xs 1048576 < 0 := by omega
    simp (maxSteps := 4000000) -dsimp [-Y1, -Array.all_eq_true, -Y3, -Y4, and_assoc, Y5, Try.f3, szInstSC, toInstSG, sSureRungsW, iSureRungsU, eqSSU, eqInstSW, markInstSV, markSSU, heldSSU, z1, hs1]
end Go.Proofs.Ytnnpmopnnamakaa
