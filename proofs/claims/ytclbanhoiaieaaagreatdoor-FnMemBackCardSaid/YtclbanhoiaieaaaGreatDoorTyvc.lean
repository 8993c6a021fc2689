/-
  Contracts: operands read out of texts, by the program.
-/
import Derived.Test.YtclbanhoiaieaaaGreatDoorTivc
import Derived.Test.YtclbanhoiaieaaaGreatDoorTgvc
import Derived.Test.YtclbanhoiaieaaaGreatDoorSgvc
import Derived.WalkSmall
import Derived.Lib.AtoiErrMem
set_option linter.unusedVariables false
set_option linter.unusedSimpArgs false
set_option maxRecDepth 100000
set_option maxHeartbeats 4000000
namespace Go.Proofs.YtclbanhoiaieaaaGreatDoor
open Go Go.Sx

structure TX (F : Facts) : Prop where
  len : ∃ m, F ⟨5, 0, none⟩ = some (.int .i64 m)
  syn : ∃ ev, F ⟨6, 0, none⟩ = some ev ∧ (ev = .nilIface ∨ ∃ t p, ev = .iface t p)
  rng : ∃ ev, F ⟨7, 0, none⟩ = some ev ∧ (ev = .nilIface ∨ ∃ t p, ev = .iface t p)
theorem TX.mono {F G : Facts} (h : TX F) (hs : Sub F G) : TX G := by
  obtain ⟨⟨m, h1⟩, ⟨e, h2, h3⟩, ⟨e', h4, h5⟩⟩ := h
  exact ⟨⟨m, hs _ _ h1⟩, ⟨e, hs _ _ h2, h3⟩, ⟨e', hs _ _ h4, h5⟩⟩
def cut_S : Reads Tryz.prog 111 where
  ι := Str × Str
  A i := [.string (txt i.1), .string (txt i.2)]
  pre i F := TX F ∧ i.1.length ≤ 2000000
  res i := .tuple #[.string (txt (Lib.cut i.1 i.2).1), .string (txt (Lib.cut i.1 i.2).2.1), .bool (Lib.cut i.1 i.2).2.2]
  mono i F G hs h := ⟨h.1.mono hs, h.2⟩
  uniq := by
    rintro ⟨a, b⟩ ⟨c, d⟩ F hA _ _
    simp only [List.cons.injEq, Value.string.injEq, txt_inj, and_true] at hA
    rw [hA.1, hA.2]
  enter := Tryz.call111
  h := by
    rintro ⟨s, p⟩ w ⟨ht, hl⟩
    simp only at hl ⊢
    obtain ⟨m, hm⟩ := ht.len
    refine (Tryz.strings_Cut (txt s) (txt p) m w (by rw [txt_size]; omega) hm).mono ?_
    rintro e w' ⟨rfl, n, rfl⟩
    exact ⟨rfl, below_drewN (RowKit.Below.refl _ _) n⟩
def cutC : Con Tryz.prog := Con.read cut_S
def idxB_S : Reads Tryz.prog 196 where
  ι := Str × UInt8
  A i := [.string (txt i.1), .int .u8 i.2.toNat]
  pre i F := True
  res i := .int .i64 (Lib.indexByte i.1 i.2)
  mono i F G hs h := h
  uniq := by
    rintro ⟨a, b⟩ ⟨c, d⟩ F hA _ _
    simp only [List.cons.injEq, Value.string.injEq, Value.int.injEq, txt_inj, and_true, true_and] at hA
    have : b = d := by
      have := hA.2
      exact UInt8.toNat_inj.1 (by omega)
    rw [hA.1, this]
  enter := Tryz.call196
  h := by
    rintro ⟨s, c⟩ w _
    refine (Tryz.strings_IndexByte (txt s) (c.toNat : Int) w).mono ?_
    rintro e w' ⟨rfl, rfl⟩
    refine ⟨?_, below_same⟩
    simp [txt]
def idxBC : Con Tryz.prog := Con.read idxB_S
theorem rows_at {w : World} {b off : Nat} {zs : List Str} (h : RdL w.cell? (some ⟨b, off, none⟩) (zs.map fun z => .string (txt z))) : ∀ j, j < (zs.map txt).length → w.cell? ⟨b, off + j, none⟩ = some (.string ((zs.map txt).getD j ByteArray.empty)) := by
  intro j hj
  rw [List.length_map] at hj
  obtain ⟨a, ha, hc⟩ := h j (.string (txt (zs[j]'hj))) (by simp [hj])
  cases ha
  rw [addr_add] at hc
  rw [hc]
  simp [hj]
theorem idxFrom_txt (x : Str) : ∀ (zs : List Str) (i : Nat), Lib.idxFromS (zs.map txt) (txt x) i = if idxW x zs = -1 then -1 else (i : Int) + idxW x zs
  | [], i => by simp [Lib.idxFromS, idxW]
  | z :: zs, i => by
    rw [List.map_cons, Lib.idxFromS, idxW]
    have hb := idxW_bd x zs
    by_cases h : z = x
    · subst h
      simp
    · have h' : ¬ txt z = txt x := fun e => h (txt_inj.1 e)
      rw [if_neg h', if_neg h, idxFrom_txt x zs (i + 1)]
      by_cases h2 : idxW x zs = -1
      · rw [if_pos h2, if_pos h2]; simp
      · rw [if_neg h2, if_neg h2, if_neg (by omega)]; omega
theorem idxOf_txt (x : Str) (zs : List Str) : Lib.idxOfS (zs.map txt) (txt x) = idxW x zs := by
  unfold Lib.idxOfS
  rw [idxFrom_txt]
  split
  · rename_i h; exact h.symm
  · simp
theorem txts_uniq {F : Facts} {a : Addr} {zs ys : List Str} (h : RdL F (some a) (zs.map fun z => .string (txt z))) (h' : RdL F (some a) (ys.map fun z => .string (txt z))) (hl : zs.length = ys.length) : zs = ys := by
  have := h.uniq h' (by simpa using hl)
  have h2 := congrArg (List.map fun v => match v with | .string s => s.data.toList | _ => []) this
  simp only [List.map_map] at h2
  have h3 : ((fun v : Value => match v with | .string s => s.data.toList | _ => []) ∘ fun z : Str => Value.string (txt z)) = id := rfl
  rw [h3] at h2
  simpa using h2
def idxS_S : Reads Tryz.prog 112 where
  ι := Addr × Nat × List Str × Str
  A i := [.slice (some i.1) i.2.2.1.length i.2.1, .string (txt i.2.2.2)]
  pre i F := RdL F (some i.1) (i.2.2.1.map fun z => .string (txt z)) ∧ i.1.spot = none ∧ i.2.2.1.length ≤ 1000000
  res i := .int .i64 (idxW i.2.2.2 i.2.2.1)
  mono i F G hs h := ⟨RdL.mono h.1 hs, h.2⟩
  uniq := by
    rintro ⟨a, c, zs, x⟩ ⟨a', c', ys, y⟩ F hA h h'
    simp only [List.cons.injEq, Value.slice.injEq, Value.string.injEq, txt_inj, Option.some.injEq, and_true] at hA
    obtain ⟨⟨rfl, hl, rfl⟩, rfl⟩ := hA
    rw [txts_uniq h.1 h'.1 (by simpa using hl)]
  enter := Tryz.call112
  h := by
    rintro ⟨⟨b, off, sp⟩, c, zs, x⟩ w ⟨h1, h2, h3⟩
    simp only at h1 h2 h3 ⊢
    subst h2
    refine (Tryz.slices_Index_string b off zs.length c (zs.map txt) (txt x) w (by simp) (by omega) (rows_at h1)).mono ?_
    rintro e w' ⟨rfl, rfl⟩
    refine ⟨?_, below_same⟩
    rw [List.take_of_length_le (by simp), idxOf_txt]
def idxSC : Con Tryz.prog := Con.read idxS_S
def hasS_S : Reads Tryz.prog 195 where
  ι := Addr × Nat × List Str × Str
  A i := [.slice (some i.1) i.2.2.1.length i.2.1, .string (txt i.2.2.2)]
  pre i F := RdL F (some i.1) (i.2.2.1.map fun z => .string (txt z)) ∧ i.1.spot = none ∧ i.2.2.1.length ≤ 1000000
  res i := .bool (decide (0 ≤ idxW i.2.2.2 i.2.2.1))
  mono i F G hs h := ⟨RdL.mono h.1 hs, h.2⟩
  uniq := by
    rintro ⟨a, c, zs, x⟩ ⟨a', c', ys, y⟩ F hA h h'
    simp only [List.cons.injEq, Value.slice.injEq, Value.string.injEq, txt_inj, Option.some.injEq, and_true] at hA
    obtain ⟨⟨rfl, hl, rfl⟩, rfl⟩ := hA
    rw [txts_uniq h.1 h'.1 (by simpa using hl)]
  enter := Tryz.call195
  h := by
    rintro ⟨⟨b, off, sp⟩, c, zs, x⟩ w ⟨h1, h2, h3⟩
    simp only at h1 h2 h3 ⊢
    subst h2
    refine (Tryz.slices_Contains_string b off zs.length c (zs.map txt) (txt x) w (by simp) (by omega) (rows_at h1)).mono ?_
    rintro e w' ⟨rfl, rfl⟩
    refine ⟨?_, below_same⟩
    rw [List.take_of_length_le (by simp)]
    unfold Lib.containsS
    rw [idxOf_txt]
def hasSC : Con Tryz.prog := Con.read hasS_S
def atoi_S : Rels Tryz.prog 197 where
  ι := Str
  A i := [.string (txt i)]
  pre i F := TX F ∧ i.length ≤ 2000000
  post i v := ∃ e, v = .tuple #[.int .i64 (atoiV i), e]
  mono i F G hs h := ⟨h.1.mono hs, h.2⟩
  enter := Tryz.call197
  h := by
    rintro s w ⟨ht, hl⟩
    rcases hq : Lib.atoiAll s with n | _ | _
    ·
      have e0 : atoiV s = n := by unfold atoiV; rw [hq]
      refine (Tryz.strconv_Atoi_ok (txt s) (by rw [txt_size]; omega) n hq w).mono ?_
      rintro e w' ⟨rfl, hw⟩
      refine ⟨_, rfl, ⟨_, by rw [e0]⟩, ?_⟩
      rcases hw with rfl | ⟨t, rfl⟩
      · exact below_same
      · exact Lib.bytesWorld_below _ _ _
    ·
      obtain ⟨ev, h1, h2⟩ := ht.syn
      have e0 : atoiV s = 0 := by unfold atoiV; rw [hq]
      refine (Tryz.strconv_Atoi_syntax (txt s) (by rw [txt_size]; omega) hq ev w h1 h2).mono ?_
      rintro e w' ⟨N, rfl, _, _, hb⟩
      exact ⟨_, rfl, ⟨_, by rw [e0]⟩, hb⟩
    ·
      obtain ⟨ev, h1, h2⟩ := ht.rng
      have e0 : atoiV s = Lib.atoiSat s := by unfold atoiV; rw [hq]
      refine (Tryz.strconv_Atoi_range (txt s) (by rw [txt_size]; omega) hq ev w h1 h2).mono ?_
      rintro e w' ⟨N, rfl, _, _, hb⟩
      exact ⟨_, rfl, ⟨_, by rw [e0]; rfl⟩, hb⟩
def atoiC : Con Tryz.prog := Con.rel atoi_S
end Go.Proofs.YtclbanhoiaieaaaGreatDoor
namespace Go.Proofs.YtclbanhoiaieaaaGreatDoor
open Go Go.Sx
attribute [local simp] Sx.vcsE1 Sx.vcsE2 Sx.vcsE3 Sx.vcsE4 Sx.vcsE5 Sx.vcsE6 Sx.vcsE7 Sx.vcsE8 Sx.vcsE9 Sx.vcsE10 Sx.vcsE11 Sx.vcsE12 Sx.vcsE13 Sx.vcsE14 Sx.vcsE15 Sx.vcsE16 Sx.vcsE17 Sx.vcsE18 Sx.vcsE19 Sx.get Sx.look Sx.put Sx.pureFn Sx.findOrd Sx.unF Sx.dstOk Sx.isFloatT Sx.endVC Sx.resFn Sx.packC Sx.newFn Sx.storeFn Sx.buildFn Sx.known Sx.aggT Sx.cellsC Sx.findCon Sx.allV Sx.partsV Sx.partsC Sx.fillL Sx.exitTo Sx.fAr Sx.eqFn Sx.eqFieldsFn Sx.eqElemsFn Sx.partFn Sx.sliceFn Sx.boundFn Sx.AppV Sx.CopyV Sx.MakeSliceV Sx.NewsV Sx.GrowV Sx.TextV Sx.bytesL Sx.notInt Sx.typeAt Sx.argAt Sx.den Go.undef Go.Value.cells Go.Value.oneCell' Sx.Con.pure Sx.Con.some Sx.Con.read Sx.Con.make Sx.Con.ext Sx.Con.rel Sx.Con.extS Sx.Con.draw Sx.Con.step Sx.C.one Sx.Draws.steps

structure TR (F : Facts) : Prop where
  t : TT F
  x : TX F
theorem TR.mono {F G : Facts} (h : TR F) (hs : Sub F G) : TR G := ⟨h.t.mono hs, h.x.mono hs⟩
theorem iDevReadC_c (s : Str) (w : World) (hpre : TR (factF ⟨w, [], w, []⟩) ∧ s.length ≤ 1100000) : Calls Tryz.prog 131 #[.string (txt s)] w fun e w' => e = .returned (devTup (devRd s)) ∧ RowKit.Below w.heap.size w w' := by
  refine (plain_of_vcs ⟨[cutC, hasSC, idxSC, idxBC, atoiC, iDevTextC], []⟩ hmx Tryz.func131 rfl (by kernel_rfl) (args := [.string (txt s)]) (by simp [Tryz.ntmps131]) w (· = devTup (devRd s)) 400 ?_).mono fun e w' ⟨v, h1, h2, h3⟩ => ⟨h2 ▸ h1, h3⟩
  obtain ⟨ht, hl⟩ := hpre
  have hcut : Lib.cut s [46] = cutAt 46 s := cut_one 46 s
  have a1 : ∀ (d : Nat) (mem : List Blk) (K : C → Prop), ReadV d cut_S ⟨w, [], w, []⟩ [.v (.string (txt s)), .v (.string (txt [46]))] mem K = K (.v (.tuple #[.string (txt (cutAt 46 s).1), .string (txt (cutAt 46 s).2.1), .bool (cutAt 46 s).2.2])) := fun d mem K => by
    have := cut_S.eq (d := d) (cx := ⟨w, [], w, []⟩) (args := [.v (.string (txt s)), .v (.string (txt [46]))]) (mem := mem) (K := K) (s, [46]) rfl ⟨(ht.mono (sub_now _ _)).x, Nat.le_trans hl (by decide)⟩
    rw [this, ← hcut]
    rfl
  have a2 : ∀ (d : Nat) (mem : List Blk) (K : C → Prop), ReadV d hasS_S ⟨w, [], w, []⟩ [.v (.slice (some ⟨1, 0, none⟩) 4 4), .v (.string (txt s))] mem K = K (.v (.bool (decide (0 ≤ idxW s words4)))) := fun d mem K =>
    hasS_S.eq (d := d) (cx := ⟨w, [], w, []⟩) (args := [.v (.slice (some ⟨1, 0, none⟩) 4 4), .v (.string (txt s))]) (mem := mem) (K := K) (⟨1, 0, none⟩, 4, words4, s) rfl ⟨(ht.mono (sub_now _ _)).t.v, rfl, show words4.length ≤ 1000000 by decide⟩
  have a3 : ∀ (d : Nat) (mem : List Blk) (K : C → Prop), ReadV d idxS_S ⟨w, [], w, []⟩ [.v (.slice (some ⟨1, 0, none⟩) 4 4), .v (.string (txt s))] mem K = K (.v (.int .i64 (idxW s words4))) := fun d mem K =>
    idxS_S.eq (d := d) (cx := ⟨w, [], w, []⟩) (args := [.v (.slice (some ⟨1, 0, none⟩) 4 4), .v (.string (txt s))]) (mem := mem) (K := K) (⟨1, 0, none⟩, 4, words4, s) rfl ⟨(ht.mono (sub_now _ _)).t.v, rfl, show words4.length ≤ 1000000 by decide⟩
  have a4 : ∀ (x : UInt8) (d : Nat) (mem : List Blk) (K : C → Prop), ReadV d idxB_S ⟨w, [], w, []⟩ [.v (.string (txt letters)), .v (.int .u8 x.toNat)] mem K = K (.v (.int .i64 (idxL x letters))) := fun x d mem K => by
    have := idxB_S.eq (d := d) (cx := ⟨w, [], w, []⟩) (args := [.v (.string (txt letters)), .v (.int .u8 x.toNat)]) (mem := mem) (K := K) (letters, x) rfl trivial
    rw [this]
    show K (.v (.int .i64 (Lib.indexByte letters x))) = _
    rw [idxL_lib]
  have t0 := fun (k n p : Int) (d : Nat) (mem : List Blk) (K : C → Prop) => iDevTextC_rw (k := k) (n := n) (p := p) (d := d) (cx := ⟨w, [], w, []⟩) (mem := mem) (K := K) (ht.mono (sub_now _ _)).t
  have e46 : (⟨#[46]⟩ : ByteArray) = txt [46] := rfl
  have eL : (⟨#[88, 89, 77, 83, 69, 71, 84, 67, 68, 82]⟩ : ByteArray) = txt letters := rfl
  cases s with
  | nil =>
    rw [devRd_nil]
    have c1 : cutAt 46 [] = ([], [], false) := rfl
    rw [c1] at a1
    simp (maxSteps := 4000000) -dsimp [-List.all_eq_true, -Array.all_eq_true, -Bool.exists_bool, -Bool.forall_bool, and_assoc, List.zipIdx, Tryz.f131, cutC, hasSC, idxSC, idxBC, atoiC, iDevTextC, a1, a2, a3, e46, txt_eta, devTup]
  | cons x r =>
    simp only [List.length_cons] at hl
    have hcl := cutAt_len 46 (x :: r)
    simp only [List.length_cons] at hcl
    by_cases hw : 0 ≤ idxW (x :: r) words4
    · rw [word_rd hw]
      simp (maxSteps := 4000000) -dsimp [-List.all_eq_true, -Array.all_eq_true, -Bool.exists_bool, -Bool.forall_bool, and_assoc, List.zipIdx, Tryz.f131, cutC, hasSC, idxSC, idxBC, atoiC, iDevTextC, a1, a2, a3, e46, hw, txt_eta, devTup]
    by_cases hx : 0 ≤ idxL x letters
    · have hg := devRd_by (List.cons_ne_nil x r) (guess_letter hw hx)
      have hb := idxL_bd x letters
      have hb2 : letters.length = 10 := rfl
      have w1 : IntKind.i64.wrap (1 + idxL x letters) = 1 + idxL x letters := wrap_i64 (by omega) (by omega)
      rw [hg]
      simp (maxSteps := 4000000) -dsimp [-List.all_eq_true, -Array.all_eq_true, -Bool.exists_bool, -Bool.forall_bool, and_assoc, List.zipIdx, Tryz.f131, cutC, hasSC, idxSC, idxBC, atoiC, iDevTextC, a1, a2, a3, a4, e46, eL, hw, hx, txt_eta, txt_get, w1]
      intro b0 b1
      refine ⟨by omega, r, rfl, ⟨(ht.mono (sub_now _ _)).x, by omega⟩, ?_⟩
      rintro v ⟨e, rfl⟩
      by_cases hq : devL ⟨1 + idxL x letters, atoiV r, 0⟩ = x :: r
      · rw [if_pos hq]
        simp (maxSteps := 4000000) -dsimp [-List.all_eq_true, -Array.all_eq_true, -Bool.exists_bool, -Bool.forall_bool, and_assoc, List.zipIdx, Tryz.f131, cutC, hasSC, idxSC, idxBC, atoiC, iDevTextC, a4, eL, t0, txt_eta, txt_get, w1, hq, devTup]
      · rw [if_neg hq]
        simp (maxSteps := 4000000) -dsimp [-List.all_eq_true, -Array.all_eq_true, -Bool.exists_bool, -Bool.forall_bool, and_assoc, List.zipIdx, Tryz.f131, cutC, hasSC, idxSC, idxBC, atoiC, iDevTextC, a4, eL, t0, txt_eta, txt_get, w1, hq, devTup]
    cases hc : (cutAt 46 (x :: r)).2.2
    · have hg := devRd_by (List.cons_ne_nil x r) (guess_int hw hx hc)
      rw [hg]
      simp (maxSteps := 4000000) -dsimp [-List.all_eq_true, -Array.all_eq_true, -Bool.exists_bool, -Bool.forall_bool, and_assoc, List.zipIdx, Tryz.f131, cutC, hasSC, idxSC, idxBC, atoiC, iDevTextC, a1, a2, a3, a4, e46, eL, hw, hx, hc, txt_eta, txt_get]
      intro b0 b1
      refine ⟨x :: r, rfl, ⟨(ht.mono (sub_now _ _)).x, by simp; omega⟩, ?_⟩
      rintro v ⟨e, rfl⟩
      by_cases hq : devL ⟨11, atoiV (x :: r), 0⟩ = x :: r
      · rw [if_pos hq]
        simp (maxSteps := 4000000) -dsimp [-List.all_eq_true, -Array.all_eq_true, -Bool.exists_bool, -Bool.forall_bool, and_assoc, List.zipIdx, Tryz.f131, cutC, hasSC, idxSC, idxBC, atoiC, iDevTextC, t0, txt_eta, txt_get, hq, devTup]
      · rw [if_neg hq]
        simp (maxSteps := 4000000) -dsimp [-List.all_eq_true, -Array.all_eq_true, -Bool.exists_bool, -Bool.forall_bool, and_assoc, List.zipIdx, Tryz.f131, cutC, hasSC, idxSC, idxBC, atoiC, iDevTextC, t0, txt_eta, txt_get, hq, devTup]
    · have hg := devRd_by (List.cons_ne_nil x r) (guess_dec hw hx hc)
      rw [hg]
      generalize (cutAt 46 (x :: r)).1 = p at *
      generalize (cutAt 46 (x :: r)).2.1 = q at *
      simp (maxSteps := 4000000) -dsimp [-List.all_eq_true, -Array.all_eq_true, -Bool.exists_bool, -Bool.forall_bool, and_assoc, List.zipIdx, Tryz.f131, cutC, hasSC, idxSC, idxBC, atoiC, iDevTextC, a1, a2, a3, a4, e46, eL, hw, hx, hc, txt_eta, txt_get]
      intro b0 b1
      refine ⟨by omega, p ++ q, rfl, ⟨(ht.mono (sub_now _ _)).x, by simp; omega⟩, ?_⟩
      rintro v ⟨e, rfl⟩
      by_cases hq : devL ⟨12, atoiV (p ++ q), q.length⟩ = x :: r
      · rw [if_pos hq]
        simp (maxSteps := 4000000) -dsimp [-List.all_eq_true, -Array.all_eq_true, -Bool.exists_bool, -Bool.forall_bool, and_assoc, List.zipIdx, Tryz.f131, cutC, hasSC, idxSC, idxBC, atoiC, iDevTextC, t0, txt_eta, txt_get, hq, devTup]
      · rw [if_neg hq]
        simp (maxSteps := 4000000) -dsimp [-List.all_eq_true, -Array.all_eq_true, -Bool.exists_bool, -Bool.forall_bool, and_assoc, List.zipIdx, Tryz.f131, cutC, hasSC, idxSC, idxBC, atoiC, iDevTextC, t0, txt_eta, txt_get, hq, devTup]
def iDevReadC_S : Reads Tryz.prog 131 where
  ι := ((Str))
  A := fun (s : ((Str))) => [.string (txt s)]
  pre := fun (s : ((Str))) (F : Facts) => TR F ∧ s.length ≤ 1100000
  res := fun (s : ((Str))) => devTup (devRd s)
  mono := by
    intro i F G hs h
    first | exact h | exact h.mono hs | exact ⟨h.1.mono hs, h.2⟩ | exact ⟨h.1.mono hs, h.2.1.mono hs, h.2.2⟩ | exact ⟨h.1.mono hs, h.2.1.mono hs⟩ | exact ⟨h.1.mono hs, h.2.1.mono hs, h.2.2.1.mono hs, h.2.2.2⟩
  uniq := by
    rintro s s' F hA h h'
    simp at hA
    (try simp only [Int.natCast_inj] at hA)
    simp_all
  enter := Tryz.call131
  h := fun s w hp => iDevReadC_c s w (by rw [factF_init]; exact hp)
def iDevReadC : Con Tryz.prog := Con.read iDevReadC_S
theorem iDevReadC_rw {s : Str} {d : Nat} {cx : Cx} {mem : List Blk} {K : C → Prop} (hpre : TR (nowF cx mem) ∧ s.length ≤ 1100000) : ReadV d iDevReadC_S cx [.v (.string (txt s))] mem K = K (.v (devTup (devRd s))) := iDevReadC_S.eq s rfl hpre
end Go.Proofs.YtclbanhoiaieaaaGreatDoor
