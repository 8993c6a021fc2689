/-
  Contracts: the library's cutting and finding in texts, at this dump (seat ZD).
-/
import Derived.Test.YtmlmmaojomghdaaGreatDoorTiuh
import Derived.Test.YtmlmmaojomghdaaGreatDoorTeuh
import Derived.Test.YtmlmmaojomghdaaGreatDoorSguh
import Derived.WalkSmall
import Derived.Lib.AtoiErrMem
set_option linter.unusedVariables false
set_option linter.unusedSimpArgs false
set_option maxRecDepth 100000
set_option maxHeartbeats 4000000
namespace Go.Proofs.YtmlmmaojomghdaaGreatDoor
open Go Go.Sx

structure TX (F : Facts) : Prop where
  len : ∃ m, F ⟨5, 0, none⟩ = some (.int .i64 m)
  syn : ∃ ev, F ⟨6, 0, none⟩ = some ev ∧ (ev = .nilIface ∨ ∃ t p, ev = .iface t p)
  rng : ∃ ev, F ⟨7, 0, none⟩ = some ev ∧ (ev = .nilIface ∨ ∃ t p, ev = .iface t p)
theorem TX.mono {F G : Facts} (h : TX F) (hs : Sub F G) : TX G := by
  obtain ⟨⟨m, h1⟩, ⟨e, h2, h3⟩, ⟨e', h4, h5⟩⟩ := h
  exact ⟨⟨m, hs _ _ h1⟩, ⟨e, hs _ _ h2, h3⟩, ⟨e', hs _ _ h4, h5⟩⟩
def cut_S : Reads Tryz.prog 86 where
  ι := Str × Str
  A i := [.string (txt i.1), .string (txt i.2)]
  pre i F := TX F ∧ i.1.length ≤ 2000000
  res i := .tuple #[.string (txt (Lib.cut i.1 i.2).1), .string (txt (Lib.cut i.1 i.2).2.1), .bool (Lib.cut i.1 i.2).2.2]
  mono i F G hs h := ⟨h.1.mono hs, h.2⟩
  uniq := by
    rintro ⟨a, b⟩ ⟨c, d⟩ F hA _ _
    simp only [List.cons.injEq, Value.string.injEq, txt_inj, and_true] at hA
    rw [hA.1, hA.2]
  enter := Tryz.call86
  h := by
    rintro ⟨s, p⟩ w ⟨ht, hl⟩
    simp only at hl ⊢
    obtain ⟨m, hm⟩ := ht.len
    refine (Tryz.strings_Cut (txt s) (txt p) m w (by rw [txt_size]; omega) hm).mono ?_
    rintro e w' ⟨rfl, n, rfl⟩
    exact ⟨rfl, below_drewN (RowKit.Below.refl _ _) n⟩
def cutC : Con Tryz.prog := Con.read cut_S
def cutPre_S : Reads Tryz.prog 90 where
  ι := Str × Str
  A i := [.string (txt i.1), .string (txt i.2)]
  pre i F := True
  res i := .tuple #[.string (txt (Lib.trimPrefix i.1 i.2)), .bool (Lib.hasPrefix i.1 i.2)]
  mono i F G hs h := h
  uniq := by
    rintro ⟨a, b⟩ ⟨c, d⟩ F hA _ _
    simp only [List.cons.injEq, Value.string.injEq, txt_inj, and_true] at hA
    rw [hA.1, hA.2]
  enter := Tryz.call90
  h := by
    rintro ⟨s, p⟩ w _
    refine (Tryz.strings_CutPrefix (txt s) (txt p) w).mono ?_
    rintro e w' ⟨rfl, rfl⟩
    exact ⟨rfl, below_same⟩
def cutPreC : Con Tryz.prog := Con.read cutPre_S
def idxB_S : Reads Tryz.prog 196 where
  ι := Str × UInt8
  A i := [.string (txt i.1), .int .u8 i.2.toNat]
  pre i F := True
  res i := .int .i64 (Lib.indexByte i.1 i.2)
  mono i F G hs h := h
  uniq := by
    rintro ⟨a, b⟩ ⟨c, d⟩ F hA _ _
    simp only [List.cons.injEq, Value.string.injEq, Value.int.injEq, txt_inj, and_true, true_and] at hA
    have : b = d := by
      have := hA.2
      exact UInt8.toNat_inj.1 (by omega)
    rw [hA.1, this]
  enter := Tryz.call196
  h := by
    rintro ⟨s, c⟩ w _
    refine (Tryz.strings_IndexByte (txt s) (c.toNat : Int) w).mono ?_
    rintro e w' ⟨rfl, rfl⟩
    refine ⟨?_, below_same⟩
    simp [txt]
def idxBC : Con Tryz.prog := Con.read idxB_S
theorem rows_at {w : World} {b off : Nat} {zs : List Str} (h : RdL w.cell? (some ⟨b, off, none⟩) (zs.map fun z => .string (txt z))) : ∀ j, j < (zs.map txt).length → w.cell? ⟨b, off + j, none⟩ = some (.string ((zs.map txt).getD j ByteArray.empty)) := by
  intro j hj
  rw [List.length_map] at hj
  obtain ⟨a, ha, hc⟩ := h j (.string (txt (zs[j]'hj))) (by simp [hj])
  cases ha
  rw [addr_add] at hc
  rw [hc]
  simp [hj]
theorem idxFrom_txt (x : Str) : ∀ (zs : List Str) (i : Nat), Lib.idxFromS (zs.map txt) (txt x) i = if idxW x zs = -1 then -1 else (i : Int) + idxW x zs
  | [], i => by simp [Lib.idxFromS, idxW]
  | z :: zs, i => by
    rw [List.map_cons, Lib.idxFromS, idxW]
    have hb := idxW_bd x zs
    by_cases h : z = x
    · subst h
      simp
    · have h' : ¬ txt z = txt x := fun e => h (txt_inj.1 e)
      rw [if_neg h', if_neg h, idxFrom_txt x zs (i + 1)]
      by_cases h2 : idxW x zs = -1
      · rw [if_pos h2, if_pos h2]; simp
      · rw [if_neg h2, if_neg h2, if_neg (by omega)]; omega
theorem idxOf_txt (x : Str) (zs : List Str) : Lib.idxOfS (zs.map txt) (txt x) = idxW x zs := by
  unfold Lib.idxOfS
  rw [idxFrom_txt]
  split
  · rename_i h; exact h.symm
  · simp
theorem txts_uniq {F : Facts} {a : Addr} {zs ys : List Str} (h : RdL F (some a) (zs.map fun z => .string (txt z))) (h' : RdL F (some a) (ys.map fun z => .string (txt z))) (hl : zs.length = ys.length) : zs = ys := by
  have := h.uniq h' (by simpa using hl)
  have h2 := congrArg (List.map fun v => match v with | .string s => s.data.toList | _ => []) this
  simp only [List.map_map] at h2
  have h3 : ((fun v : Value => match v with | .string s => s.data.toList | _ => []) ∘ fun z : Str => Value.string (txt z)) = id := rfl
  rw [h3] at h2
  simpa using h2
def idxS_S : Reads Tryz.prog 87 where
  ι := Addr × Nat × List Str × Str
  A i := [.slice (some i.1) i.2.2.1.length i.2.1, .string (txt i.2.2.2)]
  pre i F := RdL F (some i.1) (i.2.2.1.map fun z => .string (txt z)) ∧ i.1.spot = none ∧ i.2.2.1.length ≤ 1000000
  res i := .int .i64 (idxW i.2.2.2 i.2.2.1)
  mono i F G hs h := ⟨RdL.mono h.1 hs, h.2⟩
  uniq := by
    rintro ⟨a, c, zs, x⟩ ⟨a', c', ys, y⟩ F hA h h'
    simp only [List.cons.injEq, Value.slice.injEq, Value.string.injEq, txt_inj, Option.some.injEq, and_true] at hA
    obtain ⟨⟨rfl, hl, rfl⟩, rfl⟩ := hA
    rw [txts_uniq h.1 h'.1 (by simpa using hl)]
  enter := Tryz.call87
  h := by
    rintro ⟨⟨b, off, sp⟩, c, zs, x⟩ w ⟨h1, h2, h3⟩
    simp only at h1 h2 h3 ⊢
    subst h2
    refine (Tryz.slices_Index_string b off zs.length c (zs.map txt) (txt x) w (by simp) (by omega) (rows_at h1)).mono ?_
    rintro e w' ⟨rfl, rfl⟩
    refine ⟨?_, below_same⟩
    rw [List.take_of_length_le (by simp), idxOf_txt]
def idxSC : Con Tryz.prog := Con.read idxS_S
def hasS_S : Reads Tryz.prog 195 where
  ι := Addr × Nat × List Str × Str
  A i := [.slice (some i.1) i.2.2.1.length i.2.1, .string (txt i.2.2.2)]
  pre i F := RdL F (some i.1) (i.2.2.1.map fun z => .string (txt z)) ∧ i.1.spot = none ∧ i.2.2.1.length ≤ 1000000
  res i := .bool (decide (0 ≤ idxW i.2.2.2 i.2.2.1))
  mono i F G hs h := ⟨RdL.mono h.1 hs, h.2⟩
  uniq := by
    rintro ⟨a, c, zs, x⟩ ⟨a', c', ys, y⟩ F hA h h'
    simp only [List.cons.injEq, Value.slice.injEq, Value.string.injEq, txt_inj, Option.some.injEq, and_true] at hA
    obtain ⟨⟨rfl, hl, rfl⟩, rfl⟩ := hA
    rw [txts_uniq h.1 h'.1 (by simpa using hl)]
  enter := Tryz.call195
  h := by
    rintro ⟨⟨b, off, sp⟩, c, zs, x⟩ w ⟨h1, h2, h3⟩
    simp only at h1 h2 h3 ⊢
    subst h2
    refine (Tryz.slices_Contains_string b off zs.length c (zs.map txt) (txt x) w (by simp) (by omega) (rows_at h1)).mono ?_
    rintro e w' ⟨rfl, rfl⟩
    refine ⟨?_, below_same⟩
    rw [List.take_of_length_le (by simp)]
    unfold Lib.containsS
    rw [idxOf_txt]
def hasSC : Con Tryz.prog := Con.read hasS_S
def atoi_S : Rels Tryz.prog 197 where
  ι := Str
  A i := [.string (txt i)]
  pre i F := TX F ∧ i.length ≤ 2000000
  post i v := ∃ e, v = .tuple #[.int .i64 (atoiV i), e]
  mono i F G hs h := ⟨h.1.mono hs, h.2⟩
  enter := Tryz.call197
  h := by
    rintro s w ⟨ht, hl⟩
    cases hq : Lib.atoiAll s with
    | ok n =>
      have e0 : atoiV s = n := by unfold atoiV; rw [hq]
      refine (Tryz.strconv_Atoi_ok (txt s) (by rw [txt_size]; omega) n hq w).mono ?_
      rintro e w' ⟨rfl, hw⟩
      refine ⟨_, rfl, ⟨_, by rw [e0]⟩, ?_⟩
      rcases hw with rfl | ⟨t, rfl⟩
      · exact below_same
      · exact Lib.bytesWorld_below _ _ _
    | «syntax» =>
      obtain ⟨ev, h1, h2⟩ := ht.syn
      have e0 : atoiV s = 0 := by unfold atoiV; rw [hq]
      refine (Tryz.strconv_Atoi_syntax (txt s) (by rw [txt_size]; omega) hq ev w h1 h2).mono ?_
      rintro e w' ⟨N, rfl, _, _, hb⟩
      exact ⟨_, rfl, ⟨_, by rw [e0]⟩, hb⟩
    | range =>
      obtain ⟨ev, h1, h2⟩ := ht.rng
      have e0 : atoiV s = Lib.atoiSat s := by unfold atoiV; rw [hq]
      refine (Tryz.strconv_Atoi_range (txt s) (by rw [txt_size]; omega) hq ev w h1 h2).mono ?_
      rintro e w' ⟨N, rfl, _, _, hb⟩
      exact ⟨_, rfl, ⟨_, by rw [e0]; rfl⟩, hb⟩
def atoiC : Con Tryz.prog := Con.rel atoi_S
end Go.Proofs.YtmlmmaojomghdaaGreatDoor
