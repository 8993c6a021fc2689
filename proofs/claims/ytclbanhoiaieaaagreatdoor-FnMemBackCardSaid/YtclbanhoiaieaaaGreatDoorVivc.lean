/-
  Contracts: a word of a memory's text, read by the program.
-/
import Derived.Test.YtclbanhoiaieaaaGreatDoorVgvc
import Derived.Test.YtclbanhoiaieaaaGreatDoorSevc
import Derived.Test.YtclbanhoiaieaaaGreatDoorAvc
set_option linter.unusedVariables false
set_option linter.unusedSimpArgs false
set_option maxRecDepth 100000
set_option maxHeartbeats 4000000
namespace Go.Proofs.YtclbanhoiaieaaaGreatDoor
open Go Go.Sx

def trimS_S : Reads Tryz.prog 135 where
  ι := Str × Str
  A i := [.string (txt i.1), .string (txt i.2)]
  pre i F := i.1.length ≤ 2000000
  res i := .string (txt (Lib.trimSuffix i.1 i.2))
  mono i F G hs h := h
  uniq := by
    rintro ⟨a, b⟩ ⟨c, d⟩ F hA _ _
    simp only [List.cons.injEq, Value.string.injEq, txt_inj, and_true] at hA
    rw [hA.1, hA.2]
  enter := Tryz.call135
  h := by
    rintro ⟨s, p⟩ w hl
    simp only at hl ⊢
    refine (Tryz.strings_TrimSuffix (txt s) (txt p) w (by rw [txt_size]; omega)).mono ?_
    rintro e w' ⟨rfl, rfl⟩
    exact ⟨rfl, below_same⟩
theorem trimS_rw {s p : Str} {d : Nat} {cx : Cx} {mem : List Blk} {K : C → Prop} (h : s.length ≤ 2000000) : ReadV d trimS_S cx [.v (.string (txt s)), .v (.string (txt p))] mem K = K (.v (.string (txt (Lib.trimSuffix s p)))) := trimS_S.eq (s, p) rfl h
def trimSC : Con Tryz.prog := Con.read trimS_S
def hasSuf_S : Reads Tryz.prog 136 where
  ι := Str × Str
  A i := [.string (txt i.1), .string (txt i.2)]
  pre i F := i.1.length ≤ 2000000
  res i := .bool (Lib.hasSuffix i.1 i.2)
  mono i F G hs h := h
  uniq := by
    rintro ⟨a, b⟩ ⟨c, d⟩ F hA _ _
    simp only [List.cons.injEq, Value.string.injEq, txt_inj, and_true] at hA
    rw [hA.1, hA.2]
  enter := Tryz.call136
  h := by
    rintro ⟨s, p⟩ w hl
    simp only at hl ⊢
    refine (Tryz.strings_HasSuffix (txt s) (txt p) w (by rw [txt_size]; omega)).mono ?_
    rintro e w' ⟨rfl, rfl⟩
    exact ⟨rfl, below_same⟩
theorem hasSuf_rw {s p : Str} {d : Nat} {cx : Cx} {mem : List Blk} {K : C → Prop} (h : s.length ≤ 2000000) : ReadV d hasSuf_S cx [.v (.string (txt s)), .v (.string (txt p))] mem K = K (.v (.bool (Lib.hasSuffix s p))) := hasSuf_S.eq (s, p) rfl h
def hasSufC : Con Tryz.prog := Con.read hasSuf_S
def cutSuf_S : Reads Tryz.prog 137 where
  ι := Str × Str
  A i := [.string (txt i.1), .string (txt i.2)]
  pre i F := i.1.length ≤ 2000000
  res i := .tuple #[.string (txt (Lib.trimSuffix i.1 i.2)), .bool (Lib.hasSuffix i.1 i.2)]
  mono i F G hs h := h
  uniq := by
    rintro ⟨a, b⟩ ⟨c, d⟩ F hA _ _
    simp only [List.cons.injEq, Value.string.injEq, txt_inj, and_true] at hA
    rw [hA.1, hA.2]
  enter := Tryz.call137
  h := by
    rintro ⟨s, p⟩ w hl
    simp only at hl ⊢
    refine (Tryz.strings_CutSuffix (txt s) (txt p) w (by rw [txt_size]; omega)).mono ?_
    rintro e w' ⟨rfl, rfl⟩
    exact ⟨rfl, below_same⟩
theorem cutSuf_rw {s p : Str} {d : Nat} {cx : Cx} {mem : List Blk} {K : C → Prop} (h : s.length ≤ 2000000) : ReadV d cutSuf_S cx [.v (.string (txt s)), .v (.string (txt p))] mem K = K (.v (.tuple #[.string (txt (Lib.trimSuffix s p)), .bool (Lib.hasSuffix s p)])) := cutSuf_S.eq (s, p) rfl h
def cutSufC : Con Tryz.prog := Con.read cutSuf_S
def pu_S : Rels Tryz.prog 132 where
  ι := Str × Nat
  A i := [.string (txt i.1), .int .i64 10, .int .i64 i.2]
  pre i F := TX F ∧ i.1.length ≤ 2000000 ∧ (i.2 = 16 ∨ i.2 = 32)
  post i v := ∃ e, v = .tuple #[.int .u64 (puV i.2 i.1), e]
  mono i F G hs h := ⟨h.1.mono hs, h.2⟩
  enter := Tryz.call132
  h := by
    rintro ⟨s, B⟩ w ⟨ht, hl, hB⟩
    simp only at hl hB ⊢
    rcases hB with rfl | rfl
    · rcases hq : Lib.parseUintB 16 s with n | _ | _
      ·
        have e0 : puV 16 s = n := by unfold puV; rw [hq]
        refine (Tryz.strconv_ParseUint_10_at16_ok (txt s) (by rw [txt_size]; omega) n hq w).mono ?_
        rintro e w' ⟨rfl, hw⟩
        refine ⟨_, rfl, ⟨_, by rw [e0]⟩, ?_⟩
        rcases hw with rfl | rfl
        · exact below_same
        · exact Lib.bytesWorld_below _ _ _
      ·
        obtain ⟨ev, h1, h2⟩ := ht.syn
        have e0 : puV 16 s = 0 := by unfold puV; rw [hq]
        refine (Tryz.strconv_ParseUint_10_at16_syntax (txt s) (by rw [txt_size]; omega) hq ev w h1 h2).mono ?_
        rintro e w' ⟨N, rfl, _, _, hb⟩
        exact ⟨_, rfl, ⟨_, by rw [e0]⟩, hb⟩
      ·
        obtain ⟨ev, h1, h2⟩ := ht.rng
        have e0 : puV 16 s = 65535 := by unfold puV; rw [hq]; rfl
        refine (Tryz.strconv_ParseUint_10_at16_range (txt s) (by rw [txt_size]; omega) hq ev w h1 h2).mono ?_
        rintro e w' ⟨N, rfl, _, _, hb⟩
        exact ⟨_, rfl, ⟨_, by rw [e0]⟩, hb⟩
    · rcases hq : Lib.parseUintB 32 s with n | _ | _
      ·
        have e0 : puV 32 s = n := by unfold puV; rw [hq]
        refine (Tryz.strconv_ParseUint_10_at32_ok (txt s) (by rw [txt_size]; omega) n hq w).mono ?_
        rintro e w' ⟨rfl, hw⟩
        refine ⟨_, rfl, ⟨_, by rw [e0]⟩, ?_⟩
        rcases hw with rfl | rfl
        · exact below_same
        · exact Lib.bytesWorld_below _ _ _
      ·
        obtain ⟨ev, h1, h2⟩ := ht.syn
        have e0 : puV 32 s = 0 := by unfold puV; rw [hq]
        refine (Tryz.strconv_ParseUint_10_at32_syntax (txt s) (by rw [txt_size]; omega) hq ev w h1 h2).mono ?_
        rintro e w' ⟨N, rfl, _, _, hb⟩
        exact ⟨_, rfl, ⟨_, by rw [e0]⟩, hb⟩
      ·
        obtain ⟨ev, h1, h2⟩ := ht.rng
        have e0 : puV 32 s = 4294967295 := by unfold puV; rw [hq]; rfl
        refine (Tryz.strconv_ParseUint_10_at32_range (txt s) (by rw [txt_size]; omega) hq ev w h1 h2).mono ?_
        rintro e w' ⟨N, rfl, _, _, hb⟩
        exact ⟨_, rfl, ⟨_, by rw [e0]⟩, hb⟩
def puC : Con Tryz.prog := Con.rel pu_S
def pi_S : Rels Tryz.prog 138 where
  ι := Str
  A i := [.string (txt i), .int .i64 10, .int .i64 16]
  pre i F := TX F ∧ i.length ≤ 2000000
  post i v := ∃ e, v = .tuple #[.int .i64 (piV 16 i), e]
  mono i F G hs h := ⟨h.1.mono hs, h.2⟩
  enter := Tryz.call138
  h := by
    rintro s w ⟨ht, hl⟩
    rcases hq : Lib.parseIntB 16 s with n | _ | _
    ·
      have e0 : piV 16 s = n := by unfold piV; rw [hq]
      refine (Tryz.strconv_ParseInt_10_at16_ok (txt s) (by rw [txt_size]; omega) n hq w).mono ?_
      rintro e w' ⟨rfl, hw⟩
      refine ⟨_, rfl, ⟨_, by rw [e0]⟩, ?_⟩
      rcases hw with rfl | ⟨t, rfl⟩
      · exact below_same
      · exact Lib.bytesWorld_below _ _ _
    ·
      obtain ⟨ev, h1, h2⟩ := ht.syn
      have e0 : piV 16 s = 0 := by unfold piV; rw [hq]
      refine (Tryz.strconv_ParseInt_10_at16_syntax (txt s) (by rw [txt_size]; omega) hq ev w h1 h2).mono ?_
      rintro e w' ⟨N, rfl, _, _, hb⟩
      exact ⟨_, rfl, ⟨_, by rw [e0]⟩, hb⟩
    ·
      obtain ⟨ev, h1, h2⟩ := ht.rng
      have e0 : piV 16 s = Lib.intSat 16 s := by unfold piV; rw [hq]
      refine (Tryz.strconv_ParseInt_10_at16_range (txt s) (by rw [txt_size]; omega) hq ev w h1 h2).mono ?_
      rintro e w' ⟨N, rfl, _, _, hb⟩
      exact ⟨_, rfl, ⟨_, by rw [e0]; rfl⟩, hb⟩
def piC : Con Tryz.prog := Con.rel pi_S
end Go.Proofs.YtclbanhoiaieaaaGreatDoor
