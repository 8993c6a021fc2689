/-
  Contracts: what the law of coils draws; a memory with what a coil may change taken from another one.
-/
import Derived.Test.YtclbanhoiaieaaaGreatDoorGavc
import Derived.Test.YtclbanhoiaieaaaGreatDoorAvc
import Derived.Test.YtclbanhoiaieaaaGreatDoorIvc
import Derived.Test.YtclbanhoiaieaaaGreatDoorMcvc
import Derived.Test.YtclbanhoiaieaaaGreatDoorSwvc
set_option linter.unusedVariables false
set_option linter.unusedSimpArgs false
set_option maxRecDepth 100000
set_option maxHeartbeats 4000000
namespace Go.Proofs.YtclbanhoiaieaaaGreatDoor
open Go Go.Sx
open List renaming all_eq_true → Y1, zipIdx → Y5
open Bool renaming exists_bool → Y3, forall_bool → Y4
attribute [local simp] Sx.vcsE1 Sx.vcsE2 Sx.vcsE3 Sx.vcsE4 Sx.vcsE5 Sx.vcsE6 Sx.vcsE7 Sx.vcsE8 Sx.vcsE9 Sx.vcsE10 Sx.vcsE11 Sx.vcsE12 Sx.vcsE13 Sx.vcsE14 Sx.vcsE15 Sx.vcsE16 Sx.vcsE17 Sx.vcsE18 Sx.vcsE19 Sx.get Sx.look Sx.put Sx.pureFn Sx.findOrd Sx.unF Sx.dstOk Sx.isFloatT Sx.endVC Sx.resFn Sx.packC Sx.newFn Sx.storeFn Sx.buildFn Sx.known Sx.aggT Sx.cellsC Sx.findCon Sx.allV Sx.partsV Sx.partsC Sx.fillL Sx.exitTo Sx.fAr Sx.eqFn Sx.eqFieldsFn Sx.eqElemsFn Sx.partFn Sx.sliceFn Sx.boundFn Sx.AppV Sx.CopyV Sx.MakeSliceV Sx.NewsV Sx.GrowV Sx.TextV Sx.bytesL Sx.notInt Sx.typeAt Sx.argAt Sx.den Go.undef Go.Value.cells Go.Value.oneCell' Sx.Con.pure Sx.Con.some Sx.Con.read Sx.Con.make Sx.Con.ext Sx.Con.rel Sx.Con.extS Sx.Con.draw Sx.Con.step Sx.C.one Sx.Draws.steps

theorem near_lt (a : Int) : FloatKind.f64.nearest a < 18446744073709551616 := by
  have h := Ieee.Format.nearest_lt dbl (decide (a < 0)) a.natAbs 0
  have e : 2 ^ dbl.width = 18446744073709551616 := by decide
  rw [e] at h
  exact h
theorem fAdd_lt {a b r : Nat} (h : fRes .f64 (FloatKind.f64.format.add a b) r) : r < 18446744073709551616 := arith_lt.1 h
theorem fMul_lt {a b r : Nat} (h : fRes .f64 (FloatKind.f64.format.mul a b) r) : r < 18446744073709551616 := arith_lt.2.2.1 h
theorem fDiv_lt {a b r : Nat} (h : fRes .f64 (FloatKind.f64.format.div a b) r) : r < 18446744073709551616 := arith_lt.2.2.2 h
theorem wrap_u64_bd (x : Int) : 0 ≤ IntKind.u64.wrap x ∧ IntKind.u64.wrap x < 18446744073709551616 := by
  have h1 := Int.emod_nonneg x (b := 18446744073709551616) (by omega)
  have h2 := Int.emod_lt_of_pos x (b := 18446744073709551616) (by omega)
  simp only [IntKind.wrap, IntKind.signed, IntKind.bits]
  simp
  omega
theorem wrap_u16_bd (x : Int) : 0 ≤ IntKind.u16.wrap x ∧ IntKind.u16.wrap x < 65536 := by
  have h1 := Int.emod_nonneg x (b := 65536) (by omega)
  have h2 := Int.emod_lt_of_pos x (b := 65536) (by omega)
  simp only [IntKind.wrap, IntKind.signed, IntKind.bits]
  simp
  omega
theorem wordC_c  (R : Rdr) (p : Int) (cx : Cx) (mem : List Blk) (w : World) (hty : R.ty = 160) (hR : R.Is (factF cx) mem) (hp : 0 ≤ p) (hpc : p + 8 ≤ 1125899906842624) (hpre : True) (hm : MemRel cx (mem.set R.k (R.blk p)) w) :
    Calls Tryz.prog 143 ((.p R.k R.b 0 :: [] : List C).map den).toArray w fun e w' => ∃ cx' x mem', e = .returned (den x) ∧ MemRel cx' mem' w' ∧ (fun cx' x mem' => ∃ v p', x = .v v ∧ mem' = mem.set R.k (R.blk p') ∧ Le cx cx' ∧ p ≤ p' ∧ p' ≤ p + 8 ∧ (∃ x, v = .int .u64 x ∧ 0 ≤ x ∧ x < 18446744073709551616)) cx' x mem' := by
  refine step_of_vcs ⟨[pickC], []⟩ hmx Tryz.func143 rfl (by kernel_rfl) (args := .p R.k R.b 0 :: []) (by simp [Tryz.ntmps143]) hm (fun cx' x mem' => ∃ v p', x = .v v ∧ mem' = mem.set R.k (R.blk p') ∧ Le cx cx' ∧ p ≤ p' ∧ p' ≤ p + 8 ∧ (∃ x, v = .int .u64 x ∧ 0 ≤ x ∧ x < 18446744073709551616)) 400 ?_
  have hlt := hR.lt
  simp (maxSteps := 4000000) -dsimp [-Y1, -Array.all_eq_true, -Y3, -Y4, and_assoc, Y5, Tryz.f143, pickC]
  refine loop_inv (σ := ⟨[pickC], []⟩) hmx (by kernel_rfl) (fun q cx' tm mem' => Le cx cx' ∧ ∃ (i : Nat) (x p' : Int), i ≤ 8 ∧ q = 8 - i ∧ mem' = mem.set R.k (R.blk p') ∧ p ≤ p' ∧ p' ≤ p + i ∧ 0 ≤ x ∧ x < 18446744073709551616 ∧ Sx.look tm 4 = .v (.int .i64 i) ∧ Sx.look tm 3 = .v (.int .u64 x) ∧ Sx.look tm 0 = .p R.k R.b 0)
    8 ⟨Le.refl _, 0, 0, p, by omega, rfl, rfl, by omega, by omega, by omega, by omega, by simp [Sx.look], by simp [Sx.look], by simp [Sx.look]⟩ ?_
  rintro q cx1 tm mem1 ⟨hle, i, x, p1, hi, rfl, rfl, a1, a2, a3, a4, h4, h3, h0⟩
  refine ⟨400, ?_⟩
  by_cases h8 : i < 8
  · have h8' : (i : Int) < 8 := by omega
    simp (maxSteps := 4000000) -dsimp [-Y1, -Array.all_eq_true, -Y3, -Y4, and_assoc, Y5, Tryz.f143, pickC, h4, h3, h0, h8']
    refine pickC_at0 hR hty hle ⟨by omega, by omega⟩ (by omega) ?_
    rintro cx2 _ p2 hle2 - c1 c2 ⟨y, rfl, y0, y1⟩
    simp (maxSteps := 4000000) -dsimp [-Y1, -Array.all_eq_true, -Y3, -Y4, and_assoc, Y5, Tryz.f143, pickC, h4, h3, h0, i_succ (i := i) (by omega)]
    have hb := wrap_u64_bd (IntKind.u64.wrap (x * 256) + IntKind.u64.wrap y)
    exact ⟨mem.length, 8 - (i + 1), by omega, hle2, i + 1, by omega, rfl, _, p2, by rw [List.take_of_length_le (by simp)], by omega, by omega, hb.1, hb.2, by omega, rfl⟩
  · have h8' : ¬ (i : Int) < 8 := by omega
    simp (maxSteps := 4000000) -dsimp [-Y1, -Array.all_eq_true, -Y3, -Y4, and_assoc, Y5, Tryz.f143, pickC, h4, h3, h0, h8']
    exact EndK.all ⟨_, p1, rfl, rfl, hle, by omega, by omega, x, rfl, a3, a4⟩
def wordC_S : Draws Tryz.prog 160 8 143 where
  ι := Unit
  A := fun (_u : Unit) => []
  pre := fun (_u : Unit) (F : Facts) => True
  post := fun (_u : Unit) (v : Value) (F : Facts) => ∃ x, v = .int .u64 x ∧ 0 ≤ x ∧ x < 18446744073709551616
  mono := fun _ _ _ _ _ => trivial
  enter := Tryz.call143
  h := fun _u R p cx mem w h1 h2 h3 h4 h5 h6 => wordC_c  R p cx mem w h1 h2 h3 h4 h5 h6
def wordC : Con Tryz.prog := Con.draw wordC_S
theorem wordC_at  {d : Nat} {R : Rdr} {cx0 cx : Cx} {mem0 : List Blk} {ex : List Blk} {K : Cx → C → List Blk → Prop} {p : Int} (hR : R.Is (factF cx0) mem0) (hty : R.ty = 160) (hle : Le cx0 cx) (hp : 0 ≤ p ∧ p + 8 ≤ 1125899906842624) (hpre : True)
    (h : ∀ cx' v p', Le cx0 cx' → Le cx cx' → p ≤ p' → p' ≤ p + 8 → (∃ x, v = .int .u64 x ∧ 0 ≤ x ∧ x < 18446744073709551616) → K cx' (.v v) (mem0.set R.k (R.blk p') ++ ex)) :
    DrawV d wordC_S cx [.p R.k R.b 0] (mem0.set R.k (R.blk p) ++ ex) K := DrawV.at (S := wordC_S) hR hty hle () hp hpre h
theorem wordC_at0  {d : Nat} {R : Rdr} {cx0 cx : Cx} {mem0 : List Blk} {K : Cx → C → List Blk → Prop} {p : Int} (hR : R.Is (factF cx0) mem0) (hty : R.ty = 160) (hle : Le cx0 cx) (hp : 0 ≤ p ∧ p + 8 ≤ 1125899906842624) (hpre : True)
    (h : ∀ cx' v p', Le cx0 cx' → Le cx cx' → p ≤ p' → p' ≤ p + 8 → (∃ x, v = .int .u64 x ∧ 0 ≤ x ∧ x < 18446744073709551616) → K cx' (.v v) (mem0.set R.k (R.blk p'))) :
    DrawV d wordC_S cx [.p R.k R.b 0] (mem0.set R.k (R.blk p)) K := DrawV.at0 (S := wordC_S) hR hty hle () hp hpre h
theorem l3WholeC_c  (R : Rdr) (p : Int) (cx : Cx) (mem : List Blk) (w : World) (hty : R.ty = 160) (hR : R.Is (factF cx) mem) (hp : 0 ≤ p) (hpc : p + 3 ≤ 1125899906842624) (hpre : True) (hm : MemRel cx (mem.set R.k (R.blk p)) w) :
    Calls Tryz.prog 144 ((.p R.k R.b 0 :: [] : List C).map den).toArray w fun e w' => ∃ cx' x mem', e = .returned (den x) ∧ MemRel cx' mem' w' ∧ (fun cx' x mem' => ∃ v p', x = .v v ∧ mem' = mem.set R.k (R.blk p') ∧ Le cx cx' ∧ p ≤ p' ∧ p' ≤ p + 3 ∧ (∃ x, v = .int .i16 x ∧ -32768 ≤ x ∧ x ≤ 32767)) cx' x mem' := by
  refine step_of_vcs ⟨[pickC, numC], []⟩ hmx Tryz.func144 rfl (by kernel_rfl) (args := .p R.k R.b 0 :: []) (by simp [Tryz.ntmps144]) hm (fun cx' x mem' => ∃ v p', x = .v v ∧ mem' = mem.set R.k (R.blk p') ∧ Le cx cx' ∧ p ≤ p' ∧ p' ≤ p + 3 ∧ (∃ x, v = .int .i16 x ∧ -32768 ≤ x ∧ x ≤ 32767)) 400 ?_
  have hlt := hR.lt
  have hle := Le.refl cx
  (repeat' first
    | (with_reducible refine EndK.left ?_
       refine ⟨_, _, rfl, rfl, (by assumption), by omega, by omega, ?_⟩; exact ⟨_, rfl, wrap16_bd _⟩; done)
    | (with_reducible refine EndK.all ?_
       refine ⟨_, _, rfl, rfl, (by assumption), by omega, by omega, ?_⟩; exact ⟨_, rfl, wrap16_bd _⟩; done)
    | (with_reducible refine pickC_at0 hR hty ?_ ?_ ?_ ?_
       · assumption
       · exact ⟨by omega, by omega⟩
       · omega
       rintro cx' _ p' hle - hp1 hp2 ⟨x, rfl, hx1, hx2⟩)
    | (with_reducible refine pickC_at hR hty ?_ ?_ ?_ ?_
       · assumption
       · exact ⟨by omega, by omega⟩
       · omega
       rintro cx' _ p' hle - hp1 hp2 ⟨x, rfl, hx1, hx2⟩)
    | (with_reducible refine numC_lit0 hR hty ?_ hl ?_ ?_ ?_ ?_ ?_ ?_
       · assumption
       · rfl
       · rfl
       · exact ⟨by omega, by omega⟩
       · decide
       · decide
       rintro cx' _ p' hle - hp1 hp2 ⟨x, rfl, hx⟩)
    | (with_reducible refine numC_lit hR hty ?_ hl ?_ ?_ ?_ ?_ ?_ ?_
       · assumption
       · rfl
       · rfl
       · exact ⟨by omega, by omega⟩
       · decide
       · decide
       rintro cx' _ p' hle - hp1 hp2 ⟨x, rfl, hx⟩)
    | (with_reducible refine fun cx' q (hle' : Le _ cx') (hl : RdL _ q _) => ?_
       have hle := Le.trans (by assumption) hle'; (try simp [Sx.get, Sx.look, Sx.put, cellsC, Value.cells, den] at hl))
    | with_reducible refine And.intro ?_ ?_
    | with_reducible intro _
    | omega
    | simp (maxSteps := 4000000) -dsimp [-Y1, -Array.all_eq_true, -Y3, -Y4, and_assoc, Y5, Tryz.f144, pickC, numC, hlt])
def l3WholeC_S : Draws Tryz.prog 160 3 144 where
  ι := Unit
  A := fun (_u : Unit) => []
  pre := fun (_u : Unit) (F : Facts) => True
  post := fun (_u : Unit) (v : Value) (F : Facts) => ∃ x, v = .int .i16 x ∧ -32768 ≤ x ∧ x ≤ 32767
  mono := fun _ _ _ _ _ => trivial
  enter := Tryz.call144
  h := fun _u R p cx mem w h1 h2 h3 h4 h5 h6 => l3WholeC_c  R p cx mem w h1 h2 h3 h4 h5 h6
def l3WholeC : Con Tryz.prog := Con.draw l3WholeC_S
theorem l3WholeC_at  {d : Nat} {R : Rdr} {cx0 cx : Cx} {mem0 : List Blk} {ex : List Blk} {K : Cx → C → List Blk → Prop} {p : Int} (hR : R.Is (factF cx0) mem0) (hty : R.ty = 160) (hle : Le cx0 cx) (hp : 0 ≤ p ∧ p + 3 ≤ 1125899906842624) (hpre : True)
    (h : ∀ cx' v p', Le cx0 cx' → Le cx cx' → p ≤ p' → p' ≤ p + 3 → (∃ x, v = .int .i16 x ∧ -32768 ≤ x ∧ x ≤ 32767) → K cx' (.v v) (mem0.set R.k (R.blk p') ++ ex)) :
    DrawV d l3WholeC_S cx [.p R.k R.b 0] (mem0.set R.k (R.blk p) ++ ex) K := DrawV.at (S := l3WholeC_S) hR hty hle () hp hpre h
theorem l3WholeC_at0  {d : Nat} {R : Rdr} {cx0 cx : Cx} {mem0 : List Blk} {K : Cx → C → List Blk → Prop} {p : Int} (hR : R.Is (factF cx0) mem0) (hty : R.ty = 160) (hle : Le cx0 cx) (hp : 0 ≤ p ∧ p + 3 ≤ 1125899906842624) (hpre : True)
    (h : ∀ cx' v p', Le cx0 cx' → Le cx cx' → p ≤ p' → p' ≤ p + 3 → (∃ x, v = .int .i16 x ∧ -32768 ≤ x ∧ x ≤ 32767) → K cx' (.v v) (mem0.set R.k (R.blk p'))) :
    DrawV d l3WholeC_S cx [.p R.k R.b 0] (mem0.set R.k (R.blk p)) K := DrawV.at0 (S := l3WholeC_S) hR hty hle () hp hpre h
theorem l3RealC_c  (R : Rdr) (p : Int) (cx : Cx) (mem : List Blk) (w : World) (hty : R.ty = 160) (hR : R.Is (factF cx) mem) (hp : 0 ≤ p) (hpc : p + 20 ≤ 1125899906842624) (hpre : True) (hm : MemRel cx (mem.set R.k (R.blk p)) w) :
    Calls Tryz.prog 145 ((.p R.k R.b 0 :: [] : List C).map den).toArray w fun e w' => ∃ cx' x mem', e = .returned (den x) ∧ MemRel cx' mem' w' ∧ (fun cx' x mem' => ∃ v p', x = .v v ∧ mem' = mem.set R.k (R.blk p') ∧ Le cx cx' ∧ p ≤ p' ∧ p' ≤ p + 20 ∧ (∃ x, v = .float .f64 x ∧ x < 18446744073709551616)) cx' x mem' := by
  refine step_of_vcs ⟨[pickC, numC, wordC, l3NanC, l3InfC], []⟩ hmx Tryz.func145 rfl (by kernel_rfl) (args := .p R.k R.b 0 :: []) (by simp [Tryz.ntmps145]) hm (fun cx' x mem' => ∃ v p', x = .v v ∧ mem' = mem.set R.k (R.blk p') ∧ Le cx cx' ∧ p ≤ p' ∧ p' ≤ p + 20 ∧ (∃ x, v = .float .f64 x ∧ x < 18446744073709551616)) 400 ?_
  have hlt := hR.lt
  have hle := Le.refl cx
  (repeat' first
    | (with_reducible refine EndK.left ?_
       refine ⟨_, _, rfl, rfl, (by assumption), by omega, by omega, ?_⟩; first | exact ⟨_, rfl, by decide⟩ | exact ⟨_, rfl, near_lt _⟩ | exact ⟨_, rfl, by first | assumption | exact fMul_lt (by assumption) | exact fAdd_lt (by assumption)⟩ | (subst_vars; exact ⟨_, rfl, by assumption⟩); done)
    | (with_reducible refine EndK.all ?_
       refine ⟨_, _, rfl, rfl, (by assumption), by omega, by omega, ?_⟩; first | exact ⟨_, rfl, by decide⟩ | exact ⟨_, rfl, near_lt _⟩ | exact ⟨_, rfl, by first | assumption | exact fMul_lt (by assumption) | exact fAdd_lt (by assumption)⟩ | (subst_vars; exact ⟨_, rfl, by assumption⟩); done)
    | (with_reducible refine pickC_at0 hR hty ?_ ?_ ?_ ?_
       · assumption
       · exact ⟨by omega, by omega⟩
       · omega
       rintro cx' _ p' hle - hp1 hp2 ⟨x, rfl, hx1, hx2⟩)
    | (with_reducible refine pickC_at hR hty ?_ ?_ ?_ ?_
       · assumption
       · exact ⟨by omega, by omega⟩
       · omega
       rintro cx' _ p' hle - hp1 hp2 ⟨x, rfl, hx1, hx2⟩)
    | (with_reducible refine numC_lit0 hR hty ?_ hl ?_ ?_ ?_ ?_ ?_ ?_
       · assumption
       · rfl
       · rfl
       · exact ⟨by omega, by omega⟩
       · decide
       · decide
       rintro cx' _ p' hle - hp1 hp2 ⟨x, rfl, hx⟩)
    | (with_reducible refine numC_lit hR hty ?_ hl ?_ ?_ ?_ ?_ ?_ ?_
       · assumption
       · rfl
       · rfl
       · exact ⟨by omega, by omega⟩
       · decide
       · decide
       rintro cx' _ p' hle - hp1 hp2 ⟨x, rfl, hx⟩)
    | (with_reducible refine wordC_at0 hR hty ?_ ?_ ?_ ?_
       · assumption
       · exact ⟨by omega, by omega⟩
       · trivial
       rintro cx' _ p' hle - hp1 hp2 ⟨wx, rfl, hw1, hw2⟩)
    | (with_reducible refine wordC_at hR hty ?_ ?_ ?_ ?_
       · assumption
       · exact ⟨by omega, by omega⟩
       · trivial
       rintro cx' _ p' hle - hp1 hp2 ⟨wx, rfl, hw1, hw2⟩)
    | (with_reducible refine fun cx' q (hle' : Le _ cx') (hl : RdL _ q _) => ?_
       have hle := Le.trans (by assumption) hle'; (try simp [Sx.get, Sx.look, Sx.put, cellsC, Value.cells, den] at hl))
    | with_reducible refine And.intro ?_ ?_
    | with_reducible intro _
    | omega
    | simp (maxSteps := 4000000) -dsimp [-Y1, -Array.all_eq_true, -Y3, -Y4, and_assoc, Y5, Tryz.f145, pickC, numC, wordC, l3NanC, l3InfC, hlt])
  refine loop_inv (σ := ⟨[pickC, numC, wordC, l3NanC, l3InfC], []⟩) hmx (by kernel_rfl) (fun q cx' tm mem' => Le cx cx' ∧ ∃ (x : Nat) (i p' : Int), mem' = mem.set R.k (R.blk p') ∧ p ≤ p' ∧ p' ≤ p + 20 ∧ x < 18446744073709551616 ∧ 0 ≤ i ∧ i ≤ 100 ∧ q = i.toNat ∧ Sx.look tm 4 = .v (.float .f64 x) ∧ Sx.look tm 5 = .v (.int .i64 i))
    _ ⟨by assumption, _, _, _, rfl, by omega, by omega, fDiv_lt (by assumption), by omega, by omega, rfl, by simp [Sx.look], by simp [Sx.look]⟩ ?_
  rintro q cx1 tm mem1 ⟨hle, x, i, p1, rfl, a1, a2, a3, a4, a5, rfl, h4, h5⟩
  refine ⟨400, ?_⟩
  by_cases h0 : 0 < i
  · have hw : IntKind.i64.wrap (i - 1) = i - 1 := wrap_i64 (by omega) (by omega)
    simp (maxSteps := 4000000) -dsimp [-Y1, -Array.all_eq_true, -Y3, -Y4, and_assoc, Y5, Tryz.f145, pickC, numC, wordC, l3NanC, l3InfC, h4, h5, h0, hw]
    intro r hr
    exact ⟨mem.length, (i - 1).toNat, by omega, hle, r, i - 1, p1, by rw [List.take_of_length_le (by simp)], a1, a2, fMul_lt hr, by omega, by omega, rfl, rfl, rfl⟩
  · simp (maxSteps := 4000000) -dsimp [-Y1, -Array.all_eq_true, -Y3, -Y4, and_assoc, Y5, Tryz.f145, pickC, numC, wordC, l3NanC, l3InfC, h4, h5, h0]
    exact EndK.all ⟨_, p1, rfl, rfl, hle, a1, a2, x, rfl, a3⟩
def l3RealC_S : Draws Tryz.prog 160 20 145 where
  ι := Unit
  A := fun (_u : Unit) => []
  pre := fun (_u : Unit) (F : Facts) => True
  post := fun (_u : Unit) (v : Value) (F : Facts) => ∃ x, v = .float .f64 x ∧ x < 18446744073709551616
  mono := fun _ _ _ _ _ => trivial
  enter := Tryz.call145
  h := fun _u R p cx mem w h1 h2 h3 h4 h5 h6 => l3RealC_c  R p cx mem w h1 h2 h3 h4 h5 h6
def l3RealC : Con Tryz.prog := Con.draw l3RealC_S
theorem l3RealC_at  {d : Nat} {R : Rdr} {cx0 cx : Cx} {mem0 : List Blk} {ex : List Blk} {K : Cx → C → List Blk → Prop} {p : Int} (hR : R.Is (factF cx0) mem0) (hty : R.ty = 160) (hle : Le cx0 cx) (hp : 0 ≤ p ∧ p + 20 ≤ 1125899906842624) (hpre : True)
    (h : ∀ cx' v p', Le cx0 cx' → Le cx cx' → p ≤ p' → p' ≤ p + 20 → (∃ x, v = .float .f64 x ∧ x < 18446744073709551616) → K cx' (.v v) (mem0.set R.k (R.blk p') ++ ex)) :
    DrawV d l3RealC_S cx [.p R.k R.b 0] (mem0.set R.k (R.blk p) ++ ex) K := DrawV.at (S := l3RealC_S) hR hty hle () hp hpre h
theorem l3RealC_at0  {d : Nat} {R : Rdr} {cx0 cx : Cx} {mem0 : List Blk} {K : Cx → C → List Blk → Prop} {p : Int} (hR : R.Is (factF cx0) mem0) (hty : R.ty = 160) (hle : Le cx0 cx) (hp : 0 ≤ p ∧ p + 20 ≤ 1125899906842624) (hpre : True)
    (h : ∀ cx' v p', Le cx0 cx' → Le cx cx' → p ≤ p' → p' ≤ p + 20 → (∃ x, v = .float .f64 x ∧ x < 18446744073709551616) → K cx' (.v v) (mem0.set R.k (R.blk p'))) :
    DrawV d l3RealC_S cx [.p R.k R.b 0] (mem0.set R.k (R.blk p)) K := DrawV.at0 (S := l3RealC_S) hR hty hle () hp hpre h

theorem setD_ok {m : M} {j : Nat} {x : Int} (h : MOk m) (hx : -32768 ≤ x ∧ x < 32768) : MOk { m with D := upd m.D j x } := by
  refine ⟨h.X, h.Y, h.Mw, h.S, h.E, h.T, h.C, fun k hk => ?_, h.R, h.Time⟩
  simp only [upd]; split
  · exact hx
  · exact h.D k hk
theorem setR_ok {m : M} {j : Nat} {x : Nat} (h : MOk m) (hx : x < 18446744073709551616) : MOk { m with R := upd m.R j x } := by
  refine ⟨h.X, h.Y, h.Mw, h.S, h.E, h.T, h.C, h.D, fun k hk => ?_, h.Time⟩
  simp only [upd]; split
  · exact hx
  · exact h.R k hk
theorem l5DrawC_c  (R : Rdr) (p : Int) (cx : Cx) (mem : List Blk) (w : World) (hty : R.ty = 160) (hR : R.Is (factF cx) mem) (hp : 0 ≤ p) (hpc : p + 200 ≤ 1125899906842624) (hpre : True) (hm : MemRel cx (mem.set R.k (R.blk p)) w) :
    Calls Tryz.prog 58 ((.p R.k R.b 0 :: [] : List C).map den).toArray w fun e w' => ∃ cx' x mem', e = .returned (den x) ∧ MemRel cx' mem' w' ∧ (fun cx' x mem' => ∃ v p', x = .v v ∧ mem' = mem.set R.k (R.blk p') ∧ Le cx cx' ∧ p ≤ p' ∧ p' ≤ p + 200 ∧ (∃ m, v = .agg (cells m) ∧ MOk m)) cx' x mem' := by
  refine step_of_vcs ⟨[pickC, numC, wordC, l3WholeC, l3RealC], []⟩ hmx Tryz.func58 rfl (by kernel_rfl) (args := .p R.k R.b 0 :: []) (by simp [Tryz.ntmps58]) hm (fun cx' x mem' => ∃ v p', x = .v v ∧ mem' = mem.set R.k (R.blk p') ∧ Le cx cx' ∧ p ≤ p' ∧ p' ≤ p + 200 ∧ (∃ m, v = .agg (cells m) ∧ MOk m)) 400 ?_
  have hlt := hR.lt
  have hle := Le.refl cx
  simp (maxSteps := 4000000) -dsimp [-Y1, -Array.all_eq_true, -Y3, -Y4, and_assoc, Y5, Tryz.f58, pickC, numC, wordC, l3WholeC, l3RealC, hlt]
  intro b b1
  refine pickC_at hR hty hle ⟨by omega, by omega⟩ (by omega) ?_
  rintro cx1 _ p1 hle1 - c1 c2 ⟨y, rfl, y0, y1⟩
  by_cases hy : y = 0
  · simp (maxSteps := 4000000) -dsimp [-Y1, -Array.all_eq_true, -Y3, -Y4, and_assoc, Y5, Tryz.f58, pickC, numC, wordC, l3WholeC, l3RealC, hlt, hy, List.getElem?_append, List.set_append, List.getElem?_set]
    refine EndK.left ⟨_, p1, rfl, rfl, hle1, by omega, by omega, zeroM, rfl, zeroM_ok⟩
  simp (maxSteps := 4000000) -dsimp [-Y1, -Array.all_eq_true, -Y3, -Y4, and_assoc, Y5, Tryz.f58, pickC, numC, wordC, l3WholeC, l3RealC, hlt, hy, List.getElem?_append, List.set_append, List.getElem?_set]
  refine wordC_at hR hty hle1 ⟨by omega, by omega⟩ trivial ?_
  rintro cx2 _ p2 hle2 - d0 e0 ⟨w0, rfl, u0, v0⟩
  simp (maxSteps := 4000000) -dsimp [-Y1, -Array.all_eq_true, -Y3, -Y4, and_assoc, Y5, Tryz.f58, pickC, numC, wordC, l3WholeC, l3RealC, hlt, List.getElem?_append, List.set_append, List.getElem?_set]
  refine wordC_at hR hty hle2 ⟨by omega, by omega⟩ trivial ?_
  rintro cx3 _ p3 hle3 - d1 e1 ⟨w1, rfl, u1, v1⟩
  simp (maxSteps := 4000000) -dsimp [-Y1, -Array.all_eq_true, -Y3, -Y4, and_assoc, Y5, Tryz.f58, pickC, numC, wordC, l3WholeC, l3RealC, hlt, List.getElem?_append, List.set_append, List.getElem?_set]
  refine wordC_at hR hty hle3 ⟨by omega, by omega⟩ trivial ?_
  rintro cx4 _ p4 hle4 - d2 e2 ⟨w2, rfl, u2, v2⟩
  simp (maxSteps := 4000000) -dsimp [-Y1, -Array.all_eq_true, -Y3, -Y4, and_assoc, Y5, Tryz.f58, pickC, numC, wordC, l3WholeC, l3RealC, hlt, List.getElem?_append, List.set_append, List.getElem?_set]
  refine wordC_at hR hty hle4 ⟨by omega, by omega⟩ trivial ?_
  rintro cx5 _ p5 hle5 - d3 e3 ⟨w3, rfl, u3, v3⟩
  simp (maxSteps := 4000000) -dsimp [-Y1, -Array.all_eq_true, -Y3, -Y4, and_assoc, Y5, Tryz.f58, pickC, numC, wordC, l3WholeC, l3RealC, hlt, List.getElem?_append, List.set_append, List.getElem?_set]
  refine wordC_at hR hty hle5 ⟨by omega, by omega⟩ trivial ?_
  rintro cx6 _ p6 hle6 - d4 e4 ⟨w4, rfl, u4, v4⟩
  simp (maxSteps := 4000000) -dsimp [-Y1, -Array.all_eq_true, -Y3, -Y4, and_assoc, Y5, Tryz.f58, pickC, numC, wordC, l3WholeC, l3RealC, hlt, List.getElem?_append, List.set_append, List.getElem?_set]
  have hm0 : MOk { zeroM with X := IntKind.u32.wrap w0, Y := IntKind.u32.wrap w1, M := w2, S := IntKind.u16.wrap w3, E := IntKind.u32.wrap w4 } :=
    ⟨wrap_u32_bd _, wrap_u32_bd _, ⟨u2, v2⟩, wrap_u16_bd _, wrap_u32_bd _, zeroM_ok.T, zeroM_ok.C, zeroM_ok.D, zeroM_ok.R, zeroM_ok.Time⟩
  refine loop_inv (σ := ⟨[pickC, numC, wordC, l3WholeC, l3RealC], []⟩) hmx (by kernel_rfl) (fun q cx' tm mem' => Le cx cx' ∧ ∃ (i : Nat) (m : M) (p' : Int), i ≤ 4 ∧ q = 4 - i ∧ MOk m ∧ mem' = mem.set R.k (R.blk p') ++ [⟨b, cellC zeroM, 36⟩, ⟨b1, cellC m, 36⟩] ∧ p ≤ p' ∧ p' ≤ p + 41 + 31 * i ∧ Sx.look tm 4 = .v (.int .i64 i) ∧ Sx.look tm 3 = .p (mem.length + 1) b1 0 ∧ Sx.look tm 2 = .p mem.length b 0 ∧ Sx.look tm 0 = .p R.k R.b 0)
    4 ⟨hle6, 0, _, p6, by omega, rfl, hm0, rfl, by omega, by omega, by simp [Sx.look], by simp [Sx.look], by simp [Sx.look], by simp [Sx.look]⟩ ?_
  rintro q cx7 tm mem7 ⟨hle7, i, m, p7, hi, rfl, hm7, rfl, a1, a2, h4, h3, h2, h0⟩
  refine ⟨400, ?_⟩
  by_cases hi4 : i < 4
  · have hi4' : (i : Int) < 4 := by omega
    simp (maxSteps := 4000000) -dsimp [-Y1, -Array.all_eq_true, -Y3, -Y4, and_assoc, Y5, Tryz.f58, pickC, numC, wordC, l3WholeC, l3RealC, hlt, List.getElem?_append, List.set_append, List.getElem?_set, h4, h3, h2, h0, hi4']
    refine pickC_at hR hty hle7 ⟨by omega, by omega⟩ (by omega) ?_
    rintro cx8 _ p8 hle8 - b2 b3 ⟨k, rfl, k0, k1⟩
    by_cases h3i : (i : Int) = 3
    · simp (maxSteps := 4000000) -dsimp [-Y1, -Array.all_eq_true, -Y3, -Y4, and_assoc, Y5, Tryz.f58, pickC, numC, wordC, l3WholeC, l3RealC, hlt, List.getElem?_append, List.set_append, List.getElem?_set, h4, h3, h2, h0, hi4', h3i]
      refine pickC_at hR hty hle8 ⟨by omega, by omega⟩ (by omega) ?_
      rintro cx9 _ p9 hle9 - b4 b5 ⟨k2, rfl, k20, k21⟩
      have hk : 0 ≤ k2 ∧ k2 < 16 := by omega
      have hkn : k2.toNat < 16 := by omega
      have hk32 : k2 < 32 := by omega
      have s2 := fun m b x => set_TT m b x _ hkn
      have s3 := fun m b c x => set_CC m b c x _ hkn
      have s4 := fun m x => set_D m x k2.toNat (by omega)
      have s5 := fun m x => set_R m x _ hkn
      have ob1 : 5 + k2.toNat * 2 ≤ 134 := by omega
      have ob2 : 37 + k2.toNat * 3 ≤ 133 := by omega
      have ob3 : 85 + k2.toNat < 136 := by omega
      have ob4 : 117 + k2.toNat < 136 := by omega
      simp (maxSteps := 4000000) -dsimp [-Y1, -Array.all_eq_true, -Y3, -Y4, and_assoc, Y5, Tryz.f58, pickC, numC, wordC, l3WholeC, l3RealC, -Sx.splice_two, hlt, List.getElem?_append, List.set_append, List.getElem?_set, h4, h3, h2, h0, hi4', h3i, hk, hk32, s2, s3, s4, s5, ob1, ob2, ob3, ob4]
      (repeat' first
    | (with_reducible refine EndK.left ?_
       refine ⟨_, _, rfl, rfl, (by assumption), by omega, by omega, ?_⟩; skip; done)
    | (with_reducible refine EndK.all ?_
       refine ⟨_, _, rfl, rfl, (by assumption), by omega, by omega, ?_⟩; skip; done)
    | (with_reducible refine pickC_at0 hR hty ?_ ?_ ?_ ?_
       · assumption
       · exact ⟨by omega, by omega⟩
       · omega
       rintro cx' _ p' hle - hp1 hp2 ⟨x, rfl, hx1, hx2⟩)
    | (with_reducible refine pickC_at hR hty ?_ ?_ ?_ ?_
       · assumption
       · exact ⟨by omega, by omega⟩
       · omega
       rintro cx' _ p' hle - hp1 hp2 ⟨x, rfl, hx1, hx2⟩)
    | (with_reducible refine numC_lit0 hR hty ?_ hl ?_ ?_ ?_ ?_ ?_ ?_
       · assumption
       · rfl
       · rfl
       · exact ⟨by omega, by omega⟩
       · decide
       · decide
       rintro cx' _ p' hle - hp1 hp2 ⟨x, rfl, hx⟩)
    | (with_reducible refine numC_lit hR hty ?_ hl ?_ ?_ ?_ ?_ ?_ ?_
       · assumption
       · rfl
       · rfl
       · exact ⟨by omega, by omega⟩
       · decide
       · decide
       rintro cx' _ p' hle - hp1 hp2 ⟨x, rfl, hx⟩)
    | (with_reducible refine wordC_at0 hR hty ?_ ?_ ?_ ?_
       · assumption
       · exact ⟨by omega, by omega⟩
       · trivial
       rintro cx' _ p' hle - hp1 hp2 ⟨wx, rfl, hw1, hw2⟩)
    | (with_reducible refine wordC_at hR hty ?_ ?_ ?_ ?_
       · assumption
       · exact ⟨by omega, by omega⟩
       · trivial
       rintro cx' _ p' hle - hp1 hp2 ⟨wx, rfl, hw1, hw2⟩)
    | (with_reducible refine l3WholeC_at0 hR hty ?_ ?_ ?_ ?_
       · assumption
       · exact ⟨by omega, by omega⟩
       · trivial
       rintro cx' _ p' hle - hp1 hp2 ⟨ix, rfl, hi1, hi2⟩)
    | (with_reducible refine l3WholeC_at hR hty ?_ ?_ ?_ ?_
       · assumption
       · exact ⟨by omega, by omega⟩
       · trivial
       rintro cx' _ p' hle - hp1 hp2 ⟨ix, rfl, hi1, hi2⟩)
    | (with_reducible refine l3RealC_at0 hR hty ?_ ?_ ?_ ?_
       · assumption
       · exact ⟨by omega, by omega⟩
       · trivial
       rintro cx' _ p' hle - hp1 hp2 ⟨fx, rfl, hf⟩)
    | (with_reducible refine l3RealC_at hR hty ?_ ?_ ?_ ?_
       · assumption
       · exact ⟨by omega, by omega⟩
       · trivial
       rintro cx' _ p' hle - hp1 hp2 ⟨fx, rfl, hf⟩)
    | (with_reducible refine fun cx' q (hle' : Le _ cx') (hl : RdL _ q _) => ?_
       have hle := Le.trans (by assumption) hle'; (try simp [Sx.get, Sx.look, Sx.put, cellsC, Value.cells, den] at hl))
    | with_reducible refine And.intro ?_ ?_
    | with_reducible intro _
    | omega
    | simp (maxSteps := 4000000) -dsimp [-Y1, -Array.all_eq_true, -Y3, -Y4, and_assoc, Y5, Tryz.f58, pickC, numC, wordC, l3WholeC, l3RealC, -Sx.splice_two, hlt, List.getElem?_append, List.set_append, List.getElem?_set, h4, h3, h2, h0, hk, hk32, s2, s3, s4, s5, ob1, ob2, ob3, ob4, i_succ (i := i) (by omega)])
      refine ⟨mem.length + 2, 4 - (i + 1), by omega, by assumption, i + 1, by omega, rfl, _, ?_, _, List.take_of_length_le (by simp), by omega, by omega, by omega⟩
      exact setR_ok (setD_ok (setC_ok (setT_ok hm7 (wrap_u16_bd _)) (wrap_u16_bd _)) ⟨hi1, by omega⟩) hf
    · have k1' : k < 16 := by omega
      have hk : 0 ≤ k ∧ k < 16 := by omega
      have hkn : k.toNat < 16 := by omega
      have hk32 : k < 32 := by omega
      have s2 := fun m b x => set_TT m b x _ hkn
      have s3 := fun m b c x => set_CC m b c x _ hkn
      have s4 := fun m x => set_D m x k.toNat (by omega)
      have s5 := fun m x => set_R m x _ hkn
      have ob1 : 5 + k.toNat * 2 ≤ 134 := by omega
      have ob2 : 37 + k.toNat * 3 ≤ 133 := by omega
      have ob3 : 85 + k.toNat ≤ 135 := by omega
      have ob4 : 117 + k.toNat < 136 := by omega
      simp (maxSteps := 4000000) -dsimp [-Y1, -Array.all_eq_true, -Y3, -Y4, and_assoc, Y5, Tryz.f58, pickC, numC, wordC, l3WholeC, l3RealC, -Sx.splice_two, hlt, List.getElem?_append, List.set_append, List.getElem?_set, h4, h3, h2, h0, hi4', h3i, hk, hk32, s2, s3, s4, s5, ob1, ob2, ob3, ob4]
      (repeat' first
    | (with_reducible refine EndK.left ?_
       refine ⟨_, _, rfl, rfl, (by assumption), by omega, by omega, ?_⟩; skip; done)
    | (with_reducible refine EndK.all ?_
       refine ⟨_, _, rfl, rfl, (by assumption), by omega, by omega, ?_⟩; skip; done)
    | (with_reducible refine pickC_at0 hR hty ?_ ?_ ?_ ?_
       · assumption
       · exact ⟨by omega, by omega⟩
       · omega
       rintro cx' _ p' hle - hp1 hp2 ⟨x, rfl, hx1, hx2⟩)
    | (with_reducible refine pickC_at hR hty ?_ ?_ ?_ ?_
       · assumption
       · exact ⟨by omega, by omega⟩
       · omega
       rintro cx' _ p' hle - hp1 hp2 ⟨x, rfl, hx1, hx2⟩)
    | (with_reducible refine numC_lit0 hR hty ?_ hl ?_ ?_ ?_ ?_ ?_ ?_
       · assumption
       · rfl
       · rfl
       · exact ⟨by omega, by omega⟩
       · decide
       · decide
       rintro cx' _ p' hle - hp1 hp2 ⟨x, rfl, hx⟩)
    | (with_reducible refine numC_lit hR hty ?_ hl ?_ ?_ ?_ ?_ ?_ ?_
       · assumption
       · rfl
       · rfl
       · exact ⟨by omega, by omega⟩
       · decide
       · decide
       rintro cx' _ p' hle - hp1 hp2 ⟨x, rfl, hx⟩)
    | (with_reducible refine wordC_at0 hR hty ?_ ?_ ?_ ?_
       · assumption
       · exact ⟨by omega, by omega⟩
       · trivial
       rintro cx' _ p' hle - hp1 hp2 ⟨wx, rfl, hw1, hw2⟩)
    | (with_reducible refine wordC_at hR hty ?_ ?_ ?_ ?_
       · assumption
       · exact ⟨by omega, by omega⟩
       · trivial
       rintro cx' _ p' hle - hp1 hp2 ⟨wx, rfl, hw1, hw2⟩)
    | (with_reducible refine l3WholeC_at0 hR hty ?_ ?_ ?_ ?_
       · assumption
       · exact ⟨by omega, by omega⟩
       · trivial
       rintro cx' _ p' hle - hp1 hp2 ⟨ix, rfl, hi1, hi2⟩)
    | (with_reducible refine l3WholeC_at hR hty ?_ ?_ ?_ ?_
       · assumption
       · exact ⟨by omega, by omega⟩
       · trivial
       rintro cx' _ p' hle - hp1 hp2 ⟨ix, rfl, hi1, hi2⟩)
    | (with_reducible refine l3RealC_at0 hR hty ?_ ?_ ?_ ?_
       · assumption
       · exact ⟨by omega, by omega⟩
       · trivial
       rintro cx' _ p' hle - hp1 hp2 ⟨fx, rfl, hf⟩)
    | (with_reducible refine l3RealC_at hR hty ?_ ?_ ?_ ?_
       · assumption
       · exact ⟨by omega, by omega⟩
       · trivial
       rintro cx' _ p' hle - hp1 hp2 ⟨fx, rfl, hf⟩)
    | (with_reducible refine fun cx' q (hle' : Le _ cx') (hl : RdL _ q _) => ?_
       have hle := Le.trans (by assumption) hle'; (try simp [Sx.get, Sx.look, Sx.put, cellsC, Value.cells, den] at hl))
    | with_reducible refine And.intro ?_ ?_
    | with_reducible intro _
    | omega
    | simp (maxSteps := 4000000) -dsimp [-Y1, -Array.all_eq_true, -Y3, -Y4, and_assoc, Y5, Tryz.f58, pickC, numC, wordC, l3WholeC, l3RealC, -Sx.splice_two, hlt, List.getElem?_append, List.set_append, List.getElem?_set, h4, h3, h2, h0, hk, hk32, s2, s3, s4, s5, ob1, ob2, ob3, ob4, i_succ (i := i) (by omega)])
      refine ⟨mem.length + 2, 4 - (i + 1), by omega, by assumption, i + 1, by omega, rfl, _, ?_, _, List.take_of_length_le (by simp), by omega, by omega, by omega⟩
      exact setR_ok (setD_ok (setC_ok (setT_ok hm7 (wrap_u16_bd _)) (wrap_u16_bd _)) ⟨hi1, by omega⟩) hf
  · have hi4' : ¬ (i : Int) < 4 := by omega
    simp (maxSteps := 4000000) -dsimp [-Y1, -Array.all_eq_true, -Y3, -Y4, and_assoc, Y5, Tryz.f58, pickC, numC, wordC, l3WholeC, l3RealC, hlt, List.getElem?_append, List.set_append, List.getElem?_set, h4, h3, h2, h0, hi4']
    refine pickC_at hR hty hle7 ⟨by omega, by omega⟩ (by omega) ?_
    rintro cx8 _ p8 hle8 - b2 b3 ⟨k, rfl, k0, k1⟩
    have hk : k < 32 ∧ k.toNat < 32 := by omega
    have s4 := fun m x => set_D m x k.toNat (by omega)
    have ob3 : 85 + k.toNat ≤ 135 := by omega
    simp (maxSteps := 4000000) -dsimp [-Y1, -Array.all_eq_true, -Y3, -Y4, and_assoc, Y5, Tryz.f58, pickC, numC, wordC, l3WholeC, l3RealC, hlt, List.getElem?_append, List.set_append, List.getElem?_set, h4, h3, h2, h0]
    refine l3WholeC_at hR hty hle8 ⟨by omega, by omega⟩ trivial ?_
    rintro cx9 _ p9 hle9 - b4 b5 ⟨ix, rfl, hi1, hi2⟩
    simp (maxSteps := 4000000) -dsimp [-Y1, -Array.all_eq_true, -Y3, -Y4, and_assoc, Y5, Tryz.f58, pickC, numC, wordC, l3WholeC, l3RealC, hlt, List.getElem?_append, List.set_append, List.getElem?_set, h4, h3, h2, h0, s4, ob3, k0, hk]
    refine pickC_at hR hty hle9 ⟨by omega, by omega⟩ (by omega) ?_
    rintro cx10 _ p10 hle10 - b6 b7 ⟨k2, rfl, k20, k21⟩
    have hk2 : k2 < 16 ∧ k2.toNat < 16 := by omega
    have s5 := fun m x => set_R m x k2.toNat (by omega)
    have ob4 : 117 + k2.toNat ≤ 135 := by omega
    simp (maxSteps := 4000000) -dsimp [-Y1, -Array.all_eq_true, -Y3, -Y4, and_assoc, Y5, Tryz.f58, pickC, numC, wordC, l3WholeC, l3RealC, hlt, List.getElem?_append, List.set_append, List.getElem?_set, h4, h3, h2, h0]
    refine l3RealC_at hR hty hle10 ⟨by omega, by omega⟩ trivial ?_
    rintro cx11 _ p11 hle11 - b8 b9 ⟨fx, rfl, hf⟩
    simp (maxSteps := 4000000) -dsimp [-Y1, -Array.all_eq_true, -Y3, -Y4, and_assoc, Y5, Tryz.f58, pickC, numC, wordC, l3WholeC, l3RealC, hlt, List.getElem?_append, List.set_append, List.getElem?_set, h4, h3, h2, h0, s5, ob4, k20, hk2]
    (repeat' first
    | (with_reducible refine EndK.left ?_
       refine ⟨_, _, rfl, rfl, (by assumption), by omega, by omega, ?_⟩; skip; done)
    | (with_reducible refine EndK.all ?_
       refine ⟨_, _, rfl, rfl, (by assumption), by omega, by omega, ?_⟩; skip; done)
    | (with_reducible refine pickC_at0 hR hty ?_ ?_ ?_ ?_
       · assumption
       · exact ⟨by omega, by omega⟩
       · omega
       rintro cx' _ p' hle - hp1 hp2 ⟨x, rfl, hx1, hx2⟩)
    | (with_reducible refine pickC_at hR hty ?_ ?_ ?_ ?_
       · assumption
       · exact ⟨by omega, by omega⟩
       · omega
       rintro cx' _ p' hle - hp1 hp2 ⟨x, rfl, hx1, hx2⟩)
    | (with_reducible refine numC_lit0 hR hty ?_ hl ?_ ?_ ?_ ?_ ?_ ?_
       · assumption
       · rfl
       · rfl
       · exact ⟨by omega, by omega⟩
       · decide
       · decide
       rintro cx' _ p' hle - hp1 hp2 ⟨x, rfl, hx⟩)
    | (with_reducible refine numC_lit hR hty ?_ hl ?_ ?_ ?_ ?_ ?_ ?_
       · assumption
       · rfl
       · rfl
       · exact ⟨by omega, by omega⟩
       · decide
       · decide
       rintro cx' _ p' hle - hp1 hp2 ⟨x, rfl, hx⟩)
    | (with_reducible refine wordC_at0 hR hty ?_ ?_ ?_ ?_
       · assumption
       · exact ⟨by omega, by omega⟩
       · trivial
       rintro cx' _ p' hle - hp1 hp2 ⟨wx, rfl, hw1, hw2⟩)
    | (with_reducible refine wordC_at hR hty ?_ ?_ ?_ ?_
       · assumption
       · exact ⟨by omega, by omega⟩
       · trivial
       rintro cx' _ p' hle - hp1 hp2 ⟨wx, rfl, hw1, hw2⟩)
    | (with_reducible refine l3WholeC_at0 hR hty ?_ ?_ ?_ ?_
       · assumption
       · exact ⟨by omega, by omega⟩
       · trivial
       rintro cx' _ p' hle - hp1 hp2 ⟨ix, rfl, hi1, hi2⟩)
    | (with_reducible refine l3WholeC_at hR hty ?_ ?_ ?_ ?_
       · assumption
       · exact ⟨by omega, by omega⟩
       · trivial
       rintro cx' _ p' hle - hp1 hp2 ⟨ix, rfl, hi1, hi2⟩)
    | (with_reducible refine l3RealC_at0 hR hty ?_ ?_ ?_ ?_
       · assumption
       · exact ⟨by omega, by omega⟩
       · trivial
       rintro cx' _ p' hle - hp1 hp2 ⟨fx, rfl, hf⟩)
    | (with_reducible refine l3RealC_at hR hty ?_ ?_ ?_ ?_
       · assumption
       · exact ⟨by omega, by omega⟩
       · trivial
       rintro cx' _ p' hle - hp1 hp2 ⟨fx, rfl, hf⟩)
    | (with_reducible refine fun cx' q (hle' : Le _ cx') (hl : RdL _ q _) => ?_
       have hle := Le.trans (by assumption) hle'; (try simp [Sx.get, Sx.look, Sx.put, cellsC, Value.cells, den] at hl))
    | with_reducible refine And.intro ?_ ?_
    | with_reducible intro _
    | omega
    | simp (maxSteps := 4000000) -dsimp [-Y1, -Array.all_eq_true, -Y3, -Y4, and_assoc, Y5, Tryz.f58, pickC, numC, wordC, l3WholeC, l3RealC, hlt, List.getElem?_append, List.set_append, List.getElem?_set, h4, h3, h2, h0])
    refine EndK.left ⟨_, _, rfl, rfl, by assumption, by omega, by omega, _, rfl, ?_⟩
    have hz := setR_ok (j := k2.toNat) (setD_ok (j := k.toNat) hm7 ⟨hi1, by omega⟩) hf
    exact ⟨hz.X, hz.Y, hz.Mw, hz.S, hz.E, hz.T, hz.C, hz.D, hz.R, wrap_u32_bd _⟩
def l5DrawC_S : Draws Tryz.prog 160 200 58 where
  ι := Unit
  A := fun (_u : Unit) => []
  pre := fun (_u : Unit) (F : Facts) => True
  post := fun (_u : Unit) (v : Value) (F : Facts) => ∃ m, v = .agg (cells m) ∧ MOk m
  mono := fun _ _ _ _ _ => trivial
  enter := Tryz.call58
  h := fun _u R p cx mem w h1 h2 h3 h4 h5 h6 => l5DrawC_c  R p cx mem w h1 h2 h3 h4 h5 h6
def l5DrawC : Con Tryz.prog := Con.draw l5DrawC_S
theorem l5DrawC_at  {d : Nat} {R : Rdr} {cx0 cx : Cx} {mem0 : List Blk} {ex : List Blk} {K : Cx → C → List Blk → Prop} {p : Int} (hR : R.Is (factF cx0) mem0) (hty : R.ty = 160) (hle : Le cx0 cx) (hp : 0 ≤ p ∧ p + 200 ≤ 1125899906842624) (hpre : True)
    (h : ∀ cx' v p', Le cx0 cx' → Le cx cx' → p ≤ p' → p' ≤ p + 200 → (∃ m, v = .agg (cells m) ∧ MOk m) → K cx' (.v v) (mem0.set R.k (R.blk p') ++ ex)) :
    DrawV d l5DrawC_S cx [.p R.k R.b 0] (mem0.set R.k (R.blk p) ++ ex) K := DrawV.at (S := l5DrawC_S) hR hty hle () hp hpre h
theorem l5DrawC_at0  {d : Nat} {R : Rdr} {cx0 cx : Cx} {mem0 : List Blk} {K : Cx → C → List Blk → Prop} {p : Int} (hR : R.Is (factF cx0) mem0) (hty : R.ty = 160) (hle : Le cx0 cx) (hp : 0 ≤ p ∧ p + 200 ≤ 1125899906842624) (hpre : True)
    (h : ∀ cx' v p', Le cx0 cx' → Le cx cx' → p ≤ p' → p' ≤ p + 200 → (∃ m, v = .agg (cells m) ∧ MOk m) → K cx' (.v v) (mem0.set R.k (R.blk p'))) :
    DrawV d l5DrawC_S cx [.p R.k R.b 0] (mem0.set R.k (R.blk p)) K := DrawV.at0 (S := l5DrawC_S) hR hty hle () hp hpre h

theorem open_is {cx : Cx} {mem : List Blk} {b : Nat} {o : Option Addr} {cap : Nat} {bs : List Int} (h : RdB (factF cx) o bs) (hb : ∀ b ∈ bs, 0 ≤ b ∧ b < 256) :
    (⟨mem.length, b, o, cap, bs.take 2000, 160⟩ : Rdr).Is (factF cx) (mem ++ [(⟨mem.length, b, o, cap, bs.take 2000, 160⟩ : Rdr).blk 0]) := by
  refine ⟨by simp, fun j x hx => ?_, fun x hx => hb x (List.mem_of_mem_take hx), by simp; omega⟩
  simp only [List.map_take] at hx
  rw [List.getElem?_take] at hx
  split at hx
  · exact h j x hx
  · simp at hx
theorem l10OpenC_c (o : Option Addr) (cap : Nat) (bs : List Int) (cx : Cx) (mem : List Blk) (w : World) (hpre : RdB (factF cx) o bs ∧ (∀ b ∈ bs, 0 ≤ b ∧ b < 256) ∧ bs.length ≤ cap ∧ cap ≤ maxLen) (hm : MemRel cx mem w) :
    Calls Tryz.prog 59 (([.v (.slice o bs.length cap)] : List C).map den).toArray w fun e w' => ∃ cx' c mem', e = .returned (den c) ∧ MemRel cx' mem' w' ∧ ∃ (R : Rdr) (mem0 : List Blk) (p0 : Int), c = .p R.k R.b 0 ∧ mem' = mem0.set R.k (R.blk p0) ∧ p0 = 0 ∧ R.Is (factF cx') mem0 ∧ R.ty = 160 ∧ Le cx cx' ∧ mem0.take mem.length = mem ∧ R.k = mem.length ∧ mem0.length = mem.length + 1 := by
  refine step_of_vcs ⟨[], []⟩ hmx Tryz.func59 rfl (by kernel_rfl) (args := [.v (.slice o bs.length cap)]) (by simp [Tryz.ntmps59]) hm (fun cx' c mem' => ∃ (R : Rdr) (mem0 : List Blk) (p0 : Int), c = .p R.k R.b 0 ∧ mem' = mem0.set R.k (R.blk p0) ∧ p0 = 0 ∧ R.Is (factF cx') mem0 ∧ R.ty = 160 ∧ Le cx cx' ∧ mem0.take mem.length = mem ∧ R.k = mem.length ∧ mem0.length = mem.length + 1) 400 ?_
  obtain ⟨h, hb, hc, hcm⟩ := hpre
  have hcm' : cap ≤ 9223372036854775807 := by unfold maxLen at hcm; omega
  by_cases h2 : 2000 < bs.length
  · have h2' : (2000 : Int) < bs.length := by omega
    have h3 : (2000 : Int) ≤ cap := by omega
    simp (maxSteps := 4000000) -dsimp [-Y1, -Array.all_eq_true, -Y3, -Y4, and_assoc, Y5, Tryz.f59, h2', h3]
    intro b
    refine EndK.all ⟨⟨mem.length, b, o, cap, bs.take 2000, 160⟩, _, 0, rfl, ?_, rfl, open_is h hb, rfl, Le.refl _, by simp, rfl, by simp⟩
    simp [Rdr.blk]
    omega
  · have h2' : ¬ (2000 : Int) < bs.length := by omega
    simp (maxSteps := 4000000) -dsimp [-Y1, -Array.all_eq_true, -Y3, -Y4, and_assoc, Y5, Tryz.f59, h2']
    intro b
    refine EndK.all ⟨⟨mem.length, b, o, cap, bs.take 2000, 160⟩, _, 0, rfl, ?_, rfl, open_is h hb, rfl, Le.refl _, by simp, rfl, by simp⟩
    simp [Rdr.blk]
    omega
def l10OpenC_S : Gens Tryz.prog 59 where
  ι := ((Option Addr) × (Nat) × (List Int))
  A := fun (i : ((Option Addr) × (Nat) × (List Int))) => match i with | (o, cap, bs) => [.v (.slice o bs.length cap)]
  pre := fun (i : ((Option Addr) × (Nat) × (List Int))) (cx : Cx) (mem : List Blk) => match i with | (o, cap, bs) => RdB (factF cx) o bs ∧ (∀ b ∈ bs, 0 ≤ b ∧ b < 256) ∧ bs.length ≤ cap ∧ cap ≤ maxLen
  post := fun (i : ((Option Addr) × (Nat) × (List Int))) (cx : Cx) (mem : List Blk) (cx' : Cx) (c : C) (mem' : List Blk) => match i with | (o, cap, bs) => ∃ (R : Rdr) (mem0 : List Blk) (p0 : Int), c = .p R.k R.b 0 ∧ mem' = mem0.set R.k (R.blk p0) ∧ p0 = 0 ∧ R.Is (factF cx') mem0 ∧ R.ty = 160 ∧ Le cx cx' ∧ mem0.take mem.length = mem ∧ R.k = mem.length ∧ mem0.length = mem.length + 1
  enter := Tryz.call59
  h := fun i cx mem w hp hm => l10OpenC_c i.1 i.2.1 i.2.2 cx mem w hp hm
def l10OpenC : Con Tryz.prog := Con.gen l10OpenC_S
theorem l10OpenC_at {o : Option Addr} {cap : Nat} {bs : List Int} {d : Nat} {cx : Cx} {mem : List Blk} {K : Cx → C → List Blk → Prop} (hpre : RdB (factF cx) o bs ∧ (∀ b ∈ bs, 0 ≤ b ∧ b < 256) ∧ bs.length ≤ cap ∧ cap ≤ maxLen) (h : ∀ cx' c mem', (∃ (R : Rdr) (mem0 : List Blk) (p0 : Int), c = .p R.k R.b 0 ∧ mem' = mem0.set R.k (R.blk p0) ∧ p0 = 0 ∧ R.Is (factF cx') mem0 ∧ R.ty = 160 ∧ Le cx cx' ∧ mem0.take mem.length = mem ∧ R.k = mem.length ∧ mem0.length = mem.length + 1) → K cx' c mem') : GenV d l10OpenC_S cx [.v (.slice o bs.length cap)] mem K := ⟨(o, cap, bs), rfl, hpre, h⟩
theorem take_get {mem0 mem : List Blk} {n : Nat} (h : mem0.take n = mem) (k : Nat) (hk : k < mem.length) : mem0[k]? = some (mem[k]'hk) := by
  subst h
  rw [List.length_take] at hk
  simp [show k < n by omega, show k < mem0.length by omega]
end Go.Proofs.YtclbanhoiaieaaaGreatDoor
namespace Go.Proofs.YtclbanhoiaieaaaGreatDoor
open Go Go.Sx

end Go.Proofs.YtclbanhoiaieaaaGreatDoor
namespace Go.Proofs.YtclbanhoiaieaaaGreatDoor
open Go Go.Sx

end Go.Proofs.YtclbanhoiaieaaaGreatDoor
