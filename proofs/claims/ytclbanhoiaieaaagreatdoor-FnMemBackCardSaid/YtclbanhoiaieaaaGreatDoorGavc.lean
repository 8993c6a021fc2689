/-
  Contracts: what draws out of a code: a number, one of a list, a word.
-/
import Derived.Test.YtclbanhoiaieaaaGreatDoorPvc
import Derived.Test.YtclbanhoiaieaaaGreatDoorFactsvc
set_option linter.unusedVariables false
set_option linter.unusedSimpArgs false
set_option maxRecDepth 100000
set_option maxHeartbeats 4000000
namespace Go.Proofs.YtclbanhoiaieaaaGreatDoor
open Go Go.Sx
attribute [local simp] Sx.vcsE1 Sx.vcsE2 Sx.vcsE3 Sx.vcsE4 Sx.vcsE5 Sx.vcsE6 Sx.vcsE7 Sx.vcsE8 Sx.vcsE9 Sx.vcsE10 Sx.vcsE11 Sx.vcsE12 Sx.vcsE13 Sx.vcsE14 Sx.vcsE15 Sx.vcsE16 Sx.vcsE17 Sx.vcsE18 Sx.vcsE19 Sx.get Sx.look Sx.put Sx.pureFn Sx.findOrd Sx.unF Sx.dstOk Sx.isFloatT Sx.endVC Sx.resFn Sx.packC Sx.newFn Sx.storeFn Sx.buildFn Sx.known Sx.aggT Sx.cellsC Sx.findCon Sx.allV Sx.partsV Sx.partsC Sx.fillL Sx.exitTo Sx.fAr Sx.eqFn Sx.eqFieldsFn Sx.eqElemsFn Sx.partFn Sx.sliceFn Sx.boundFn Sx.AppV Sx.CopyV Sx.MakeSliceV Sx.NewsV Sx.GrowV Sx.TextV Sx.bytesL Sx.notInt Sx.typeAt Sx.argAt Sx.den Go.undef Go.Value.cells Go.Value.oneCell' Sx.Con.pure Sx.Con.some Sx.Con.read Sx.Con.make Sx.Con.ext Sx.Con.rel Sx.Con.extS Sx.Con.draw Sx.Con.step Sx.C.one Sx.Draws.steps

theorem xor_bd {a b : Int} (h1 : 0 ≤ a) (h2 : a < 4611686018427387904) (h3 : 0 ≤ b) (h4 : b < 4611686018427387904) :
    0 ≤ IntKind.i64.wrap ((BitVec.ofInt 64 a ^^^ BitVec.ofInt 64 b).toNat : Int) ∧ IntKind.i64.wrap ((BitVec.ofInt 64 a ^^^ BitVec.ofInt 64 b).toNat : Int) < 4611686018427387904 := by
  obtain ⟨x, rfl⟩ := Int.eq_ofNat_of_zero_le h1
  obtain ⟨y, rfl⟩ := Int.eq_ofNat_of_zero_le h3
  have e : (BitVec.ofInt 64 (x : Int) ^^^ BitVec.ofInt 64 (y : Int)).toNat = x ^^^ y := by
    rw [BitVec.toNat_xor]
    have e1 : (BitVec.ofInt 64 (x : Int)).toNat = x := by simp; omega
    have e2 : (BitVec.ofInt 64 (y : Int)).toNat = y := by simp; omega
    rw [e1, e2]
  rw [e]
  have := Nat.xor_lt_two_pow (x := x) (y := y) (n := 62) (by omega) (by omega)
  rw [wrap_i64 (by omega) (by omega)]
  omega
theorem rem_bd {x n : Int} (hx : 0 ≤ x) (hn : 1 ≤ n) : 0 ≤ x.tmod n ∧ (x.tmod n < n ∨ x.tmod n = 0) :=
  ⟨Int.tmod_nonneg _ hx, Or.inl (Int.tmod_lt_of_pos _ (by omega))⟩
theorem pickC_c (n : Int) (R : Rdr) (p : Int) (cx : Cx) (mem : List Blk) (w : World) (hty : R.ty = 160) (hR : R.Is (factF cx) mem) (hp : 0 ≤ p) (hpc : p + 1 ≤ 1125899906842624) (hpre : n ≤ 1048576) (hm : MemRel cx (mem.set R.k (R.blk p)) w) :
    Calls Tryz.prog 70 ((.p R.k R.b 0 :: [.v (.int .i64 n)] : List C).map den).toArray w fun e w' => ∃ cx' x mem', e = .returned (den x) ∧ MemRel cx' mem' w' ∧ (fun cx' x mem' => ∃ v p', x = .v v ∧ mem' = mem.set R.k (R.blk p') ∧ Le cx cx' ∧ p ≤ p' ∧ p' ≤ p + 1 ∧ (∃ x, v = .int .i64 x ∧ 0 ≤ x ∧ (x < n ∨ x = 0))) cx' x mem' := by
  refine step_of_vcs ⟨[], []⟩ hmx Tryz.func70 rfl (by kernel_rfl) (args := .p R.k R.b 0 :: [.v (.int .i64 n)]) (by simp [Tryz.ntmps70]) hm (fun cx' x mem' => ∃ v p', x = .v v ∧ mem' = mem.set R.k (R.blk p') ∧ Le cx cx' ∧ p ≤ p' ∧ p' ≤ p + 1 ∧ (∃ x, v = .int .i64 x ∧ 0 ≤ x ∧ (x < n ∨ x = 0))) 400 ?_
  have hk := hR.lt
  have e1 : IntKind.i64.wrap (p + 1) = p + 1 := wrap_i64 (by omega) (by omega)
  have e2 : IntKind.i64.wrap p = p := wrap_i64 (by omega) (by omega)
  have key : ∀ x, 0 ≤ x ∧ (x < n ∨ x = 0) → EndK 2 (fun cx' x mem' => ∃ v p', x = .v v ∧ mem' = mem.set R.k (R.blk p') ∧ Le cx cx' ∧ p ≤ p' ∧ p' ≤ p + 1 ∧ ∃ x, v = .int .i64 x ∧ 0 ≤ x ∧ (x < n ∨ x = 0)) cx (.v (.int .i64 x)) (mem.set R.k ⟨R.b, [.v (.slice R.o R.bs.length R.cap), .v (.int .i64 (p + 1))], R.ty⟩) :=
    fun x hx => EndK.all ⟨_, p + 1, rfl, rfl, Le.refl _, by omega, by omega, x, rfl, hx⟩
  by_cases hn : n < 1
  · simp (maxSteps := 4000000) -dsimp [-List.all_eq_true, -Array.all_eq_true, -Bool.exists_bool, -Bool.forall_bool, and_assoc, List.zipIdx, Tryz.f70, hk, e1, e2, hn, Rdr.blk]
    exact key 0 (by omega)
  by_cases hl : R.bs.length = 0
  · have hl' : R.bs = [] := List.length_eq_zero_iff.1 hl
    simp (maxSteps := 4000000) -dsimp [-List.all_eq_true, -Array.all_eq_true, -Bool.exists_bool, -Bool.forall_bool, and_assoc, List.zipIdx, Tryz.f70, hk, e1, e2, hn, Rdr.blk, hl']
    have := key 0 (by omega)
    simpa [hl'] using this
  have hl1 : ¬ (R.bs.length : Int) = 0 := by omega
  have hlen := hR.len
  by_cases hlt : p < R.bs.length
  · obtain ⟨x, hx⟩ : ∃ x, R.bs[p.toNat]? = some x := ⟨R.bs[p.toNat]'(by omega), by simp [show p.toNat < R.bs.length by omega]⟩
    have hb := hR.byte x (List.mem_of_getElem? hx)
    have hth := hR.rd.there (i := p.toNat) (by omega)
    have e3 : IntKind.i64.wrap x = x := wrap_i64 (by omega) (by omega)
    have hn0 : ¬ n = 0 := by omega
    simp (maxSteps := 4000000) -dsimp [-List.all_eq_true, -Array.all_eq_true, -Bool.exists_bool, -Bool.forall_bool, and_assoc, List.zipIdx, Tryz.f70, hk, e1, e2, hn, Rdr.blk, hl, hl1, hlt, hp, hth, hR.rd.ld _ hx, e3, hn0]
    exact key _ (rem_bd hb.1 (by omega))
  · have hLp : (0 : Int) < R.bs.length := by omega
    have i1 := Int.tmod_nonneg (R.bs.length : Int) hp
    have i2 := Int.tmod_lt_of_pos p hLp
    have i3 := Int.tmod_nonneg (R.bs.length : Int) (show 0 ≤ p * 7 + 3 by omega)
    have i4 := Int.tmod_lt_of_pos (p * 7 + 3) hLp
    obtain ⟨x, hx⟩ : ∃ x, R.bs[(p.tmod R.bs.length).toNat]? = some x := ⟨R.bs[(p.tmod R.bs.length).toNat]'(by omega), by simp [show (p.tmod R.bs.length).toNat < R.bs.length by omega]⟩
    obtain ⟨y, hy⟩ : ∃ y, R.bs[((p * 7 + 3).tmod R.bs.length).toNat]? = some y := ⟨R.bs[((p * 7 + 3).tmod R.bs.length).toNat]'(by omega), by simp [show ((p * 7 + 3).tmod R.bs.length).toNat < R.bs.length by omega]⟩
    have hb := hR.byte x (List.mem_of_getElem? hx)
    have hc := hR.byte y (List.mem_of_getElem? hy)
    have hth := hR.rd.there (i := 0) (by omega)
    have hn0 : ¬ n = 0 := by omega
    have d1 : 0 ≤ p.tdiv R.bs.length := Int.tdiv_nonneg hp (by omega)
    have d2 : p.tdiv R.bs.length ≤ p := Int.tdiv_le_self _ hp
    have e3 : IntKind.i64.wrap x = x := wrap_i64 (by omega) (by omega)
    have e4 : IntKind.i64.wrap y = y := wrap_i64 (by omega) (by omega)
    have e5 : IntKind.i64.wrap (p * 7) = p * 7 := wrap_i64 (by omega) (by omega)
    have e6 : IntKind.i64.wrap (p * 7 + 3) = p * 7 + 3 := wrap_i64 (by omega) (by omega)
    have e7 : IntKind.i64.wrap (x * 131) = x * 131 := wrap_i64 (by omega) (by omega)
    have e8 : IntKind.i64.wrap (y * 1117) = y * 1117 := wrap_i64 (by omega) (by omega)
    have e9 : IntKind.i64.wrap (x * 131 + y * 1117) = x * 131 + y * 1117 := wrap_i64 (by omega) (by omega)
    have e10 : IntKind.i64.wrap (p * 29) = p * 29 := wrap_i64 (by omega) (by omega)
    have e11 : IntKind.i64.wrap (x * 131 + y * 1117 + p * 29) = x * 131 + y * 1117 + p * 29 := wrap_i64 (by omega) (by omega)
    have e12 : IntKind.i64.wrap (p.tdiv R.bs.length) = p.tdiv R.bs.length := wrap_i64 (by omega) (by omega)
    have e13 : IntKind.i64.wrap (p.tdiv R.bs.length * 53) = p.tdiv R.bs.length * 53 := wrap_i64 (by omega) (by omega)
    have e14 : IntKind.i64.wrap (x * 131 + y * 1117 + p * 29 + p.tdiv R.bs.length * 53) = x * 131 + y * 1117 + p * 29 + p.tdiv R.bs.length * 53 := wrap_i64 (by omega) (by omega)
    simp (maxSteps := 4000000) -dsimp [-List.all_eq_true, -Array.all_eq_true, -Bool.exists_bool, -Bool.forall_bool, and_assoc, List.zipIdx, Tryz.f70, hk, e1, e2, hn, Rdr.blk, hl, hl1, hlt, hth, i1, i2, i3, i4, hR.rd.ld _ hx, hR.rd.ld _ hy, e3, e4, e5, e6, e7, e8, e9, e10, e11, e12, e13, e14, hn0]
    have z0 : 0 ≤ x * 131 + y * 1117 + p * 29 + p.tdiv R.bs.length * 53 ∧ x * 131 + y * 1117 + p * 29 + p.tdiv R.bs.length * 53 < 4611686018427387904 := by omega
    generalize x * 131 + y * 1117 + p * 29 + p.tdiv R.bs.length * 53 = z at *
    have z1 : 0 ≤ z.tdiv 64 := Int.tdiv_nonneg z0.1 (by omega)
    have z2 : z.tdiv 64 ≤ z := Int.tdiv_le_self _ z0.1
    rw [wrap_i64 (x := z.tdiv 64) (by omega) (by omega)]
    have z3 := xor_bd z0.1 z0.2 z1 (by omega)
    exact key _ (rem_bd z3.1 (by omega))
def pickC_S : Draws Tryz.prog 160 1 70 where
  ι := ((Int))
  A := fun (n : ((Int))) => [.v (.int .i64 n)]
  pre := fun (n : ((Int))) (F : Facts) => n ≤ 1048576
  post := fun (n : ((Int))) (v : Value) (F : Facts) => ∃ x, v = .int .i64 x ∧ 0 ≤ x ∧ (x < n ∨ x = 0)
  mono := by
    intro i F G hs h
    first | exact h | exact h.mono hs | exact ⟨h.1.mono hs, h.2⟩ | exact ⟨h.1.mono hs, h.2.1.mono hs, h.2.2⟩ | exact ⟨h.1.mono hs, h.2.1.mono hs⟩ | exact ⟨h.1.mono hs, h.2.1.mono hs, h.2.2.1.mono hs, h.2.2.2⟩
  enter := Tryz.call70
  h := fun n R p cx mem w h1 h2 h3 h4 h5 h6 => pickC_c n R p cx mem w h1 h2 h3 h4 h5 h6
def pickC : Con Tryz.prog := Con.draw pickC_S
theorem pickC_at {n : Int} {d : Nat} {R : Rdr} {cx0 cx : Cx} {mem0 : List Blk} {ex : List Blk} {K : Cx → C → List Blk → Prop} {p : Int} (hR : R.Is (factF cx0) mem0) (hty : R.ty = 160) (hle : Le cx0 cx) (hp : 0 ≤ p ∧ p + 1 ≤ 1125899906842624) (hpre : n ≤ 1048576)
    (h : ∀ cx' v p', Le cx0 cx' → Le cx cx' → p ≤ p' → p' ≤ p + 1 → (∃ x, v = .int .i64 x ∧ 0 ≤ x ∧ (x < n ∨ x = 0)) → K cx' (.v v) (mem0.set R.k (R.blk p') ++ ex)) :
    DrawV d pickC_S cx [.p R.k R.b 0, .v (.int .i64 n)] (mem0.set R.k (R.blk p) ++ ex) K := DrawV.at (S := pickC_S) hR hty hle n hp hpre h
theorem pickC_at0 {n : Int} {d : Nat} {R : Rdr} {cx0 cx : Cx} {mem0 : List Blk} {K : Cx → C → List Blk → Prop} {p : Int} (hR : R.Is (factF cx0) mem0) (hty : R.ty = 160) (hle : Le cx0 cx) (hp : 0 ≤ p ∧ p + 1 ≤ 1125899906842624) (hpre : n ≤ 1048576)
    (h : ∀ cx' v p', Le cx0 cx' → Le cx cx' → p ≤ p' → p' ≤ p + 1 → (∃ x, v = .int .i64 x ∧ 0 ≤ x ∧ (x < n ∨ x = 0)) → K cx' (.v v) (mem0.set R.k (R.blk p'))) :
    DrawV d pickC_S cx [.p R.k R.b 0, .v (.int .i64 n)] (mem0.set R.k (R.blk p)) K := DrawV.at0 (S := pickC_S) hR hty hle n hp hpre h
theorem numC_c (o : Option Addr) (cap : Nat) (ks : List Int) (R : Rdr) (p : Int) (cx : Cx) (mem : List Blk) (w : World) (hty : R.ty = 160) (hR : R.Is (factF cx) mem) (hp : 0 ≤ p) (hpc : p + 1 ≤ 1125899906842624) (hpre : RdI (factF cx) o ks ∧ 0 < ks.length ∧ ks.length ≤ 1000) (hm : MemRel cx (mem.set R.k (R.blk p)) w) :
    Calls Tryz.prog 74 ((.p R.k R.b 0 :: [.v (.slice o ks.length cap)] : List C).map den).toArray w fun e w' => ∃ cx' x mem', e = .returned (den x) ∧ MemRel cx' mem' w' ∧ (fun cx' x mem' => ∃ v p', x = .v v ∧ mem' = mem.set R.k (R.blk p') ∧ Le cx cx' ∧ p ≤ p' ∧ p' ≤ p + 1 ∧ (∃ x, v = .int .i64 x ∧ x ∈ ks)) cx' x mem' := by
  refine step_of_vcs ⟨[pickC], []⟩ hmx Tryz.func74 rfl (by kernel_rfl) (args := .p R.k R.b 0 :: [.v (.slice o ks.length cap)]) (by simp [Tryz.ntmps74]) hm (fun cx' x mem' => ∃ v p', x = .v v ∧ mem' = mem.set R.k (R.blk p') ∧ Le cx cx' ∧ p ≤ p' ∧ p' ≤ p + 1 ∧ (∃ x, v = .int .i64 x ∧ x ∈ ks)) 400 ?_
  obtain ⟨h1, h2, h3⟩ := hpre
  simp (maxSteps := 4000000) -dsimp [-List.all_eq_true, -Array.all_eq_true, -Bool.exists_bool, -Bool.forall_bool, and_assoc, List.zipIdx, Tryz.f74, pickC]
  refine pickC_at0 hR hty (Le.refl _) ⟨by omega, by omega⟩ (by omega) ?_
  rintro cx1 v1 p1 hle1 - b1 b2 ⟨x, rfl, x1, x2⟩
  have x3 : x < ks.length := by omega
  obtain ⟨y, hy⟩ : ∃ y, ks[x.toNat]? = some y := ⟨ks[x.toNat]'(by omega), by simp [show x.toNat < ks.length by omega]⟩
  have hc := h1.mono hle1.fact
  simp (maxSteps := 4000000) -dsimp [-List.all_eq_true, -Array.all_eq_true, -Bool.exists_bool, -Bool.forall_bool, and_assoc, List.zipIdx, Tryz.f74, pickC, x1, x3, hc.there (i := 0) (by omega), hc.ld _ hy]
  exact EndK.all ⟨_, p1, rfl, rfl, hle1, by omega, by omega, y, rfl, List.mem_of_getElem? hy⟩
def numC_S : Draws Tryz.prog 160 1 74 where
  ι := ((Option Addr) × (Nat) × (List Int))
  A := fun (i : ((Option Addr) × (Nat) × (List Int))) => match i with | (o, cap, ks) => [.v (.slice o ks.length cap)]
  pre := fun (i : ((Option Addr) × (Nat) × (List Int))) (F : Facts) => match i with | (o, cap, ks) => RdI F o ks ∧ 0 < ks.length ∧ ks.length ≤ 1000
  post := fun (i : ((Option Addr) × (Nat) × (List Int))) (v : Value) (F : Facts) => match i with | (o, cap, ks) => ∃ x, v = .int .i64 x ∧ x ∈ ks
  mono := by
    intro i F G hs h
    first | exact h | exact h.mono hs | exact ⟨h.1.mono hs, h.2⟩ | exact ⟨h.1.mono hs, h.2.1.mono hs, h.2.2⟩ | exact ⟨h.1.mono hs, h.2.1.mono hs⟩ | exact ⟨h.1.mono hs, h.2.1.mono hs, h.2.2.1.mono hs, h.2.2.2⟩
  enter := Tryz.call74
  h := fun i R p cx mem w h1 h2 h3 h4 h5 h6 => numC_c i.1 i.2.1 i.2.2 R p cx mem w h1 h2 h3 h4 h5 h6
def numC : Con Tryz.prog := Con.draw numC_S
theorem numC_at {o : Option Addr} {cap : Nat} {ks : List Int} {d : Nat} {R : Rdr} {cx0 cx : Cx} {mem0 : List Blk} {ex : List Blk} {K : Cx → C → List Blk → Prop} {p : Int} (hR : R.Is (factF cx0) mem0) (hty : R.ty = 160) (hle : Le cx0 cx) (hp : 0 ≤ p ∧ p + 1 ≤ 1125899906842624) (hpre : RdI (factF cx) o ks ∧ 0 < ks.length ∧ ks.length ≤ 1000)
    (h : ∀ cx' v p', Le cx0 cx' → Le cx cx' → p ≤ p' → p' ≤ p + 1 → (∃ x, v = .int .i64 x ∧ x ∈ ks) → K cx' (.v v) (mem0.set R.k (R.blk p') ++ ex)) :
    DrawV d numC_S cx [.p R.k R.b 0, .v (.slice o ks.length cap)] (mem0.set R.k (R.blk p) ++ ex) K := DrawV.at (S := numC_S) hR hty hle (o, cap, ks) hp hpre h
theorem numC_at0 {o : Option Addr} {cap : Nat} {ks : List Int} {d : Nat} {R : Rdr} {cx0 cx : Cx} {mem0 : List Blk} {K : Cx → C → List Blk → Prop} {p : Int} (hR : R.Is (factF cx0) mem0) (hty : R.ty = 160) (hle : Le cx0 cx) (hp : 0 ≤ p ∧ p + 1 ≤ 1125899906842624) (hpre : RdI (factF cx) o ks ∧ 0 < ks.length ∧ ks.length ≤ 1000)
    (h : ∀ cx' v p', Le cx0 cx' → Le cx cx' → p ≤ p' → p' ≤ p + 1 → (∃ x, v = .int .i64 x ∧ x ∈ ks) → K cx' (.v v) (mem0.set R.k (R.blk p'))) :
    DrawV d numC_S cx [.p R.k R.b 0, .v (.slice o ks.length cap)] (mem0.set R.k (R.blk p)) K := DrawV.at0 (S := numC_S) hR hty hle (o, cap, ks) hp hpre h
def intsOf (vs : List Value) : List Int := vs.map fun | .int _ n => n | _ => 0
theorem numC_lit {d : Nat} {R : Rdr} {cx0 cx : Cx} {mem0 ex : List Blk} {K : Cx → C → List Blk → Prop} {p : Int} {q : Option Addr} {n : Nat} {vs : List Value} (hR : R.Is (factF cx0) mem0) (hty : R.ty = 160) (hle : Le cx0 cx) (hl : RdL (newF cx) q vs)
    (e : (intsOf vs).map (Value.int .i64) = vs) (hn : n = (intsOf vs).length) (hp : 0 ≤ p ∧ p + 1 ≤ 1125899906842624) (h0 : 0 < (intsOf vs).length) (h1 : (intsOf vs).length ≤ 1000)
    (h : ∀ cx' v p', Le cx0 cx' → Le cx cx' → p ≤ p' → p' ≤ p + 1 → (∃ x, v = .int .i64 x ∧ x ∈ intsOf vs) → K cx' (.v v) (mem0.set R.k (R.blk p') ++ ex)) :
    DrawV d numC_S cx [.p R.k R.b 0, .v (.slice q n n)] (mem0.set R.k (R.blk p) ++ ex) K := by
  subst hn
  exact numC_at hR hty hle hp ⟨(hl.ints _ e).mono (sub_new cx), h0, h1⟩ h
theorem numC_lit0 {d : Nat} {R : Rdr} {cx0 cx : Cx} {mem0 : List Blk} {K : Cx → C → List Blk → Prop} {p : Int} {q : Option Addr} {n : Nat} {vs : List Value} (hR : R.Is (factF cx0) mem0) (hty : R.ty = 160) (hle : Le cx0 cx) (hl : RdL (newF cx) q vs)
    (e : (intsOf vs).map (Value.int .i64) = vs) (hn : n = (intsOf vs).length) (hp : 0 ≤ p ∧ p + 1 ≤ 1125899906842624) (h0 : 0 < (intsOf vs).length) (h1 : (intsOf vs).length ≤ 1000)
    (h : ∀ cx' v p', Le cx0 cx' → Le cx cx' → p ≤ p' → p' ≤ p + 1 → (∃ x, v = .int .i64 x ∧ x ∈ intsOf vs) → K cx' (.v v) (mem0.set R.k (R.blk p'))) :
    DrawV d numC_S cx [.p R.k R.b 0, .v (.slice q n n)] (mem0.set R.k (R.blk p)) K := by
  subst hn
  exact numC_at0 hR hty hle hp ⟨(hl.ints _ e).mono (sub_new cx), h0, h1⟩ h
end Go.Proofs.YtclbanhoiaieaaaGreatDoor
