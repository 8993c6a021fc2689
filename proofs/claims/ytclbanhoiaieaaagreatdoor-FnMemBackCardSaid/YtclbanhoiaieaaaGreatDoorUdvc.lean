/-
  Contracts: contacts, coils and their texts, drawn.
-/
import Derived.Test.YtclbanhoiaieaaaGreatDoorTqvc
import Derived.Test.YtclbanhoiaieaaaGreatDoorGkvc
set_option linter.unusedVariables false
set_option linter.unusedSimpArgs false
set_option maxRecDepth 100000
set_option maxHeartbeats 4000000
namespace Go.Sx
open Go
def strsOf (vs : List Value) : List Str := vs.map fun | .string s => s.data.toList | _ => []
theorem RdL.at_str {P : Program} {d : Nat} {cx : Cx} {mem : List Blk} {o : Option Addr} {ws : List Str} (h : RdL (nowF cx mem) o (ws.map fun z => .string (txt z))) {t : TypeId} (ht : aggT P t = some false) {i : Nat} {z : Str} (hz : ws[i]? = some z) {K : Value → Prop} :
    LoadV d P cx mem t (padd o i) K = K (.string (txt z)) := RdL.ld h ht (by rw [List.getElem?_map, hz]; rfl)
end Go.Sx
namespace Go.Proofs.YtclbanhoiaieaaaGreatDoor
open Go Go.Sx
attribute [local simp] Sx.vcsE1 Sx.vcsE2 Sx.vcsE3 Sx.vcsE4 Sx.vcsE5 Sx.vcsE6 Sx.vcsE7 Sx.vcsE8 Sx.vcsE9 Sx.vcsE10 Sx.vcsE11 Sx.vcsE12 Sx.vcsE13 Sx.vcsE14 Sx.vcsE15 Sx.vcsE16 Sx.vcsE17 Sx.vcsE18 Sx.vcsE19 Sx.get Sx.look Sx.put Sx.pureFn Sx.findOrd Sx.unF Sx.dstOk Sx.isFloatT Sx.endVC Sx.resFn Sx.packC Sx.newFn Sx.storeFn Sx.buildFn Sx.known Sx.aggT Sx.cellsC Sx.findCon Sx.allV Sx.partsV Sx.partsC Sx.fillL Sx.exitTo Sx.fAr Sx.eqFn Sx.eqFieldsFn Sx.eqElemsFn Sx.partFn Sx.sliceFn Sx.boundFn Sx.AppV Sx.CopyV Sx.MakeSliceV Sx.NewsV Sx.GrowV Sx.TextV Sx.bytesL Sx.notInt Sx.typeAt Sx.argAt Sx.den Go.undef Go.Value.cells Go.Value.oneCell' Sx.Con.pure Sx.Con.some Sx.Con.read Sx.Con.make Sx.Con.ext Sx.Con.rel Sx.Con.extS Sx.Con.draw Sx.Con.step Sx.C.one Sx.Draws.steps

theorem ofC_c (o : Option Addr) (cap : Nat) (ks : List Str) (R : Rdr) (p : Int) (cx : Cx) (mem : List Blk) (w : World) (hty : R.ty = 160) (hR : R.Is (factF cx) mem) (hp : 0 ≤ p) (hpc : p + 1 ≤ 1125899906842624) (hpre : RdL (factF cx) o (ks.map fun z => .string (txt z)) ∧ 0 < ks.length ∧ ks.length ≤ 1000 ∧ (∀ k ∈ ks, k.length ≤ 100)) (hm : MemRel cx (mem.set R.k (R.blk p)) w) :
    Calls Tryz.prog 71 ((.p R.k R.b 0 :: [.v (.slice o ks.length cap)] : List C).map den).toArray w fun e w' => ∃ cx' x mem', e = .returned (den x) ∧ MemRel cx' mem' w' ∧ (fun cx' x mem' => ∃ v p', x = .v v ∧ mem' = mem.set R.k (R.blk p') ∧ Le cx cx' ∧ p ≤ p' ∧ p' ≤ p + 1 ∧ (∃ x, v = .string (txt x) ∧ x.length ≤ 100)) cx' x mem' := by
  refine step_of_vcs ⟨[pickC], []⟩ hmx Tryz.func71 rfl (by kernel_rfl) (args := .p R.k R.b 0 :: [.v (.slice o ks.length cap)]) (by simp [Tryz.ntmps71]) hm (fun cx' x mem' => ∃ v p', x = .v v ∧ mem' = mem.set R.k (R.blk p') ∧ Le cx cx' ∧ p ≤ p' ∧ p' ≤ p + 1 ∧ (∃ x, v = .string (txt x) ∧ x.length ≤ 100)) 400 ?_
  obtain ⟨h1, h2, h3, h4⟩ := hpre
  simp (maxSteps := 4000000) -dsimp [-List.all_eq_true, -Array.all_eq_true, -Bool.exists_bool, -Bool.forall_bool, and_assoc, List.zipIdx, Tryz.f71, pickC]
  refine pickC_at0 hR hty (Le.refl _) ⟨by omega, by omega⟩ (by omega) ?_
  rintro cx1 v1 p1 hle1 - b1 b2 ⟨x, rfl, x1, x2⟩
  have x3 : x < ks.length := by omega
  obtain ⟨y, hy⟩ : ∃ y, ks[x.toNat]? = some y := ⟨ks[x.toNat]'(by omega), List.getElem?_eq_getElem _⟩
  have hc := h1.mono hle1.fact
  have hth : o.isSome = true := RdL.there hc (i := 0) (by simpa using h2)
  have l0 := fun (d : Nat) (mem : List Blk) (K : Value → Prop) => RdL.at_str (P := Tryz.prog) (d := d) (K := K) (RdL.mono hc (sub_now cx1 mem)) (t := 9) (by kernel_rfl) hy
  simp (maxSteps := 4000000) -dsimp [-List.all_eq_true, -Array.all_eq_true, -Bool.exists_bool, -Bool.forall_bool, and_assoc, List.zipIdx, Tryz.f71, pickC, x1, x3, hth, l0]
  exact EndK.all ⟨_, p1, rfl, rfl, hle1, by omega, by omega, y, rfl, h4 y (List.mem_of_getElem? hy)⟩
def ofC_S : Draws Tryz.prog 160 1 71 where
  ι := ((Option Addr) × (Nat) × (List Str))
  A := fun (i : ((Option Addr) × (Nat) × (List Str))) => match i with | (o, cap, ks) => [.v (.slice o ks.length cap)]
  pre := fun (i : ((Option Addr) × (Nat) × (List Str))) (F : Facts) => match i with | (o, cap, ks) => RdL F o (ks.map fun z => .string (txt z)) ∧ 0 < ks.length ∧ ks.length ≤ 1000 ∧ (∀ k ∈ ks, k.length ≤ 100)
  post := fun (i : ((Option Addr) × (Nat) × (List Str))) (v : Value) (F : Facts) => match i with | (o, cap, ks) => ∃ x, v = .string (txt x) ∧ x.length ≤ 100
  mono := by
    intro i F G hs h
    first | exact h | exact h.mono hs | exact ⟨h.1.mono hs, h.2⟩ | exact ⟨h.1.mono hs, h.2.1.mono hs, h.2.2⟩ | exact ⟨h.1.mono hs, h.2.1.mono hs⟩ | exact ⟨h.1.mono hs, h.2.1.mono hs, h.2.2.1.mono hs, h.2.2.2⟩
  enter := Tryz.call71
  h := fun i R p cx mem w h1 h2 h3 h4 h5 h6 => ofC_c i.1 i.2.1 i.2.2 R p cx mem w h1 h2 h3 h4 h5 h6
def ofC : Con Tryz.prog := Con.draw ofC_S
theorem ofC_at0 {o : Option Addr} {cap : Nat} {ks : List Str} {d : Nat} {R : Rdr} {cx0 cx : Cx} {mem0 : List Blk} {K : Cx → C → List Blk → Prop} {p : Int} (hR : R.Is (factF cx0) mem0) (hty : R.ty = 160) (hle : Le cx0 cx) (hp : 0 ≤ p ∧ p + 1 ≤ 1125899906842624) (hpre : RdL (factF cx) o (ks.map fun z => .string (txt z)) ∧ 0 < ks.length ∧ ks.length ≤ 1000 ∧ (∀ k ∈ ks, k.length ≤ 100))
    (h : ∀ cx' v p', Le cx0 cx' → Le cx cx' → p ≤ p' → p' ≤ p + 1 → (∃ x, v = .string (txt x) ∧ x.length ≤ 100) → K cx' (.v v) (mem0.set R.k (R.blk p'))) :
    DrawV d ofC_S cx [.p R.k R.b 0, .v (.slice o ks.length cap)] (mem0.set R.k (R.blk p)) K := DrawV.at0 (S := ofC_S) hR hty hle (o, cap, ks) hp hpre h
theorem ofC_lit0 {d : Nat} {R : Rdr} {cx0 cx : Cx} {mem0 : List Blk} {K : Cx → C → List Blk → Prop} {p : Int} {q : Option Addr} {n : Nat} {vs : List Value} (hR : R.Is (factF cx0) mem0) (hty : R.ty = 160) (hle : Le cx0 cx) (hl : RdL (newF cx) q vs)
    (e : ((strsOf vs).map fun z => Value.string (txt z)) = vs) (hn : n = (strsOf vs).length) (hp : 0 ≤ p ∧ p + 1 ≤ 1125899906842624) (h0 : 0 < (strsOf vs).length ∧ (strsOf vs).length ≤ 1000 ∧ ∀ k ∈ strsOf vs, k.length ≤ 100)
    (h : ∀ cx' v p', Le cx0 cx' → Le cx cx' → p ≤ p' → p' ≤ p + 1 → (∃ x, v = .string (txt x) ∧ x.length ≤ 100) → K cx' (.v v) (mem0.set R.k (R.blk p'))) :
    DrawV d ofC_S cx [.p R.k R.b 0, .v (.slice q n n)] (mem0.set R.k (R.blk p)) K := by
  subst hn
  refine ofC_at0 (ks := strsOf vs) hR hty hle hp ⟨?_, h0⟩ h
  rw [e]
  exact RdL.mono hl (sub_new cx)
end Go.Proofs.YtclbanhoiaieaaaGreatDoor
