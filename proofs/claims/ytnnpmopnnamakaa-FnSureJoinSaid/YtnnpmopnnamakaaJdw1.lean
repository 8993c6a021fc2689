/-
  Contract: a list of operands copied by slices.Clone into a known block.
-/
import Derived.Test.YtnnpmopnnamakaaJaw1
import Derived.Test.YtnnpmopnnamakaaIw1
set_option linter.unusedVariables false
set_option linter.unusedSimpArgs false
set_option maxRecDepth 100000
set_option maxHeartbeats 4000000
namespace Go.Proofs.Ytnnpmopnnamakaa
open Go Go.Sx
attribute [local simp] Sx.vcsE1 Sx.vcsE2 Sx.vcsE3 Sx.vcsE4 Sx.vcsE5 Sx.vcsE6 Sx.vcsE7 Sx.vcsE8 Sx.vcsE9 Sx.vcsE10 Sx.vcsE11 Sx.vcsE12 Sx.vcsE13 Sx.vcsE14 Sx.vcsE15 Sx.vcsE16 Sx.vcsE17 Sx.vcsE18 Sx.vcsE19 Sx.get Sx.look Sx.put Sx.pureFn Sx.findOrd Sx.unF Sx.dstOk Sx.isFloatT Sx.endVC Sx.resFn Sx.packC Sx.newFn Sx.storeFn Sx.buildFn Sx.known Sx.aggT Sx.cellsC Sx.findCon Sx.allV Sx.partsV Sx.partsC Sx.fillL Sx.exitTo Sx.fAr Sx.eqFn Sx.eqFieldsFn Sx.eqElemsFn Sx.partFn Sx.sliceFn Sx.boundFn Sx.AppV Sx.CopyV Sx.MakeSliceV Sx.NewsV Sx.GrowV Sx.TextV Sx.bytesL Sx.notInt Sx.typeAt Sx.argAt Sx.den Go.undef Go.Value.cells Go.Value.oneCell' Sx.Con.pure Sx.Con.some Sx.Con.read Sx.Con.make Sx.Con.ext Sx.Con.rel Sx.Con.extS Sx.Con.draw Sx.Con.step Sx.C.one Sx.Draws.steps

theorem cloneG_c (o : Option Addr) (cap : Nat) (xs : List Dev) (cx : Cx) (mem : List Blk) (w : World) (hpre : RdD (factF cx) o xs ∧ List.length xs ≤ 1048576) (hm : MemRel cx mem w) :
    Calls Try.prog 21 (([.v (.slice o (List.length xs) cap)] : List C).map den).toArray w fun e w' => ∃ cx' c mem', e = .returned (den c) ∧ MemRel cx' mem' w' ∧ cx' = cx ∧ ((xs = [] ∧ c = .v (.slice none 0 0) ∧ mem' = mem) ∨ ∃ b cp pad, c = .v (.slice (some ⟨b, 0, none⟩) (List.length xs) cp) ∧ mem' = mem ++ [⟨b, DB xs ++ pad, 54⟩] ∧ List.length xs ≤ cp ∧ cp ≤ maxLen ∧ List.length pad = (cp - List.length xs) * 3) := by
  refine step_of_vcs ⟨[], []⟩ hmx Try.func21 rfl (by kernel_rfl) (args := [.v (.slice o (List.length xs) cap)]) (by simp [Try.ntmps21]) hm (fun cx' c mem' => cx' = cx ∧ ((xs = [] ∧ c = .v (.slice none 0 0) ∧ mem' = mem) ∨ ∃ b cp pad, c = .v (.slice (some ⟨b, 0, none⟩) (List.length xs) cp) ∧ mem' = mem ++ [⟨b, DB xs ++ pad, 54⟩] ∧ List.length xs ≤ cp ∧ cp ≤ maxLen ∧ List.length pad = (cp - List.length xs) * 3)) 400 ?_
  obtain ⟨h, hl⟩ := hpre
  have hx5 : xs.length ≤ maxLen := by unfold maxLen; omega
  have hsl : isSl Try.prog 45 = true := by kernel_rfl
  have hb : ∀ (o o2 : Option Addr) (n c n2 c2 : Nat), binF BinOp.eql (Value.slice o n c) (Value.slice o2 n2 c2) = none := fun _ _ _ _ _ _ => rfl
  have ha : ∀ (o o2 : Option Addr) (n c n2 c2 : Nat), aggEqFn Try.prog BinOp.eql 45 (Value.slice o n c) (Value.slice o2 n2 c2) = none := fun _ _ _ _ _ _ => by first | rfl | (unfold aggEqFn; rfl) | kernel_rfl
  cases o with
  | none =>
    obtain rfl : xs = [] := by
      cases xs with
      | nil => rfl
      | cons d r =>
        have := h.there (i := 0) (by simp)
        simp at this
    simp (maxSteps := 4000000) -dsimp [-List.all_eq_true, -Array.all_eq_true, -Bool.exists_bool, -Bool.forall_bool, and_assoc, List.zipIdx, Try.f21, hsl, hb, ha, Con.gen]
    exact endK_val ⟨rfl, Or.inl ⟨rfl, rfl, rfl⟩⟩
  | some a =>
    simp (maxSteps := 4000000) -dsimp [-List.all_eq_true, -Array.all_eq_true, -Bool.exists_bool, -Bool.forall_bool, and_assoc, List.zipIdx, Try.f21, hsl, hb, ha, Con.gen]
    intro b
    rw [RdO.sl (h.mono (sub_now _ _)) (by decide) (by rw [List.length_map])]
    unfold GrowV
    simp (maxSteps := 4000000) -dsimp [-List.all_eq_true, -Array.all_eq_true, -Bool.exists_bool, -Bool.forall_bool, and_assoc, List.zipIdx, Try.f21, hsl, hb, ha, hx5, Con.gen, List.getElem?_append, List.set_append]
    refine ⟨by rw [List.all_eq_true]; exact fun x _ => rfl, by omega, fun b' cap' pad c1 c2 c3 => endK_val ⟨rfl, Or.inr ⟨b', cap', pad, rfl, ?_, c1, c2, c3⟩⟩⟩
    have e : (List.map (List.map C.v ∘ encD) xs).flatten = DB xs := by simp [DB, encDs, List.map_flatten]
    rw [e]
def cloneG_S : Gens Try.prog 21 where
  ι := ((Option Addr) × (Nat) × (List Dev))
  A := fun (i : ((Option Addr) × (Nat) × (List Dev))) => match i with | (o, cap, xs) => [.v (.slice o (List.length xs) cap)]
  pre := fun (i : ((Option Addr) × (Nat) × (List Dev))) (cx : Cx) (mem : List Blk) => match i with | (o, cap, xs) => RdD (factF cx) o xs ∧ List.length xs ≤ 1048576
  post := fun (i : ((Option Addr) × (Nat) × (List Dev))) (cx : Cx) (mem : List Blk) (cx' : Cx) (c : C) (mem' : List Blk) => match i with | (o, cap, xs) => cx' = cx ∧ ((xs = [] ∧ c = .v (.slice none 0 0) ∧ mem' = mem) ∨ ∃ b cp pad, c = .v (.slice (some ⟨b, 0, none⟩) (List.length xs) cp) ∧ mem' = mem ++ [⟨b, DB xs ++ pad, 54⟩] ∧ List.length xs ≤ cp ∧ cp ≤ maxLen ∧ List.length pad = (cp - List.length xs) * 3)
  enter := Try.call21
  h := fun i cx mem w hp hm => cloneG_c i.1 i.2.1 i.2.2 cx mem w hp hm
def cloneG : Con Try.prog := Con.gen cloneG_S
theorem cloneG_at {o : Option Addr} {cap : Nat} {xs : List Dev} {d : Nat} {cx : Cx} {mem : List Blk} {K : Cx → C → List Blk → Prop} (hpre : RdD (factF cx) o xs ∧ List.length xs ≤ 1048576) (h : ∀ cx' c mem', (cx' = cx ∧ ((xs = [] ∧ c = .v (.slice none 0 0) ∧ mem' = mem) ∨ ∃ b cp pad, c = .v (.slice (some ⟨b, 0, none⟩) (List.length xs) cp) ∧ mem' = mem ++ [⟨b, DB xs ++ pad, 54⟩] ∧ List.length xs ≤ cp ∧ cp ≤ maxLen ∧ List.length pad = (cp - List.length xs) * 3)) → K cx' c mem') : GenV d cloneG_S cx [.v (.slice o (List.length xs) cap)] mem K := ⟨(o, cap, xs), rfl, hpre, h⟩
end Go.Proofs.Ytnnpmopnnamakaa
