/-
  Contracts: contacts and coils, instructions as text, by the reference.
-/
import Derived.Test.YtmlmmaojomghdaaGreatDoorTnuh
import Derived.Test.YtmlmmaojomghdaaGreatDoorTeuh
set_option linter.unusedVariables false
set_option linter.unusedSimpArgs false
set_option maxRecDepth 100000
set_option maxHeartbeats 4000000
namespace Go.Proofs.YtmlmmaojomghdaaGreatDoor
open Go Go.Sx
attribute [local simp] Sx.vcsE1 Sx.vcsE2 Sx.vcsE3 Sx.vcsE4 Sx.vcsE5 Sx.vcsE6 Sx.vcsE7 Sx.vcsE8 Sx.vcsE9 Sx.vcsE10 Sx.vcsE11 Sx.vcsE12 Sx.vcsE13 Sx.vcsE14 Sx.vcsE15 Sx.vcsE16 Sx.vcsE17 Sx.vcsE18 Sx.vcsE19 Sx.get Sx.look Sx.put Sx.pureFn Sx.findOrd Sx.unF Sx.dstOk Sx.isFloatT Sx.endVC Sx.resFn Sx.packC Sx.newFn Sx.storeFn Sx.buildFn Sx.known Sx.aggT Sx.cellsC Sx.findCon Sx.allV Sx.partsV Sx.partsC Sx.fillL Sx.exitTo Sx.fAr Sx.eqFn Sx.eqFieldsFn Sx.eqElemsFn Sx.partFn Sx.sliceFn Sx.boundFn Sx.AppV Sx.CopyV Sx.MakeSliceV Sx.NewsV Sx.GrowV Sx.TextV Sx.bytesL Sx.notInt Sx.typeAt Sx.argAt Sx.den Go.undef Go.Value.cells Go.Value.oneCell' Sx.Con.pure Sx.Con.some Sx.Con.read Sx.Con.make Sx.Con.ext Sx.Con.rel Sx.Con.extS Sx.Con.draw Sx.Con.step Sx.C.one Sx.Draws.steps

def coilT (op : Int) (xs : List Dev) (i : Nat) : Str := coilName op ++ 58 :: joinL 44 ((xs.take i).map devL)
theorem coilT_one (op : Int) (a : Dev) (r : List Dev) : coilT op (a :: r) 1 = coilName op ++ 58 :: devL a := by simp [coilT, joinL]
theorem coilT_next {op : Int} {xs : List Dev} {i : Nat} {x : Dev} (hi : 1 ≤ i) (hx : xs[i]? = some x) : coilT op xs (i + 1) = coilT op xs i ++ (44 :: devL x) := by
  have h1 := (List.getElem?_eq_some_iff.1 hx).1
  unfold coilT
  have e : xs.take (i + 1) = xs.take i ++ [x] := by
    rw [List.take_add_one, hx]; rfl
  rw [e, List.map_append, List.map_cons, List.map_nil, joinL_snoc _ _ _ (by
    intro h0
    have := congrArg List.length h0
    simp only [List.length_map, List.length_take, List.length_nil] at this
    omega)]
  simp
theorem coilT_full {op : Int} {xs : List Dev} (h : coilOk op xs = true) : coilT op xs xs.length = elemL op xs := by
  unfold coilT elemL
  rw [if_pos h, List.take_length]
theorem coil_arity {op : Int} {xs : List Dev} (h : coilOk op xs = true) : 21 ≤ op ∧ op ≤ 37 ∧ (xs.length : Int) = arity op := by
  have h2 := eOk_all (op := op) (xs := xs) (by unfold eOk; rw [h]; rfl)
  have : 21 ≤ op ∧ op ≤ 37 := by
    unfold coilOk at h
    simp only [Bool.and_eq_true, decide_eq_true_eq] at h
    omega
  exact ⟨this.1, this.2, h2.2⟩
theorem elemL_con {op : Int} {xs : List Dev} (h1 : coilOk op xs = false) (h2 : conOk op xs = true) : elemL op xs = conT op xs := by
  unfold elemL; rw [h1, h2]; rfl
theorem elemL_no {op : Int} {xs : List Dev} (h1 : coilOk op xs = false) (h2 : conOk op xs = false) : elemL op xs = [] := by
  unfold elemL; rw [h1, h2]; rfl
theorem sElemTextC_c (op : Int) (o : Option Addr) (cap : Nat) (xs : List Dev) (w : World) (hpre : RdD (factF ⟨w, [], w, []⟩) o xs ∧ xs.length ≤ 1048576) : Calls Tryz.prog 33 #[.agg #[.int .i64 op, .slice o xs.length cap]] w fun e w' => e = .returned (.string (txt (elemL op xs))) ∧ RowKit.Below w.heap.size w w' := by
  refine (plain_of_vcs ⟨[sCoilC, sConC, sNameC, sDevTextC, sSignC], []⟩ hmx Tryz.func33 rfl (by kernel_rfl) (args := [.agg #[.int .i64 op, .slice o xs.length cap]]) (by simp [Tryz.ntmps33]) w (· = .string (txt (elemL op xs))) 600 ?_).mono fun e w' ⟨v, h1, h2, h3⟩ => ⟨h2 ▸ h1, h3⟩
  obtain ⟨h, hl⟩ := hpre
  have z := fun d mem K => sCoilC_rw (op := op) (cap := cap) (d := d) (cx := ⟨w, [], w, []⟩) (mem := mem) (K := K) ⟨h.mono (sub_now _ _), hl⟩
  have y := fun d mem K => sConC_rw (op := op) (cap := cap) (d := d) (cx := ⟨w, [], w, []⟩) (mem := mem) (K := K) ⟨h.mono (sub_now _ _), hl⟩
  have nl := @coilName_len op
  cases hc : coilOk op xs
  · rw [hc] at z
    cases hn : conOk op xs
    · rw [hn] at y
      rw [elemL_no hc hn]
      simp (maxSteps := 4000000) -dsimp [-List.all_eq_true, -Array.all_eq_true, -Bool.exists_bool, -Bool.forall_bool, and_assoc, List.zipIdx, Tryz.f33, sCoilC, sConC, sNameC, sDevTextC, sSignC, z, y, txt_eta]
    · rw [hn] at y
      rw [elemL_con hc hn]
      rcases con_shape hn with ⟨h12, ⟨ak, an, ap⟩, rfl⟩ | ⟨h3, h10, ⟨ak, an, ap⟩, ⟨bk, bn, bp⟩, rfl⟩
      · simp only [List.length_cons, List.length_nil, Nat.zero_add, Nat.reduceAdd] at z y
        have a0 := h.at0 (x := ⟨ak, an, ap⟩) rfl
        have l0 := devL_len ⟨ak, an, ap⟩
        rcases h12 with rfl | rfl
        · simp (maxSteps := 4000000) -dsimp [-List.all_eq_true, -Array.all_eq_true, -Bool.exists_bool, -Bool.forall_bool, and_assoc, List.zipIdx, Tryz.f33, sCoilC, sConC, sNameC, sDevTextC, sSignC, z, y, a0.there, a0.all, txt_eta, conT, xD]
        · simp (maxSteps := 4000000) -dsimp [-List.all_eq_true, -Array.all_eq_true, -Bool.exists_bool, -Bool.forall_bool, and_assoc, List.zipIdx, Tryz.f33, sCoilC, sConC, sNameC, sDevTextC, sSignC, z, y, a0.there, a0.all, txt_eta, conT, xD]
          omega
      · simp only [List.length_cons, List.length_nil, Nat.zero_add, Nat.reduceAdd] at z y
        have a0 := h.at0 (x := ⟨ak, an, ap⟩) rfl
        have a1 := h.at1 (x := ⟨bk, bn, bp⟩) rfl
        have l0 := devL_len ⟨ak, an, ap⟩
        have l1 := devL_len ⟨bk, bn, bp⟩
        by_cases e3 : op = 3
        · subst e3
          simp (maxSteps := 4000000) -dsimp [-List.all_eq_true, -Array.all_eq_true, -Bool.exists_bool, -Bool.forall_bool, and_assoc, List.zipIdx, Tryz.f33, sCoilC, sConC, sNameC, sDevTextC, sSignC, z, y, a0.there, a0.all, a1.there, a1.all, txt_eta, conT, xD]
          omega
        by_cases e4 : op = 4
        · subst e4
          simp (maxSteps := 4000000) -dsimp [-List.all_eq_true, -Array.all_eq_true, -Bool.exists_bool, -Bool.forall_bool, and_assoc, List.zipIdx, Tryz.f33, sCoilC, sConC, sNameC, sDevTextC, sSignC, z, y, a0.there, a0.all, a1.there, a1.all, txt_eta, conT, xD]
          omega
        have e1 : ¬ op = 1 := by omega
        have e2 : ¬ op = 2 := by omega
        have cl := cmpS_len (op - 4)
        simp (maxSteps := 4000000) -dsimp [-List.all_eq_true, -Array.all_eq_true, -Bool.exists_bool, -Bool.forall_bool, and_assoc, List.zipIdx, Tryz.f33, sCoilC, sConC, sNameC, sDevTextC, sSignC, z, y, a0.there, a0.all, a1.there, a1.all, txt_eta, conT, xD, e1, e2, e3, e4]
        omega
  · rw [hc] at z
    obtain ⟨o1, o2, hq⟩ := coil_arity hc
    have ha := coil_facts op o1 o2
    obtain ⟨⟨ak, an, ap⟩, r, rfl⟩ : ∃ a r, xs = a :: r := by
      cases xs with
      | nil => exfalso; simp at hq; omega
      | cons a r => exact ⟨a, r, rfl⟩
    have a0 := h.at0 (x := ⟨ak, an, ap⟩) rfl
    have l0 := devL_len ⟨ak, an, ap⟩
    have hE := coilT_full hc
    have h1 := coilT_one op ⟨ak, an, ap⟩ r
    generalize hX : (⟨ak, an, ap⟩ : Dev) :: r = xs at *
    have hpos : 0 < xs.length := by rw [← hX]; simp
    simp (maxSteps := 4000000) -dsimp [-List.all_eq_true, -Array.all_eq_true, -Bool.exists_bool, -Bool.forall_bool, and_assoc, List.zipIdx, Tryz.f33, sCoilC, sConC, sNameC, sDevTextC, sSignC, z, hpos, a0.there, a0.all, txt_eta]
    intro b
    refine ⟨by omega, by omega, ?_⟩
    refine loop_inv (σ := ⟨[sCoilC, sConC, sNameC, sDevTextC, sSignC], []⟩) hmx (by kernel_rfl) (fun q cx' tm mem => cx' = ⟨w, [], w, []⟩ ∧ ∃ i : Nat, 1 ≤ i ∧ i ≤ xs.length ∧ q = xs.length - i ∧ (coilT op xs i).length ≤ 20 * i + 20 ∧ mem = [⟨b, [.v (.int .i64 op), .v (.slice o xs.length cap)], 55⟩] ∧ Sx.look tm 4 = .v (.int .i64 i) ∧ Sx.look tm 3 = .v (.string (txt (coilT op xs i))) ∧ Sx.look tm 1 = .p 0 b 0)
      (xs.length - 1) ⟨rfl, 1, by omega, by omega, rfl, by rw [h1]; simp; omega, rfl, by simp [Sx.look], by rw [h1]; simp [Sx.look, txt_eta], by simp [Sx.look]⟩ ?_
    rintro q cx tm mem ⟨rfl, i, hi1, hi, rfl, hB, rfl, j4, j3, j1⟩
    refine ⟨600, ?_⟩
    by_cases hlt : i < xs.length
    · have hlt' : (i : Int) < xs.length := by omega
      obtain ⟨⟨bk, bn, bp⟩, hx⟩ : ∃ x, xs[i]? = some x := ⟨xs[i], by simp [hlt]⟩
      have ai := h.at hx
      have l1 := devL_len ⟨bk, bn, bp⟩
      have e := coilT_next (op := op) hi1 hx
      simp (maxSteps := 4000000) -dsimp [-List.all_eq_true, -Array.all_eq_true, -Bool.exists_bool, -Bool.forall_bool, and_assoc, List.zipIdx, Tryz.f33, sCoilC, sConC, sNameC, sDevTextC, sSignC, j4, j3, j1, hlt, hlt', ai.there, ai.all, txt_eta, i_succ (i := i) (by omega)]
      exact ⟨by omega, h.there hlt, by omega, 1, xs.length - (i + 1), by omega, i + 1, by omega, by omega, rfl, by rw [e]; simp; omega, rfl, by omega, e.symm⟩
    · obtain rfl : i = xs.length := by omega
      simp (maxSteps := 4000000) -dsimp [-List.all_eq_true, -Array.all_eq_true, -Bool.exists_bool, -Bool.forall_bool, and_assoc, List.zipIdx, Tryz.f33, sCoilC, sConC, sNameC, sDevTextC, sSignC, j4, j3, j1, hE]
def sElemTextC_S : Reads Tryz.prog 33 where
  ι := ((Int) × (Option Addr) × (Nat) × (List Dev))
  A := fun (i : ((Int) × (Option Addr) × (Nat) × (List Dev))) => match i with | (op, o, cap, xs) => [.agg #[.int .i64 op, .slice o xs.length cap]]
  pre := fun (i : ((Int) × (Option Addr) × (Nat) × (List Dev))) (F : Facts) => match i with | (op, o, cap, xs) => RdD F o xs ∧ xs.length ≤ 1048576
  res := fun (i : ((Int) × (Option Addr) × (Nat) × (List Dev))) => match i with | (op, o, cap, xs) => .string (txt (elemL op xs))
  mono := by
    intro i F G hs h
    first | exact h | exact h.mono hs | exact ⟨h.1.mono hs, h.2⟩ | exact ⟨h.1.mono hs, h.2.1.mono hs, h.2.2⟩ | exact ⟨h.1.mono hs, h.2.1.mono hs⟩ | exact ⟨h.1.mono hs, h.2.1.mono hs, h.2.2.1.mono hs, h.2.2.2⟩
  uniq := by
    rintro ⟨op, o, cap, xs⟩ ⟨op', o', cap', xs'⟩ F hA h h'
    simp at hA
    (try simp only [Int.natCast_inj] at hA)
    obtain rfl : xs = xs' := RdD.uniq h.1 h'.1 (by simp_all) (by simp_all)
    simp_all
  enter := Tryz.call33
  h := fun i w hp => sElemTextC_c i.1 i.2.1 i.2.2.1 i.2.2.2 w (by rw [factF_init]; exact hp)
def sElemTextC : Con Tryz.prog := Con.read sElemTextC_S
theorem sElemTextC_rw {op : Int} {o : Option Addr} {cap : Nat} {xs : List Dev} {d : Nat} {cx : Cx} {mem : List Blk} {K : C → Prop} (hpre : RdD (nowF cx mem) o xs ∧ xs.length ≤ 1048576) : ReadV d sElemTextC_S cx [.v (.agg #[.int .i64 op, .slice o xs.length cap])] mem K = K (.v (.string (txt (elemL op xs)))) := sElemTextC_S.eq (op, o, cap, xs) rfl hpre
theorem joinL_devs (xs : List Dev) : (joinL 44 (xs.map devL)).length ≤ xs.length * 12 := by
  have h1 := joinL_len 44 (xs.map devL)
  have h2 := flat_len (ws := (xs.map devL).map (· ++ [44])) (b := 12) (by
    intro x hx
    simp only [List.map_map, List.mem_map] at hx
    obtain ⟨d, _, rfl⟩ := hx
    have := devL_len d
    simp; omega)
  refine Nat.le_trans h1 (Nat.le_trans h2 ?_)
  simp only [List.length_map]
  omega
def lines (xs : List Ins) (i : Nat) : Str := linesL (xs.take i)
end Go.Proofs.YtmlmmaojomghdaaGreatDoor
