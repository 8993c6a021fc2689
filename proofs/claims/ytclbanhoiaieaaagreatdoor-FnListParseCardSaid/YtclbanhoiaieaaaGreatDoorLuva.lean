/-
  Contracts: two lists of instructions are compared by the reference.
-/
import Derived.Test.YtclbanhoiaieaaaGreatDoorIlva
set_option linter.unusedVariables false
set_option linter.unusedSimpArgs false
set_option maxRecDepth 100000
set_option maxHeartbeats 4000000
namespace Go.Proofs.YtclbanhoiaieaaaGreatDoor
open Go Go.Sx
attribute [local simp] Sx.vcsE1 Sx.vcsE2 Sx.vcsE3 Sx.vcsE4 Sx.vcsE5 Sx.vcsE6 Sx.vcsE7 Sx.vcsE8 Sx.vcsE9 Sx.vcsE10 Sx.vcsE11 Sx.vcsE12 Sx.vcsE13 Sx.vcsE14 Sx.vcsE15 Sx.vcsE16 Sx.vcsE17 Sx.vcsE18 Sx.vcsE19 Sx.get Sx.look Sx.put Sx.pureFn Sx.findOrd Sx.unF Sx.dstOk Sx.isFloatT Sx.endVC Sx.resFn Sx.packC Sx.newFn Sx.storeFn Sx.buildFn Sx.known Sx.aggT Sx.cellsC Sx.findCon Sx.allV Sx.partsV Sx.partsC Sx.fillL Sx.exitTo Sx.fAr Sx.eqFn Sx.eqFieldsFn Sx.eqElemsFn Sx.partFn Sx.sliceFn Sx.boundFn Sx.AppV Sx.CopyV Sx.MakeSliceV Sx.NewsV Sx.GrowV Sx.TextV Sx.bytesL Sx.notInt Sx.typeAt Sx.argAt Sx.den Go.undef Go.Value.cells Go.Value.oneCell' Sx.Con.pure Sx.Con.some Sx.Con.read Sx.Con.make Sx.Con.ext Sx.Con.rel Sx.Con.extS Sx.Con.draw Sx.Con.step Sx.C.one Sx.Draws.steps

theorem eq_ins {x y : Ins} (h1 : x.code = y.code) (h2 : x.op = y.op) (h3 : x.args = y.args) : x = y := by cases x; cases y; simp_all
theorem sListSameC_c (o : Option Addr) (cap : Nat) (xs : List Ins) (o2 : Option Addr) (cap2 : Nat) (ys : List Ins) (w : World) (hpre : RdN (factF ⟨w, [], w, []⟩) o xs ∧ RdN (factF ⟨w, [], w, []⟩) o2 ys ∧ xs.length ≤ 1048576 ∧ ys.length ≤ 1048576 ∧ (∀ x ∈ xs, x.args.length ≤ 1048576) ∧ (∀ x ∈ ys, x.args.length ≤ 1048576)) : Calls Tryz.prog 21 #[.slice o xs.length cap, .slice o2 ys.length cap2] w fun e w' => e = .returned (.bool (decide (xs = ys))) ∧ RowKit.Below w.heap.size w w' := by
  refine (plain_of_vcs ⟨[], []⟩ hmx Tryz.func21 rfl (by kernel_rfl) (args := [.slice o xs.length cap, .slice o2 ys.length cap2]) (by simp [Tryz.ntmps21]) w (· = .bool (decide (xs = ys))) 400 ?_).mono fun e w' ⟨v, h1, h2, h3⟩ => ⟨h2 ▸ h1, h3⟩
  obtain ⟨h, g, hl, hl2, hxa, hya⟩ := hpre
  by_cases hlen : xs.length = ys.length
  · have hlen' : (xs.length : Int) = ys.length := by omega
    simp (maxSteps := 4000000) -dsimp [-List.all_eq_true, -Array.all_eq_true, -Bool.exists_bool, -Bool.forall_bool, and_assoc, List.zipIdx, Tryz.f21, hlen']
    refine loop_inv (σ := ⟨[], []⟩) hmx (by kernel_rfl) (fun q cx tm mem => cx = ⟨w, [], w, []⟩ ∧ mem = [] ∧ ∃ i : Nat, i ≤ xs.length ∧ q = xs.length - i ∧ xs.take i = ys.take i ∧ Sx.look tm 5 = .v (.int .i64 i) ∧ Sx.look tm 0 = .v (.slice o xs.length cap) ∧ Sx.look tm 1 = .v (.slice o2 ys.length cap2))
      xs.length ⟨rfl, rfl, 0, by omega, rfl, rfl, by simp [Sx.look], by simp [Sx.look], by simp [Sx.look]⟩ ?_
    rintro q cx tm mem ⟨rfl, rfl, i, hi, rfl, ht, h5, h0, h1⟩
    refine ⟨500, ?_⟩
    by_cases hlt : i < xs.length
    · have hlt2 : i < ys.length := by omega
      obtain ⟨x, hx⟩ : ∃ x, xs[i]? = some x := ⟨xs[i], by simp [hlt]⟩
      obtain ⟨y, hy⟩ : ∃ y, ys[i]? = some y := ⟨ys[i], by simp [hlt2]⟩
      obtain ⟨o', cap', hat⟩ := h.at hx
      obtain ⟨o2', cap2', gat⟩ := g.at hy
      have hxl := hxa x (List.mem_of_getElem? hx)
      have hyl := hya y (List.mem_of_getElem? hy)
      by_cases c1 : x.code = y.code
      · by_cases c2 : x.op = y.op
        · by_cases c3 : x.args.length = y.args.length
          · have c3' : (x.args.length : Int) = y.args.length := by omega
            simp (maxSteps := 4000000) -dsimp [-List.all_eq_true, -Array.all_eq_true, -Bool.exists_bool, -Bool.forall_bool, and_assoc, List.zipIdx, Tryz.f21, h5, h0, h1, hlt, hlt2, h.there hlt, g.there hlt2, hat.code, gat.code, hat.op, gat.op, hat.sl, gat.sl, c1, c2, c3']
            refine loop_inv (σ := ⟨[], []⟩) hmx (by kernel_rfl) (fun q2 cx' tm' mem' => cx' = ⟨w, [], w, []⟩ ∧ mem' = [] ∧ ∃ k : Nat, k ≤ x.args.length ∧ q2 = x.args.length - k ∧ x.args.take k = y.args.take k ∧ Sx.look tm' 6 = .v (.int .i64 k) ∧ Sx.look tm' 5 = .v (.int .i64 i) ∧ Sx.look tm' 0 = .v (.slice o xs.length cap) ∧ Sx.look tm' 1 = .v (.slice o2 ys.length cap2))
              x.args.length ⟨rfl, rfl, 0, by omega, rfl, rfl, by simp [Sx.look], by simp [Sx.look, h5], by simp [Sx.look, h0], by simp [Sx.look, h1]⟩ ?_
            rintro q2 cx tm2 mem ⟨rfl, rfl, k, hk, rfl, htk, j6, j5, j0, j1⟩
            refine ⟨300, ?_⟩
            by_cases hkl : k < x.args.length
            · have hkl2 : k < y.args.length := by omega
              obtain ⟨d, hd⟩ : ∃ d, x.args[k]? = some d := ⟨x.args[k], by simp [hkl]⟩
              obtain ⟨e, he⟩ : ∃ e, y.args[k]? = some e := ⟨y.args[k], by simp [hkl2]⟩
              by_cases hde : d = e
              · subst hde
                simp (maxSteps := 4000000) -dsimp [-List.all_eq_true, -Array.all_eq_true, -Bool.exists_bool, -Bool.forall_bool, and_assoc, List.zipIdx, Tryz.f21, j6, j5, j0, j1, hlt, hlt2, h.there hlt, g.there hlt2, hat.sl, gat.sl, hkl, hkl2, hat.args.there hkl, gat.args.there hkl2, hat.args.ld _ _ hd, gat.args.ld _ _ he, i_succ (i := k) (by omega)]
                exact ⟨_, by omega, k + 1, by omega, rfl, take_more htk hd he, by omega⟩
              · have hne2 := get_ne hd he hde
                have hne := get_ne hx hy (fun e => hne2 (by rw [e]))
                have hdd : ¬ (d.k = e.k ∧ d.n = e.n ∧ d.p = e.p) := fun ⟨a, b, c⟩ => hde (by cases d; cases e; simp_all)
                simp (maxSteps := 4000000) -dsimp [-List.all_eq_true, -Array.all_eq_true, -Bool.exists_bool, -Bool.forall_bool, and_assoc, List.zipIdx, Tryz.f21, j6, j5, j0, j1, hlt, hlt2, h.there hlt, g.there hlt2, hat.sl, gat.sl, hkl, hkl2, hat.args.there hkl, gat.args.there hkl2, hat.args.ld _ _ hd, gat.args.ld _ _ he, i_succ (i := k) (by omega), hne]
                omega
            · obtain rfl : k = x.args.length := by omega
              have hxy : x = y := eq_ins c1 c2 (take_all htk c3)
              subst hxy
              simp (maxSteps := 4000000) -dsimp [-List.all_eq_true, -Array.all_eq_true, -Bool.exists_bool, -Bool.forall_bool, and_assoc, List.zipIdx, Tryz.f21, j6, j5, j0, j1, hlt, hlt2, h.there hlt, g.there hlt2, hat.sl, gat.sl, i_succ (i := i) (by omega)]
              exact ⟨_, by omega, i + 1, by omega, rfl, take_more ht hx hy, by omega⟩
          · have hne := get_ne hx hy (fun e => c3 (by rw [e]))
            have c3' : ¬ (x.args.length : Int) = y.args.length := by omega
            simp (maxSteps := 4000000) -dsimp [-List.all_eq_true, -Array.all_eq_true, -Bool.exists_bool, -Bool.forall_bool, and_assoc, List.zipIdx, Tryz.f21, h5, h0, h1, hlt, hlt2, h.there hlt, g.there hlt2, hat.code, gat.code, hat.op, gat.op, hat.sl, gat.sl, c1, c2, c3', hne]
        · have hne := get_ne hx hy (fun e => c2 (by rw [e]))
          simp (maxSteps := 4000000) -dsimp [-List.all_eq_true, -Array.all_eq_true, -Bool.exists_bool, -Bool.forall_bool, and_assoc, List.zipIdx, Tryz.f21, h5, h0, h1, hlt, hlt2, h.there hlt, g.there hlt2, hat.code, gat.code, hat.op, gat.op, hat.sl, gat.sl, c1, c2, hne]
      · have hne := get_ne hx hy (fun e => c1 (by rw [e]))
        simp (maxSteps := 4000000) -dsimp [-List.all_eq_true, -Array.all_eq_true, -Bool.exists_bool, -Bool.forall_bool, and_assoc, List.zipIdx, Tryz.f21, h5, h0, h1, hlt, hlt2, h.there hlt, g.there hlt2, hat.code, gat.code, hat.op, gat.op, hat.sl, gat.sl, c1, hne]
    · obtain rfl : i = xs.length := by omega
      have := take_all ht hlen
      simp (maxSteps := 4000000) -dsimp [-List.all_eq_true, -Array.all_eq_true, -Bool.exists_bool, -Bool.forall_bool, and_assoc, List.zipIdx, Tryz.f21, h5, h0, h1, this]
  · have hlen' : ¬ (xs.length : Int) = ys.length := by omega
    have := len_ne hlen
    simp (maxSteps := 4000000) -dsimp [-List.all_eq_true, -Array.all_eq_true, -Bool.exists_bool, -Bool.forall_bool, and_assoc, List.zipIdx, Tryz.f21, hlen', this]
def sListSameC_S : Reads Tryz.prog 21 where
  ι := ((Option Addr) × (Nat) × (List Ins) × (Option Addr) × (Nat) × (List Ins))
  A := fun (i : ((Option Addr) × (Nat) × (List Ins) × (Option Addr) × (Nat) × (List Ins))) => match i with | (o, cap, xs, o2, cap2, ys) => [.slice o xs.length cap, .slice o2 ys.length cap2]
  pre := fun (i : ((Option Addr) × (Nat) × (List Ins) × (Option Addr) × (Nat) × (List Ins))) (F : Facts) => match i with | (o, cap, xs, o2, cap2, ys) => RdN F o xs ∧ RdN F o2 ys ∧ xs.length ≤ 1048576 ∧ ys.length ≤ 1048576 ∧ (∀ x ∈ xs, x.args.length ≤ 1048576) ∧ (∀ x ∈ ys, x.args.length ≤ 1048576)
  res := fun (i : ((Option Addr) × (Nat) × (List Ins) × (Option Addr) × (Nat) × (List Ins))) => match i with | (o, cap, xs, o2, cap2, ys) => .bool (decide (xs = ys))
  mono := by
    intro i F G hs h
    first | exact h | exact h.mono hs | exact ⟨h.1.mono hs, h.2⟩ | exact ⟨h.1.mono hs, h.2.1.mono hs, h.2.2⟩ | exact ⟨h.1.mono hs, h.2.1.mono hs⟩ | exact ⟨h.1.mono hs, h.2.1.mono hs, h.2.2.1.mono hs, h.2.2.2⟩
  uniq := by
    rintro ⟨o, cap, xs, o2, cap2, ys⟩ ⟨o', cap', xs', o2', cap2', ys'⟩ F hA h h'
    simp at hA
    (try simp only [Int.natCast_inj] at hA)
    obtain rfl : xs = xs' := RdN.uniq h.1 h'.1 (by simp_all) (by simp_all)
    obtain rfl : ys = ys' := RdN.uniq h.2.1 h'.2.1 (by simp_all) (by simp_all)
    simp_all
  enter := Tryz.call21
  h := fun i w hp => sListSameC_c i.1 i.2.1 i.2.2.1 i.2.2.2.1 i.2.2.2.2.1 i.2.2.2.2.2 w (by rw [factF_init]; exact hp)
def sListSameC : Con Tryz.prog := Con.read sListSameC_S
theorem sListSameC_rw {o : Option Addr} {cap : Nat} {xs : List Ins} {o2 : Option Addr} {cap2 : Nat} {ys : List Ins} {d : Nat} {cx : Cx} {mem : List Blk} {K : C → Prop} (hpre : RdN (nowF cx mem) o xs ∧ RdN (nowF cx mem) o2 ys ∧ xs.length ≤ 1048576 ∧ ys.length ≤ 1048576 ∧ (∀ x ∈ xs, x.args.length ≤ 1048576) ∧ (∀ x ∈ ys, x.args.length ≤ 1048576)) : ReadV d sListSameC_S cx [.v (.slice o xs.length cap), .v (.slice o2 ys.length cap2)] mem K = K (.v (.bool (decide (xs = ys)))) := sListSameC_S.eq (o, cap, xs, o2, cap2, ys) rfl hpre
end Go.Proofs.YtclbanhoiaieaaaGreatDoor
