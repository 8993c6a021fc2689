/-
  Contracts: the rungs of a verified list, by the program over any memory, and by the reference.
-/
import Derived.Test.YtnnpmopnnamakaaJew1
import Derived.Test.YtnnpmopnnamakaaJfw1
set_option linter.unusedVariables false
set_option linter.unusedSimpArgs false
set_option maxRecDepth 100000
set_option maxHeartbeats 4000000
namespace Go.Proofs.Ytnnpmopnnamakaa
open Go Go.Sx
attribute [local simp] Sx.vcsE1 Sx.vcsE2 Sx.vcsE3 Sx.vcsE4 Sx.vcsE5 Sx.vcsE6 Sx.vcsE7 Sx.vcsE8 Sx.vcsE9 Sx.vcsE10 Sx.vcsE11 Sx.vcsE12 Sx.vcsE13 Sx.vcsE14 Sx.vcsE15 Sx.vcsE16 Sx.vcsE17 Sx.vcsE18 Sx.vcsE19 Sx.get Sx.look Sx.put Sx.pureFn Sx.findOrd Sx.unF Sx.dstOk Sx.isFloatT Sx.endVC Sx.resFn Sx.packC Sx.newFn Sx.storeFn Sx.buildFn Sx.known Sx.aggT Sx.cellsC Sx.findCon Sx.allV Sx.partsV Sx.partsC Sx.fillL Sx.exitTo Sx.fAr Sx.eqFn Sx.eqFieldsFn Sx.eqElemsFn Sx.partFn Sx.sliceFn Sx.boundFn Sx.AppV Sx.CopyV Sx.MakeSliceV Sx.NewsV Sx.GrowV Sx.TextV Sx.bytesL Sx.notInt Sx.typeAt Sx.argAt Sx.den Go.undef Go.Value.cells Go.Value.oneCell' Sx.Con.pure Sx.Con.some Sx.Con.read Sx.Con.make Sx.Con.ext Sx.Con.rel Sx.Con.extS Sx.Con.draw Sx.Con.step Sx.C.one Sx.Draws.steps

def iSureRungsU_S : Gens Try.prog 8 where
  ι := Option Addr × Nat × List Ins × List C
  A i := i.2.2.2
  pre i cx mem := i.2.2.2.map den = [.slice i.1 i.2.2.1.length i.2.1] ∧ ∀ w, MemRel cx mem w → RdN w.cell? i.1 i.2.2.1 ∧ i.2.2.1.length ≤ 1048576 ∧ (∀ x ∈ i.2.2.1, x.args.length ≤ 1048576) ∧ i.2.2.1.length ≤ i.2.1 ∧ i.2.1 ≤ maxLen
  post i cx mem cx' c mem' := Le cx cx' ∧ ∃ ex, mem' = mem ++ ex ∧ RGK 26 49 54 (rungsN i.2.2.1) c ex
  enter := iSureRungsK_S.enter
  h := fun (o, cap, xs, args) cx mem w hp hm => by
    obtain ⟨h0, h⟩ := hp
    obtain ⟨h1, h2⟩ := h w hm
    simp only at h0 h1 h2 ⊢
    rw [h0]
    refine (iSureRungsK_c o cap xs ⟨w, [], w, []⟩ [] w ⟨rfl, by rw [factF_init]; exact h1, h2⟩ (memRel_nil w)).mono ?_
    rintro e w' ⟨cx2, c, mem2, rfl, hm2, hle, hE⟩
    obtain ⟨cx', g1, g2⟩ := memRel_lift hm hm2 hle
    exact ⟨cx', c, _, rfl, g1, g2, mem2, rfl, hE⟩
def iSureRungsU : Con Try.prog := Con.gen iSureRungsU_S
theorem iSureRungsU_at {c0 : C} {o : Option Addr} {cap n : Nat} {xs : List Ins} {d : Nat} {cx : Cx} {mem : List Blk} {K : Cx → C → List Blk → Prop} (hc : den c0 = .slice o n cap) (hn : n = xs.length)
    (h1 : ∀ w, MemRel cx mem w → RdN w.cell? o xs) (h2 : xs.length ≤ 1048576 ∧ (∀ x ∈ xs, x.args.length ≤ 1048576) ∧ xs.length ≤ cap ∧ cap ≤ maxLen)
    (h : ∀ cx' c ex, Le cx cx' → RGK 26 49 54 (rungsN xs) c ex → K cx' c (mem ++ ex)) : GenV d iSureRungsU_S cx [c0] mem K := by
  subst hn
  exact ⟨(o, cap, xs, [c0]), rfl, ⟨congrArg (fun x => [x]) hc, fun w hm => ⟨h1 w hm, h2⟩⟩, by rintro cx' c _ ⟨hle, ex, rfl, hE⟩; exact h cx' c ex hle hE⟩
def iSureRungs_S : Makes Try.prog 8 where
  ι := Option Addr × Nat × List Ins
  A i := [.slice i.1 i.2.2.length i.2.1]
  pre i F := RdN F i.1 i.2.2 ∧ i.2.2.length ≤ 1048576 ∧ (∀ x ∈ i.2.2, x.args.length ≤ 1048576) ∧ i.2.2.length ≤ i.2.1 ∧ i.2.1 ≤ maxLen
  post i v F := IsRungs F v (rungsN i.2.2)
  mono i F G hs h := ⟨h.1.mono hs, h.2⟩
  monoP i v F G hs h := h.mono hs
  enter := iSureRungsK_S.enter
  h := fun (o, cap, xs) w hp => by
    refine (iSureRungsK_c o cap xs ⟨w, [], w, []⟩ [] w ⟨rfl, by rw [factF_init]; exact hp.1, hp.2⟩ (memRel_nil w)).mono ?_
    rintro e w' ⟨cx2, c, mem2, rfl, hm2, hle, hE⟩
    exact ⟨_, rfl, below_of_rel hm2 hle.w0 hle.g0, hE.new hle.w0 hle.g0 hm2⟩
def iSureRungsW : Con Try.prog := Con.makeW iSureRungs_S
def l8CopyU_S : Gens Try.prog 19 where
  ι := Option Addr × Nat × List Ins
  A i := [.v (.slice i.1 i.2.2.length i.2.1)]
  pre i cx mem := RdN (factF cx) i.1 i.2.2 ∧ i.2.2.length ≤ 1048576 ∧ (∀ x ∈ i.2.2, x.args.length ≤ 1048576)
  post i cx mem cx' c mem' := Le cx cx' ∧ ∃ (b cp : Nat) (pad : List C) (rs : List (List Value)) (As : List Blk), c = .v (.slice (some ⟨b, 0, none⟩) i.2.2.length cp) ∧ mem' = mem ++ (⟨b, LB rs ++ pad, 49⟩ :: As) ∧ LR 54 i.2.2 rs As ∧ i.2.2.length ≤ cp ∧ cp ≤ maxLen ∧ pad.length = (cp - i.2.2.length) * 3
  enter := l8CopyK_S.enter
  h := fun (o, cap, xs) cx mem w hp hm => by
    refine (l8CopyK_c o cap xs ⟨w, [], w, []⟩ [] w ⟨rfl, by rw [factF_init]; exact hp.1.mono (fact_cell hm), hp.2⟩ (memRel_nil w)).mono ?_
    rintro e w' ⟨cx2, c, mem2, rfl, hm2, hle, b, cp, pad, rs, As, rfl, rfl, hE⟩
    obtain ⟨cx', g1, g2⟩ := memRel_lift hm hm2 hle
    exact ⟨cx', _, _, rfl, g1, g2, b, cp, pad, rs, As, rfl, rfl, hE⟩
def l8CopyU : Con Try.prog := Con.gen l8CopyU_S
theorem l8CopyU_at {o : Option Addr} {cap n : Nat} {xs : List Ins} {d : Nat} {cx : Cx} {mem : List Blk} {K : Cx → C → List Blk → Prop} (hn : n = xs.length)
    (h1 : RdN (factF cx) o xs) (h2 : xs.length ≤ 1048576 ∧ (∀ x ∈ xs, x.args.length ≤ 1048576))
    (h : ∀ cx' (b cp : Nat) (pad : List C) (rs : List (List Value)) (As : List Blk), Le cx cx' → LR 54 xs rs As → xs.length ≤ cp → cp ≤ maxLen → pad.length = (cp - xs.length) * 3 →
      K cx' (.v (.slice (some ⟨b, 0, none⟩) xs.length cp)) (mem ++ (⟨b, LB rs ++ pad, 49⟩ :: As))) : GenV d l8CopyU_S cx [.v (.slice o n cap)] mem K := by
  subst hn
  exact ⟨(o, cap, xs), rfl, ⟨h1, h2⟩, by rintro cx' _ _ ⟨hle, b, cp, pad, rs, As, rfl, rfl, q1, q2, q3, q4⟩; exact h cx' b cp pad rs As hle q1 q2 q3 q4⟩
theorem sSureRungsK_c (o : Option Addr) (cap : Nat) (xs : List Ins) (cx : Cx) (mem : List Blk) (w : World) (hpre : mem = [] ∧ RdN (factF cx) o xs ∧ List.length xs ≤ 1048576 ∧ (∀ x ∈ xs, x.args.length ≤ 1048576) ∧ List.length xs ≤ cap ∧ cap ≤ maxLen) (hm : MemRel cx mem w) :
    Calls Try.prog 6 (([.v (.slice o (List.length xs) cap)] : List C).map den).toArray w fun e w' => ∃ cx' c mem', e = .returned (den c) ∧ MemRel cx' mem' w' ∧ Le cx cx' ∧ RGK 26 49 54 (rungsN xs) c mem' := by
  refine step_of_vcs ⟨[sSureCheckC, l8CopyU], []⟩ hmx Try.func6 rfl (by kernel_rfl) (args := [.v (.slice o (List.length xs) cap)]) (by simp [Try.ntmps6]) hm (fun cx' c mem' => Le cx cx' ∧ RGK 26 49 54 (rungsN xs) c mem') 600 ?_
  obtain ⟨rfl, h, hl, hxa, hlc, hcm⟩ := hpre
  have y := fun (d : Nat) (mem : List Blk) (K : C → Prop) => sSureCheckC_rw (cap := cap) (d := d) (cx := cx) (mem := mem) (K := K) ⟨h.mono (sub_now _ _), hl, hxa⟩
  by_cases hs : (sureN xs).1 = 0
  · obtain ⟨hx1, _, _, _, hs0⟩ := sureN_zero hs
    have hrg : rungsN xs = cutG xs [] := by unfold rungsN; rw [if_pos hs]
    rw [hrg]
    simp (maxSteps := 4000000) -dsimp [-List.all_eq_true, -Array.all_eq_true, -Bool.exists_bool, -Bool.forall_bool, and_assoc, List.zipIdx, Try.f6, sSureCheckC, l8CopyU, y, hs, Con.gen]
    intro b0
    refine loop_inv (σ := ⟨[sSureCheckC, l8CopyU], []⟩) hmx (by kernel_rfl) (fun m cx' tm mem => Le cx cx' ∧ ∃ i from' : Nat, i ≤ xs.length ∧ from' ≤ i ∧ m = xs.length - i ∧ ∃ gs : List Grp, cutG xs [] = gs.map Grp.r ++ cutG (xs.drop i) ((xs.take i).drop from') ∧ (∀ g ∈ gs, g.Ok 54) ∧ gs.length ≤ i ∧ ∃ Gs : List Blk, (allB 49 gs).Sublist Gs ∧ ∃ b cp : Nat, gs.length ≤ cp ∧ cp ≤ maxLen ∧ ∃ pad : List C, pad.length = cp - gs.length ∧
        mem = ⟨b, HB gs ++ pad, 26⟩ :: Gs ∧ Sx.look tm 5 = .v (.int .i64 i) ∧ Sx.look tm 4 = .v (.int .i64 from') ∧ Sx.look tm 3 = .s 0 b 0 gs.length cp ∧ Sx.look tm 0 = .v (.slice o xs.length cap))
      xs.length ⟨Le.refl _, 0, 0, by omega, by omega, rfl, [], rfl, by simp, by simp, [], List.Sublist.refl _, b0, 0, by decide, by decide, [], rfl, by simp [HB], by simp [Sx.look], by simp [Sx.look], by simp [Sx.look], by simp [Sx.look]⟩ ?_
    rintro m cx2 tm mem ⟨hle, i, from', hi, hfi, rfl, gs, hG, hok, hgl, Gs, hS, b, cp, g1, g2, pad, g3, rfl, j5, j4, j3, j0⟩
    refine ⟨600, ?_⟩
    have h2 := h.mono hle.fact
    by_cases hlt : i < xs.length
    · have hlt' : (i : Int) < xs.length := by omega
      obtain ⟨x, hx⟩ : ∃ x, xs[i]? = some x := ⟨xs[i], by simp [hlt]⟩
      obtain ⟨o', cap', hat⟩ := h2.at hx
      have w1 := i_succ (i := i) (by omega)
      have hcf : ¬ (cap : Int) = from' := by omega
      by_cases hc : x.code = 11
      · have hyl : ((xs.take (i + 1)).drop from').length = i + 1 - from' := by rw [List.length_drop, List.length_take]; omega
        have hya : ∀ y ∈ (xs.take (i + 1)).drop from', y.args.length ≤ 1048576 := fun y hy => hxa y (List.mem_of_mem_take (List.mem_of_mem_drop hy))
        rw [cutG_end hx hfi hc] at hG
        have hY := h2.cut (i + 1) from'
        simp (maxSteps := 4000000) -dsimp [-List.all_eq_true, -Array.all_eq_true, -Bool.exists_bool, -Bool.forall_bool, and_assoc, List.zipIdx, Try.f6, sSureCheckC, l8CopyU, j5, j4, j3, j0, hlt, hlt', h2.there hlt, hat.code, hc, w1, hcf, Con.gen, List.getElem?_append, List.set_append]
        refine ⟨by omega, by omega, l8CopyU_at (xs := (xs.take (i + 1)).drop from') hyl.symm hY ⟨by omega, hya⟩ ?_⟩
        rw [hyl]
        generalize (xs.take (i + 1)).drop from' = ys at *
        intro cx3 bR cR padR rs As hle3 hR k1 k2 k3
        obtain ⟨J, hKJ, _⟩ := hR.kx
        have hK := hKJ padR
        have hRl := hR.len
        rw [← hyl] at k1 k3
        have e1 := LB_full hRl.2 hRl.1 k3 k1
        obtain ⟨g, hg⟩ : ∃ g : Grp, g = ⟨ys, bR, cR, LB rs ++ padR, As, J⟩ := ⟨_, rfl⟩
        have hgo : g.Ok 54 := by rw [hg]; exact ⟨hK, e1, k1, k2⟩
        have hgh : (C.v (Value.slice (some ⟨bR, 0, none⟩) (i + 1 - from') cR)) = C.v g.hd := by rw [hg, ← hyl]; rfl
        have hgb : allB 49 (gs ++ [g]) = allB 49 gs ++ (⟨bR, LB rs ++ padR, 49⟩ :: As) := by rw [allB_snoc, hg]
        have hgr : cutG xs [] = (gs ++ [g]).map Grp.r ++ cutG (xs.drop (i + 1)) ((xs.take (i + 1)).drop (i + 1)) := by rw [hG, hg]; simp
        have d0 := HB_take gs pad
        have d1 : (HB gs ++ pad).length = cp := by rw [List.length_append, HB_len]; omega
        simp (maxSteps := 4000000) -dsimp [-List.all_eq_true, -Array.all_eq_true, -Bool.exists_bool, -Bool.forall_bool, and_assoc, List.zipIdx, Try.f6, sSureCheckC, l8CopyU, j5, j4, j3, j0, hlt, hlt', w1, hcf, Con.gen, List.getElem?_append, List.set_append]
        intro cx4 p4 hle4 hlit
        rw [RdL.sl (hlit.mono ((sub_new cx4).trans (sub_now _ _))) (by rfl)]
        unfold GrowV
        simp (maxSteps := 4000000) -dsimp [-List.all_eq_true, -Array.all_eq_true, -Bool.exists_bool, -Bool.forall_bool, and_assoc, List.zipIdx, Try.f6, sSureCheckC, l8CopyU, j5, j4, j3, j0, d0, d1, -List.length_append, w1, Con.gen, List.getElem?_append, List.set_append]
        rw [hgh]
        exact ⟨g1, g2, by unfold maxLen; omega, by omega, fun b' cap8 pad' r1 r2 r3 => ⟨Gs.length + As.length + 3, xs.length - (i + 1), by omega, hle.trans (hle3.trans hle4), i + 1, by omega, i + 1, by omega, rfl, gs ++ [g], hgr, fun z hz => by
          rcases List.mem_append.1 hz with hz | hz
          · exact hok z hz
          · rw [List.mem_singleton] at hz; rw [hz]; exact hgo, by simp; omega, Gs ++ (_ :: As), by rw [hgb]; exact hS.append (List.Sublist.refl _), b', cap8, by simpa using r1, r2, pad', by simpa using r3, by rw [List.take_of_length_le (by simp; omega), HB_push], by omega, by omega, rfl, by simp, rfl⟩⟩
      · rw [cutG_step hx hfi hc] at hG
        simp (maxSteps := 4000000) -dsimp [-List.all_eq_true, -Array.all_eq_true, -Bool.exists_bool, -Bool.forall_bool, and_assoc, List.zipIdx, Try.f6, sSureCheckC, l8CopyU, j5, j4, j3, j0, hlt, hlt', h2.there hlt, hat.code, hc, w1, hcf, Con.gen, List.getElem?_append, List.set_append]
        exact ⟨Gs.length + 1, xs.length - (i + 1), by omega, hle, i + 1, by omega, from', by omega, rfl, gs, hG, hok, by omega, Gs, hS, b, cp, g1, g2, pad, g3, List.take_of_length_le (by simp), by omega, rfl, rfl, rfl, rfl⟩
    · obtain rfl : i = xs.length := by omega
      have hlt' : ¬ (xs.length : Int) < xs.length := by omega
      rw [List.drop_of_length_le (Nat.le_refl _)] at hG
      simp (maxSteps := 4000000) -dsimp [-List.all_eq_true, -Array.all_eq_true, -Bool.exists_bool, -Bool.forall_bool, and_assoc, List.zipIdx, Try.f6, sSureCheckC, l8CopyU, j5, j4, j3, j0, hlt', Con.gen]
      rw [hG]
      exact endK_sub (List.Sublist.cons_cons _ hS) ⟨hle, gs, b, cp, pad, by simp [cutG], hok, rfl, rfl, g1, g2⟩
  · rw [rungs_none hs]
    have hs1 : 0 < (sureN xs).1 := by have := sureN_bd xs; omega
    simp (maxSteps := 4000000) -dsimp [-List.all_eq_true, -Array.all_eq_true, -Bool.exists_bool, -Bool.forall_bool, and_assoc, List.zipIdx, Try.f6, sSureCheckC, l8CopyU, y, hs1, Con.gen]
    intro b0
    exact endK_val ⟨Le.refl _, [], b0, 0, [], rfl, by simp, rfl, by simp [HB, allB], by decide, by decide⟩
def sSureRungsK_S : Gens Try.prog 6 where
  ι := ((Option Addr) × (Nat) × (List Ins))
  A := fun (i : ((Option Addr) × (Nat) × (List Ins))) => match i with | (o, cap, xs) => [.v (.slice o (List.length xs) cap)]
  pre := fun (i : ((Option Addr) × (Nat) × (List Ins))) (cx : Cx) (mem : List Blk) => match i with | (o, cap, xs) => mem = [] ∧ RdN (factF cx) o xs ∧ List.length xs ≤ 1048576 ∧ (∀ x ∈ xs, x.args.length ≤ 1048576) ∧ List.length xs ≤ cap ∧ cap ≤ maxLen
  post := fun (i : ((Option Addr) × (Nat) × (List Ins))) (cx : Cx) (mem : List Blk) (cx' : Cx) (c : C) (mem' : List Blk) => match i with | (o, cap, xs) => Le cx cx' ∧ RGK 26 49 54 (rungsN xs) c mem'
  enter := Try.call6
  h := fun i cx mem w hp hm => sSureRungsK_c i.1 i.2.1 i.2.2 cx mem w hp hm
def sSureRungs_S : Makes Try.prog 6 where
  ι := Option Addr × Nat × List Ins
  A i := [.slice i.1 i.2.2.length i.2.1]
  pre i F := RdN F i.1 i.2.2 ∧ i.2.2.length ≤ 1048576 ∧ (∀ x ∈ i.2.2, x.args.length ≤ 1048576) ∧ i.2.2.length ≤ i.2.1 ∧ i.2.1 ≤ maxLen
  post i v F := IsRungs F v (rungsN i.2.2)
  mono i F G hs h := ⟨h.1.mono hs, h.2⟩
  monoP i v F G hs h := h.mono hs
  enter := sSureRungsK_S.enter
  h := fun (o, cap, xs) w hp => by
    refine (sSureRungsK_c o cap xs ⟨w, [], w, []⟩ [] w ⟨rfl, by rw [factF_init]; exact hp.1, hp.2⟩ (memRel_nil w)).mono ?_
    rintro e w' ⟨cx2, c, mem2, rfl, hm2, hle, hE⟩
    exact ⟨_, rfl, below_of_rel hm2 hle.w0 hle.g0, hE.new hle.w0 hle.g0 hm2⟩
def sSureRungsW : Con Try.prog := Con.makeW sSureRungs_S
end Go.Proofs.Ytnnpmopnnamakaa
