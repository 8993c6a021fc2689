/-
  Contracts: rungs compared, marked and found marked.
-/
import Derived.Test.YtnnpmopnnamakaaJbw1
import Derived.Test.YtnnpmopnnamakaaJcw1
set_option linter.unusedVariables false
set_option linter.unusedSimpArgs false
set_option maxRecDepth 100000
set_option maxHeartbeats 4000000
namespace Go.Proofs.Ytnnpmopnnamakaa
open Go Go.Sx
attribute [local simp] Sx.vcsE1 Sx.vcsE2 Sx.vcsE3 Sx.vcsE4 Sx.vcsE5 Sx.vcsE6 Sx.vcsE7 Sx.vcsE8 Sx.vcsE9 Sx.vcsE10 Sx.vcsE11 Sx.vcsE12 Sx.vcsE13 Sx.vcsE14 Sx.vcsE15 Sx.vcsE16 Sx.vcsE17 Sx.vcsE18 Sx.vcsE19 Sx.get Sx.look Sx.put Sx.pureFn Sx.findOrd Sx.unF Sx.dstOk Sx.isFloatT Sx.endVC Sx.resFn Sx.packC Sx.newFn Sx.storeFn Sx.buildFn Sx.known Sx.aggT Sx.cellsC Sx.findCon Sx.allV Sx.partsV Sx.partsC Sx.fillL Sx.exitTo Sx.fAr Sx.eqFn Sx.eqFieldsFn Sx.eqElemsFn Sx.partFn Sx.sliceFn Sx.boundFn Sx.AppV Sx.CopyV Sx.MakeSliceV Sx.NewsV Sx.GrowV Sx.TextV Sx.bytesL Sx.notInt Sx.typeAt Sx.argAt Sx.den Go.undef Go.Value.cells Go.Value.oneCell' Sx.Con.pure Sx.Con.some Sx.Con.read Sx.Con.make Sx.Con.ext Sx.Con.rel Sx.Con.extS Sx.Con.draw Sx.Con.step Sx.C.one Sx.Draws.steps

theorem eqSSC_c (o : Option Addr) (cap : Nat) (rs : List (List Ins)) (o2 : Option Addr) (cap2 : Nat) (w : World) (hpre : RgsAt (factF ⟨w, [], w, []⟩) o rs ∧ RgsAt (factF ⟨w, [], w, []⟩) o2 rs ∧ rs.length ≤ 1048576 ∧ (∀ r ∈ rs, r.length ≤ 1048576 ∧ ∀ x ∈ r, x.args.length ≤ 1048576)) : Calls Try.prog 9 #[.slice o rs.length cap, .slice o2 rs.length cap2] w fun e w' => ∃ v, e = .returned v ∧ (fun v => v = .bool true) v ∧ RowKit.Below w.heap.size w w' := by
  refine plain_of_vcs ⟨[eqInstSC], []⟩ hmx Try.func9 rfl (by kernel_rfl) (args := [.slice o rs.length cap, .slice o2 rs.length cap2]) (by simp [Try.ntmps9]) w (fun v => v = .bool true) 400 ?_
  obtain ⟨h, h2, hl, hb⟩ := hpre
  simp (maxSteps := 4000000) -dsimp [-List.all_eq_true, -Array.all_eq_true, -Bool.exists_bool, -Bool.forall_bool, and_assoc, List.zipIdx, Try.f9, eqInstSC]
  refine loop_inv (σ := ⟨[eqInstSC], []⟩) hmx (by kernel_rfl) (fun m cx tm mem => cx = ⟨w, [], w, []⟩ ∧ mem = [] ∧ ∃ i : Nat, i ≤ rs.length ∧ m = rs.length - i ∧ Sx.look tm 5 = .v (.int .i64 i) ∧ Sx.look tm 0 = .v (.slice o rs.length cap) ∧ Sx.look tm 1 = .v (.slice o2 rs.length cap2))
    rs.length ⟨rfl, rfl, 0, by omega, rfl, by simp [Sx.look], by simp [Sx.look], by simp [Sx.look]⟩ ?_
  rintro m cx tm mem ⟨rfl, rfl, i, hi, rfl, j5, j0, j1⟩
  refine ⟨400, ?_⟩
  by_cases hlt : i < rs.length
  · obtain ⟨r, hr⟩ : ∃ r, rs[i]? = some r := ⟨rs[i], by simp [hlt]⟩
    obtain ⟨oa, ca, a1, a2, a3, a4, a5⟩ := h.at hr
    obtain ⟨ob, cb, b1, b2, b3, b4, b5⟩ := h2.at hr
    obtain ⟨r1, r2⟩ := hb r (List.mem_of_getElem? hr)
    have y := fun (d : Nat) (mem : List Blk) (K : C → Prop) => eqInstSC_rw (cap := ca) (cap2 := cb) (d := d) (cx := ⟨w, [], w, []⟩) (mem := mem) (K := K) ⟨a1.mono (sub_now _ _), b1.mono (sub_now _ _), r1, r2⟩
    simp (maxSteps := 4000000) -dsimp [-List.all_eq_true, -Array.all_eq_true, -Bool.exists_bool, -Bool.forall_bool, and_assoc, List.zipIdx, Try.f9, eqInstSC, j5, j0, j1, hlt, a4, a5, b4, b5, y, i_succ (i := i) (by omega)]
    exact ⟨rs.length - (i + 1), by omega, i + 1, by omega, rfl, by omega⟩
  · obtain rfl : i = rs.length := by omega
    simp (maxSteps := 4000000) -dsimp [-List.all_eq_true, -Array.all_eq_true, -Bool.exists_bool, -Bool.forall_bool, and_assoc, List.zipIdx, Try.f9, eqInstSC, j5, j0, j1]
def eqSSC_S : Rels Try.prog 9 where
  ι := ((Option Addr) × (Nat) × (List (List Ins)) × (Option Addr) × (Nat))
  A := fun (i : ((Option Addr) × (Nat) × (List (List Ins)) × (Option Addr) × (Nat))) => match i with | (o, cap, rs, o2, cap2) => [.slice o rs.length cap, .slice o2 rs.length cap2]
  pre := fun (i : ((Option Addr) × (Nat) × (List (List Ins)) × (Option Addr) × (Nat))) (F : Facts) => match i with | (o, cap, rs, o2, cap2) => RgsAt F o rs ∧ RgsAt F o2 rs ∧ rs.length ≤ 1048576 ∧ (∀ r ∈ rs, r.length ≤ 1048576 ∧ ∀ x ∈ r, x.args.length ≤ 1048576)
  post := fun (i : ((Option Addr) × (Nat) × (List (List Ins)) × (Option Addr) × (Nat))) => match i with | (o, cap, rs, o2, cap2) => fun v => v = .bool true
  mono := by
    intro i F G hs h
    first | exact h | exact h.mono hs | exact ⟨h.1.mono hs, h.2⟩ | exact ⟨h.1.mono hs, h.2.1.mono hs, h.2.2⟩ | exact ⟨h.1.mono hs, h.2.1.mono hs⟩ | exact ⟨h.1.mono hs, h.2.1.mono hs, h.2.2.1.mono hs, h.2.2.2⟩
  enter := Try.call9
  h := fun i w hp => eqSSC_c i.1 i.2.1 i.2.2.1 i.2.2.2.1 i.2.2.2.2 w (by rw [factF_init]; exact hp)
theorem heldSSC_c (o : Option Addr) (cap : Nat) (rs : List (List Ins)) (q : Int) (w : World) (hpre : RgsAt (factF ⟨w, [], w, []⟩) o (markR q rs) ∧ (rs.flatten.length ≤ 1000 ∧ (∀ r ∈ rs, r.length ≤ 1000 ∧ ∀ x ∈ r, x.args.length ≤ 3) ∧ rs.length ≤ 1048576 ∧ 0 ≤ q ∧ q ≤ 1000)) : Calls Try.prog 13 #[.slice o rs.length cap, .int .i64 q] w fun e w' => ∃ v, e = .returned v ∧ (fun v => v = .int .i64 (endR q rs)) v ∧ RowKit.Below w.heap.size w w' := by
  refine plain_of_vcs ⟨[heldInC], []⟩ hmx Try.func13 rfl (by kernel_rfl) (args := [.slice o rs.length cap, .int .i64 q]) (by simp [Try.ntmps13]) w (fun v => v = .int .i64 (endR q rs)) 400 ?_
  obtain ⟨h, hf, hb, hl, hq0, hq1⟩ := hpre
  have hbd := fun i => endR_bd q (rs.take i) fun r hr x hx => (hb r (List.mem_of_mem_take hr)).2 x hx
  have hfl := fun i => flat_take_le rs i
  have hml := markR_len q rs
  simp (maxSteps := 4000000) -dsimp [-List.all_eq_true, -Array.all_eq_true, -Bool.exists_bool, -Bool.forall_bool, and_assoc, List.zipIdx, Try.f13, heldInC]
  refine loop_inv (σ := ⟨[heldInC], []⟩) hmx (by kernel_rfl) (fun m cx tm mem => cx = ⟨w, [], w, []⟩ ∧ mem = [] ∧ ∃ i : Nat, i ≤ rs.length ∧ m = rs.length - i ∧ Sx.look tm 5 = .v (.int .i64 i) ∧ Sx.look tm 1 = .v (.int .i64 (endR q (rs.take i))) ∧ Sx.look tm 0 = .v (.slice o rs.length cap))
    rs.length ⟨rfl, rfl, 0, by omega, rfl, by simp [Sx.look], by simp [Sx.look, endR], by simp [Sx.look]⟩ ?_
  rintro m cx tm mem ⟨rfl, rfl, i, hi, rfl, j5, j1, j0⟩
  refine ⟨400, ?_⟩
  by_cases hlt : i < rs.length
  · obtain ⟨r, hr⟩ : ∃ r, rs[i]? = some r := ⟨rs[i], by simp [hlt]⟩
    have hst := endR_step (q := q) hr
    obtain ⟨o', cap', a1, a2, a3, a4, a5⟩ := h.at (markR_at (q := q) hr)
    obtain ⟨r1, r2⟩ := hb r (List.mem_of_getElem? hr)
    obtain ⟨hq2, hq3⟩ := hbd i
    have hfi := hfl i
    generalize endR q (rs.take i) = p at *
    rw [markN_len] at a2
    have hn := (endM_bd p r r2).1
    have hn' : ¬ endM p r < 0 := by omega
    simp (maxSteps := 4000000) -dsimp [-List.all_eq_true, -Array.all_eq_true, -Bool.exists_bool, -Bool.forall_bool, and_assoc, List.zipIdx, Try.f13, heldInC, j5, j1, j0, hlt, a4, a5, markN_len]
    refine ⟨(o', cap', r, p), rfl, ⟨a1.mono (sub_now _ _), by omega, r2, by omega, by omega⟩, ?_⟩
    rintro v rfl
    simp (maxSteps := 4000000) -dsimp [-List.all_eq_true, -Array.all_eq_true, -Bool.exists_bool, -Bool.forall_bool, and_assoc, List.zipIdx, Try.f13, heldInC, j5, j1, j0, hn', i_succ (i := i) (by omega)]
    exact ⟨rs.length - (i + 1), by omega, i + 1, by omega, rfl, by omega, hst.symm⟩
  · obtain rfl : i = rs.length := by omega
    rw [List.take_length] at j1
    simp (maxSteps := 4000000) -dsimp [-List.all_eq_true, -Array.all_eq_true, -Bool.exists_bool, -Bool.forall_bool, and_assoc, List.zipIdx, Try.f13, heldInC, j5, j1, j0]
def heldSSC_S : Rels Try.prog 13 where
  ι := ((Option Addr) × (Nat) × (List (List Ins)) × (Int))
  A := fun (i : ((Option Addr) × (Nat) × (List (List Ins)) × (Int))) => match i with | (o, cap, rs, q) => [.slice o rs.length cap, .int .i64 q]
  pre := fun (i : ((Option Addr) × (Nat) × (List (List Ins)) × (Int))) (F : Facts) => match i with | (o, cap, rs, q) => RgsAt F o (markR q rs) ∧ (rs.flatten.length ≤ 1000 ∧ (∀ r ∈ rs, r.length ≤ 1000 ∧ ∀ x ∈ r, x.args.length ≤ 3) ∧ rs.length ≤ 1048576 ∧ 0 ≤ q ∧ q ≤ 1000)
  post := fun (i : ((Option Addr) × (Nat) × (List (List Ins)) × (Int))) => match i with | (o, cap, rs, q) => fun v => v = .int .i64 (endR q rs)
  mono := by
    intro i F G hs h
    first | exact h | exact h.mono hs | exact ⟨h.1.mono hs, h.2⟩ | exact ⟨h.1.mono hs, h.2.1.mono hs, h.2.2⟩ | exact ⟨h.1.mono hs, h.2.1.mono hs⟩ | exact ⟨h.1.mono hs, h.2.1.mono hs, h.2.2.1.mono hs, h.2.2.2⟩
  enter := Try.call13
  h := fun i w hp => heldSSC_c i.1 i.2.1 i.2.2.1 i.2.2.2 w (by rw [factF_init]; exact hp)
theorem markSSP_c (m1 m2 : List Blk) (gs : List Grp) (b cp : Nat) (cells : List C) (q : Int) (cx : Cx) (mem : List Blk) (w : World) (hpre : mem = m1 ++ (⟨b, cells, 26⟩ :: (allB 49 gs ++ m2)) ∧ (∀ (i : Nat) g, gs[i]? = some g → cells[i]? = some (C.v (Grp.hd g))) ∧ (∀ g ∈ gs, Grp.Ok 54 g ∧ List.length (Grp.r g) ≤ 1000 ∧ ∀ x ∈ Grp.r g, x.args.length ≤ 3) ∧ List.length gs ≤ 1048576 ∧ List.length (List.flatten (List.map Grp.r gs)) ≤ 1000 ∧ 0 ≤ q ∧ q ≤ 1000) (hm : MemRel cx mem w) :
    Calls Try.prog 12 (([.s (List.length m1) b 0 (List.length gs) cp, .v (.int .i64 q)] : List C).map den).toArray w fun e w' => ∃ cx' c mem', e = .returned (den c) ∧ MemRel cx' mem' w' ∧ cx' = cx ∧ c = .v (.int .i64 (endR q (List.map Grp.r gs))) ∧ ∃ gs' : List Grp, List.map Grp.hd gs' = List.map Grp.hd gs ∧ List.map Grp.r gs' = markR q (List.map Grp.r gs) ∧ (∀ g ∈ gs', Grp.Ok 54 g) ∧ mem' = m1 ++ (⟨b, cells, 26⟩ :: (allB 49 gs' ++ m2)) := by
  refine step_of_vcs ⟨[markInU], []⟩ hmx Try.func12 rfl (by kernel_rfl) (args := [.s (List.length m1) b 0 (List.length gs) cp, .v (.int .i64 q)]) (by simp [Try.ntmps12]) hm (fun cx' c mem' => cx' = cx ∧ c = .v (.int .i64 (endR q (List.map Grp.r gs))) ∧ ∃ gs' : List Grp, List.map Grp.hd gs' = List.map Grp.hd gs ∧ List.map Grp.r gs' = markR q (List.map Grp.r gs) ∧ (∀ g ∈ gs', Grp.Ok 54 g) ∧ mem' = m1 ++ (⟨b, cells, 26⟩ :: (allB 49 gs' ++ m2))) 500 ?_
  obtain ⟨rfl, hC, hok, hl, hf, hq0, hq1⟩ := hpre
  simp (maxSteps := 4000000) -dsimp [-List.all_eq_true, -Array.all_eq_true, -Bool.exists_bool, -Bool.forall_bool, and_assoc, List.zipIdx, Try.f12, markInU, Con.gen]
  refine loop_inv (σ := ⟨[markInU], []⟩) hmx (by kernel_rfl) (fun m cx' tm mem' => cx' = cx ∧ ∃ ps us ds : List Grp, gs = ps ++ us ∧ m = us.length ∧ ds.map Grp.hd = ps.map Grp.hd ∧ ds.map Grp.r = markR q (ps.map Grp.r) ∧ (∀ g ∈ ds, Grp.Ok 54 g) ∧ mem' = m1 ++ (⟨b, cells, 26⟩ :: (allB 49 ds ++ (allB 49 us ++ m2))) ∧ Sx.look tm 5 = .v (.int .i64 ps.length) ∧ Sx.look tm 1 = .v (.int .i64 (endR q (ps.map Grp.r))) ∧ Sx.look tm 0 = .s m1.length b 0 gs.length cp)
    gs.length ⟨rfl, [], gs, [], rfl, rfl, rfl, rfl, by simp, by simp [allB], by simp [Sx.look], by simp [Sx.look, endR], by simp [Sx.look]⟩ ?_
  rintro m cx' tm mem' ⟨rfl, ps, us, ds, hgs, rfl, d1, d2, d3, rfl, j5, j1, j0⟩
  refine ⟨500, ?_⟩
  cases us with
  | nil =>
    obtain rfl : gs = ps := by simpa using hgs
    simp (maxSteps := 4000000) -dsimp [-List.all_eq_true, -Array.all_eq_true, -Bool.exists_bool, -Bool.forall_bool, and_assoc, List.zipIdx, Try.f12, markInU, Con.gen, j5, j1, j0]
    exact EndK.all ⟨rfl, rfl, ds, d1, d2, d3, by simp [allB]⟩
  | cons g us =>
    have hgm : g ∈ gs := by rw [hgs]; simp
    have hlen : gs.length = ps.length + (us.length + 1) := by rw [hgs]; simp
    have hlt : ps.length < gs.length := by omega
    have hg : gs[ps.length]? = some g := by rw [hgs]; simp
    have hcg := hC ps.length g hg
    have hce : ∀ h : ps.length < cells.length, cells[ps.length]'h = C.v g.hd := fun h => (List.getElem?_eq_some_iff.1 hcg).2
    have hcl : ps.length < cells.length := (List.getElem?_eq_some_iff.1 hcg).1
    obtain ⟨ho, hr1, hr2⟩ := hok g hgm
    have hsn := endR_snoc q (ps.map Grp.r) g.r
    have hmn := markR_snoc q (ps.map Grp.r) g.r
    have hbd := endR_bd q (ps.map Grp.r) fun r hr x hx => by
      obtain ⟨z, hz, rfl⟩ := List.mem_map.1 hr
      exact (hok z (by rw [hgs]; simp [hz])).2.2 x hx
    have hfl : (ps.map Grp.r).flatten.length ≤ 1000 := by
      rw [hgs, List.map_append, List.flatten_append, List.length_append] at hf
      omega
    generalize endR q (ps.map Grp.r) = p at *
    have hh : C.v g.hd = .v (.slice (some ⟨g.b, 0, none⟩) g.r.length g.cp) := rfl
    simp (maxSteps := 4000000) -dsimp [-List.all_eq_true, -Array.all_eq_true, -Bool.exists_bool, -Bool.forall_bool, and_assoc, List.zipIdx, Try.f12, markInU, Con.gen, j5, j1, j0, hlt, hcg, hce, hcl, hh, List.getElem?_append, List.set_append]
    refine markInV_at (m1 := m1 ++ (⟨b, cells, 26⟩ :: allB 49 ds)) (As := g.As) (m2 := allB 49 us ++ m2) (by rw [allB_cons]; simp) ho.kx rfl ho.len hr1 hr2 ⟨by omega, by omega⟩ ?_
    intro cells' As' hlen' hK'
    obtain ⟨g', hg'⟩ : ∃ g' : Grp, g' = ⟨markN p g.r, g.b, g.cp, cells', As', g.J⟩ := ⟨_, rfl⟩
    have hok' : g'.Ok 54 := by rw [hg']; exact ⟨hK', by rw [hlen']; exact ho.len, by rw [markN_len]; exact ho.le, ho.cm⟩
    simp (maxSteps := 4000000) -dsimp [-List.all_eq_true, -Array.all_eq_true, -Bool.exists_bool, -Bool.forall_bool, and_assoc, List.zipIdx, Try.f12, markInU, Con.gen, j5, j1, j0, i_succ (i := ps.length) (by omega)]
    exact ⟨m1.length + (allB 49 ds).length + g.As.length + (allB 49 us).length + m2.length + As'.length + 5, us.length, by simp, ps ++ [g], us, by rw [hgs]; simp, rfl, ds ++ [g'], by rw [List.map_append, List.map_append, d1, hg']; simp [Grp.hd, markN_len], by rw [List.map_append, List.map_append, d2, hg']; exact hmn.symm, fun z hz => by
      rcases List.mem_append.1 hz with hz | hz
      · exact d3 z hz
      · rw [List.mem_singleton] at hz; rw [hz]; exact hok', by rw [List.take_of_length_le (by simp; omega), allB_snoc, hg']; simp, by simp, by simpa using hsn.symm⟩
def markSSP_S : Gens Try.prog 12 where
  ι := ((List Blk) × (List Blk) × (List Grp) × (Nat) × (Nat) × (List C) × (Int))
  A := fun (i : ((List Blk) × (List Blk) × (List Grp) × (Nat) × (Nat) × (List C) × (Int))) => match i with | (m1, m2, gs, b, cp, cells, q) => [.s (List.length m1) b 0 (List.length gs) cp, .v (.int .i64 q)]
  pre := fun (i : ((List Blk) × (List Blk) × (List Grp) × (Nat) × (Nat) × (List C) × (Int))) (cx : Cx) (mem : List Blk) => match i with | (m1, m2, gs, b, cp, cells, q) => mem = m1 ++ (⟨b, cells, 26⟩ :: (allB 49 gs ++ m2)) ∧ (∀ (i : Nat) g, gs[i]? = some g → cells[i]? = some (C.v (Grp.hd g))) ∧ (∀ g ∈ gs, Grp.Ok 54 g ∧ List.length (Grp.r g) ≤ 1000 ∧ ∀ x ∈ Grp.r g, x.args.length ≤ 3) ∧ List.length gs ≤ 1048576 ∧ List.length (List.flatten (List.map Grp.r gs)) ≤ 1000 ∧ 0 ≤ q ∧ q ≤ 1000
  post := fun (i : ((List Blk) × (List Blk) × (List Grp) × (Nat) × (Nat) × (List C) × (Int))) (cx : Cx) (mem : List Blk) (cx' : Cx) (c : C) (mem' : List Blk) => match i with | (m1, m2, gs, b, cp, cells, q) => cx' = cx ∧ c = .v (.int .i64 (endR q (List.map Grp.r gs))) ∧ ∃ gs' : List Grp, List.map Grp.hd gs' = List.map Grp.hd gs ∧ List.map Grp.r gs' = markR q (List.map Grp.r gs) ∧ (∀ g ∈ gs', Grp.Ok 54 g) ∧ mem' = m1 ++ (⟨b, cells, 26⟩ :: (allB 49 gs' ++ m2))
  enter := Try.call12
  h := fun i cx mem w hp hm => markSSP_c i.1 i.2.1 i.2.2.1 i.2.2.2.1 i.2.2.2.2.1 i.2.2.2.2.2.1 i.2.2.2.2.2.2 cx mem w hp hm
end Go.Proofs.Ytnnpmopnnamakaa
