/-
  The law of the assembler, walked.
-/
import Derived.Test.YtclbanhoiaieaaaGreatDoorUkva
import Derived.Test.YtclbanhoiaieaaaGreatDoorUiva
import Derived.Test.YtclbanhoiaieaaaGreatDoorUqva
import Derived.Test.YtclbanhoiaieaaaGreatDoorUsva
import Derived.Test.YtclbanhoiaieaaaGreatDoorLuva
import Derived.Test.YtclbanhoiaieaaaGreatDoorTuva
set_option linter.unusedVariables false
set_option linter.unusedSimpArgs false
set_option maxRecDepth 100000
set_option maxHeartbeats 4000000
namespace Go.Proofs.YtclbanhoiaieaaaGreatDoor
open Go Go.Sx
attribute [local simp] Sx.vcsE1 Sx.vcsE2 Sx.vcsE3 Sx.vcsE4 Sx.vcsE5 Sx.vcsE6 Sx.vcsE7 Sx.vcsE8 Sx.vcsE9 Sx.vcsE10 Sx.vcsE11 Sx.vcsE12 Sx.vcsE13 Sx.vcsE14 Sx.vcsE15 Sx.vcsE16 Sx.vcsE17 Sx.vcsE18 Sx.vcsE19 Sx.get Sx.look Sx.put Sx.pureFn Sx.findOrd Sx.unF Sx.dstOk Sx.isFloatT Sx.endVC Sx.resFn Sx.packC Sx.newFn Sx.storeFn Sx.buildFn Sx.known Sx.aggT Sx.cellsC Sx.findCon Sx.allV Sx.partsV Sx.partsC Sx.fillL Sx.exitTo Sx.fAr Sx.eqFn Sx.eqFieldsFn Sx.eqElemsFn Sx.partFn Sx.sliceFn Sx.boundFn Sx.AppV Sx.CopyV Sx.MakeSliceV Sx.NewsV Sx.GrowV Sx.TextV Sx.bytesL Sx.notInt Sx.typeAt Sx.argAt Sx.den Go.undef Go.Value.cells Go.Value.oneCell' Sx.Con.pure Sx.Con.some Sx.Con.read Sx.Con.make Sx.Con.ext Sx.Con.rel Sx.Con.extS Sx.Con.draw Sx.Con.step Sx.C.one Sx.Draws.steps

theorem lawListParse2C_c (o : Option Addr) (cap : Nat) (bs : List Int) (w : World) (hpre : RdB (factF ⟨w, [], w, []⟩) o bs ∧ TM (factF ⟨w, [], w, []⟩) ∧ ((∀ b ∈ bs, 0 ≤ b ∧ b < 256) ∧ bs.length ≤ cap ∧ cap ≤ maxLen)) : Calls Tryz.prog 5 #[.slice o bs.length cap] w fun e w' => e = .returned (.bool true) ∧ RowKit.Below w.heap.size w w' := by
  refine (plain_of_vcs ⟨[drawListParseC, iListParseC, sListParseC, sListSameC, iListOkC, iListLineC, iListTextC, listSameC], []⟩ hmx Tryz.func5 rfl (by kernel_rfl) (args := [.slice o bs.length cap]) (by simp [Tryz.ntmps5]) w (· = .bool true) 500 ?_).mono fun e w' ⟨v, h1, h2, h3⟩ => ⟨h2 ▸ h1, h3⟩
  obtain ⟨h, ht, hb1, hb2, hb3⟩ := hpre
  by_cases hs : 1048576 < bs.length
  · have hs1 : (1048576 : Int) < bs.length := by omega
    simp (maxSteps := 4000000) -dsimp [-List.all_eq_true, -Array.all_eq_true, -Bool.exists_bool, -Bool.forall_bool, and_assoc, List.zipIdx, Tryz.f5, drawListParseC, iListParseC, sListParseC, sListSameC, iListOkC, iListLineC, iListTextC, listSameC, hs1]
  have hs1 : ¬ (1048576 : Int) < bs.length := by omega
  simp (maxSteps := 4000000) -dsimp [-List.all_eq_true, -Array.all_eq_true, -Bool.exists_bool, -Bool.forall_bool, and_assoc, List.zipIdx, Tryz.f5, drawListParseC, iListParseC, sListParseC, sListSameC, iListOkC, iListLineC, iListTextC, listSameC, hs1, Con.gen]
  refine drawListParseC_at ⟨h, hb1, hb2, hb3⟩ ?_
  rintro cx1 c mem1 ⟨hle1, rfl, t, rfl, htl⟩
  have hTM : ∀ {cx' : Cx} {mem : List Blk}, Le cx1 cx' → TM (nowF cx' mem) := fun g => ht.mono ((hle1.trans g).fact.trans (sub_now _ _))
  have hTL : ∀ {cx' : Cx} {mem : List Blk}, Le cx1 cx' → TL (nowF cx' mem) := fun g => ⟨(hTM g).e.c.t, (hTM g).e.c.n, (hTM g).w⟩
  simp (maxSteps := 4000000) -dsimp [-List.all_eq_true, -Array.all_eq_true, -Bool.exists_bool, -Bool.forall_bool, and_assoc, List.zipIdx, Tryz.f5, drawListParseC, iListParseC, sListParseC, sListSameC, iListOkC, iListLineC, iListTextC, listSameC, Con.gen]
  refine ⟨t, rfl, ⟨hTM (Le.refl _), by omega⟩, ?_⟩
  rintro cx2 v hle2 hv
  obtain ⟨o2, cap2, rfl, hd2, c1, c2⟩ := hv.ex
  simp (maxSteps := 4000000) -dsimp [-List.all_eq_true, -Array.all_eq_true, -Bool.exists_bool, -Bool.forall_bool, and_assoc, List.zipIdx, Tryz.f5, drawListParseC, iListParseC, sListParseC, sListSameC, iListOkC, iListLineC, iListTextC, listSameC, Con.gen]
  intro b0
  refine ⟨t, rfl, ⟨trivial, by omega⟩, ?_⟩
  rintro cx3 v hle3 hv3
  obtain ⟨o3, cap3, rfl, hd3, c3, c4⟩ := hv3.ex
  have hle13 := hle2.trans hle3
  have hd2' : RdN (factF cx3) o2 (listRd t).1 := hd2.mono ((sub_new _).trans hle3.fact)
  have hd3' : RdN (factF cx3) o3 (listRd t).1 := hd3.mono (sub_new _)
  have hall := listRd_all t
  have hd2n := hd2
  clear hd2 hd3 hv hv3
  generalize hr : listRd t = r at *
  obtain ⟨xs, ln, cd⟩ := r
  simp only at hd2' hd3' hall c1 c2 c3 c4 hd2n ⊢
  rcases hall with ⟨hz, hok, hlen⟩ | ⟨rfl, hcase⟩
  · simp only [Prod.mk.injEq] at hz
    obtain ⟨rfl, rfl⟩ := hz
    have hx1 : ∀ x ∈ xs, x.args.length ≤ 1048576 := fun x hx => by have := ok_args (hok x hx); omega
    have s1 := fun (d : Nat) (mem : List Blk) (K : C → Prop) => sListSameC_rw (cap := cap2) (cap2 := cap3) (d := d) (cx := cx3) (mem := mem) (K := K) ⟨hd2'.mono (sub_now _ _), hd3'.mono (sub_now _ _), by omega, by omega, hx1, hx1⟩
    simp (maxSteps := 4000000) -dsimp [-List.all_eq_true, -Array.all_eq_true, -Bool.exists_bool, -Bool.forall_bool, and_assoc, List.zipIdx, Tryz.f5, drawListParseC, iListParseC, sListParseC, sListSameC, iListOkC, iListLineC, iListTextC, listSameC, s1, Con.gen]
    intro b1
    have hf0 := fun (i : Nat) (hi : i < xs.length) => hd2'.there hi
    refine loop_inv (σ := ⟨[drawListParseC, iListParseC, sListParseC, sListSameC, iListOkC, iListLineC, iListTextC, listSameC], []⟩) hmx (by kernel_rfl) (fun m cx' tm mem => cx' = cx3 ∧ mem = [⟨b0, [.v (.int .i64 0), .v (.int .i64 0)], 48⟩, ⟨b1, [.v (.int .i64 0), .v (.int .i64 0)], 48⟩] ∧ ∃ i : Nat, i ≤ xs.length ∧ m = xs.length - i ∧ Sx.look tm 10 = .v (.int .i64 i) ∧ Sx.look tm 4 = .v (.slice o2 xs.length cap2))
      xs.length ⟨rfl, rfl, 0, by omega, rfl, by simp [Sx.look], by simp [Sx.look]⟩ ?_
    rintro m cx' tm mem ⟨rfl, rfl, i, hi, rfl, j10, j4⟩
    refine ⟨500, ?_⟩
    by_cases hlt : i < xs.length
    · obtain ⟨x, hx⟩ : ∃ x, xs[i]? = some x := ⟨xs[i], by simp [hlt]⟩
      obtain ⟨o', cap', hat⟩ := hd2'.at hx
      have hxo := hok x (List.mem_of_getElem? hx)
      have hxl := hx1 x (List.mem_of_getElem? hx)
      have hc5 : cap' ≤ 9223372036854775807 := by have := hat.le.2; unfold maxLen at this; omega
      have ex : (⟨x.code, x.op, x.args⟩ : Ins) = x := rfl
      have y := fun (d : Nat) (mem : List Blk) (K : C → Prop) => iListOkC_rw (code := x.code) (op := x.op) (cap := cap') (d := d) (cx := cx') (mem := mem) (K := K) ⟨hat.args.mono (sub_now _ _), hxl, hat.le.1, hc5⟩
      have y2 := fun (d : Nat) (mem : List Blk) (K : C → Prop) => iListLineC_rw (code := x.code) (op := x.op) (cap := cap') (d := d) (cx := cx') (mem := mem) (K := K) ⟨hat.args.mono (sub_now _ _), hTL hle13, hxl, hat.le.1, hc5⟩
      rw [ex, hxo] at y
      rw [ex] at y2
      have hne := line_ne hxo
      simp (maxSteps := 4000000) -dsimp [-List.all_eq_true, -Array.all_eq_true, -Bool.exists_bool, -Bool.forall_bool, and_assoc, List.zipIdx, Tryz.f5, drawListParseC, iListParseC, sListParseC, sListSameC, iListOkC, iListLineC, iListTextC, listSameC, j10, j4, hlt, hf0 i hlt, hat.all, y, y2, txt_eta, hne, i_succ (i := i) (by omega), Con.gen]
      exact ⟨2, xs.length - (i + 1), by omega, rfl, i + 1, by omega, rfl, by omega⟩
    · obtain rfl : i = xs.length := by omega
      have t1 := fun (d : Nat) (mem : List Blk) (K : C → Prop) => iListTextC_rw (cap := cap2) (d := d) (cx := cx') (mem := mem) (K := K) ⟨hd2'.mono (sub_now _ _), hTL hle13, by omega, hx1⟩
      simp (maxSteps := 4000000) -dsimp [-List.all_eq_true, -Array.all_eq_true, -Bool.exists_bool, -Bool.forall_bool, and_assoc, List.zipIdx, Tryz.f5, drawListParseC, iListParseC, sListParseC, sListSameC, iListOkC, iListLineC, iListTextC, listSameC, j10, j4, t1, Con.gen]
      refine ⟨listL xs, rfl, ⟨hTM hle13, by have := list_short xs; omega⟩, ?_⟩
      rintro cx4 v hle4 hv4
      obtain ⟨o4, cap4, rfl, hd4, c5, c6⟩ := hv4.ex
      rw [listRd_list hok hlen (list_short xs)] at *
      simp only at hd4 c5 c6 ⊢
      have s3 := fun (d : Nat) (mem : List Blk) (K : C → Prop) => listSameC_rw (cap := cap4) (cap2 := cap2) (d := d) (cx := cx4) (mem := mem) (K := K) ⟨hd4.mono ((sub_new _).trans (sub_now _ _)), hd2'.mono (hle4.fact.trans (sub_now _ _)), by omega, by omega, hx1, hx1⟩
      have hlen' : (xs.length : Int) ≤ 1000 := by omega
      simp (maxSteps := 4000000) -dsimp [-List.all_eq_true, -Array.all_eq_true, -Bool.exists_bool, -Bool.forall_bool, and_assoc, List.zipIdx, Tryz.f5, drawListParseC, iListParseC, sListParseC, sListSameC, iListOkC, iListLineC, iListTextC, listSameC, j10, j4, s3, hlen', Con.gen]
      exact ⟨((hle1.trans hle13).trans hle4).w0, ((hle1.trans hle13).trans hle4).g0⟩
  · have s1 := fun (d : Nat) (mem : List Blk) (K : C → Prop) => sListSameC_rw (cap := cap2) (cap2 := cap3) (d := d) (cx := cx3) (mem := mem) (K := K) ⟨hd2'.mono (sub_now _ _), hd3'.mono (sub_now _ _), by simp, by simp, by simp, by simp⟩
    simp only [List.length_nil] at s1
    have hcd : (ln = 0 ∧ cd = 1) ∨ (1 ≤ ln ∧ ln ≤ ((t.filter fun x => x == 10).length : Int) + 1 ∧ (cd = 2 ∨ cd = 3)) := by
      rcases hcase with h | h
      · simp only [Prod.mk.injEq] at h; exact Or.inl h
      · exact Or.inr h
    have hcp : 0 < cd := by omega
    have hcp' : ¬ cd ≤ 0 := by omega
    simp (maxSteps := 4000000) -dsimp [-List.all_eq_true, -Array.all_eq_true, -Bool.exists_bool, -Bool.forall_bool, and_assoc, List.zipIdx, Tryz.f5, drawListParseC, iListParseC, sListParseC, sListSameC, iListOkC, iListLineC, iListTextC, listSameC, s1, hcp, hcp', Con.gen]
    intro b1
    refine loop_inv (σ := ⟨[drawListParseC, iListParseC, sListParseC, sListSameC, iListOkC, iListLineC, iListTextC, listSameC], []⟩) hmx (by kernel_rfl) (fun m cx' tm mem => cx' = cx3 ∧ mem = [⟨b0, [.v (.int .i64 ln), .v (.int .i64 cd)], 48⟩, ⟨b1, [.v (.int .i64 ln), .v (.int .i64 cd)], 48⟩] ∧ ∃ i : Nat, i ≤ t.length ∧ m = t.length - i ∧ Sx.look tm 9 = .v (.int .i64 i) ∧ Sx.look tm 8 = .v (.int .i64 (1 + cnt10 t i : Int)) ∧ Sx.look tm 3 = .v (.string (txt t)) ∧ Sx.look tm 4 = .v (.slice o2 0 cap2) ∧ Sx.look tm 5 = .p 0 b0 0)
      t.length ⟨rfl, rfl, 0, by omega, rfl, by simp [Sx.look], by simp [Sx.look, cnt10_zero], by simp [Sx.look], by simp [Sx.look], by simp [Sx.look]⟩ ?_
    rintro m cx' tm mem ⟨rfl, rfl, i, hi, rfl, j9, j8, j3, j4, j5⟩
    refine ⟨300, ?_⟩
    by_cases hlt : i < t.length
    · have hlt' : (i : Int) < t.length := by omega
      obtain ⟨x, hx⟩ : ∃ x, t[i]? = some x := ⟨t[i], by simp [hlt]⟩
      have hxe : ∀ (h : i < t.length), t[i]'h = x := fun h => (List.getElem?_eq_some_iff.1 hx).2
      have hst := count_step (c := 10) hx
      have hcl := cnt10_le t i
      by_cases hc : x = 10
      · subst hc
        have e10 : ((10 : UInt8).toNat : Int) = 10 := rfl
        rw [if_pos rfl] at hst
        have hw : IntKind.i64.wrap (1 + (cnt10 t i : Int) + 1) = 1 + (cnt10 t i : Int) + 1 := wrap_i64 (by omega) (by omega)
        simp (maxSteps := 4000000) -dsimp [-List.all_eq_true, -Array.all_eq_true, -Bool.exists_bool, -Bool.forall_bool, and_assoc, List.zipIdx, Tryz.f5, drawListParseC, iListParseC, sListParseC, sListSameC, iListOkC, iListLineC, iListTextC, listSameC, j9, j8, j3, j4, j5, hlt, hlt', txt_get, hx, hxe, e10, hw, i_succ (i := i) (by omega), Con.gen]
        have hst2 : cnt10 t (i + 1) = cnt10 t i + 1 := hst
        exact ⟨2, t.length - (i + 1), by omega, rfl, i + 1, by omega, rfl, by omega, by omega⟩
      · have hc' : ¬ (x.toNat : Int) = 10 := fun e => hc (UInt8.toNat_inj.1 (by have : (10 : UInt8).toNat = 10 := rfl; omega))
        have hc2 : ¬ x.toNat = 10 := fun e => hc' (by omega)
        rw [if_neg hc] at hst
        simp (maxSteps := 4000000) -dsimp [-List.all_eq_true, -Array.all_eq_true, -Bool.exists_bool, -Bool.forall_bool, and_assoc, List.zipIdx, Tryz.f5, drawListParseC, iListParseC, sListParseC, sListSameC, iListOkC, iListLineC, iListTextC, listSameC, j9, j8, j3, j4, j5, hlt, hlt', txt_get, hx, hxe, hc, hc', hc2, i_succ (i := i) (by omega), Con.gen]
        have hst2 : cnt10 t (i + 1) = cnt10 t i := hst
        exact ⟨2, t.length - (i + 1), by omega, rfl, i + 1, by omega, rfl, by omega, by omega⟩
    · obtain rfl : i = t.length := by omega
      have hlt2 : ¬ (t.length : Int) < t.length := by omega
      rw [cnt10_all] at j8
      rcases hcd with ⟨rfl, rfl⟩ | ⟨l1, l2, l3⟩
      · simp (maxSteps := 4000000) -dsimp [-List.all_eq_true, -Array.all_eq_true, -Bool.exists_bool, -Bool.forall_bool, and_assoc, List.zipIdx, Tryz.f5, drawListParseC, iListParseC, sListParseC, sListSameC, iListOkC, iListLineC, iListTextC, listSameC, j9, j8, j3, j4, j5, hlt2, Con.gen]
        exact ⟨fun _ => ⟨(hle1.trans hle13).w0, (hle1.trans hle13).g0⟩, by omega⟩
      · have l4 : ¬ ln = 0 := by omega
        have l5 : 0 ≤ ln := by omega
        have l6 : ln ≤ 1 + ((t.filter fun x => x == 10).length : Int) := by omega
        have l7 : ¬ cd = 1 := by omega
        simp (maxSteps := 4000000) -dsimp [-List.all_eq_true, -Array.all_eq_true, -Bool.exists_bool, -Bool.forall_bool, and_assoc, List.zipIdx, Tryz.f5, drawListParseC, iListParseC, sListParseC, sListSameC, iListOkC, iListLineC, iListTextC, listSameC, j9, j8, j3, j4, j5, hlt2, l4, l5, l6, l7, Con.gen]
        exact ⟨(hle1.trans hle13).w0, (hle1.trans hle13).g0, by rw [beq_eq_false_iff_ne.2 l4, beq_eq_false_iff_ne.2 l7]⟩
end Go.Proofs.YtclbanhoiaieaaaGreatDoor
