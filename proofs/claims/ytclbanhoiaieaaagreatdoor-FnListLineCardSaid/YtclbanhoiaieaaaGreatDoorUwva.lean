/-
  The law of instructions and their lines, walked.
-/
import Derived.Test.YtclbanhoiaieaaaGreatDoorUkva
import Derived.Test.YtclbanhoiaieaaaGreatDoorUrva
import Derived.Test.YtclbanhoiaieaaaGreatDoorUsva
import Derived.Test.YtclbanhoiaieaaaGreatDoorTuva
set_option linter.unusedVariables false
set_option linter.unusedSimpArgs false
set_option maxRecDepth 100000
set_option maxHeartbeats 4000000
namespace Go.Sx
open Go
theorem RdN.one {F : Facts} {o : Option Addr} {xs : List Ins} (h : RdN F o xs) {i : Nat} {x : Ins} (hx : xs[i]? = some x) : RdN F (padd o (i * 3)) [x] := by
  obtain ⟨rows, h1, h2, h3⟩ := h.ex
  have hi := (List.getElem?_eq_some_iff.1 hx).1
  have hr : rows[i]? = some (rows[i]'(by omega)) := by simp [show i < rows.length by omega]
  obtain ⟨g1, a, rfl, g3⟩ := h1 i _ hr
  refine ⟨[rows[i]'(by omega)], fun j r hj => ?_, rfl, fun j r y hj hy => ?_⟩
  · cases j with
    | zero =>
      simp only [List.getElem?_cons_zero, Option.some.injEq] at hj
      subst hj
      refine ⟨g1, a.add (i * 3), rfl, fun k v hk => ?_⟩
      have := g3 k v hk
      rw [addr_add_add, Nat.zero_mul, Nat.zero_add]
      exact this
    | succ j => simp at hj
  · cases j with
    | zero =>
      simp only [List.getElem?_cons_zero, Option.some.injEq] at hj hy
      subst hj hy
      exact h3 i _ _ hr hx
    | succ j => simp at hj
end Go.Sx
namespace Go.Proofs.YtclbanhoiaieaaaGreatDoor
open Go Go.Sx
open List renaming all_eq_true → Y1, zipIdx → Y5
open Bool renaming exists_bool → Y3, forall_bool → Y4
attribute [local simp] Sx.vcsE1 Sx.vcsE2 Sx.vcsE3 Sx.vcsE4 Sx.vcsE5 Sx.vcsE6 Sx.vcsE7 Sx.vcsE8 Sx.vcsE9 Sx.vcsE10 Sx.vcsE11 Sx.vcsE12 Sx.vcsE13 Sx.vcsE14 Sx.vcsE15 Sx.vcsE16 Sx.vcsE17 Sx.vcsE18 Sx.vcsE19 Sx.get Sx.look Sx.put Sx.pureFn Sx.findOrd Sx.unF Sx.dstOk Sx.isFloatT Sx.endVC Sx.resFn Sx.packC Sx.newFn Sx.storeFn Sx.buildFn Sx.known Sx.aggT Sx.cellsC Sx.findCon Sx.allV Sx.partsV Sx.partsC Sx.fillL Sx.exitTo Sx.fAr Sx.eqFn Sx.eqFieldsFn Sx.eqElemsFn Sx.partFn Sx.sliceFn Sx.boundFn Sx.AppV Sx.CopyV Sx.MakeSliceV Sx.NewsV Sx.GrowV Sx.TextV Sx.bytesL Sx.notInt Sx.typeAt Sx.argAt Sx.den Go.undef Go.Value.cells Go.Value.oneCell' Sx.Con.pure Sx.Con.some Sx.Con.read Sx.Con.make Sx.Con.ext Sx.Con.rel Sx.Con.extS Sx.Con.draw Sx.Con.step Sx.C.one Sx.Draws.steps

theorem lawListLine2C_c (o : Option Addr) (cap : Nat) (bs : List Int) (w : World) (hpre : RdB (factF ⟨w, [], w, []⟩) o bs ∧ TM (factF ⟨w, [], w, []⟩) ∧ ((∀ b ∈ bs, 0 ≤ b ∧ b < 256) ∧ bs.length ≤ cap ∧ cap ≤ maxLen)) : Calls Tryz.prog 7 #[.slice o bs.length cap] w fun e w' => e = .returned (.bool true) ∧ RowKit.Below w.heap.size w w' := by
  refine (plain_of_vcs ⟨[drawListLineC, iListLineC, sListLineC, sListOkC, drawListSameC, listSameC, iListParseC], []⟩ hmx Tryz.func7 rfl (by kernel_rfl) (args := [.slice o bs.length cap]) (by simp [Tryz.ntmps7]) w (· = .bool true) 500 ?_).mono fun e w' ⟨v, h1, h2, h3⟩ => ⟨h2 ▸ h1, h3⟩
  obtain ⟨h, ht, hb1, hb2, hb3⟩ := hpre
  by_cases hs : 1048576 < bs.length
  · have hs1 : (1048576 : Int) < bs.length := by omega
    simp (maxSteps := 4000000) -dsimp [-Y1, -Array.all_eq_true, -Y3, -Y4, and_assoc, Y5, Tryz.f7, drawListLineC, iListLineC, sListLineC, sListOkC, drawListSameC, listSameC, iListParseC, hs1]
  have hs1 : ¬ (1048576 : Int) < bs.length := by omega
  simp (maxSteps := 4000000) -dsimp [-Y1, -Array.all_eq_true, -Y3, -Y4, and_assoc, Y5, Tryz.f7, drawListLineC, iListLineC, sListLineC, sListOkC, drawListSameC, listSameC, iListParseC, hs1, Con.gen]
  refine drawListLineC_at ⟨h, hb1, hb2, hb3⟩ ?_
  rintro cx1 c mem1 ⟨hle1, rfl, code, op, o1, cap1, xs, rfl, hd, hxl, hc1, hc2⟩
  have hTM : ∀ {cx' : Cx} {mem : List Blk}, Le cx1 cx' → TM (nowF cx' mem) := fun g => ht.mono ((hle1.trans g).fact.trans (sub_now _ _))
  have hTL : ∀ {cx' : Cx} {mem : List Blk}, Le cx1 cx' → TL (nowF cx' mem) := fun g => ⟨(hTM g).e.c.t, (hTM g).e.c.n, (hTM g).w⟩
  have hc5 : cap1 ≤ 9223372036854775807 := by unfold maxLen at hc2; omega
  have t1 := fun (d : Nat) (mem : List Blk) (K : C → Prop) => iListLineC_rw (code := code) (op := op) (cap := cap1) (d := d) (cx := cx1) (mem := mem) (K := K) ⟨hd.mono (sub_now _ _), hTL (Le.refl _), by omega, hc1, hc5⟩
  have t2 := fun (d : Nat) (mem : List Blk) (K : C → Prop) => sListLineC_rw (code := code) (op := op) (cap := cap1) (d := d) (cx := cx1) (mem := mem) (K := K) ⟨hd.mono (sub_now _ _), by omega⟩
  have t3 := fun (d : Nat) (mem : List Blk) (K : C → Prop) => sListOkC_rw (code := code) (op := op) (cap := cap1) (d := d) (cx := cx1) (mem := mem) (K := K) ⟨hd.mono (sub_now _ _), by omega⟩
  obtain ⟨L, hL⟩ : ∃ L, L = lineL ⟨code, op, xs⟩ := ⟨_, rfl⟩
  obtain ⟨q, hq⟩ : ∃ q, q = insOk ⟨code, op, xs⟩ := ⟨_, rfl⟩
  rw [← hL] at t1 t2
  rw [← hq] at t3
  have hLq : (L = [] ∧ q = false) ∨ (L ≠ [] ∧ q = true) := by
    cases hz : insOk ⟨code, op, xs⟩ with
    | false => left; rw [hL, hq]; exact ⟨line_no hz, hz⟩
    | true => right; rw [hL, hq]; exact ⟨line_ne hz, hz⟩
  have hlen0 : ([] : Str).length ≤ 9000000000000000000 := by simp
  rcases hLq with ⟨h0, h1⟩ | ⟨h0, h1⟩
  · rw [h0] at t1 t2
    rw [h1] at t3
    simp (maxSteps := 4000000) -dsimp [-Y1, -Array.all_eq_true, -Y3, -Y4, and_assoc, Y5, Tryz.f7, drawListLineC, iListLineC, sListLineC, sListOkC, drawListSameC, listSameC, iListParseC, t1, t2, t3, txt_eta, Con.gen]
    intro b0
    refine drawListSameC_at ⟨h.mono hle1.fact, hb1, hb2, hb3⟩ ?_
    rintro cx2 c mem2 ⟨hle2, rfl, o2, cap2, ys, o3, cap3, zs, rfl, hdy, hdz, ⟨y1, y2⟩, ⟨z1, z2⟩, y3, z3, y4, z4⟩
    have hall : ∀ (i : Nat) (x z : Ins), ys[i]? = some x → zs[i]? = some z → x.args.length ≤ 1048576 ∧ z.args.length ≤ 1048576 := fun i x z hx hz => by
      have := y4 x (List.mem_of_getElem? hx); have := z4 z (List.mem_of_getElem? hz); omega
    simp (maxSteps := 4000000) -dsimp [-Y1, -Array.all_eq_true, -Y3, -Y4, and_assoc, Y5, Tryz.f7, drawListLineC, iListLineC, sListLineC, sListOkC, drawListSameC, listSameC, iListParseC, txt_eta, Con.gen]
    refine loop_inv (σ := ⟨[drawListLineC, iListLineC, sListLineC, sListOkC, drawListSameC, listSameC, iListParseC], []⟩) hmx (by kernel_rfl) (fun m cx' tm mem => cx' = cx2 ∧ mem = [⟨b0, [.v (.int .i64 code), .v (.int .i64 op), .v (.slice o1 xs.length cap1)], 57⟩] ∧ ∃ i : Nat, i ≤ ys.length ∧ m = ys.length - i ∧ Sx.look tm 7 = .v (.int .i64 i) ∧ Sx.look tm 6 = .v (.slice o3 zs.length cap3) ∧ Sx.look tm 5 = .v (.slice o2 ys.length cap2) ∧ Sx.look tm 4 = .v (.string (txt [])) ∧ Sx.look tm 3 = .p 0 b0 0)
      ys.length ⟨rfl, rfl, 0, by omega, rfl, by simp [Sx.look], by simp [Sx.look], by simp [Sx.look], by simp [Sx.look, txt_eta], by simp [Sx.look]⟩ ?_
    rintro m cx' tm mem ⟨rfl, rfl, i, hi, rfl, j7, j6, j5, j4, j3⟩
    refine ⟨500, ?_⟩
    by_cases hlt : i < ys.length
    · by_cases hlz : i < zs.length
      · skip
        obtain ⟨x, hx⟩ : ∃ x, ys[i]? = some x := ⟨ys[i], by simp [hlt]⟩
        obtain ⟨z, hz⟩ : ∃ z, zs[i]? = some z := ⟨zs[i], by simp [hlz]⟩
        obtain ⟨hxa, hza⟩ := hall i x z hx hz
        obtain ⟨ox, cpx, hatx⟩ := hdy.at hx
        obtain ⟨oz, cpz, hatz⟩ := hdz.at hz
        have hcx5 : cpx ≤ 9223372036854775807 := by have := hatx.le.2; unfold maxLen at this; omega
        have hcz5 : cpz ≤ 9223372036854775807 := by have := hatz.le.2; unfold maxLen at this; omega
        have r1 := fun (d : Nat) (mem : List Blk) (K : C → Prop) => iListLineC_rw (code := x.code) (op := x.op) (cap := cpx) (d := d) (cx := cx') (mem := mem) (K := K) ⟨hatx.args.mono (sub_now _ _), hTL hle2, hxa, hatx.le.1, hcx5⟩
        have r2 := fun (d : Nat) (mem : List Blk) (K : C → Prop) => iListLineC_rw (code := z.code) (op := z.op) (cap := cpz) (d := d) (cx := cx') (mem := mem) (K := K) ⟨hatz.args.mono (sub_now _ _), hTL hle2, hza, hatz.le.1, hcz5⟩
        have r3 := fun (ca cb : Nat) (d : Nat) (mem : List Blk) (K : C → Prop) => listSameC_rw (cap := ca) (cap2 := cb) (xs := [x]) (ys := [z]) (d := d) (cx := cx') (mem := mem) (K := K) ⟨(hdy.one hx).mono (sub_now _ _), (hdz.one hz).mono (sub_now _ _), by simp, by simp, by simpa using hxa, by simpa using hza⟩
        have ex : (⟨x.code, x.op, x.args⟩ : Ins) = x := rfl
        have ez : (⟨z.code, z.op, z.args⟩ : Ins) = z := rfl
        rw [ex] at r1
        rw [ez] at r2
        simp only [List.length_singleton] at r3
        have ncx : ¬ (cap2 : Int) = i := by omega
        have ncz : ¬ (cap3 : Int) = i := by omega
        have hw : IntKind.i64.wrap ((i : Int) + 1) = i + 1 := wrap_i64 (by omega) (by omega)
        have e1 : ((i : Int) + 1).toNat - (i : Int).toNat = 1 := by omega
        cases hxo : insOk x with
        | false =>
          have hl := line_no hxo
          rw [hl] at r1
          simp (maxSteps := 4000000) -dsimp [-Y1, -Array.all_eq_true, -Y3, -Y4, and_assoc, Y5, Tryz.f7, drawListLineC, iListLineC, sListLineC, sListOkC, drawListSameC, listSameC, iListParseC, j7, j6, j5, j4, j3, hlt, hlz, hdy.there hlt, hdz.there hlz, hatx.all, hatz.all, r1, r2, r3, txt_eta, ncx, ncz, hw, e1, i_succ (i := i) (by omega), Con.gen]
          exact ⟨1, ys.length - (i + 1), by omega, rfl, i + 1, by omega, rfl, by omega⟩
        | true =>
          have hl := line_ne hxo
          by_cases hxz : x = z
          · subst hxz
            simp (maxSteps := 4000000) -dsimp [-Y1, -Array.all_eq_true, -Y3, -Y4, and_assoc, Y5, Tryz.f7, drawListLineC, iListLineC, sListLineC, sListOkC, drawListSameC, listSameC, iListParseC, j7, j6, j5, j4, j3, hlt, hlz, hdy.there hlt, hdz.there hlz, hatx.all, hatz.all, r1, r2, r3, hl, txt_eta, ncx, ncz, hw, e1, i_succ (i := i) (by omega), Con.gen]
            exact ⟨by omega, by omega, by omega, by omega, 1, ys.length - (i + 1), by omega, rfl, i + 1, by omega, rfl, by omega⟩
          · have hl2 : ¬ lineL x = lineL z := fun e => hxz (line_inj hxo e)
            simp (maxSteps := 4000000) -dsimp [-Y1, -Array.all_eq_true, -Y3, -Y4, and_assoc, Y5, Tryz.f7, drawListLineC, iListLineC, sListLineC, sListOkC, drawListSameC, listSameC, iListParseC, j7, j6, j5, j4, j3, hlt, hlz, hdy.there hlt, hdz.there hlz, hatx.all, hatz.all, r1, r2, r3, hl, hl2, hxz, txt_eta, ncx, ncz, hw, e1, i_succ (i := i) (by omega), Con.gen]
            exact ⟨by omega, by omega, by omega, by omega, 1, ys.length - (i + 1), by omega, rfl, i + 1, by omega, rfl, by omega⟩
      · simp (maxSteps := 4000000) -dsimp [-Y1, -Array.all_eq_true, -Y3, -Y4, and_assoc, Y5, Tryz.f7, drawListLineC, iListLineC, sListLineC, sListOkC, drawListSameC, listSameC, iListParseC, j7, j6, j5, j4, j3, hlt, hlz, Con.gen]
        refine ⟨[], rfl, ⟨hTM hle2, by simp⟩, ?_⟩
        rintro cx3 v hle3 hv
        obtain ⟨o4, cap4, rfl, hd4, c3, c4⟩ := hv.ex
        simp (maxSteps := 4000000) -dsimp [-Y1, -Array.all_eq_true, -Y3, -Y4, and_assoc, Y5, Tryz.f7, drawListLineC, iListLineC, sListLineC, sListOkC, drawListSameC, listSameC, iListParseC, j7, j6, j5, j4, j3, txt_eta, Con.gen]
        exact ⟨((hle1.trans hle2).trans hle3).w0, ((hle1.trans hle2).trans hle3).g0⟩
    · simp (maxSteps := 4000000) -dsimp [-Y1, -Array.all_eq_true, -Y3, -Y4, and_assoc, Y5, Tryz.f7, drawListLineC, iListLineC, sListLineC, sListOkC, drawListSameC, listSameC, iListParseC, j7, j6, j5, j4, j3, hlt, Con.gen]
      refine ⟨[], rfl, ⟨hTM hle2, by simp⟩, ?_⟩
      rintro cx3 v hle3 hv
      obtain ⟨o4, cap4, rfl, hd4, c3, c4⟩ := hv.ex
      simp (maxSteps := 4000000) -dsimp [-Y1, -Array.all_eq_true, -Y3, -Y4, and_assoc, Y5, Tryz.f7, drawListLineC, iListLineC, sListLineC, sListOkC, drawListSameC, listSameC, iListParseC, j7, j6, j5, j4, j3, txt_eta, Con.gen]
      exact ⟨((hle1.trans hle2).trans hle3).w0, ((hle1.trans hle2).trans hle3).g0⟩
  · rw [h1] at t3
    simp (maxSteps := 4000000) -dsimp [-Y1, -Array.all_eq_true, -Y3, -Y4, and_assoc, Y5, Tryz.f7, drawListLineC, iListLineC, sListLineC, sListOkC, drawListSameC, listSameC, iListParseC, t1, t2, t3, txt_eta, h0, Con.gen]
    intro b0
    refine drawListSameC_at ⟨h.mono hle1.fact, hb1, hb2, hb3⟩ ?_
    rintro cx2 c mem2 ⟨hle2, rfl, o2, cap2, ys, o3, cap3, zs, rfl, hdy, hdz, ⟨y1, y2⟩, ⟨z1, z2⟩, y3, z3, y4, z4⟩
    have hall : ∀ (i : Nat) (x z : Ins), ys[i]? = some x → zs[i]? = some z → x.args.length ≤ 1048576 ∧ z.args.length ≤ 1048576 := fun i x z hx hz => by
      have := y4 x (List.mem_of_getElem? hx); have := z4 z (List.mem_of_getElem? hz); omega
    simp (maxSteps := 4000000) -dsimp [-Y1, -Array.all_eq_true, -Y3, -Y4, and_assoc, Y5, Tryz.f7, drawListLineC, iListLineC, sListLineC, sListOkC, drawListSameC, listSameC, iListParseC, txt_eta, h0, Con.gen]
    refine loop_inv (σ := ⟨[drawListLineC, iListLineC, sListLineC, sListOkC, drawListSameC, listSameC, iListParseC], []⟩) hmx (by kernel_rfl) (fun m cx' tm mem => cx' = cx2 ∧ mem = [⟨b0, [.v (.int .i64 code), .v (.int .i64 op), .v (.slice o1 xs.length cap1)], 57⟩] ∧ ∃ i : Nat, i ≤ ys.length ∧ m = ys.length - i ∧ Sx.look tm 7 = .v (.int .i64 i) ∧ Sx.look tm 6 = .v (.slice o3 zs.length cap3) ∧ Sx.look tm 5 = .v (.slice o2 ys.length cap2) ∧ Sx.look tm 4 = .v (.string (txt L)) ∧ Sx.look tm 3 = .p 0 b0 0)
      ys.length ⟨rfl, rfl, 0, by omega, rfl, by simp [Sx.look], by simp [Sx.look], by simp [Sx.look], by simp [Sx.look, txt_eta], by simp [Sx.look]⟩ ?_
    rintro m cx' tm mem ⟨rfl, rfl, i, hi, rfl, j7, j6, j5, j4, j3⟩
    refine ⟨500, ?_⟩
    by_cases hlt : i < ys.length
    · by_cases hlz : i < zs.length
      · skip
        obtain ⟨x, hx⟩ : ∃ x, ys[i]? = some x := ⟨ys[i], by simp [hlt]⟩
        obtain ⟨z, hz⟩ : ∃ z, zs[i]? = some z := ⟨zs[i], by simp [hlz]⟩
        obtain ⟨hxa, hza⟩ := hall i x z hx hz
        obtain ⟨ox, cpx, hatx⟩ := hdy.at hx
        obtain ⟨oz, cpz, hatz⟩ := hdz.at hz
        have hcx5 : cpx ≤ 9223372036854775807 := by have := hatx.le.2; unfold maxLen at this; omega
        have hcz5 : cpz ≤ 9223372036854775807 := by have := hatz.le.2; unfold maxLen at this; omega
        have r1 := fun (d : Nat) (mem : List Blk) (K : C → Prop) => iListLineC_rw (code := x.code) (op := x.op) (cap := cpx) (d := d) (cx := cx') (mem := mem) (K := K) ⟨hatx.args.mono (sub_now _ _), hTL hle2, hxa, hatx.le.1, hcx5⟩
        have r2 := fun (d : Nat) (mem : List Blk) (K : C → Prop) => iListLineC_rw (code := z.code) (op := z.op) (cap := cpz) (d := d) (cx := cx') (mem := mem) (K := K) ⟨hatz.args.mono (sub_now _ _), hTL hle2, hza, hatz.le.1, hcz5⟩
        have r3 := fun (ca cb : Nat) (d : Nat) (mem : List Blk) (K : C → Prop) => listSameC_rw (cap := ca) (cap2 := cb) (xs := [x]) (ys := [z]) (d := d) (cx := cx') (mem := mem) (K := K) ⟨(hdy.one hx).mono (sub_now _ _), (hdz.one hz).mono (sub_now _ _), by simp, by simp, by simpa using hxa, by simpa using hza⟩
        have ex : (⟨x.code, x.op, x.args⟩ : Ins) = x := rfl
        have ez : (⟨z.code, z.op, z.args⟩ : Ins) = z := rfl
        rw [ex] at r1
        rw [ez] at r2
        simp only [List.length_singleton] at r3
        have ncx : ¬ (cap2 : Int) = i := by omega
        have ncz : ¬ (cap3 : Int) = i := by omega
        have hw : IntKind.i64.wrap ((i : Int) + 1) = i + 1 := wrap_i64 (by omega) (by omega)
        have e1 : ((i : Int) + 1).toNat - (i : Int).toNat = 1 := by omega
        cases hxo : insOk x with
        | false =>
          have hl := line_no hxo
          rw [hl] at r1
          simp (maxSteps := 4000000) -dsimp [-Y1, -Array.all_eq_true, -Y3, -Y4, and_assoc, Y5, Tryz.f7, drawListLineC, iListLineC, sListLineC, sListOkC, drawListSameC, listSameC, iListParseC, j7, j6, j5, j4, j3, hlt, hlz, hdy.there hlt, hdz.there hlz, hatx.all, hatz.all, r1, r2, r3, txt_eta, ncx, ncz, hw, e1, i_succ (i := i) (by omega), Con.gen]
          exact ⟨1, ys.length - (i + 1), by omega, rfl, i + 1, by omega, rfl, by omega⟩
        | true =>
          have hl := line_ne hxo
          by_cases hxz : x = z
          · subst hxz
            simp (maxSteps := 4000000) -dsimp [-Y1, -Array.all_eq_true, -Y3, -Y4, and_assoc, Y5, Tryz.f7, drawListLineC, iListLineC, sListLineC, sListOkC, drawListSameC, listSameC, iListParseC, j7, j6, j5, j4, j3, hlt, hlz, hdy.there hlt, hdz.there hlz, hatx.all, hatz.all, r1, r2, r3, hl, txt_eta, ncx, ncz, hw, e1, i_succ (i := i) (by omega), Con.gen]
            exact ⟨by omega, by omega, by omega, by omega, 1, ys.length - (i + 1), by omega, rfl, i + 1, by omega, rfl, by omega⟩
          · have hl2 : ¬ lineL x = lineL z := fun e => hxz (line_inj hxo e)
            simp (maxSteps := 4000000) -dsimp [-Y1, -Array.all_eq_true, -Y3, -Y4, and_assoc, Y5, Tryz.f7, drawListLineC, iListLineC, sListLineC, sListOkC, drawListSameC, listSameC, iListParseC, j7, j6, j5, j4, j3, hlt, hlz, hdy.there hlt, hdz.there hlz, hatx.all, hatz.all, r1, r2, r3, hl, hl2, hxz, txt_eta, ncx, ncz, hw, e1, i_succ (i := i) (by omega), Con.gen]
            exact ⟨by omega, by omega, by omega, by omega, 1, ys.length - (i + 1), by omega, rfl, i + 1, by omega, rfl, by omega⟩
      · simp (maxSteps := 4000000) -dsimp [-Y1, -Array.all_eq_true, -Y3, -Y4, and_assoc, Y5, Tryz.f7, drawListLineC, iListLineC, sListLineC, sListOkC, drawListSameC, listSameC, iListParseC, j7, j6, j5, j4, j3, hlt, hlz, Con.gen]
        refine ⟨L, rfl, ⟨hTM hle2, by rw [hL]; exact Nat.le_trans (lineL_short _) (by decide)⟩, ?_⟩
        rintro cx3 v hle3 hv
        obtain ⟨o4, cap4, rfl, hd4, c3, c4⟩ := hv.ex
        have hpl : listRd L = ([⟨code, op, xs⟩], 0, 0) := by rw [hL]; exact listRd_line (by rw [← hq]; exact h1)
        rw [hpl] at hd4 c3 ⊢
        simp only at hd4 c3 ⊢
        simp (maxSteps := 4000000) -dsimp [-Y1, -Array.all_eq_true, -Y3, -Y4, and_assoc, Y5, Tryz.f7, drawListLineC, iListLineC, sListLineC, sListOkC, drawListSameC, listSameC, iListParseC, j7, j6, j5, j4, j3, txt_eta, h0, Con.gen]
        intro b1
        intro cx4 pl hle4 hlit
        have hd5 : RdD (factF cx4) o1 xs := hd.mono ((hle2.trans hle3).trans hle4).fact
        have hdl : RdN (factF cx4) pl [⟨code, op, xs⟩] := by
          refine ⟨[[.int .i64 code, .int .i64 op, .slice o1 xs.length cap1]], (hlit.mono (sub_new cx4)).rows (by decide) (by simp) (by simp), rfl, fun j r y hr hy => ?_⟩
          cases j with
          | zero =>
            simp only [List.getElem?_cons_zero, Option.some.injEq] at hr hy
            subst hr hy
            exact RdR.mk ⟨o1, cap1, rfl, hd5, hc1, hc2⟩
          | succ j => simp at hr
        have r4 := fun (d : Nat) (mem : List Blk) (K : C → Prop) => listSameC_rw (cap := cap4) (cap2 := 1) (xs := [⟨code, op, xs⟩]) (ys := [⟨code, op, xs⟩]) (d := d) (cx := cx4) (mem := mem) (K := K) ⟨(hd4.mono ((sub_new _).trans hle4.fact)).mono (sub_now _ _), hdl.mono (sub_now _ _), by simp, by simp, by simp; omega, by simp; omega⟩
        simp only [List.length_singleton] at r4
        simp (maxSteps := 4000000) -dsimp [-Y1, -Array.all_eq_true, -Y3, -Y4, and_assoc, Y5, Tryz.f7, drawListLineC, iListLineC, sListLineC, sListOkC, drawListSameC, listSameC, iListParseC, j7, j6, j5, j4, j3, r4, txt_eta, h0, Con.gen]
        exact ⟨(((hle1.trans hle2).trans hle3).trans hle4).w0, (((hle1.trans hle2).trans hle3).trans hle4).g0⟩
    · simp (maxSteps := 4000000) -dsimp [-Y1, -Array.all_eq_true, -Y3, -Y4, and_assoc, Y5, Tryz.f7, drawListLineC, iListLineC, sListLineC, sListOkC, drawListSameC, listSameC, iListParseC, j7, j6, j5, j4, j3, hlt, Con.gen]
      refine ⟨L, rfl, ⟨hTM hle2, by rw [hL]; exact Nat.le_trans (lineL_short _) (by decide)⟩, ?_⟩
      rintro cx3 v hle3 hv
      obtain ⟨o4, cap4, rfl, hd4, c3, c4⟩ := hv.ex
      have hpl : listRd L = ([⟨code, op, xs⟩], 0, 0) := by rw [hL]; exact listRd_line (by rw [← hq]; exact h1)
      rw [hpl] at hd4 c3 ⊢
      simp only at hd4 c3 ⊢
      simp (maxSteps := 4000000) -dsimp [-Y1, -Array.all_eq_true, -Y3, -Y4, and_assoc, Y5, Tryz.f7, drawListLineC, iListLineC, sListLineC, sListOkC, drawListSameC, listSameC, iListParseC, j7, j6, j5, j4, j3, txt_eta, h0, Con.gen]
      intro b1
      intro cx4 pl hle4 hlit
      have hd5 : RdD (factF cx4) o1 xs := hd.mono ((hle2.trans hle3).trans hle4).fact
      have hdl : RdN (factF cx4) pl [⟨code, op, xs⟩] := by
        refine ⟨[[.int .i64 code, .int .i64 op, .slice o1 xs.length cap1]], (hlit.mono (sub_new cx4)).rows (by decide) (by simp) (by simp), rfl, fun j r y hr hy => ?_⟩
        cases j with
        | zero =>
          simp only [List.getElem?_cons_zero, Option.some.injEq] at hr hy
          subst hr hy
          exact RdR.mk ⟨o1, cap1, rfl, hd5, hc1, hc2⟩
        | succ j => simp at hr
      have r4 := fun (d : Nat) (mem : List Blk) (K : C → Prop) => listSameC_rw (cap := cap4) (cap2 := 1) (xs := [⟨code, op, xs⟩]) (ys := [⟨code, op, xs⟩]) (d := d) (cx := cx4) (mem := mem) (K := K) ⟨(hd4.mono ((sub_new _).trans hle4.fact)).mono (sub_now _ _), hdl.mono (sub_now _ _), by simp, by simp, by simp; omega, by simp; omega⟩
      simp only [List.length_singleton] at r4
      simp (maxSteps := 4000000) -dsimp [-Y1, -Array.all_eq_true, -Y3, -Y4, and_assoc, Y5, Tryz.f7, drawListLineC, iListLineC, sListLineC, sListOkC, drawListSameC, listSameC, iListParseC, j7, j6, j5, j4, j3, r4, txt_eta, h0, Con.gen]
      exact ⟨(((hle1.trans hle2).trans hle3).trans hle4).w0, (((hle1.trans hle2).trans hle3).trans hle4).g0⟩
end Go.Proofs.YtclbanhoiaieaaaGreatDoor
