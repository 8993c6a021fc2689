/-
  Contracts: contacts and coils, instructions, lists as text, by the program.
-/
import Derived.Test.YtmlmmaojomghdaaGreatDoorTouh
set_option linter.unusedVariables false
set_option linter.unusedSimpArgs false
set_option maxRecDepth 100000
set_option maxHeartbeats 4000000
namespace Go.Proofs.YtmlmmaojomghdaaGreatDoor
open Go Go.Sx
attribute [local simp] Sx.vcsE1 Sx.vcsE2 Sx.vcsE3 Sx.vcsE4 Sx.vcsE5 Sx.vcsE6 Sx.vcsE7 Sx.vcsE8 Sx.vcsE9 Sx.vcsE10 Sx.vcsE11 Sx.vcsE12 Sx.vcsE13 Sx.vcsE14 Sx.vcsE15 Sx.vcsE16 Sx.vcsE17 Sx.vcsE18 Sx.vcsE19 Sx.get Sx.look Sx.put Sx.pureFn Sx.findOrd Sx.unF Sx.dstOk Sx.isFloatT Sx.endVC Sx.resFn Sx.packC Sx.newFn Sx.storeFn Sx.buildFn Sx.known Sx.aggT Sx.cellsC Sx.findCon Sx.allV Sx.partsV Sx.partsC Sx.fillL Sx.exitTo Sx.fAr Sx.eqFn Sx.eqFieldsFn Sx.eqElemsFn Sx.partFn Sx.sliceFn Sx.boundFn Sx.AppV Sx.CopyV Sx.MakeSliceV Sx.NewsV Sx.GrowV Sx.TextV Sx.bytesL Sx.notInt Sx.typeAt Sx.argAt Sx.den Go.undef Go.Value.cells Go.Value.oneCell' Sx.Con.pure Sx.Con.some Sx.Con.read Sx.Con.make Sx.Con.ext Sx.Con.rel Sx.Con.extS Sx.Con.draw Sx.Con.step Sx.C.one Sx.Draws.steps

structure TC (F : Facts) : Prop where
  t : TT F
  n : TN F
theorem TC.mono {F G : Facts} (h : TC F) (hs : Sub F G) : TC G := ⟨h.t.mono hs, h.n.mono hs⟩
structure TL (F : Facts) : Prop where
  t : TT F
  n : TN F
  w : TW F
theorem TL.mono {F G : Facts} (h : TL F) (hs : Sub F G) : TL G := ⟨h.t.mono hs, h.n.mono hs, h.w.mono hs⟩
theorem TL.c {F : Facts} (h : TL F) : TC F := ⟨h.t, h.n⟩
def TB (ws : List Str) : List C := ws.map fun z => .v (.string (txt z))
theorem TB_len (ws : List Str) : (TB ws).length = ws.length := by simp [TB]
theorem TB_push (ws : List Str) (z : Str) (pad : List C) : TB ws ++ .v (.string (txt z)) :: pad = TB (ws ++ [z]) ++ pad := by simp [TB]
theorem TB_take (ws : List Str) (pad : List C) {n : Nat} (h : ws.length = n) : (TB ws ++ pad).take n = TB ws := by rw [← h, ← TB_len ws, List.take_left]
theorem TB_full {ws : List Str} {pad : List C} {cp n : Nat} (h : ws.length = n) (h1 : pad.length = cp - n) (h2 : n ≤ cp) : (TB ws ++ pad).length = cp * 1 := by rw [List.length_append, TB_len]; omega
theorem join_TB {cx : Cx} {mem : List Blk} {b cp d n : Nat} {c : UInt8} {W : List Str} {pad : List C} {ty : TypeId} {K : C → Prop} (hk : mem[1]? = some ⟨b, TB W ++ pad, ty⟩) (hn : W.length = n) (hWc : n ≤ cp) (hl : n ≤ 1000) (hs : (joinL c W).length ≤ 100000)
    (h : K (.v (.string (txt (joinL c W))))) : RdsW d join_S cx [.s 1 b 0 n cp, .v (.string (txt [c]))] mem K := by
  subst hn
  refine readW_at (S := join_S) (some ⟨b, 0, none⟩, cp, W, c) (by simp [den, join_S]) (fun w' hm' => ⟨?_, ?_, by simpa using hWc, by simp; omega, by simp; omega⟩) h
  · intro j v hj
    simp only [List.getElem?_map] at hj
    cases hz : W[j]? with
    | none => rw [hz] at hj; cases hj
    | some z =>
      rw [hz] at hj
      cases hj
      refine ⟨_, rfl, ?_⟩
      rw [addr_add, Nat.zero_add]
      have hjl := (List.getElem?_eq_some_iff.1 hz).1
      exact blk_cell hm' hk (c := .v (.string (txt z))) (by
        rw [List.getElem?_append_left (by rw [TB_len]; exact hjl)]
        unfold TB
        rw [List.getElem?_map, hz]; rfl)
  · intro a ha
    cases ha; rfl
def devsW (xs : List Dev) (i : Nat) : List Str := (xs.take i).map devL
theorem devsW_len {xs : List Dev} {i : Nat} (h : i ≤ xs.length) : (devsW xs i).length = i := by unfold devsW; simp; omega
theorem devsW_next {xs : List Dev} {i : Nat} {x : Dev} (hx : xs[i]? = some x) : devsW xs (i + 1) = devsW xs i ++ [devL x] := by unfold devsW; rw [List.take_add_one, hx]; simp
theorem devsW_full (xs : List Dev) : devsW xs xs.length = xs.map devL := by unfold devsW; rw [List.take_length]
theorem iElemTextC_c (op : Int) (o : Option Addr) (cap : Nat) (xs : List Dev) (w : World) (hpre : RdD (factF ⟨w, [], w, []⟩) o xs ∧ TC (factF ⟨w, [], w, []⟩) ∧ (xs.length ≤ 1048576 ∧ xs.length ≤ cap ∧ cap ≤ 9223372036854775807)) : Calls Tryz.prog 32 #[.agg #[.int .i64 op, .slice o xs.length cap]] w fun e w' => e = .returned (.string (txt (elemL op xs))) ∧ RowKit.Below w.heap.size w w' := by
  refine (plain_of_vcs ⟨[iCoilC, iConC, iNameC, iDevTextC, iCmpTextC, joinC], []⟩ hmx Tryz.func32 rfl (by kernel_rfl) (args := [.agg #[.int .i64 op, .slice o xs.length cap]]) (by simp [Tryz.ntmps32]) w (· = .string (txt (elemL op xs))) 700 ?_).mono fun e w' ⟨v, h1, h2, h3⟩ => ⟨h2 ▸ h1, h3⟩
  obtain ⟨h, ht, hl, hlc, hcap⟩ := hpre
  simp (maxSteps := 4000000) -dsimp [-List.all_eq_true, -Array.all_eq_true, -Bool.exists_bool, -Bool.forall_bool, and_assoc, List.zipIdx, Tryz.f32, iCoilC, iConC, iNameC, iDevTextC, iCmpTextC, joinC]
  intro b0 b1
  refine loop_inv (σ := ⟨[iCoilC, iConC, iNameC, iDevTextC, iCmpTextC, joinC], []⟩) hmx (by kernel_rfl) (fun q cx' tm mem => Le ⟨w, [], w, []⟩ cx' ∧ ∃ (i b' cp : Nat) (pad : List C), i ≤ xs.length ∧ q = xs.length - i ∧ i ≤ cp ∧ cp ≤ maxLen ∧ pad.length = cp - i ∧ mem = [⟨b0, [.v (.int .i64 op), .v (.slice o xs.length cap)], 55⟩, ⟨b', TB (devsW xs i) ++ pad, 9⟩] ∧
      Sx.look tm 10 = .v (.int .i64 i) ∧ Sx.look tm 9 = .v (.int .i64 xs.length) ∧ Sx.look tm 8 = .v (.slice o xs.length cap) ∧ Sx.look tm 3 = .s 1 b' 0 i cp ∧ Sx.look tm 1 = .p 0 b0 0)
    xs.length ⟨Le.refl _, 0, b1, 0, [], by omega, rfl, by omega, by decide, rfl, by simp [devsW, TB], by simp [Sx.look], by simp [Sx.look], by simp [Sx.look], by simp [Sx.look], by simp [Sx.look]⟩ ?_
  rintro q cx tm mem ⟨hle, i, b', cp, pad, hi, rfl, hWc, hcp, hpad, rfl, j10, j9, j8, j3, j1⟩
  refine ⟨700, ?_⟩
  have hD := h.mono hle.fact
  have hT := ht.mono hle.fact
  by_cases hlt : i < xs.length
  · have hlt' : (i : Int) < xs.length := by omega
    obtain ⟨⟨k, n, p⟩, hx⟩ : ∃ x, xs[i]? = some x := ⟨xs[i], by simp [hlt]⟩
    have ai := hD.at hx
    have t0 := fun (d : Nat) (mem : List Blk) (K : C → Prop) => iDevTextC_rw (k := k) (n := n) (p := p) (d := d) (cx := cx) (mem := mem) (K := K) (hT.t.mono (sub_now _ _))
    have e := devsW_next hx
    have el := devsW_len (xs := xs) (i := i) (by omega)
    have e0 := TB_take (devsW xs i) pad el
    have e1 := TB_full el hpad hWc
    simp (maxSteps := 4000000) -dsimp [-List.all_eq_true, -Array.all_eq_true, -Bool.exists_bool, -Bool.forall_bool, and_assoc, List.zipIdx, Tryz.f32, iCoilC, iConC, iNameC, iDevTextC, iCmpTextC, joinC, j10, j9, j8, j3, j1, hlt, hlt', hD.there hlt, ai.all, t0, i_succ (i := i) (by omega)]
    intro b cx' p' hle' hlit
    rw [RdL.sl (hlit.mono ((sub_new cx').trans (sub_now _ _))) (by rfl)]
    unfold GrowV
    simp (maxSteps := 4000000) -dsimp [-List.all_eq_true, -Array.all_eq_true, -Bool.exists_bool, -Bool.forall_bool, and_assoc, List.zipIdx, Tryz.f32, iCoilC, iConC, iNameC, iDevTextC, iCmpTextC, joinC, j10, j9, j8, j3, j1, e0, e1, i_succ (i := i) (by omega)]
    exact ⟨hWc, hcp, by unfold maxLen; omega, by omega, fun b4 cp4 pad4 g1 g2 g3 => ⟨2, xs.length - (i + 1), by omega, hle.trans hle', i + 1, by omega, rfl, b4, cp4, g1, g2, pad4, g3, by rw [e, ← TB_push]; rfl, by omega, rfl, rfl, rfl⟩⟩
  · obtain rfl : i = xs.length := by omega
    rw [devsW_full]
    have nl := @coilName_len op
    have z := fun d mem K => iCoilC_rw (op := op) (cap := cap) (d := d) (cx := cx) (mem := mem) (K := K) ⟨hD.mono (sub_now _ _), hl, hlc, hcap⟩
    have y := fun d mem K => iConC_rw (op := op) (cap := cap) (d := d) (cx := cx) (mem := mem) (K := K) ⟨hD.mono (sub_now _ _), hl⟩
    have nm := fun d mem K => iNameC_rw (c := op) (d := d) (cx := cx) (mem := mem) (K := K) (hT.n.mono (sub_now _ _))
    have w0 := hle.w0
    have g0 := hle.g0
    have hlt2 : ¬ (xs.length : Int) < xs.length := by omega
    cases hc : coilOk op xs
    · rw [hc] at z
      cases hn : conOk op xs
      · rw [hn] at y
        rw [elemL_no hc hn]
        simp (maxSteps := 4000000) -dsimp [-List.all_eq_true, -Array.all_eq_true, -Bool.exists_bool, -Bool.forall_bool, and_assoc, List.zipIdx, Tryz.f32, iCoilC, iConC, iNameC, iDevTextC, iCmpTextC, joinC, j10, j9, j8, j3, j1, hlt2, z, y, txt_eta]
        first | exact ⟨w0, g0⟩ | exact g0
      · rw [hn] at y
        rw [elemL_con hc hn]
        rcases con_shape hn with ⟨h12, a, rfl⟩ | ⟨h3, h10, a, b, rfl⟩
        · simp only [List.length_cons, List.length_nil, Nat.zero_add, Nat.reduceAdd] at z y j3 j8 j9 j10 hWc hlt2
          have l0 := devL_len a
          rcases h12 with rfl | rfl
          · simp (maxSteps := 4000000) -dsimp [-List.all_eq_true, -Array.all_eq_true, -Bool.exists_bool, -Bool.forall_bool, and_assoc, List.zipIdx, Tryz.f32, iCoilC, iConC, iNameC, iDevTextC, iCmpTextC, joinC, j10, j9, j8, j3, j1, hlt2, z, y, txt_eta, conT, xD, TB]
            (repeat with_reducible refine And.intro (by omega) ?_)
            first | exact ⟨w0, g0⟩ | exact g0
          · simp (maxSteps := 4000000) -dsimp [-List.all_eq_true, -Array.all_eq_true, -Bool.exists_bool, -Bool.forall_bool, and_assoc, List.zipIdx, Tryz.f32, iCoilC, iConC, iNameC, iDevTextC, iCmpTextC, joinC, j10, j9, j8, j3, j1, hlt2, z, y, txt_eta, conT, xD, TB]
            (repeat with_reducible refine And.intro (by omega) ?_)
            first | exact ⟨w0, g0⟩ | exact g0
        · simp only [List.length_cons, List.length_nil, Nat.zero_add, Nat.reduceAdd] at z y j3 j8 j9 j10 hWc hlt2
          have l0 := devL_len a
          have l1 := devL_len b
          by_cases e3 : op = 3
          · subst e3
            simp (maxSteps := 4000000) -dsimp [-List.all_eq_true, -Array.all_eq_true, -Bool.exists_bool, -Bool.forall_bool, and_assoc, List.zipIdx, Tryz.f32, iCoilC, iConC, iNameC, iDevTextC, iCmpTextC, joinC, j10, j9, j8, j3, j1, hlt2, z, y, txt_eta, conT, xD, TB]
            (repeat with_reducible refine And.intro (by omega) ?_)
            first | exact ⟨w0, g0⟩ | exact g0
          by_cases e4 : op = 4
          · subst e4
            simp (maxSteps := 4000000) -dsimp [-List.all_eq_true, -Array.all_eq_true, -Bool.exists_bool, -Bool.forall_bool, and_assoc, List.zipIdx, Tryz.f32, iCoilC, iConC, iNameC, iDevTextC, iCmpTextC, joinC, j10, j9, j8, j3, j1, hlt2, z, y, txt_eta, conT, xD, TB]
            (repeat with_reducible refine And.intro (by omega) ?_)
            first | exact ⟨w0, g0⟩ | exact g0
          have e1 : ¬ op = 1 := by omega
          have e2 : ¬ op = 2 := by omega
          have cl := cmpS_len (op - 4)
          have e5 : IntKind.i64.wrap (op - 5) = op - 5 := wrap_i64 (by omega) (by omega)
          have e6 : IntKind.i64.wrap (op - 5 + 1) = op - 4 := by rw [wrap_i64 (by omega) (by omega)]; omega
          simp (maxSteps := 4000000) -dsimp [-List.all_eq_true, -Array.all_eq_true, -Bool.exists_bool, -Bool.forall_bool, and_assoc, List.zipIdx, Tryz.f32, iCoilC, iConC, iNameC, iDevTextC, iCmpTextC, joinC, j10, j9, j8, j3, j1, hlt2, z, y, txt_eta, conT, xD, TB, e1, e2, e3, e4, e5, e6]
          (repeat with_reducible refine And.intro (by omega) ?_)
          first | exact ⟨w0, g0⟩ | exact g0
    · rw [hc] at z
      obtain ⟨o1, o2, hq⟩ := coil_arity hc
      have ha := coil_facts op o1 o2
      have hj := joinL_devs xs
      have eE : elemL op xs = coilName op ++ 58 :: joinL 44 (xs.map devL) := by unfold elemL; rw [if_pos hc]
      rw [eE]
      simp (maxSteps := 4000000) -dsimp [-List.all_eq_true, -Array.all_eq_true, -Bool.exists_bool, -Bool.forall_bool, and_assoc, List.zipIdx, Tryz.f32, iCoilC, iConC, iNameC, iDevTextC, iCmpTextC, joinC, j10, j9, j8, j3, j1, hlt2, z, nm, Con.readW, txt_eta]
      refine ⟨by omega, ?_⟩
      refine join_TB (W := xs.map devL) rfl (by simp) hWc (by omega) (by omega) ?_
      simp (maxSteps := 4000000) -dsimp [-List.all_eq_true, -Array.all_eq_true, -Bool.exists_bool, -Bool.forall_bool, and_assoc, List.zipIdx, Tryz.f32, iCoilC, iConC, iNameC, iDevTextC, iCmpTextC, joinC, txt_eta]
      (repeat with_reducible refine And.intro (by omega) ?_)
      first | exact ⟨w0, g0⟩ | exact g0
def iElemTextC_S : Reads Tryz.prog 32 where
  ι := ((Int) × (Option Addr) × (Nat) × (List Dev))
  A := fun (i : ((Int) × (Option Addr) × (Nat) × (List Dev))) => match i with | (op, o, cap, xs) => [.agg #[.int .i64 op, .slice o xs.length cap]]
  pre := fun (i : ((Int) × (Option Addr) × (Nat) × (List Dev))) (F : Facts) => match i with | (op, o, cap, xs) => RdD F o xs ∧ TC F ∧ (xs.length ≤ 1048576 ∧ xs.length ≤ cap ∧ cap ≤ 9223372036854775807)
  res := fun (i : ((Int) × (Option Addr) × (Nat) × (List Dev))) => match i with | (op, o, cap, xs) => .string (txt (elemL op xs))
  mono := by
    intro i F G hs h
    first | exact h | exact h.mono hs | exact ⟨h.1.mono hs, h.2⟩ | exact ⟨h.1.mono hs, h.2.1.mono hs, h.2.2⟩ | exact ⟨h.1.mono hs, h.2.1.mono hs⟩ | exact ⟨h.1.mono hs, h.2.1.mono hs, h.2.2.1.mono hs, h.2.2.2⟩
  uniq := by
    rintro ⟨op, o, cap, xs⟩ ⟨op', o', cap', xs'⟩ F hA h h'
    simp at hA
    (try simp only [Int.natCast_inj] at hA)
    obtain rfl : xs = xs' := RdD.uniq h.1 h'.1 (by simp_all) (by simp_all)
    simp_all
  enter := Tryz.call32
  h := fun i w hp => iElemTextC_c i.1 i.2.1 i.2.2.1 i.2.2.2 w (by rw [factF_init]; exact hp)
end Go.Proofs.YtmlmmaojomghdaaGreatDoor
