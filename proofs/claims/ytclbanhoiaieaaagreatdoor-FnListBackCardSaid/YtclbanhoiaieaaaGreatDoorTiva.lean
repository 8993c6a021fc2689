/-
  Contracts: texts of numbers and of operands, by the program; texts joined.
-/
import Derived.Test.YtclbanhoiaieaaaGreatDoorSbva
import Derived.Test.YtclbanhoiaieaaaGreatDoorTgva
import Derived.Test.YtclbanhoiaieaaaGreatDoorHva
import Derived.Lib.Join
set_option linter.unusedVariables false
set_option linter.unusedSimpArgs false
set_option maxRecDepth 100000
set_option maxHeartbeats 4000000
namespace Go.Sx
open Go

theorem join_inter (c : UInt8) : ∀ ws : List Str, List.intercalate [c] ws = joinL c ws
  | [] => rfl
  | [w] => by simp [List.intercalate, joinL]
  | w :: x :: r => by
    have := join_inter c (x :: r)
    rw [joinL_cons c w (by simp), ← this]
    simp [List.intercalate, List.intersperse]
theorem lib_join (c : UInt8) (ws : List Str) : Lib.join ((ws.map txt).map (·.data.toList)) (txt [c]).data.toList = joinL c ws := by
  unfold Lib.join
  rw [List.map_map]
  have : (ws.map ((fun s : ByteArray => s.data.toList) ∘ txt)) = ws := by
    conv => rhs; rw [← List.map_id ws]
    rfl
  rw [this]
  exact join_inter c ws
end Go.Sx
namespace Go.Proofs.YtclbanhoiaieaaaGreatDoor
open Go Go.Sx
attribute [local simp] Sx.vcsE1 Sx.vcsE2 Sx.vcsE3 Sx.vcsE4 Sx.vcsE5 Sx.vcsE6 Sx.vcsE7 Sx.vcsE8 Sx.vcsE9 Sx.vcsE10 Sx.vcsE11 Sx.vcsE12 Sx.vcsE13 Sx.vcsE14 Sx.vcsE15 Sx.vcsE16 Sx.vcsE17 Sx.vcsE18 Sx.vcsE19 Sx.get Sx.look Sx.put Sx.pureFn Sx.findOrd Sx.unF Sx.dstOk Sx.isFloatT Sx.endVC Sx.resFn Sx.packC Sx.newFn Sx.storeFn Sx.buildFn Sx.known Sx.aggT Sx.cellsC Sx.findCon Sx.allV Sx.partsV Sx.partsC Sx.fillL Sx.exitTo Sx.fAr Sx.eqFn Sx.eqFieldsFn Sx.eqElemsFn Sx.partFn Sx.sliceFn Sx.boundFn Sx.AppV Sx.CopyV Sx.MakeSliceV Sx.NewsV Sx.GrowV Sx.TextV Sx.bytesL Sx.notInt Sx.typeAt Sx.argAt Sx.den Go.undef Go.Value.cells Go.Value.oneCell' Sx.Con.pure Sx.Con.some Sx.Con.read Sx.Con.make Sx.Con.ext Sx.Con.rel Sx.Con.extS Sx.Con.draw Sx.Con.step Sx.C.one Sx.Draws.steps

theorem letter_sub {k : Int} (h : 1 ≤ k ∧ k ≤ 10) : (letters.take (k - 1 + 1).toNat).drop (k - 1).toNat = [letterU k] := by
  have : k = 1 ∨ k = 2 ∨ k = 3 ∨ k = 4 ∨ k = 5 ∨ k = 6 ∨ k = 7 ∨ k = 8 ∨ k = 9 ∨ k = 10 := by omega
  rcases this with rfl | rfl | rfl | rfl | rfl | rfl | rfl | rfl | rfl | rfl <;> rfl
theorem devLetterC_c (k : Int) (w : World) : Calls Tryz.prog 151 #[.int .i64 k] w fun e w' => e = .returned (.string (txt (if 1 ≤ k ∧ k ≤ 10 then [letterU k] else []))) ∧ RowKit.Below w.heap.size w w' := by
  refine (plain_of_vcs ⟨[isDevC], []⟩ hmx Tryz.func151 rfl (by kernel_rfl) (args := [.int .i64 k]) (by simp [Tryz.ntmps151]) w (· = .string (txt (if 1 ≤ k ∧ k ≤ 10 then [letterU k] else []))) 400 ?_).mono fun e w' ⟨v, h1, h2, h3⟩ => ⟨h2 ▸ h1, h3⟩
  by_cases hk : 1 ≤ k ∧ k ≤ 10
  · rw [if_pos hk]
    have e1 : IntKind.i64.wrap (k - 1) = k - 1 := wrap_i64 (by omega) (by omega)
    have e2 : IntKind.i64.wrap (k - 1 + 1) = k - 1 + 1 := wrap_i64 (by omega) (by omega)
    have e3 := letter_sub hk
    have e4 : (⟨#[88, 89, 77, 83, 69, 71, 84, 67, 68, 82]⟩ : ByteArray) = txt letters := rfl
    have e5 : IntKind.i64.wrap k = k := wrap_i64 (by omega) (by omega)
    have e6 : (letters.take k.toNat).drop (k.toNat - 1) = [letterU k] := by
      have a1 : k.toNat = (k - 1 + 1).toNat := by omega
      have a2 : k.toNat - 1 = (k - 1).toNat := by omega
      rw [a2, a1]; exact e3
    have e7 : letters.length = 10 := rfl
    simp (maxSteps := 4000000) -dsimp [-List.all_eq_true, -Array.all_eq_true, -Bool.exists_bool, -Bool.forall_bool, and_assoc, List.zipIdx, Tryz.f151, isDevC, hk, e1, e5, e4, e6, e7]
    first | omega | exact ⟨fun h => by omega, by omega, by omega⟩
  · rw [if_neg hk]
    simp (maxSteps := 4000000) -dsimp [-List.all_eq_true, -Array.all_eq_true, -Bool.exists_bool, -Bool.forall_bool, and_assoc, List.zipIdx, Tryz.f151, isDevC, hk, txt_eta]
    intro h1 h2
    exact absurd ⟨h1, h2⟩ hk
def devLetterC : Con Tryz.prog := Con.pure 151 Tryz.call151 (fun (k : ((Int))) => [.int .i64 k]) (fun (k : ((Int))) => True) (fun (k : ((Int))) => .string (txt (if 1 ≤ k ∧ k ≤ 10 then [letterU k] else []))) fun k w _ => devLetterC_c k w
def TV (F : Facts) : Prop := RdL F (some ⟨1, 0, none⟩) (words4.map fun z => .string (txt z))
theorem TV.mono {F G : Facts} (h : TV F) (hs : Sub F G) : TV G := RdL.mono h hs
theorem decTextC_c (n : Int) (p : Nat) (w : World) (hpre : TP (factF ⟨w, [], w, []⟩) ∧ (-999999999 ≤ n ∧ n ≤ 999999999 ∧ p ≤ 6)) : Calls Tryz.prog 150 #[.int .i64 n, .int .i64 p] w fun e w' => e = .returned (.string (txt (decT n p))) ∧ RowKit.Below w.heap.size w w' := by
  refine (plain_of_vcs ⟨[itoaC], []⟩ hmx Tryz.func150 rfl (by kernel_rfl) (args := [.int .i64 n, .int .i64 p]) (by simp [Tryz.ntmps150]) w (· = .string (txt (decT n p))) 400 ?_).mono fun e w' ⟨v, h1, h2, h3⟩ => ⟨h2 ▸ h1, h3⟩
  obtain ⟨ht, h1, h2, h3⟩ := hpre
  have hw : IntKind.i64.wrap (-n) = -n := wrap_i64 (by omega) (by omega)
  obtain ⟨sg, hsg⟩ : ∃ sg : Str, sg = signS n := ⟨_, rfl⟩
  have hsl : sg.length ≤ 1 := by rw [hsg]; unfold signS; split <;> simp
  have hl9 := decL_len n.natAbs 8 (by omega)
  have hl1 := decL_len1 n.natAbs
  have hT : decT n p = sg ++ fracS p (padS p (decL n.natAbs)) := by rw [hsg]; rfl
  rw [hT]
  obtain ⟨v, hv, hvz, hvr⟩ : ∃ v : Int, v = (if n < 0 then -n else n) ∧ decZ v = decL n.natAbs ∧ 0 ≤ v ∧ v ≤ 999999999 := by
    refine ⟨_, rfl, ?_, ?_⟩
    · split
      · unfold decZ; rw [if_neg (by omega), show (-n).natAbs = n.natAbs by omega]
      · unfold decZ; rw [if_neg (by omega)]
    · split <;> omega
  have t0 := fun (d : Nat) (mem : List Blk) (K : C → Prop) => itoaC_rw (n := v) (d := d) (cx := ⟨w, [], w, []⟩) (mem := mem) (K := K) ⟨ht.mono (sub_now _ _), by omega, by omega⟩
  rw [hvz] at t0
  by_cases hn : n < 0
  all_goals
    first | (rw [if_pos hn] at hv; have es : sg = [45] := by rw [hsg]; unfold signS; rw [if_pos hn]) | (rw [if_neg hn] at hv; have es : sg = [] := by rw [hsg]; unfold signS; rw [if_neg hn])
    rw [hv] at t0
    simp (maxSteps := 4000000) -dsimp [-List.all_eq_true, -Array.all_eq_true, -Bool.exists_bool, -Bool.forall_bool, and_assoc, List.zipIdx, Tryz.f150, itoaC, hn, hw, t0, txt_eta]
    refine loop_inv (σ := ⟨[itoaC], []⟩) hmx (by kernel_rfl) (fun q cx tm mem => cx = ⟨w, [], w, []⟩ ∧ mem = [] ∧ ∃ k : Nat, q = (p + 1 - (decL n.natAbs).length) - k ∧ k ≤ p + 1 - (decL n.natAbs).length ∧ Sx.look tm 6 = .v (.string (txt (List.replicate k 48 ++ decL n.natAbs))) ∧ Sx.look tm 5 = .v (.string (txt sg)) ∧ Sx.look tm 1 = .v (.int .i64 p))
      (p + 1 - (decL n.natAbs).length) ⟨rfl, rfl, 0, by omega, by omega, by simp [Sx.look], by simp [Sx.look, es], by simp [Sx.look]⟩ ?_
    rintro q cx tm mem ⟨rfl, rfl, k, hq, hk, j6, j5, j1⟩
    refine ⟨300, ?_⟩
    by_cases hlt : k < p + 1 - (decL n.natAbs).length
    · have h1 : (k : Int) + ((decL n.natAbs).length : Int) ≤ p := by omega
      simp (maxSteps := 4000000) -dsimp [-List.all_eq_true, -Array.all_eq_true, -Bool.exists_bool, -Bool.forall_bool, and_assoc, List.zipIdx, Tryz.f150, itoaC, j6, j5, j1, h1, txt_eta]
      exact ⟨by omega, p + 1 - (decL n.natAbs).length - (k + 1), by omega, k + 1, by omega, by omega, by rw [List.replicate_succ]; rfl⟩
    · obtain rfl : k = p + 1 - (decL n.natAbs).length := by omega
      have e4 : List.replicate (p + 1 - (decL n.natAbs).length) 48 ++ decL n.natAbs = padS p (decL n.natAbs) := rfl
      rw [e4] at j6
      have hpl := padS_len p (decL n.natAbs)
      unfold fracS
      generalize padS p (decL n.natAbs) = l at *
      have h1 : ¬ (l.length : Int) ≤ p := by omega
      have hw3 : IntKind.i64.wrap ((l.length : Int) - p) = l.length - p := wrap_i64 (by omega) (by omega)
      have hn3 : ((l.length : Int) - (p : Int)).toNat = l.length - p := by omega
      simp (maxSteps := 4000000) -dsimp [-List.all_eq_true, -Array.all_eq_true, -Bool.exists_bool, -Bool.forall_bool, and_assoc, List.zipIdx, Tryz.f150, itoaC, j6, j5, j1, h1, hw3, hn3, txt_eta]
      omega
def decTextC_S : Reads Tryz.prog 150 where
  ι := ((Int) × (Nat))
  A := fun (i : ((Int) × (Nat))) => match i with | (n, p) => [.int .i64 n, .int .i64 p]
  pre := fun (i : ((Int) × (Nat))) (F : Facts) => match i with | (n, p) => TP F ∧ (-999999999 ≤ n ∧ n ≤ 999999999 ∧ p ≤ 6)
  res := fun (i : ((Int) × (Nat))) => match i with | (n, p) => .string (txt (decT n p))
  mono := by
    intro i F G hs h
    first | exact h | exact h.mono hs | exact ⟨h.1.mono hs, h.2⟩ | exact ⟨h.1.mono hs, h.2.1.mono hs, h.2.2⟩ | exact ⟨h.1.mono hs, h.2.1.mono hs⟩ | exact ⟨h.1.mono hs, h.2.1.mono hs, h.2.2.1.mono hs, h.2.2.2⟩
  uniq := by
    rintro ⟨n, p⟩ ⟨n', p'⟩ F hA h h'
    simp at hA
    (try simp only [Int.natCast_inj] at hA)
    simp_all
  enter := Tryz.call150
  h := fun i w hp => decTextC_c i.1 i.2 w (by rw [factF_init]; exact hp)
def decTextC : Con Tryz.prog := Con.read decTextC_S
theorem decTextC_rw {n : Int} {p : Nat} {d : Nat} {cx : Cx} {mem : List Blk} {K : C → Prop} (hpre : TP (nowF cx mem) ∧ (-999999999 ≤ n ∧ n ≤ 999999999 ∧ p ≤ 6)) : ReadV d decTextC_S cx [.v (.int .i64 n), .v (.int .i64 p)] mem K = K (.v (.string (txt (decT n p)))) := decTextC_S.eq (n, p) rfl hpre
structure TT (F : Facts) : Prop where
  p : TP F
  v : TV F
theorem TT.mono {F G : Facts} (h : TT F) (hs : Sub F G) : TT G := ⟨h.p.mono hs, h.v.mono hs⟩
theorem word4_at {n : Int} (h : 0 ≤ n ∧ n ≤ 3) : (words4.map fun z => Value.string (txt z))[n.toNat]? = some (.string (txt (wordS n))) := by
  have : n = 0 ∨ n = 1 ∨ n = 2 ∨ n = 3 := by omega
  rcases this with rfl | rfl | rfl | rfl <;> rfl
theorem iDevTextC_c (k n p : Int) (w : World) (hpre : TT (factF ⟨w, [], w, []⟩)) : Calls Tryz.prog 62 #[.agg #[.int .i64 k, .int .i64 n, .int .i64 p]] w fun e w' => e = .returned (.string (txt (devL ⟨k, n, p⟩))) ∧ RowKit.Below w.heap.size w w' := by
  refine (plain_of_vcs ⟨[devOkC, itoaC, decTextC, devLetterC], []⟩ hmx Tryz.func62 rfl (by kernel_rfl) (args := [.agg #[.int .i64 k, .int .i64 n, .int .i64 p]]) (by simp [Tryz.ntmps62]) w (· = .string (txt (devL ⟨k, n, p⟩))) 400 ?_).mono fun e w' ⟨v, h1, h2, h3⟩ => ⟨h2 ▸ h1, h3⟩
  obtain ⟨ht, hv⟩ := hpre
  cases hok : devOk k n p
  · have e : devL ⟨k, n, p⟩ = [] := devL_bad hok
    rw [e]
    simp (maxSteps := 4000000) -dsimp [-List.all_eq_true, -Array.all_eq_true, -Bool.exists_bool, -Bool.forall_bool, and_assoc, List.zipIdx, Tryz.f62, devOkC, itoaC, decTextC, devLetterC, hok, txt_eta]
  · have e : devL ⟨k, n, p⟩ = devT ⟨k, n, p⟩ := devL_ok hok
    have hc := dOk_cases (d := ⟨k, n, p⟩) hok
    rw [e]
    simp only at hc
    have hz := devSize_le k
    have hn63 : n.natAbs ≤ 1000000000 := by omega
    have t0 := fun (d : Nat) (mem : List Blk) (K : C → Prop) => itoaC_rw (n := n) (d := d) (cx := ⟨w, [], w, []⟩) (mem := mem) (K := K) ⟨ht.mono (sub_now _ _), by omega, by omega⟩
    by_cases h11 : k = 11
    · subst h11
      simp (maxSteps := 4000000) -dsimp [-List.all_eq_true, -Array.all_eq_true, -Bool.exists_bool, -Bool.forall_bool, and_assoc, List.zipIdx, Tryz.f62, devOkC, itoaC, decTextC, devLetterC, hok, t0, txt_eta]
      rfl
    · by_cases h12 : k = 12
      · subst h12
        obtain ⟨p', rfl⟩ := Int.eq_ofNat_of_zero_le (show 0 ≤ p by omega)
        have t1 := fun (d : Nat) (mem : List Blk) (K : C → Prop) => decTextC_rw (n := n) (p := p') (d := d) (cx := ⟨w, [], w, []⟩) (mem := mem) (K := K) ⟨ht.mono (sub_now _ _), by omega, by omega, by omega⟩
        simp (maxSteps := 4000000) -dsimp [-List.all_eq_true, -Array.all_eq_true, -Bool.exists_bool, -Bool.forall_bool, and_assoc, List.zipIdx, Tryz.f62, devOkC, itoaC, decTextC, devLetterC, hok, t1, txt_eta]
        rfl
      · by_cases h13 : k = 13
        · subst h13
          have h03 : 0 ≤ n ∧ n ≤ 3 := by omega
          have l0 := fun (d : Nat) (mem : List Blk) (K : Value → Prop) => RdL.ld (P := Tryz.prog) (d := d) (K := K) (RdL.mono hv (sub_now ⟨w, [], w, []⟩ mem)) (t := 9) (by kernel_rfl) (word4_at h03)
          simp only [padd_some, Nat.zero_add] at l0
          simp (maxSteps := 4000000) -dsimp [-List.all_eq_true, -Array.all_eq_true, -Bool.exists_bool, -Bool.forall_bool, and_assoc, List.zipIdx, Tryz.f62, devOkC, itoaC, decTextC, devLetterC, hok, l0, txt_eta]
          exact ⟨by omega, by omega, rfl⟩
        · have hk : 1 ≤ k ∧ k ≤ 10 := by omega
          have hl := decZ_len (n := n) (by omega)
          have et : devT ⟨k, n, p⟩ = letterU k :: decZ n := by unfold devT; simp only; rw [if_neg h11, if_neg h12, if_neg h13]
          rw [et]
          simp (maxSteps := 4000000) -dsimp [-List.all_eq_true, -Array.all_eq_true, -Bool.exists_bool, -Bool.forall_bool, and_assoc, List.zipIdx, Tryz.f62, devOkC, itoaC, decTextC, devLetterC, hok, h11, h12, h13, hk, t0, txt_eta]
          omega
def iDevTextC_S : Reads Tryz.prog 62 where
  ι := ((Int) × (Int) × (Int))
  A := fun (i : ((Int) × (Int) × (Int))) => match i with | (k, n, p) => [.agg #[.int .i64 k, .int .i64 n, .int .i64 p]]
  pre := fun (i : ((Int) × (Int) × (Int))) (F : Facts) => match i with | (k, n, p) => TT F
  res := fun (i : ((Int) × (Int) × (Int))) => match i with | (k, n, p) => .string (txt (devL ⟨k, n, p⟩))
  mono := by
    intro i F G hs h
    first | exact h | exact h.mono hs | exact ⟨h.1.mono hs, h.2⟩ | exact ⟨h.1.mono hs, h.2.1.mono hs, h.2.2⟩ | exact ⟨h.1.mono hs, h.2.1.mono hs⟩ | exact ⟨h.1.mono hs, h.2.1.mono hs, h.2.2.1.mono hs, h.2.2.2⟩
  uniq := by
    rintro ⟨k, n, p⟩ ⟨k', n', p'⟩ F hA h h'
    simp at hA
    (try simp only [Int.natCast_inj] at hA)
    simp_all
  enter := Tryz.call62
  h := fun i w hp => iDevTextC_c i.1 i.2.1 i.2.2 w (by rw [factF_init]; exact hp)
def iDevTextC : Con Tryz.prog := Con.read iDevTextC_S
theorem iDevTextC_rw {k n p : Int} {d : Nat} {cx : Cx} {mem : List Blk} {K : C → Prop} (hpre : TT (nowF cx mem)) : ReadV d iDevTextC_S cx [.v (.agg #[.int .i64 k, .int .i64 n, .int .i64 p])] mem K = K (.v (.string (txt (devL ⟨k, n, p⟩)))) := iDevTextC_S.eq (k, n, p) rfl hpre
def join_S : Reads Tryz.prog 68 where
  ι := Option Addr × Nat × List Str × UInt8
  A i := [.slice i.1 i.2.2.1.length i.2.1, .string (txt [i.2.2.2])]
  pre i F := RdL F i.1 (i.2.2.1.map fun z => .string (txt z)) ∧ (∀ a, i.1 = some a → a.spot = none) ∧ i.2.2.1.length ≤ i.2.1 ∧ i.2.2.1.length ≤ 140737488355328 ∧ (joinL i.2.2.2 i.2.2.1).length ≤ 140737488355328
  res i := .string (txt (joinL i.2.2.2 i.2.2.1))
  mono i F G hs h := ⟨h.1.mono hs, h.2⟩
  uniq := by
    rintro ⟨o, cap, ws, c⟩ ⟨o', cap', ws', c'⟩ F hA h h'
    simp only [List.cons.injEq, Value.slice.injEq, Value.string.injEq, txt_inj, and_true] at hA
    obtain ⟨⟨rfl, hl, rfl⟩, hc⟩ := hA
    have := h.1.uniq h'.1 (by simpa using hl)
    have e : ws = ws' := by
      have h2 := congrArg (List.map fun v => match v with | .string s => s.data.toList | _ => []) this
      simp only [List.map_map] at h2
      have h3 : ((fun v : Value => match v with | .string s => s.data.toList | _ => []) ∘ fun z : Str => Value.string (txt z)) = id := rfl
      rw [h3] at h2
      simpa using h2
    subst e
    have : c = c' := by simpa using hc
    subst this; rfl
  enter := Tryz.call68
  h := by
    rintro ⟨o, cap, ws, c⟩ w ⟨h1, h2, h3, h4, h5⟩
    simp only at h1 h2 h3 h4 h5 ⊢
    by_cases he : ws = []
    · subst he
      refine (Tryz.strings_Join_none o cap (txt [c]) w).mono ?_
      rintro e w' ⟨rfl, rfl⟩
      exact ⟨rfl, below_same⟩
    · obtain ⟨x, r, rfl⟩ : ∃ x r, ws = x :: r := by cases ws with
        | nil => exact absurd rfl he
        | cons x r => exact ⟨x, r, rfl⟩
      obtain ⟨a, rfl, ha⟩ := h1 0 _ rfl
      obtain ⟨bk, off, sp⟩ := a
      have hsp : sp = none := h2 _ rfl
      subst hsp
      have hb : bk < w.heap.size := by
        rw [addr_add] at ha
        exact block_lt_of_cell ha
      have key := Tryz.strings_Join bk off cap ((x :: r).map txt) (txt [c]) w (fun j y hj => by
        rw [List.getElem?_map] at hj
        cases hz : (x :: r)[j]? with
        | none => rw [hz] at hj; cases hj
        | some z =>
          rw [hz] at hj
          cases hj
          obtain ⟨a, ea, hc⟩ := h1 j (.string (txt z)) (by rw [List.getElem?_map, hz]; rfl)
          cases ea
          rw [addr_add] at hc
          exact hc) hb (by simpa using h4) (by simpa using h3) (by rw [lib_join]; exact h5)
      rw [lib_join, List.length_map] at key
      exact key
def joinC : Con Tryz.prog := Con.readW join_S
end Go.Proofs.YtclbanhoiaieaaaGreatDoor
