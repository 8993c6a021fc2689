/-
  Contracts: lists as text by the program; the law FnExactListText, walked.
-/
import Derived.Test.YtclbanhoiaieaaaGreatDoorTqva
import Derived.Test.YtclbanhoiaieaaaGreatDoorIlva
set_option linter.unusedVariables false
set_option linter.unusedSimpArgs false
set_option maxRecDepth 100000
set_option maxHeartbeats 4000000
namespace Go.Proofs.YtclbanhoiaieaaaGreatDoor
open Go Go.Sx

end Go.Proofs.YtclbanhoiaieaaaGreatDoor
namespace Go.Proofs.YtclbanhoiaieaaaGreatDoor
open Go Go.Sx
attribute [local simp] Sx.vcsE1 Sx.vcsE2 Sx.vcsE3 Sx.vcsE4 Sx.vcsE5 Sx.vcsE6 Sx.vcsE7 Sx.vcsE8 Sx.vcsE9 Sx.vcsE10 Sx.vcsE11 Sx.vcsE12 Sx.vcsE13 Sx.vcsE14 Sx.vcsE15 Sx.vcsE16 Sx.vcsE17 Sx.vcsE18 Sx.vcsE19 Sx.get Sx.look Sx.put Sx.pureFn Sx.findOrd Sx.unF Sx.dstOk Sx.isFloatT Sx.endVC Sx.resFn Sx.packC Sx.newFn Sx.storeFn Sx.buildFn Sx.known Sx.aggT Sx.cellsC Sx.findCon Sx.allV Sx.partsV Sx.partsC Sx.fillL Sx.exitTo Sx.fAr Sx.eqFn Sx.eqFieldsFn Sx.eqElemsFn Sx.partFn Sx.sliceFn Sx.boundFn Sx.AppV Sx.CopyV Sx.MakeSliceV Sx.NewsV Sx.GrowV Sx.TextV Sx.bytesL Sx.notInt Sx.typeAt Sx.argAt Sx.den Go.undef Go.Value.cells Go.Value.oneCell' Sx.Con.pure Sx.Con.some Sx.Con.read Sx.Con.make Sx.Con.ext Sx.Con.rel Sx.Con.extS Sx.Con.draw Sx.Con.step Sx.C.one Sx.Draws.steps

def BB (l : Str) : List C := l.map fun b => .v (.int .u8 b.toNat)
theorem BB_len (l : Str) : (BB l).length = l.length := by simp [BB]
theorem BB_push (l k : Str) (pad : List C) : BB l ++ (BB k ++ pad) = BB (l ++ k) ++ pad := by simp [BB]
theorem BB_take (l : Str) (pad : List C) : (BB l ++ pad).take l.length = BB l := by rw [← BB_len l, List.take_left]
theorem BB_full {l : Str} {pad : List C} {cp : Nat} (h1 : pad.length = cp - l.length) (h2 : l.length ≤ cp) : (BB l ++ pad).length = cp * 1 := by rw [List.length_append, BB_len]; omega
theorem BB_str (l : Str) : (strL (txt l)).map C.v = BB l := by
  unfold strL BB
  simp [txt]
theorem BB_one (l : Str) : (BB l).all C.one = true := by
  unfold BB
  rw [List.all_map]
  exact List.all_eq_true.2 fun x _ => rfl
theorem BB_bytes : ∀ l : Str, bytesL (BB l) = some l
  | [] => rfl
  | b :: l => by
    show (bytesL (BB l)).map _ = _
    rw [BB_bytes l]
    simp
theorem lineL_ne {x : Ins} (h : insOk x = true) : lineL x ≠ [] := by
  have h11 : 1 ≤ x.code ∧ x.code ≤ 11 := by
    unfold insOk at h
    split at h
    · omega
    · split at h
      · omega
      · have := of_decide_eq_true h
        omega
  have hw : wordOf x.code ≠ [] := by rcases code_cases h11 with e | e | e | e | e | e | e | e | e | e | e <;> rw [e] <;> decide
  unfold lineL
  rw [if_pos h]
  split
  · simp
  · exact hw
theorem lineL_bad {x : Ins} (h : insOk x = false) : lineL x = [] := by unfold lineL; rw [h]; rfl
theorem iListTextC_c (o : Option Addr) (cap : Nat) (xs : List Ins) (w : World) (hpre : RdN (factF ⟨w, [], w, []⟩) o xs ∧ TL (factF ⟨w, [], w, []⟩) ∧ (xs.length ≤ 1048576 ∧ (∀ x ∈ xs, x.args.length ≤ 1048576))) : Calls Tryz.prog 24 #[.slice o xs.length cap] w fun e w' => e = .returned (.string (txt (listL xs))) ∧ RowKit.Below w.heap.size w w' := by
  refine (plain_of_vcs ⟨[iListLineC], []⟩ hmx Tryz.func24 rfl (by kernel_rfl) (args := [.slice o xs.length cap]) (by simp [Tryz.ntmps24]) w (· = .string (txt (listL xs))) 600 ?_).mono fun e w' ⟨v, h1, h2, h3⟩ => ⟨h2 ▸ h1, h3⟩
  obtain ⟨h, ht, hl, ha⟩ := hpre
  by_cases hm : xs.length ≤ 1000
  · have hm1 : ¬ (1000 : Int) < xs.length := by omega
    simp (maxSteps := 4000000) -dsimp [-List.all_eq_true, -Array.all_eq_true, -Bool.exists_bool, -Bool.forall_bool, and_assoc, List.zipIdx, Tryz.f24, iListLineC, hm1]
    intro b0
    refine loop_inv (σ := ⟨[iListLineC], []⟩) hmx (by kernel_rfl) (fun q cx' tm mem => Le ⟨w, [], w, []⟩ cx' ∧ ∃ (i b' cp : Nat) (pad : List C), i ≤ xs.length ∧ q = xs.length - i ∧ (∀ j, j < i → ∀ x, xs[j]? = some x → insOk x = true) ∧ (lines xs i).length ≤ cp ∧ cp ≤ maxLen ∧ pad.length = cp - (lines xs i).length ∧ mem = [⟨b', BB (lines xs i) ++ pad, 5⟩] ∧
        Sx.look tm 13 = .v (.int .i64 i) ∧ Sx.look tm 12 = .v (.int .i64 xs.length) ∧ Sx.look tm 11 = .v (.slice o xs.length cap) ∧ Sx.look tm 3 = .s 0 b' 0 (lines xs i).length cp)
      xs.length ⟨Le.refl _, 0, b0, 0, [], by omega, rfl, by omega, by simp [lines, linesL], by decide, rfl, by simp [lines, linesL, BB], by simp [Sx.look], by simp [Sx.look], by simp [Sx.look], by simp [Sx.look, lines, linesL]⟩ ?_
    rintro q cx tm mem ⟨hle, i, b', cp, pad, hi, rfl, hk, hWc, hcp, hpad, rfl, j13, j12, j11, j3⟩
    refine ⟨600, ?_⟩
    have hD := h.mono hle.fact
    have hT := ht.mono hle.fact
    have w0 := hle.w0
    have g0 := hle.g0
    have ll := lines_len xs i
    by_cases hlt : i < xs.length
    · have hlt' : (i : Int) < xs.length := by omega
      obtain ⟨x, hx⟩ : ∃ x, xs[i]? = some x := ⟨xs[i], by simp [hlt]⟩
      obtain ⟨o', cap', hat⟩ := hD.at hx
      have hxa := ha x (List.mem_of_getElem? hx)
      have hc5 : cap' ≤ 9223372036854775807 := by have := hat.le.2; unfold maxLen at this; omega
      have y2 := fun d mem K => iListLineC_rw (code := x.code) (op := x.op) (cap := cap') (d := d) (cx := cx) (mem := mem) (K := K) ⟨hat.args.mono (sub_now _ _), hT.mono (sub_now _ _), hxa, hat.le.1, hc5⟩
      have ex : (⟨x.code, x.op, x.args⟩ : Ins) = x := rfl
      rw [ex] at y2
      have e := lines_next hx
      have l2 := lineL_len x
      cases hq : insOk x
      · rw [lineL_bad hq] at y2
        rw [listL_bad hx hq]
        simp (maxSteps := 4000000) -dsimp [-List.all_eq_true, -Array.all_eq_true, -Bool.exists_bool, -Bool.forall_bool, and_assoc, List.zipIdx, Tryz.f24, iListLineC, j13, j12, j11, j3, hlt, hlt', hD.there hlt, hat.all, y2, txt_eta]
        exact ⟨w0, g0⟩
      · have hne := lineL_ne hq
        have e0 := BB_take (lines xs i) pad
        have e1 := BB_full hpad hWc
        have s1 := BB_str (lineL x)
        have s2 := BB_one (lineL x)
        simp (maxSteps := 4000000) -dsimp [-List.all_eq_true, -Array.all_eq_true, -Bool.exists_bool, -Bool.forall_bool, and_assoc, List.zipIdx, Tryz.f24, iListLineC, j13, j12, j11, j3, hlt, hlt', hD.there hlt, hat.all, y2, txt_eta, hne, s1, s2, e0, e1]
        intro b
        refine ⟨hWc, hcp, by unfold maxLen; omega, by omega, ?_⟩
        clear e0 e1
        rintro b2 cp2 pad2 f1 f2 f3 cx' p hle' hlit
        rw [BB_push]
        obtain ⟨L, hL⟩ : ∃ L, L = lines xs i ++ lineL x := ⟨_, rfl⟩
        have hLl : (lines xs i).length + (lineL x).length = L.length := by rw [hL, List.length_append]
        rw [← hL, hLl]
        rw [hLl] at f1 f3
        rw [RdL.sl (hlit.mono ((sub_new cx').trans (sub_now _ _))) (by rfl)]
        unfold GrowV
        have e2 := BB_take L pad2
        have e3 := BB_full f3 f1
        simp (maxSteps := 4000000) -dsimp [-List.all_eq_true, -Array.all_eq_true, -Bool.exists_bool, -Bool.forall_bool, and_assoc, List.zipIdx, Tryz.f24, iListLineC, j13, j12, j11, j3, e2, e3, i_succ (i := i) (by omega)]
        have e4 : lines xs (i + 1) = L ++ [10] := by rw [e, hL]; simp
        have e5 : (lines xs (i + 1)).length = L.length + 1 := by rw [e4]; simp
        have ll2 := lines_len xs (i + 1)
        exact ⟨f1, f2, by unfold maxLen; omega, by omega, fun b4 cp4 pad4 g1 g2 g3 => ⟨1, xs.length - (i + 1), by omega, hle.trans hle', i + 1, by omega, rfl, fun j hj y hy => if hji : j = i then by subst hji; rw [hx] at hy; cases hy; exact hq else hk j (by omega) y hy, b4, cp4, by omega, g2, pad4, by omega, by rw [e4]; simp [BB], by omega, rfl, e5.symm, rfl⟩⟩
    · obtain rfl : i = xs.length := by omega
      have hE : listL xs = lines xs xs.length := listL_good hm fun x hx => by
        obtain ⟨j, hj, rfl⟩ := List.mem_iff_getElem.1 hx
        exact hk j hj _ (by simp [hj])
      have e0 := BB_take (lines xs xs.length) pad
      have e1 := BB_bytes (lines xs xs.length)
      have hlt2 : ¬ (xs.length : Int) < xs.length := by omega
      rw [hE]
      simp (maxSteps := 4000000) -dsimp [-List.all_eq_true, -Array.all_eq_true, -Bool.exists_bool, -Bool.forall_bool, and_assoc, List.zipIdx, Tryz.f24, iListLineC, j13, j12, j11, j3, hlt2, e0, e1]
      exact ⟨by rw [BB_len]; omega, w0, g0, rfl⟩
  · have hm1 : (1000 : Int) < xs.length := by omega
    rw [listL_big (by omega)]
    simp (maxSteps := 4000000) -dsimp [-List.all_eq_true, -Array.all_eq_true, -Bool.exists_bool, -Bool.forall_bool, and_assoc, List.zipIdx, Tryz.f24, iListLineC, hm1, txt_eta]
def iListTextC_S : Reads Tryz.prog 24 where
  ι := ((Option Addr) × (Nat) × (List Ins))
  A := fun (i : ((Option Addr) × (Nat) × (List Ins))) => match i with | (o, cap, xs) => [.slice o xs.length cap]
  pre := fun (i : ((Option Addr) × (Nat) × (List Ins))) (F : Facts) => match i with | (o, cap, xs) => RdN F o xs ∧ TL F ∧ (xs.length ≤ 1048576 ∧ (∀ x ∈ xs, x.args.length ≤ 1048576))
  res := fun (i : ((Option Addr) × (Nat) × (List Ins))) => match i with | (o, cap, xs) => .string (txt (listL xs))
  mono := by
    intro i F G hs h
    first | exact h | exact h.mono hs | exact ⟨h.1.mono hs, h.2⟩ | exact ⟨h.1.mono hs, h.2.1.mono hs, h.2.2⟩ | exact ⟨h.1.mono hs, h.2.1.mono hs⟩ | exact ⟨h.1.mono hs, h.2.1.mono hs, h.2.2.1.mono hs, h.2.2.2⟩
  uniq := by
    rintro ⟨o, cap, xs⟩ ⟨o', cap', xs'⟩ F hA h h'
    simp at hA
    (try simp only [Int.natCast_inj] at hA)
    obtain rfl : xs = xs' := RdN.uniq h.1 h'.1 (by simp_all) (by simp_all)
    simp_all
  enter := Tryz.call24
  h := fun i w hp => iListTextC_c i.1 i.2.1 i.2.2 w (by rw [factF_init]; exact hp)
def iListTextC : Con Tryz.prog := Con.read iListTextC_S
theorem iListTextC_rw {o : Option Addr} {cap : Nat} {xs : List Ins} {d : Nat} {cx : Cx} {mem : List Blk} {K : C → Prop} (hpre : RdN (nowF cx mem) o xs ∧ TL (nowF cx mem) ∧ (xs.length ≤ 1048576 ∧ (∀ x ∈ xs, x.args.length ≤ 1048576))) : ReadV d iListTextC_S cx [.v (.slice o xs.length cap)] mem K = K (.v (.string (txt (listL xs)))) := iListTextC_S.eq (o, cap, xs) rfl hpre
end Go.Proofs.YtclbanhoiaieaaaGreatDoor
