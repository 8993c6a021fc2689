/-
  Contracts: a word of a memory's text, what its value says, put into the memory by the reference.
-/
import Derived.Test.YtclbanhoiaieaaaGreatDoorVnvc
import Derived.Test.YtclbanhoiaieaaaGreatDoorAvc
set_option linter.unusedVariables false
set_option linter.unusedSimpArgs false
set_option maxRecDepth 100000
set_option maxHeartbeats 4000000
namespace Go.Sx
open Go Go.Proofs.YtclbanhoiaieaaaGreatDoor
def ValTo (m : M) (k n p : Int) (s : Str) (m' : M) : Prop := ∀ t, devRd (cutAt 61 t).1 = some ⟨k, n, p⟩ → (cutAt 61 t).2 = (s, true) → WordTo m t m'
theorem val_dull {m : M} {k n p : Int} {s : Str} (hm : MOk m) (h : ∀ z : MW, z.fit → ∀ t, DevWord t k n z → (cutAt 61 t).2 = (s, true) → False) : ValTo m k n p s m :=
  fun t h1 h2 => word_none hm fun z hz ht => h z hz t (dev_of h1 hz ht) h2
theorem tails_of (c : Int) (d l : Bool) : tailS (decZ c ++ (markS d 33 ++ markS l 43)) 43 = (decZ c ++ markS d 33, l) := by
  rw [← List.append_assoc]; exact tail_marks c d l
theorem val_bad {m : M} {k n p : Int} {s : Str} (hm : MOk m) (hk : k ≠ 10) (h : ∀ (c : Int) (d l : Bool), -32768 ≤ c → c ≤ 65535 → s ≠ decZ c ++ (markS d 33 ++ markS l 43)) : ValTo m k n p s m := by
  refine val_dull hm fun z hz t hd hs => ?_
  cases z with
  | bit k' n' => have h1 := hd.2.2; rw [h1] at hs; cases hs
  | tim i d c =>
    have h1 := hd.2.2; rw [h1] at hs
    simp only [Prod.mk.injEq] at hs
    exact h c d false (by have := hz.2; omega) (by have := hz.2; omega) (by rw [← hs.1]; simp [markS])
  | cnt i d l c =>
    have h1 := hd.2.2; rw [h1] at hs
    simp only [Prod.mk.injEq] at hs
    exact h c d l (by have := hz.2; omega) (by have := hz.2; omega) hs.1.symm
  | dat i v =>
    have h1 := hd.2.2; rw [h1] at hs
    simp only [Prod.mk.injEq] at hs
    exact h v false false (by have := hz.2; omega) (by have := hz.2; omega) (by rw [← hs.1]; simp [markS])
  | real i x => exact hk hd.1
  | time x => exact hd
  | ran => exact hd
  | fault => exact hd
theorem val_other {m : M} {k n p : Int} {s : Str} (hm : MOk m) (h7 : k ≠ 7) (h8 : k ≠ 8) (h9 : k ≠ 9) (h10 : k ≠ 10) : ValTo m k n p s m := by
  refine val_dull hm fun z hz t hd hs => ?_
  cases z with
  | bit k' n' => have h1 := hd.2.2; rw [h1] at hs; cases hs
  | tim i d c => exact h7 hd.1
  | cnt i d l c => exact h8 hd.1
  | dat i v => exact h9 hd.1
  | real i x => exact h10 hd.1
  | time x => exact hd
  | ran => exact hd
  | fault => exact hd
theorem cnt_of {s : Str} {c : Int} {d l : Bool} (hs : s = decZ c ++ (markS d 33 ++ markS l 43)) (h0 : -32768 ≤ c ∧ c ≤ 65535) : (tailS s 43).2 = l ∧ (tailS (tailS s 43).1 33).2 = d ∧ numS (tailS (tailS s 43).1 33).1 = (c, true) := by
  subst hs
  rw [tails_of, tail_mark]
  exact ⟨rfl, rfl, numS_dec (by omega)⟩
theorem val_tim {m : M} {n p c : Int} {s : Str} {d : Bool} (hm : MOk m) (hd : (tailS (tailS s 43).1 33).2 = d) (hc : (numS (tailS (tailS s 43).1 33).1).1 = c) : ValTo m 7 n p s { m with T := upd m.T n.toNat (d, IntKind.u16.wrap c) } := fun t h1 h2 => by
  have hb : 0 ≤ IntKind.u16.wrap c ∧ IntKind.u16.wrap c < 65536 := by simp only [IntKind.wrap, IntKind.signed, IntKind.bits]; simp; omega
  refine word_tim hm h1 hb fun c' d' h3 h4 h5 => ?_
  rw [h2] at h5
  obtain ⟨_, e2, e3⟩ := cnt_of (s := s) (c := c') (d := d') (l := false) (by rw [show s = _ from h5]; simp [markS]) ⟨by omega, by omega⟩
  rw [e3] at hc
  obtain rfl : c' = c := hc
  exact ⟨by rw [← hd, e2], wrap_u16 h3 h4⟩
theorem val_cnt {m : M} {n p c : Int} {s : Str} {d l : Bool} (hm : MOk m) (hl : (tailS s 43).2 = l) (hd : (tailS (tailS s 43).1 33).2 = d) (hc : (numS (tailS (tailS s 43).1 33).1).1 = c) : ValTo m 8 n p s { m with C := upd m.C n.toNat (d, l, IntKind.u16.wrap c) } := fun t h1 h2 => by
  have hb : 0 ≤ IntKind.u16.wrap c ∧ IntKind.u16.wrap c < 65536 := by simp only [IntKind.wrap, IntKind.signed, IntKind.bits]; simp; omega
  refine word_cnt hm h1 hb fun c' d' l' h3 h4 h5 => ?_
  rw [h2] at h5
  obtain ⟨e1, e2, e3⟩ := cnt_of (s := s) (c := c') (d := d') (l := l') h5 ⟨by omega, by omega⟩
  rw [e3] at hc
  obtain rfl : c' = c := hc
  exact ⟨by rw [← hd, e2], by rw [← hl, e1], wrap_u16 h3 h4⟩
theorem val_dat {m : M} {n p c : Int} {s : Str} (hm : MOk m) (hc : (numS (tailS (tailS s 43).1 33).1).1 = c) : ValTo m 9 n p s { m with D := upd m.D n.toNat (IntKind.i16.wrap c) } := fun t h1 h2 => by
  have hb : -32768 ≤ IntKind.i16.wrap c ∧ IntKind.i16.wrap c < 32768 := by simp only [IntKind.wrap, IntKind.signed, IntKind.bits]; simp; omega
  refine word_dat hm h1 hb fun c' h3 h4 h5 => ?_
  rw [h2] at h5
  obtain ⟨_, _, e3⟩ := cnt_of (s := s) (c := c') (d := false) (l := false) (by rw [show s = _ from h5]; simp [markS]) ⟨by omega, by omega⟩
  rw [e3] at hc
  obtain rfl : c' = c := hc
  exact wrap_i16 (by omega) (by omega)
theorem place_10 {n : Int} (h : 0 ≤ n ∧ n < 16) : (place 10 n).toNat = n.toNat := by
  have e : place 10 n = n := by
    have h16 : ring 10 = 16 := rfl
    unfold place
    rw [h16, if_neg (by decide)]
    exact Int.emod_eq_of_lt h.1 h.2
  rw [e]
theorem val_real {m : M} {n p : Int} {s : Str} {r : Nat} (hm : MOk m) (hn : 0 ≤ n ∧ n < 16) (hr : RealTo s r) : ValTo m 10 n p s (memPutReal m 10 n r) := fun t h1 h2 => by
  have e : memPutReal m 10 n r = { m with R := upd m.R n.toNat r } := by unfold memPutReal; rw [if_pos rfl, place_10 hn]
  rw [e]
  exact word_real hm h1 (by rw [h2]; exact hr)
theorem cutU_hit {c : UInt8} {t : Str} {k : Nat} (h : idxL c t = k) : cutAt c t = (t.take k, t.drop (k + 1), true) := by
  by_cases hc : c ∈ t
  · obtain ⟨a, b, rfl, hab⟩ := List.eq_append_cons_of_mem hc
    rw [idxL_hit hab] at h
    obtain rfl : a.length = k := by omega
    rw [cutAt_hit hab, List.take_left]
    simp
  · rw [idxL_miss hc] at h; omega
theorem cutU_miss {c : UInt8} {t : Str} (h : idxL c t < 0) : cutAt c t = (t, [], false) := by
  refine cutAt_miss fun hc => ?_
  obtain ⟨a, b, rfl, hab⟩ := List.eq_append_cons_of_mem hc
  rw [idxL_hit hab] at h; omega
theorem word_time_none {m : M} {t : Str} (hm : MOk m) (hc : (cutAt 61 t).1 = [116, 105, 109, 101]) (h : ∀ x : Int, 0 ≤ x → x < 4294967296 → (cutAt 61 t).2 ≠ (decZ x, true)) : WordTo m t m :=
  word_none hm fun z hz ht => by
    obtain ⟨x, rfl, h1, h2⟩ := time_of hc hz ht
    exact h x hz.1 hz.2 (by rw [h1, ← h2])
end Go.Sx
namespace Go.Proofs.YtclbanhoiaieaaaGreatDoor
open Go Go.Sx
attribute [local simp] Sx.vcsE1 Sx.vcsE2 Sx.vcsE3 Sx.vcsE4 Sx.vcsE5 Sx.vcsE6 Sx.vcsE7 Sx.vcsE8 Sx.vcsE9 Sx.vcsE10 Sx.vcsE11 Sx.vcsE12 Sx.vcsE13 Sx.vcsE14 Sx.vcsE15 Sx.vcsE16 Sx.vcsE17 Sx.vcsE18 Sx.vcsE19 Sx.get Sx.look Sx.put Sx.pureFn Sx.findOrd Sx.unF Sx.dstOk Sx.isFloatT Sx.endVC Sx.resFn Sx.packC Sx.newFn Sx.storeFn Sx.buildFn Sx.known Sx.aggT Sx.cellsC Sx.findCon Sx.allV Sx.partsV Sx.partsC Sx.fillL Sx.exitTo Sx.fAr Sx.eqFn Sx.eqFieldsFn Sx.eqElemsFn Sx.partFn Sx.sliceFn Sx.boundFn Sx.AppV Sx.CopyV Sx.MakeSliceV Sx.NewsV Sx.GrowV Sx.TextV Sx.bytesL Sx.notInt Sx.typeAt Sx.argAt Sx.den Go.undef Go.Value.cells Go.Value.oneCell' Sx.Con.pure Sx.Con.some Sx.Con.read Sx.Con.make Sx.Con.ext Sx.Con.rel Sx.Con.extS Sx.Con.draw Sx.Con.step Sx.C.one Sx.Draws.steps

def sFindEq : Con Tryz.prog := Con.pure 118 Tryz.call118 (fun (s : Str) => [.string (txt s), .int .u8 61]) (fun s => s.length ≤ 4000000) (fun s => .int .i64 (idxL 61 s)) fun s w hp => sFindC_c s 61 hp w
def sTailI : Con Tryz.prog := Con.pure 186 Tryz.call186 (fun (i : Str × Int) => [.string (txt i.1), .int .u8 i.2]) (fun i => i.1.length ≤ 2000000 ∧ 0 ≤ i.2 ∧ i.2 < 256) (fun i => .tuple #[.string (txt (tailS i.1 (UInt8.ofNat i.2.toNat)).1), .bool (tailS i.1 (UInt8.ofNat i.2.toNat)).2]) fun i w hp => by
  have h := sTailC_c i.1 (UInt8.ofNat i.2.toNat) hp.1 w
  have e : ((UInt8.ofNat i.2.toNat).toNat : Int) = i.2 := by rw [UInt8.toNat_ofNat']; omega
  rwa [e] at h
theorem sValueC_c (m : M) (k n p : Int) (s : Str) (hpre : MOk m ∧ s.length ≤ 1100000 ∧ devOk k n p = true) (w : World) : Calls Tryz.prog 121 #[.agg (cells m), .agg #[.int .i64 k, .int .i64 n, .int .i64 p], .string (txt s)] w fun e w' => ∃ v, e = .returned v ∧ (fun v => ∃ m', v = .agg (cells m') ∧ ValTo m k n p s m') v ∧ RowKit.Below w.heap.size w w' := by
  refine plain_of_vcs ⟨[sRealReadC, sMemPutRealC, sTailI, sNumC], []⟩ hmx Tryz.func121 rfl (by kernel_rfl) (args := [.agg (cells m), .agg #[.int .i64 k, .int .i64 n, .int .i64 p], .string (txt s)]) (by simp [Tryz.ntmps121]) w (fun v => ∃ m', v = .agg (cells m') ∧ ValTo m k n p s m') 400 ?_
  obtain ⟨hm, hl, hok⟩ := hpre
  have hd := (devOk_iff _ _ _).1 hok
  have s7 : devSize 7 = 16 := rfl
  have s8 : devSize 8 = 16 := rfl
  have s9 : devSize 9 = 32 := rfl
  have s10 : devSize 10 = 16 := rfl
  by_cases k10 : k = 10
  · subst k10
    have hn : 0 ≤ n ∧ n < 16 := by omega
    simp (maxSteps := 4000000) -dsimp [-List.all_eq_true, -Array.all_eq_true, -Bool.exists_bool, -Bool.forall_bool, and_assoc, List.zipIdx, Tryz.f121, sRealReadC, sMemPutRealC, sTailI, sNumC, hl]
    rintro v r b rfl hr
    simp (maxSteps := 4000000) -dsimp [-List.all_eq_true, -Array.all_eq_true, -Bool.exists_bool, -Bool.forall_bool, and_assoc, List.zipIdx, Tryz.f121, sRealReadC, sMemPutRealC, sTailI, sNumC]
    exact val_real hm hn hr
  have l1 := tailS_len s 43
  have l2 := tailS_len (tailS s 43).1 33
  have hL1 : (tailS s 43).1.length ≤ 2000000 := by omega
  have hL2 : (tailS (tailS s 43).1 33).1.length ≤ 2000000 := by omega
  have o43 : UInt8.ofNat 43 = 43 := rfl
  have o33 : UInt8.ofNat 33 = 33 := rfl
  obtain ⟨c, ok, hnum⟩ : ∃ c b, numS (tailS (tailS s 43).1 33).1 = (c, b) := ⟨_, _, rfl⟩
  have hbad : ¬ (ok = true ∧ -32768 ≤ c ∧ c ≤ 65535) → ValTo m k n p s m := fun h => val_bad hm k10 fun c' d l h1 h2 hs => by
    obtain ⟨_, _, e⟩ := cnt_of hs ⟨h1, h2⟩
    rw [hnum] at e
    simp only [Prod.mk.injEq] at e
    obtain ⟨rfl, rfl⟩ := e
    exact h ⟨rfl, h1, h2⟩
  have hL0 : s.length ≤ 2000000 := by omega
  cases ok
  · have hb := hbad (by simp)
    simp (maxSteps := 4000000) -dsimp [-List.all_eq_true, -Array.all_eq_true, -Bool.exists_bool, -Bool.forall_bool, and_assoc, List.zipIdx, Tryz.f121, sRealReadC, sMemPutRealC, sTailI, sNumC, k10, hnum, o43, o33, hL0, hL1, hL2, hb]
  by_cases c1 : c < -32768
  · have hb := hbad (by omega)
    have q1 : ¬ -32768 ≤ c := by omega
    simp (maxSteps := 4000000) -dsimp [-List.all_eq_true, -Array.all_eq_true, -Bool.exists_bool, -Bool.forall_bool, and_assoc, List.zipIdx, Tryz.f121, sRealReadC, sMemPutRealC, sTailI, sNumC, k10, hnum, o43, o33, hL0, hL1, hL2, hb, c1, q1]
  have q1 : -32768 ≤ c := by omega
  by_cases c2 : 65535 < c
  · have hb := hbad (by omega)
    have q2 : ¬ c ≤ 65535 := by omega
    simp (maxSteps := 4000000) -dsimp [-List.all_eq_true, -Array.all_eq_true, -Bool.exists_bool, -Bool.forall_bool, and_assoc, List.zipIdx, Tryz.f121, sRealReadC, sMemPutRealC, sTailI, sNumC, k10, hnum, o43, o33, hL0, hL1, hL2, hb, c1, q1, c2, q2]
  have q2 : c ≤ 65535 := by omega
  have hcn : (numS (tailS (tailS s 43).1 33).1).1 = c := by rw [hnum]
  by_cases k7 : k = 7
  · subst k7
    have hdn : 0 ≤ n ∧ n < 16 := by omega
    have hn7 : n.toNat < 16 := by omega
    have s2 := fun m b x => set_TT m b x _ hn7
    have ob1 : 5 + n.toNat * 2 ≤ 134 := by omega
    simp (maxSteps := 4000000) -dsimp [-List.all_eq_true, -Array.all_eq_true, -Bool.exists_bool, -Bool.forall_bool, and_assoc, List.zipIdx, Tryz.f121, sRealReadC, sMemPutRealC, sTailI, sNumC, -Sx.splice_two, k10, hnum, o43, o33, hL0, hL1, hL2, c1, q1, c2, q2, s2, ob1, hdn]
    exact val_tim hm rfl hcn
  by_cases k8 : k = 8
  · subst k8
    have hdn : 0 ≤ n ∧ n < 16 := by omega
    have hn7 : n.toNat < 16 := by omega
    have s2 := fun m b c x => set_CC m b c x _ hn7
    have ob1 : 37 + n.toNat * 3 ≤ 133 := by omega
    simp (maxSteps := 4000000) -dsimp [-List.all_eq_true, -Array.all_eq_true, -Bool.exists_bool, -Bool.forall_bool, and_assoc, List.zipIdx, Tryz.f121, sRealReadC, sMemPutRealC, sTailI, sNumC, -Sx.splice_two, k10, hnum, o43, o33, hL0, hL1, hL2, c1, q1, c2, q2, s2, ob1, hdn]
    exact val_cnt hm rfl rfl hcn
  by_cases k9 : k = 9
  · subst k9
    have hdn : 0 ≤ n ∧ n < 32 := by omega
    have s2 := fun m x => set_D m x n.toNat (by omega)
    have ob1 : 85 + n.toNat ≤ 135 := by omega
    simp (maxSteps := 4000000) -dsimp [-List.all_eq_true, -Array.all_eq_true, -Bool.exists_bool, -Bool.forall_bool, and_assoc, List.zipIdx, Tryz.f121, sRealReadC, sMemPutRealC, sTailI, sNumC, k10, hnum, o43, o33, hL0, hL1, hL2, c1, q1, c2, q2, s2, ob1, hdn]
    exact val_dat hm hcn
  have hb := val_other (n := n) (p := p) (s := s) hm k7 k8 k9 k10
  simp (maxSteps := 4000000) -dsimp [-List.all_eq_true, -Array.all_eq_true, -Bool.exists_bool, -Bool.forall_bool, and_assoc, List.zipIdx, Tryz.f121, sRealReadC, sMemPutRealC, sTailI, sNumC, k10, hnum, o43, o33, hL0, hL1, hL2, c1, q1, c2, q2, k7, k8, k9, hb]
def sValueC : Con Tryz.prog := Con.some 121 Tryz.call121 (fun (i : ((M) × (Int) × (Int) × (Int) × (Str))) => match i with | (m, k, n, p, s) => [.agg (cells m), .agg #[.int .i64 k, .int .i64 n, .int .i64 p], .string (txt s)]) (fun (i : ((M) × (Int) × (Int) × (Int) × (Str))) => match i with | (m, k, n, p, s) => MOk m ∧ s.length ≤ 1100000 ∧ devOk k n p = true) (fun (i : ((M) × (Int) × (Int) × (Int) × (Str))) => match i with | (m, k, n, p, s) => fun v => ∃ m', v = .agg (cells m') ∧ ValTo m k n p s m') fun i w hp => sValueC_c i.1 i.2.1 i.2.2.1 i.2.2.2.1 i.2.2.2.2 hp w
end Go.Proofs.YtclbanhoiaieaaaGreatDoor
