/-
  Contracts: a word of a memory's text, put into the memory by the program.
-/
import Derived.Test.YtclbanhoiaieaaaGreatDoorVivc
set_option linter.unusedVariables false
set_option linter.unusedSimpArgs false
set_option maxRecDepth 100000
set_option maxHeartbeats 4000000
namespace Go.Sx
open Go Go.Proofs.YtclbanhoiaieaaaGreatDoor
theorem or_put {X : Int} {n : Nat} (h0 : 0 ≤ X) (h1 : X < 4294967296) (hn : n < 32) : ((X.toNat ||| 2 ^ n : Nat) : Int) = putBit X n true := by
  obtain ⟨x, rfl⟩ : ∃ x : Nat, X = x := ⟨X.toNat, by omega⟩
  have e32 : (2 : Nat) ^ 32 = 4294967296 := rfl
  have hx : x < 2 ^ 32 := by omega
  have h2 : x ||| 2 ^ n < 2 ^ 32 := Nat.or_lt_two_pow hx (Nat.pow_lt_pow_right (by decide) hn)
  refine bitsExt (b := 32) ⟨by omega, by rw [Int.toNat_natCast]; exact_mod_cast h2⟩ (putBit_bd (b := 32) h0 h1 hn) fun i hi => ?_
  rw [bitOf_put (b := 32) h0 h1 hn hi, Int.toNat_natCast, bitOf_nat, Nat.testBit_or, Nat.testBit_two_pow, bitOf_nat]
  by_cases hin : i = n
  · subst hin; simp
  · have : ¬ n = i := fun e => hin e.symm
    simp [hin, this]
theorem bits32I : (2 : Int) ^ IntKind.u32.bits = 4294967296 := by decide
theorem or_x {X dn : Int} (h0 : 0 ≤ X) (h1 : X < 4294967296) (hn : 0 ≤ dn ∧ dn < 32) : IntKind.u32.wrap ↑((X % 2 ^ IntKind.u32.bits).toNat ||| (IntKind.u32.wrap (2 ^ min (IntKind.u64.wrap dn).toNat IntKind.u32.bits) % 2 ^ IntKind.u32.bits).toNat) = putBit X dn.toNat true := by
  obtain ⟨n, rfl⟩ : ∃ n : Nat, dn = n := ⟨dn.toNat, by omega⟩
  have hn2 : n < 32 := by omega
  have e1 : IntKind.u64.wrap (n : Int) = n := wrap_u64 (by omega) (by omega)
  have e2 : min n IntKind.u32.bits = n := by
    have : IntKind.u32.bits = 32 := rfl
    omega
  have hp : (2 : Nat) ^ n < 2 ^ 32 := Nat.pow_lt_pow_right (by decide) hn2
  have e32 : (2 : Nat) ^ 32 = 4294967296 := rfl
  obtain ⟨q, hq⟩ : ∃ q : Nat, q = 2 ^ n := ⟨_, rfl⟩
  have e3 : (2 : Int) ^ n = (q : Int) := by rw [hq]; norm_cast
  have e4 : IntKind.u32.wrap (q : Int) = q := wrap_u32 (by omega) (by omega)
  have e5 : ((q : Int) % 4294967296).toNat = q := by omega
  have e6 : (X % 4294967296).toNat = X.toNat := by omega
  have hb := putBit_bd (b := 32) (j := n) (c := true) h0 h1 hn2
  rw [e1, Int.toNat_natCast, e2, e3, e4, bits32I, e5, e6, hq, or_put h0 h1 hn2]
  exact wrap_u32 hb.1 hb.2
end Go.Sx
namespace Go.Proofs.YtclbanhoiaieaaaGreatDoor
open Go Go.Sx
open List renaming all_eq_true → Y1, zipIdx → Y5
open Bool renaming exists_bool → Y3, forall_bool → Y4
attribute [local simp] Sx.vcsE1 Sx.vcsE2 Sx.vcsE3 Sx.vcsE4 Sx.vcsE5 Sx.vcsE6 Sx.vcsE7 Sx.vcsE8 Sx.vcsE9 Sx.vcsE10 Sx.vcsE11 Sx.vcsE12 Sx.vcsE13 Sx.vcsE14 Sx.vcsE15 Sx.vcsE16 Sx.vcsE17 Sx.vcsE18 Sx.vcsE19 Sx.get Sx.look Sx.put Sx.pureFn Sx.findOrd Sx.unF Sx.dstOk Sx.isFloatT Sx.endVC Sx.resFn Sx.packC Sx.newFn Sx.storeFn Sx.buildFn Sx.known Sx.aggT Sx.cellsC Sx.findCon Sx.allV Sx.partsV Sx.partsC Sx.fillL Sx.exitTo Sx.fAr Sx.eqFn Sx.eqFieldsFn Sx.eqElemsFn Sx.partFn Sx.sliceFn Sx.boundFn Sx.AppV Sx.CopyV Sx.MakeSliceV Sx.NewsV Sx.GrowV Sx.TextV Sx.bytesL Sx.notInt Sx.typeAt Sx.argAt Sx.den Go.undef Go.Value.cells Go.Value.oneCell' Sx.Con.pure Sx.Con.some Sx.Con.read Sx.Con.make Sx.Con.ext Sx.Con.rel Sx.Con.extS Sx.Con.draw Sx.Con.step Sx.C.one Sx.Draws.steps

theorem iReadWordC_c (k b : Nat) (m : M) (t : Str) (cx : Cx) (mem : List Blk) (w : World) (hpre : mem[k]? = some ⟨b, cellC m, 36⟩ ∧ TR (factF cx) ∧ MOk m ∧ List.length t ≤ 1100000) (hm : MemRel cx mem w) :
    Calls Tryz.prog 53 (([.p k b 0, .v (.string (txt t))] : List C).map den).toArray w fun e w' => ∃ cx' c mem', e = .returned (den c) ∧ MemRel cx' mem' w' ∧ Le cx cx' ∧ c = .v (.tuple #[]) ∧ ∃ m', mem' = mem.set k ⟨b, cellC m', 36⟩ ∧ WordTo m t m' := by
  refine step_of_vcs ⟨[cutC, iDevReadC, puC, withinC, memPutC, trimSC, hasSufC, cutSufC, piC, iRealReadC], [(25, [(0, false), (1, false), (2, false), (3, false), (8, false), (9, false), (4, false), (2, true), (5, false), (6, false), (7, false), (10, false), (11, false)])]⟩ hmx Tryz.func53 rfl (by kernel_rfl) (args := [.p k b 0, .v (.string (txt t))]) (by simp [Tryz.ntmps53]) hm (fun cx' c mem' => Le cx cx' ∧ c = .v (.tuple #[]) ∧ ∃ m', mem' = mem.set k ⟨b, cellC m', 36⟩ ∧ WordTo m t m') 400 ?_
  obtain ⟨hk, ht, hm, hl⟩ := hpre
  obtain ⟨hkl, hke⟩ := List.getElem?_eq_some_iff.1 hk
  obtain ⟨nm, vl, ok, hcut⟩ : ∃ nm vl ok, cutAt 61 t = (nm, vl, ok) := ⟨_, _, _, rfl⟩
  have hcl := cutAt_len 61 t
  rw [hcut] at hcl
  simp only at hcl
  have e61 : (⟨#[61]⟩ : ByteArray) = txt [61] := rfl
  have a1 : ∀ (d : Nat) (mem : List Blk) (K : C → Prop), ReadV d cut_S cx [.v (.string (txt t)), .v (.string (txt [61]))] mem K = K (.v (.tuple #[.string (txt nm), .string (txt vl), .bool ok])) := fun d mem K => by
    have := cut_S.eq (d := d) (cx := cx) (args := [.v (.string (txt t)), .v (.string (txt [61]))]) (mem := mem) (K := K) (t, [61]) rfl ⟨(ht.mono (sub_now _ _)).x, Nat.le_trans hl (by decide)⟩
    rw [this]
    show K (.v (.tuple #[.string (txt (Lib.cut t [61]).1), .string (txt (Lib.cut t [61]).2.1), .bool (Lib.cut t [61]).2.2])) = _
    rw [cut_one, hcut]
  have a2 := fun (d : Nat) (mem : List Blk) (K : C → Prop) => iDevReadC_rw (s := nm) (d := d) (cx := cx) (mem := mem) (K := K) ⟨ht.mono (sub_now _ _), by omega⟩
  have hnm : (cutAt 61 t).1 = nm := by rw [hcut]
  have hvl : (cutAt 61 t).2.1 = vl := by rw [hcut]
  have hle := Le.refl cx
  have hkn : ¬ k = mem.length := by omega
  have ha1 : k < mem.length + 1 := by omega
  have key : ∀ (y : Blk) (m' : M), WordTo m t m' → EndK (1 + 1) (fun cx' c mem' => Le cx cx' ∧ c = .v (.tuple #[]) ∧ ∃ m', mem' = mem.set k ⟨b, cellC m', 36⟩ ∧ WordTo m t m') cx (.v (.tuple #[])) (mem.set k ⟨b, cellC m', 36⟩ ++ [y]) := fun y m' hw => by
    refine EndK.plain mem.length ⟨Le.refl _, rfl, m', ?_, hw⟩
    rw [List.take_append_of_le_length (by simp), List.take_of_length_le (by simp)]
  have keyN : ∀ (y : Blk), WordTo m t m → EndK (1 + 1) (fun cx' c mem' => Le cx cx' ∧ c = .v (.tuple #[]) ∧ ∃ m', mem' = mem.set k ⟨b, cellC m', 36⟩ ∧ WordTo m t m') cx (.v (.tuple #[])) (mem ++ [y]) := fun y hw => by
    refine EndK.plain mem.length ⟨Le.refl _, rfl, m, ?_, hw⟩
    rw [List.take_append_of_le_length (by simp), List.take_of_length_le (by simp), ← hke, List.set_getElem_self]
  by_cases c1 : t = [114, 97, 110]
  · subst c1
    have hd : devRd nm = none := by rw [← hnm]; exact devRd_ran
    rw [hd] at a2
    simp (maxSteps := 4000000) -dsimp [-Y1, -Array.all_eq_true, -Y3, -Y4, and_assoc, Y5, Tryz.f53, cutC, iDevReadC, puC, withinC, memPutC, trimSC, hasSufC, cutSufC, piC, iRealReadC, Con.gen, a1, a2, devTup, txt_eta, hk, hkl, hke, hkn, ha1, List.getElem?_append, List.set_append, List.getElem?_set]
    intro b1
    exact key _ _ (word_ran hm)
  by_cases c2 : t = [102, 97, 117, 108, 116]
  · subst c2
    have hd : devRd nm = none := by rw [← hnm]; exact devRd_fault
    rw [hd] at a2
    simp (maxSteps := 4000000) -dsimp [-Y1, -Array.all_eq_true, -Y3, -Y4, and_assoc, Y5, Tryz.f53, cutC, iDevReadC, puC, withinC, memPutC, trimSC, hasSufC, cutSufC, piC, iRealReadC, Con.gen, a1, a2, devTup, txt_eta, hk, hkl, hke, hkn, ha1, List.getElem?_append, List.set_append, List.getElem?_set]
    intro b1
    exact key _ _ (word_fault hm)
  by_cases c3 : nm = [116, 105, 109, 101]
  · have hd : devRd nm = none := by rw [c3]; exact devRd_time
    rw [hd] at a2
    have hw := wrap_u32 (puV_bd 32 vl).1 (by have := (puV_bd 32 vl).2; rw [pow32] at this; omega)
    simp (maxSteps := 4000000) -dsimp [-Y1, -Array.all_eq_true, -Y3, -Y4, and_assoc, Y5, Tryz.f53, cutC, iDevReadC, puC, withinC, memPutC, trimSC, hasSufC, cutSufC, piC, iRealReadC, Con.gen, a1, a2, devTup, txt_eta, c1, c2, hk, hkl, hke, hkn, ha1, List.getElem?_append, List.set_append, List.getElem?_set]
    intro b1
    simp (maxSteps := 4000000) -dsimp [-Y1, -Array.all_eq_true, -Y3, -Y4, and_assoc, Y5, Tryz.f53, cutC, iDevReadC, puC, withinC, memPutC, trimSC, hasSufC, cutSufC, piC, iRealReadC, Con.gen, a1, a2, devTup, txt_eta, c1, c2, c3, hk, hkl, hke, hkn, ha1, List.getElem?_append, List.set_append, List.getElem?_set]
    refine ⟨(vl, 32), rfl, ⟨(ht.mono (sub_now _ _)).x, by simp only; omega, Or.inr rfl⟩, ?_⟩
    rintro v ⟨e, rfl⟩
    simp (maxSteps := 4000000) -dsimp [-Y1, -Array.all_eq_true, -Y3, -Y4, and_assoc, Y5, Tryz.f53, cutC, iDevReadC, puC, withinC, memPutC, trimSC, hasSufC, cutSufC, piC, iRealReadC, Con.gen, a1, a2, devTup, txt_eta, c1, c2, c3, hw, hk, hkl, hke, hkn, ha1, List.getElem?_append, List.set_append, List.getElem?_set]
    refine key _ _ (word_time hm (by rw [hnm, c3]) ⟨(puV_bd 32 vl).1, by have := (puV_bd 32 vl).2; rw [pow32] at this; omega⟩ fun x h0 h1 hv => ?_)
    rw [hvl] at hv
    rw [hv]
    exact puV_dec (by decide) h0 (by rw [pow32]; omega)
  cases hd : devRd nm with
  | none =>
    rw [hd] at a2
    have hno := word_dull (t := t) hm (by rw [hnm]; exact hd) c1 c2 (by rw [hnm]; exact c3)
    simp (maxSteps := 4000000) -dsimp [-Y1, -Array.all_eq_true, -Y3, -Y4, and_assoc, Y5, Tryz.f53, cutC, iDevReadC, puC, withinC, memPutC, trimSC, hasSufC, cutSufC, piC, iRealReadC, Con.gen, a1, a2, devTup, txt_eta, c1, c2, hk, hkl, hke, hkn, ha1, List.getElem?_append, List.set_append, List.getElem?_set]
    intro b1
    simp (maxSteps := 4000000) -dsimp [-Y1, -Array.all_eq_true, -Y3, -Y4, and_assoc, Y5, Tryz.f53, cutC, iDevReadC, puC, withinC, memPutC, trimSC, hasSufC, cutSufC, piC, iRealReadC, Con.gen, a1, a2, devTup, txt_eta, c1, c2, c3, hk, hkl, hke, hkn, ha1, List.getElem?_append, List.set_append, List.getElem?_set]
    exact keyN _ hno
  | some d =>
    obtain ⟨dk, dn, dp⟩ := d
    rw [hd] at a2
    have hd2 : devRd (cutAt 61 t).1 = some ⟨dk, dn, dp⟩ := by rw [hnm]; exact hd
    have hok := (devOk_iff _ _ _).1 (dev_ok hd)
    simp (maxSteps := 4000000) -dsimp [-Y1, -Array.all_eq_true, -Y3, -Y4, and_assoc, Y5, Tryz.f53, cutC, iDevReadC, puC, withinC, memPutC, trimSC, hasSufC, cutSufC, piC, iRealReadC, Con.gen, a1, a2, devTup, txt_eta, c1, c2, hk, hkl, hke, hkn, ha1, List.getElem?_append, List.set_append, List.getElem?_set]
    intro b1
    by_cases k1 : dk = 1
    · subst k1
      have hdn : 0 ≤ dn ∧ dn < 32 := by have : devSize 1 = 32 := rfl; omega
      have hx := or_x hm.X.1 hm.X.2 hdn
      simp (maxSteps := 4000000) -dsimp [-Y1, -Array.all_eq_true, -Y3, -Y4, and_assoc, Y5, Tryz.f53, cutC, iDevReadC, puC, withinC, memPutC, trimSC, hasSufC, cutSufC, piC, iRealReadC, Con.gen, a1, a2, devTup, txt_eta, c1, c2, c3, hk, hkl, hke, hkn, ha1, List.getElem?_append, List.set_append, List.getElem?_set, hx]
      exact ⟨(wrap_u64_bd _).1, key _ _ (word_x hm hd2)⟩
    by_cases k2 : 2 ≤ dk ∧ dk ≤ 5
    · obtain ⟨k21, k22⟩ := k2
      have k23 : ¬ dk < 2 := by omega
      have k24 : ¬ 5 < dk := by omega
      simp (maxSteps := 4000000) -dsimp [-Y1, -Array.all_eq_true, -Y3, -Y4, and_assoc, Y5, Tryz.f53, cutC, iDevReadC, puC, withinC, memPutC, trimSC, hasSufC, cutSufC, piC, iRealReadC, Con.gen, a1, a2, devTup, txt_eta, c1, c2, c3, hk, hkl, hke, hkn, ha1, List.getElem?_append, List.set_append, List.getElem?_set, k1, k21, k22, k23, k24, hm]
      exact key _ _ (word_bits hm hd2 ⟨k21, k22⟩)
    by_cases k7 : dk = 7
    · subst k7
      have hdn : 0 ≤ dn ∧ dn < 16 := by have : devSize 7 = 16 := rfl; omega
      have hn7 : dn.toNat < 16 := by omega
      have hb7 := puV_bd 16 (Lib.trimSuffix vl [33])
      rw [pow16] at hb7
      have hw := wrap_u16 hb7.1 (by omega)
      have hts : (Lib.trimSuffix vl [33]).length ≤ vl.length := by unfold Lib.trimSuffix; split <;> simp
      have b1' := fun (d : Nat) (mem : List Blk) (K : C → Prop) => trimS_rw (s := vl) (p := [33]) (d := d) (cx := cx) (mem := mem) (K := K) (by omega)
      have b2' := fun (d : Nat) (mem : List Blk) (K : C → Prop) => hasSuf_rw (s := vl) (p := [33]) (d := d) (cx := cx) (mem := mem) (K := K) (by omega)
      have s2 := fun m b x => set_TT m b x _ hn7
      have ob1 : 5 + dn.toNat * 2 ≤ 134 := by omega
      simp (maxSteps := 4000000) -dsimp [-Y1, -Array.all_eq_true, -Y3, -Y4, and_assoc, Y5, Tryz.f53, cutC, iDevReadC, puC, withinC, memPutC, trimSC, hasSufC, cutSufC, piC, iRealReadC, Con.gen, a1, a2, devTup, txt_eta, c1, c2, c3, hk, hkl, hke, hkn, ha1, List.getElem?_append, List.set_append, List.getElem?_set, b1', b2']
      refine ⟨(Lib.trimSuffix vl [33], 16), rfl, ⟨(ht.mono (sub_now _ _)).x, by simp only; omega, Or.inl rfl⟩, ?_⟩
      rintro v ⟨e, rfl⟩
      simp (maxSteps := 4000000) -dsimp [-Y1, -Array.all_eq_true, -Y3, -Y4, and_assoc, Y5, Tryz.f53, cutC, iDevReadC, puC, withinC, memPutC, trimSC, hasSufC, cutSufC, piC, iRealReadC, -Sx.splice_two, Con.gen, a1, a2, devTup, txt_eta, c1, c2, c3, hk, hkl, hke, hkn, ha1, List.getElem?_append, List.set_append, List.getElem?_set, b1', b2', hw, s2, ob1, hdn]
      refine key _ _ (word_tim hm hd2 ⟨hb7.1, by omega⟩ fun c' d' h0 h1 hv => ?_)
      rw [hvl] at hv
      rw [hv, (suf_mark c' d').1, (suf_mark c' d').2]
      exact ⟨rfl, puV_dec (by decide) h0 (by rw [pow16]; omega)⟩
    by_cases k8 : dk = 8
    · subst k8
      have hdn : 0 ≤ dn ∧ dn < 16 := by have : devSize 8 = 16 := rfl; omega
      have hn7 : dn.toNat < 16 := by omega
      obtain ⟨v1, hv1⟩ : ∃ v1, v1 = Lib.trimSuffix vl [43] := ⟨_, rfl⟩
      obtain ⟨v2, hv2⟩ : ∃ v2, v2 = Lib.trimSuffix v1 [33] := ⟨_, rfl⟩
      have hb7 := puV_bd 16 v2
      rw [pow16] at hb7
      have hw := wrap_u16 hb7.1 (by omega)
      have hts : v1.length ≤ vl.length := by rw [hv1]; unfold Lib.trimSuffix; split <;> simp
      have hts2 : v2.length ≤ v1.length := by rw [hv2]; unfold Lib.trimSuffix; split <;> simp
      have b1' : ∀ (d : Nat) (mem : List Blk) (K : C → Prop), ReadV d cutSuf_S cx [.v (.string (txt vl)), .v (.string (txt [43]))] mem K = K (.v (.tuple #[.string (txt v1), .bool (Lib.hasSuffix vl [43])])) := fun d mem K => by rw [hv1]; exact cutSuf_rw (by omega)
      have b2' : ∀ (d : Nat) (mem : List Blk) (K : C → Prop), ReadV d cutSuf_S cx [.v (.string (txt v1)), .v (.string (txt [33]))] mem K = K (.v (.tuple #[.string (txt v2), .bool (Lib.hasSuffix v1 [33])])) := fun d mem K => by rw [hv2]; exact cutSuf_rw (by omega)
      have s2 := fun m b c x => set_CC m b c x _ hn7
      have ob1 : 37 + dn.toNat * 3 ≤ 133 := by omega
      simp (maxSteps := 4000000) -dsimp [-Y1, -Array.all_eq_true, -Y3, -Y4, and_assoc, Y5, Tryz.f53, cutC, iDevReadC, puC, withinC, memPutC, trimSC, hasSufC, cutSufC, piC, iRealReadC, Con.gen, a1, a2, devTup, txt_eta, c1, c2, c3, hk, hkl, hke, hkn, ha1, List.getElem?_append, List.set_append, List.getElem?_set, b1', b2']
      refine ⟨(v2, 16), rfl, ⟨(ht.mono (sub_now _ _)).x, by simp only; omega, Or.inl rfl⟩, ?_⟩
      rintro v ⟨e, rfl⟩
      simp (maxSteps := 4000000) -dsimp [-Y1, -Array.all_eq_true, -Y3, -Y4, and_assoc, Y5, Tryz.f53, cutC, iDevReadC, puC, withinC, memPutC, trimSC, hasSufC, cutSufC, piC, iRealReadC, -Sx.splice_two, Con.gen, a1, a2, devTup, txt_eta, c1, c2, c3, hk, hkl, hke, hkn, ha1, List.getElem?_append, List.set_append, List.getElem?_set, b1', b2', hw, s2, ob1, hdn]
      refine key _ _ (word_cnt hm hd2 ⟨hb7.1, by omega⟩ fun c' d' l' h0 h1 hv => ?_)
      rw [hvl] at hv
      obtain ⟨m1, m2⟩ := suf_marks c' d' l'
      rw [hv2, hv1, hv, m1, m2, (suf_mark c' d').1, (suf_mark c' d').2]
      exact ⟨rfl, rfl, puV_dec (by decide) h0 (by rw [pow16]; omega)⟩
    by_cases k9 : dk = 9
    · subst k9
      have hdn : 0 ≤ dn ∧ dn < 32 := by have : devSize 9 = 32 := rfl; omega
      have hb9 := piV_bd vl
      have hw : IntKind.i16.wrap (piV 16 vl) = piV 16 vl := wrap_i16 (by omega) (by omega)
      have s2 := fun m x => set_D m x dn.toNat (by omega)
      have ob1 : 85 + dn.toNat ≤ 135 := by omega
      simp (maxSteps := 4000000) -dsimp [-Y1, -Array.all_eq_true, -Y3, -Y4, and_assoc, Y5, Tryz.f53, cutC, iDevReadC, puC, withinC, memPutC, trimSC, hasSufC, cutSufC, piC, iRealReadC, Con.gen, a1, a2, devTup, txt_eta, c1, c2, c3, hk, hkl, hke, hkn, ha1, List.getElem?_append, List.set_append, List.getElem?_set]
      refine ⟨vl, rfl, ⟨(ht.mono (sub_now _ _)).x, by omega⟩, ?_⟩
      rintro v ⟨e, rfl⟩
      simp (maxSteps := 4000000) -dsimp [-Y1, -Array.all_eq_true, -Y3, -Y4, and_assoc, Y5, Tryz.f53, cutC, iDevReadC, puC, withinC, memPutC, trimSC, hasSufC, cutSufC, piC, iRealReadC, Con.gen, a1, a2, devTup, txt_eta, c1, c2, c3, hk, hkl, hke, hkn, ha1, List.getElem?_append, List.set_append, List.getElem?_set, hw, s2, ob1, hdn]
      refine key _ _ (word_dat hm hd2 ⟨hb9.1, hb9.2⟩ fun v' h0 h1 hv => ?_)
      rw [hvl] at hv
      rw [hv]
      exact piV_dec h0 h1
    by_cases k10 : dk = 10
    · subst k10
      have hdn : 0 ≤ dn ∧ dn < 16 := by have : devSize 10 = 16 := rfl; omega
      have s2 := fun m x => set_R m x dn.toNat (by omega)
      have ob1 : 117 + dn.toNat ≤ 135 := by omega
      simp (maxSteps := 4000000) -dsimp [-Y1, -Array.all_eq_true, -Y3, -Y4, and_assoc, Y5, Tryz.f53, cutC, iDevReadC, puC, withinC, memPutC, trimSC, hasSufC, cutSufC, piC, iRealReadC, Con.gen, a1, a2, devTup, txt_eta, c1, c2, c3, hk, hkl, hke, hkn, ha1, List.getElem?_append, List.set_append, List.getElem?_set]
      refine ⟨vl, rfl, ⟨(ht.mono (sub_now _ _)).t.p, (ht.mono (sub_now _ _)).x, by omega⟩, ?_⟩
      rintro v ⟨r, bb, rfl, hr⟩
      simp (maxSteps := 4000000) -dsimp [-Y1, -Array.all_eq_true, -Y3, -Y4, and_assoc, Y5, Tryz.f53, cutC, iDevReadC, puC, withinC, memPutC, trimSC, hasSufC, cutSufC, piC, iRealReadC, Con.gen, a1, a2, devTup, txt_eta, c1, c2, c3, hk, hkl, hke, hkn, ha1, List.getElem?_append, List.set_append, List.getElem?_set, s2, ob1, hdn]
      refine key _ _ (word_real hm hd2 ?_)
      rw [hvl]
      exact hr
    have hno := word_other hm hd2 (by omega)
    have k3 : ¬ (2 ≤ dk ∧ dk ≤ 5) := k2
    by_cases k21 : 2 ≤ dk
    · have k22 : ¬ dk ≤ 5 := by omega
      have k23 : 5 < dk := by omega
      simp (maxSteps := 4000000) -dsimp [-Y1, -Array.all_eq_true, -Y3, -Y4, and_assoc, Y5, Tryz.f53, cutC, iDevReadC, puC, withinC, memPutC, trimSC, hasSufC, cutSufC, piC, iRealReadC, Con.gen, a1, a2, devTup, txt_eta, c1, c2, c3, hk, hkl, hke, hkn, ha1, List.getElem?_append, List.set_append, List.getElem?_set, k1, k21, k22, k23, k7, k8, k9, k10]
      exact keyN _ hno
    · have k22 : dk < 2 := by omega
      simp (maxSteps := 4000000) -dsimp [-Y1, -Array.all_eq_true, -Y3, -Y4, and_assoc, Y5, Tryz.f53, cutC, iDevReadC, puC, withinC, memPutC, trimSC, hasSufC, cutSufC, piC, iRealReadC, Con.gen, a1, a2, devTup, txt_eta, c1, c2, c3, hk, hkl, hke, hkn, ha1, List.getElem?_append, List.set_append, List.getElem?_set, k1, k21, k22, k7, k8, k9, k10]
      exact keyN _ hno
def iReadWordC_S : Gens Tryz.prog 53 where
  ι := ((Nat) × (Nat) × (M) × (Str))
  A := fun (i : ((Nat) × (Nat) × (M) × (Str))) => match i with | (k, b, m, t) => [.p k b 0, .v (.string (txt t))]
  pre := fun (i : ((Nat) × (Nat) × (M) × (Str))) (cx : Cx) (mem : List Blk) => match i with | (k, b, m, t) => mem[k]? = some ⟨b, cellC m, 36⟩ ∧ TR (factF cx) ∧ MOk m ∧ List.length t ≤ 1100000
  post := fun (i : ((Nat) × (Nat) × (M) × (Str))) (cx : Cx) (mem : List Blk) (cx' : Cx) (c : C) (mem' : List Blk) => match i with | (k, b, m, t) => Le cx cx' ∧ c = .v (.tuple #[]) ∧ ∃ m', mem' = mem.set k ⟨b, cellC m', 36⟩ ∧ WordTo m t m'
  enter := Tryz.call53
  h := fun i cx mem w hp hm => iReadWordC_c i.1 i.2.1 i.2.2.1 i.2.2.2 cx mem w hp hm
end Go.Proofs.YtclbanhoiaieaaaGreatDoor
