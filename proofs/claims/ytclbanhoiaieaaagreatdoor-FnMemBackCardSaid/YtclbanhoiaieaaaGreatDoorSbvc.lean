/-
  Contracts of Go's library: numbers written in decimals, texts joined.
-/
import Derived.Test.YtclbanhoiaieaaaGreatDoorSfvc
import Derived.Test.YtclbanhoiaieaaaGreatDoorTgvc
import Derived.Test.YtclbanhoiaieaaaGreatDoorFactsvc
import Derived.Lib.ItoaMem
set_option linter.unusedVariables false
set_option linter.unusedSimpArgs false
set_option maxRecDepth 100000
set_option maxHeartbeats 4000000
namespace Go.Sx
open Go

theorem below_same {W : World} : RowKit.Below W.heap.size W W := RowKit.Below.refl _ _
theorem bytesL_map : ∀ (l : Str), bytesL (l.map fun c => C.v (.int .u8 (c.toNat : Int))) = some l
  | [] => rfl
  | c :: l => by
    rw [List.map_cons, bytesL, bytesL_map l]
    simp
abbrev encU : UInt8 → Value := fun b => Value.int .u8 (b.toNat : Int)
def byteC (c : UInt8) : C := .v (.int .u8 (c.toNat : Int))
theorem bytesL_byteC (l : Str) : bytesL (l.map byteC) = some l := bytesL_map l
theorem putRow_set {w : World} {b off : Nat} {cells : List Value} {ty : TypeId} {d : Array UInt8} (hb : w.heap[b]? = some (.cells cells.toArray ty (0, 0))) (hd : off + d.size ≤ cells.length) :
    Go.Sort.putRow encU w b off d = w.setRow b (cells.take off ++ (d.toList.map encU) ++ cells.drop (off + d.size)).toArray := by
  unfold Go.Sort.putRow Go.Sort.mapBlock World.setRow
  congr 1
  apply Array.ext_getElem?
  intro k
  simp only [Array.getElem?_modify]
  by_cases hk : b = k
  · subst hk
    rw [if_pos rfl, if_pos rfl, hb]
    simp only [Option.map_some, Go.Sort.onCells]
    congr 2
    unfold Go.Sort.putCells
    apply Array.ext_getElem?
    intro j
    simp only [Array.getElem?_mapIdx, List.getElem?_toArray]
    by_cases h1 : j < off
    · rw [List.append_assoc, List.getElem?_append_left (by simp; omega), List.getElem?_take, if_pos h1]
      cases hj : cells[j]? with
      | none => rfl
      | some v => simp; omega
    · by_cases h2 : j < off + d.size
      · have hl : (cells.take off).length = off := by simp; omega
        have hcj : cells[j]? = some cells[j] := List.getElem?_eq_getElem (by omega)
        rw [List.append_assoc, List.getElem?_append_right (by omega), hl, List.getElem?_append_left (by simp; omega), hcj]
        simp only [Option.map_some]
        rw [if_pos ⟨by omega, h2⟩, List.getElem?_map, Array.getElem?_toList, Array.getElem?_eq_getElem (by omega), getElem!_pos d (j - off) (by omega)]
        rfl
      · have hl : (cells.take off ++ d.toList.map encU).length = off + d.size := by simp; omega
        rw [List.getElem?_append_right (by omega), hl, List.getElem?_drop, show off + d.size + (j - (off + d.size)) = j by omega]
        cases hj : cells[j]? with
        | none => rfl
        | some v => simp; omega
  · rw [if_neg hk, if_neg hk]
theorem holds_row {w : World} {b off n : Nat} {cells : List Value} {ty : TypeId} {d : Array UInt8} (hb : w.heap[b]? = some (.cells cells.toArray ty (0, 0))) (hd : (cells.drop off).take d.size = d.toList.map encU) :
    Go.Sort.Holds encU w b off d := by
  intro j hj
  have h1 : cells[off + j]? = some (encU d[j]!) := by
    have := congrArg (fun l => l[j]?) hd
    simp only [List.getElem?_take, List.getElem?_drop, List.getElem?_map, Array.getElem?_toList] at this
    rw [if_pos hj, Array.getElem?_eq_getElem hj] at this
    rw [this, getElem!_pos d j hj]; rfl
  refine ⟨?_, ?_⟩
  · unfold World.cell?
    simp only
    rw [hb]
    simpa using h1
  · unfold World.frozen?
    simp only
    rw [hb]
    simp
end Go.Sx
namespace Go.Proofs.YtclbanhoiaieaaaGreatDoor
open Go Go.Sx
attribute [local simp] Sx.vcsE1 Sx.vcsE2 Sx.vcsE3 Sx.vcsE4 Sx.vcsE5 Sx.vcsE6 Sx.vcsE7 Sx.vcsE8 Sx.vcsE9 Sx.vcsE10 Sx.vcsE11 Sx.vcsE12 Sx.vcsE13 Sx.vcsE14 Sx.vcsE15 Sx.vcsE16 Sx.vcsE17 Sx.vcsE18 Sx.vcsE19 Sx.get Sx.look Sx.put Sx.pureFn Sx.findOrd Sx.unF Sx.dstOk Sx.isFloatT Sx.endVC Sx.resFn Sx.packC Sx.newFn Sx.storeFn Sx.buildFn Sx.known Sx.aggT Sx.cellsC Sx.findCon Sx.allV Sx.partsV Sx.partsC Sx.fillL Sx.exitTo Sx.fAr Sx.eqFn Sx.eqFieldsFn Sx.eqElemsFn Sx.partFn Sx.sliceFn Sx.boundFn Sx.AppV Sx.CopyV Sx.MakeSliceV Sx.NewsV Sx.GrowV Sx.TextV Sx.bytesL Sx.notInt Sx.typeAt Sx.argAt Sx.den Go.undef Go.Value.cells Go.Value.oneCell' Sx.Con.pure Sx.Con.some Sx.Con.read Sx.Con.make Sx.Con.ext Sx.Con.rel Sx.Con.extS Sx.Con.draw Sx.Con.step Sx.C.one Sx.Draws.steps

def TP (F : Facts) : Prop := RdL F (some ⟨4, 0, none⟩) (Lib.pow10Tab.map (Value.int .u64))
theorem TP.mono {F G : Facts} (h : TP F) (hs : Sub F G) : TP G := RdL.mono h hs
def len64C : Con Tryz.prog := Con.pure 246 Tryz.call246 (fun (n : Nat) => [.int .u64 n]) (fun n => n < 18446744073709551616) (fun n => .int .i64 (Lib.bitLen n))
  fun n w hp => (Tryz.bits_Len64 n w (by omega) (by omega)).mono fun e w' ⟨h1, h2⟩ => ⟨h1, by rw [h2]; exact below_same⟩
def log10C : Con Tryz.prog := Con.pure 245 Tryz.call245 (fun (n : Nat) => [.int .i64 n]) (fun n => n ≤ 64) (fun n => .int .i64 (Lib.l10 n))
  fun n w hp => (Tryz.internal_strconv_log10Pow2 n hp w).mono fun e w' ⟨h1, h2⟩ => ⟨h1, by rw [h2]; exact below_same⟩
def bool2C : Con Tryz.prog := Con.pure 247 Tryz.call247 (fun (b : Bool) => [.bool b]) (fun _ => True) (fun b => .int .i64 (if b then 1 else 0))
  fun b w _ => (Tryz.internal_strconv_bool2_int b w).mono fun e w' ⟨h1, h2⟩ => ⟨h1, by rw [h2]; exact below_same⟩
def smallC : Con Tryz.prog := Con.pure 212 Tryz.call212 (fun (n : Nat) => [.int .i64 n]) (fun n => n < 100) (fun n => .string (txt (decL n)))
  fun n w hp => (Tryz.internal_strconv_small n hp w).mono fun e w' ⟨h1, h2⟩ => ⟨by rw [h1, itoa_dec]; rfl, by rw [h2]; exact below_same⟩
theorem numDigitsC_c (u : Nat) (w : World) (hpre : TP (factF ⟨w, [], w, []⟩) ∧ (1 ≤ u ∧ u < 18446744073709551616)) : Calls Tryz.prog 213 #[.int .u64 u] w fun e w' => e = .returned (.int .i64 (decL u).length) ∧ RowKit.Below w.heap.size w w' := by
  refine (plain_of_vcs ⟨[len64C, log10C, bool2C], []⟩ hmx Tryz.func213 rfl (by kernel_rfl) (args := [.int .u64 u]) (by simp [Tryz.ntmps213]) w (· = .int .i64 (decL u).length) 400 ?_).mono fun e w' ⟨v, h1, h2, h3⟩ => ⟨h2 ▸ h1, h3⟩
  obtain ⟨ht, h1, h2⟩ := hpre
  obtain ⟨hnd, h19⟩ := Lib.numDigits_eq u h1 h2
  have hL : Lib.bitLen u ≤ 64 := Lib.bitLen_le u 64 (Nat.le_refl _) h2
  have hlen : (decL u).length = Lib.nDigits u := by rw [← itoa_dec, Lib.decDigits_length]
  rw [hlen]
  have hq : (Lib.pow10Tab.map (Value.int .u64))[Lib.l10 (Lib.bitLen u)]? = some (.int .u64 ((10 ^ Lib.l10 (Lib.bitLen u) : Nat) : Int)) := by
    rw [List.getElem?_map]
    have h20 : Lib.l10 (Lib.bitLen u) < Lib.pow10Tab.length := by rw [Lib.pow10Tab_length]; omega
    have := Lib.pow10Tab_at (Lib.l10 (Lib.bitLen u)) (by omega)
    rw [List.getD_eq_getElem?_getD, List.getElem?_eq_getElem h20] at this
    rw [List.getElem?_eq_getElem h20]
    simpa using this
  have l0 := fun (d : Nat) (mem : List Blk) (K : Value → Prop) => RdL.ld (P := Tryz.prog) (d := d) (K := K) (RdL.mono ht (sub_now ⟨w, [], w, []⟩ mem)) (t := 23) (by kernel_rfl) hq
  simp only [padd_some, Nat.zero_add] at l0
  have h20 : ((Lib.l10 (Lib.bitLen u) : Nat) : Int) < 20 := by omega
  simp (maxSteps := 4000000) -dsimp [-List.all_eq_true, -Array.all_eq_true, -Bool.exists_bool, -Bool.forall_bool, and_assoc, List.zipIdx, Tryz.f213, len64C, log10C, bool2C, h2, hL, l0]
  refine ⟨u, rfl, h2, _, rfl, hL, h20, ?_⟩
  rw [l0]
  generalize hp : (10 ^ Lib.l10 (Lib.bitLen u) : Nat) = T at hnd
  generalize Lib.l10 (Lib.bitLen u) = q at hnd h19
  by_cases hT : T ≤ u
  · have hT2 : (T : Int) ≤ u := by omega
    rw [if_pos hT] at hnd
    have hw : IntKind.i64.wrap ((q : Int) + 1) = ((q + 1 : Nat) : Int) := by rw [wrap_i64 (by omega) (by omega)]; omega
    simp (maxSteps := 4000000) -dsimp [-List.all_eq_true, -Array.all_eq_true, -Bool.exists_bool, -Bool.forall_bool, and_assoc, List.zipIdx, Tryz.f213, len64C, log10C, bool2C, hT2, hw, hnd]
  · have hT2 : ¬ (T : Int) ≤ u := by omega
    rw [if_neg hT, Nat.add_zero] at hnd
    have hw : IntKind.i64.wrap (q : Int) = (q : Int) := wrap_i64 (by omega) (by omega)
    rw [← hnd]
    simp (maxSteps := 4000000) -dsimp [-List.all_eq_true, -Array.all_eq_true, -Bool.exists_bool, -Bool.forall_bool, and_assoc, List.zipIdx, Tryz.f213, len64C, log10C, bool2C, hT2, hw]
def numDigitsC_S : Reads Tryz.prog 213 where
  ι := ((Nat))
  A := fun (u : ((Nat))) => [.int .u64 u]
  pre := fun (u : ((Nat))) (F : Facts) => TP F ∧ (1 ≤ u ∧ u < 18446744073709551616)
  res := fun (u : ((Nat))) => .int .i64 (decL u).length
  mono := by
    intro i F G hs h
    first | exact h | exact h.mono hs | exact ⟨h.1.mono hs, h.2⟩ | exact ⟨h.1.mono hs, h.2.1.mono hs, h.2.2⟩ | exact ⟨h.1.mono hs, h.2.1.mono hs⟩ | exact ⟨h.1.mono hs, h.2.1.mono hs, h.2.2.1.mono hs, h.2.2.2⟩
  uniq := by
    rintro u u' F hA h h'
    simp at hA
    (try simp only [Int.natCast_inj] at hA)
    simp_all
  enter := Tryz.call213
  h := fun u w hp => numDigitsC_c u w (by rw [factF_init]; exact hp)
def numDigitsC : Con Tryz.prog := Con.read numDigitsC_S
theorem numDigitsC_rw {u : Nat} {d : Nat} {cx : Cx} {mem : List Blk} {K : C → Prop} (hpre : TP (nowF cx mem) ∧ (1 ≤ u ∧ u < 18446744073709551616)) : ReadV d numDigitsC_S cx [.v (.int .u64 u)] mem K = K (.v (.int .i64 (decL u).length)) := numDigitsC_S.eq u rfl hpre
def fmt10_S : Gens Tryz.prog 214 where
  ι := Nat × Nat × Nat × Nat × List C × TypeId × Nat
  A i := [.s i.1 i.2.1 i.2.2.1 (decL i.2.2.2.2.2.2).length i.2.2.2.1, .v (.int .u64 (i.2.2.2.2.2.2 : Nat))]
  pre i cx mem := mem[i.1]? = some ⟨i.2.1, i.2.2.2.2.1, i.2.2.2.2.2.1⟩ ∧ i.2.2.2.2.2.2 < 18446744073709551616 ∧ i.2.2.1 + (decL i.2.2.2.2.2.2).length ≤ i.2.2.2.2.1.length ∧ (∃ l : Str, l.length = (decL i.2.2.2.2.2.2).length ∧ (i.2.2.2.2.1.drop i.2.2.1).take (decL i.2.2.2.2.2.2).length = l.map byteC)
  post i cx mem cx' c mem' := cx' = cx ∧ c = .v (.tuple #[]) ∧ mem' = mem.set i.1 ⟨i.2.1, i.2.2.2.2.1.take i.2.2.1 ++ (decL i.2.2.2.2.2.2).map byteC ++ i.2.2.2.2.1.drop (i.2.2.1 + (decL i.2.2.2.2.2.2).length), i.2.2.2.2.2.1⟩
  enter := Tryz.call214
  h := fun (k, b, off, cap, cells, ty, u) cx mem w hp hm => by
    obtain ⟨hk, hu, hl, l, hll, hd⟩ := hp
    simp only at hk hu hl hll hd ⊢
    have hb := hm.blk k _ hk
    have hbl : w.heap[b]? = some (.cells (cells.map den).toArray ty (0, 0)) := hb
    have hnd : (decL u).length = Lib.nDigits u := by rw [← itoa_dec, Lib.decDigits_length]
    have hsz : l.toArray.size = Lib.nDigits u := by rw [← hnd, ← hll]; rfl
    have henc : (l.map byteC).map den = l.toArray.toList.map encU := by rw [List.map_map]; rfl
    have hH : Go.Sort.Holds encU w b off l.toArray := holds_row (n := l.toArray.size) hbl (by
      rw [hsz, ← hnd, ← List.map_drop, ← List.map_take, hd, henc])
    have hlt := Lib.lt_pow_nDigits u
    have hn20 : (decL u).length ≤ 20 := decL_len u 19 (by omega)
    have key := Tryz.internal_strconv_formatBase10 b off cap u l.toArray w hH (by rw [hsz]; exact hlt) hu (by rw [hsz, ← hnd]; omega)
    rw [hsz, ← hnd] at key
    refine key.mono ?_
    rintro e w' ⟨rfl, n, v', dk, rfl, hF⟩
    have hdk : dk.toList = decL u := by
      have hs : dk.size = (decL u).length := hF.size
      refine List.ext_getElem (by simpa using hs) fun j h1 h2 => ?_
      have h3 : j < (Lib.decDigits u).length := by rw [itoa_dec]; exact h2
      have := Lib.row_is_numeral (u := u) (v' := v') (dk := dk) (by rw [← hnd]; exact hF) j h3
      have e1 : (Lib.decDigits u)[j] = (decL u)[j] := by simp only [itoa_dec]
      rw [← e1, this, getElem!_pos dk j (by omega)]
      simp
    refine ⟨cx, .v (.tuple #[]), mem.set k ⟨b, cells.take off ++ (decL u).map byteC ++ cells.drop (off + (decL u).length), ty⟩, rfl, memRel_drew (n := _) (?_ : MemRel cx (mem.set k ⟨b, cells.take off ++ (decL u).map byteC ++ cells.drop (off + (decL u).length), ty⟩) (Go.Sort.putRow encU w b off dk)) , rfl, rfl, rfl⟩
    rw [putRow_set hbl (by rw [List.length_map, hF.size]; exact hl), hdk, hF.size]
    have hset := memRel_set hm hk (cells.take off ++ (decL u).map byteC ++ cells.drop (off + (decL u).length))
    have e2 : (cells.take off ++ (decL u).map byteC ++ cells.drop (off + (decL u).length)).map den = (cells.map den).take off ++ (decL u).map encU ++ (cells.map den).drop (off + (decL u).length) := by
      simp only [List.map_append, List.map_take, List.map_drop, List.map_map]; rfl
    rw [e2] at hset
    exact hset
theorem fmt10_at {k b off cap : Nat} {cells : List C} {ty : TypeId} {u d : Nat} {cx : Cx} {mem : List Blk} {K : Cx → C → List Blk → Prop} (hk : mem[k]? = some ⟨b, cells, ty⟩) (hu : u < 18446744073709551616) (hl : off + (decL u).length ≤ cells.length)
    (hz : ∃ l : Str, l.length = (decL u).length ∧ (cells.drop off).take (decL u).length = l.map byteC) (h : K cx (.v (.tuple #[])) (mem.set k ⟨b, cells.take off ++ (decL u).map byteC ++ cells.drop (off + (decL u).length), ty⟩)) :
    GenV d fmt10_S cx [.s k b off (decL u).length cap, .v (.int .u64 (u : Int))] mem K := ⟨(k, b, off, cap, cells, ty, u), rfl, ⟨hk, hu, hl, hz⟩, by rintro _ _ _ ⟨rfl, rfl, rfl⟩; exact h⟩
theorem zeros_row {n o m : Nat} (h : o + m ≤ n) : ∃ l : Str, l.length = m ∧ ((List.replicate n (byteC 0)).drop o).take m = l.map byteC :=
  ⟨List.replicate m 0, by simp, by rw [List.drop_replicate, List.take_replicate, List.map_replicate]; congr 1; omega⟩
def fmt10C : Con Tryz.prog := Con.gen fmt10_S
theorem formatIntC_c (n : Int) (w : World) (hpre : TP (factF ⟨w, [], w, []⟩) ∧ (-9223372036854775808 ≤ n ∧ n ≤ 9223372036854775807)) : Calls Tryz.prog 211 #[.int .i64 n, .int .i64 10] w fun e w' => e = .returned (.string (txt (decZ n))) ∧ RowKit.Below w.heap.size w w' := by
  refine (plain_of_vcs ⟨[smallC, numDigitsC, fmt10C], []⟩ hmx Tryz.func211 rfl (by kernel_rfl) (args := [.int .i64 n, .int .i64 10]) (by simp [Tryz.ntmps211]) w (· = .string (txt (decZ n))) 400 ?_).mono fun e w' ⟨v, h1, h2, h3⟩ => ⟨h2 ▸ h1, h3⟩
  obtain ⟨ht, h1, h2⟩ := hpre
  by_cases hs : 0 ≤ n ∧ n < 100
  · obtain ⟨k, rfl⟩ := Int.eq_ofNat_of_zero_le hs.1
    have e : decZ (k : Int) = decL k := by unfold decZ; rw [if_neg (by omega)]; rfl
    rw [e]
    simp (maxSteps := 4000000) -dsimp [-List.all_eq_true, -Array.all_eq_true, -Bool.exists_bool, -Bool.forall_bool, and_assoc, List.zipIdx, Tryz.f211, smallC, numDigitsC, fmt10C, hs]
    exact ⟨k, rfl, by omega, rfl⟩
  · by_cases hn : n < 0
    · obtain ⟨u, hu⟩ : ∃ u : Nat, n = -(u : Int) := ⟨n.natAbs, by omega⟩
      subst hu
      have e : decZ (-(u : Int)) = 45 :: decL u := by unfold decZ; rw [if_pos hn, show (-(u : Int)).natAbs = u by omega]
      rw [e]
      have hu1 : 1 ≤ u ∧ u < 18446744073709551616 := by omega
      have w1 : IntKind.u64.wrap (-IntKind.u64.wrap (-(u : Int))) = u := by simp only [IntKind.wrap, IntKind.signed, IntKind.bits]; simp; omega
      have hlen : (decL u).length ≤ 20 := decL_len u 19 (by omega)
      have hl1 := decL_len1 u
      have w2 : IntKind.i64.wrap (1 + ((decL u).length : Int)) = 1 + ((decL u).length : Int) := wrap_i64 (by omega) (by omega)
      have a0 : ¬ (0 : Int) ≤ -(u : Int) := by omega
      have t0 := fun (d : Nat) (mem : List Blk) (K : C → Prop) => numDigitsC_rw (u := u) (d := d) (cx := ⟨w, [], w, []⟩) (mem := mem) (K := K) ⟨ht.mono (sub_now _ _), hu1⟩
      have u0 : ¬ u = 0 := by omega
      have u1 : 0 < u := by omega
      have e2 : (1 + ((decL u).length : Int)).toNat - 1 = (decL u).length := by omega
      have b1 : 1 + ((decL u).length : Int) ≤ 24 := by omega
      have b0 : (1 : Int) ≤ 1 + ((decL u).length : Int) := by omega
      simp (maxSteps := 4000000) -dsimp [-List.all_eq_true, -Array.all_eq_true, -Bool.exists_bool, -Bool.forall_bool, and_assoc, List.zipIdx, Tryz.f211, smallC, numDigitsC, fmt10C, u0, u1, w1, w2, e2, b0, b1, Con.gen, t0]
      intro b
      refine fmt10_at (cells := List.replicate 24 (byteC 0)) rfl hu1.2 (by simp; omega) (zeros_row (by omega)) ?_
      simp (maxSteps := 4000000) -dsimp [-List.all_eq_true, -Array.all_eq_true, -Bool.exists_bool, -Bool.forall_bool, and_assoc, List.zipIdx, Tryz.f211, smallC, numDigitsC, fmt10C, u0, u1, w1, w2, e2, b0, b1, Con.gen, t0]
      have e3 : (1 + ((decL u).length : Int)).toNat = (decL u).length + 1 := by omega
      rw [e3, List.take_succ_cons, List.take_left' (by simp), bytesL, bytesL_byteC]
      refine ⟨by omega, ?_⟩
      simp only [Option.map_some]
      exact ⟨by omega, rfl⟩
    · obtain ⟨u, rfl⟩ := Int.eq_ofNat_of_zero_le (show 0 ≤ n by omega)
      have e : decZ (u : Int) = decL u := by unfold decZ; rw [if_neg (by omega)]; rfl
      rw [e]
      have hu1 : 1 ≤ u ∧ u < 18446744073709551616 := by omega
      have hlen : (decL u).length ≤ 20 := decL_len u 19 (by omega)
      have hl1 := decL_len1 u
      have w1 : IntKind.u64.wrap (u : Int) = u := wrap_u64 (by omega) (by omega)
      have w2 : IntKind.i64.wrap (1 + ((decL u).length : Int)) = 1 + ((decL u).length : Int) := wrap_i64 (by omega) (by omega)
      have a0 : (0 : Int) ≤ (u : Int) := by omega
      have a1 : ¬ (u : Int) < 100 := by omega
      have t0 := fun (d : Nat) (mem : List Blk) (K : C → Prop) => numDigitsC_rw (u := u) (d := d) (cx := ⟨w, [], w, []⟩) (mem := mem) (K := K) ⟨ht.mono (sub_now _ _), hu1⟩
      have e2 : (1 + ((decL u).length : Int)).toNat - 1 = (decL u).length := by omega
      have b1 : 1 + ((decL u).length : Int) ≤ 24 := by omega
      have b0 : (1 : Int) ≤ 1 + ((decL u).length : Int) := by omega
      simp (maxSteps := 4000000) -dsimp [-List.all_eq_true, -Array.all_eq_true, -Bool.exists_bool, -Bool.forall_bool, and_assoc, List.zipIdx, Tryz.f211, smallC, numDigitsC, fmt10C, a0, a1, hn, w1, w2, e2, b0, b1, Con.gen, t0]
      intro b
      refine fmt10_at (cells := List.replicate 24 (byteC 0)) rfl hu1.2 (by simp; omega) (zeros_row (by omega)) ?_
      simp (maxSteps := 4000000) -dsimp [-List.all_eq_true, -Array.all_eq_true, -Bool.exists_bool, -Bool.forall_bool, and_assoc, List.zipIdx, Tryz.f211, smallC, numDigitsC, fmt10C, a0, a1, hn, w1, w2, e2, b0, b1, Con.gen, t0]
      rw [bytesL_byteC]
      exact ⟨by omega, rfl⟩
def formatIntC_S : Reads Tryz.prog 211 where
  ι := ((Int))
  A := fun (n : ((Int))) => [.int .i64 n, .int .i64 10]
  pre := fun (n : ((Int))) (F : Facts) => TP F ∧ (-9223372036854775808 ≤ n ∧ n ≤ 9223372036854775807)
  res := fun (n : ((Int))) => .string (txt (decZ n))
  mono := by
    intro i F G hs h
    first | exact h | exact h.mono hs | exact ⟨h.1.mono hs, h.2⟩ | exact ⟨h.1.mono hs, h.2.1.mono hs, h.2.2⟩ | exact ⟨h.1.mono hs, h.2.1.mono hs⟩ | exact ⟨h.1.mono hs, h.2.1.mono hs, h.2.2.1.mono hs, h.2.2.2⟩
  uniq := by
    rintro n n' F hA h h'
    simp at hA
    (try simp only [Int.natCast_inj] at hA)
    simp_all
  enter := Tryz.call211
  h := fun n w hp => formatIntC_c n w (by rw [factF_init]; exact hp)
def formatIntC : Con Tryz.prog := Con.read formatIntC_S
theorem formatIntC_rw {n : Int} {d : Nat} {cx : Cx} {mem : List Blk} {K : C → Prop} (hpre : TP (nowF cx mem) ∧ (-9223372036854775808 ≤ n ∧ n ≤ 9223372036854775807)) : ReadV d formatIntC_S cx [.v (.int .i64 n), .v (.int .i64 10)] mem K = K (.v (.string (txt (decZ n)))) := formatIntC_S.eq n rfl hpre
theorem itoaI_C_c (n : Int) (w : World) (hpre : TP (factF ⟨w, [], w, []⟩) ∧ (-9223372036854775808 ≤ n ∧ n ≤ 9223372036854775807)) : Calls Tryz.prog 152 #[.int .i64 n] w fun e w' => e = .returned (.string (txt (decZ n))) ∧ RowKit.Below w.heap.size w w' := by
  refine (plain_of_vcs ⟨[formatIntC], []⟩ hmx Tryz.func152 rfl (by kernel_rfl) (args := [.int .i64 n]) (by simp [Tryz.ntmps152]) w (· = .string (txt (decZ n))) 400 ?_).mono fun e w' ⟨v, h1, h2, h3⟩ => ⟨h2 ▸ h1, h3⟩
  have w1 : IntKind.i64.wrap n = n := wrap_i64 hpre.2.1 hpre.2.2
  have t0 := fun (d : Nat) (mem : List Blk) (K : C → Prop) => formatIntC_rw (n := n) (d := d) (cx := ⟨w, [], w, []⟩) (mem := mem) (K := K) ⟨hpre.1.mono (sub_now _ _), hpre.2⟩
  simp (maxSteps := 4000000) -dsimp [-List.all_eq_true, -Array.all_eq_true, -Bool.exists_bool, -Bool.forall_bool, and_assoc, List.zipIdx, Tryz.f152, formatIntC, w1, t0]
def itoaI_C_S : Reads Tryz.prog 152 where
  ι := ((Int))
  A := fun (n : ((Int))) => [.int .i64 n]
  pre := fun (n : ((Int))) (F : Facts) => TP F ∧ (-9223372036854775808 ≤ n ∧ n ≤ 9223372036854775807)
  res := fun (n : ((Int))) => .string (txt (decZ n))
  mono := by
    intro i F G hs h
    first | exact h | exact h.mono hs | exact ⟨h.1.mono hs, h.2⟩ | exact ⟨h.1.mono hs, h.2.1.mono hs, h.2.2⟩ | exact ⟨h.1.mono hs, h.2.1.mono hs⟩ | exact ⟨h.1.mono hs, h.2.1.mono hs, h.2.2.1.mono hs, h.2.2.2⟩
  uniq := by
    rintro n n' F hA h h'
    simp at hA
    (try simp only [Int.natCast_inj] at hA)
    simp_all
  enter := Tryz.call152
  h := fun n w hp => itoaI_C_c n w (by rw [factF_init]; exact hp)
def itoaI_C : Con Tryz.prog := Con.read itoaI_C_S
theorem itoaI_C_rw {n : Int} {d : Nat} {cx : Cx} {mem : List Blk} {K : C → Prop} (hpre : TP (nowF cx mem) ∧ (-9223372036854775808 ≤ n ∧ n ≤ 9223372036854775807)) : ReadV d itoaI_C_S cx [.v (.int .i64 n)] mem K = K (.v (.string (txt (decZ n)))) := itoaI_C_S.eq n rfl hpre
theorem itoaC_c (n : Int) (w : World) (hpre : TP (factF ⟨w, [], w, []⟩) ∧ (-9223372036854775808 ≤ n ∧ n ≤ 9223372036854775807)) : Calls Tryz.prog 63 #[.int .i64 n] w fun e w' => e = .returned (.string (txt (decZ n))) ∧ RowKit.Below w.heap.size w w' := by
  refine (plain_of_vcs ⟨[itoaI_C], []⟩ hmx Tryz.func63 rfl (by kernel_rfl) (args := [.int .i64 n]) (by simp [Tryz.ntmps63]) w (· = .string (txt (decZ n))) 400 ?_).mono fun e w' ⟨v, h1, h2, h3⟩ => ⟨h2 ▸ h1, h3⟩
  have t0 := fun (d : Nat) (mem : List Blk) (K : C → Prop) => itoaI_C_rw (n := n) (d := d) (cx := ⟨w, [], w, []⟩) (mem := mem) (K := K) ⟨hpre.1.mono (sub_now _ _), hpre.2⟩
  simp (maxSteps := 4000000) -dsimp [-List.all_eq_true, -Array.all_eq_true, -Bool.exists_bool, -Bool.forall_bool, and_assoc, List.zipIdx, Tryz.f63, itoaI_C, t0]
def itoaC_S : Reads Tryz.prog 63 where
  ι := ((Int))
  A := fun (n : ((Int))) => [.int .i64 n]
  pre := fun (n : ((Int))) (F : Facts) => TP F ∧ (-9223372036854775808 ≤ n ∧ n ≤ 9223372036854775807)
  res := fun (n : ((Int))) => .string (txt (decZ n))
  mono := by
    intro i F G hs h
    first | exact h | exact h.mono hs | exact ⟨h.1.mono hs, h.2⟩ | exact ⟨h.1.mono hs, h.2.1.mono hs, h.2.2⟩ | exact ⟨h.1.mono hs, h.2.1.mono hs⟩ | exact ⟨h.1.mono hs, h.2.1.mono hs, h.2.2.1.mono hs, h.2.2.2⟩
  uniq := by
    rintro n n' F hA h h'
    simp at hA
    (try simp only [Int.natCast_inj] at hA)
    simp_all
  enter := Tryz.call63
  h := fun n w hp => itoaC_c n w (by rw [factF_init]; exact hp)
def itoaC : Con Tryz.prog := Con.read itoaC_S
theorem itoaC_rw {n : Int} {d : Nat} {cx : Cx} {mem : List Blk} {K : C → Prop} (hpre : TP (nowF cx mem) ∧ (-9223372036854775808 ≤ n ∧ n ≤ 9223372036854775807)) : ReadV d itoaC_S cx [.v (.int .i64 n)] mem K = K (.v (.string (txt (decZ n)))) := itoaC_S.eq n rfl hpre
theorem fmtUintI_C_c (u : Nat) (w : World) (hpre : TP (factF ⟨w, [], w, []⟩) ∧ u < 18446744073709551616) : Calls Tryz.prog 154 #[.int .u64 u, .int .i64 10] w fun e w' => e = .returned (.string (txt (decL u))) ∧ RowKit.Below w.heap.size w w' := by
  refine (plain_of_vcs ⟨[smallC, numDigitsC, fmt10C], []⟩ hmx Tryz.func154 rfl (by kernel_rfl) (args := [.int .u64 u, .int .i64 10]) (by simp [Tryz.ntmps154]) w (· = .string (txt (decL u))) 400 ?_).mono fun e w' ⟨v, h1, h2, h3⟩ => ⟨h2 ▸ h1, h3⟩
  obtain ⟨ht, hu⟩ := hpre
  by_cases hs : u < 100
  · have hs2 : (u : Int) < 100 := by omega
    have w1 : IntKind.i64.wrap (u : Int) = u := wrap_i64 (by omega) (by omega)
    simp (maxSteps := 4000000) -dsimp [-List.all_eq_true, -Array.all_eq_true, -Bool.exists_bool, -Bool.forall_bool, and_assoc, List.zipIdx, Tryz.f154, smallC, numDigitsC, fmt10C, hs, hs2, w1]
    exact ⟨u, rfl, hs, rfl⟩
  · have hu1 : 1 ≤ u ∧ u < 18446744073709551616 := by omega
    have hlen : (decL u).length ≤ 20 := decL_len u 19 (by omega)
    have hl1 := decL_len1 u
    have a1 : ¬ (u : Int) < 100 := by omega
    have b1 : ((decL u).length : Int) ≤ 24 := by omega
    have t0 := fun (d : Nat) (mem : List Blk) (K : C → Prop) => numDigitsC_rw (u := u) (d := d) (cx := ⟨w, [], w, []⟩) (mem := mem) (K := K) ⟨ht.mono (sub_now _ _), hu1⟩
    simp (maxSteps := 4000000) -dsimp [-List.all_eq_true, -Array.all_eq_true, -Bool.exists_bool, -Bool.forall_bool, and_assoc, List.zipIdx, Tryz.f154, smallC, numDigitsC, fmt10C, hs, a1, b1, Con.gen, t0]
    intro b
    refine fmt10_at (cells := List.replicate 24 (byteC 0)) rfl hu1.2 (by simp; omega) (zeros_row (by omega)) ?_
    simp (maxSteps := 4000000) -dsimp [-List.all_eq_true, -Array.all_eq_true, -Bool.exists_bool, -Bool.forall_bool, and_assoc, List.zipIdx, Tryz.f154, smallC, numDigitsC, fmt10C, hs, a1, b1, Con.gen, t0]
    rw [bytesL_byteC]
    rfl
def fmtUintI_C_S : Reads Tryz.prog 154 where
  ι := ((Nat))
  A := fun (u : ((Nat))) => [.int .u64 u, .int .i64 10]
  pre := fun (u : ((Nat))) (F : Facts) => TP F ∧ u < 18446744073709551616
  res := fun (u : ((Nat))) => .string (txt (decL u))
  mono := by
    intro i F G hs h
    first | exact h | exact h.mono hs | exact ⟨h.1.mono hs, h.2⟩ | exact ⟨h.1.mono hs, h.2.1.mono hs, h.2.2⟩ | exact ⟨h.1.mono hs, h.2.1.mono hs⟩ | exact ⟨h.1.mono hs, h.2.1.mono hs, h.2.2.1.mono hs, h.2.2.2⟩
  uniq := by
    rintro u u' F hA h h'
    simp at hA
    (try simp only [Int.natCast_inj] at hA)
    simp_all
  enter := Tryz.call154
  h := fun u w hp => fmtUintI_C_c u w (by rw [factF_init]; exact hp)
def fmtUintI_C : Con Tryz.prog := Con.read fmtUintI_C_S
theorem fmtUintI_C_rw {u : Nat} {d : Nat} {cx : Cx} {mem : List Blk} {K : C → Prop} (hpre : TP (nowF cx mem) ∧ u < 18446744073709551616) : ReadV d fmtUintI_C_S cx [.v (.int .u64 u), .v (.int .i64 10)] mem K = K (.v (.string (txt (decL u)))) := fmtUintI_C_S.eq u rfl hpre
theorem fmtUintC_c (u : Nat) (w : World) (hpre : TP (factF ⟨w, [], w, []⟩) ∧ u < 18446744073709551616) : Calls Tryz.prog 67 #[.int .u64 u, .int .i64 10] w fun e w' => e = .returned (.string (txt (decL u))) ∧ RowKit.Below w.heap.size w w' := by
  refine (plain_of_vcs ⟨[fmtUintI_C], []⟩ hmx Tryz.func67 rfl (by kernel_rfl) (args := [.int .u64 u, .int .i64 10]) (by simp [Tryz.ntmps67]) w (· = .string (txt (decL u))) 400 ?_).mono fun e w' ⟨v, h1, h2, h3⟩ => ⟨h2 ▸ h1, h3⟩
  have t0 := fun (d : Nat) (mem : List Blk) (K : C → Prop) => fmtUintI_C_rw (u := u) (d := d) (cx := ⟨w, [], w, []⟩) (mem := mem) (K := K) ⟨hpre.1.mono (sub_now _ _), hpre.2⟩
  simp (maxSteps := 4000000) -dsimp [-List.all_eq_true, -Array.all_eq_true, -Bool.exists_bool, -Bool.forall_bool, and_assoc, List.zipIdx, Tryz.f67, fmtUintI_C, t0]
def fmtUintC_S : Reads Tryz.prog 67 where
  ι := ((Nat))
  A := fun (u : ((Nat))) => [.int .u64 u, .int .i64 10]
  pre := fun (u : ((Nat))) (F : Facts) => TP F ∧ u < 18446744073709551616
  res := fun (u : ((Nat))) => .string (txt (decL u))
  mono := by
    intro i F G hs h
    first | exact h | exact h.mono hs | exact ⟨h.1.mono hs, h.2⟩ | exact ⟨h.1.mono hs, h.2.1.mono hs, h.2.2⟩ | exact ⟨h.1.mono hs, h.2.1.mono hs⟩ | exact ⟨h.1.mono hs, h.2.1.mono hs, h.2.2.1.mono hs, h.2.2.2⟩
  uniq := by
    rintro u u' F hA h h'
    simp at hA
    (try simp only [Int.natCast_inj] at hA)
    simp_all
  enter := Tryz.call67
  h := fun u w hp => fmtUintC_c u w (by rw [factF_init]; exact hp)
def fmtUintC : Con Tryz.prog := Con.read fmtUintC_S
theorem fmtUintC_rw {u : Nat} {d : Nat} {cx : Cx} {mem : List Blk} {K : C → Prop} (hpre : TP (nowF cx mem) ∧ u < 18446744073709551616) : ReadV d fmtUintC_S cx [.v (.int .u64 u), .v (.int .i64 10)] mem K = K (.v (.string (txt (decL u)))) := fmtUintC_S.eq u rfl hpre
end Go.Proofs.YtclbanhoiaieaaaGreatDoor
