/-
  Contracts: a real number read out of its text, by the reference.
-/
import Derived.Test.YtclbanhoiaieaaaGreatDoorVmvc
import Derived.Test.YtclbanhoiaieaaaGreatDoorVgvc
set_option linter.unusedVariables false
set_option linter.unusedSimpArgs false
set_option maxRecDepth 100000
set_option maxHeartbeats 4000000
namespace Go.Sx
open Go
theorem pos_parts {t : Str} {n : Nat} {e : Int} (ht : t = decL n ++ ([42, 50, 94] ++ decZ e)) (hn : n < 9007199254740992) (he : -1074 ≤ e ∧ e ≤ 1023) :
    ∃ k : Nat, idxL 42 t = k ∧ k + 4 ≤ t.length ∧ (t.take (k + 3)).drop k = [42, 50, 94] ∧ numS (t.take k) = ((n : Int), true) ∧ numS (t.drop (k + 3)) = (e, true) := by
  subst ht
  have e1 : decL n ++ ([42, 50, 94] ++ decZ e) = decL n ++ 42 :: ([50, 94] ++ decZ e) := by simp
  have h1 : 1 ≤ (decZ e).length := by
    obtain ⟨c, r, hc, _⟩ := decZ_head e
    rw [hc]; simp
  have hd : decZ (n : Int) = decL n := by unfold decZ; rw [if_neg (by omega)]; rfl
  refine ⟨(decL n).length, by rw [e1]; exact idxL_hit (decL_not (by decide)), ?_, ?_, ?_, ?_⟩
  · simp only [List.length_append, List.length_cons, List.length_nil]; omega
  · rw [List.take_append, List.drop_append, List.take_of_length_le (by omega)]
    simp
  · rw [List.take_left, ← hd]
    exact numS_dec (by omega)
  · rw [← List.append_assoc, List.drop_left' (by simp)]
    exact numS_dec (by omega)
def ReadP (t : Str) (r : Nat) (b : Bool) : Prop :=
  r < 18446744073709551616 ∧ ∀ (n : Nat) (e : Int), t = decL n ++ ([42, 50, 94] ++ decZ e) → n % 2 = 1 → n < 9007199254740992 → -1074 ≤ e → e + (n.log2 : Int) ≤ 1023 → e ≤ 1023 → b = true ∧ Ex r n e
def Parts (t : Str) (k n : Nat) (e : Int) : Prop :=
  idxL 42 t = k ∧ k + 4 ≤ t.length ∧ (t.take (k + 3)).drop k = [42, 50, 94] ∧ numS (t.take k) = ((n : Int), true) ∧ numS (t.drop (k + 3)) = (e, true) ∧ 1 ≤ n ∧ n ≤ 9007199254740991 ∧ n % 2 = 1 ∧ -1074 ≤ e ∧ e ≤ 1023
theorem parts_of {t : Str} {n : Nat} {e : Int} (ht : t = decL n ++ ([42, 50, 94] ++ decZ e)) (h1 : n % 2 = 1) (hn : n < 9007199254740992) (he : -1074 ≤ e ∧ e ≤ 1023) : ∃ k, Parts t k n e := by
  obtain ⟨k, a1, a2, a3, a4, a5⟩ := pos_parts ht hn he
  exact ⟨k, a1, a2, a3, a4, a5, by omega, by omega, h1, he.1, he.2⟩
theorem read_bad {t : Str} (h : ∀ k n e, ¬ Parts t k n e) : ReadP t 0 false := ⟨by decide, fun n e ht h1 h2 h3 h4 h5 => by
  obtain ⟨k, hp⟩ := parts_of ht h1 h2 ⟨h3, h5⟩
  exact absurd hp (h k n e)⟩
theorem read_good {t : Str} {k n : Nat} {e : Int} {r : Nat} {b : Bool} (h : Parts t k n e) (hr : r < 18446744073709551616) (hx : e + (n.log2 : Int) ≤ 1023 → b = true ∧ Ex r n e) : ReadP t r b := ⟨hr, fun n' e' ht h1 h2 h3 h4 h5 => by
  obtain ⟨k', hp⟩ := parts_of ht h1 h2 ⟨h3, h5⟩
  obtain ⟨a1, a2, a3, a4, a5, a6⟩ := h
  obtain ⟨b1, b2, b3, b4, b5, b6⟩ := hp
  obtain rfl : k = k' := by omega
  rw [a4] at b4
  rw [a5] at b5
  simp only [Prod.mk.injEq] at b4 b5
  obtain rfl : n = n' := by omega
  obtain rfl : e = e' := b5.1
  exact hx h4⟩
theorem mul_two_some {x : Nat} {s : Bool} {m : Nat} {i : Int} (hx : dbl.read x = .number s m i) : ∃ y, dbl.mul x 4611686018427387904 = some y := by
  unfold Ieee.Format.mul
  rw [hx, read_two]
  simp only [Ieee.Datum.product, Option.map_some]
  exact ⟨_, rfl⟩
theorem div_two_some {x : Nat} {s : Bool} {m : Nat} {i : Int} (hx : dbl.read x = .number s m i) : ∃ y, dbl.div x 4611686018427387904 = some y := by
  unfold Ieee.Format.div
  rw [hx, read_two]
  simp only [Ieee.Datum.quotient]
  rw [if_neg (by decide)]
  simp only [Option.map_some]
  exact ⟨_, rfl⟩
theorem Ex.twiceR {x m r : Nat} {j : Int} (h : Ex x m j) (hj : -4999 ≤ j) (hf : Fits m (j + 1)) (hr : fRes .f64 (dbl.mul x 4611686018427387904) r) : Ex r m (j + 1) := by
  obtain ⟨_, M, I, h1, _⟩ := id h
  obtain ⟨y, hy⟩ := mul_two_some h1
  rw [hy] at hr
  obtain rfl : r = y := hr
  exact h.twice hj hf hy
theorem Ex.halfR {x m r : Nat} {j : Int} (h : Ex x m j) (hj : -4999 ≤ j) (hf : Fits m (j - 1)) (hr : fRes .f64 (dbl.div x 4611686018427387904) r) : Ex r m (j - 1) := by
  obtain ⟨_, M, I, h1, _⟩ := id h
  obtain ⟨y, hy⟩ := div_two_some h1
  rw [hy] at hr
  obtain rfl : r = y := hr
  exact h.half hj hf hy
theorem mulR_lt {x y r : Nat} (hr : fRes .f64 (dbl.mul x y) r) : r < 18446744073709551616 := fRes_lt hr fun y e => Ieee.Format.map_write_lt dbl e
theorem divR_lt {x y r : Nat} (hr : fRes .f64 (dbl.div x y) r) : r < 18446744073709551616 := fRes_lt hr fun y e => Ieee.Format.div_lt _ e
theorem read_infU : dbl.read 9218868437227405312 = .infinity false := by kernel_rfl
theorem Ex.fin {x m : Nat} {j : Int} (h : Ex x m j) : dbl.order x 9218868437227405312 = some .lt := by
  obtain ⟨_, M, I, h1, _⟩ := h
  unfold Ieee.Format.order
  rw [h1, read_infU]
  rfl
theorem neg_back (y : Nat) : Op.negFloat .f64 (Op.negFloat .f64 y) = y := by
  unfold Op.negFloat
  rw [Nat.xor_assoc, Nat.xor_self, Nat.xor_zero]
theorem neg_pos {R : Nat} (h : R < 9223372036854775808) : Op.negFloat .f64 (dbl.word false R) = dbl.word true R := by
  rw [← neg_word h, neg_back]
theorem neg_lt {y : Nat} (h : y < 18446744073709551616) : Op.negFloat .f64 y < 18446744073709551616 := by
  have e : FloatKind.f64.format.exponentBits + FloatKind.f64.format.fractionBits = 63 := by decide
  have e2 : (18446744073709551616 : Nat) = 2 ^ 64 := rfl
  unfold Op.negFloat
  rw [e]
  rw [e2] at h ⊢
  exact Nat.xor_lt_two_pow h (by decide)
theorem real_bad {t : Str} {r : Nat} (c1 : t ≠ [110, 97, 110]) (c2 : t ≠ [105, 110, 102]) (c3 : t ≠ [45, 105, 110, 102]) (c4 : t ≠ [48]) (c5 : t ≠ [45, 48]) (hr : r < 18446744073709551616)
    (h : ∀ (s : Bool) (n : Nat) (e : Int) (M : Nat) (I : Int), Norm M I → M ≠ 0 → t = (if s then [45] else []) ++ (decL n ++ ([42, 50, 94] ++ decZ e)) → n % 2 = 1 → n < 9007199254740992 → -1074 ≤ e → e + (n.log2 : Int) ≤ 1023 → e ≤ 1023 → valU M I = valU n e → r = dbl.word s (rungOf M I)) : RealTo t r := ⟨hr, fun x hx ht => by
  rcases real_cases ht with h' | h' | h' | h' | h' | ⟨s, M, I, n, e, hr, h0, h1, h2, h3, h4, h5, h6, h7⟩
  · exact absurd h' c1
  · exact absurd h' c2
  · exact absurd h' c3
  · exact absurd h' c4
  · exact absurd h' c5
  · have e1 := h s n e M I (read_norm hr) h0 h1 h2 h3 h4 h5 h6 h7
    rw [e1, ← word_of hx hr]
    exact sameF_refl _⟩
theorem dec_no45 (n : Nat) (s : Str) : (decL n ++ s).headD 0 ≠ 45 := by
  obtain ⟨c, r, hc, h1, h2⟩ := decL_cons n
  rw [hc]
  intro e
  have e' : c = 45 := e
  subst e'
  have : (45 : UInt8).toNat = 45 := rfl
  omega
theorem real_neg {t : Str} {r : Nat} {b : Bool} (hb : b = true) (c3 : t ≠ [105, 110, 102]) (c5 : t ≠ [48]) (h : ReadP t r b) : RealTo (45 :: t) (Op.negFloat .f64 r) := by
  refine real_bad (by simp) (by simp) (by simpa using c3) (by simp) (by simpa using c5) (neg_lt h.1) fun s n e M I hN h0 ht h1 h2 h3 h4 h5 hv => ?_
  cases s
  · exfalso
    refine dec_no45 n ([42, 50, 94] ++ decZ e) ?_
    rw [← List.nil_append (decL n ++ _)]
    have : (45 :: t).headD 0 = 45 := rfl
    rw [ht] at this
    exact this
  · have ht' : t = decL n ++ ([42, 50, 94] ++ decZ e) := by simpa using ht
    obtain ⟨_, hx⟩ := h.2 n e ht' h1 h2 h3 h4 h5
    rw [hx.eq hN h0 hv, neg_pos (rung_lt hN)]
theorem real_pos {t : Str} {r : Nat} {b : Bool} (hb : b = true) (c1 : t ≠ [110, 97, 110]) (c2 : t ≠ [105, 110, 102]) (c4 : t ≠ [48]) (hne : t.headD 0 ≠ 45) (h : ReadP t r b) : RealTo t r := by
  refine real_bad c1 c2 (fun e => hne (by rw [e]; rfl)) c4 (fun e => hne (by rw [e]; rfl)) h.1 fun s n e M I hN h0 ht h1 h2 h3 h4 h5 hv => ?_
  cases s
  · obtain ⟨_, hx⟩ := h.2 n e (by simpa using ht) h1 h2 h3 h4 h5
    exact hx.eq hN h0 hv
  · exact absurd (by rw [ht]; rfl) hne
theorem real_none {t u : Str} {r : Nat} {q : Bool} (hq : t = if q then 45 :: u else u) (hne : q = false → u.headD 0 ≠ 45) (c1 : t ≠ [110, 97, 110]) (c2 : t ≠ [105, 110, 102]) (c3 : t ≠ [45, 105, 110, 102]) (c4 : t ≠ [48]) (c5 : t ≠ [45, 48]) (h : ReadP u r false) : RealTo t 0 := by
  refine real_bad c1 c2 c3 c4 c5 (by decide) fun s n e M I hN h0 ht h1 h2 h3 h4 h5 hv => ?_
  exfalso
  have : ∃ n e, u = decL n ++ ([42, 50, 94] ++ decZ e) ∧ n % 2 = 1 ∧ n < 9007199254740992 ∧ -1074 ≤ e ∧ e + (n.log2 : Int) ≤ 1023 ∧ e ≤ 1023 := by
    refine ⟨n, e, ?_, h1, h2, h3, h4, h5⟩
    cases q
    · have hu : t = u := hq
      subst hu
      cases s
      · simpa using ht
      · exact absurd (by rw [ht]; rfl) (hne rfl)
    · have hu : t = 45 :: u := hq
      rw [hu] at ht
      cases s
      · exfalso
        refine dec_no45 n ([42, 50, 94] ++ decZ e) ?_
        have h45 : (45 :: u).headD 0 = 45 := rfl
        rw [ht] at h45
        exact h45
      · simpa using ht
  obtain ⟨n, e, a1, a2, a3, a4, a5, a6⟩ := this
  exact absurd (h.2 n e a1 a2 a3 a4 a5 a6).1 (by decide)
end Go.Sx
namespace Go.Proofs.YtclbanhoiaieaaaGreatDoor
open Go Go.Sx
open List renaming all_eq_true → Y1, zipIdx → Y5
open Bool renaming exists_bool → Y3, forall_bool → Y4
attribute [local simp] Sx.vcsE1 Sx.vcsE2 Sx.vcsE3 Sx.vcsE4 Sx.vcsE5 Sx.vcsE6 Sx.vcsE7 Sx.vcsE8 Sx.vcsE9 Sx.vcsE10 Sx.vcsE11 Sx.vcsE12 Sx.vcsE13 Sx.vcsE14 Sx.vcsE15 Sx.vcsE16 Sx.vcsE17 Sx.vcsE18 Sx.vcsE19 Sx.get Sx.look Sx.put Sx.pureFn Sx.findOrd Sx.unF Sx.dstOk Sx.isFloatT Sx.endVC Sx.resFn Sx.packC Sx.newFn Sx.storeFn Sx.buildFn Sx.known Sx.aggT Sx.cellsC Sx.findCon Sx.allV Sx.partsV Sx.partsC Sx.fillL Sx.exitTo Sx.fAr Sx.eqFn Sx.eqFieldsFn Sx.eqElemsFn Sx.partFn Sx.sliceFn Sx.boundFn Sx.AppV Sx.CopyV Sx.MakeSliceV Sx.NewsV Sx.GrowV Sx.TextV Sx.bytesL Sx.notInt Sx.typeAt Sx.argAt Sx.den Go.undef Go.Value.cells Go.Value.oneCell' Sx.Con.pure Sx.Con.some Sx.Con.read Sx.Con.make Sx.Con.ext Sx.Con.rel Sx.Con.extS Sx.Con.draw Sx.Con.step Sx.C.one Sx.Draws.steps

def sFindStar : Con Tryz.prog := Con.pure 118 Tryz.call118 (fun (s : Str) => [.string (txt s), .int .u8 42]) (fun s => s.length ≤ 4000000) (fun s => .int .i64 (idxL 42 s)) fun s w hp => sFindC_c s 42 hp w
theorem sReadC_c (t : Str) (hpre : t.length ≤ 1100000) (w : World) : Calls Tryz.prog 229 #[.string (txt t)] w fun e w' => ∃ v, e = .returned v ∧ (fun v => ∃ r b, v = .tuple #[.float .f64 r, .bool b] ∧ ReadP t r b) v ∧ RowKit.Below w.heap.size w w' := by
  refine plain_of_vcs ⟨[sFindStar, sNumC, l3InfC], []⟩ hmx Tryz.func229 rfl (by kernel_rfl) (args := [.string (txt t)]) (by simp [Tryz.ntmps229]) w (fun v => ∃ r b, v = .tuple #[.float .f64 r, .bool b] ∧ ReadP t r b) 400 ?_
  have hbd := idxL_bd 42 t
  by_cases h1 : idxL 42 t < 0
  · have hno : ReadP t 0 false := read_bad fun k n e h => by have := h.1; omega
    have n1 : ¬ 0 ≤ idxL 42 t := by omega
    have c4 : List.length t ≤ 4000000 := by omega
    simp (maxSteps := 4000000) -dsimp [-Y1, -Array.all_eq_true, -Y3, -Y4, and_assoc, Y5, Tryz.f229, sFindStar, sNumC, l3InfC, h1, hno, n1, c4]
  obtain ⟨k, hk⟩ : ∃ k : Nat, idxL 42 t = k := ⟨(idxL 42 t).toNat, by omega⟩
  rw [hk] at hbd
  have w3 : IntKind.i64.wrap ((k : Int) + 3) = k + 3 := wrap_i64 (by omega) (by omega)
  have w4 : IntKind.i64.wrap ((k : Int) + 4) = k + 4 := wrap_i64 (by omega) (by omega)
  have n0 : ¬ (k : Int) < 0 := by omega
  have c4 : List.length t ≤ 4000000 := by omega
  have c5 : min k (List.length t) ≤ 2000000 := by omega
  have c6 : List.length t ≤ 2000000 + (k + 3) := by omega
  have p0 : (0 : Int) ≤ k := by omega
  have t3 : ((k : Int) + 3).toNat = k + 3 := by omega
  by_cases h2 : t.length < k + 4
  · have hno : ReadP t 0 false := read_bad fun k' n e h => by have := h.1; have := h.2.1; omega
    have h2' : (t.length : Int) < k + 4 := by omega
    have h2n : ¬ (k : Int) + 4 ≤ t.length := by omega
    simp (maxSteps := 4000000) -dsimp [-Y1, -Array.all_eq_true, -Y3, -Y4, and_assoc, Y5, Tryz.f229, sFindStar, sNumC, l3InfC, hk, n0, w4, h2', h2n, hno, c4]
  have h2' : ¬ (t.length : Int) < k + 4 := by omega
  have h2p : (k : Int) + 4 ≤ t.length := by omega
  have p1 : (k : Int) ≤ k + 3 := by omega
  have p2 : (k : Int) + 3 ≤ t.length := by omega
  have p3 : (0 : Int) ≤ k + 3 := by omega
  have p4 : (k : Int) ≤ t.length := by omega
  have hsl : ∀ k', idxL 42 t = k' → k' = k := fun k' h => by omega
  by_cases h3 : (t.take (k + 3)).drop k = [42, 50, 94]
  · obtain ⟨n, ok1, hn⟩ : ∃ n b, numS (t.take k) = (n, b) := ⟨_, _, rfl⟩
    obtain ⟨e, ok2, he⟩ : ∃ n b, numS (t.drop (k + 3)) = (n, b) := ⟨_, _, rfl⟩
    have hkn : ∀ k' n' e', Parts t k' n' e' → (ok1 = true ∧ n = n') ∧ (ok2 = true ∧ e = e') := fun k' n' e' h => by
      obtain ⟨a1, a2, a3, a4, a5, a6⟩ := h
      obtain rfl : k' = k := by omega
      rw [hn] at a4
      rw [he] at a5
      simp only [Prod.mk.injEq] at a4 a5
      exact ⟨⟨a4.2, a4.1⟩, ⟨a5.2, a5.1⟩⟩
    have hlk : (t.take k).length = k := by rw [List.length_take]; omega
    cases ok1
    · have hno : ReadP t 0 false := read_bad fun k n e h => by have := (hkn k n e h).1.1; cases this
      simp (maxSteps := 4000000) -dsimp [-Y1, -Array.all_eq_true, -Y3, -Y4, and_assoc, Y5, Tryz.f229, sFindStar, sNumC, l3InfC, hk, n0, c4, c5, c6, h2p, p0, p1, p2, p3, p4, w3, w4, t3, h2', h3, hn, he, hno]
    cases ok2
    · have hno : ReadP t 0 false := read_bad fun k n e h => by have := (hkn k n e h).2.1; cases this
      simp (maxSteps := 4000000) -dsimp [-Y1, -Array.all_eq_true, -Y3, -Y4, and_assoc, Y5, Tryz.f229, sFindStar, sNumC, l3InfC, hk, n0, c4, c5, c6, h2p, p0, p1, p2, p3, p4, w3, w4, t3, h2', h3, hn, he, hno]
    by_cases g1 : n < 1
    · have q1 : ¬ 1 ≤ n := by omega
      have hno : ReadP t 0 false := read_bad fun k n e h => by have := (hkn k n e h).1.2; have := h.2.2.2.2.2.1; omega
      simp (maxSteps := 4000000) -dsimp [-Y1, -Array.all_eq_true, -Y3, -Y4, and_assoc, Y5, Tryz.f229, sFindStar, sNumC, l3InfC, hk, n0, c4, c5, c6, h2p, p0, p1, p2, p3, p4, w3, w4, t3, h2', h3, hn, he, hno, g1, q1]
    have q1 : 1 ≤ n := by omega
    by_cases g2 : 9007199254740991 < n
    · have q2 : ¬ n ≤ 9007199254740991 := by omega
      have hno : ReadP t 0 false := read_bad fun k n e h => by have := (hkn k n e h).1.2; have := h.2.2.2.2.2.2.1; omega
      simp (maxSteps := 4000000) -dsimp [-Y1, -Array.all_eq_true, -Y3, -Y4, and_assoc, Y5, Tryz.f229, sFindStar, sNumC, l3InfC, hk, n0, c4, c5, c6, h2p, p0, p1, p2, p3, p4, w3, w4, t3, h2', h3, hn, he, hno, g1, g2, q2]
    have q2 : n ≤ 9007199254740991 := by omega
    obtain ⟨m, rfl⟩ : ∃ m : Nat, n = m := ⟨n.toNat, by omega⟩
    have hmod : (m : Int).tmod 2 = (m : Int) % 2 := Int.tmod_eq_emod_of_nonneg (by omega)
    have qa : 1 ≤ m := by omega
    have qb : 0 < m := by omega
    have qc : m ≤ 9007199254740991 := by omega
    by_cases g3 : (m : Int) % 2 = 0
    · have gt : (m : Int).tmod 2 = 0 := by omega
      have hno : ReadP t 0 false := read_bad fun k n e h => by have := (hkn k n e h).1.2; have := h.2.2.2.2.2.2.2.1; omega
      simp (maxSteps := 4000000) -dsimp [-Y1, -Array.all_eq_true, -Y3, -Y4, and_assoc, Y5, Tryz.f229, sFindStar, sNumC, l3InfC, hk, n0, c4, c5, c6, h2p, p0, p1, p2, p3, p4, w3, w4, t3, h2', h3, hn, he, hno, g1, g2, q1, q2, qa, qb, qc, hmod, g3, gt]
    have gt : ¬ (m : Int).tmod 2 = 0 := by omega
    by_cases g4 : e < -1074
    · have q4 : ¬ -1074 ≤ e := by omega
      have hno : ReadP t 0 false := read_bad fun k n e h => by have := (hkn k n e h).2.2; have := h.2.2.2.2.2.2.2.2.1; omega
      simp (maxSteps := 4000000) -dsimp [-Y1, -Array.all_eq_true, -Y3, -Y4, and_assoc, Y5, Tryz.f229, sFindStar, sNumC, l3InfC, hk, n0, c4, c5, c6, h2p, p0, p1, p2, p3, p4, w3, w4, t3, h2', h3, hn, he, hno, g1, g2, q1, q2, qa, qb, qc, hmod, g3, gt, g4, q4]
    have q4 : -1074 ≤ e := by omega
    by_cases g5 : 1023 < e
    · have q5 : ¬ e ≤ 1023 := by omega
      have hno : ReadP t 0 false := read_bad fun k n e h => by have := (hkn k n e h).2.2; have := h.2.2.2.2.2.2.2.2.2; omega
      simp (maxSteps := 4000000) -dsimp [-Y1, -Array.all_eq_true, -Y3, -Y4, and_assoc, Y5, Tryz.f229, sFindStar, sNumC, l3InfC, hk, n0, c4, c5, c6, h2p, p0, p1, p2, p3, p4, w3, w4, t3, h2', h3, hn, he, hno, g1, g2, q1, q2, qa, qb, qc, hmod, g3, gt, g4, q4, g5, q5]
    have q5 : e ≤ 1023 := by omega
    have hP : Parts t k m e := ⟨hk, by omega, h3, hn, he, by omega, by omega, by omega, by omega, by omega⟩
    have hx0 := ex_int (n := m) (by omega) (by omega)
    have hlog : m.log2 < 53 := (Nat.log2_lt (by omega)).2 (by omega)
    have hF : ∀ j : Int, -1074 ≤ j → j + (m.log2 : Int) ≤ 1023 → Fits m j := fun j h1 h2 => fits_of (by omega) (by omega) h1 h2
    simp (maxSteps := 4000000) -dsimp [-Y1, -Array.all_eq_true, -Y3, -Y4, and_assoc, Y5, Tryz.f229, sFindStar, sNumC, l3InfC, hk, n0, c4, c5, c6, h2p, p0, p1, p2, p3, p4, w3, w4, t3, h2', h3, hn, he, g1, g2, q1, q2, qa, qb, qc, hmod, g3, gt, g4, q4, g5, q5]
    refine loop_inv (σ := ⟨[sFindStar, sNumC, l3InfC], []⟩) hmx (by kernel_rfl) (fun q cx tm mem => cx = ⟨w, [], w, []⟩ ∧ mem = [] ∧ ∃ (x i : Nat), i ≤ e.toNat ∧ q = e.toNat - i ∧ x < 18446744073709551616 ∧ (e + (m.log2 : Int) ≤ 1023 → Ex x m i) ∧ Sx.look tm 9 = .v (.float .f64 x) ∧ Sx.look tm 10 = .v (.int .i64 i) ∧ Sx.look tm 7 = .v (.int .i64 e))
      e.toNat ⟨rfl, rfl, FloatKind.f64.nearest (m : Int), 0, by omega, rfl, hx0.1, fun _ => hx0, by simp [Sx.look], by simp [Sx.look], by simp [Sx.look]⟩ ?_
    rintro q cx tm mem ⟨rfl, rfl, x, i, hi, rfl, hxl, hxe, j9, j10, j7⟩
    refine ⟨300, ?_⟩
    by_cases hlt : i < e.toNat
    · have hlt' : (i : Int) < e := by omega
      simp (maxSteps := 4000000) -dsimp [-Y1, -Array.all_eq_true, -Y3, -Y4, and_assoc, Y5, Tryz.f229, sFindStar, sNumC, l3InfC, j9, j10, j7, hlt', f64_fmt, fAr, i_succ (i := i) (by omega)]
      intro r hr
      exact ⟨e.toNat - (i + 1), by omega, r, i + 1, by omega, rfl, mulR_lt hr, fun hc => (hxe hc).twiceR (by omega) (hF _ (by omega) (by omega)) hr, rfl, by omega⟩
    · have hlt' : ¬ (i : Int) < e := by omega
      simp (maxSteps := 4000000) -dsimp [-Y1, -Array.all_eq_true, -Y3, -Y4, and_assoc, Y5, Tryz.f229, sFindStar, sNumC, l3InfC, j9, j10, j7, hlt', f64_fmt]
      refine loop_inv (σ := ⟨[sFindStar, sNumC, l3InfC], []⟩) hmx (by kernel_rfl) (fun q cx tm mem => cx = ⟨w, [], w, []⟩ ∧ mem = [] ∧ ∃ (x j : Nat), j ≤ (-e).toNat ∧ q = (-e).toNat - j ∧ x < 18446744073709551616 ∧ (e + (m.log2 : Int) ≤ 1023 → Ex x m ((i : Int) - j)) ∧ Sx.look tm 9 = .v (.float .f64 x) ∧ Sx.look tm 11 = .v (.int .i64 (-(j : Int))) ∧ Sx.look tm 7 = .v (.int .i64 e))
        (-e).toNat ⟨rfl, rfl, x, 0, by omega, rfl, hxl, fun hc => by simpa using hxe hc, by simp [Sx.look, j9], by simp [Sx.look], by simp [Sx.look, j7]⟩ ?_
      rintro q cx tm mem ⟨rfl, rfl, x, j, hj, rfl, hxl, hxe, j9, j11, j7⟩
      refine ⟨300, ?_⟩
      by_cases hlt2 : j < (-e).toNat
      · have hlt2' : e < -(j : Int) := by omega
        have w5 : IntKind.i64.wrap (-(j : Int) - 1) = -(j : Int) - 1 := wrap_i64 (by omega) (by omega)
        simp (maxSteps := 4000000) -dsimp [-Y1, -Array.all_eq_true, -Y3, -Y4, and_assoc, Y5, Tryz.f229, sFindStar, sNumC, l3InfC, j9, j11, j7, hlt2', f64_fmt, fAr, w5]
        intro r hr
        exact ⟨(-e).toNat - (j + 1), by omega, r, j + 1, by omega, rfl, divR_lt hr, fun hc => by
          have := (hxe hc).halfR (by omega) (hF _ (by omega) (by omega)) hr
          have e1 : (i : Int) - ((j + 1 : Nat) : Int) = (i : Int) - j - 1 := by omega
          rw [e1]; exact this, rfl, by omega⟩
      · have hlt2' : ¬ e < -(j : Int) := by omega
        simp (maxSteps := 4000000) -dsimp [-Y1, -Array.all_eq_true, -Y3, -Y4, and_assoc, Y5, Tryz.f229, sFindStar, sNumC, l3InfC, j9, j11, j7, hlt2', f64_fmt]
        refine read_good hP hxl fun hc => ?_
        have hxx := hxe hc
        have e1 : (i : Int) - j = e := by omega
        rw [e1] at hxx
        exact ⟨by rw [hxx.fin]; rfl, hxx⟩
  · have hno : ReadP t 0 false := read_bad fun k' n e h => by
      obtain ⟨a1, a2, a3, _⟩ := h
      obtain rfl : k' = k := by omega
      exact h3 a3
    simp (maxSteps := 4000000) -dsimp [-Y1, -Array.all_eq_true, -Y3, -Y4, and_assoc, Y5, Tryz.f229, sFindStar, sNumC, l3InfC, hk, n0, c4, c5, c6, h2p, p0, p1, p2, p3, p4, w3, w4, t3, h2', h3, hno]
def sReadC : Con Tryz.prog := Con.some 229 Tryz.call229 (fun (t : ((Str))) => [.string (txt t)]) (fun (t : ((Str))) => t.length ≤ 1100000) (fun (t : ((Str))) => fun v => ∃ r b, v = .tuple #[.float .f64 r, .bool b] ∧ ReadP t r b) fun t w hp => sReadC_c t hp w
theorem sRealReadC_c (t : Str) (hpre : t.length ≤ 1100000) (w : World) : Calls Tryz.prog 184 #[.string (txt t)] w fun e w' => ∃ v, e = .returned v ∧ (fun v => ∃ r b, v = .tuple #[.float .f64 r, .bool b] ∧ RealTo t r) v ∧ RowKit.Below w.heap.size w w' := by
  refine plain_of_vcs ⟨[l3NanC, l3InfC, sReadC], []⟩ hmx Tryz.func184 rfl (by kernel_rfl) (args := [.string (txt t)]) (by simp [Tryz.ntmps184]) w (fun v => ∃ r b, v = .tuple #[.float .f64 r, .bool b] ∧ RealTo t r) 400 ?_
  by_cases c1 : t = [110, 97, 110]
  · subst c1
    simp (maxSteps := 4000000) -dsimp [-Y1, -Array.all_eq_true, -Y3, -Y4, and_assoc, Y5, Tryz.f184, l3NanC, l3InfC, sReadC, txt_eta]
    rintro v r rfl hn hl
    exact ⟨r, rfl, real_self hl (realL_nan hn)⟩
  by_cases c2 : t = [105, 110, 102]
  · subst c2
    simp (maxSteps := 4000000) -dsimp [-Y1, -Array.all_eq_true, -Y3, -Y4, and_assoc, Y5, Tryz.f184, l3NanC, l3InfC, sReadC, txt_eta]
    exact real_self (by decide) inf_const.1
  by_cases c3 : t = [45, 105, 110, 102]
  · subst c3
    simp (maxSteps := 4000000) -dsimp [-Y1, -Array.all_eq_true, -Y3, -Y4, and_assoc, Y5, Tryz.f184, l3NanC, l3InfC, sReadC, txt_eta, neg_inf]
    exact real_self (by decide) inf_const.2
  by_cases c4 : t = [48]
  · subst c4
    simp (maxSteps := 4000000) -dsimp [-Y1, -Array.all_eq_true, -Y3, -Y4, and_assoc, Y5, Tryz.f184, l3NanC, l3InfC, sReadC, txt_eta]
    exact real_self (by decide) zero_const.1
  by_cases c5 : t = [45, 48]
  · subst c5
    simp (maxSteps := 4000000) -dsimp [-Y1, -Array.all_eq_true, -Y3, -Y4, and_assoc, Y5, Tryz.f184, l3NanC, l3InfC, sReadC, txt_eta, neg_zero]
    exact real_self (by decide) zero_const.2
  by_cases c6 : t = []
  · subst c6
    simp (maxSteps := 4000000) -dsimp [-Y1, -Array.all_eq_true, -Y3, -Y4, and_assoc, Y5, Tryz.f184, l3NanC, l3InfC, sReadC, txt_eta]
    exact real_bad (by simp) (by simp) (by simp) (by simp) (by simp) (by decide) fun s n e M I hN h0 ht => by
      exfalso
      have := congrArg List.length ht
      simp at this
  by_cases hc : t.headD 0 = 45
  · obtain ⟨u, rfl⟩ : ∃ u, t = 45 :: u := by
      cases t with
      | nil => exact absurd rfl c6
      | cons c u => exact ⟨u, by have : c = 45 := hc; rw [this]⟩
    have hl1 : u.length + 1 ≤ 1100000 := by simpa using hpre
    have hl2 : u.length ≤ 1100000 := by omega
    have hg1 : (1 : Int) ≤ (u.length : Int) + 1 := by omega
    have d3 : ¬ u = [105, 110, 102] := fun e => c3 (by rw [e])
    have d5 : ¬ u = [48] := fun e => c5 (by rw [e])
    simp (maxSteps := 4000000) -dsimp [-Y1, -Array.all_eq_true, -Y3, -Y4, and_assoc, Y5, Tryz.f184, l3NanC, l3InfC, sReadC, txt_eta, c1, c2, c3, c4, c5, d3, d5, txt_get, txt_getE, hg1, hl1, hl2]
    rintro v r b rfl hR
    cases b
    · have hno := real_none (t := 45 :: u) (q := true) rfl (fun h => by cases h) c1 c2 c3 c4 c5 hR
      simp (maxSteps := 4000000) -dsimp [-Y1, -Array.all_eq_true, -Y3, -Y4, and_assoc, Y5, Tryz.f184, l3NanC, l3InfC, sReadC, hno]
    · have hy := real_neg rfl d3 d5 hR
      simp (maxSteps := 4000000) -dsimp [-Y1, -Array.all_eq_true, -Y3, -Y4, and_assoc, Y5, Tryz.f184, l3NanC, l3InfC, sReadC, hy]
  · have hp0 : 0 < t.length := by
      cases t with
      | nil => exact absurd rfl c6
      | cons c u => simp
    have hp0' : (0 : Int) < t.length := by omega
    obtain ⟨z, hz⟩ : ∃ z, t[0]? = some z := ⟨t[0], by simp [hp0]⟩
    have hze : ∀ (h : 0 < t.length), t[0]'h = z := fun h => (List.getElem?_eq_some_iff.1 hz).2
    have hzh : t.headD 0 = z := by cases t with | nil => cases hz | cons a l => simpa using hz
    have hz1 : ¬ z = 45 := fun e => hc (by rw [hzh, e])
    have hz2 : ¬ (z.toNat : Int) = 45 := fun e => hz1 (UInt8.toNat_inj.1 (by show z.toNat = 45; omega))
    simp (maxSteps := 4000000) -dsimp [-Y1, -Array.all_eq_true, -Y3, -Y4, and_assoc, Y5, Tryz.f184, l3NanC, l3InfC, sReadC, txt_eta, c1, c2, c3, c4, c5, c6, txt_get, txt_getE, hp0, hp0', hz, hze, hz1, hz2]
    refine ⟨hpre, ?_⟩
    rintro v r b rfl hR
    cases b
    · have hno := real_none (t := t) (q := false) rfl (fun _ => hc) c1 c2 c3 c4 c5 hR
      simp (maxSteps := 4000000) -dsimp [-Y1, -Array.all_eq_true, -Y3, -Y4, and_assoc, Y5, Tryz.f184, l3NanC, l3InfC, sReadC, hno]
    · have hy := real_pos rfl c1 c2 c4 hc hR
      simp (maxSteps := 4000000) -dsimp [-Y1, -Array.all_eq_true, -Y3, -Y4, and_assoc, Y5, Tryz.f184, l3NanC, l3InfC, sReadC, hy]
def sRealReadC : Con Tryz.prog := Con.some 184 Tryz.call184 (fun (t : ((Str))) => [.string (txt t)]) (fun (t : ((Str))) => t.length ≤ 1100000) (fun (t : ((Str))) => fun v => ∃ r b, v = .tuple #[.float .f64 r, .bool b] ∧ RealTo t r) fun t w hp => sRealReadC_c t hp w
end Go.Proofs.YtclbanhoiaieaaaGreatDoor
