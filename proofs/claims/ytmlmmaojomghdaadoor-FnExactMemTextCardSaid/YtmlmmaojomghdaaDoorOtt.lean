/-
  How the arguments of the laws are opened. Conditions: none.
-/
import Derived.Test.YtmlmmaojomghdaaDoorIntt
import Derived.Test.YtmlmmaojomghdaaDoorFactstt
import Derived.Test.YtmlmmaojomghdaaDoorFxtt
import Derived.Deep.Slices
import Derived.ProofKit
set_option linter.unusedVariables false
set_option linter.unusedSimpArgs false
set_option maxRecDepth 100000
set_option maxHeartbeats 1000000
namespace Go.Sx
open Go Go.ChangeShapes Go.WideShapes Go.ChangeAt Go.RowKit

theorem trodAll_below {H : Type} {enc : TypeId × Value → H} {P : Program} (hl : laidOutB P = true) {W W' : World} (hb : Below W.heap.size W W') :
    ∀ (ts : List TypeId) (vs : List Value) (ds : List (DataW H)) (ps : List MemPlace), (∀ t ∈ ts, P.readableRec t = true ∧ t < P.types.size) →
      DataW.TrodAll enc P W 0 (fun _ => true) true ts vs ds ps → (∀ x ∈ ps, x.block < W.heap.size) →
      DataW.TrodAll enc P W' 0 (fun b => decide (b < W.heap.size)) true ts vs ds ps
  | [], vs, ds, ps, _, h, _ => by
    cases vs <;> cases ds <;> simp_all [DataW.TrodAll]
  | t :: ts, [], ds, ps, _, h, _ => by simp [DataW.TrodAll] at h
  | t :: ts, v :: vs, [], ps, _, h, _ => by simp [DataW.TrodAll] at h
  | t :: ts, v :: vs, d :: ds, ps, ht, h, hlt => by
    obtain ⟨p, q, h1, h2, rfl⟩ := h
    have a := ht t (by simp)
    exact ⟨p, q, Below.trod hl a.1 a.2 h1 hb (fun x hx => hlt x (by simp [hx])), trodAll_below hl hb ts vs ds q (fun u hu => ht u (by simp [hu])) h2 (fun x hx => hlt x (by simp [hx])), rfl⟩

theorem trodAll_len {H : Type} {enc : TypeId × Value → H} {P : Program} {W : World} {base : Nat} {sp : Nat → Bool} {held : Bool} :
    ∀ (ts : List TypeId) (vs : List Value) (ds : List (DataW H)) (ps : List MemPlace), DataW.TrodAll enc P W base sp held ts vs ds ps → vs.length = ts.length ∧ ds.length = ts.length
  | [], vs, ds, ps, h => by cases vs <;> cases ds <;> simp_all [DataW.TrodAll]
  | t :: ts, [], ds, ps, h => by simp [DataW.TrodAll] at h
  | t :: ts, v :: vs, [], ps, h => by simp [DataW.TrodAll] at h
  | t :: ts, v :: vs, d :: ds, ps, h => by
    obtain ⟨p, q, h1, h2, rfl⟩ := h
    have := trodAll_len ts vs ds q h2
    simpa using this

theorem trodAll_at {H : Type} {enc : TypeId × Value → H} {P : Program} {W : World} {base : Nat} {sp : Nat → Bool} {held : Bool} :
    ∀ {ts : List TypeId} {vs : List Value} {ds : List (DataW H)} {ps : List MemPlace}, DataW.TrodAll enc P W base sp held ts vs ds ps → ∀ (j : Nat) t v, ts[j]? = some t → vs[j]? = some v → ∃ d p, DataW.Trod enc P W base sp held t v d p
  | [], vs, ds, ps, h, j, t, v, ht, hv => by simp at ht
  | t :: ts, [], ds, ps, h, j, t', v', ht, hv => by simp at hv
  | t :: ts, v :: vs, [], ps, h, j, t', v', ht, hv => by simp [DataW.TrodAll] at h
  | t :: ts, v :: vs, d :: ds, ps, h, j, t', v', ht, hv => by
    obtain ⟨p, q, h1, h2, rfl⟩ := h
    cases j with
    | zero => simp at ht hv; subst ht; subst hv; exact ⟨d, p, h1⟩
    | succ j => exact trodAll_at h2 j t' v' (by simpa using ht) (by simpa using hv)

/- Arguments of plain cells. -/
inductive CK where
  | int (k : IntKind)
  | bool
  | f64

def CK.typed : CK → Value → Prop
  | .int k, v => ∃ n, v = .int k n ∧ k.min ≤ n ∧ n ≤ k.max
  | .bool, v => ∃ b, v = .bool b
  | .f64, v => ∃ b, v = .float .f64 b ∧ b < 18446744073709551616

def ckOf (P : Program) (t : TypeId) : Option CK :=
  match P.underlying t with
  | some (.int k) => some (.int k)
  | some .bool => some .bool
  | some (.float .f64) => some .f64
  | _ => none

theorem ckOf_typed {P : Program} {w : World} {r : Reach} {base : Nat} {t : TypeId} {v : Value} {c : CK} (h : ckOf P t = some c) (hv : Cell.okWide P w r base t v) : c.typed v := by
  unfold ckOf at h
  split at h <;> (try simp only [Option.some.injEq, reduceCtorEq] at h) <;> subst h <;> rename_i hu <;> simp only [Cell.okWide, hu] at hv <;>
    cases v <;> simp_all [Cell.ok, CK.typed, IntKind.has, FloatKind.has]

theorem open_cells {P : Program} {w : World} {r : Reach} {base : Nat} {t : TypeId} {v : Value} {ks : List CK} (hu : (match P.underlying t with | some (.struct _) | some (.array _ _) => true | _ => false) = true)
    (hk : (P.cellTypes P.depth t).map (·.map (ckOf P)) = some (ks.map some)) (hn : P.cellsOf t = ks.length) (h : Value.okWide P w r base t v) :
    ∃ cs : List Value, v = .agg cs.toArray ∧ cs.length = ks.length ∧ ∀ (i : Nat) (c : CK), ks[i]? = some c → ∃ x, cs[i]? = some x ∧ c.typed x := by
  have key : ∃ cs, v = .agg cs ∧ cs.size = P.cellsOf t ∧ Row.okWide P w r base t cs := by
    unfold Value.okWide at h
    split at h
    · exact h
    · exact h
    · rename_i h1 h2; split at hu <;> simp_all
  obtain ⟨cs, rfl, hsz, ts, hts, _, hrow⟩ := key
  rw [hts] at hk
  simp only [Option.map_some, Option.some.injEq] at hk
  have hlen : ts.length = ks.length := by simpa using congrArg List.length hk
  refine ⟨cs.toList, by simp, by simp [hsz, hn], fun i c hc => ?_⟩
  have hi : i < ks.length := (List.getElem?_eq_some_iff.1 hc).1
  have hic : i < cs.size := by omega
  refine ⟨cs[i], by simp [hic], ?_⟩
  obtain ⟨u, hu', hcell⟩ := hrow i cs[i] (by simp [hic])
  rw [Nat.mod_eq_of_lt (by omega)] at hu'
  have e := congrArg (·[i]?) hk
  simp only [List.getElem?_map, hu', hc, Option.map_some, Option.some.injEq] at e
  exact ckOf_typed e hcell

def vI : Value → Int | .int _ n => n | _ => 0
def vB : Value → Bool | .bool b => b | _ => false
def vF : Value → Nat | .float _ b => b | _ => 0

def memK : List CK :=
  [.int .u32, .int .u32, .int .u64, .int .u16, .int .u32] ++ (List.range 16).flatMap (fun _ => [.bool, .int .u16]) ++ (List.range 16).flatMap (fun _ => [.bool, .bool, .int .u16]) ++
    (List.range 32).map (fun _ => .int .i16) ++ (List.range 16).map (fun _ => .f64) ++ [.int .u32, .bool, .bool]

def memOf (cs : List Value) : M where
  X := vI (cs.getD 0 default)
  Y := vI (cs.getD 1 default)
  M := vI (cs.getD 2 default)
  S := vI (cs.getD 3 default)
  E := vI (cs.getD 4 default)
  T := ⟨fun k => if k < 16 then (vB (cs.getD (5 + k * 2) default), vI (cs.getD (5 + k * 2 + 1) default)) else default, fun k h => by rw [if_neg (by omega)]⟩
  C := ⟨fun k => if k < 16 then (vB (cs.getD (37 + k * 3) default), vB (cs.getD (37 + k * 3 + 1) default), vI (cs.getD (37 + k * 3 + 2) default)) else default, fun k h => by rw [if_neg (by omega)]⟩
  D := ⟨fun k => if k < 32 then vI (cs.getD (85 + k) default) else default, fun k h => by rw [if_neg (by omega)]⟩
  R := ⟨fun k => if k < 16 then vF (cs.getD (117 + k) default) else default, fun k h => by rw [if_neg (by omega)]⟩
  Time := vI (cs.getD 133 default)
  Ran := vB (cs.getD 134 default)
  Fault := vB (cs.getD 135 default)

theorem getL {m : M} {i : Nat} {x : Value} (h : (cellC m)[i]? = some (.v x)) : (cellL m)[i]? = some x := by
  unfold cellC at h
  rw [List.getElem?_map] at h
  cases e : (cellL m)[i]? with
  | none => simp [e] at h
  | some y => simp only [e, Option.map_some, Option.some.injEq, C.v.injEq] at h; rw [h]

theorem mem_open {cs : List Value} (hl : cs.length = memK.length) (h : ∀ (i : Nat) (c : CK), memK[i]? = some c → ∃ x, cs[i]? = some x ∧ c.typed x) : ∃ m, cs = cellL m ∧ MOk m := by
  have hl' : cs.length = 136 := hl
  have gi : ∀ (i : Nat) (k : IntKind), memK[i]? = some (.int k) → cs[i]? = some (.int k (vI (cs.getD i default))) ∧ k.min ≤ vI (cs.getD i default) ∧ vI (cs.getD i default) ≤ k.max := fun i k hk => by
    obtain ⟨x, h1, n, rfl, h2⟩ := h i _ hk
    simp [List.getD, h1, vI, h2]
  have gb : ∀ (i : Nat), memK[i]? = some .bool → cs[i]? = some (.bool (vB (cs.getD i default))) := fun i hk => by
    obtain ⟨x, h1, n, rfl⟩ := h i _ hk
    simp [List.getD, h1, vB]
  have gf : ∀ (i : Nat), memK[i]? = some .f64 → cs[i]? = some (.float .f64 (vF (cs.getD i default))) ∧ vF (cs.getD i default) < 18446744073709551616 := fun i hk => by
    obtain ⟨x, h1, n, rfl, h2⟩ := h i _ hk
    simp [List.getD, h1, vF, h2]
  have kT0 : ∀ k : Nat, k < 16 → memK[5 + k * 2]? = some .bool := by apply lt16 <;> rfl
  have kT1 : ∀ k : Nat, k < 16 → memK[5 + k * 2 + 1]? = some (.int .u16) := by apply lt16 <;> rfl
  have kC0 : ∀ k : Nat, k < 16 → memK[37 + k * 3]? = some .bool := by apply lt16 <;> rfl
  have kC1 : ∀ k : Nat, k < 16 → memK[37 + k * 3 + 1]? = some .bool := by apply lt16 <;> rfl
  have kC2 : ∀ k : Nat, k < 16 → memK[37 + k * 3 + 2]? = some (.int .u16) := by apply lt16 <;> rfl
  have kD : ∀ k : Nat, k < 32 → memK[85 + k]? = some (.int .i16) := by apply lt32 <;> apply lt16 <;> rfl
  have kR : ∀ k : Nat, k < 16 → memK[117 + k]? = some .f64 := by apply lt16 <;> rfl
  have bu16 : ∀ x : Int, IntKind.u16.min ≤ x ∧ x ≤ IntKind.u16.max → 0 ≤ x ∧ x < 65536 := fun x ⟨a, b⟩ => by
    simp [IntKind.min, IntKind.max, IntKind.signed, IntKind.bits] at a b; omega
  have bu32 : ∀ x : Int, IntKind.u32.min ≤ x ∧ x ≤ IntKind.u32.max → 0 ≤ x ∧ x < 4294967296 := fun x ⟨a, b⟩ => by
    simp [IntKind.min, IntKind.max, IntKind.signed, IntKind.bits] at a b; omega
  have bu64 : ∀ x : Int, IntKind.u64.min ≤ x ∧ x ≤ IntKind.u64.max → 0 ≤ x ∧ x < 18446744073709551616 := fun x ⟨a, b⟩ => by
    simp [IntKind.min, IntKind.max, IntKind.signed, IntKind.bits] at a b; omega
  have bi16 : ∀ x : Int, IntKind.i16.min ≤ x ∧ x ≤ IntKind.i16.max → -32768 ≤ x ∧ x < 32768 := fun x ⟨a, b⟩ => by
    simp [IntKind.min, IntKind.max, IntKind.signed, IntKind.bits] at a b; omega
  refine ⟨memOf cs, ?_, ?_⟩
  · apply List.ext_getElem?
    intro i
    by_cases hi : ¬ i < 136
    · rw [List.getElem?_eq_none (by omega), List.getElem?_eq_none (by rw [len_cellL]; omega)]
    by_cases h5 : i < 5
    · obtain rfl | rfl | rfl | rfl | rfl : i = 0 ∨ i = 1 ∨ i = 2 ∨ i = 3 ∨ i = 4 := by omega
      · rw [getL (get_X _)]; exact (gi 0 _ rfl).1
      · rw [getL (get_Y _)]; exact (gi 1 _ rfl).1
      · rw [getL (get_M _)]; exact (gi 2 _ rfl).1
      · rw [getL (get_S _)]; exact (gi 3 _ rfl).1
      · rw [getL (get_E _)]; exact (gi 4 _ rfl).1
    by_cases h37 : i < 37
    · obtain ⟨k, hk, rfl | rfl⟩ : ∃ k, k < 16 ∧ (i = 5 + k * 2 ∨ i = 5 + k * 2 + 1) := ⟨(i - 5) / 2, by omega, by omega⟩
      · rw [getL (get_T0 _ k hk), gb _ (kT0 k hk)]; simp [memOf, hk]
      · rw [getL (get_T1 _ k hk), (gi _ _ (kT1 k hk)).1]; simp [memOf, hk]
    by_cases h85 : i < 85
    · obtain ⟨k, hk, rfl | rfl | rfl⟩ : ∃ k, k < 16 ∧ (i = 37 + k * 3 ∨ i = 37 + k * 3 + 1 ∨ i = 37 + k * 3 + 2) := ⟨(i - 37) / 3, by omega, by omega⟩
      · rw [getL (get_C0 _ k hk), gb _ (kC0 k hk)]; simp [memOf, hk]
      · rw [getL (get_C1 _ k hk), gb _ (kC1 k hk)]; simp [memOf, hk]
      · rw [getL (get_C2 _ k hk), (gi _ _ (kC2 k hk)).1]; simp [memOf, hk]
    by_cases h117 : i < 117
    · obtain ⟨k, hk, rfl⟩ : ∃ k, k < 32 ∧ i = 85 + k := ⟨i - 85, by omega, by omega⟩
      rw [getL (get_D _ k hk), (gi _ _ (kD k hk)).1]; simp [memOf, hk]
    by_cases h133 : i < 133
    · obtain ⟨k, hk, rfl⟩ : ∃ k, k < 16 ∧ i = 117 + k := ⟨i - 117, by omega, by omega⟩
      rw [getL (get_R _ k hk), (gf _ (kR k hk)).1]; simp [memOf, hk]
    obtain rfl | rfl | rfl : i = 133 ∨ i = 134 ∨ i = 135 := by omega
    · rw [getL (get_Time _)]; exact (gi 133 _ rfl).1
    · rw [getL (get_Ran _)]; exact gb 134 rfl
    · rw [getL (get_Fault _)]; exact gb 135 rfl
  · constructor
    · exact bu32 _ (gi 0 _ rfl).2
    · exact bu32 _ (gi 1 _ rfl).2
    · exact bu64 _ (gi 2 _ rfl).2
    · exact bu16 _ (gi 3 _ rfl).2
    · exact bu32 _ (gi 4 _ rfl).2
    · intro k hk; simp only [memOf, hk, if_true]; exact bu16 _ (gi _ _ (kT1 k hk)).2
    · intro k hk; simp only [memOf, hk, if_true]; exact bu16 _ (gi _ _ (kC2 k hk)).2
    · intro k hk; simp only [memOf, hk, if_true]; exact bi16 _ (gi _ _ (kD k hk)).2
    · intro k hk; simp only [memOf, hk, if_true]; exact (gf _ (kR k hk)).2
    · exact bu32 _ (gi 133 _ rfl).2

/- Arguments that hold slices. -/
section
variable {H : Type} {enc : TypeId × Value → H} {P : Program} {w : World} {base : Nat} {spare : Nat → Bool} {held : Bool}
end
end Go.Sx
namespace Go.Proofs.YtmlmmaojomghdaaDoor
open Go Go.Sx Go.ChangeShapes Go.WideShapes Go.ChangeAt Go.RowKit

theorem own : ownKnob Tryd.prog.godebug = none := by kernel_rfl
theorem laidOut : laidOutB Tryd.prog = true := fxLaid

theorem openMem {w : World} {r : Reach} {base : Nat} {v : Value} (h : Value.okWide Tryd.prog w r base 38 v) : ∃ m, v = .agg (cells m) ∧ MOk m := by
  obtain ⟨cs, rfl, hl, hc⟩ := open_cells (ks := memK) (by kernel_rfl) (by kernel_rfl) (by kernel_rfl) h
  obtain ⟨m, rfl, hm⟩ := mem_open hl hc
  exact ⟨m, rfl, hm⟩
end Go.Proofs.YtmlmmaojomghdaaDoor
