/-
  How the arguments of the laws are opened. Conditions: none.
-/
import Derived.Test.YtfhnbdlkiemaeaaIn
import Derived.Deep.Slices
import Derived.ProofKit
import Derived.Test.YtfhnbdlkiemaeaaFacts
import Derived.Test.YtfhnbdlkiemaeaaFx
set_option linter.unusedVariables false
set_option linter.unusedSimpArgs false
set_option maxRecDepth 100000
set_option maxHeartbeats 1000000
namespace Go.Sx
open Go Go.ChangeShapes Go.WideShapes Go.ChangeAt Go.RowKit

theorem trodAll_below {H : Type} {enc : TypeId × Value → H} {P : Program} (hl : laidOutB P = true) {W W' : World} (hb : Below W.heap.size W W') :
    ∀ (ts : List TypeId) (vs : List Value) (ds : List (DataW H)) (ps : List MemPlace), (∀ t ∈ ts, P.readableRec t = true ∧ t < P.types.size) →
      DataW.TrodAll enc P W 0 (fun _ => true) true ts vs ds ps → (∀ x ∈ ps, x.block < W.heap.size) →
      DataW.TrodAll enc P W' 0 (fun b => decide (b < W.heap.size)) true ts vs ds ps
  | [], vs, ds, ps, _, h, _ => by
    cases vs <;> cases ds <;> simp_all [DataW.TrodAll]
  | t :: ts, [], ds, ps, _, h, _ => by simp [DataW.TrodAll] at h
  | t :: ts, v :: vs, [], ps, _, h, _ => by simp [DataW.TrodAll] at h
  | t :: ts, v :: vs, d :: ds, ps, ht, h, hlt => by
    obtain ⟨p, q, h1, h2, rfl⟩ := h
    have a := ht t (by simp)
    exact ⟨p, q, Below.trod hl a.1 a.2 h1 hb (fun x hx => hlt x (by simp [hx])), trodAll_below hl hb ts vs ds q (fun u hu => ht u (by simp [hu])) h2 (fun x hx => hlt x (by simp [hx])), rfl⟩

theorem trodAll_len {H : Type} {enc : TypeId × Value → H} {P : Program} {W : World} {base : Nat} {sp : Nat → Bool} {held : Bool} :
    ∀ (ts : List TypeId) (vs : List Value) (ds : List (DataW H)) (ps : List MemPlace), DataW.TrodAll enc P W base sp held ts vs ds ps → vs.length = ts.length ∧ ds.length = ts.length
  | [], vs, ds, ps, h => by cases vs <;> cases ds <;> simp_all [DataW.TrodAll]
  | t :: ts, [], ds, ps, h => by simp [DataW.TrodAll] at h
  | t :: ts, v :: vs, [], ps, h => by simp [DataW.TrodAll] at h
  | t :: ts, v :: vs, d :: ds, ps, h => by
    obtain ⟨p, q, h1, h2, rfl⟩ := h
    have := trodAll_len ts vs ds q h2
    simpa using this

theorem trodAll_at {H : Type} {enc : TypeId × Value → H} {P : Program} {W : World} {base : Nat} {sp : Nat → Bool} {held : Bool} :
    ∀ {ts : List TypeId} {vs : List Value} {ds : List (DataW H)} {ps : List MemPlace}, DataW.TrodAll enc P W base sp held ts vs ds ps → ∀ (j : Nat) t v, ts[j]? = some t → vs[j]? = some v → ∃ d p, DataW.Trod enc P W base sp held t v d p
  | [], vs, ds, ps, h, j, t, v, ht, hv => by simp at ht
  | t :: ts, [], ds, ps, h, j, t', v', ht, hv => by simp at hv
  | t :: ts, v :: vs, [], ps, h, j, t', v', ht, hv => by simp [DataW.TrodAll] at h
  | t :: ts, v :: vs, d :: ds, ps, h, j, t', v', ht, hv => by
    obtain ⟨p, q, h1, h2, rfl⟩ := h
    cases j with
    | zero => simp at ht hv; subst ht; subst hv; exact ⟨d, p, h1⟩
    | succ j => exact trodAll_at h2 j t' v' (by simpa using ht) (by simpa using hv)

theorem lifted_of_walk {H : Type} {enc : TypeId × Value → H} {C : Checked} {os : Os} {f : FuncId} {fn : Func} {s : ChangeSpec} {conds : List PathCond} {apart fresh handsOn : Bool} {tb : TypeId}
    (own : ownKnob C.prog.godebug = none) (started : os.Started) (noInit : C.prog.inits.idxOf? f = none) (hfn : C.prog.funcs[f]? = some fn)
    (witness : ∃ (w : World) (tape : Tape) (i : Input), w.os = os ∧ (w.forCall tape i).Shaped C.prog ∧ i.vars = [] ∧ Input.okWide C.prog (w.forCall tape i) .any w.heap.size f i ∧
      s.pre6 enc C.prog fn conds apart (w.forCall tape i).memory i.args ∧ ({} : Assume).holds C.prog (lone (Frame.enter C.prog f i.args .normal) [] (w.forCall tape i)))
    (hlaid : laidOutB C.prog = true) (hread : fn.params.toList.all (fun t => C.prog.readableRec t && decide (t < C.prog.types.size)) = true)
    (hvars : s.vars = []) (hrt : fn.resultTypes = #[tb]) (hub : C.prog.underlying tb = some .bool)
    (hs : ∀ ds : List (DataW H), ds.length = fn.params.size → s.fn H ds = { results := [.lit (.bool true)], args := ds })
    (walk : ∀ (W : World) (base : Nat) (args : Array Value), args.size = fn.params.size →
      (∀ (j : Nat) t v, fn.params[j]? = some t → args[j]? = some v → Value.okWide C.prog W .any base t v) →
      (∀ (j : Nat) t v, fn.params[j]? = some t → args[j]? = some v → ∃ d p, DataW.Trod enc C.prog W 0 (fun _ => true) true t v d p) →
      Calls C.prog f args W fun e W' => e = .returned (.bool true) ∧ Below W.heap.size W W') :
    ReturnsInHanded {} C os f .any (s.pre6 enc C.prog fn conds apart) (s.post enc C.prog fn apart fresh handsOn false) := by
  refine returnsInHanded_of_change (C := C) own started noInit hfn witness ?_
  intro W base args ds gs before hval hW hcnd _
  obtain ⟨p, q, hA, hV, rfl, hfz, hnd⟩ := id hW
  have hV' := hV
  rw [hvars] at hV'
  obtain ⟨rfl, rfl⟩ := trodVars_none hV'
  have hln := trodAll_len _ _ _ _ hA
  refine (walk W base args (by simpa using hln.1) hval (fun j t v ht hv => trodAll_at hA j t v (by simpa using ht) (by simpa using hv))).mono fun e W' ⟨he, hb⟩ => ⟨_, he, ?_⟩
  have hse := hs ds (by simpa using hln.2)
  refine ⟨ds, [], p ++ [], [], p, [], hW, ?_, ?_, ?_, hb.frame _, fun h => by cases h⟩
  · rw [List.append_nil, hse, hrt]
    exact trodAll_mk1 (shut_bool hub true)
  · rw [List.append_nil, hse]
    refine trodAll_below hlaid hb _ _ _ _ (fun t ht => ?_) hA (fun x hx => hW.lt x (by simp [hx]))
    have := List.all_eq_true.1 hread t ht
    simpa using this
  · rw [List.append_nil, hse, hvars]
    rfl

/- Arguments of plain cells. -/
inductive CK where
  | int (k : IntKind)
  | bool
  | f64

def CK.typed : CK → Value → Prop
  | .int k, v => ∃ n, v = .int k n ∧ k.min ≤ n ∧ n ≤ k.max
  | .bool, v => ∃ b, v = .bool b
  | .f64, v => ∃ b, v = .float .f64 b ∧ b < 18446744073709551616

def ckOf (P : Program) (t : TypeId) : Option CK :=
  match P.underlying t with
  | some (.int k) => some (.int k)
  | some .bool => some .bool
  | some (.float .f64) => some .f64
  | _ => none

theorem ckOf_typed {P : Program} {w : World} {r : Reach} {base : Nat} {t : TypeId} {v : Value} {c : CK} (h : ckOf P t = some c) (hv : Cell.okWide P w r base t v) : c.typed v := by
  unfold ckOf at h
  split at h <;> (try simp only [Option.some.injEq, reduceCtorEq] at h) <;> subst h <;> rename_i hu <;> simp only [Cell.okWide, hu] at hv <;>
    cases v <;> simp_all [Cell.ok, CK.typed, IntKind.has, FloatKind.has]

theorem open_cells {P : Program} {w : World} {r : Reach} {base : Nat} {t : TypeId} {v : Value} {ks : List CK} (hu : (match P.underlying t with | some (.struct _) | some (.array _ _) => true | _ => false) = true)
    (hk : (P.cellTypes P.depth t).map (·.map (ckOf P)) = some (ks.map some)) (hn : P.cellsOf t = ks.length) (h : Value.okWide P w r base t v) :
    ∃ cs : List Value, v = .agg cs.toArray ∧ cs.length = ks.length ∧ ∀ (i : Nat) (c : CK), ks[i]? = some c → ∃ x, cs[i]? = some x ∧ c.typed x := by
  have key : ∃ cs, v = .agg cs ∧ cs.size = P.cellsOf t ∧ Row.okWide P w r base t cs := by
    unfold Value.okWide at h
    split at h
    · exact h
    · exact h
    · rename_i h1 h2; split at hu <;> simp_all
  obtain ⟨cs, rfl, hsz, ts, hts, _, hrow⟩ := key
  rw [hts] at hk
  simp only [Option.map_some, Option.some.injEq] at hk
  have hlen : ts.length = ks.length := by simpa using congrArg List.length hk
  refine ⟨cs.toList, by simp, by simp [hsz, hn], fun i c hc => ?_⟩
  have hi : i < ks.length := (List.getElem?_eq_some_iff.1 hc).1
  have hic : i < cs.size := by omega
  refine ⟨cs[i], by simp [hic], ?_⟩
  obtain ⟨u, hu', hcell⟩ := hrow i cs[i] (by simp [hic])
  rw [Nat.mod_eq_of_lt (by omega)] at hu'
  have e := congrArg (·[i]?) hk
  simp only [List.getElem?_map, hu', hc, Option.map_some, Option.some.injEq] at e
  exact ckOf_typed e hcell

theorem openInt {P : Program} {w : World} {r : Reach} {base : Nat} {t : TypeId} {v : Value} {k : IntKind} (hu : P.underlying t = some (.int k)) (h : Value.okWide P w r base t v) : ∃ n, v = .int k n ∧ k.min ≤ n ∧ n ≤ k.max := by
  have e : Value.okWide P w r base t v = Cell.okWide P w r base t v := by simp [Value.okWide, hu]
  exact ckOf_typed (c := .int k) (by simp [ckOf, hu]) (e ▸ h)
theorem openFloat {P : Program} {w : World} {r : Reach} {base : Nat} {t : TypeId} {v : Value} (hu : P.underlying t = some (.float .f64)) (h : Value.okWide P w r base t v) : ∃ n, v = .float .f64 n ∧ n < 18446744073709551616 := by
  have e : Value.okWide P w r base t v = Cell.okWide P w r base t v := by simp [Value.okWide, hu]
  exact ckOf_typed (c := .f64) (by simp [ckOf, hu]) (e ▸ h)

def vI : Value → Int | .int _ n => n | _ => 0
def vB : Value → Bool | .bool b => b | _ => false
def vF : Value → Nat | .float _ b => b | _ => 0

def memK : List CK :=
  [.int .u32, .int .u32, .int .u64, .int .u16, .int .u32] ++ (List.range 16).flatMap (fun _ => [.bool, .int .u16]) ++ (List.range 16).flatMap (fun _ => [.bool, .bool, .int .u16]) ++
    (List.range 32).map (fun _ => .int .i16) ++ (List.range 16).map (fun _ => .f64) ++ [.int .u32, .bool, .bool]

def memOf (cs : List Value) : M where
  X := vI (cs.getD 0 default)
  Y := vI (cs.getD 1 default)
  M := vI (cs.getD 2 default)
  S := vI (cs.getD 3 default)
  E := vI (cs.getD 4 default)
  T := ⟨fun k => if k < 16 then (vB (cs.getD (5 + k * 2) default), vI (cs.getD (5 + k * 2 + 1) default)) else default, fun k h => by rw [if_neg (by omega)]⟩
  C := ⟨fun k => if k < 16 then (vB (cs.getD (37 + k * 3) default), vB (cs.getD (37 + k * 3 + 1) default), vI (cs.getD (37 + k * 3 + 2) default)) else default, fun k h => by rw [if_neg (by omega)]⟩
  D := ⟨fun k => if k < 32 then vI (cs.getD (85 + k) default) else default, fun k h => by rw [if_neg (by omega)]⟩
  R := ⟨fun k => if k < 16 then vF (cs.getD (117 + k) default) else default, fun k h => by rw [if_neg (by omega)]⟩
  Time := vI (cs.getD 133 default)
  Ran := vB (cs.getD 134 default)
  Fault := vB (cs.getD 135 default)

theorem getL {m : M} {i : Nat} {x : Value} (h : (cellC m)[i]? = some (.v x)) : (cellL m)[i]? = some x := by
  unfold cellC at h
  rw [List.getElem?_map] at h
  cases e : (cellL m)[i]? with
  | none => simp [e] at h
  | some y => simp only [e, Option.map_some, Option.some.injEq, C.v.injEq] at h; rw [h]

theorem mem_open {cs : List Value} (hl : cs.length = memK.length) (h : ∀ (i : Nat) (c : CK), memK[i]? = some c → ∃ x, cs[i]? = some x ∧ c.typed x) : ∃ m, cs = cellL m ∧ MOk m := by
  have hl' : cs.length = 136 := hl
  have gi : ∀ (i : Nat) (k : IntKind), memK[i]? = some (.int k) → cs[i]? = some (.int k (vI (cs.getD i default))) ∧ k.min ≤ vI (cs.getD i default) ∧ vI (cs.getD i default) ≤ k.max := fun i k hk => by
    obtain ⟨x, h1, n, rfl, h2⟩ := h i _ hk
    simp [List.getD, h1, vI, h2]
  have gb : ∀ (i : Nat), memK[i]? = some .bool → cs[i]? = some (.bool (vB (cs.getD i default))) := fun i hk => by
    obtain ⟨x, h1, n, rfl⟩ := h i _ hk
    simp [List.getD, h1, vB]
  have gf : ∀ (i : Nat), memK[i]? = some .f64 → cs[i]? = some (.float .f64 (vF (cs.getD i default))) ∧ vF (cs.getD i default) < 18446744073709551616 := fun i hk => by
    obtain ⟨x, h1, n, rfl, h2⟩ := h i _ hk
    simp [List.getD, h1, vF, h2]
  have kT0 : ∀ k : Nat, k < 16 → memK[5 + k * 2]? = some .bool := by apply lt16 <;> rfl
  have kT1 : ∀ k : Nat, k < 16 → memK[5 + k * 2 + 1]? = some (.int .u16) := by apply lt16 <;> rfl
  have kC0 : ∀ k : Nat, k < 16 → memK[37 + k * 3]? = some .bool := by apply lt16 <;> rfl
  have kC1 : ∀ k : Nat, k < 16 → memK[37 + k * 3 + 1]? = some .bool := by apply lt16 <;> rfl
  have kC2 : ∀ k : Nat, k < 16 → memK[37 + k * 3 + 2]? = some (.int .u16) := by apply lt16 <;> rfl
  have kD : ∀ k : Nat, k < 32 → memK[85 + k]? = some (.int .i16) := by apply lt32 <;> apply lt16 <;> rfl
  have kR : ∀ k : Nat, k < 16 → memK[117 + k]? = some .f64 := by apply lt16 <;> rfl
  have bu16 : ∀ x : Int, IntKind.u16.min ≤ x ∧ x ≤ IntKind.u16.max → 0 ≤ x ∧ x < 65536 := fun x ⟨a, b⟩ => by
    simp [IntKind.min, IntKind.max, IntKind.signed, IntKind.bits] at a b; omega
  have bu32 : ∀ x : Int, IntKind.u32.min ≤ x ∧ x ≤ IntKind.u32.max → 0 ≤ x ∧ x < 4294967296 := fun x ⟨a, b⟩ => by
    simp [IntKind.min, IntKind.max, IntKind.signed, IntKind.bits] at a b; omega
  have bu64 : ∀ x : Int, IntKind.u64.min ≤ x ∧ x ≤ IntKind.u64.max → 0 ≤ x ∧ x < 18446744073709551616 := fun x ⟨a, b⟩ => by
    simp [IntKind.min, IntKind.max, IntKind.signed, IntKind.bits] at a b; omega
  have bi16 : ∀ x : Int, IntKind.i16.min ≤ x ∧ x ≤ IntKind.i16.max → -32768 ≤ x ∧ x < 32768 := fun x ⟨a, b⟩ => by
    simp [IntKind.min, IntKind.max, IntKind.signed, IntKind.bits] at a b; omega
  refine ⟨memOf cs, ?_, ?_⟩
  · apply List.ext_getElem?
    intro i
    by_cases hi : ¬ i < 136
    · rw [List.getElem?_eq_none (by omega), List.getElem?_eq_none (by rw [len_cellL]; omega)]
    by_cases h5 : i < 5
    · obtain rfl | rfl | rfl | rfl | rfl : i = 0 ∨ i = 1 ∨ i = 2 ∨ i = 3 ∨ i = 4 := by omega
      · rw [getL (get_X _)]; exact (gi 0 _ rfl).1
      · rw [getL (get_Y _)]; exact (gi 1 _ rfl).1
      · rw [getL (get_M _)]; exact (gi 2 _ rfl).1
      · rw [getL (get_S _)]; exact (gi 3 _ rfl).1
      · rw [getL (get_E _)]; exact (gi 4 _ rfl).1
    by_cases h37 : i < 37
    · obtain ⟨k, hk, rfl | rfl⟩ : ∃ k, k < 16 ∧ (i = 5 + k * 2 ∨ i = 5 + k * 2 + 1) := ⟨(i - 5) / 2, by omega, by omega⟩
      · rw [getL (get_T0 _ k hk), gb _ (kT0 k hk)]; simp [memOf, hk]
      · rw [getL (get_T1 _ k hk), (gi _ _ (kT1 k hk)).1]; simp [memOf, hk]
    by_cases h85 : i < 85
    · obtain ⟨k, hk, rfl | rfl | rfl⟩ : ∃ k, k < 16 ∧ (i = 37 + k * 3 ∨ i = 37 + k * 3 + 1 ∨ i = 37 + k * 3 + 2) := ⟨(i - 37) / 3, by omega, by omega⟩
      · rw [getL (get_C0 _ k hk), gb _ (kC0 k hk)]; simp [memOf, hk]
      · rw [getL (get_C1 _ k hk), gb _ (kC1 k hk)]; simp [memOf, hk]
      · rw [getL (get_C2 _ k hk), (gi _ _ (kC2 k hk)).1]; simp [memOf, hk]
    by_cases h117 : i < 117
    · obtain ⟨k, hk, rfl⟩ : ∃ k, k < 32 ∧ i = 85 + k := ⟨i - 85, by omega, by omega⟩
      rw [getL (get_D _ k hk), (gi _ _ (kD k hk)).1]; simp [memOf, hk]
    by_cases h133 : i < 133
    · obtain ⟨k, hk, rfl⟩ : ∃ k, k < 16 ∧ i = 117 + k := ⟨i - 117, by omega, by omega⟩
      rw [getL (get_R _ k hk), (gf _ (kR k hk)).1]; simp [memOf, hk]
    obtain rfl | rfl | rfl : i = 133 ∨ i = 134 ∨ i = 135 := by omega
    · rw [getL (get_Time _)]; exact (gi 133 _ rfl).1
    · rw [getL (get_Ran _)]; exact gb 134 rfl
    · rw [getL (get_Fault _)]; exact gb 135 rfl
  · constructor
    · exact bu32 _ (gi 0 _ rfl).2
    · exact bu32 _ (gi 1 _ rfl).2
    · exact bu64 _ (gi 2 _ rfl).2
    · exact bu16 _ (gi 3 _ rfl).2
    · exact bu32 _ (gi 4 _ rfl).2
    · intro k hk; simp only [memOf, hk, if_true]; exact bu16 _ (gi _ _ (kT1 k hk)).2
    · intro k hk; simp only [memOf, hk, if_true]; exact bu16 _ (gi _ _ (kC2 k hk)).2
    · intro k hk; simp only [memOf, hk, if_true]; exact bi16 _ (gi _ _ (kD k hk)).2
    · intro k hk; simp only [memOf, hk, if_true]; exact (gf _ (kR k hk)).2
    · exact bu32 _ (gi 133 _ rfl).2

theorem dev_open {cs : List Value} (hl : cs.length = 3) (h : ∀ (i : Nat) (c : CK), [CK.int .i64, .int .i64, .int .i64][i]? = some c → ∃ x, cs[i]? = some x ∧ c.typed x) :
    ∃ k n p, cs = [.int .i64 k, .int .i64 n, .int .i64 p] ∧ (-9223372036854775808 ≤ k ∧ k ≤ 9223372036854775807) ∧ (-9223372036854775808 ≤ n ∧ n ≤ 9223372036854775807) ∧ (-9223372036854775808 ≤ p ∧ p ≤ 9223372036854775807) := by
  obtain ⟨x, h0, k, rfl, hk⟩ := h 0 _ rfl
  obtain ⟨y, h1, n, rfl, hn⟩ := h 1 _ rfl
  obtain ⟨z, h2, p, rfl, hp⟩ := h 2 _ rfl
  match cs, hl with
  | [a, b, c], _ =>
    simp only [List.getElem?_cons_zero, List.getElem?_cons_succ, Option.some.injEq] at h0 h1 h2
    subst h0 h1 h2
    simp [IntKind.min, IntKind.max, IntKind.signed, IntKind.bits] at hk hn hp
    exact ⟨k, n, p, rfl, hk, hn, hp⟩
theorem sample_open {cs : List Value} (hl : cs.length = 6) (h : ∀ (i : Nat) (c : CK), [CK.int .u32, .int .u16, .f64, .f64, .f64, .f64][i]? = some c → ∃ x, cs[i]? = some x ∧ c.typed x) :
    ∃ x t f, cs = sampleL x t f ∧ (0 ≤ x ∧ x < 4294967296) ∧ (0 ≤ t ∧ t < 65536) ∧ ∀ k, k < 4 → f k < 18446744073709551616 := by
  obtain ⟨v0, g0, x, rfl, hx⟩ := h 0 _ rfl
  obtain ⟨v1, g1, t, rfl, ht⟩ := h 1 _ rfl
  obtain ⟨v2, g2, a, rfl, ha⟩ := h 2 _ rfl
  obtain ⟨v3, g3, b, rfl, hb⟩ := h 3 _ rfl
  obtain ⟨v4, g4, c, rfl, hc⟩ := h 4 _ rfl
  obtain ⟨v5, g5, d, rfl, hd⟩ := h 5 _ rfl
  match cs, hl with
  | [a0, a1, a2, a3, a4, a5], _ =>
    simp only [List.getElem?_cons_zero, List.getElem?_cons_succ, Option.some.injEq] at g0 g1 g2 g3 g4 g5
    subst g0 g1 g2 g3 g4 g5
    simp [IntKind.min, IntKind.max, IntKind.signed, IntKind.bits] at hx ht
    refine ⟨x, t, ⟨fun k => if k = 0 then a else if k = 1 then b else if k = 2 then c else if k = 3 then d else default, fun k h => by (repeat' rw [if_neg (by omega)])⟩, by simp [sampleL, iL_lit], ⟨by omega, by omega⟩, ⟨by omega, by omega⟩, fun k hk => ?_⟩
    obtain rfl | rfl | rfl | rfl : k = 0 ∨ k = 1 ∨ k = 2 ∨ k = 3 := by omega
    all_goals simpa

/- Arguments that hold slices. -/
section
variable {H : Type} {enc : TypeId × Value → H} {P : Program} {w : World} {base : Nat} {spare : Nat → Bool} {held : Bool}
def fieldsK (P : Program) (t : TypeId) : Option (List (Nat × Nat × TypeId)) :=
  match P.underlying t with
  | some (.struct fs) => some (fs.toList.map fun f => (f.offset, P.cellsOf f.type, f.type))
  | _ => none
theorem trod_fields {t : TypeId} {l : List (Nat × Nat × TypeId)} {fuel : Nat} {cs : List Value} {x : DataW H × List MemPlace} (hk : fieldsK P t = some l) (h : DataW.trod enc P w base spare held fuel t cs = some x) :
    cs.length = P.cellsOf t ∧ ∃ n, ∀ (i : Nat) off c ty, l[i]? = some (off, c, ty) → ∃ y, DataW.trod enc P w base spare held n ty ((cs.drop off).take c) = some y := by
  unfold fieldsK at hk
  split at hk <;> (try simp only [Option.some.injEq, reduceCtorEq] at hk)
  rename_i fs hu
  obtain ⟨xs, n, _, _, hl, hlen, hg⟩ := DataW.trod_struct hu h
  refine ⟨hl, n, fun i off c ty hi => ?_⟩
  rw [← hk, List.getElem?_map, Option.map_eq_some_iff] at hi
  obtain ⟨f, hf, he⟩ := hi
  simp only [Prod.mk.injEq] at he
  obtain ⟨rfl, rfl, rfl⟩ := he
  have hfa : fs[i]? = some f := by simpa using hf
  have := hg i f hfa
  have hil : i < xs.length := by rw [hlen]; exact (Array.getElem?_eq_some_iff.1 hfa).1
  rw [List.getElem?_eq_getElem hil] at this
  exact ⟨_, this⟩
theorem trod_rows {t e : TypeId} {size : Nat} {fuel : Nat} {cs : List Value} {x : DataW H × List MemPlace} (ht : P.underlying t = some (.slice e)) (hc : P.cellsOf e = size) (h : DataW.trod enc P w base spare held fuel t cs = some x) :
    ∃ o len cap, cs = [.slice o len cap] ∧ len ≤ cap ∧ cap ≤ maxLen ∧ ∃ rows : List (List Value), rows.length = len ∧ RdO w.cell? size o rows ∧ ∀ r ∈ rows, ∃ n y, DataW.trod enc P w base spare held n e r = some y := by
  rcases Go.Deep.open_slice ht h with ⟨rfl, _⟩ | ⟨a, len, cap, m, n, D, Pl, rfl, _, hl, hcap, hm, _, hi⟩
  · exact ⟨none, 0, 0, rfl, Nat.le_refl _, by unfold maxLen; omega, [], rfl, RdO.nil _ _ _, by simp⟩
  · have hlm : len ≤ m := by rw [hm]; split <;> omega
    refine ⟨some a, len, cap, rfl, hl, hcap, (List.range len).map fun i => (w.cells? base (a.add (i * size)) size).getD [], by simp, fun i r hr => ?_, fun r hr => ?_⟩
    · rw [List.getElem?_map, Option.map_eq_some_iff] at hr
      obtain ⟨i', hi', rfl⟩ := hr
      obtain ⟨hil, hie⟩ := List.getElem?_eq_some_iff.1 hi'
      simp only [List.length_range] at hil
      simp only [List.getElem_range] at hie
      subst hie
      obtain ⟨cs', hcs, hy⟩ := hi i (by omega)
      rw [hc] at hcs
      obtain ⟨_, hcl, hat⟩ := World.cells?_some hcs
      rw [hcs]
      refine ⟨hcl, a, rfl, fun j x hx => ?_⟩
      simp only [Option.getD_some] at hx
      have := hat j (by rw [← hcl]; exact (List.getElem?_eq_some_iff.1 hx).1)
      rw [addr_add_add] at this
      rw [this, hx]
    · simp only [List.mem_map, List.mem_range] at hr
      obtain ⟨i, hil, rfl⟩ := hr
      obtain ⟨cs', hcs, hy⟩ := hi i (by omega)
      rw [hc] at hcs
      rw [hcs]
      exact ⟨n, _, hy⟩
def decD (r : List Value) : Dev := ⟨vI (r.getD 0 default), vI (r.getD 1 default), vI (r.getD 2 default)⟩
theorem dev_trod {t ti : TypeId} {fuel : Nat} {cs : List Value} {x : DataW H × List MemPlace} (hk : fieldsK P t = some [(0, 1, ti), (1, 1, ti), (2, 1, ti)]) (hc : P.cellsOf t = 3) (hi : P.underlying ti = some (.int .i64))
    (h : DataW.trod enc P w base spare held fuel t cs = some x) : cs = encD (decD cs) := by
  obtain ⟨hl, n, hf⟩ := trod_fields hk h
  rw [hc] at hl
  match cs, hl with
  | [a, b, c], _ =>
    obtain ⟨_, h0⟩ := hf 0 0 1 ti rfl
    obtain ⟨_, h1⟩ := hf 1 1 1 ti rfl
    obtain ⟨_, h2⟩ := hf 2 2 1 ti rfl
    obtain ⟨k, e0, _⟩ := DataW.trod_int hi h0
    obtain ⟨m, e1, _⟩ := DataW.trod_int hi h1
    obtain ⟨p, e2, _⟩ := DataW.trod_int hi h2
    simp at e0 e1 e2
    subst e0 e1 e2
    rfl
theorem args_trod {t e ti : TypeId} {fuel : Nat} {cs : List Value} {x : DataW H × List MemPlace} (ht : P.underlying t = some (.slice e)) (hk : fieldsK P e = some [(0, 1, ti), (1, 1, ti), (2, 1, ti)]) (hc : P.cellsOf e = 3) (hi : P.underlying ti = some (.int .i64))
    (h : DataW.trod enc P w base spare held fuel t cs = some x) : ∃ o cap xs, cs = [.slice o xs.length cap] ∧ RdD w.cell? o xs ∧ xs.length ≤ cap ∧ cap ≤ maxLen := by
  obtain ⟨o, len, cap, rfl, hl, hcap, rows, rfl, hr, ht⟩ := trod_rows ht hc h
  refine ⟨o, cap, rows.map decD, by simp, ?_, by simpa using hl, hcap⟩
  have e : (rows.map decD).map encD = rows := by
    rw [List.map_map]
    conv => rhs; rw [← List.map_id rows]
    apply List.map_congr_left
    intro r hr
    obtain ⟨n, y, hy⟩ := ht r hr
    exact (dev_trod hk hc hi hy).symm
  unfold RdD
  rw [e]; exact hr
theorem bytes_trod {t e : TypeId} {fuel : Nat} {cs : List Value} {x : DataW H × List MemPlace} (ht : P.underlying t = some (.slice e)) (hc : P.cellsOf e = 1) (hi : P.underlying e = some (.int .u8))
    (h : DataW.trod enc P w base spare held fuel t cs = some x) : ∃ o cap bs, cs = [.slice o bs.length cap] ∧ RdB w.cell? o bs ∧ (∀ b ∈ bs, 0 ≤ b ∧ b < 256) ∧ bs.length ≤ cap ∧ cap ≤ maxLen := by
  obtain ⟨o, len, cap, rfl, hl, hcap, rows, rfl, hr, ht⟩ := trod_rows ht hc h
  have hrow : ∀ r ∈ rows, r = [.int .u8 (vI (r.getD 0 default))] ∧ 0 ≤ vI (r.getD 0 default) ∧ vI (r.getD 0 default) < 256 := by
    intro r hr
    obtain ⟨n, y, hy⟩ := ht r hr
    obtain ⟨b, rfl, _, hw⟩ := DataW.trod_int hi hy
    refine ⟨rfl, ?_⟩
    simp [Lit.wf, IntKind.has, IntKind.min, IntKind.max, IntKind.signed, IntKind.bits] at hw
    simp [vI]; omega
  refine ⟨o, cap, rows.map fun r => vI (r.getD 0 default), by simp, ?_, ?_, by simpa using hl, hcap⟩
  · intro j v hj
    rw [List.getElem?_map, List.getElem?_map] at hj
    cases hrj : rows[j]? with
    | none => rw [hrj] at hj; simp at hj
    | some r =>
      rw [hrj] at hj
      simp only [Option.map_some, Option.some.injEq] at hj
      obtain ⟨_, a, ha, hf⟩ := hr j r hrj
      refine ⟨a, ha, ?_⟩
      have e := (hrow r (List.mem_of_getElem? hrj)).1
      have := hf 0 v (by rw [e, ← hj]; rfl)
      simpa using this
  · intro b hb
    simp only [List.mem_map] at hb
    obtain ⟨r, hr, rfl⟩ := hb
    exact (hrow r hr).2
theorem elem_trod {t s e ti : TypeId} {fuel : Nat} {cs : List Value} {x : DataW H × List MemPlace} (hk : fieldsK P t = some [(0, 1, ti), (1, 1, s)]) (hc : P.cellsOf t = 2) (hs : P.underlying s = some (.slice e)) (hke : fieldsK P e = some [(0, 1, ti), (1, 1, ti), (2, 1, ti)]) (hce : P.cellsOf e = 3) (hi : P.underlying ti = some (.int .i64))
    (h : DataW.trod enc P w base spare held fuel t cs = some x) : ∃ op o cap xs, cs = [.int .i64 op, .slice o xs.length cap] ∧ RdD w.cell? o xs ∧ xs.length ≤ cap ∧ cap ≤ maxLen := by
  obtain ⟨hl, n, hf⟩ := trod_fields hk h
  rw [hc] at hl
  match cs, hl with
  | [a, b], _ =>
    obtain ⟨_, h0⟩ := hf 0 0 1 ti rfl
    obtain ⟨_, h1⟩ := hf 1 1 1 s rfl
    obtain ⟨k, e0, _⟩ := DataW.trod_int hi h0
    obtain ⟨o, cap, xs, e1, g1, g2, g3⟩ := args_trod hs hke hce hi h1
    simp at e0 e1
    subst e0 e1
    exact ⟨k, o, cap, xs, rfl, g1, g2, g3⟩
theorem inst_trod {t el s e ti : TypeId} {fuel : Nat} {cs : List Value} {x : DataW H × List MemPlace} (hk : fieldsK P t = some [(0, 1, ti), (1, 2, el)]) (hc : P.cellsOf t = 3)
    (hkl : fieldsK P el = some [(0, 1, ti), (1, 1, s)]) (hcl : P.cellsOf el = 2) (hs : P.underlying s = some (.slice e)) (hke : fieldsK P e = some [(0, 1, ti), (1, 1, ti), (2, 1, ti)]) (hce : P.cellsOf e = 3) (hi : P.underlying ti = some (.int .i64))
    (h : DataW.trod enc P w base spare held fuel t cs = some x) : ∃ y, RdR w.cell? cs y := by
  obtain ⟨hl, n, hf⟩ := trod_fields hk h
  rw [hc] at hl
  match cs, hl with
  | [a, b, c], _ =>
    obtain ⟨_, h0⟩ := hf 0 0 1 ti rfl
    obtain ⟨_, h1⟩ := hf 1 1 2 el rfl
    obtain ⟨k, e0, _⟩ := DataW.trod_int hi h0
    obtain ⟨op, o, cap, xs, e1, g1, g2, g3⟩ := elem_trod hkl hcl hs hke hce hi h1
    simp at e0 e1
    obtain ⟨rfl, rfl⟩ := e1
    subst e0
    exact ⟨⟨k, op, xs⟩, o, cap, rfl, g1, g2, g3⟩
theorem list_trod {l t el s e ti : TypeId} {fuel : Nat} {cs : List Value} {x : DataW H × List MemPlace} (hlt : P.underlying l = some (.slice t)) (hk : fieldsK P t = some [(0, 1, ti), (1, 2, el)]) (hc : P.cellsOf t = 3)
    (hkl : fieldsK P el = some [(0, 1, ti), (1, 1, s)]) (hcl : P.cellsOf el = 2) (hs : P.underlying s = some (.slice e)) (hke : fieldsK P e = some [(0, 1, ti), (1, 1, ti), (2, 1, ti)]) (hce : P.cellsOf e = 3) (hi : P.underlying ti = some (.int .i64))
    (h : DataW.trod enc P w base spare held fuel l cs = some x) : ∃ o cap xs, cs = [.slice o xs.length cap] ∧ RdN w.cell? o xs ∧ xs.length ≤ cap ∧ cap ≤ maxLen := by
  obtain ⟨o, len, cap, rfl, hl, hcap, rows, rfl, hr, ht⟩ := trod_rows hlt hc h
  have key : ∀ (rows : List (List Value)), (∀ r ∈ rows, ∃ n y, DataW.trod enc P w base spare held n t r = some y) → ∃ xs : List Ins, rows.length = xs.length ∧ ∀ (i : Nat) r x, rows[i]? = some r → xs[i]? = some x → RdR w.cell? r x := by
    intro rows
    induction rows with
    | nil => intro _; exact ⟨[], rfl, by simp⟩
    | cons r rows ih =>
      intro hh
      obtain ⟨n, y, hy⟩ := hh r (by simp)
      obtain ⟨x, hx⟩ := inst_trod hk hc hkl hcl hs hke hce hi hy
      obtain ⟨xs, hl, hxs⟩ := ih fun r' hr' => hh r' (by simp [hr'])
      refine ⟨x :: xs, by simp [hl], fun i r' x' hr' hx' => ?_⟩
      cases i with
      | zero => simp at hr' hx'; subst hr' hx'; exact hx
      | succ i => exact hxs i r' x' (by simpa using hr') (by simpa using hx')
  obtain ⟨xs, hlx, hxs⟩ := key rows ht
  exact ⟨o, cap, xs, by rw [hlx], ⟨rows, hr, hlx, hxs⟩, by omega, hcap⟩
theorem okWide_struct {r : Reach} {t : TypeId} {v : Value} {l : List (Nat × Nat × TypeId)} (hk : fieldsK P t = some l) (h : Value.okWide P w r base t v) : ∃ cs, v = .agg cs := by
  unfold fieldsK at hk
  split at hk <;> (try simp only [Option.some.injEq, reduceCtorEq] at hk)
  rename_i fs hu
  unfold Value.okWide at h
  rw [hu] at h
  obtain ⟨cs, rfl, _⟩ := h
  exact ⟨cs, rfl⟩
theorem okWide_sl {r : Reach} {t e : TypeId} {v : Value} (hk : P.underlying t = some (.slice e)) (h : Value.okWide P w r base t v) : v.cells = #[v] := by
  unfold Value.okWide at h
  rw [hk] at h
  simp only [Cell.okWide, hk] at h
  cases v <;> first | rfl | (unfold Cell.ok at h; rw [hk] at h; simp at h)
end
end Go.Sx
namespace Go.Proofs.Ytfhnbdlkiemaeaa
open Go Go.Sx Go.ChangeShapes Go.WideShapes Go.ChangeAt Go.RowKit

theorem own : ownKnob Try.prog.godebug = none := by kernel_rfl
theorem laidOut : laidOutB Try.prog = true := fxLaid

theorem openDev {w : World} {r : Reach} {base : Nat} {v : Value} (h : Value.okWide Try.prog w r base 101 v) : ∃ k n p, v = .agg #[.int .i64 k, .int .i64 n, .int .i64 p] ∧
    (-9223372036854775808 ≤ k ∧ k ≤ 9223372036854775807) ∧ (-9223372036854775808 ≤ n ∧ n ≤ 9223372036854775807) ∧ (-9223372036854775808 ≤ p ∧ p ≤ 9223372036854775807) := by
  obtain ⟨cs, rfl, hl, hc⟩ := open_cells (ks := [.int .i64, .int .i64, .int .i64]) (by kernel_rfl) (by kernel_rfl) (by kernel_rfl) h
  obtain ⟨k, n, p, rfl, hk⟩ := dev_open hl hc
  exact ⟨k, n, p, rfl, hk⟩

theorem openBytes {H : Type} {enc : TypeId × Value → H} {w : World} {r : Reach} {base : Nat} {sp : Nat → Bool} {held : Bool} {v : Value} (h : Value.okWide Try.prog w r base 37 v) (ht : ∃ d p, DataW.Trod enc Try.prog w 0 sp held 37 v d p) :
    ∃ o cap bs, v = .slice o bs.length cap ∧ RdB w.cell? o bs ∧ (∀ b ∈ bs, 0 ≤ b ∧ b < 256) ∧ bs.length ≤ cap ∧ cap ≤ maxLen := by
  have hv := okWide_sl (e := 5) (by kernel_rfl) h
  obtain ⟨d, p, fuel, hf⟩ := ht
  rw [hv] at hf
  obtain ⟨o, cap, bs, e, h1⟩ := bytes_trod (e := 5) (by kernel_rfl) (by kernel_rfl) (by kernel_rfl) hf
  simp at e
  exact ⟨o, cap, bs, e, h1⟩
theorem openElem {H : Type} {enc : TypeId × Value → H} {w : World} {r : Reach} {base : Nat} {sp : Nat → Bool} {held : Bool} {v : Value} (h : Value.okWide Try.prog w r base 48 v) (ht : ∃ d p, DataW.Trod enc Try.prog w 0 sp held 48 v d p) :
    ∃ op o cap xs, v = .agg #[.int .i64 op, .slice o xs.length cap] ∧ RdD w.cell? o xs ∧ xs.length ≤ cap ∧ cap ≤ maxLen := by
  obtain ⟨cs, rfl⟩ := okWide_struct (l := [(0, 1, 3), (1, 1, 46)]) (by kernel_rfl) h
  obtain ⟨d, p, fuel, hf⟩ := ht
  obtain ⟨op, o, cap, xs, e, h1, h2, h3⟩ := elem_trod (ti := 3) (s := 46) (e := 101) (by kernel_rfl) (by kernel_rfl) (by kernel_rfl) (by kernel_rfl) (by kernel_rfl) (by kernel_rfl) hf
  refine ⟨op, o, cap, xs, ?_, h1, h2, h3⟩
  congr 1
  exact Array.ext' e
theorem openInst {H : Type} {enc : TypeId × Value → H} {w : World} {r : Reach} {base : Nat} {sp : Nat → Bool} {held : Bool} {v : Value} (h : Value.okWide Try.prog w r base 50 v) (ht : ∃ d p, DataW.Trod enc Try.prog w 0 sp held 50 v d p) :
    ∃ code op o cap xs, v = .agg #[.int .i64 code, .int .i64 op, .slice o xs.length cap] ∧ RdD w.cell? o xs ∧ xs.length ≤ cap ∧ cap ≤ maxLen := by
  obtain ⟨cs, rfl⟩ := okWide_struct (l := [(0, 1, 3), (1, 2, 48)]) (by kernel_rfl) h
  obtain ⟨d, p, fuel, hf⟩ := ht
  obtain ⟨x, hx⟩ := inst_trod (ti := 3) (el := 48) (s := 46) (e := 101) (by kernel_rfl) (by kernel_rfl) (by kernel_rfl) (by kernel_rfl) (by kernel_rfl) (by kernel_rfl) (by kernel_rfl) (by kernel_rfl) hf
  obtain ⟨o, cap, e, h1, h2, h3⟩ := hx.ex
  refine ⟨x.code, x.op, o, cap, x.args, ?_, h1, h2, h3⟩
  congr 1
  exact Array.ext' e
theorem openList {H : Type} {enc : TypeId × Value → H} {w : World} {r : Reach} {base : Nat} {sp : Nat → Bool} {held : Bool} {v : Value} (h : Value.okWide Try.prog w r base 22 v) (ht : ∃ d p, DataW.Trod enc Try.prog w 0 sp held 22 v d p) :
    ∃ o cap xs, v = .slice o xs.length cap ∧ RdN w.cell? o xs ∧ xs.length ≤ cap ∧ cap ≤ maxLen := by
  have hv := okWide_sl (e := 50) (by kernel_rfl) h
  obtain ⟨d, p, fuel, hf⟩ := ht
  rw [hv] at hf
  obtain ⟨o, cap, xs, e, h1⟩ := list_trod (t := 50) (ti := 3) (el := 48) (s := 46) (e := 101) (by kernel_rfl) (by kernel_rfl) (by kernel_rfl) (by kernel_rfl) (by kernel_rfl) (by kernel_rfl) (by kernel_rfl) (by kernel_rfl) (by kernel_rfl) hf
  simp at e
  exact ⟨o, cap, xs, e, h1⟩
end Go.Proofs.Ytfhnbdlkiemaeaa
