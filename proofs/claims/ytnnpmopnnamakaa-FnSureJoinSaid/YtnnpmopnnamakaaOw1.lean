/-
  How the arguments of the laws are opened. Conditions: none.
-/
import Derived.Test.YtnnpmopnnamakaaInw1
import Derived.Test.YtnnpmopnnamakaaFactsw1
import Derived.Test.YtnnpmopnnamakaaFxw1
import Derived.Deep.Slices
import Derived.ProofKit
set_option linter.unusedVariables false
set_option linter.unusedSimpArgs false
set_option maxRecDepth 100000
set_option maxHeartbeats 1000000
namespace Go.Sx
open Go Go.ChangeShapes Go.WideShapes Go.ChangeAt Go.RowKit

theorem trodAll_below {H : Type} {enc : TypeId × Value → H} {P : Program} (hl : laidOutB P = true) {W W' : World} (hb : Below W.heap.size W W') :
    ∀ (ts : List TypeId) (vs : List Value) (ds : List (DataW H)) (ps : List MemPlace), (∀ t ∈ ts, P.readableRec t = true ∧ t < P.types.size) →
      DataW.TrodAll enc P W 0 (fun _ => true) true ts vs ds ps → (∀ x ∈ ps, x.block < W.heap.size) →
      DataW.TrodAll enc P W' 0 (fun b => decide (b < W.heap.size)) true ts vs ds ps
  | [], vs, ds, ps, _, h, _ => by
    cases vs <;> cases ds <;> simp_all [DataW.TrodAll]
  | t :: ts, [], ds, ps, _, h, _ => by simp [DataW.TrodAll] at h
  | t :: ts, v :: vs, [], ps, _, h, _ => by simp [DataW.TrodAll] at h
  | t :: ts, v :: vs, d :: ds, ps, ht, h, hlt => by
    obtain ⟨p, q, h1, h2, rfl⟩ := h
    have a := ht t (by simp)
    exact ⟨p, q, Below.trod hl a.1 a.2 h1 hb (fun x hx => hlt x (by simp [hx])), trodAll_below hl hb ts vs ds q (fun u hu => ht u (by simp [hu])) h2 (fun x hx => hlt x (by simp [hx])), rfl⟩

theorem trodAll_len {H : Type} {enc : TypeId × Value → H} {P : Program} {W : World} {base : Nat} {sp : Nat → Bool} {held : Bool} :
    ∀ (ts : List TypeId) (vs : List Value) (ds : List (DataW H)) (ps : List MemPlace), DataW.TrodAll enc P W base sp held ts vs ds ps → vs.length = ts.length ∧ ds.length = ts.length
  | [], vs, ds, ps, h => by cases vs <;> cases ds <;> simp_all [DataW.TrodAll]
  | t :: ts, [], ds, ps, h => by simp [DataW.TrodAll] at h
  | t :: ts, v :: vs, [], ps, h => by simp [DataW.TrodAll] at h
  | t :: ts, v :: vs, d :: ds, ps, h => by
    obtain ⟨p, q, h1, h2, rfl⟩ := h
    have := trodAll_len ts vs ds q h2
    simpa using this

theorem trodAll_at {H : Type} {enc : TypeId × Value → H} {P : Program} {W : World} {base : Nat} {sp : Nat → Bool} {held : Bool} :
    ∀ {ts : List TypeId} {vs : List Value} {ds : List (DataW H)} {ps : List MemPlace}, DataW.TrodAll enc P W base sp held ts vs ds ps → ∀ (j : Nat) t v, ts[j]? = some t → vs[j]? = some v → ∃ d p, DataW.Trod enc P W base sp held t v d p
  | [], vs, ds, ps, h, j, t, v, ht, hv => by simp at ht
  | t :: ts, [], ds, ps, h, j, t', v', ht, hv => by simp at hv
  | t :: ts, v :: vs, [], ps, h, j, t', v', ht, hv => by simp [DataW.TrodAll] at h
  | t :: ts, v :: vs, d :: ds, ps, h, j, t', v', ht, hv => by
    obtain ⟨p, q, h1, h2, rfl⟩ := h
    cases j with
    | zero => simp at ht hv; subst ht; subst hv; exact ⟨d, p, h1⟩
    | succ j => exact trodAll_at h2 j t' v' (by simpa using ht) (by simpa using hv)

theorem lifted_of_walk {H : Type} {enc : TypeId × Value → H} {C : Checked} {os : Os} {f : FuncId} {fn : Func} {s : ChangeSpec} {conds : List PathCond} {apart fresh handsOn : Bool} {tb : TypeId}
    (own : ownKnob C.prog.godebug = none) (started : os.Started) (noInit : C.prog.inits.idxOf? f = none) (hfn : C.prog.funcs[f]? = some fn)
    (witness : ∃ (w : World) (tape : Tape) (i : Input), w.os = os ∧ (w.forCall tape i).Shaped C.prog ∧ i.vars = [] ∧ Input.okWide C.prog (w.forCall tape i) .any w.heap.size f i ∧
      s.pre6 enc C.prog fn conds apart (w.forCall tape i).memory i.args ∧ ({} : Assume).holds C.prog (lone (Frame.enter C.prog f i.args .normal) [] (w.forCall tape i)))
    (hlaid : laidOutB C.prog = true) (hread : fn.params.toList.all (fun t => C.prog.readableRec t && decide (t < C.prog.types.size)) = true)
    (hvars : s.vars = []) (hrt : fn.resultTypes = #[tb]) (hub : C.prog.underlying tb = some .bool)
    (hs : ∀ ds : List (DataW H), ds.length = fn.params.size → s.fn H ds = { results := [.lit (.bool true)], args := ds })
    (walk : ∀ (W : World) (base : Nat) (args : Array Value), args.size = fn.params.size →
      (∀ (j : Nat) t v, fn.params[j]? = some t → args[j]? = some v → Value.okWide C.prog W .any base t v) →
      (∀ (j : Nat) t v, fn.params[j]? = some t → args[j]? = some v → ∃ d p, DataW.Trod enc C.prog W 0 (fun _ => true) true t v d p) →
      Calls C.prog f args W fun e W' => e = .returned (.bool true) ∧ Below W.heap.size W W') :
    ReturnsInHanded {} C os f .any (s.pre6 enc C.prog fn conds apart) (s.post enc C.prog fn apart fresh handsOn false) := by
  refine returnsInHanded_of_change (C := C) own started noInit hfn witness ?_
  intro W base args ds gs before hval hW hcnd _
  obtain ⟨p, q, hA, hV, rfl, hfz, hnd⟩ := id hW
  have hV' := hV
  rw [hvars] at hV'
  obtain ⟨rfl, rfl⟩ := trodVars_none hV'
  have hln := trodAll_len _ _ _ _ hA
  refine (walk W base args (by simpa using hln.1) hval (fun j t v ht hv => trodAll_at hA j t v (by simpa using ht) (by simpa using hv))).mono fun e W' ⟨he, hb⟩ => ⟨_, he, ?_⟩
  have hse := hs ds (by simpa using hln.2)
  refine ⟨ds, [], p ++ [], [], p, [], hW, ?_, ?_, ?_, hb.frame _, fun h => by cases h⟩
  · rw [List.append_nil, hse, hrt]
    exact trodAll_mk1 (shut_bool hub true)
  · rw [List.append_nil, hse]
    refine trodAll_below hlaid hb _ _ _ _ (fun t ht => ?_) hA (fun x hx => hW.lt x (by simp [hx]))
    have := List.all_eq_true.1 hread t ht
    simpa using this
  · rw [List.append_nil, hse, hvars]
    rfl

def vI : Value → Int | .int _ n => n | _ => 0
/- Arguments that hold slices. -/
section
variable {H : Type} {enc : TypeId × Value → H} {P : Program} {w : World} {base : Nat} {spare : Nat → Bool} {held : Bool}
def fieldsK (P : Program) (t : TypeId) : Option (List (Nat × Nat × TypeId)) :=
  match P.underlying t with
  | some (.struct fs) => some (fs.toList.map fun f => (f.offset, P.cellsOf f.type, f.type))
  | _ => none
theorem trod_fields {t : TypeId} {l : List (Nat × Nat × TypeId)} {fuel : Nat} {cs : List Value} {x : DataW H × List MemPlace} (hk : fieldsK P t = some l) (h : DataW.trod enc P w base spare held fuel t cs = some x) :
    cs.length = P.cellsOf t ∧ ∃ n, ∀ (i : Nat) off c ty, l[i]? = some (off, c, ty) → ∃ y, DataW.trod enc P w base spare held n ty ((cs.drop off).take c) = some y := by
  unfold fieldsK at hk
  split at hk <;> (try simp only [Option.some.injEq, reduceCtorEq] at hk)
  rename_i fs hu
  obtain ⟨xs, n, _, _, hl, hlen, hg⟩ := DataW.trod_struct hu h
  refine ⟨hl, n, fun i off c ty hi => ?_⟩
  rw [← hk, List.getElem?_map, Option.map_eq_some_iff] at hi
  obtain ⟨f, hf, he⟩ := hi
  simp only [Prod.mk.injEq] at he
  obtain ⟨rfl, rfl, rfl⟩ := he
  have hfa : fs[i]? = some f := by simpa using hf
  have := hg i f hfa
  have hil : i < xs.length := by rw [hlen]; exact (Array.getElem?_eq_some_iff.1 hfa).1
  rw [List.getElem?_eq_getElem hil] at this
  exact ⟨_, this⟩
theorem trod_rows {t e : TypeId} {size : Nat} {fuel : Nat} {cs : List Value} {x : DataW H × List MemPlace} (ht : P.underlying t = some (.slice e)) (hc : P.cellsOf e = size) (h : DataW.trod enc P w base spare held fuel t cs = some x) :
    ∃ o len cap, cs = [.slice o len cap] ∧ len ≤ cap ∧ cap ≤ maxLen ∧ ∃ rows : List (List Value), rows.length = len ∧ RdO w.cell? size o rows ∧ ∀ r ∈ rows, ∃ n y, DataW.trod enc P w base spare held n e r = some y := by
  rcases Go.Deep.open_slice ht h with ⟨rfl, _⟩ | ⟨a, len, cap, m, n, D, Pl, rfl, _, hl, hcap, hm, _, hi⟩
  · exact ⟨none, 0, 0, rfl, Nat.le_refl _, by unfold maxLen; omega, [], rfl, RdO.nil _ _ _, by simp⟩
  · have hlm : len ≤ m := by rw [hm]; split <;> omega
    refine ⟨some a, len, cap, rfl, hl, hcap, (List.range len).map fun i => (w.cells? base (a.add (i * size)) size).getD [], by simp, fun i r hr => ?_, fun r hr => ?_⟩
    · rw [List.getElem?_map, Option.map_eq_some_iff] at hr
      obtain ⟨i', hi', rfl⟩ := hr
      obtain ⟨hil, hie⟩ := List.getElem?_eq_some_iff.1 hi'
      simp only [List.length_range] at hil
      simp only [List.getElem_range] at hie
      subst hie
      obtain ⟨cs', hcs, hy⟩ := hi i (by omega)
      rw [hc] at hcs
      obtain ⟨_, hcl, hat⟩ := World.cells?_some hcs
      rw [hcs]
      refine ⟨hcl, a, rfl, fun j x hx => ?_⟩
      simp only [Option.getD_some] at hx
      have := hat j (by rw [← hcl]; exact (List.getElem?_eq_some_iff.1 hx).1)
      rw [addr_add_add] at this
      rw [this, hx]
    · simp only [List.mem_map, List.mem_range] at hr
      obtain ⟨i, hil, rfl⟩ := hr
      obtain ⟨cs', hcs, hy⟩ := hi i (by omega)
      rw [hc] at hcs
      rw [hcs]
      exact ⟨n, _, hy⟩
def decD (r : List Value) : Dev := ⟨vI (r.getD 0 default), vI (r.getD 1 default), vI (r.getD 2 default)⟩
theorem dev_trod {t ti : TypeId} {fuel : Nat} {cs : List Value} {x : DataW H × List MemPlace} (hk : fieldsK P t = some [(0, 1, ti), (1, 1, ti), (2, 1, ti)]) (hc : P.cellsOf t = 3) (hi : P.underlying ti = some (.int .i64))
    (h : DataW.trod enc P w base spare held fuel t cs = some x) : cs = encD (decD cs) := by
  obtain ⟨hl, n, hf⟩ := trod_fields hk h
  rw [hc] at hl
  match cs, hl with
  | [a, b, c], _ =>
    obtain ⟨_, h0⟩ := hf 0 0 1 ti rfl
    obtain ⟨_, h1⟩ := hf 1 1 1 ti rfl
    obtain ⟨_, h2⟩ := hf 2 2 1 ti rfl
    obtain ⟨k, e0, _⟩ := DataW.trod_int hi h0
    obtain ⟨m, e1, _⟩ := DataW.trod_int hi h1
    obtain ⟨p, e2, _⟩ := DataW.trod_int hi h2
    simp at e0 e1 e2
    subst e0 e1 e2
    rfl
theorem args_trod {t e ti : TypeId} {fuel : Nat} {cs : List Value} {x : DataW H × List MemPlace} (ht : P.underlying t = some (.slice e)) (hk : fieldsK P e = some [(0, 1, ti), (1, 1, ti), (2, 1, ti)]) (hc : P.cellsOf e = 3) (hi : P.underlying ti = some (.int .i64))
    (h : DataW.trod enc P w base spare held fuel t cs = some x) : ∃ o cap xs, cs = [.slice o xs.length cap] ∧ RdD w.cell? o xs ∧ xs.length ≤ cap ∧ cap ≤ maxLen := by
  obtain ⟨o, len, cap, rfl, hl, hcap, rows, rfl, hr, ht⟩ := trod_rows ht hc h
  refine ⟨o, cap, rows.map decD, by simp, ?_, by simpa using hl, hcap⟩
  have e : (rows.map decD).map encD = rows := by
    rw [List.map_map]
    conv => rhs; rw [← List.map_id rows]
    apply List.map_congr_left
    intro r hr
    obtain ⟨n, y, hy⟩ := ht r hr
    exact (dev_trod hk hc hi hy).symm
  unfold RdD
  rw [e]; exact hr
theorem bytes_trod {t e : TypeId} {fuel : Nat} {cs : List Value} {x : DataW H × List MemPlace} (ht : P.underlying t = some (.slice e)) (hc : P.cellsOf e = 1) (hi : P.underlying e = some (.int .u8))
    (h : DataW.trod enc P w base spare held fuel t cs = some x) : ∃ o cap bs, cs = [.slice o bs.length cap] ∧ RdB w.cell? o bs ∧ (∀ b ∈ bs, 0 ≤ b ∧ b < 256) ∧ bs.length ≤ cap ∧ cap ≤ maxLen := by
  obtain ⟨o, len, cap, rfl, hl, hcap, rows, rfl, hr, ht⟩ := trod_rows ht hc h
  have hrow : ∀ r ∈ rows, r = [.int .u8 (vI (r.getD 0 default))] ∧ 0 ≤ vI (r.getD 0 default) ∧ vI (r.getD 0 default) < 256 := by
    intro r hr
    obtain ⟨n, y, hy⟩ := ht r hr
    obtain ⟨b, rfl, _, hw⟩ := DataW.trod_int hi hy
    refine ⟨rfl, ?_⟩
    simp [Lit.wf, IntKind.has, IntKind.min, IntKind.max, IntKind.signed, IntKind.bits] at hw
    simp [vI]; omega
  refine ⟨o, cap, rows.map fun r => vI (r.getD 0 default), by simp, ?_, ?_, by simpa using hl, hcap⟩
  · intro j v hj
    rw [List.getElem?_map, List.getElem?_map] at hj
    cases hrj : rows[j]? with
    | none => rw [hrj] at hj; simp at hj
    | some r =>
      rw [hrj] at hj
      simp only [Option.map_some, Option.some.injEq] at hj
      obtain ⟨_, a, ha, hf⟩ := hr j r hrj
      refine ⟨a, ha, ?_⟩
      have e := (hrow r (List.mem_of_getElem? hrj)).1
      have := hf 0 v (by rw [e, ← hj]; rfl)
      simpa using this
  · intro b hb
    simp only [List.mem_map] at hb
    obtain ⟨r, hr, rfl⟩ := hb
    exact (hrow r hr).2
theorem elem_trod {t s e ti : TypeId} {fuel : Nat} {cs : List Value} {x : DataW H × List MemPlace} (hk : fieldsK P t = some [(0, 1, ti), (1, 1, s)]) (hc : P.cellsOf t = 2) (hs : P.underlying s = some (.slice e)) (hke : fieldsK P e = some [(0, 1, ti), (1, 1, ti), (2, 1, ti)]) (hce : P.cellsOf e = 3) (hi : P.underlying ti = some (.int .i64))
    (h : DataW.trod enc P w base spare held fuel t cs = some x) : ∃ op o cap xs, cs = [.int .i64 op, .slice o xs.length cap] ∧ RdD w.cell? o xs ∧ xs.length ≤ cap ∧ cap ≤ maxLen := by
  obtain ⟨hl, n, hf⟩ := trod_fields hk h
  rw [hc] at hl
  match cs, hl with
  | [a, b], _ =>
    obtain ⟨_, h0⟩ := hf 0 0 1 ti rfl
    obtain ⟨_, h1⟩ := hf 1 1 1 s rfl
    obtain ⟨k, e0, _⟩ := DataW.trod_int hi h0
    obtain ⟨o, cap, xs, e1, g1, g2, g3⟩ := args_trod hs hke hce hi h1
    simp at e0 e1
    subst e0 e1
    exact ⟨k, o, cap, xs, rfl, g1, g2, g3⟩
theorem inst_trod {t el s e ti : TypeId} {fuel : Nat} {cs : List Value} {x : DataW H × List MemPlace} (hk : fieldsK P t = some [(0, 1, ti), (1, 2, el)]) (hc : P.cellsOf t = 3)
    (hkl : fieldsK P el = some [(0, 1, ti), (1, 1, s)]) (hcl : P.cellsOf el = 2) (hs : P.underlying s = some (.slice e)) (hke : fieldsK P e = some [(0, 1, ti), (1, 1, ti), (2, 1, ti)]) (hce : P.cellsOf e = 3) (hi : P.underlying ti = some (.int .i64))
    (h : DataW.trod enc P w base spare held fuel t cs = some x) : ∃ y, RdR w.cell? cs y := by
  obtain ⟨hl, n, hf⟩ := trod_fields hk h
  rw [hc] at hl
  match cs, hl with
  | [a, b, c], _ =>
    obtain ⟨_, h0⟩ := hf 0 0 1 ti rfl
    obtain ⟨_, h1⟩ := hf 1 1 2 el rfl
    obtain ⟨k, e0, _⟩ := DataW.trod_int hi h0
    obtain ⟨op, o, cap, xs, e1, g1, g2, g3⟩ := elem_trod hkl hcl hs hke hce hi h1
    simp at e0 e1
    obtain ⟨rfl, rfl⟩ := e1
    subst e0
    exact ⟨⟨k, op, xs⟩, o, cap, rfl, g1, g2, g3⟩
theorem list_trod {l t el s e ti : TypeId} {fuel : Nat} {cs : List Value} {x : DataW H × List MemPlace} (hlt : P.underlying l = some (.slice t)) (hk : fieldsK P t = some [(0, 1, ti), (1, 2, el)]) (hc : P.cellsOf t = 3)
    (hkl : fieldsK P el = some [(0, 1, ti), (1, 1, s)]) (hcl : P.cellsOf el = 2) (hs : P.underlying s = some (.slice e)) (hke : fieldsK P e = some [(0, 1, ti), (1, 1, ti), (2, 1, ti)]) (hce : P.cellsOf e = 3) (hi : P.underlying ti = some (.int .i64))
    (h : DataW.trod enc P w base spare held fuel l cs = some x) : ∃ o cap xs, cs = [.slice o xs.length cap] ∧ RdN w.cell? o xs ∧ xs.length ≤ cap ∧ cap ≤ maxLen := by
  obtain ⟨o, len, cap, rfl, hl, hcap, rows, rfl, hr, ht⟩ := trod_rows hlt hc h
  have key : ∀ (rows : List (List Value)), (∀ r ∈ rows, ∃ n y, DataW.trod enc P w base spare held n t r = some y) → ∃ xs : List Ins, rows.length = xs.length ∧ ∀ (i : Nat) r x, rows[i]? = some r → xs[i]? = some x → RdR w.cell? r x := by
    intro rows
    induction rows with
    | nil => intro _; exact ⟨[], rfl, by simp⟩
    | cons r rows ih =>
      intro hh
      obtain ⟨n, y, hy⟩ := hh r (by simp)
      obtain ⟨x, hx⟩ := inst_trod hk hc hkl hcl hs hke hce hi hy
      obtain ⟨xs, hl, hxs⟩ := ih fun r' hr' => hh r' (by simp [hr'])
      refine ⟨x :: xs, by simp [hl], fun i r' x' hr' hx' => ?_⟩
      cases i with
      | zero => simp at hr' hx'; subst hr' hx'; exact hx
      | succ i => exact hxs i r' x' (by simpa using hr') (by simpa using hx')
  obtain ⟨xs, hlx, hxs⟩ := key rows ht
  exact ⟨o, cap, xs, by rw [hlx], ⟨rows, hr, hlx, hxs⟩, by omega, hcap⟩
theorem okWide_sl {r : Reach} {t e : TypeId} {v : Value} (hk : P.underlying t = some (.slice e)) (h : Value.okWide P w r base t v) : v.cells = #[v] := by
  unfold Value.okWide at h
  rw [hk] at h
  simp only [Cell.okWide, hk] at h
  cases v <;> first | rfl | (unfold Cell.ok at h; rw [hk] at h; simp at h)
end
end Go.Sx
namespace Go.Proofs.Ytnnpmopnnamakaa
open Go Go.Sx Go.ChangeShapes Go.WideShapes Go.ChangeAt Go.RowKit

theorem own : ownKnob Try.prog.godebug = none := by kernel_rfl
theorem laidOut : laidOutB Try.prog = true := fxLaid

theorem openBytes {H : Type} {enc : TypeId × Value → H} {w : World} {r : Reach} {base : Nat} {sp : Nat → Bool} {held : Bool} {v : Value} (h : Value.okWide Try.prog w r base 33 v) (ht : ∃ d p, DataW.Trod enc Try.prog w 0 sp held 33 v d p) :
    ∃ o cap bs, v = .slice o bs.length cap ∧ RdB w.cell? o bs ∧ (∀ b ∈ bs, 0 ≤ b ∧ b < 256) ∧ bs.length ≤ cap ∧ cap ≤ maxLen := by
  have hv := okWide_sl (e := 5) (by kernel_rfl) h
  obtain ⟨d, p, fuel, hf⟩ := ht
  rw [hv] at hf
  obtain ⟨o, cap, bs, e, h1⟩ := bytes_trod (e := 5) (by kernel_rfl) (by kernel_rfl) (by kernel_rfl) hf
  simp at e
  exact ⟨o, cap, bs, e, h1⟩
theorem openList {H : Type} {enc : TypeId × Value → H} {w : World} {r : Reach} {base : Nat} {sp : Nat → Bool} {held : Bool} {v : Value} (h : Value.okWide Try.prog w r base 22 v) (ht : ∃ d p, DataW.Trod enc Try.prog w 0 sp held 22 v d p) :
    ∃ o cap xs, v = .slice o xs.length cap ∧ RdN w.cell? o xs ∧ xs.length ≤ cap ∧ cap ≤ maxLen := by
  have hv := okWide_sl (e := 44) (by kernel_rfl) h
  obtain ⟨d, p, fuel, hf⟩ := ht
  rw [hv] at hf
  obtain ⟨o, cap, xs, e, h1⟩ := list_trod (t := 44) (ti := 3) (el := 42) (s := 40) (e := 92) (by kernel_rfl) (by kernel_rfl) (by kernel_rfl) (by kernel_rfl) (by kernel_rfl) (by kernel_rfl) (by kernel_rfl) (by kernel_rfl) (by kernel_rfl) hf
  simp at e
  exact ⟨o, cap, xs, e, h1⟩
end Go.Proofs.Ytnnpmopnnamakaa
