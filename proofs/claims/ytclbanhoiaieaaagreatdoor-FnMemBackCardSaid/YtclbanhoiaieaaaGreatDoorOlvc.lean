/-
  How the laws that read listed variables are opened. Conditions: none.
-/
import Derived.Test.YtclbanhoiaieaaaGreatDoorRows
import Derived.JoinedOf
import Derived.KernelRfl
import Derived.Test.YtclbanhoiaieaaaGreatDoorIvc
import Derived.Test.YtclbanhoiaieaaaGreatDoorFactsvc
import Derived.Deep.Slices
import Derived.ProofKit
import Derived.OpenVars
import Derived.LaidMore
import Derived.OpenShut
import Derived.LaidHandle
import Derived.Lib.LaidTab
import Derived.SevenTiedAt
import Derived.Stop.Joined
set_option linter.unusedVariables false
set_option linter.unusedSimpArgs false
set_option maxRecDepth 100000
set_option maxHeartbeats 1000000
namespace Go.Proofs.YtclbanhoiaieaaaGreatDoor
open Go

theorem fxLaid : laidOutB Tryz.prog = true := by kernel_rfl
theorem fxMaps : mapsRowed Tryz.prog = true := by kernel_rfl
theorem fxHeard : (Tryz.prog).stopsHeard = true := by kernel_rfl
theorem fxEnter : (Tryz.prog).mayEnter = true := by kernel_rfl
theorem fxLifts : (Rows.fnExactMemReadRow.lifted == (Tryz.prog).liftsFinal) = true := by kernel_rfl
theorem fxMake : ((Tryz.prog).make == some Rows.fnExactMemReadRow.make) = true := by kernel_rfl
theorem fxKeys : (Rows.fnExactMemReadRow.plainKeys == (Tryz.prog).plainKeys) = true := by kernel_rfl

theorem joined_of {P : Program} {f : FuncId} {fn : Func} {s : ChangeSpec} {c : OpenClaim} (h0 : c.wf (OpenSpec.ofChange s) = true) (h1 : laidOutB P = true) (h2 : mapsRowed P = true)
    (h3 : (fn.params.all (P.readableRec ·) && namedTie P c.named s.vars && (c.stops == []) && (P.stops == []) && (c.knobs == []) && (P.stopKnobs == [])) = true)
    (h9 : (c.inPlace == P.inPlace f) = true) (h10 : (c.unfollowed == P.unfollowed f) = true) (h11 : (c.recurses == P.recurses f) = true) (h12 : (c.named == P.varsNamed f) = true)
    (h13 : ((c.maps == (fn.params.toList ++ s.plain.varTypes P).any (P.mapsRec ·)) && (c.ifaces == (fn.params.toList ++ s.plain.varTypes P).any (P.ifacesRec ·)) && (c.mapsOut == P.mapsAmong fn.resultTypes.toList) &&
      (c.loops == (fn.params.toList ++ s.plain.varTypes P).any (P.loopsFrom ·)) && (c.wideKeys == (fn.params.toList ++ s.plain.varTypes P ++ fn.resultTypes.toList).any (P.wideKeysFrom ·)) &&
      s.vars.all (P.varReadable ·) && fn.resultTypes.all (fun t => P.readableRec t && decide (t < P.types.size)) && (c.ifacesOut == fn.resultTypes.toList.any (P.ifacesRec ·)) && (c.loopsOut == fn.resultTypes.toList.any (P.loopsFrom ·))) = true)
    (h22 : (c.plainKeys == P.plainKeys) = true) (h23 : c.shortTexts.isNone = true) (h24 : P.stopsHeard = true) (h25 : P.mayEnter = true) (h26 : (c.lifted == P.liftsFinal) = true) (h27 : (P.make == some c.make) = true)
    (h28 : ((c.kinds == (if c.domain.isEmpty then [] else fn.params.toList.map fun t => match P.underlying t with | some (.int k) => some k | _ => none)) && (c.pinned == c.pinnedBy) &&
      (c.veiled == (fn.params.toList ++ s.plain.varTypes P ++ fn.resultTypes.toList).any (P.veiledRec ·)) && c.veiledFits P fn.params.toList (fn.params.toList ++ s.plain.varTypes P ++ fn.resultTypes.toList)) = true) :
    joinedFacts P f fn s c = true := by
  unfold joinedFacts
  simp only [Bool.and_eq_true] at h3 h13 h28
  obtain ⟨⟨⟨⟨⟨a3, a4⟩, a5⟩, a6⟩, a7⟩, a8⟩ := h3
  obtain ⟨⟨⟨⟨⟨⟨⟨⟨b1, b2⟩, b3⟩, b4⟩, b5⟩, b6⟩, b7⟩, b8⟩, b9⟩ := h13
  obtain ⟨⟨⟨c1, c2⟩, c3⟩, c4⟩ := h28
  simp only [Bool.and_eq_true]
  exact ⟨⟨⟨⟨⟨⟨⟨⟨⟨⟨⟨⟨⟨⟨⟨⟨⟨⟨⟨⟨⟨⟨⟨⟨⟨⟨⟨⟨⟨⟨⟨h0, h1⟩, h2⟩, a3⟩, a4⟩, a5⟩, a6⟩, a7⟩, a8⟩, h9⟩, h10⟩, h11⟩, h12⟩, b1⟩, b2⟩, b3⟩, b4⟩, b5⟩, b6⟩, b7⟩, b8⟩, b9⟩, h22⟩, h23⟩, h24⟩, h25⟩, h26⟩, h27⟩, c1⟩, c2⟩, c3⟩, c4⟩
end Go.Proofs.YtclbanhoiaieaaaGreatDoor

namespace Go.Sx
open Go Go.ChangeShapes Go.WideShapes Go.ChangeAt Go.RowKit

theorem trodAll_below {H : Type} {enc : TypeId × Value → H} {P : Program} (hl : laidOutB P = true) {W W' : World} (hb : Below W.heap.size W W') :
    ∀ (ts : List TypeId) (vs : List Value) (ds : List (DataW H)) (ps : List MemPlace), (∀ t ∈ ts, P.readableRec t = true ∧ t < P.types.size) →
      DataW.TrodAll enc P W 0 (fun _ => true) true ts vs ds ps → (∀ x ∈ ps, x.block < W.heap.size) →
      DataW.TrodAll enc P W' 0 (fun b => decide (b < W.heap.size)) true ts vs ds ps
  | [], vs, ds, ps, _, h, _ => by
    cases vs <;> cases ds <;> simp_all [DataW.TrodAll]
  | t :: ts, [], ds, ps, _, h, _ => by simp [DataW.TrodAll] at h
  | t :: ts, v :: vs, [], ps, _, h, _ => by simp [DataW.TrodAll] at h
  | t :: ts, v :: vs, d :: ds, ps, ht, h, hlt => by
    obtain ⟨p, q, h1, h2, rfl⟩ := h
    have a := ht t (by simp)
    exact ⟨p, q, Below.trod hl a.1 a.2 h1 hb (fun x hx => hlt x (by simp [hx])), trodAll_below hl hb ts vs ds q (fun u hu => ht u (by simp [hu])) h2 (fun x hx => hlt x (by simp [hx])), rfl⟩

theorem trodAll_len {H : Type} {enc : TypeId × Value → H} {P : Program} {W : World} {base : Nat} {sp : Nat → Bool} {held : Bool} :
    ∀ (ts : List TypeId) (vs : List Value) (ds : List (DataW H)) (ps : List MemPlace), DataW.TrodAll enc P W base sp held ts vs ds ps → vs.length = ts.length ∧ ds.length = ts.length
  | [], vs, ds, ps, h => by cases vs <;> cases ds <;> simp_all [DataW.TrodAll]
  | t :: ts, [], ds, ps, h => by simp [DataW.TrodAll] at h
  | t :: ts, v :: vs, [], ps, h => by simp [DataW.TrodAll] at h
  | t :: ts, v :: vs, d :: ds, ps, h => by
    obtain ⟨p, q, h1, h2, rfl⟩ := h
    have := trodAll_len ts vs ds q h2
    simpa using this

theorem trodAll_at {H : Type} {enc : TypeId × Value → H} {P : Program} {W : World} {base : Nat} {sp : Nat → Bool} {held : Bool} :
    ∀ {ts : List TypeId} {vs : List Value} {ds : List (DataW H)} {ps : List MemPlace}, DataW.TrodAll enc P W base sp held ts vs ds ps → ∀ (j : Nat) t v, ts[j]? = some t → vs[j]? = some v → ∃ d p, DataW.Trod enc P W base sp held t v d p
  | [], vs, ds, ps, h, j, t, v, ht, hv => by simp at ht
  | t :: ts, [], ds, ps, h, j, t', v', ht, hv => by simp at hv
  | t :: ts, v :: vs, [], ps, h, j, t', v', ht, hv => by simp [DataW.TrodAll] at h
  | t :: ts, v :: vs, d :: ds, ps, h, j, t', v', ht, hv => by
    obtain ⟨p, q, h1, h2, rfl⟩ := h
    cases j with
    | zero => simp at ht hv; subst ht; subst hv; exact ⟨d, p, h1⟩
    | succ j => exact trodAll_at h2 j t' v' (by simpa using ht) (by simpa using hv)

def vI : Value → Int | .int _ n => n | _ => 0
/- Arguments that hold slices. -/
section
variable {H : Type} {enc : TypeId × Value → H} {P : Program} {w : World} {base : Nat} {spare : Nat → Bool} {held : Bool}
theorem trod_rows {t e : TypeId} {size : Nat} {fuel : Nat} {cs : List Value} {x : DataW H × List MemPlace} (ht : P.underlying t = some (.slice e)) (hc : P.cellsOf e = size) (h : DataW.trod enc P w base spare held fuel t cs = some x) :
    ∃ o len cap, cs = [.slice o len cap] ∧ len ≤ cap ∧ cap ≤ maxLen ∧ ∃ rows : List (List Value), rows.length = len ∧ RdO w.cell? size o rows ∧ ∀ r ∈ rows, ∃ n y, DataW.trod enc P w base spare held n e r = some y := by
  rcases Go.Deep.open_slice ht h with ⟨rfl, _⟩ | ⟨a, len, cap, m, n, D, Pl, rfl, _, hl, hcap, hm, _, hi⟩
  · exact ⟨none, 0, 0, rfl, Nat.le_refl _, by unfold maxLen; omega, [], rfl, RdO.nil _ _ _, by simp⟩
  · have hlm : len ≤ m := by rw [hm]; split <;> omega
    refine ⟨some a, len, cap, rfl, hl, hcap, (List.range len).map fun i => (w.cells? base (a.add (i * size)) size).getD [], by simp, fun i r hr => ?_, fun r hr => ?_⟩
    · rw [List.getElem?_map, Option.map_eq_some_iff] at hr
      obtain ⟨i', hi', rfl⟩ := hr
      obtain ⟨hil, hie⟩ := List.getElem?_eq_some_iff.1 hi'
      simp only [List.length_range] at hil
      simp only [List.getElem_range] at hie
      subst hie
      obtain ⟨cs', hcs, hy⟩ := hi i (by omega)
      rw [hc] at hcs
      obtain ⟨_, hcl, hat⟩ := World.cells?_some hcs
      rw [hcs]
      refine ⟨hcl, a, rfl, fun j x hx => ?_⟩
      simp only [Option.getD_some] at hx
      have := hat j (by rw [← hcl]; exact (List.getElem?_eq_some_iff.1 hx).1)
      rw [addr_add_add] at this
      rw [this, hx]
    · simp only [List.mem_map, List.mem_range] at hr
      obtain ⟨i, hil, rfl⟩ := hr
      obtain ⟨cs', hcs, hy⟩ := hi i (by omega)
      rw [hc] at hcs
      rw [hcs]
      exact ⟨n, _, hy⟩
theorem bytes_trod {t e : TypeId} {fuel : Nat} {cs : List Value} {x : DataW H × List MemPlace} (ht : P.underlying t = some (.slice e)) (hc : P.cellsOf e = 1) (hi : P.underlying e = some (.int .u8))
    (h : DataW.trod enc P w base spare held fuel t cs = some x) : ∃ o cap bs, cs = [.slice o bs.length cap] ∧ RdB w.cell? o bs ∧ (∀ b ∈ bs, 0 ≤ b ∧ b < 256) ∧ bs.length ≤ cap ∧ cap ≤ maxLen := by
  obtain ⟨o, len, cap, rfl, hl, hcap, rows, rfl, hr, ht⟩ := trod_rows ht hc h
  have hrow : ∀ r ∈ rows, r = [.int .u8 (vI (r.getD 0 default))] ∧ 0 ≤ vI (r.getD 0 default) ∧ vI (r.getD 0 default) < 256 := by
    intro r hr
    obtain ⟨n, y, hy⟩ := ht r hr
    obtain ⟨b, rfl, _, hw⟩ := DataW.trod_int hi hy
    refine ⟨rfl, ?_⟩
    simp [Lit.wf, IntKind.has, IntKind.min, IntKind.max, IntKind.signed, IntKind.bits] at hw
    simp [vI]; omega
  refine ⟨o, cap, rows.map fun r => vI (r.getD 0 default), by simp, ?_, ?_, by simpa using hl, hcap⟩
  · intro j v hj
    rw [List.getElem?_map, List.getElem?_map] at hj
    cases hrj : rows[j]? with
    | none => rw [hrj] at hj; simp at hj
    | some r =>
      rw [hrj] at hj
      simp only [Option.map_some, Option.some.injEq] at hj
      obtain ⟨_, a, ha, hf⟩ := hr j r hrj
      refine ⟨a, ha, ?_⟩
      have e := (hrow r (List.mem_of_getElem? hrj)).1
      have := hf 0 v (by rw [e, ← hj]; rfl)
      simpa using this
  · intro b hb
    simp only [List.mem_map] at hb
    obtain ⟨r, hr, rfl⟩ := hb
    exact (hrow r hr).2
theorem okWide_sl {r : Reach} {t e : TypeId} {v : Value} (hk : P.underlying t = some (.slice e)) (h : Value.okWide P w r base t v) : v.cells = #[v] := by
  unfold Value.okWide at h
  rw [hk] at h
  simp only [Cell.okWide, hk] at h
  cases v <;> first | rfl | (unfold Cell.ok at h; rw [hk] at h; simp at h)
end
end Go.Sx
namespace Go.Proofs.YtclbanhoiaieaaaGreatDoor
open Go Go.Sx Go.ChangeShapes Go.WideShapes Go.ChangeAt Go.RowKit

theorem own : ownKnob Tryz.prog.godebug = none := by kernel_rfl
theorem laidOut : laidOutB Tryz.prog = true := fxLaid

theorem openBytes {H : Type} {enc : TypeId × Value → H} {w : World} {r : Reach} {base : Nat} {sp : Nat → Bool} {held : Bool} {v : Value} (h : Value.okWide Tryz.prog w r base 41 v) (ht : ∃ d p, DataW.Trod enc Tryz.prog w 0 sp held 41 v d p) :
    ∃ o cap bs, v = .slice o bs.length cap ∧ RdB w.cell? o bs ∧ (∀ b ∈ bs, 0 ≤ b ∧ b < 256) ∧ bs.length ≤ cap ∧ cap ≤ maxLen := by
  have hv := okWide_sl (e := 5) (by kernel_rfl) h
  obtain ⟨d, p, fuel, hf⟩ := ht
  rw [hv] at hf
  obtain ⟨o, cap, bs, e, h1⟩ := bytes_trod (e := 5) (by kernel_rfl) (by kernel_rfl) (by kernel_rfl) hf
  simp at e
  exact ⟨o, cap, bs, e, h1⟩
end Go.Proofs.YtclbanhoiaieaaaGreatDoor

namespace Go.Sx
open Go Go.ChangeShapes Go.WideShapes Go.ChangeAt Go.RowKit Go.WideElems

theorem vars_len {H : Type} {enc : TypeId × Value → H} {P : Program} {W : World} {sp : Nat → Bool} : ∀ {ns : List String} {gs : List (DataW H)} {q : List MemPlace}, DataW.TrodVars enc P W sp ns gs q → gs.length = ns.length
  | [], [], _, _ => rfl
  | [], _ :: _, _, h => h.elim
  | _ :: _, [], _, h => h.elim
  | _ :: ns, _ :: gs, _, h => by
    obtain ⟨g, t, cs, fuel, p, q, _, _, _, _, hs, _⟩ := h
    simp [vars_len hs]
theorem lifted_of_walkL {H : Type} {enc : TypeId × Value → H} {C : Checked} {os : Os} {f : FuncId} {fn : Func} {s : ChangeSpec} {apart fresh handsOn : Bool} {tb : TypeId} {laid : List (String × DataW Unit)}
    (own : ownKnob C.prog.godebug = none) (started : os.Started) (noInit : C.prog.inits.idxOf? f = none) (hfn : C.prog.funcs[f]? = some fn)
    (witness : ∃ (w : World) (tape : Tape) (i : Input), w.os = os ∧ (w.forCall tape i).Shaped C.prog ∧ i.vars = [] ∧ Input.okWide C.prog (w.forCall tape i) .any w.heap.size f i ∧
      ((s.pre enc C.prog fn [] apart (w.forCall tape i).memory i.args ∧ laidMetH C.prog laid (w.forCall tape i).memory) ∧ sizedMet enc C.prog fn (OpenSpec.ofChange s) apart (w.forCall tape i).memory i.args) ∧ ({} : Assume).holds C.prog (lone (Frame.enter C.prog f i.args .normal) [] (w.forCall tape i)))
    (hlaid : laidOutB C.prog = true) (hread : fn.params.toList.all (fun t => C.prog.readableRec t && decide (t < C.prog.types.size)) = true) (hvr : varsRowed C.prog s.vars = true)
    (hrt : fn.resultTypes = #[tb]) (hub : C.prog.underlying tb = some .bool) (hplain : (laid.all fun x => x.2.handleName?.isNone) = true)
    (hs : ∀ ds gs : List (DataW H), ds.length = fn.params.size → gs.length = s.vars.length → s.fn H (ds ++ gs) = { results := [.lit (.bool true)], args := ds, vars := gs })
    (walk : ∀ (W : World) (base : Nat) (args : Array Value), args.size = fn.params.size →
      (∀ (j : Nat) t v, fn.params[j]? = some t → args[j]? = some v → Value.okWide C.prog W .any base t v) →
      (∀ (j : Nat) t v, fn.params[j]? = some t → args[j]? = some v → ∃ d p, DataW.Trod enc C.prog W 0 (fun _ => true) true t v d p) →
      laidMet C.prog laid W → W.ShapedOpen C.prog → Calls C.prog f args W fun e W' => e = .returned (.bool true) ∧ Below W.heap.size W W') :
    ReturnsInHanded {} C os f .any (fun w args => (s.pre enc C.prog fn [] apart w args ∧ laidMetH C.prog laid w) ∧ sizedMet enc C.prog fn (OpenSpec.ofChange s) apart w args) (s.post enc C.prog fn apart fresh handsOn false) := by
  refine returnsInHanded_of_calls (C := C) own started noInit witness ?_
  intro w tape i _ hsh _ hok hpre _
  obtain ⟨_, _, _, fn', hfn', _, _, _, _, hval⟩ := hok
  have efn : fn' = fn := Option.some.inj (hfn'.symm.trans hfn)
  subst efn
  obtain ⟨⟨⟨ds, gs, before, hw, _⟩, hx⟩, _⟩ := hpre
  have hW := DataW.Whole.of_heap (w' := w.forCall tape i) (by rfl) hw
  have hL : laidMetH C.prog laid (w.forCall tape i) := hx.of_heap (by rfl)
  rw [MakeChecks.laidMetH_plain _ _ _ hplain] at hL
  obtain ⟨p, q, hA, hV, rfl, hfz, hnd⟩ := id hW
  have hln := trodAll_len _ _ _ _ hA
  have key : Calls C.prog f i.args (w.forCall tape i) fun e W' => ∃ v, e = .returned v ∧ s.post enc C.prog fn' apart fresh handsOn false (w.forCall tape i) i.args v W' := by
    refine (walk (w.forCall tape i) w.heap.size i.args (by simpa using hln.1) hval (fun j t v ht hv => trodAll_at hA j t v (by simpa using ht) (by simpa using hv)) hL hsh).mono fun e W' ⟨he, hb⟩ => ⟨_, he, ?_⟩
    have hse := hs ds gs (by simpa using hln.2) (vars_len hV)
    refine ⟨ds, gs, p ++ q, [], p, q, hW, ?_, ?_, ?_, hb.frame _, fun h => by cases h⟩
    · rw [hse, hrt]
      exact trodAll_mk1 (shut_bool hub true)
    · rw [hse]
      refine trodAll_below hlaid hb _ _ _ _ (fun t ht => ?_) hA (fun x hx => hW.lt x (by simp [hx]))
      have := List.all_eq_true.1 hread t ht
      simpa using this
    · rw [hse]
      exact Below.trodVars hlaid hb hvr hV
  exact key.mono fun e W' ⟨v, he, hp⟩ => by
    subst he
    exact ChangeSpec.post_blind hp
theorem laid_at {P : Program} {w : World} : ∀ {l : List (String × DataW Unit)} {ps : List MemPlace}, DataW.LaidVars P w l ps → ∀ {n : String} {d : DataW Unit}, (n, d) ∈ l →
    ∃ g t cs f p, P.globalNamed n = some g ∧ (P.globals[g]?).map (·.type) = some t ∧ w.var? P n = some cs ∧ DataW.trod (fun _ => ()) P w 0 (fun _ => true) false f t cs.toList = some (d, p)
  | [], _, _, _, _, h => by simp at h
  | (n', d') :: r, ps, hl, n, d, h => by
    obtain ⟨g, t, cs, fuel, p, q, h1, h2, h3, h4, h5, _⟩ := hl
    rcases List.mem_cons.1 h with h | h
    · cases h
      exact ⟨g, t, cs, fuel, p, h1, h2, h3, h4⟩
    · exact laid_at h5 h
theorem strs_laid {P : Program} {w : World} {t e : TypeId} {n fuel : Nat} {cs : List Value} {zs : List (List UInt8)} {p : List MemPlace} {sp : Nat → Bool} {held : Bool}
    (ht : P.underlying t = some (.array n e)) (he : P.underlying e = some .string) (hce : P.cellsOf e = 1) (hct : P.cellsOf t = n)
    (h : DataW.trod (fun _ => ()) P w 0 sp held fuel t cs = some (.agg (zs.map fun z => .lit (.string z)), p)) : cs = zs.map fun z => Value.string ⟨z.toArray⟩ := by
  obtain ⟨xs, m, rfl, hx, hl, hn, hel⟩ := DataW.trod_array ht h
  simp only [Prod.mk.injEq, DataW.agg.injEq] at hx
  have hzl : zs.length = n := by
    have := congrArg List.length hx.1
    simp at this; omega
  rw [hct] at hl
  refine List.ext_getElem (by simp; omega) fun i h1 h2 => ?_
  have hi : i < n := by omega
  have h3 := hel i hi
  rw [hce, Nat.mul_one] at h3
  have hd : (cs.drop i).take 1 = [cs[i]] := by rw [List.drop_eq_getElem_cons h1]; rfl
  rw [hd, List.getElem?_eq_getElem (by omega)] at h3
  obtain ⟨s, e1, e2, _⟩ := DataW.trod_string he h3
  have h4 : (xs.map (·.1))[i]? = some (.lit (.string s.data.toList)) := by
    rw [List.getElem?_map, List.getElem?_eq_getElem (by omega), e2]; rfl
  rw [← hx.1, List.getElem?_map, List.getElem?_eq_getElem (by omega)] at h4
  simp only [Option.map_some, Option.some.injEq, DataW.lit.injEq, Lit.string.injEq] at h4
  simp only [List.cons.injEq, and_true] at e1
  rw [e1, List.getElem_map, h4]
theorem cells_of_var {P : Program} {w : World} {n : String} {g : Nat} {cs : Array Value} (hg : P.globalNamed n = some g) (h : w.var? P n = some cs) : RdL w.cell? (some ⟨g, 0, none⟩) cs.toList := by
  intro j v hj
  refine ⟨_, rfl, ?_⟩
  rw [addr_add, Nat.zero_add, World.var?_cell hg h j, ← hj]
  simp
theorem laid_strs {P : Program} {w : World} {l : List (String × DataW Unit)} (h : laidMet P l w) {n : String} {zs : List (List UInt8)} (hm : (n, .agg (zs.map fun z => .lit (.string z))) ∈ l) {g t e : Nat} {k : Nat}
    (hg : P.globalNamed n = some g) (hgt : (P.globals[g]?).map (·.type) = some t) (ht : P.underlying t = some (.array k e)) (he : P.underlying e = some .string) (hce : P.cellsOf e = 1) (hct : P.cellsOf t = k) :
    RdL w.cell? (some ⟨g, 0, none⟩) (zs.map fun z => Value.string ⟨z.toArray⟩) := by
  obtain ⟨ps, hl, _⟩ := h
  obtain ⟨g', t', cs, f, p, h1, h2, h3, h4⟩ := laid_at hl hm
  obtain rfl := Option.some.inj (hg.symm.trans h1)
  obtain rfl := Option.some.inj (hgt.symm.trans h2)
  have := strs_laid ht he hce hct h4
  rw [← this]
  exact cells_of_var hg h3
theorem laid_ints {P : Program} {w : World} {l : List (String × DataW Unit)} (h : laidMet P l w) {n : String} {zs : List Int} {ik : IntKind} (hm : (n, .agg (zs.map fun z => .lit (.int ik z))) ∈ l) {g t e : Nat} {k : Nat}
    (hg : P.globalNamed n = some g) (hgt : (P.globals[g]?).map (·.type) = some t) (ht : P.underlying t = some (.array k e)) (he : P.underlying e = some (.int ik)) (hce : P.cellsOf e = 1) (hct : P.cellsOf t = k) :
    Lib.TabIs P w n ik zs ∧ RdL w.cell? (some ⟨g, 0, none⟩) (zs.map (Value.int ik)) := by
  obtain ⟨ps, hl, _⟩ := h
  obtain ⟨g', t', cs, f, p, h1, h2, h3, h4⟩ := laid_at hl hm
  obtain rfl := Option.some.inj (hg.symm.trans h1)
  obtain rfl := Option.some.inj (hgt.symm.trans h2)
  have e1 : cs.toList = zs.map fun z => Value.int ik z := Lib.cells_of_tab ht he hce hct h4
  refine ⟨?_, ?_⟩
  · unfold Lib.TabIs
    rw [h3, ← e1]
  · have := cells_of_var hg h3
    rw [e1] at this
    exact this
end Go.Sx
