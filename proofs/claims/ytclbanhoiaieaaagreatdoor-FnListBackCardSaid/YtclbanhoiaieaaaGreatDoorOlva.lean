/-
  How the laws that read listed variables are opened. Conditions: none.
-/
import Derived.Test.YtclbanhoiaieaaaGreatDoorOva
import Derived.OpenVars
import Derived.LaidMore
import Derived.OpenShut
import Derived.LaidHandle
import Derived.Lib.LaidTab
import Derived.SevenTiedAt
import Derived.Stop.Joined
set_option linter.unusedVariables false
set_option linter.unusedSimpArgs false
set_option maxRecDepth 100000
set_option maxHeartbeats 1000000
namespace Go.Sx
open Go Go.ChangeShapes Go.WideShapes Go.ChangeAt Go.RowKit Go.WideElems

theorem vars_len {H : Type} {enc : TypeId × Value → H} {P : Program} {W : World} {sp : Nat → Bool} : ∀ {ns : List String} {gs : List (DataW H)} {q : List MemPlace}, DataW.TrodVars enc P W sp ns gs q → gs.length = ns.length
  | [], [], _, _ => rfl
  | [], _ :: _, _, h => h.elim
  | _ :: _, [], _, h => h.elim
  | _ :: ns, _ :: gs, _, h => by
    obtain ⟨g, t, cs, fuel, p, q, _, _, _, _, hs, _⟩ := h
    simp [vars_len hs]
theorem lifted_of_walkL {H : Type} {enc : TypeId × Value → H} {C : Checked} {os : Os} {f : FuncId} {fn : Func} {s : ChangeSpec} {apart fresh handsOn : Bool} {tb : TypeId} {laid : List (String × DataW Unit)}
    (own : ownKnob C.prog.godebug = none) (started : os.Started) (noInit : C.prog.inits.idxOf? f = none) (hfn : C.prog.funcs[f]? = some fn)
    (witness : ∃ (w : World) (tape : Tape) (i : Input), w.os = os ∧ (w.forCall tape i).Shaped C.prog ∧ i.vars = [] ∧ Input.okWide C.prog (w.forCall tape i) .any w.heap.size f i ∧
      ((s.pre enc C.prog fn [] apart (w.forCall tape i).memory i.args ∧ laidMetH C.prog laid (w.forCall tape i).memory) ∧ sizedMet enc C.prog fn (OpenSpec.ofChange s) apart (w.forCall tape i).memory i.args) ∧ ({} : Assume).holds C.prog (lone (Frame.enter C.prog f i.args .normal) [] (w.forCall tape i)))
    (hlaid : laidOutB C.prog = true) (hread : fn.params.toList.all (fun t => C.prog.readableRec t && decide (t < C.prog.types.size)) = true) (hvr : varsRowed C.prog s.vars = true)
    (hrt : fn.resultTypes = #[tb]) (hub : C.prog.underlying tb = some .bool) (hplain : (laid.all fun x => x.2.handleName?.isNone) = true)
    (hs : ∀ ds gs : List (DataW H), ds.length = fn.params.size → gs.length = s.vars.length → s.fn H (ds ++ gs) = { results := [.lit (.bool true)], args := ds, vars := gs })
    (walk : ∀ (W : World) (base : Nat) (args : Array Value), args.size = fn.params.size →
      (∀ (j : Nat) t v, fn.params[j]? = some t → args[j]? = some v → Value.okWide C.prog W .any base t v) →
      (∀ (j : Nat) t v, fn.params[j]? = some t → args[j]? = some v → ∃ d p, DataW.Trod enc C.prog W 0 (fun _ => true) true t v d p) →
      laidMet C.prog laid W → W.ShapedOpen C.prog → Calls C.prog f args W fun e W' => e = .returned (.bool true) ∧ Below W.heap.size W W') :
    ReturnsInHanded {} C os f .any (fun w args => (s.pre enc C.prog fn [] apart w args ∧ laidMetH C.prog laid w) ∧ sizedMet enc C.prog fn (OpenSpec.ofChange s) apart w args) (s.post enc C.prog fn apart fresh handsOn false) := by
  refine returnsInHanded_of_calls (C := C) own started noInit witness ?_
  intro w tape i _ hsh _ hok hpre _
  obtain ⟨_, _, _, fn', hfn', _, _, _, _, hval⟩ := hok
  have efn : fn' = fn := Option.some.inj (hfn'.symm.trans hfn)
  subst efn
  obtain ⟨⟨⟨ds, gs, before, hw, _⟩, hx⟩, _⟩ := hpre
  have hW := DataW.Whole.of_heap (w' := w.forCall tape i) (by rfl) hw
  have hL : laidMetH C.prog laid (w.forCall tape i) := hx.of_heap (by rfl)
  rw [MakeChecks.laidMetH_plain _ _ _ hplain] at hL
  obtain ⟨p, q, hA, hV, rfl, hfz, hnd⟩ := id hW
  have hln := trodAll_len _ _ _ _ hA
  have key : Calls C.prog f i.args (w.forCall tape i) fun e W' => ∃ v, e = .returned v ∧ s.post enc C.prog fn' apart fresh handsOn false (w.forCall tape i) i.args v W' := by
    refine (walk (w.forCall tape i) w.heap.size i.args (by simpa using hln.1) hval (fun j t v ht hv => trodAll_at hA j t v (by simpa using ht) (by simpa using hv)) hL hsh).mono fun e W' ⟨he, hb⟩ => ⟨_, he, ?_⟩
    have hse := hs ds gs (by simpa using hln.2) (vars_len hV)
    refine ⟨ds, gs, p ++ q, [], p, q, hW, ?_, ?_, ?_, hb.frame _, fun h => by cases h⟩
    · rw [hse, hrt]
      exact trodAll_mk1 (shut_bool hub true)
    · rw [hse]
      refine trodAll_below hlaid hb _ _ _ _ (fun t ht => ?_) hA (fun x hx => hW.lt x (by simp [hx]))
      have := List.all_eq_true.1 hread t ht
      simpa using this
    · rw [hse]
      exact Below.trodVars hlaid hb hvr hV
  exact key.mono fun e W' ⟨v, he, hp⟩ => by
    subst he
    exact ChangeSpec.post_blind hp
theorem laid_at {P : Program} {w : World} : ∀ {l : List (String × DataW Unit)} {ps : List MemPlace}, DataW.LaidVars P w l ps → ∀ {n : String} {d : DataW Unit}, (n, d) ∈ l →
    ∃ g t cs f p, P.globalNamed n = some g ∧ (P.globals[g]?).map (·.type) = some t ∧ w.var? P n = some cs ∧ DataW.trod (fun _ => ()) P w 0 (fun _ => true) false f t cs.toList = some (d, p)
  | [], _, _, _, _, h => by simp at h
  | (n', d') :: r, ps, hl, n, d, h => by
    obtain ⟨g, t, cs, fuel, p, q, h1, h2, h3, h4, h5, _⟩ := hl
    rcases List.mem_cons.1 h with h | h
    · cases h
      exact ⟨g, t, cs, fuel, p, h1, h2, h3, h4⟩
    · exact laid_at h5 h
theorem strs_laid {P : Program} {w : World} {t e : TypeId} {n fuel : Nat} {cs : List Value} {zs : List (List UInt8)} {p : List MemPlace} {sp : Nat → Bool} {held : Bool}
    (ht : P.underlying t = some (.array n e)) (he : P.underlying e = some .string) (hce : P.cellsOf e = 1) (hct : P.cellsOf t = n)
    (h : DataW.trod (fun _ => ()) P w 0 sp held fuel t cs = some (.agg (zs.map fun z => .lit (.string z)), p)) : cs = zs.map fun z => Value.string ⟨z.toArray⟩ := by
  obtain ⟨xs, m, rfl, hx, hl, hn, hel⟩ := DataW.trod_array ht h
  simp only [Prod.mk.injEq, DataW.agg.injEq] at hx
  have hzl : zs.length = n := by
    have := congrArg List.length hx.1
    simp at this; omega
  rw [hct] at hl
  refine List.ext_getElem (by simp; omega) fun i h1 h2 => ?_
  have hi : i < n := by omega
  have h3 := hel i hi
  rw [hce, Nat.mul_one] at h3
  have hd : (cs.drop i).take 1 = [cs[i]] := by rw [List.drop_eq_getElem_cons h1]; rfl
  rw [hd, List.getElem?_eq_getElem (by omega)] at h3
  obtain ⟨s, e1, e2, _⟩ := DataW.trod_string he h3
  have h4 : (xs.map (·.1))[i]? = some (.lit (.string s.data.toList)) := by
    rw [List.getElem?_map, List.getElem?_eq_getElem (by omega), e2]; rfl
  rw [← hx.1, List.getElem?_map, List.getElem?_eq_getElem (by omega)] at h4
  simp only [Option.map_some, Option.some.injEq, DataW.lit.injEq, Lit.string.injEq] at h4
  simp only [List.cons.injEq, and_true] at e1
  rw [e1, List.getElem_map, h4]
theorem cells_of_var {P : Program} {w : World} {n : String} {g : Nat} {cs : Array Value} (hg : P.globalNamed n = some g) (h : w.var? P n = some cs) : RdL w.cell? (some ⟨g, 0, none⟩) cs.toList := by
  intro j v hj
  refine ⟨_, rfl, ?_⟩
  rw [addr_add, Nat.zero_add, World.var?_cell hg h j, ← hj]
  simp
theorem laid_strs {P : Program} {w : World} {l : List (String × DataW Unit)} (h : laidMet P l w) {n : String} {zs : List (List UInt8)} (hm : (n, .agg (zs.map fun z => .lit (.string z))) ∈ l) {g t e : Nat} {k : Nat}
    (hg : P.globalNamed n = some g) (hgt : (P.globals[g]?).map (·.type) = some t) (ht : P.underlying t = some (.array k e)) (he : P.underlying e = some .string) (hce : P.cellsOf e = 1) (hct : P.cellsOf t = k) :
    RdL w.cell? (some ⟨g, 0, none⟩) (zs.map fun z => Value.string ⟨z.toArray⟩) := by
  obtain ⟨ps, hl, _⟩ := h
  obtain ⟨g', t', cs, f, p, h1, h2, h3, h4⟩ := laid_at hl hm
  obtain rfl := Option.some.inj (hg.symm.trans h1)
  obtain rfl := Option.some.inj (hgt.symm.trans h2)
  have := strs_laid ht he hce hct h4
  rw [← this]
  exact cells_of_var hg h3
theorem laid_ints {P : Program} {w : World} {l : List (String × DataW Unit)} (h : laidMet P l w) {n : String} {zs : List Int} {ik : IntKind} (hm : (n, .agg (zs.map fun z => .lit (.int ik z))) ∈ l) {g t e : Nat} {k : Nat}
    (hg : P.globalNamed n = some g) (hgt : (P.globals[g]?).map (·.type) = some t) (ht : P.underlying t = some (.array k e)) (he : P.underlying e = some (.int ik)) (hce : P.cellsOf e = 1) (hct : P.cellsOf t = k) :
    Lib.TabIs P w n ik zs ∧ RdL w.cell? (some ⟨g, 0, none⟩) (zs.map (Value.int ik)) := by
  obtain ⟨ps, hl, _⟩ := h
  obtain ⟨g', t', cs, f, p, h1, h2, h3, h4⟩ := laid_at hl hm
  obtain rfl := Option.some.inj (hg.symm.trans h1)
  obtain rfl := Option.some.inj (hgt.symm.trans h2)
  have e1 : cs.toList = zs.map fun z => Value.int ik z := Lib.cells_of_tab ht he hce hct h4
  refine ⟨?_, ?_⟩
  · unfold Lib.TabIs
    rw [h3, ← e1]
  · have := cells_of_var hg h3
    rw [e1] at this
    exact this
end Go.Sx
