/-
  Contracts of functions that read or make memory, over known blocks too. Plain lemmas: nothing of a program stands here. Conditions: none.
-/
import Derived.Test.YtclbanhoiaieaaaGreatDoorSyvc
set_option linter.unusedVariables false
set_option linter.unusedSimpArgs false
namespace Go.Sx
open Go

/- What operators give, case by case. -/
@[simp] theorem binI_shl (k k' : IntKind) (a b : Int) : binF .shl (.int k a) (.int k' b) = some (.int k (k.wrap (a * 2 ^ min b.toNat k.bits)), 0 ≤ b) := Eq.trans rfl rfl
@[simp] theorem binI_shr (k k' : IntKind) (a b : Int) : binF .shr (.int k a) (.int k' b) = some (.int k (a.fdiv (2 ^ min b.toNat k.bits)), 0 ≤ b) := Eq.trans rfl rfl
@[simp] theorem binI_add (k k' : IntKind) (a b : Int) : binF .add (.int k a) (.int k' b) = some (.int k (k.wrap (a + b)), k = k') := Eq.trans rfl rfl
@[simp] theorem binI_sub (k k' : IntKind) (a b : Int) : binF .sub (.int k a) (.int k' b) = some (.int k (k.wrap (a - b)), k = k') := Eq.trans rfl rfl
@[simp] theorem binI_mul (k k' : IntKind) (a b : Int) : binF .mul (.int k a) (.int k' b) = some (.int k (k.wrap (a * b)), k = k') := Eq.trans rfl rfl
@[simp] theorem binI_quo (k k' : IntKind) (a b : Int) : binF .quo (.int k a) (.int k' b) = some (.int k (k.wrap (a.tdiv b)), k = k' ∧ b ≠ 0) := Eq.trans rfl rfl
@[simp] theorem binI_rem (k k' : IntKind) (a b : Int) : binF .rem (.int k a) (.int k' b) = some (.int k (a.tmod b), k = k' ∧ b ≠ 0) := Eq.trans rfl rfl
@[simp] theorem binI_and (k k' : IntKind) (a b : Int) : binF .and (.int k a) (.int k' b) = some (.int k (k.wrap (BitVec.ofInt k.bits a &&& BitVec.ofInt k.bits b).toNat), k = k') := Eq.trans rfl rfl
@[simp] theorem binI_or (k k' : IntKind) (a b : Int) : binF .or (.int k a) (.int k' b) = some (.int k (k.wrap (BitVec.ofInt k.bits a ||| BitVec.ofInt k.bits b).toNat), k = k') := Eq.trans rfl rfl
@[simp] theorem binI_xor (k k' : IntKind) (a b : Int) : binF .xor (.int k a) (.int k' b) = some (.int k (k.wrap (BitVec.ofInt k.bits a ^^^ BitVec.ofInt k.bits b).toNat), k = k') := Eq.trans rfl rfl
@[simp] theorem binI_andNot (k k' : IntKind) (a b : Int) : binF .andNot (.int k a) (.int k' b) = some (.int k (k.wrap (BitVec.ofInt k.bits a &&& ~~~ BitVec.ofInt k.bits b).toNat), k = k') := Eq.trans rfl rfl
@[simp] theorem binI_eql (k k' : IntKind) (a b : Int) : binF .eql (.int k a) (.int k' b) = some (.bool (a == b), k = k') := Eq.trans rfl rfl
@[simp] theorem binI_neq (k k' : IntKind) (a b : Int) : binF .neq (.int k a) (.int k' b) = some (.bool (a != b), k = k') := Eq.trans rfl rfl
@[simp] theorem binI_lss (k k' : IntKind) (a b : Int) : binF .lss (.int k a) (.int k' b) = some (.bool (decide (a < b)), k = k') := Eq.trans rfl rfl
@[simp] theorem binI_leq (k k' : IntKind) (a b : Int) : binF .leq (.int k a) (.int k' b) = some (.bool (decide (a ≤ b)), k = k') := Eq.trans rfl rfl
@[simp] theorem binI_gtr (k k' : IntKind) (a b : Int) : binF .gtr (.int k a) (.int k' b) = some (.bool (decide (b < a)), k = k') := Eq.trans rfl rfl
@[simp] theorem binI_geq (k k' : IntKind) (a b : Int) : binF .geq (.int k a) (.int k' b) = some (.bool (decide (b ≤ a)), k = k') := Eq.trans rfl rfl
@[simp] theorem binR_eql (k k' : FloatKind) (a b : Nat) : binF .eql (.float k a) (.float k' b) = some (.bool (k.format.order a b == some .eq), k = k') := Eq.trans rfl rfl
@[simp] theorem binR_neq (k k' : FloatKind) (a b : Nat) : binF .neq (.float k a) (.float k' b) = some (.bool (k.format.order a b != some .eq), k = k') := Eq.trans rfl rfl
@[simp] theorem binR_lss (k k' : FloatKind) (a b : Nat) : binF .lss (.float k a) (.float k' b) = some (.bool (k.format.order a b == some .lt), k = k') := Eq.trans rfl rfl
@[simp] theorem binR_leq (k k' : FloatKind) (a b : Nat) : binF .leq (.float k a) (.float k' b) = some (.bool (k.format.order a b == some .lt || k.format.order a b == some .eq), k = k') := Eq.trans rfl rfl
@[simp] theorem binR_gtr (k k' : FloatKind) (a b : Nat) : binF .gtr (.float k a) (.float k' b) = some (.bool (k.format.order a b == some .gt), k = k') := Eq.trans rfl rfl
@[simp] theorem binR_geq (k k' : FloatKind) (a b : Nat) : binF .geq (.float k a) (.float k' b) = some (.bool (k.format.order a b == some .gt || k.format.order a b == some .eq), k = k') := Eq.trans rfl rfl
@[simp] theorem binS_add (a b : ByteArray) : binF .add (.string a) (.string b) = some (.string (a ++ b), a.size + b.size ≤ 9223372036854775807) := Eq.trans rfl rfl
@[simp] theorem binS_eql (a b : ByteArray) : binF .eql (.string a) (.string b) = some (.bool (a.toList == b.toList), True) := Eq.trans rfl rfl
@[simp] theorem binS_neq (a b : ByteArray) : binF .neq (.string a) (.string b) = some (.bool (!(a.toList == b.toList)), True) := Eq.trans rfl rfl
@[simp] theorem binA (op : BinOp) (a b : Array Value) : binF op (.agg a) (.agg b) = none := Eq.trans rfl rfl
@[simp] theorem binB (op : BinOp) (a b : Bool) : binF op (.bool a) (.bool b) = none := Eq.trans rfl rfl
@[simp] theorem binN_iface (op : BinOp) (u : TypeId) (x : Value) (b : Value) : binF op (.iface u x) b = none := by cases b <;> rfl
@[simp] theorem binN_nil (op : BinOp) (b : Value) : binF op .nilIface b = none := by cases b <;> rfl
@[simp] theorem aggN_iface (P : Program) (op : BinOp) (t u : TypeId) (x : Value) (b : Value) : aggEqFn P op t (.iface u x) b = none := by cases b <;> rfl
@[simp] theorem aggN_nil (P : Program) (op : BinOp) (t : TypeId) (b : Value) : aggEqFn P op t .nilIface b = none := by cases b <;> rfl
@[simp] theorem nilN_ie (P : Program) (t : TypeId) (c : Value) (u : TypeId) (x : Value) : nilEqFn P .eql t (.const c) (.iface u x) .nilIface = some (.bool false, P.isIface t = true) := Eq.trans rfl rfl
@[simp] theorem nilN_in (P : Program) (t : TypeId) (c : Value) (u : TypeId) (x : Value) : nilEqFn P .neq t (.const c) (.iface u x) .nilIface = some (.bool true, P.isIface t = true) := Eq.trans rfl rfl
@[simp] theorem nilN_ne (P : Program) (t : TypeId) (c : Value) : nilEqFn P .eql t (.const c) .nilIface .nilIface = some (.bool true, P.isIface t = true) := Eq.trans rfl rfl
@[simp] theorem nilN_nn (P : Program) (t : TypeId) (c : Value) : nilEqFn P .neq t (.const c) .nilIface .nilIface = some (.bool false, P.isIface t = true) := Eq.trans rfl rfl
@[simp] theorem nilN_se (P : Program) (t : TypeId) (c : Value) (o : Option Addr) (n k : Nat) : nilEqFn P .eql t (.const c) (.slice o n k) (.slice none 0 0) = some (.bool o.isNone, isSl P t = true) := Eq.trans rfl rfl
@[simp] theorem nilN_sn (P : Program) (t : TypeId) (c : Value) (o : Option Addr) (n k : Nat) : nilEqFn P .neq t (.const c) (.slice o n k) (.slice none 0 0) = some (.bool (!o.isNone), isSl P t = true) := Eq.trans rfl rfl
@[simp] theorem aggE_eql (P : Program) (t : TypeId) (a b : Array Value) : aggEqFn P .eql t (.agg a) (.agg b) = match eqFn P 12 t (.agg a) (.agg b) with | some b => some (.bool b, P.eqGuardType P.depth t = false) | none => none := Eq.trans rfl rfl
@[simp] theorem aggE_neq (P : Program) (t : TypeId) (a b : Array Value) : aggEqFn P .neq t (.agg a) (.agg b) = match eqFn P 12 t (.agg a) (.agg b) with | some b => some (.bool (!b), P.eqGuardType P.depth t = false) | none => none := Eq.trans rfl rfl
@[simp] theorem aggB_eql (P : Program) (t : TypeId) (a b : Bool) : aggEqFn P .eql t (.bool a) (.bool b) = some (.bool (a == b), P.underlying t = some .bool) := Eq.trans rfl rfl
@[simp] theorem aggB_neq (P : Program) (t : TypeId) (a b : Bool) : aggEqFn P .neq t (.bool a) (.bool b) = some (.bool (a != b), P.underlying t = some .bool) := Eq.trans rfl rfl

section
variable {P : Program}

def EndK (d : Nat) (K : Cx → C → List Blk → Prop) (cx : Cx) (c : C) (mem : List Blk) (_u : Tag K := ⟨⟩) : Prop :=
  ∀ w', MemRel cx mem w' → ∃ cx' c' mem', den c' = den c ∧ MemRel cx' mem' w' ∧ K cx' c' mem'
@[congr] theorem EndK_congr {d d' : Nat} {K : Cx → C → List Blk → Prop} {cx : Cx} {c c' : C} {mem mem' : List Blk} (h : d = d') (h1 : c = c') (h2 : mem = mem') : EndK d K cx c mem = EndK d' K cx c' mem' := by rw [h, h1, h2]

theorem EndK.plain {d : Nat} {K : Cx → C → List Blk → Prop} {cx : Cx} {c : C} {mem : List Blk} (j : Nat) (h : K cx c (mem.take j)) : EndK d K cx c mem :=
  fun w' hm => ⟨cx, c, _, rfl, memRel_take hm j, h⟩
theorem EndK.all {d : Nat} {K : Cx → C → List Blk → Prop} {cx : Cx} {c : C} {mem : List Blk} (h : K cx c mem) : EndK d K cx c mem :=
  fun w' hm => ⟨cx, c, _, rfl, hm, h⟩
theorem EndK.left {d : Nat} {K : Cx → C → List Blk → Prop} {cx : Cx} {c : C} {mem ex : List Blk} (h : K cx c mem) : EndK d K cx c (mem ++ ex) :=
  EndK.plain mem.length (by rw [List.take_left]; exact h)

theorem memRel_facts {cx : Cx} {mem ex : List Blk} {w : World} (hm : MemRel cx (mem ++ ex) w) :
    MemRel ⟨cx.w0, cx.g0, w, mem.map (·.id)⟩ mem w ∧ Le cx ⟨cx.w0, cx.g0, w, mem.map (·.id)⟩ ∧
      ∀ bl ∈ ex, ∀ (off : Nat) c, bl.cells[off]? = some c → factF ⟨cx.w0, cx.g0, w, mem.map (·.id)⟩ ⟨bl.id, off, none⟩ = some (den c) := by
  have hm1 : MemRel cx mem w := by
    have := memRel_take hm mem.length
    rwa [List.take_left] at this
  obtain ⟨h1, h2, _⟩ := memRel_on hm1 (RowKit.Below.refl _ _)
  refine ⟨h1, h2, fun b hb off c hc => ?_⟩
  obtain ⟨j, hj⟩ := List.getElem?_of_mem hb
  have hj' : (mem ++ ex)[mem.length + j]? = some b := by
    rw [List.getElem?_append_right (by omega)]; simpa using hj
  unfold factF
  rw [if_neg]
  · show w.cell? ⟨b.id, off, none⟩ = some (den c)
    unfold World.cell?
    simp only
    rw [hm.blk _ b hj']
    simp [hc]
  · simp only [List.mem_map, not_exists, not_and]
    intro b' hb' he
    obtain ⟨i, hi⟩ := List.getElem?_of_mem hb'
    have hil := (List.getElem?_eq_some_iff.1 hi).1
    have hi' : (mem ++ ex)[i]? = some b' := by rw [List.getElem?_append_left hil]; exact hi
    have := hm.inj i (mem.length + j) b' b hi' hj' he
    omega
theorem EndK.facts {d : Nat} {K : Cx → C → List Blk → Prop} {cx : Cx} {c : C} {mem ex : List Blk}
    (h : ∀ cx', Le cx cx' → (∀ bl ∈ ex, ∀ (off : Nat) c, bl.cells[off]? = some c → factF cx' ⟨bl.id, off, none⟩ = some (den c)) → K cx' (.v (den c)) mem) : EndK d K cx c (mem ++ ex) := fun w' hm => by
  obtain ⟨h1, h2, h3⟩ := memRel_facts hm
  exact ⟨_, .v (den c), mem, rfl, h1, h _ h2 h3⟩

theorem step_of_vcs (σ : Env P) (hmx : P.follows .mixedOrders = true) {f : FuncId} {fn : Func} {c : Code} (hf : P.funcs[f]? = some fn) (hb : fn.body = some c) (hc : codeOk P σ fn.ntmps c = true)
    {args : List C} (hn : args.length ≤ fn.ntmps) {cx : Cx} {mem : List Blk} {w : World} (hm : MemRel cx mem w) (K : Cx → C → List Blk → Prop) (n : Nat)
    (h : vcs P σ fn.ntmps (endVC P fn.results.toList (EndK (1 + 1) K)) n [.code c] cx (args.zipIdx.map fun x => (x.2, x.1)) mem) :
    Calls P f (args.map den).toArray w (fun e w' => ∃ cx' c mem', e = .returned (den c) ∧ MemRel cx' mem' w' ∧ K cx' c mem') := by
  refine (calls_of_vcs hmx hf hb hc hn hm (EndK (1 + 1) K) n h).mono ?_
  rintro e w' ⟨cx', c, mem', rfl, hm', hk⟩
  obtain ⟨cx2, c2, mem2, h1, h2, h3⟩ := hk w' hm'
  exact ⟨cx2, c2, mem2, by rw [h1], h2, h3⟩

structure Steps (P : Program) (f : FuncId) where
  tr : Cx → List C → List Blk → (Cx → C → List Blk → Prop) → Prop
  enter : ∀ args w, (callFunc f args).run P w = .ok (.enter f args) w
  fr : ∀ cx args mem ex K, tr cx args mem K → tr cx args (mem ++ ex) (fun cx' c mem' => ∃ mem2, mem' = mem2 ++ ex ∧ cx'.w0 = cx.w0 ∧ K cx' c mem2)
  h : ∀ cx args mem K w, MemRel cx mem w → tr cx args mem K → Calls P f (args.map den).toArray w (fun e w' => ∃ cx' c mem', e = .returned (den c) ∧ MemRel cx' mem' w' ∧ K cx' c mem')
def Con.step {f : FuncId} (S : Steps P f) : Con P where
  f := f
  tr := S.tr
  sound cx args mem K w hm h := Or.inl ⟨S.enter _ _, S.h cx args mem K w hm h⟩
  pu := none
  puTr rel hrel := by simp at hrel
  puSound rel hrel := by simp at hrel
  rd := false
  rdSound := fun h => by cases h
  fr := true
  frSound _ := S.fr

structure Rdr where
  k : Nat
  b : Nat
  o : Option Addr
  cap : Nat
  bs : List Int
  ty : TypeId
def Rdr.blk (R : Rdr) (p : Int) : Blk := ⟨R.b, [.v (.slice R.o R.bs.length R.cap), .v (.int .i64 p)], R.ty⟩
structure Rdr.Is (R : Rdr) (F : Facts) (mem : List Blk) : Prop where
  lt : R.k < mem.length
  rd : RdB F R.o R.bs
  byte : ∀ x ∈ R.bs, 0 ≤ x ∧ x < 256
  len : R.bs.length ≤ 2000
theorem Rdr.Is.on {R : Rdr} {F G : Facts} {mem mem' : List Blk} (h : R.Is F mem) (hs : Sub F G) (hl : mem.length ≤ mem'.length) : R.Is G mem' := ⟨Nat.lt_of_lt_of_le h.lt hl, h.rd.mono hs, h.byte, h.len⟩

structure Draws (P : Program) (ty : TypeId) (c : Int) (f : FuncId) where
  ι : Type
  A : ι → List C
  pre : ι → Facts → Prop
  post : ι → Value → Facts → Prop
  mono : ∀ i F G, Sub F G → pre i F → pre i G
  enter : ∀ args w, (callFunc f args).run P w = .ok (.enter f args) w
  h : ∀ i (R : Rdr) p cx mem w, R.ty = ty → R.Is (factF cx) mem → 0 ≤ p → p + c ≤ 1125899906842624 → pre i (factF cx) → MemRel cx (mem.set R.k (R.blk p)) w →
    Calls P f ((.p R.k R.b 0 :: A i).map den).toArray w (fun e w' => ∃ cx' x mem', e = .returned (den x) ∧ MemRel cx' mem' w' ∧
      ∃ v p', x = .v v ∧ mem' = mem.set R.k (R.blk p') ∧ Le cx cx' ∧ p ≤ p' ∧ p' ≤ p + c ∧ post i v (factF cx'))

def DrawV {ty : TypeId} {c : Int} {f : FuncId} (d : Nat) (S : Draws P ty c f) (cx : Cx) (args : List C) (mem : List Blk) (K : Cx → C → List Blk → Prop) (_u : Tag K := ⟨⟩) : Prop :=
  ∃ (i : S.ι) (R : Rdr) (p : Int) (mem0 : List Blk), R.ty = ty ∧ R.Is (factF cx) mem0 ∧ 0 ≤ p ∧ p + c ≤ 1125899906842624 ∧ S.pre i (factF cx) ∧ args = .p R.k R.b 0 :: S.A i ∧ mem = mem0.set R.k (R.blk p) ∧
    ∀ cx' v p', Le cx cx' → p ≤ p' → p' ≤ p + c → S.post i v (factF cx') → K cx' (.v v) (mem0.set R.k (R.blk p'))
@[congr] theorem DrawV_congr {ty : TypeId} {c : Int} {f : FuncId} {d d' : Nat} {S : Draws P ty c f} {cx : Cx} {args args' : List C} {mem : List Blk} {K : Cx → C → List Blk → Prop} (h' : d = d') (h : args = args') :
    DrawV d S cx args mem K = DrawV d' S cx args' mem K := by rw [h]; rfl

def Draws.steps {ty : TypeId} {c : Int} {f : FuncId} (S : Draws P ty c f) : Steps P f where
  tr cx args mem K := DrawV (1 + 1) S cx args mem K
  enter := S.enter
  fr cx args mem ex K := by
    rintro ⟨i, R, p, mem0, h1, h2, h3, h4, h5, h6, rfl, hk⟩
    refine ⟨i, R, p, mem0 ++ ex, h1, h2.on (Sub.refl _) (by simp), h3, h4, h5, h6, ?_, fun cx' v p' g1 g2 g3 g4 => ⟨_, ?_, g1.w0, hk cx' v p' g1 g2 g3 g4⟩⟩
    · rw [List.set_append_left _ _ h2.lt]
    · rw [List.set_append_left _ _ h2.lt]
  h cx args mem K w hm := by
    rintro ⟨i, R, p, mem0, h1, h2, h3, h4, h5, rfl, rfl, hk⟩
    refine (S.h i R p cx mem0 w h1 h2 h3 h4 h5 hm).mono ?_
    rintro e w' ⟨cx', x, mem', rfl, hm', v, p', rfl, rfl, g1, g2, g3, g4⟩
    exact ⟨cx', _, _, rfl, hm', hk cx' v p' g1 g2 g3 g4⟩
def Con.draw {ty : TypeId} {c : Int} {f : FuncId} (S : Draws P ty c f) : Con P := Con.step S.steps
theorem DrawV.at {ty : TypeId} {c : Int} {f : FuncId} {d : Nat} {S : Draws P ty c f} {R : Rdr} {cx0 cx : Cx} {mem0 ex : List Blk} {K : Cx → C → List Blk → Prop} (hR : R.Is (factF cx0) mem0) (ht : R.ty = ty) (hle : Le cx0 cx) (i : S.ι) {p : Int}
    (hp : 0 ≤ p ∧ p + c ≤ 1125899906842624) (hpre : S.pre i (factF cx)) (h : ∀ cx' v p', Le cx0 cx' → Le cx cx' → p ≤ p' → p' ≤ p + c → S.post i v (factF cx') → K cx' (.v v) (mem0.set R.k (R.blk p') ++ ex)) :
    DrawV d S cx (.p R.k R.b 0 :: S.A i) (mem0.set R.k (R.blk p) ++ ex) K :=
  ⟨i, R, p, mem0 ++ ex, ht, hR.on hle.fact (by simp), hp.1, hp.2, hpre, rfl, by rw [List.set_append_left _ _ hR.lt], fun cx' v p' g1 g2 g3 g4 => by
    rw [List.set_append_left _ _ hR.lt]; exact h cx' v p' (hle.trans g1) g1 g2 g3 g4⟩
theorem DrawV.at0 {ty : TypeId} {c : Int} {f : FuncId} {d : Nat} {S : Draws P ty c f} {R : Rdr} {cx0 cx : Cx} {mem0 : List Blk} {K : Cx → C → List Blk → Prop} (hR : R.Is (factF cx0) mem0) (ht : R.ty = ty) (hle : Le cx0 cx) (i : S.ι) {p : Int}
    (hp : 0 ≤ p ∧ p + c ≤ 1125899906842624) (hpre : S.pre i (factF cx)) (h : ∀ cx' v p', Le cx0 cx' → Le cx cx' → p ≤ p' → p' ≤ p + c → S.post i v (factF cx') → K cx' (.v v) (mem0.set R.k (R.blk p'))) :
    DrawV d S cx (.p R.k R.b 0 :: S.A i) (mem0.set R.k (R.blk p)) K :=
  ⟨i, R, p, mem0, ht, hR.on hle.fact (by simp), hp.1, hp.2, hpre, rfl, rfl, fun cx' v p' g1 g2 g3 g4 => h cx' v p' (hle.trans g1) g1 g2 g3 g4⟩

end
end Go.Sx
namespace Go.Sx
open Go

section
variable {P : Program}

structure Gens (P : Program) (f : FuncId) where
  ι : Type
  A : ι → List C
  pre : ι → Cx → List Blk → Prop
  post : ι → Cx → List Blk → Cx → C → List Blk → Prop
  enter : ∀ args w, (callFunc f args).run P w = .ok (.enter f args) w
  h : ∀ i cx mem w, pre i cx mem → MemRel cx mem w → Calls P f ((A i).map den).toArray w (fun e w' => ∃ cx' c mem', e = .returned (den c) ∧ MemRel cx' mem' w' ∧ post i cx mem cx' c mem')
def GenV {f : FuncId} (d : Nat) (S : Gens P f) (cx : Cx) (args : List C) (mem : List Blk) (K : Cx → C → List Blk → Prop) (_u : Tag K := ⟨⟩) : Prop :=
  ∃ i, args = S.A i ∧ S.pre i cx mem ∧ ∀ cx' c mem', S.post i cx mem cx' c mem' → K cx' c mem'
@[congr] theorem GenV_congr {f : FuncId} {d d' : Nat} {S : Gens P f} {cx : Cx} {args args' : List C} {mem mem' : List Blk} {K : Cx → C → List Blk → Prop} (h' : d = d') (h : args = args') (hm : mem = mem') :
    GenV d S cx args mem K = GenV d' S cx args' mem' K := by rw [h, hm]; rfl
def Con.gen {f : FuncId} (S : Gens P f) : Con P where
  f := f
  tr cx args mem K := GenV (1 + 1) S cx args mem K
  sound cx args mem K w hm := by
    rintro ⟨i, rfl, hp, hk⟩
    refine Or.inl ⟨S.enter _ _, (S.h i cx mem w hp hm).mono ?_⟩
    rintro e w' ⟨cx', c, mem', rfl, hm', hpo⟩
    exact ⟨cx', c, mem', rfl, hm', hk _ _ _ hpo⟩
  pu := none
  puTr rel hrel := by simp at hrel
  puSound rel hrel := by simp at hrel
  rd := false
  rdSound := fun h => by cases h
  fr := false
  frSound := fun h => by cases h

theorem blk_cell {cx : Cx} {mem : List Blk} {w : World} (hm : MemRel cx mem w) {k : Nat} {B : Blk} (hk : mem[k]? = some B) {off : Nat} {c : C} (hc : B.cells[off]? = some c) : w.cell? ⟨B.id, off, none⟩ = some (den c) := by
  unfold World.cell?
  simp only
  rw [hm.blk k B hk]
  simp [hc]
end
end Go.Sx
namespace Go.Sx
open Go

section
variable {P : Program}

def RdsW {f : FuncId} (d : Nat) (S : Reads P f) (cx : Cx) (args : List C) (mem : List Blk) (K : C → Prop) (_u : Tag K := ⟨⟩) : Prop :=
  ∃ i, args.map den = S.A i ∧ (∀ w, MemRel cx mem w → S.pre i w.cell?) ∧ K (.v (S.res i))
@[congr] theorem RdsW_congr {f : FuncId} {d d' : Nat} {S : Reads P f} {cx : Cx} {args args' : List C} {mem : List Blk} {K : C → Prop} (h' : d = d') (h : args = args') : RdsW d S cx args mem K = RdsW d' S cx args' mem K := by rw [h]; rfl
def Con.readW {f : FuncId} (S : Reads P f) : Con P where
  f := f
  tr cx args mem K := RdsW (1 + 1) S cx args mem fun x => K cx x mem
  sound cx args mem K w hm := by
    rintro ⟨i, ha, hp, hk⟩
    rw [ha]
    refine Or.inl ⟨S.enter _ _, (S.h i w (hp w hm)).mono ?_⟩
    rintro e w' ⟨rfl, hb⟩
    exact ⟨cx, _, mem, rfl, memRel_below hm hb, hk⟩
  pu := none
  puTr rel hrel := by simp at hrel
  puSound rel hrel := by simp at hrel
  rd := true
  rdSound _ cx args mem K := by
    rintro ⟨i, ha, hp, hk⟩
    refine ⟨_, hk, fun w hm => ?_⟩
    rw [ha]
    exact Or.inl ⟨S.enter _ _, S.h i w (hp w hm)⟩
  fr := true
  frSound _ cx args mem ex K := by
    rintro ⟨i, ha, hp, hk⟩
    refine ⟨i, ha, fun w hm => hp w ?_, _, rfl, rfl, hk⟩
    have := memRel_take hm mem.length
    rwa [List.take_left] at this
def MksW {f : FuncId} (d : Nat) (S : Makes P f) (cx : Cx) (args : List C) (mem : List Blk) (K : Cx → C → Prop) (_u : Tag K := ⟨⟩) : Prop :=
  ∃ i, args.map den = S.A i ∧ (∀ w, MemRel cx mem w → S.pre i w.cell?) ∧ ∀ cx' v, Le cx cx' → S.post i v (newF cx') → K cx' (.v v)
@[congr] theorem MksW_congr {f : FuncId} {d d' : Nat} {S : Makes P f} {cx : Cx} {args args' : List C} {mem : List Blk} {K : Cx → C → Prop} (h' : d = d') (h : args = args') : MksW d S cx args mem K = MksW d' S cx args' mem K := by rw [h]; rfl
theorem readW_at {f : FuncId} {S : Reads P f} {d : Nat} {cx : Cx} {args : List C} {mem : List Blk} {K : C → Prop} (i : S.ι) (h1 : args.map den = S.A i) (h2 : ∀ w, MemRel cx mem w → S.pre i w.cell?) (h : K (.v (S.res i))) : RdsW d S cx args mem K := ⟨i, h1, h2, h⟩
end
end Go.Sx
