/-
  Contracts of functions that read slices or hand new memory back, over the facts of a world. Plain lemmas: nothing of a program stands here. Conditions: none.
-/
import Derived.Test.YtclbanhoiaieaaaGreatDoorSxvc
set_option linter.unusedVariables false
set_option linter.unusedSimpArgs false
namespace Go.Sx
open Go

theorem Sub.refl (F : Facts) : Sub F F := fun _ _ h => h
theorem Sub.trans {F G H : Facts} (h : Sub F G) (h' : Sub G H) : Sub F H := fun a v e => h' a v (h a v e)

theorem Le.refl (cx : Cx) : Le cx cx := ⟨rfl, rfl, Sub.refl _⟩
theorem Le.trans {a b c : Cx} (h : Le a b) (h' : Le b c) : Le a c := ⟨h'.w0.trans h.w0, h'.g0.trans h.g0, h.fact.trans h'.fact⟩
theorem Le.new {a b : Cx} (h : Le a b) : Sub (newF a) (newF b) := fun x v e => by
  unfold newF at e ⊢
  rw [h.w0]
  split at e
  · rename_i hl; rw [if_pos hl]; exact h.fact x v e
  · simp at e
theorem sub_new (cx : Cx) : Sub (newF cx) (factF cx) := fun a v e => by
  unfold newF at e; split at e
  · exact e
  · simp at e
theorem sub_now (cx : Cx) (mem : List Blk) : Sub (factF cx) (nowF cx mem) := fun a v e => by simp [nowF, e]
theorem factF_init (w : World) : factF ⟨w, [], w, []⟩ = w.cell? := by funext a; simp [factF]
theorem memF_app {mem : List Blk} {x : Blk} {a : Addr} {v : Value} (h : memF mem a = some v) : memF (mem ++ [x]) a = some v := by
  induction mem with
  | nil => simp [memF] at h
  | cons b r ih =>
    simp only [List.cons_append, memF] at h ⊢
    split
    · rename_i hb; rw [if_pos hb] at h; exact h
    · rename_i hb; rw [if_neg hb] at h; exact ih h

section
variable {P : Program}

structure Reads (P : Program) (f : FuncId) where
  ι : Type
  A : ι → List Value
  pre : ι → Facts → Prop
  res : ι → Value
  mono : ∀ i F G, Sub F G → pre i F → pre i G
  uniq : ∀ i j F, A i = A j → pre i F → pre j F → res i = res j
  enter : ∀ args w, (callFunc f args).run P w = .ok (.enter f args) w
  h : ∀ i w, pre i w.cell? → Calls P f (A i).toArray w (fun e w' => e = .returned (res i) ∧ RowKit.Below w.heap.size w w')

def ReadV {f : FuncId} (d : Nat) (S : Reads P f) (cx : Cx) (args : List C) (mem : List Blk) (K : C → Prop) (_u : Tag K := ⟨⟩) : Prop :=
  ∃ i, args.map den = S.A i ∧ S.pre i (nowF cx mem) ∧ K (.v (S.res i))
@[congr] theorem ReadV_congr {f : FuncId} {d d' : Nat} {S : Reads P f} {cx : Cx} {args args' : List C} {mem : List Blk} {K : C → Prop} (h' : d = d') (h : args = args') : ReadV d S cx args mem K = ReadV d' S cx args' mem K := by rw [h]; rfl

theorem Reads.eq {f : FuncId} {d : Nat} (S : Reads P f) {cx : Cx} {args : List C} {mem : List Blk} {K : C → Prop} (i : S.ι) (h1 : args.map den = S.A i) (h2 : S.pre i (nowF cx mem)) :
    ReadV d S cx args mem K = K (.v (S.res i)) := by
  apply propext
  constructor
  · rintro ⟨j, e, hp, hk⟩
    rw [← S.uniq j i (nowF cx mem) (e.symm.trans h1) hp h2]; exact hk
  · intro hk; exact ⟨i, h1, h2, hk⟩

theorem now_app (cx : Cx) (mem ex : List Blk) : Sub (nowF cx mem) (nowF cx (mem ++ ex)) := by
  have key : ∀ (ex : List Blk) (mem : List Blk) a v, memF mem a = some v → memF (mem ++ ex) a = some v := by
    intro ex
    induction ex with
    | nil => intro mem a v h; simpa using h
    | cons x r ih =>
      intro mem a v h
      have := ih (mem ++ [x]) a v (memF_app h)
      simpa [List.append_assoc] using this
  intro a v h
  unfold nowF at h ⊢
  cases hf : factF cx a with
  | some x => rw [hf] at h; simpa using h
  | none => rw [hf] at h; simp at h; simpa using key ex mem a v h
theorem sub_cell {cx : Cx} {mem : List Blk} {w : World} (hm : MemRel cx mem w) : Sub (nowF cx mem) w.cell? := fun _ _ h => nowF_cell hm h

def Con.read {f : FuncId} (S : Reads P f) : Con P where
  f := f
  tr cx args mem K := ReadV (1 + 1) S cx args mem fun x => K cx x mem
  sound cx args mem K w hm := by
    rintro ⟨i, ha, hp, hk⟩
    rw [ha]
    refine Or.inl ⟨S.enter _ _, (S.h i w (S.mono i _ _ (sub_cell hm) hp)).mono ?_⟩
    rintro e w' ⟨rfl, hb⟩
    exact ⟨cx, _, mem, rfl, memRel_below hm hb, hk⟩
  pu := none
  puTr rel hrel := by simp at hrel
  puSound rel hrel := by simp at hrel
  rd := true
  rdSound _ cx args mem K := by
    rintro ⟨i, ha, hp, hk⟩
    refine ⟨_, hk, fun w hm => ?_⟩
    rw [ha]
    exact Or.inl ⟨S.enter _ _, S.h i w (S.mono i _ _ (sub_cell hm) hp)⟩
  fr := true
  frSound _ cx args mem ex K := by
    rintro ⟨i, ha, hp, hk⟩
    exact ⟨i, ha, S.mono i _ _ (now_app _ _ _) hp, _, rfl, rfl, hk⟩

structure Rels (P : Program) (f : FuncId) where
  ι : Type
  A : ι → List Value
  pre : ι → Facts → Prop
  post : ι → Value → Prop
  mono : ∀ i F G, Sub F G → pre i F → pre i G
  enter : ∀ args w, (callFunc f args).run P w = .ok (.enter f args) w
  h : ∀ i w, pre i w.cell? → Calls P f (A i).toArray w (fun e w' => ∃ v, e = .returned v ∧ post i v ∧ RowKit.Below w.heap.size w w')

def RelV {f : FuncId} (d : Nat) (S : Rels P f) (cx : Cx) (args : List C) (mem : List Blk) (K : C → Prop) (_u : Tag K := ⟨⟩) : Prop :=
  ∃ i, args.map den = S.A i ∧ S.pre i (nowF cx mem) ∧ ∀ v, S.post i v → K (.v v)
@[congr] theorem RelV_congr {f : FuncId} {d d' : Nat} {S : Rels P f} {cx : Cx} {args args' : List C} {mem : List Blk} {K : C → Prop} (h' : d = d') (h : args = args') : RelV d S cx args mem K = RelV d' S cx args' mem K := by rw [h]; rfl

def Con.rel {f : FuncId} (S : Rels P f) : Con P where
  f := f
  tr cx args mem K := RelV (1 + 1) S cx args mem fun x => K cx x mem
  sound cx args mem K w hm := by
    rintro ⟨i, ha, hp, hk⟩
    rw [ha]
    refine Or.inl ⟨S.enter _ _, (S.h i w (S.mono i _ _ (sub_cell hm) hp)).mono ?_⟩
    rintro e w' ⟨v, rfl, hpo, hb⟩
    exact ⟨cx, _, mem, rfl, memRel_below hm hb, hk v hpo⟩
  pu := none
  puTr rel hrel := by simp at hrel
  puSound rel hrel := by simp at hrel
  rd := false
  rdSound := fun h => by cases h
  fr := true
  frSound _ cx args mem ex K := by
    rintro ⟨i, ha, hp, hk⟩
    exact ⟨i, ha, S.mono i _ _ (now_app _ _ _) hp, fun v hv => ⟨_, rfl, rfl, hk v hv⟩⟩

structure Makes (P : Program) (f : FuncId) where
  ι : Type
  A : ι → List Value
  pre : ι → Facts → Prop
  post : ι → Value → Facts → Prop
  mono : ∀ i F G, Sub F G → pre i F → pre i G
  monoP : ∀ i v F G, Sub F G → post i v F → post i v G
  enter : ∀ args w, (callFunc f args).run P w = .ok (.enter f args) w
  h : ∀ i w, pre i w.cell? → Calls P f (A i).toArray w (fun e w' => ∃ v, e = .returned v ∧ RowKit.Below w.heap.size w w' ∧ post i v (fun a => if w.heap.size ≤ a.block then w'.cell? a else none))

def MakeV {f : FuncId} (d : Nat) (S : Makes P f) (cx : Cx) (args : List C) (mem : List Blk) (K : Cx → C → Prop) (_u : Tag K := ⟨⟩) : Prop :=
  ∃ i, args.map den = S.A i ∧ S.pre i (nowF cx mem) ∧ ∀ cx' v, Le cx cx' → S.post i v (newF cx') → K cx' (.v v)
@[congr] theorem MakeV_congr {f : FuncId} {d d' : Nat} {S : Makes P f} {cx : Cx} {args args' : List C} {mem : List Blk} {K : Cx → C → Prop} (h' : d = d') (h : args = args') : MakeV d S cx args mem K = MakeV d' S cx args' mem K := by rw [h]; rfl

theorem memRel_on {cx : Cx} {mem : List Blk} {w w' : World} (hm : MemRel cx mem w) (hb : RowKit.Below w.heap.size w w') :
    MemRel ⟨cx.w0, cx.g0, w', mem.map (·.id)⟩ mem w' ∧ Le cx ⟨cx.w0, cx.g0, w', mem.map (·.id)⟩ ∧
      Sub (fun a => if w.heap.size ≤ a.block then w'.cell? a else none) (newF ⟨cx.w0, cx.g0, w', mem.map (·.id)⟩) := by
  have h' := memRel_below hm hb
  have h1 := hm.le1
  have h01 := hm.le01
  have hid : ∀ b ∈ mem, b.id < w.heap.size := fun b hb => by
    obtain ⟨k, hk⟩ := List.getElem?_of_mem hb
    exact (Array.getElem?_eq_some_iff.1 (hm.blk k b hk)).1
  refine ⟨⟨h'.os, h'.tape, h'.output, h'.frame, fun _ _ _ => rfl, Nat.le_trans h'.le01 h'.le1, Nat.le_refl _, h'.blk, fun b hb => Or.inl (by simp; exact ⟨b, hb, rfl⟩), h'.low, h'.inj⟩, ⟨rfl, rfl, fun a v e => ?_⟩, fun a v e => ?_⟩
  · unfold factF at e ⊢
    split at e
    · simp at e
    · rename_i hg
      have hlt := block_lt_of_cell e
      rw [if_neg]
      · show w'.cell? a = some v
        rw [World.cell?_of_block (w := w) (hb.block a.block (by omega))]
        exact ext_cell hm hg e
      · simp only [List.mem_map, not_exists, not_and]
        intro b hb' he
        rcases hm.fresh b hb' with h | h
        · exact hg (he ▸ h)
        · omega
  · simp only at e
    split at e
    · rename_i hl
      unfold newF factF
      rw [if_pos (by show cx.w0.heap.size ≤ a.block; omega), if_neg]
      · exact e
      · simp only [List.mem_map, not_exists, not_and]
        intro b hb' he
        have := hid b hb'
        omega
    · simp at e

def Con.make {f : FuncId} (S : Makes P f) : Con P where
  f := f
  tr cx args mem K := MakeV (1 + 1) S cx args mem fun cx' x => K cx' x mem
  sound cx args mem K w hm := by
    rintro ⟨i, ha, hp, hk⟩
    rw [ha]
    refine Or.inl ⟨S.enter _ _, (S.h i w (S.mono i _ _ (sub_cell hm) hp)).mono ?_⟩
    rintro e w' ⟨v, rfl, hb, hpo⟩
    obtain ⟨h1, h2, h3⟩ := memRel_on hm hb
    exact ⟨_, _, mem, rfl, h1, hk _ v h2 (S.monoP i v _ _ h3 hpo)⟩
  pu := none
  puTr rel hrel := by simp at hrel
  puSound rel hrel := by simp at hrel
  rd := false
  rdSound := fun h => by cases h
  fr := true
  frSound _ cx args mem ex K := by
    rintro ⟨i, ha, hp, hk⟩
    exact ⟨i, ha, S.mono i _ _ (now_app _ _ _) hp, fun cx' v hle hv => ⟨_, rfl, hle.w0, hk cx' v hle hv⟩⟩

def EndV (w : World) (post : Value → Facts → Prop) (cx : Cx) (c : C) (mem : List Blk) : Prop :=
  cx.w0 = w ∧ cx.g0 = [] ∧ ∀ w', MemRel cx mem w' → post (den c) (fun a => if w.heap.size ≤ a.block then w'.cell? a else none)

theorem make_of_vcs (σ : Env P) (hmx : P.follows .mixedOrders = true) {f : FuncId} {fn : Func} {c : Code} (hf : P.funcs[f]? = some fn) (hb : fn.body = some c) (hc : codeOk P σ fn.ntmps c = true)
    {args : List Value} (hn : args.length ≤ fn.ntmps) (w : World) (post : Value → Facts → Prop) (n : Nat)
    (h : vcs P σ fn.ntmps (endVC P fn.results.toList (EndV w post)) n [.code c] ⟨w, [], w, []⟩ (args.zipIdx.map fun x => (x.2, .v x.1)) []) :
    Calls P f args.toArray w (fun e w' => ∃ v, e = .returned v ∧ RowKit.Below w.heap.size w w' ∧ post v (fun a => if w.heap.size ≤ a.block then w'.cell? a else none)) := by
  have := calls_of_vcs (σ := σ) hmx hf hb hc (args := args.map .v) (by simpa using hn) (memRel_nil w) (EndV w post) n (by
    simpa [List.zipIdx_map, Function.comp_def] using h)
  rw [map_den_v] at this
  refine this.mono ?_
  rintro e w' ⟨cx', c, mem', rfl, hm, h0, hg, hp⟩
  exact ⟨_, rfl, below_of_rel hm h0 hg, hp w' hm⟩
theorem sub_end {cx : Cx} {mem : List Blk} {w w' : World} (h0 : cx.w0 = w) (hm : MemRel cx mem w') : Sub (newF cx) (fun a => if w.heap.size ≤ a.block then w'.cell? a else none) := fun a v e => by
  unfold newF at e
  rw [h0] at e
  simp only
  split at e
  · rename_i hl; rw [if_pos hl]; exact nowF_cell hm (sub_now _ _ _ _ e)
  · simp at e

def RdO (F : Facts) (size : Nat) (o : Option Addr) (rows : List (List Value)) : Prop :=
  ∀ (i : Nat) r, rows[i]? = some r → r.length = size ∧ ∃ a, o = some a ∧ ∀ (j : Nat) x, r[j]? = some x → F (a.add (i * size + j)) = some x
theorem RdO.mono {F G : Facts} {size : Nat} {o : Option Addr} {rows : List (List Value)} (h : RdO F size o rows) (hs : Sub F G) : RdO G size o rows := fun i r hr => by
  obtain ⟨h1, a, h2, h3⟩ := h i r hr
  exact ⟨h1, a, h2, fun j x hx => hs _ _ (h3 j x hx)⟩
theorem RdO.uniq {F : Facts} {size : Nat} {o : Option Addr} {r s : List (List Value)} (h : RdO F size o r) (h' : RdO F size o s) (hl : r.length = s.length) : r = s := by
  apply List.ext_getElem? 
  intro i
  by_cases hi : i < r.length
  · have e1 : r[i]? = some r[i] := by simp [hi]
    have e2 : s[i]? = some (s[i]'(by omega)) := by simp [show i < s.length by omega]
    obtain ⟨h1, a, h2, h3⟩ := h i _ e1
    obtain ⟨g1, b, g2, g3⟩ := h' i _ e2
    rw [h2] at g2; simp at g2; subst g2
    rw [e1, e2]
    congr 1
    apply List.ext_getElem?
    intro j
    by_cases hj : j < size
    · have f1 : (r[i])[j]? = some (r[i][j]'(by omega)) := by simp [show j < (r[i]).length by omega]
      have f2 : (s[i]'(by omega))[j]? = some ((s[i]'(by omega))[j]'(by omega)) := by simp [show j < (s[i]'(by omega)).length by omega]
      have := h3 j _ f1
      rw [g3 j _ f2] at this
      rw [f1, f2, Option.some.inj this]
    · rw [List.getElem?_eq_none (by omega), List.getElem?_eq_none (by omega)]
  · rw [List.getElem?_eq_none (by omega), List.getElem?_eq_none (by omega)]
theorem RdO.nil (F : Facts) (size : Nat) (o : Option Addr) : RdO F size o [] := fun i r h => by simp at h

theorem RdL.mono {F G : Facts} {o : Option Addr} {vs : List Value} (h : RdL F o vs) (hs : Sub F G) : RdL G o vs := fun j v hj => by
  obtain ⟨a, h1, h2⟩ := h j v hj
  exact ⟨a, h1, hs _ _ h2⟩
theorem RdL.uniq {F : Facts} {o : Option Addr} {vs us : List Value} (h : RdL F o vs) (h' : RdL F o us) (hl : vs.length = us.length) : vs = us := by
  apply List.ext_getElem?
  intro j
  by_cases hj : j < vs.length
  · have e1 : vs[j]? = some vs[j] := by simp [hj]
    have e2 : us[j]? = some (us[j]'(by omega)) := by simp [show j < us.length by omega]
    obtain ⟨a, h1, h2⟩ := h j _ e1
    obtain ⟨b, g1, g2⟩ := h' j _ e2
    rw [h1] at g1; simp at g1; subst g1
    rw [e1, e2, ← g2, h2]
  · rw [List.getElem?_eq_none (by omega), List.getElem?_eq_none (by omega)]
theorem RdL.there {F : Facts} {o : Option Addr} {vs : List Value} (h : RdL F o vs) {i : Nat} (hi : i < vs.length) : o.isSome = true := by
  obtain ⟨a, rfl, _⟩ := h i _ (by simp [hi] : vs[i]? = some vs[i])
  rfl
theorem RdL.ld {d : Nat} {cx : Cx} {mem : List Blk} {o : Option Addr} {vs : List Value} (h : RdL (nowF cx mem) o vs) {t : TypeId} (ht : aggT P t = some false)
    {i : Nat} {v : Value} (hi : vs[i]? = some v) {K : Value → Prop} : LoadV d P cx mem t (padd o i) K = K v := by
  obtain ⟨a, rfl, h3⟩ := h i v hi
  unfold LoadV
  simp only [ht, padd, Option.map_some, Option.some.injEq]
  apply propext
  constructor
  · rintro ⟨_, rfl, u, hu, hk⟩
    rw [hu] at h3
    rw [← Option.some.inj h3]; exact hk
  · intro hk; exact ⟨_, rfl, v, h3, hk⟩
theorem RdL.sl {d : Nat} {cx : Cx} {mem : List Blk} {o : Option Addr} {vs : List Value} (h : RdL (nowF cx mem) o vs) {n : Nat} (hn : n = vs.length) {K : List Value → Prop} : SliceV d cx mem o n K = K vs := by
  unfold SliceV
  apply propext
  constructor
  · rintro ⟨us, hl, hv, hk⟩
    have h' : RdL (nowF cx mem) o us := hv
    rw [← RdL.uniq h' h (by omega)]
    exact hk
  · intro hk
    exact ⟨vs, hn.symm, h, hk⟩
def RdI (F : Facts) (o : Option Addr) (ks : List Int) : Prop := RdL F o (ks.map (Value.int .i64))
theorem RdI.mono {F G : Facts} {o : Option Addr} {ks : List Int} (h : RdI F o ks) (hs : Sub F G) : RdI G o ks := RdL.mono h hs
theorem RdI.uniq {F : Facts} {o o' : Option Addr} {ks js : List Int} (h : RdI F o ks) (h' : RdI F o' js) (ho : o = o') (hl : ks.length = js.length) : ks = js := by
  subst ho
  have := RdL.uniq h h' (by simpa using hl)
  apply List.ext_getElem?
  intro i
  have e := congrArg (·[i]?) this
  simp only [List.getElem?_map] at e
  cases h1 : ks[i]? <;> cases h2 : js[i]? <;> simp_all
theorem RdI.there {F : Facts} {o : Option Addr} {ks : List Int} (h : RdI F o ks) {i : Nat} (hi : i < ks.length) : o.isSome = true := RdL.there h (by simpa using hi)
theorem RdI.ld {d : Nat} {cx : Cx} {mem : List Blk} {o : Option Addr} {ks : List Int} (h : RdI (factF cx) o ks) {t : TypeId} (ht : aggT P t = some false)
    {i : Nat} {k : Int} (hi : ks[i]? = some k) {K : Value → Prop} : LoadV d P cx mem t (padd o i) K = K (.int .i64 k) :=
  RdL.ld (RdL.mono h (sub_now cx mem)) ht (by simp [hi])
theorem RdL.ints {F : Facts} {o : Option Addr} {vs : List Value} (h : RdL F o vs) (ks : List Int) (e : ks.map (Value.int .i64) = vs) : RdI F o ks := by
  unfold RdI; rw [e]; exact h
def RdB (F : Facts) (o : Option Addr) (bs : List Int) : Prop := RdL F o (bs.map (Value.int .u8))
theorem RdB.mono {F G : Facts} {o : Option Addr} {ks : List Int} (h : RdB F o ks) (hs : Sub F G) : RdB G o ks := RdL.mono h hs
theorem RdB.uniq {F : Facts} {o o' : Option Addr} {ks js : List Int} (h : RdB F o ks) (h' : RdB F o' js) (ho : o = o') (hl : ks.length = js.length) : ks = js := by
  subst ho
  have := RdL.uniq h h' (by simpa using hl)
  apply List.ext_getElem?
  intro i
  have e := congrArg (·[i]?) this
  simp only [List.getElem?_map] at e
  cases h1 : ks[i]? <;> cases h2 : js[i]? <;> simp_all
theorem RdB.there {F : Facts} {o : Option Addr} {ks : List Int} (h : RdB F o ks) {i : Nat} (hi : i < ks.length) : o.isSome = true := RdL.there h (by simpa using hi)
theorem RdB.ld {d : Nat} {cx : Cx} {mem : List Blk} {o : Option Addr} {ks : List Int} (h : RdB (factF cx) o ks) {t : TypeId} (ht : aggT P t = some false)
    {i : Nat} {k : Int} (hi : ks[i]? = some k) {K : Value → Prop} : LoadV d P cx mem t (padd o i) K = K (.int .u8 k) :=
  RdL.ld (RdL.mono h (sub_now cx mem)) ht (by simp [hi])
theorem RdL.rows {F : Facts} {o : Option Addr} {vs : List Value} (h : RdL F o vs) {size : Nat} {rows : List (List Value)} (hz : size ≠ 0) (hr : ∀ r ∈ rows, r.length = size) (hc : rows.flatten = vs) : RdO F size o rows := by
  subst hc
  have key : ∀ (l : List (List Value)), (∀ r ∈ l, r.length = size) → ∀ (i : Nat) r, l[i]? = some r → ∀ (j : Nat) x, r[j]? = some x → l.flatten[i * size + j]? = some x := by
    intro l
    induction l with
    | nil => intro _ i r h; simp at h
    | cons s l ih =>
      intro hl i r h j x hj
      have hs := hl s (by simp)
      cases i with
      | zero =>
        simp at h; subst h
        rw [List.flatten_cons, Nat.zero_mul, Nat.zero_add, List.getElem?_append_left (List.getElem?_eq_some_iff.1 hj).1]; exact hj
      | succ i =>
        rw [List.flatten_cons, List.getElem?_append_right (by rw [hs, Nat.add_mul]; omega), show (i + 1) * size + j - s.length = i * size + j by rw [hs, Nat.add_mul]; omega]
        exact ih (fun r hr => hl r (by simp [hr])) i r (by simpa using h) j x hj
  intro i r hi
  have hlen := hr r (List.mem_of_getElem? hi)
  refine ⟨hlen, ?_⟩
  · have hj0 : r[0]? = some (r[0]'(by omega)) := by simp [show 0 < r.length by omega]
    obtain ⟨a, rfl, _⟩ := h _ _ (key rows hr i r hi 0 _ hj0)
    refine ⟨a, rfl, fun j x hx => ?_⟩
    obtain ⟨a', e, hf⟩ := h _ _ (key rows hr i r hi j x hx)
    simp only [Option.some.injEq] at e
    subst e
    exact hf

theorem RdO.ld_agg {d : Nat} {cx : Cx} {mem : List Blk} {size : Nat} {o : Option Addr} {rows : List (List Value)} (h : RdO (nowF cx mem) size o rows) {t : TypeId} (ht : aggT P t = some true) (hs : P.cellsOf t = size)
    {i : Nat} {r : List Value} (hi : rows[i]? = some r) {K : Value → Prop} : LoadV d P cx mem t (padd o (i * size)) K = K (.agg r.toArray) := by
  obtain ⟨h1, a, rfl, h3⟩ := h i r hi
  unfold LoadV
  simp only [ht, hs, padd, Option.map_some, Option.some.injEq]
  apply propext
  constructor
  · rintro ⟨_, rfl, vs, hl, hv, hk⟩
    have : vs = r := by
      apply List.ext_getElem?
      intro j
      by_cases hj : j < size
      · have f1 : vs[j]? = some (vs[j]'(by omega)) := by simp [show j < vs.length by omega]
        have f2 : r[j]? = some (r[j]'(by omega)) := by simp [show j < r.length by omega]
        have e1 := hv j _ f1
        have e2 := h3 j _ f2
        rw [addr_add_add] at e1
        rw [e1] at e2
        rw [f1, f2, Option.some.inj e2]
      · rw [List.getElem?_eq_none (by omega), List.getElem?_eq_none (by omega)]
    rw [← this]; exact hk
  · intro hk
    exact ⟨_, rfl, r, h1, fun j v hj => by rw [addr_add_add]; exact h3 j v hj, hk⟩
theorem RdO.ld_one {d : Nat} {cx : Cx} {mem : List Blk} {size : Nat} {o : Option Addr} {rows : List (List Value)} (h : RdO (nowF cx mem) size o rows) {t : TypeId} (ht : aggT P t = some false)
    {i j : Nat} {r : List Value} (hi : rows[i]? = some r) {x : Value} (hj : r[j]? = some x) {K : Value → Prop} : LoadV d P cx mem t (padd o (i * size + j)) K = K x := by
  obtain ⟨h1, a, rfl, h3⟩ := h i r hi
  have := h3 j x hj
  unfold LoadV
  simp only [ht, padd, Option.map_some, Option.some.injEq]
  apply propext
  constructor
  · rintro ⟨_, rfl, v, hv, hk⟩
    rw [hv] at this
    rw [← Option.some.inj this]; exact hk
  · intro hk; exact ⟨_, rfl, x, this, hk⟩
theorem RdO.ld_zero {d : Nat} {cx : Cx} {mem : List Blk} {size : Nat} {o : Option Addr} {rows : List (List Value)} (h : RdO (nowF cx mem) size o rows) {t : TypeId} (ht : aggT P t = some false)
    {i : Nat} {r : List Value} (hi : rows[i]? = some r) {x : Value} (hj : r[0]? = some x) {K : Value → Prop} : LoadV d P cx mem t (padd o (i * size)) K = K x := by
  have := h.ld_one (d := d) ht hi hj (K := K)
  simpa using this
theorem RdO.sl {d : Nat} {cx : Cx} {mem : List Blk} {size : Nat} {o : Option Addr} {rows : List (List Value)} (h : RdO (nowF cx mem) size o rows) (hz : size ≠ 0) {n : Nat} (hn : n = rows.length * size) {K : List Value → Prop} :
    SliceV d cx mem o n K = K rows.flatten := by
  have key : ∀ (l : List (List Value)) (k : Nat), (∀ (i : Nat) r, l[i]? = some r → rows[k + i]? = some r) → ∀ (j : Nat) v, l.flatten[j]? = some v → ∃ a, o = some a ∧ nowF cx mem (a.add (k * size + j)) = some v := by
    intro l
    induction l with
    | nil => intro k _ j v hj; simp at hj
    | cons r l ih =>
      intro k hl j v hj
      have hr := hl 0 r (by simp)
      obtain ⟨h1, a, h2, h3⟩ := h k r (by simpa using hr)
      rw [List.flatten_cons, List.getElem?_append] at hj
      split at hj
      · exact ⟨a, h2, h3 j v hj⟩
      · rename_i hge
        obtain ⟨a', e1, e2⟩ := ih (k + 1) (fun i r' hr' => by
          have := hl (i + 1) r' (by simpa using hr')
          rwa [show k + 1 + i = k + (i + 1) by omega]) (j - r.length) v hj
        refine ⟨a', e1, ?_⟩
        rwa [show (k + 1) * size + (j - r.length) = k * size + j by rw [Nat.add_mul]; omega] at e2
  have hlen : ∀ l : List (List Value), (∀ r ∈ l, r.length = size) → l.flatten.length = l.length * size := by
    intro l
    induction l with
    | nil => intro _; simp
    | cons r l ih => intro hl; rw [List.flatten_cons, List.length_append, ih (fun r' hr' => hl r' (by simp [hr'])), hl r (by simp), List.length_cons, Nat.add_mul]; omega
  have hf := key rows 0 (fun i r hr => by simpa using hr)
  have hfl := hlen rows fun r hr => by
    obtain ⟨i, hi⟩ := List.getElem?_of_mem hr
    exact (h i r hi).1
  unfold SliceV
  apply propext
  constructor
  · rintro ⟨vs, hl, hv, hk⟩
    have : vs = rows.flatten := by
      apply List.ext_getElem?
      intro j
      by_cases hj : j < n
      · have f1 : vs[j]? = some (vs[j]'(by omega)) := by simp [show j < vs.length by omega]
        have f2 : rows.flatten[j]? = some (rows.flatten[j]'(by omega)) := by simp [show j < rows.flatten.length by omega]
        obtain ⟨a, e1, e2⟩ := hv j _ f1
        obtain ⟨b, g1, g2⟩ := hf j _ f2
        rw [e1] at g1; simp at g1; subst g1
        simp only [Nat.zero_mul, Nat.zero_add] at g2
        rw [e2] at g2
        rw [f1, f2, Option.some.inj g2]
      · rw [List.getElem?_eq_none (by omega), List.getElem?_eq_none (by omega)]
    rw [← this]; exact hk
  · intro hk
    refine ⟨rows.flatten, by rw [hfl, hn], fun j v hj => ?_, hk⟩
    obtain ⟨a, e1, e2⟩ := hf j v hj
    exact ⟨a, e1, by simpa using e2⟩

theorem flat_at {α : Type} {size : Nat} : ∀ (l : List (List α)) (i : Nat) r, (∀ r ∈ l, r.length = size) → l[i]? = some r → ∀ (j : Nat) x, r[j]? = some x → l.flatten[i * size + j]? = some x := by
  intro l
  induction l with
  | nil => intro i r _ h; simp at h
  | cons s l ih =>
    intro i r hl h j x hj
    have hs := hl s (by simp)
    cases i with
    | zero =>
      simp at h; subst h
      rw [List.flatten_cons, Nat.zero_mul, Nat.zero_add, List.getElem?_append_left (List.getElem?_eq_some_iff.1 hj).1]; exact hj
    | succ i =>
      rw [List.flatten_cons, List.getElem?_append_right (by rw [hs, Nat.add_mul]; omega), show (i + 1) * size + j - s.length = i * size + j by rw [hs, Nat.add_mul]; omega]
      exact ih i r (fun r hr => hl r (by simp [hr])) (by simpa using h) j x hj

theorem RdO.block {cx : Cx} {mem : List Blk} {w : World} (hm : MemRel cx mem w) {k b off size : Nat} {ty : TypeId} {cells : List C} {rows : List (List Value)} (hk : mem[k]? = some ⟨b, cells, ty⟩)
    (hr : ∀ r ∈ rows, r.length = size) (hc : ((cells.map den).drop off).take (rows.length * size) = rows.flatten) : RdO w.cell? size (some ⟨b, off, none⟩) rows := by
  intro i r hi
  refine ⟨hr r (List.mem_of_getElem? hi), _, rfl, fun j x hx => ?_⟩
  have h1 := flat_at rows i r hr hi j x hx
  rw [← hc, List.getElem?_take] at h1
  have hw := hm.blk k _ hk
  split at h1
  · rw [List.getElem?_drop] at h1
    have ha : (⟨b, off, none⟩ : Addr).add (i * size + j) = ⟨b, off + (i * size + j), none⟩ := addr_add _ _ _
    rw [ha]
    unfold World.cell?
    simp only at hw
    rw [hw]
    simpa using h1
  · simp at h1

theorem RdO.fin {cx : Cx} {mem : List Blk} {w w' : World} (h0 : cx.w0 = w) (hg : cx.g0 = []) (hm : MemRel cx mem w') {k b off size : Nat} {ty : TypeId} {cells : List C} {rows : List (List Value)} (hk : mem[k]? = some ⟨b, cells, ty⟩)
    (hr : ∀ r ∈ rows, r.length = size) (hc : ((cells.map den).drop off).take (rows.length * size) = rows.flatten) : RdO (fun a => if w.heap.size ≤ a.block then w'.cell? a else none) size (some ⟨b, off, none⟩) rows := by
  intro i r hi
  obtain ⟨h1, a, h2, h3⟩ := RdO.block hm hk hr hc i r hi
  refine ⟨h1, a, h2, fun j x hx => ?_⟩
  have hb : (a.add (i * size + j)).block = b := by rw [add_block]; simp at h2; rw [← h2]
  simp only
  rw [if_pos]
  · exact h3 j x hx
  · rw [hb]
    by_cases e : b < w.heap.size
    · have := hm.low _ (List.mem_of_getElem? hk) (by rw [h0]; exact e)
      rw [hg] at this; simp at this
    · omega

end
end Go.Sx
