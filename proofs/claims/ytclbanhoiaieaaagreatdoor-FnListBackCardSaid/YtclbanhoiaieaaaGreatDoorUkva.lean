/-
  Contracts: a list read out of a text, by the program.
-/
import Derived.Test.YtclbanhoiaieaaaGreatDoorUava
set_option linter.unusedVariables false
set_option linter.unusedSimpArgs false
set_option maxRecDepth 100000
set_option maxHeartbeats 4000000
namespace Go.Sx
open Go

theorem DB_facts {F : Facts} {b : Nat} {ds : List Dev} {pad : List C} (h : ∀ (off : Nat) c, (DB ds ++ pad)[off]? = some c → F ⟨b, off, none⟩ = some (den c)) : RdD F (some ⟨b, 0, none⟩) ds := by
  have hL : RdL F (some ⟨b, 0, none⟩) (encDs ds) := fun j v hj => ⟨_, rfl, by
    rw [addr_add, Nat.zero_add]
    have hl := (List.getElem?_eq_some_iff.1 hj).1
    exact h j (.v v) (by rw [List.getElem?_append_left (by unfold DB; simpa using hl)]; unfold DB; rw [List.getElem?_map, hj]; rfl)⟩
  exact hL.rows (size := 3) (rows := ds.map encD) (by decide) (DB_rows ds) rfl
inductive LR (ty : TypeId) : List Ins → List (List Value) → List Blk → Prop
  | nil : LR ty [] [] []
  | bare {xs rs As x} (h : LR ty xs rs As) (hx : x.args = []) : LR ty (xs ++ [x]) (rs ++ [[.int .i64 x.code, .int .i64 x.op, .slice .none 0 0]]) As
  | full {xs rs As x b cp pad} (h : LR ty xs rs As) (hl : x.args.length ≤ cp ∧ cp ≤ maxLen ∧ pad.length = (cp - x.args.length) * 3) :
      LR ty (xs ++ [x]) (rs ++ [[.int .i64 x.code, .int .i64 x.op, .slice (.some ⟨b, 0, .none⟩) x.args.length cp]]) (As ++ [⟨b, DB x.args ++ pad, ty⟩])
theorem LR.len {ty : TypeId} {xs : List Ins} {rs : List (List Value)} {As : List Blk} (h : LR ty xs rs As) : rs.length = xs.length ∧ (∀ r ∈ rs, r.length = 3) := by
  induction h with
  | nil => exact ⟨rfl, by simp⟩
  | bare h hx ih =>
    refine ⟨by simp [ih.1], fun r hr => ?_⟩
    rcases List.mem_append.1 hr with hr | hr
    · exact ih.2 r hr
    · rw [List.mem_singleton] at hr; subst hr; rfl
  | full h hl ih =>
    refine ⟨by simp [ih.1], fun r hr => ?_⟩
    rcases List.mem_append.1 hr with hr | hr
    · exact ih.2 r hr
    · rw [List.mem_singleton] at hr; subst hr; rfl
theorem LR.rows {ty : TypeId} {xs : List Ins} {rs : List (List Value)} {As : List Blk} (h : LR ty xs rs As) {F : Facts} (hF : ∀ A ∈ As, ∀ (off : Nat) c, A.cells[off]? = Option.some c → F ⟨A.id, off, Option.none⟩ = Option.some (den c)) :
    ∀ (i : Nat) r x, rs[i]? = Option.some r → xs[i]? = Option.some x → RdR F r x := by
  induction h with
  | nil => intro i r x hr; simp at hr
  | @bare xs rs As y h hy ih =>
    intro i r x hr hx
    have hl := h.len.1
    by_cases hi : i < rs.length
    · rw [List.getElem?_append_left hi] at hr
      rw [List.getElem?_append_left (by omega)] at hx
      exact ih hF i r x hr hx
    · have e := (List.getElem?_eq_some_iff.1 hr).1
      obtain rfl : i = rs.length := by simp at e; omega
      rw [List.getElem?_append_right (Nat.le_refl _), Nat.sub_self] at hr
      rw [hl, List.getElem?_append_right (Nat.le_refl _), Nat.sub_self] at hx
      cases hr; cases hx
      exact ⟨Option.none, 0, by rw [hy]; rfl, by rw [hy]; exact RdO.nil _ _ _, by rw [hy]; exact Nat.le_refl _, by decide⟩
  | @full xs rs As y b cp pad h hb ih =>
    intro i r x hr hx
    have hl := h.len.1
    by_cases hi : i < rs.length
    · rw [List.getElem?_append_left hi] at hr
      rw [List.getElem?_append_left (by omega)] at hx
      exact ih (fun A hA => hF A (by simp [hA])) i r x hr hx
    · have e := (List.getElem?_eq_some_iff.1 hr).1
      obtain rfl : i = rs.length := by simp at e; omega
      rw [List.getElem?_append_right (Nat.le_refl _), Nat.sub_self] at hr
      rw [hl, List.getElem?_append_right (Nat.le_refl _), Nat.sub_self] at hx
      cases hr; cases hx
      exact ⟨_, cp, rfl, DB_facts (pad := pad) (hF ⟨b, DB y.args ++ pad, ty⟩ (by simp)), hb.1, hb.2.1⟩
def LB (rs : List (List Value)) : List C := rs.flatten.map C.v
theorem flat3 : ∀ {rs : List (List Value)}, (∀ r ∈ rs, r.length = 3) → rs.flatten.length = rs.length * 3
  | [], _ => rfl
  | r :: rs, h => by
    rw [List.flatten_cons, List.length_append, h r (by simp), flat3 fun x hx => h x (by simp [hx]), List.length_cons]; omega
theorem LB_len {rs : List (List Value)} (h : ∀ r ∈ rs, r.length = 3) : (LB rs).length = rs.length * 3 := by unfold LB; rw [List.length_map, flat3 h]
theorem LB_push (rs : List (List Value)) (a b c : Value) (pad : List C) : LB rs ++ (.v a :: .v b :: .v c :: pad) = LB (rs ++ [[a, b, c]]) ++ pad := by simp [LB]
theorem LB_take {rs : List (List Value)} (hr : ∀ r ∈ rs, r.length = 3) (pad : List C) {n : Nat} (h : rs.length = n) : (LB rs ++ pad).take (n * 3) = LB rs := by rw [← h, ← LB_len hr, List.take_left]
theorem LB_full {rs : List (List Value)} (hr : ∀ r ∈ rs, r.length = 3) {pad : List C} {cp n : Nat} (h : rs.length = n) (h1 : pad.length = (cp - n) * 3) (h2 : n ≤ cp) : (LB rs ++ pad).length = cp * 3 := by rw [List.length_append, LB_len hr, h, h1, ← Nat.add_mul]; congr 1; omega
theorem LR.rdn {ty ty2 : TypeId} {xs : List Ins} {rs : List (List Value)} {As : List Blk} (h : LR ty xs rs As) {F : Facts} {b : Nat} {pad : List C}
    (h0 : ∀ (off : Nat) c, (LB rs ++ pad)[off]? = some c → F ⟨b, off, none⟩ = some (den c)) (hF : ∀ A ∈ As, ∀ (off : Nat) c, A.cells[off]? = some c → F ⟨A.id, off, none⟩ = some (den c)) : RdN F (some ⟨b, 0, none⟩) xs := by
  have hL : RdL F (some ⟨b, 0, none⟩) rs.flatten := fun j v hj => ⟨_, rfl, by
    rw [addr_add, Nat.zero_add]
    have hl := (List.getElem?_eq_some_iff.1 hj).1
    exact h0 j (.v v) (by rw [List.getElem?_append_left (by unfold LB; rw [List.length_map]; exact hl)]; unfold LB; rw [List.getElem?_map, hj]; rfl)⟩
  exact ⟨rs, hL.rows (by decide) h.len.2 rfl, h.len.1, h.rows hF⟩
def LPK (ti td : TypeId) (r : List Ins × Int × Int) (c : C) (ex : List Blk) : Prop :=
  (r.1 = [] ∧ r.2.2 ≠ 0 ∧ c = .v (.tuple #[.slice none 0 0, .agg #[.int .i64 r.2.1, .int .i64 r.2.2]]) ∧ ex = []) ∨
  (r.2 = (0, 0) ∧ ∃ (b cp : Nat) (pad : List C) (rs : List (List Value)) (As : List Blk), c = .v (.tuple #[.slice (some ⟨b, 0, none⟩) r.1.length cp, .agg #[.int .i64 0, .int .i64 0]]) ∧
    ex = ⟨b, LB rs ++ pad, ti⟩ :: As ∧ LR td r.1 rs As ∧ r.1.length ≤ cp ∧ cp ≤ maxLen ∧ pad.length = (cp - r.1.length) * 3)
def IRK (td : TypeId) (r : Option Ins) (c : C) (ex : List Blk) : Prop :=
  (r = none ∧ ex = [] ∧ ∃ (a b : Int) (o : Option Addr) (n cap : Nat), c = .v (.tuple #[.agg #[.int .i64 a, .int .i64 b, .slice o n cap], .bool false])) ∨
  (∃ x, r = some x ∧ ((x.args = [] ∧ ex = [] ∧ c = .v (.tuple #[.agg #[.int .i64 x.code, .int .i64 x.op, .slice none 0 0], .bool true])) ∨
    (∃ (b cp : Nat) (pad : List C), x.args.length ≤ cp ∧ cp ≤ maxLen ∧ pad.length = (cp - x.args.length) * 3 ∧ ex = [⟨b, DB x.args ++ pad, td⟩] ∧ c = .v (.tuple #[.agg #[.int .i64 x.code, .int .i64 x.op, .slice (some ⟨b, 0, none⟩) x.args.length cp], .bool true]))))
/-! ### rows of texts put into a block -/
abbrev encT : Str → Value := fun z => Value.string (txt z)
theorem putRowT {w : World} {b off : Nat} {cells : List Value} {ty : TypeId} {d : Array Str} (hb : w.heap[b]? = some (.cells cells.toArray ty (0, 0))) (hd : off + d.size ≤ cells.length) :
    Go.Sort.putRow encT w b off d = w.setRow b (cells.take off ++ (d.toList.map encT) ++ cells.drop (off + d.size)).toArray := by
  unfold Go.Sort.putRow Go.Sort.mapBlock World.setRow
  congr 1
  apply Array.ext_getElem?
  intro k
  simp only [Array.getElem?_modify]
  by_cases hk : b = k
  · subst hk
    rw [if_pos rfl, if_pos rfl, hb]
    simp only [Option.map_some, Go.Sort.onCells]
    congr 2
    unfold Go.Sort.putCells
    apply Array.ext_getElem?
    intro j
    simp only [Array.getElem?_mapIdx, List.getElem?_toArray]
    by_cases h1 : j < off
    · rw [List.append_assoc, List.getElem?_append_left (by simp; omega), List.getElem?_take, if_pos h1]
      cases hj : cells[j]? with
      | none => rfl
      | some v => simp; omega
    · by_cases h2 : j < off + d.size
      · have hl : (cells.take off).length = off := by simp; omega
        have hcj : cells[j]? = some cells[j] := List.getElem?_eq_getElem (by omega)
        rw [List.append_assoc, List.getElem?_append_right (by omega), hl, List.getElem?_append_left (by simp; omega), hcj]
        simp only [Option.map_some]
        rw [if_pos ⟨by omega, h2⟩, List.getElem?_map, Array.getElem?_toList, Array.getElem?_eq_getElem (by omega), getElem!_pos d (j - off) (by omega)]
        rfl
      · have hl : (cells.take off ++ d.toList.map encT).length = off + d.size := by simp; omega
        rw [List.getElem?_append_right (by omega), hl, List.getElem?_drop, show off + d.size + (j - (off + d.size)) = j by omega]
        cases hj : cells[j]? with
        | none => rfl
        | some v => simp; omega
  · rw [if_neg hk, if_neg hk]
theorem holdsT {w : World} {b : Nat} {cells : List Value} {ty : TypeId} {d : Array Str} (hb : w.heap[b]? = some (.cells cells.toArray ty (0, 0))) (hd : cells.take d.size = d.toList.map encT) :
    Go.Sort.Holds encT w b 0 d := by
  intro j hj
  have h1 : cells[0 + j]? = some (encT d[j]!) := by
    have := congrArg (fun l => l[j]?) hd
    simp only [List.getElem?_take, List.getElem?_map, Array.getElem?_toList] at this
    rw [if_pos hj, Array.getElem?_eq_getElem hj] at this
    rw [Nat.zero_add, this, getElem!_pos d j hj]; rfl
  refine ⟨?_, ?_⟩
  · unfold World.cell?
    simp only
    rw [hb]
    simpa using h1
  · unfold World.frozen?
    simp only
    rw [hb]
    simp
theorem arity_le3' (op : Int) : 0 ≤ arity op ∧ arity op ≤ 3 := by unfold arity; (repeat' split) <;> omega
def wordsF (ws : List Str) : List Str := ws.filter fun w => decide (w ≠ [])
theorem wordsF_app (a b : List Str) : wordsF (a ++ b) = wordsF a ++ wordsF b := List.filter_append ..
theorem wordsF_one {z : Str} (h : z ≠ []) : wordsF [z] = [z] := by simp [wordsF, h]
def WordsTo (ws : List Str) (i : Nat) (fs : List Str) : Prop := fs = wordsF (ws.take i) ∧ fs.length ≤ i
theorem WordsTo.zero (ws : List Str) : WordsTo ws 0 [] := ⟨rfl, Nat.le_refl _⟩
theorem WordsTo.skip {ws : List Str} {i : Nat} {fs : List Str} (h : WordsTo ws i fs) (hz : ws[i]? = some []) : WordsTo ws (i + 1) fs := by
  refine ⟨?_, by have := h.2; omega⟩
  rw [List.take_add_one, hz, wordsF_app, ← h.1]
  exact (List.append_nil fs).symm
theorem WordsTo.push {ws : List Str} {i : Nat} {fs : List Str} {z : Str} (h : WordsTo ws i fs) (hz : ws[i]? = some z) (h0 : z ≠ []) : WordsTo ws (i + 1) (fs ++ [z]) := by
  refine ⟨?_, by have := h.2; simp; omega⟩
  rw [List.take_add_one, hz, wordsF_app, ← h.1]
  show _ = fs ++ wordsF [z]
  rw [wordsF_one h0]
theorem WordsTo.fin {ws : List Str} {fs : List Str} (h : WordsTo ws ws.length fs) : wordsF ws = fs := by
  have := h.1
  rw [List.take_length] at this
  exact this.symm
/-! ### the same as facts -/
structure RdP (F : Facts) (rs : List (List Value)) (xs : List Ins) : Prop where
  len : rs.length = xs.length
  row : ∀ r ∈ rs, r.length = 3
  at' : ∀ (i : Nat) r x, rs[i]? = some r → xs[i]? = some x → RdR F r x
theorem RdP.nil (F : Facts) : RdP F [] [] := ⟨rfl, by simp, fun i r x h => by simp at h⟩
theorem RdP.mono {F G : Facts} {rs : List (List Value)} {xs : List Ins} (h : RdP F rs xs) (hs : Sub F G) : RdP G rs xs := ⟨h.len, h.row, fun i r x h1 h2 => (h.at' i r x h1 h2).mono hs⟩
theorem RdP.snoc {F : Facts} {rs : List (List Value)} {xs : List Ins} (h : RdP F rs xs) {x : Ins} {o : Option Addr} {cap : Nat} (h1 : RdD F o x.args) (h2 : x.args.length ≤ cap) (h3 : cap ≤ maxLen) :
    RdP F (rs ++ [[.int .i64 x.code, .int .i64 x.op, .slice o x.args.length cap]]) (xs ++ [x]) := by
  refine ⟨by simp [h.len], fun r hr => ?_, fun i r y hr hy => ?_⟩
  · rcases List.mem_append.1 hr with hr | hr
    · exact h.row r hr
    · rw [List.mem_singleton] at hr; subst hr; rfl
  · by_cases hi : i < rs.length
    · rw [List.getElem?_append_left hi] at hr
      rw [List.getElem?_append_left (by have := h.len; omega)] at hy
      exact h.at' i r y hr hy
    · have e := (List.getElem?_eq_some_iff.1 hr).1
      obtain rfl : i = rs.length := by simp at e; omega
      rw [List.getElem?_append_right (Nat.le_refl _), Nat.sub_self] at hr
      rw [h.len, List.getElem?_append_right (Nat.le_refl _), Nat.sub_self] at hy
      cases hr; cases hy
      exact ⟨o, cap, rfl, h1, h2, h3⟩
structure IsIR (F : Facts) (v : Value) (r : Option Ins) : Prop where
  ex : ∃ (code op : Int) (o : Option Addr) (cap : Nat) (xs : List Dev), v = .tuple #[.agg #[.int .i64 code, .int .i64 op, .slice o xs.length cap], .bool r.isSome] ∧ RdD F o xs ∧ xs.length ≤ cap ∧ cap ≤ maxLen ∧ ∀ x, r = some x → x = ⟨code, op, xs⟩
theorem IsIR.mono {F G : Facts} {v : Value} {r : Option Ins} (h : IsIR F v r) (hs : Sub F G) : IsIR G v r := by
  obtain ⟨a, b, o, cap, xs, h1, h2, h3⟩ := h.ex
  exact ⟨a, b, o, cap, xs, h1, h2.mono hs, h3⟩
structure IsLP (F : Facts) (v : Value) (r : List Ins × Int × Int) : Prop where
  ex : ∃ (o : Option Addr) (cap : Nat), v = .tuple #[.slice o r.1.length cap, .agg #[.int .i64 r.2.1, .int .i64 r.2.2]] ∧ RdN F o r.1 ∧ r.1.length ≤ cap ∧ cap ≤ maxLen
theorem IsLP.mono {F G : Facts} {v : Value} {r : List Ins × Int × Int} (h : IsLP F v r) (hs : Sub F G) : IsLP G v r := by
  obtain ⟨o, cap, h1, h2, h3⟩ := h.ex
  exact ⟨o, cap, h1, h2.mono hs, h3⟩
theorem LB_rows (rs : List (List Value)) (pad : List C) (h : ∀ r ∈ rs, r.length = 3) : (((LB rs ++ pad).map den).drop 0).take (rs.length * 3) = rs.flatten := by
  rw [List.drop_zero, List.map_append, LB, map_den_v, ← flat3 h, List.take_left]
theorem RdP.fin {cx : Cx} {mem : List Blk} {w w' : World} (h0 : cx.w0 = w) (hg : cx.g0 = []) (hm : MemRel cx mem w') {k b : Nat} {rs : List (List Value)} {xs : List Ins} {pad : List C} {ty : TypeId} (hk : mem[k]? = some ⟨b, LB rs ++ pad, ty⟩) (h : RdP (newF cx) rs xs) :
    RdN (fun a => if w.heap.size ≤ a.block then w'.cell? a else none) (some ⟨b, 0, none⟩) xs :=
  ⟨rs, RdO.fin h0 hg hm hk h.row (LB_rows rs pad h.row), h.len, fun j r x hr hx => (h.at' j r x hr hx).mono (sub_end h0 hm)⟩
def CodeAt (z : Str) (k : Nat) (c : Int) : Prop := (c = 0 ∧ ∀ j : Int, 1 ≤ j → j < k → wordOf j ≠ z) ∨ (1 ≤ c ∧ c < k ∧ wordOf c = z)
theorem codeAt_end {z : Str} {c : Int} (h : CodeAt z 12 c) : c = codeRd z := by
  rcases h with ⟨rfl, h⟩ | ⟨h1, h2, rfl⟩
  · unfold codeRd
    rw [idxW_miss fun hz => ?_]; rfl
    simp only [words11', List.mem_cons, List.not_mem_nil, or_false] at hz
    rcases hz with hz | hz | hz | hz | hz | hz | hz | hz | hz | hz | hz
    · exact h 1 (by decide) (by decide) hz.symm
    · exact h 2 (by decide) (by decide) hz.symm
    · exact h 3 (by decide) (by decide) hz.symm
    · exact h 4 (by decide) (by decide) hz.symm
    · exact h 5 (by decide) (by decide) hz.symm
    · exact h 6 (by decide) (by decide) hz.symm
    · exact h 7 (by decide) (by decide) hz.symm
    · exact h 8 (by decide) (by decide) hz.symm
    · exact h 9 (by decide) (by decide) hz.symm
    · exact h 10 (by decide) (by decide) hz.symm
    · exact h 11 (by decide) (by decide) hz.symm
  · exact ((code_word ⟨h1, by omega⟩).1).symm
theorem lineRd_one (z : Str) : lineRd [z] = if insOk ⟨codeRd z, 0, []⟩ then some ⟨codeRd z, 0, []⟩ else none := rfl
theorem lineRd_two_none {z t : Str} (h : elemRd t = none) : lineRd [z, t] = none := by unfold lineRd; simp only [h]
theorem lineRd_two {z t : Str} {e : Int × List Dev} (h : elemRd t = some e) : lineRd [z, t] = if insOk ⟨codeRd z, e.1, e.2⟩ then some ⟨codeRd z, e.1, e.2⟩ else none := by unfold lineRd; simp only [h]
theorem listGo_none {l : Str} {ls : List Str} {k : Nat} {out : List Ins} (h : wordsL l = []) : listGo (l :: ls) k out = listGo ls (k + 1) out := by
  show (if wordsL l = [] then _ else _) = _
  rw [if_pos h]
theorem listGo_bad {l : Str} {ls : List Str} {k : Nat} {out : List Ins} (h : wordsL l ≠ []) (h2 : lineRd (wordsL l) = none) : listGo (l :: ls) k out = ([], (k : Int) + 1, 2) := by
  show (if wordsL l = [] then _ else _) = _
  rw [if_neg h]; simp only [h2]
theorem listGo_full {l : Str} {ls : List Str} {k : Nat} {out : List Ins} {x : Ins} (h : wordsL l ≠ []) (h2 : lineRd (wordsL l) = some x) (h3 : out.length = 1000) : listGo (l :: ls) k out = ([], (k : Int) + 1, 3) := by
  show (if wordsL l = [] then _ else _) = _
  rw [if_neg h]; simp only [h2]; rw [if_pos h3]
theorem listGo_push {l : Str} {ls : List Str} {k : Nat} {out : List Ins} {x : Ins} (h : wordsL l ≠ []) (h2 : lineRd (wordsL l) = some x) (h3 : out.length ≠ 1000) : listGo (l :: ls) k out = listGo ls (k + 1) (out ++ [x]) := by
  show (if wordsL l = [] then _ else _) = _
  rw [if_neg h]; simp only [h2]; rw [if_neg h3]
theorem cutL_len (c : UInt8) (s : Str) : (cutL c s).length ≤ s.length + 1 := by
  rw [cutL_count]
  have := List.length_filter_le (fun x => x == c) s
  omega
end Go.Sx
namespace Go.Sx
open Go
theorem memRel_sub {cx : Cx} {mem mem' : List Blk} {w : World} (h : MemRel cx mem w) (hs : mem'.Sublist mem) : MemRel cx mem' w := by
  have hp : mem.Pairwise (fun b c => b.id ≠ c.id) := by
    rw [List.pairwise_iff_getElem]
    intro i j hi hj hij e
    exact absurd (h.inj i j _ _ (List.getElem?_eq_getElem hi) (List.getElem?_eq_getElem hj) e) (by omega)
  have hp' := hp.sublist hs
  rw [List.pairwise_iff_getElem] at hp'
  have sub : ∀ b ∈ mem', b ∈ mem := fun b hb => hs.subset hb
  refine ⟨h.os, h.tape, h.output, h.frame, h.facts, h.le01, h.le1, fun k b hk => ?_, fun b hb => h.fresh b (sub b hb), fun b hb => h.low b (sub b hb), fun i j b c hi hj e => ?_⟩
  · obtain ⟨k', hk'⟩ := List.getElem?_of_mem (sub b (List.mem_of_getElem? hk))
    exact h.blk k' b hk'
  · obtain ⟨hi1, hi2⟩ := List.getElem?_eq_some_iff.1 hi
    obtain ⟨hj1, hj2⟩ := List.getElem?_eq_some_iff.1 hj
    rcases Nat.lt_trichotomy i j with hlt | heq | hgt
    · exact absurd (by rw [hi2, hj2]; exact e) (hp' i j hi1 hj1 hlt)
    · exact heq
    · exact absurd (by rw [hi2, hj2]; exact e.symm) (hp' j i hj1 hi1 hgt)
theorem endK_sub {d : Nat} {K : Cx → C → List Blk → Prop} {cx : Cx} {c : C} {mem mem' : List Blk} (hs : mem'.Sublist mem) (h : K cx (.v (den c)) mem') : EndK d K cx c mem := fun w' hm => ⟨cx, .v (den c), mem', rfl, memRel_sub hm hs, h⟩
theorem lineRd_nocode {z : Str} {r : List Str} (h : codeRd z = 0) : lineRd (z :: r) = none := by
  have hno : ∀ {o : Int} {xs : List Dev}, insOk ⟨0, o, xs⟩ = true → False := fun {o xs} e => by
    have := (ins_code e).1
    simp at this
  cases r with
  | nil =>
    rw [lineRd_one, h, if_neg fun e => hno e]
  | cons t r =>
    cases r with
    | nil =>
      cases he : elemRd t with
      | none => exact lineRd_two_none he
      | some e => rw [lineRd_two he, h, if_neg fun e => hno e]
    | cons u r => rfl
theorem lineRd_long {ws : List Str} (h : 2 < ws.length) : lineRd ws = none := by
  match ws, h with
  | [], h => simp at h
  | [_], h => simp at h
  | [_, _], h => simp at h
  | _ :: _ :: _ :: _, _ => rfl
theorem LPK.new {ti td : TypeId} {r : List Ins × Int × Int} {c : C} {ex : List Blk} {cx : Cx} {w w' : World} (h : LPK ti td r c ex) (h0 : cx.w0 = w) (hg : cx.g0 = []) (hm : MemRel cx ex w') : IsLP (fun a => if w.heap.size ≤ a.block then w'.cell? a else none) (den c) r := by
  have hb : ∀ A ∈ ex, w.heap.size ≤ A.id := fun A hA => by
    refine Nat.le_of_not_lt fun hlt => ?_
    have := hm.low A hA (by rw [h0]; exact hlt)
    rw [hg] at this
    simp at this
  rcases h with ⟨h1, h2, rfl, rfl⟩ | ⟨h2, b, cp, pad, rs, As, rfl, rfl, hL, h3, h4, h5⟩
  · refine ⟨none, 0, by rw [h1]; rfl, by rw [h1]; exact ⟨[], RdO.nil _ _ _, rfl, fun i r x h => by simp at h⟩, by rw [h1]; exact Nat.le_refl _, by decide⟩
  · refine ⟨some ⟨b, 0, none⟩, cp, by rw [h2]; rfl, hL.rdn (ty2 := ti) (pad := pad) (fun off c hc => ?_) (fun A hA off c hc => ?_), h3, h4⟩
    · simp only
      rw [if_pos (hb _ (List.mem_cons_self ..))]
      exact blk_cell hm (k := 0) rfl hc
    · simp only
      rw [if_pos (hb A (List.mem_cons_of_mem _ hA))]
      obtain ⟨k, hk⟩ := List.getElem?_of_mem (List.mem_cons_of_mem ⟨b, LB rs ++ pad, ti⟩ hA)
      obtain ⟨i, cs, ty⟩ := A
      exact blk_cell hm hk hc
end Go.Sx
namespace Go.Proofs.YtclbanhoiaieaaaGreatDoor
open Go Go.Sx
open List renaming all_eq_true → Y1, zipIdx → Y5
open Bool renaming exists_bool → Y3, forall_bool → Y4
attribute [local simp] Sx.vcsE1 Sx.vcsE2 Sx.vcsE3 Sx.vcsE4 Sx.vcsE5 Sx.vcsE6 Sx.vcsE7 Sx.vcsE8 Sx.vcsE9 Sx.vcsE10 Sx.vcsE11 Sx.vcsE12 Sx.vcsE13 Sx.vcsE14 Sx.vcsE15 Sx.vcsE16 Sx.vcsE17 Sx.vcsE18 Sx.vcsE19 Sx.get Sx.look Sx.put Sx.pureFn Sx.findOrd Sx.unF Sx.dstOk Sx.isFloatT Sx.endVC Sx.resFn Sx.packC Sx.newFn Sx.storeFn Sx.buildFn Sx.known Sx.aggT Sx.cellsC Sx.findCon Sx.allV Sx.partsV Sx.partsC Sx.fillL Sx.exitTo Sx.fAr Sx.eqFn Sx.eqFieldsFn Sx.eqElemsFn Sx.partFn Sx.sliceFn Sx.boundFn Sx.AppV Sx.CopyV Sx.MakeSliceV Sx.NewsV Sx.GrowV Sx.TextV Sx.bytesL Sx.notInt Sx.typeAt Sx.argAt Sx.den Go.undef Go.Value.cells Go.Value.oneCell' Sx.Con.pure Sx.Con.some Sx.Con.read Sx.Con.make Sx.Con.ext Sx.Con.rel Sx.Con.extS Sx.Con.draw Sx.Con.step Sx.C.one Sx.Draws.steps

theorem TB_rd {cx : Cx} {mem : List Blk} {w : World} {k b : Nat} {ws : List Str} {pad : List C} {ty : TypeId} (hm : MemRel cx mem w) (hk : mem[k]? = some ⟨b, TB ws ++ pad, ty⟩) : RdL w.cell? (some ⟨b, 0, none⟩) (ws.map fun z => Value.string (txt z)) := by
  intro j v hj
  refine ⟨_, rfl, ?_⟩
  rw [addr_add, Nat.zero_add]
  have hl := (List.getElem?_eq_some_iff.1 hj).1
  refine blk_cell hm hk (c := .v v) ?_
  rw [List.getElem?_append_left (by rw [TB_len]; simpa using hl)]
  unfold TB
  rw [List.getElem?_map] at hj ⊢
  cases hq : ws[j]? with
  | none => rw [hq] at hj; cases hj
  | some z => rw [hq] at hj; cases hj; rfl
def splitG_S : Gens Tryz.prog 52 where
  ι := Str × UInt8
  A i := [.v (.string (txt i.1)), .v (.string (txt [i.2]))]
  pre i cx mem := TX (factF cx) ∧ i.1.length ≤ 2000000
  post i cx mem cx' c mem' := cx' = cx ∧ ∃ b, c = .s mem.length b 0 (cutL i.2 i.1).length (cutL i.2 i.1).length ∧ mem' = mem ++ [⟨b, TB (cutL i.2 i.1), 9⟩]
  enter := Tryz.call52
  h := by
    rintro ⟨s, c⟩ cx mem w ⟨ht, hl⟩ hm
    simp only at hl ⊢
    obtain ⟨m, hmx⟩ := (ht.mono (fact_cell hm)).len
    refine (Tryz.strings_Split (txt s) (txt [c]) m w (by rw [txt_size]; omega) hmx (by exact Nat.le_refl 1)).mono ?_
    rintro e w' ⟨rfl, rfl⟩
    have hb : Lib.splitB (txt [c]) 0 (Lib.countB (txt s) (txt [c])) (txt s) = (cutL c s).map txt := bytes_back (by rw [Lib.splitB_data]; exact split_cut c s)
    have hlen := Lib.splitB_all (txt [c]) (by exact Nat.le_refl 1) 0 _ (txt s) rfl
    rw [hb, List.length_map] at hlen
    rw [hb, ← hlen]
    refine ⟨cx, .s mem.length w.heap.size 0 (cutL c s).length (cutL c s).length, mem ++ [⟨w.heap.size, TB (cutL c s), 9⟩], rfl, ?_, rfl, _, rfl, rfl⟩
    have := memRel_alloc hm (TB (cutL c s)) 9
    have e : ((cutL c s).map txt).map Value.string = (TB (cutL c s)).map den := by
      unfold TB; rw [List.map_map, List.map_map]; rfl
    rw [e]
    exact this
def splitG : Con Tryz.prog := Con.gen splitG_S
theorem splitG_at {s : Str} {c : UInt8} {d : Nat} {cx : Cx} {mem : List Blk} {K : Cx → C → List Blk → Prop} (h1 : TX (factF cx)) (h2 : s.length ≤ 2000000)
    (h : ∀ b, K cx (.s mem.length b 0 (cutL c s).length (cutL c s).length) (mem ++ [⟨b, TB (cutL c s), 9⟩])) : GenV d splitG_S cx [.v (.string (txt s)), .v (.string (txt [c]))] mem K :=
  ⟨(s, c), rfl, ⟨h1, h2⟩, by rintro _ _ _ ⟨rfl, b, rfl, rfl⟩; exact h b⟩
theorem gives_empty (z : Str) (W : World) : Go.Proofs.FnGives Tryz.prog 76 #[] #[encT z] (.bool (decide (z = []))) W := by
  show Calls Tryz.prog 76 #[.string (txt z)] W _
  go_enter Tryz.func76, Tryz.ntmps76
  go_wp2
  go_ret
  exact ⟨by cases z <;> rfl, 0, rfl⟩
def delete_S : Gens Tryz.prog 75 where
  ι := Nat × Nat × Nat × List Str × List C
  A i := [.s i.1 i.2.1 0 i.2.2.2.1.length i.2.2.1, .v (.func (.func 76) #[] #[])]
  pre i cx mem := mem[i.1]? = some ⟨i.2.1, TB i.2.2.2.1 ++ i.2.2.2.2, 9⟩ ∧ i.2.2.2.1.length ≤ i.2.2.1 ∧ i.2.2.2.1.length ≤ 4000000
  post i cx mem cx' c mem' := cx' = cx ∧ ∃ pad, c = .s i.1 i.2.1 0 (wordsF i.2.2.2.1).length i.2.2.1 ∧ mem' = mem.set i.1 ⟨i.2.1, TB (wordsF i.2.2.2.1) ++ pad, 9⟩
  enter := Tryz.call75
  h := by
    rintro ⟨k, b, cap, ws, pad⟩ cx mem w ⟨hk, hc, hl⟩ hm
    simp only at hk hc hl ⊢
    have hb := hm.blk k _ hk
    have hbl : w.heap[b]? = some (.cells ((TB ws ++ pad).map den).toArray 9 (0, 0)) := hb
    have hH : Go.Sort.Holds encT w b 0 ws.toArray := holdsT hbl (by
      unfold TB
      rw [List.map_append, List.map_map, List.take_append_of_le_length (by simp), List.take_of_length_le (by simp)]
      first | (simp; done) | (simp; intros; rfl))
    have key := Tryz.slices_DeleteFunc (α := Str) encT (fun _ => rfl) (fun z => decide (z = [])) 76 #[] (enters_of Tryz.func76 (by kernel_rfl) rfl) [] (fun w => Tryz.zeroValue9 w) b 0 cap ws.toArray w (fun W x _ => gives_empty x W) (fun n os dk x _ => gives_empty x _) hH (by simp; omega) (by simpa using hc)
    refine key.mono ?_
    rintro e w' ⟨rfl, q, rfl⟩
    have hf : List.filter (fun x => !decide (x = [])) ws.toArray.toList = wordsF ws := by
      unfold wordsF
      simp
    have hfl : (wordsF ws).length ≤ ws.length := List.length_filter_le _ _
    rw [hf]
    have hma : MemRel cx mem (Go.Sort.ahead w q) := memRel_drew hm _
    have hba : (Go.Sort.ahead w q).heap[b]? = some (.cells ((TB ws ++ pad).map den).toArray 9 (0, 0)) := hbl
    rw [putRowT hba (by simp [TB_len]; omega)]
    refine ⟨cx, .s k b 0 (wordsF ws).length cap, mem.set k ⟨b, TB (wordsF ws) ++ (TB (List.replicate (ws.length - (wordsF ws).length) []) ++ pad), 9⟩, rfl, ?_, rfl, _, rfl, rfl⟩
    have := memRel_set hma hk (TB (wordsF ws) ++ (TB (List.replicate (ws.length - (wordsF ws).length) []) ++ pad))
    simp only [List.size_toArray]
    have e : List.take 0 ((TB ws ++ pad).map den) ++ List.map encT (wordsF ws ++ List.replicate (ws.length - (wordsF ws).length) []) ++ List.drop (0 + (wordsF ws ++ List.replicate (ws.length - (wordsF ws).length) ([] : Str)).length) ((TB ws ++ pad).map den) =
        (TB (wordsF ws) ++ (TB (List.replicate (ws.length - (wordsF ws).length) []) ++ pad)).map den := by
      have hs : 0 + (wordsF ws ++ List.replicate (ws.length - (wordsF ws).length) ([] : Str)).length = ((TB ws).map den).length := by simp [TB_len]; omega
      rw [hs, List.map_append, List.drop_left, List.take_zero, List.nil_append]
      unfold TB
      simp only [List.map_append, List.map_map]
      rw [List.append_assoc]
      rfl
    rw [e]
    exact this
def deleteC : Con Tryz.prog := Con.gen delete_S
def iListOkW : Con Tryz.prog := Con.readW iListOkC_S
theorem iListOkW_at {code op : Int} {o : Option Addr} {cap n : Nat} {xs : List Dev} {d : Nat} {cx : Cx} {mem : List Blk} {K : C → Prop} (hn : n = xs.length) (h2 : ∀ w, MemRel cx mem w → RdD w.cell? o xs ∧ xs.length ≤ 1048576 ∧ xs.length ≤ cap ∧ cap ≤ 9223372036854775807) (h : K (.v (.bool (insOk ⟨code, op, xs⟩)))) :
    RdsW d iListOkC_S cx [.v (.agg #[.int .i64 code, .int .i64 op, .slice o n cap])] mem K := by
  subst hn
  exact readW_at (S := iListOkC_S) (code, op, o, cap, xs) rfl h2 h
structure TM (F : Facts) : Prop where
  e : TE F
  w : TW F
theorem TM.mono {F G : Facts} (h : TM F) (hs : Sub F G) : TM G := ⟨h.e.mono hs, h.w.mono hs⟩
theorem iInstOfK_c (o : Option Addr) (cap : Nat) (ws : List Str) (cx : Cx) (mem : List Blk) (w : World) (hpre : mem = [] ∧ RdL (factF cx) o (List.map (fun z => Value.string (txt z)) ws) ∧ TM (factF cx) ∧ 0 < List.length ws ∧ List.length ws ≤ 1000000 ∧ (∀ z ∈ ws, List.length z ≤ 1100000)) (hm : MemRel cx mem w) :
    Calls Tryz.prog 77 (([.v (.slice o (List.length ws) cap)] : List C).map den).toArray w fun e w' => ∃ cx' c mem', e = .returned (den c) ∧ MemRel cx' mem' w' ∧ Le cx cx' ∧ IRK 91 (lineRd ws) c mem' := by
  refine step_of_vcs ⟨[idxSC, iElemReadU, iListOkW], []⟩ hmx Tryz.func77 rfl (by kernel_rfl) (args := [.v (.slice o (List.length ws) cap)]) (by simp [Tryz.ntmps77]) hm (fun cx' c mem' => Le cx cx' ∧ IRK 91 (lineRd ws) c mem') 400 ?_
  obtain ⟨rfl, h, ht, h0, hl, hw⟩ := hpre
  obtain ⟨z, r, rfl⟩ : ∃ z r, ws = z :: r := by
    cases ws with
    | nil => simp at h0
    | cons z r => exact ⟨z, r, rfl⟩
  obtain ⟨a, rfl⟩ : ∃ a, o = some a := by
    obtain ⟨a, ha, _⟩ := h 0 (.string (txt z)) rfl
    exact ⟨a, ha⟩
  have l0 := fun (d : Nat) (mem : List Blk) (K : Value → Prop) => RdL.ld (P := Tryz.prog) (d := d) (K := K) (RdL.mono h (sub_now cx mem)) (t := 9) (by kernel_rfl) (i := 0) (v := .string (txt z)) rfl
  simp only [padd_zero] at l0
  have x0 : ∀ (d : Nat) (mem : List Blk) (K : C → Prop), ReadV d idxS_S cx [.v (.slice (some ⟨2, 0, none⟩) 11 11), .v (.string (txt z))] mem K = K (.v (.int .i64 (idxW z words11))) := fun d mem K =>
    idxS_S.eq (d := d) (cx := cx) (args := [.v (.slice (some ⟨2, 0, none⟩) 11 11), .v (.string (txt z))]) (mem := mem) (K := K) (⟨2, 0, none⟩, 11, words11, z) rfl ⟨RdL.mono ht.w (sub_now _ _), rfl, show words11.length ≤ 1000000 by decide⟩
  have hcode : codeRd z = idxW z words11 + 1 := rfl
  have hcode2 : codeRd z = 1 + idxW z words11 := by rw [hcode]; omega
  have hbd := idxW_bd z words11
  have hbl : words11.length = 11 := rfl
  rw [hbl] at hbd
  generalize idxW z words11 = q at *
  by_cases hq : q < 0
  · rw [lineRd_nocode (by omega)]
    simp (maxSteps := 4000000) -dsimp [-Y1, -Array.all_eq_true, -Y3, -Y4, and_assoc, Y5, Tryz.f77, idxSC, iElemReadU, iListOkW, l0, x0, hq, Con.gen, Con.readW]
    intro b0
    exact endK_sub (List.nil_sublist _) ⟨Le.refl _, Or.inl ⟨rfl, rfl, _, _, _, _, _, rfl⟩⟩
  by_cases h2 : 2 < (z :: r).length
  · rw [lineRd_long h2]
    have h2' : (2 : Int) < r.length + 1 := by simp at h2; omega
    have h2'' : 1 < r.length := by simp at h2; omega
    simp (maxSteps := 4000000) -dsimp [-Y1, -Array.all_eq_true, -Y3, -Y4, and_assoc, Y5, Tryz.f77, idxSC, iElemReadU, iListOkW, l0, x0, hq, h2', h2'', Con.gen, Con.readW]
    intro b0
    exact endK_sub (List.nil_sublist _) ⟨Le.refl _, Or.inl ⟨rfl, rfl, _, _, _, _, _, rfl⟩⟩
  have w1 : IntKind.i64.wrap (1 + q) = 1 + q := wrap_i64 (by omega) (by omega)
  cases r with
  | nil =>
    have hno : ¬ (2 : Int) < 1 := by decide
    simp (maxSteps := 4000000) -dsimp [-Y1, -Array.all_eq_true, -Y3, -Y4, and_assoc, Y5, Tryz.f77, idxSC, iElemReadU, iListOkW, l0, x0, hq, w1, Con.gen, Con.readW]
    intro b0 b1
    refine iListOkW_at (xs := []) rfl (fun w hm => ⟨RdO.nil _ _ _, by simp, by simp, by simp⟩) ?_
    rw [lineRd_one, hcode2]
    cases hi : insOk ⟨1 + q, 0, []⟩
    · simp (maxSteps := 4000000) -dsimp [-Y1, -Array.all_eq_true, -Y3, -Y4, and_assoc, Y5, Tryz.f77, idxSC, iElemReadU, iListOkW, hi, Con.gen, Con.readW]
      exact endK_sub (List.nil_sublist _) ⟨Le.refl _, Or.inl ⟨rfl, rfl, _, _, _, _, _, rfl⟩⟩
    · simp (maxSteps := 4000000) -dsimp [-Y1, -Array.all_eq_true, -Y3, -Y4, and_assoc, Y5, Tryz.f77, idxSC, iElemReadU, iListOkW, hi, Con.gen, Con.readW]
      exact endK_sub (List.nil_sublist _) ⟨Le.refl _, Or.inr ⟨_, rfl, Or.inl ⟨rfl, rfl, rfl⟩⟩⟩
  | cons t r2 =>
    cases r2 with
    | cons u r3 => simp at h2
    | nil =>
      have l1 := fun (d : Nat) (mem : List Blk) (K : Value → Prop) => RdL.ld (P := Tryz.prog) (d := d) (K := K) (RdL.mono h (sub_now cx mem)) (t := 9) (by kernel_rfl) (i := 1) (v := .string (txt t)) rfl
      simp (maxSteps := 4000000) -dsimp [-Y1, -Array.all_eq_true, -Y3, -Y4, and_assoc, Y5, Tryz.f77, idxSC, iElemReadU, iListOkW, l0, l1, x0, hq, w1, Con.gen, Con.readW]
      intro b0 b1
      refine iElemReadU_at ht.e (hw t (by simp)) ?_
      intro cx2 c ex hle hE
      rcases hE with ⟨er, rfl, rfl⟩ | ⟨e, b2, cp, pad, er, rfl, rfl, p1, p2, p3⟩
      · rw [lineRd_two_none er]
        simp (maxSteps := 4000000) -dsimp [-Y1, -Array.all_eq_true, -Y3, -Y4, and_assoc, Y5, Tryz.f77, idxSC, iElemReadU, iListOkW, er, Con.gen, Con.readW]
        intro b3
        exact endK_sub (List.nil_sublist _) ⟨hle, Or.inl ⟨rfl, rfl, _, _, _, _, _, rfl⟩⟩
      · rw [lineRd_two er, hcode2]
        have har := arity_le3' e.1
        have hal := (eOk_all (elemRd_some er).1).2
        have p2' : cp ≤ 9223372036854775807 := by unfold maxLen at p2; omega
        simp (maxSteps := 4000000) -dsimp [-Y1, -Array.all_eq_true, -Y3, -Y4, and_assoc, Y5, Tryz.f77, idxSC, iElemReadU, iListOkW, er, Con.gen, Con.readW]
        intro b3
        refine iListOkW_at (xs := e.2) rfl (fun w hm => ⟨DB_rd (pad := pad) hm (k := 2) rfl, by omega, p1, p2'⟩) ?_
        cases hi : insOk ⟨1 + q, e.1, e.2⟩
        · simp (maxSteps := 4000000) -dsimp [-Y1, -Array.all_eq_true, -Y3, -Y4, and_assoc, Y5, Tryz.f77, idxSC, iElemReadU, iListOkW, hi, Con.gen, Con.readW]
          exact endK_sub (List.nil_sublist _) ⟨hle, Or.inl ⟨rfl, rfl, _, _, _, _, _, rfl⟩⟩
        · simp (maxSteps := 4000000) -dsimp [-Y1, -Array.all_eq_true, -Y3, -Y4, and_assoc, Y5, Tryz.f77, idxSC, iElemReadU, iListOkW, hi, Con.gen, Con.readW]
          exact endK_sub (List.singleton_sublist.2 (by simp)) ⟨hle, Or.inr ⟨_, rfl, Or.inr ⟨b2, cp, pad, p1, p2, p3, rfl, rfl⟩⟩⟩
def iInstOfK_S : Gens Tryz.prog 77 where
  ι := ((Option Addr) × (Nat) × (List Str))
  A := fun (i : ((Option Addr) × (Nat) × (List Str))) => match i with | (o, cap, ws) => [.v (.slice o (List.length ws) cap)]
  pre := fun (i : ((Option Addr) × (Nat) × (List Str))) (cx : Cx) (mem : List Blk) => match i with | (o, cap, ws) => mem = [] ∧ RdL (factF cx) o (List.map (fun z => Value.string (txt z)) ws) ∧ TM (factF cx) ∧ 0 < List.length ws ∧ List.length ws ≤ 1000000 ∧ (∀ z ∈ ws, List.length z ≤ 1100000)
  post := fun (i : ((Option Addr) × (Nat) × (List Str))) (cx : Cx) (mem : List Blk) (cx' : Cx) (c : C) (mem' : List Blk) => match i with | (o, cap, ws) => Le cx cx' ∧ IRK 91 (lineRd ws) c mem'
  enter := Tryz.call77
  h := fun i cx mem w hp hm => iInstOfK_c i.1 i.2.1 i.2.2 cx mem w hp hm

theorem deleteC_at {k b cap n : Nat} {ws : List Str} {d : Nat} {cx : Cx} {mem : List Blk} {K : Cx → C → List Blk → Prop} (hn : n = ws.length) (hk : mem[k]? = some ⟨b, TB ws, 9⟩) (hc : ws.length ≤ cap) (hl : ws.length ≤ 4000000)
    (h : ∀ pad, K cx (.s k b 0 (wordsF ws).length cap) (mem.set k ⟨b, TB (wordsF ws) ++ pad, 9⟩)) : GenV d delete_S cx [.s k b 0 n cap, .v (.func (.func 76) #[] #[])] mem K := by
  subst hn
  exact ⟨(k, b, cap, ws, []), rfl, ⟨by rw [List.append_nil]; exact hk, hc, hl⟩, by rintro _ _ _ ⟨rfl, pad, rfl, rfl⟩; exact h pad⟩
def iInstOfU_S : Gens Tryz.prog 77 where
  ι := Option Addr × Nat × List Str × List C
  A i := i.2.2.2
  pre i cx mem := i.2.2.2.map den = [.slice i.1 i.2.2.1.length i.2.1] ∧ ∀ w, MemRel cx mem w → RdL w.cell? i.1 (i.2.2.1.map fun z => Value.string (txt z)) ∧ TM w.cell? ∧ 0 < i.2.2.1.length ∧ i.2.2.1.length ≤ 1000000 ∧ (∀ z ∈ i.2.2.1, z.length ≤ 1100000)
  post i cx mem cx' c mem' := Le cx cx' ∧ ∃ ex, mem' = mem ++ ex ∧ IRK 91 (lineRd i.2.2.1) c ex
  enter := iInstOfK_S.enter
  h := fun (o, cap, ws, args) cx mem w hp hm => by
    obtain ⟨h0, h⟩ := hp
    obtain ⟨h1, h2, h3⟩ := h w hm
    simp only at h0 h1 h2 h3 ⊢
    rw [h0]
    refine (iInstOfK_c o cap ws ⟨w, [], w, []⟩ [] w ⟨rfl, by rw [factF_init]; exact h1, by rw [factF_init]; exact h2, h3⟩ (memRel_nil w)).mono ?_
    rintro e w' ⟨cx2, c, mem2, rfl, hm2, hle, hE⟩
    obtain ⟨cx', g1, g2⟩ := memRel_lift hm hm2 hle
    exact ⟨cx', c, _, rfl, g1, g2, mem2, rfl, hE⟩
def iInstOfU : Con Tryz.prog := Con.gen iInstOfU_S
theorem iInstOfU_at {k b cap n : Nat} {ws : List Str} {pad : List C} {d : Nat} {cx : Cx} {mem : List Blk} {K : Cx → C → List Blk → Prop} (hn : n = ws.length) (hk : mem[k]? = some ⟨b, TB ws ++ pad, 9⟩) (ht : TM (factF cx)) (h3 : 0 < ws.length ∧ ws.length ≤ 1000000 ∧ (∀ z ∈ ws, z.length ≤ 1100000))
    (h : ∀ cx' c ex, Le cx cx' → IRK 91 (lineRd ws) c ex → K cx' c (mem ++ ex)) : GenV d iInstOfU_S cx [.s k b 0 n cap] mem K := by
  subst hn
  exact ⟨(some ⟨b, 0, none⟩, cap, ws, [.s k b 0 ws.length cap]), rfl, ⟨rfl, fun w hm => ⟨TB_rd hm hk, ht.mono (fact_cell hm), h3⟩⟩, by rintro cx' c _ ⟨hle, ex, rfl, hE⟩; exact h cx' c ex hle hE⟩
theorem iListParseK_c (t : Str) (cx : Cx) (mem : List Blk) (w : World) (hpre : mem = [] ∧ TM (factF cx) ∧ List.length t ≤ 9000000000000000000) (hm : MemRel cx mem w) :
    Calls Tryz.prog 19 (([.v (.string (txt t))] : List C).map den).toArray w fun e w' => ∃ cx' c mem', e = .returned (den c) ∧ MemRel cx' mem' w' ∧ Le cx cx' ∧ LPK 57 91 (listRd t) c mem' := by
  refine step_of_vcs ⟨[splitG, deleteC, iInstOfU], []⟩ hmx Tryz.func19 rfl (by kernel_rfl) (args := [.v (.string (txt t))]) (by simp [Tryz.ntmps19]) hm (fun cx' c mem' => Le cx cx' ∧ LPK 57 91 (listRd t) c mem') 500 ?_
  obtain ⟨rfl, ht, hl⟩ := hpre
  unfold listRd
  by_cases h5 : 50000 < t.length
  · have h5' : (50000 : Int) < t.length := by omega
    rw [if_pos h5]
    simp (maxSteps := 4000000) -dsimp [-Y1, -Array.all_eq_true, -Y3, -Y4, and_assoc, Y5, Tryz.f19, splitG, deleteC, iInstOfU, h5', Con.gen]
    intro b0
    exact endK_sub (List.nil_sublist _) ⟨Le.refl _, Or.inl ⟨rfl, by decide, rfl, rfl⟩⟩
  rw [if_neg h5]
  have h5' : ¬ (50000 : Int) < t.length := by omega
  simp (maxSteps := 4000000) -dsimp [-Y1, -Array.all_eq_true, -Y3, -Y4, and_assoc, Y5, Tryz.f19, splitG, deleteC, iInstOfU, h5', Con.gen]
  intro b0 b1
  refine splitG_at (c := 10) ht.e.x (by omega) ?_
  intro bl
  have hcnt := cutL_len 10 t
  have hsub := cutL_sub 10 t
  generalize cutL 10 t = ls at *
  simp (maxSteps := 4000000) -dsimp [-Y1, -Array.all_eq_true, -Y3, -Y4, and_assoc, Y5, Tryz.f19, splitG, deleteC, iInstOfU, Con.gen]
  refine loop_inv (σ := ⟨[splitG, deleteC, iInstOfU], []⟩) hmx (by kernel_rfl) (fun m cx' tm mem => Le cx cx' ∧ ∃ i : Nat, i ≤ ls.length ∧ m = ls.length - i ∧ ∃ (out : List Ins), listGo ls 0 [] = listGo (ls.drop i) i out ∧ out.length ≤ 1000 ∧ ∃ (rs : List (List Value)) (As Gs : List Blk), LR 91 out rs As ∧ As.Sublist Gs ∧ ∃ b cp : Nat, out.length ≤ cp ∧ cp ≤ maxLen ∧ ∃ pad : List C, pad.length = (cp - out.length) * 3 ∧
      mem = [⟨b0, [.v (.int .i64 0), .v (.int .i64 0)], 48⟩, ⟨b, LB rs ++ pad, 57⟩, ⟨bl, TB ls, 9⟩] ++ Gs ∧ Sx.look tm 18 = .v (.int .i64 i) ∧ Sx.look tm 17 = .v (.int .i64 ls.length) ∧ Sx.look tm 16 = .s 2 bl 0 ls.length ls.length ∧ Sx.look tm 4 = .s 1 b 0 out.length cp ∧ Sx.look tm 3 = .p 0 b0 0)
    ls.length ⟨Le.refl _, 0, by omega, rfl, [], rfl, by decide, [], [], [], LR.nil, List.Sublist.refl _, b1, 0, by decide, by decide, [], rfl, by simp [LB], by simp [Sx.look], by simp [Sx.look], by simp [Sx.look], by simp [Sx.look], by simp [Sx.look]⟩ ?_
  rintro m cx2 tm mem ⟨hle, i, hi, rfl, out, hG, ho, rs, As, Gs, hR, hS, b, cp, g1, g2, pad, g3, rfl, j18, j17, j16, j4, j3⟩
  refine ⟨500, ?_⟩
  have ht2 := ht.mono hle.fact
  have hRl := hR.len
  have e0 := LB_take hRl.2 pad hRl.1
  have e1 := LB_full hRl.2 hRl.1 g3 g1
  by_cases hlt : i < ls.length
  · have hlt' : (i : Int) < ls.length := by omega
    obtain ⟨l, hll⟩ : ∃ l, ls[i]? = some l := ⟨ls[i], by simp [hlt]⟩
    have hlm := List.mem_of_getElem? hll
    have hlen := hsub l hlm
    have hdr : ls.drop i = l :: ls.drop (i + 1) := by
      rw [List.drop_eq_getElem_cons hlt]
      congr 1
      exact (List.getElem?_eq_some_iff.1 hll).2
    rw [hdr] at hG
    have hTB : (TB ls)[i]? = some (.v (.string (txt l))) := by unfold TB; rw [List.getElem?_map, hll]; rfl
    have hTl := TB_len ls
    have hTe : ∀ h : i < (TB ls).length, (TB ls)[i]'h = .v (.string (txt l)) := fun h => (List.getElem?_eq_some_iff.1 hTB).2
    have w1 := i_succ (i := i) (by omega)
    simp (maxSteps := 4000000) -dsimp [-Y1, -Array.all_eq_true, -Y3, -Y4, and_assoc, Y5, Tryz.f19, splitG, deleteC, iInstOfU, j18, j17, j16, j4, j3, hlt, hlt', hTB, hTl, hTe, Con.gen]
    refine splitG_at (c := 32) ht2.e.x (by omega) ?_
    intro bw
    have hwc := cutL_len 32 l
    have hws : wordsL l = wordsF (cutL 32 l) := rfl
    have hwl : (wordsL l).length ≤ l.length + 1 := Nat.le_trans (List.length_filter_le _ _) (cutL_len 32 l)
    have hwz : ∀ z ∈ wordsL l, z.length ≤ 1100000 := fun z hz => Nat.le_trans (cutL_sub 32 l z (List.mem_filter.1 hz).1) (by omega)
    generalize cutL 32 l = ws at *
    simp (maxSteps := 4000000) -dsimp [-Y1, -Array.all_eq_true, -Y3, -Y4, and_assoc, Y5, Tryz.f19, splitG, deleteC, iInstOfU, j18, j17, j16, j4, j3, Con.gen]
    refine deleteC_at (ws := ws) rfl (by simp) (Nat.le_refl _) (by omega) ?_
    intro padw
    rw [← hws]
    by_cases hw0 : wordsL l = []
    · rw [listGo_none hw0] at hG
      rw [hw0]
      simp (maxSteps := 4000000) -dsimp [-Y1, -Array.all_eq_true, -Y3, -Y4, and_assoc, Y5, Tryz.f19, splitG, deleteC, iInstOfU, j18, j17, j16, j4, j3, w1, Con.gen, List.getElem?_append, List.set_append]
      exact ⟨Gs.length + 4, ls.length - (i + 1), by omega, hle, i + 1, by omega, rfl, out, hG, ho, rs, As, hR, Gs ++ [_], hS.trans (List.sublist_append_left _ _), b, cp, g1, g2, pad, g3, List.take_of_length_le (by simp), by omega, rfl, rfl, rfl⟩
    have hwp : 0 < (wordsL l).length := List.length_pos_iff.2 hw0
    have hwp' : ¬ ((wordsL l).length : Int) = 0 := by omega
    have hwp2 : ¬ (wordsL l).length = 0 := by omega
    simp (maxSteps := 4000000) -dsimp [-Y1, -Array.all_eq_true, -Y3, -Y4, and_assoc, Y5, Tryz.f19, splitG, deleteC, iInstOfU, j18, j17, j16, j4, j3, hwp', hwp2, hw0, Con.gen, List.getElem?_append, List.set_append]
    refine iInstOfU_at (pad := padw) rfl (by simp) ht2 ⟨hwp, by omega, hwz⟩ ?_
    intro cx3 c ex hle3 hE
    rcases hE with ⟨er, rfl, a1, a2, o1, n1, cap1, rfl⟩ | ⟨x, er, ⟨hx0, rfl, rfl⟩ | ⟨bo, co, po, q1, q2, q3, rfl, rfl⟩⟩
    · rw [listGo_bad hw0 er] at hG
      rw [hG]
      simp (maxSteps := 4000000) -dsimp [-Y1, -Array.all_eq_true, -Y3, -Y4, and_assoc, Y5, Tryz.f19, splitG, deleteC, iInstOfU, j18, j17, j16, j4, j3, w1, er, Con.gen, List.getElem?_append, List.set_append]
      intro b6
      exact endK_sub (List.nil_sublist _) ⟨hle.trans hle3, Or.inl ⟨rfl, by simp, rfl, rfl⟩⟩
    · by_cases hfull : out.length = 1000
      · rw [listGo_full hw0 er hfull] at hG
        rw [hG]
        have hfull' : (out.length : Int) = 1000 := by omega
        simp (maxSteps := 4000000) -dsimp [-Y1, -Array.all_eq_true, -Y3, -Y4, and_assoc, Y5, Tryz.f19, splitG, deleteC, iInstOfU, j18, j17, j16, j4, j3, w1, er, hfull, hfull', Con.gen, List.getElem?_append, List.set_append]
        intro b6
        exact endK_sub (List.nil_sublist _) ⟨hle.trans hle3, Or.inl ⟨rfl, by simp, rfl, rfl⟩⟩
      · rw [listGo_push hw0 er hfull] at hG
        have hfull' : ¬ (out.length : Int) = 1000 := by omega
        simp (maxSteps := 4000000) -dsimp [-Y1, -Array.all_eq_true, -Y3, -Y4, and_assoc, Y5, Tryz.f19, splitG, deleteC, iInstOfU, j18, j17, j16, j4, j3, w1, er, hfull, hfull', Con.gen, List.getElem?_append, List.set_append]
        intro b6 cx' p hle' hlit
        rw [RdL.sl (hlit.mono ((sub_new cx').trans (sub_now _ _))) (by rfl)]
        unfold GrowV
        simp (maxSteps := 4000000) -dsimp [-Y1, -Array.all_eq_true, -Y3, -Y4, and_assoc, Y5, Tryz.f19, splitG, deleteC, iInstOfU, j18, j17, j16, j4, j3, e0, e1, -List.length_append, w1, Con.gen, List.getElem?_append, List.set_append]
        exact ⟨g1, g2, by unfold maxLen; omega, by omega, fun b' cap' pad' k1 k2 k3 => ⟨Gs.length + 6, ls.length - (i + 1), by omega, (hle.trans hle3).trans hle', i + 1, by omega, rfl, out ++ [x], hG, by simp; omega, rs ++ [_], As, hR.bare hx0, _, hS.trans (List.sublist_append_left _ _), b', cap', by simpa using k1, k2, pad', by simpa using k3, by rw [List.take_of_length_le (by simp), LB_push], by omega, rfl, by simp, rfl⟩⟩
    · by_cases hfull : out.length = 1000
      · rw [listGo_full hw0 er hfull] at hG
        rw [hG]
        have hfull' : (out.length : Int) = 1000 := by omega
        simp (maxSteps := 4000000) -dsimp [-Y1, -Array.all_eq_true, -Y3, -Y4, and_assoc, Y5, Tryz.f19, splitG, deleteC, iInstOfU, j18, j17, j16, j4, j3, w1, er, hfull, hfull', Con.gen, List.getElem?_append, List.set_append]
        intro b6
        exact endK_sub (List.nil_sublist _) ⟨hle.trans hle3, Or.inl ⟨rfl, by simp, rfl, rfl⟩⟩
      · rw [listGo_push hw0 er hfull] at hG
        have hfull' : ¬ (out.length : Int) = 1000 := by omega
        simp (maxSteps := 4000000) -dsimp [-Y1, -Array.all_eq_true, -Y3, -Y4, and_assoc, Y5, Tryz.f19, splitG, deleteC, iInstOfU, j18, j17, j16, j4, j3, w1, er, hfull, hfull', Con.gen, List.getElem?_append, List.set_append]
        intro b6 cx' p hle' hlit
        rw [RdL.sl (hlit.mono ((sub_new cx').trans (sub_now _ _))) (by rfl)]
        unfold GrowV
        simp (maxSteps := 4000000) -dsimp [-Y1, -Array.all_eq_true, -Y3, -Y4, and_assoc, Y5, Tryz.f19, splitG, deleteC, iInstOfU, j18, j17, j16, j4, j3, e0, e1, -List.length_append, w1, Con.gen, List.getElem?_append, List.set_append]
        exact ⟨g1, g2, by unfold maxLen; omega, by omega, fun b' cap' pad' k1 k2 k3 => ⟨Gs.length + 6, ls.length - (i + 1), by omega, (hle.trans hle3).trans hle', i + 1, by omega, rfl, out ++ [x], hG, by simp; omega, rs ++ [_], As ++ [_], hR.full ⟨q1, q2, q3⟩, _, hS.append (List.Sublist.cons _ (List.Sublist.cons_cons _ (List.nil_sublist _))), b', cap', by simpa using k1, k2, pad', by simpa using k3, by rw [List.take_of_length_le (by simp), LB_push], by omega, rfl, by simp, rfl⟩⟩
  · obtain rfl : i = ls.length := by omega
    have hlt' : ¬ (ls.length : Int) < ls.length := by omega
    rw [List.drop_of_length_le (Nat.le_refl _)] at hG
    rw [hG]
    simp (maxSteps := 4000000) -dsimp [-Y1, -Array.all_eq_true, -Y3, -Y4, and_assoc, Y5, Tryz.f19, splitG, deleteC, iInstOfU, j18, j17, j16, j4, j3, hlt, hlt', Con.gen]
    exact endK_sub (List.Sublist.cons _ (List.Sublist.cons_cons _ (List.Sublist.cons _ hS))) ⟨hle, Or.inr ⟨rfl, b, cp, pad, rs, As, rfl, rfl, hR, g1, g2, g3⟩⟩
def iListParseK_S : Gens Tryz.prog 19 where
  ι := ((Str))
  A := fun (t : ((Str))) => [.v (.string (txt t))]
  pre := fun (t : ((Str))) (cx : Cx) (mem : List Blk) => mem = [] ∧ TM (factF cx) ∧ List.length t ≤ 9000000000000000000
  post := fun (t : ((Str))) (cx : Cx) (mem : List Blk) (cx' : Cx) (c : C) (mem' : List Blk) => Le cx cx' ∧ LPK 57 91 (listRd t) c mem'
  enter := Tryz.call19
  h := fun t cx mem w hp hm => iListParseK_c t cx mem w hp hm
def iListParse_S : Makes Tryz.prog 19 where
  ι := Str
  A i := [.string (txt i)]
  pre i F := TM F ∧ i.length ≤ 9000000000000000000
  post i v F := IsLP F v (listRd i)
  mono i F G hs h := ⟨h.1.mono hs, h.2⟩
  monoP i v F G hs h := h.mono hs
  enter := iListParseK_S.enter
  h := fun t w hp => by
    refine (iListParseK_c t ⟨w, [], w, []⟩ [] w ⟨rfl, by rw [factF_init]; exact hp.1, hp.2⟩ (memRel_nil w)).mono ?_
    rintro e w' ⟨cx2, c, mem2, rfl, hm2, hle, hE⟩
    exact ⟨_, rfl, below_of_rel hm2 hle.w0 hle.g0, hE.new hle.w0 hle.g0 hm2⟩
def iListParseC : Con Tryz.prog := Con.make iListParse_S
end Go.Proofs.YtclbanhoiaieaaaGreatDoor
