/-
  Rows of instructions and their operands in known blocks, marks laid into them. Plain lemmas: nothing of a program stands here. Conditions: none.
-/
import Derived.Test.YtnnpmopnnamakaaInw1
import Derived.Test.YtnnpmopnnamakaaKmw1
import Derived.Test.YtnnpmopnnamakaaSww1
set_option linter.unusedVariables false
set_option linter.unusedSimpArgs false
set_option maxHeartbeats 1000000
namespace Go.Sx
open Go
def DB (ds : List Dev) : List C := (encDs ds).map C.v
theorem DB_len (ds : List Dev) : (DB ds).length = ds.length * 3 := by unfold DB; rw [List.length_map, len_encDs]
theorem DB_push (ds : List Dev) (k n p : Int) (pad : List C) : DB ds ++ (.v (.int .i64 k) :: .v (.int .i64 n) :: .v (.int .i64 p) :: pad) = DB (ds ++ [⟨k, n, p⟩]) ++ pad := by simp [DB, encDs, encD]
theorem DB_rows (ds : List Dev) : ∀ r ∈ ds.map encD, r.length = 3 := by
  intro r hr
  obtain ⟨d, _, rfl⟩ := List.mem_map.1 hr
  rfl
theorem DB_facts {F : Facts} {b : Nat} {ds : List Dev} {pad : List C} (h : ∀ (off : Nat) c, (DB ds ++ pad)[off]? = some c → F ⟨b, off, none⟩ = some (den c)) : RdD F (some ⟨b, 0, none⟩) ds := by
  have hL : RdL F (some ⟨b, 0, none⟩) (encDs ds) := fun j v hj => ⟨_, rfl, by
    rw [addr_add, Nat.zero_add]
    have hl := (List.getElem?_eq_some_iff.1 hj).1
    exact h j (.v v) (by rw [List.getElem?_append_left (by unfold DB; simpa using hl)]; unfold DB; rw [List.getElem?_map, hj]; rfl)⟩
  exact hL.rows (size := 3) (rows := ds.map encD) (by decide) (DB_rows ds) rfl
inductive LR (ty : TypeId) : List Ins → List (List Value) → List Blk → Prop
  | nil : LR ty [] [] []
  | bare {xs rs As x} (h : LR ty xs rs As) (hx : x.args = []) : LR ty (xs ++ [x]) (rs ++ [[.int .i64 x.code, .int .i64 x.op, .slice .none 0 0]]) As
  | full {xs rs As x b cp pad} (h : LR ty xs rs As) (hl : x.args.length ≤ cp ∧ cp ≤ maxLen ∧ pad.length = (cp - x.args.length) * 3) :
      LR ty (xs ++ [x]) (rs ++ [[.int .i64 x.code, .int .i64 x.op, .slice (.some ⟨b, 0, .none⟩) x.args.length cp]]) (As ++ [⟨b, DB x.args ++ pad, ty⟩])
theorem LR.len {ty : TypeId} {xs : List Ins} {rs : List (List Value)} {As : List Blk} (h : LR ty xs rs As) : rs.length = xs.length ∧ (∀ r ∈ rs, r.length = 3) := by
  induction h with
  | nil => exact ⟨rfl, by simp⟩
  | bare h hx ih =>
    refine ⟨by simp [ih.1], fun r hr => ?_⟩
    rcases List.mem_append.1 hr with hr | hr
    · exact ih.2 r hr
    · rw [List.mem_singleton] at hr; subst hr; rfl
  | full h hl ih =>
    refine ⟨by simp [ih.1], fun r hr => ?_⟩
    rcases List.mem_append.1 hr with hr | hr
    · exact ih.2 r hr
    · rw [List.mem_singleton] at hr; subst hr; rfl
theorem LR.rows {ty : TypeId} {xs : List Ins} {rs : List (List Value)} {As : List Blk} (h : LR ty xs rs As) {F : Facts} (hF : ∀ A ∈ As, ∀ (off : Nat) c, A.cells[off]? = Option.some c → F ⟨A.id, off, Option.none⟩ = Option.some (den c)) :
    ∀ (i : Nat) r x, rs[i]? = Option.some r → xs[i]? = Option.some x → RdR F r x := by
  induction h with
  | nil => intro i r x hr; simp at hr
  | @bare xs rs As y h hy ih =>
    intro i r x hr hx
    have hl := h.len.1
    by_cases hi : i < rs.length
    · rw [List.getElem?_append_left hi] at hr
      rw [List.getElem?_append_left (by omega)] at hx
      exact ih hF i r x hr hx
    · have e := (List.getElem?_eq_some_iff.1 hr).1
      obtain rfl : i = rs.length := by simp at e; omega
      rw [List.getElem?_append_right (Nat.le_refl _), Nat.sub_self] at hr
      rw [hl, List.getElem?_append_right (Nat.le_refl _), Nat.sub_self] at hx
      cases hr; cases hx
      exact ⟨Option.none, 0, by rw [hy]; rfl, by rw [hy]; exact RdO.nil _ _ _, by rw [hy]; exact Nat.le_refl _, by decide⟩
  | @full xs rs As y b cp pad h hb ih =>
    intro i r x hr hx
    have hl := h.len.1
    by_cases hi : i < rs.length
    · rw [List.getElem?_append_left hi] at hr
      rw [List.getElem?_append_left (by omega)] at hx
      exact ih (fun A hA => hF A (by simp [hA])) i r x hr hx
    · have e := (List.getElem?_eq_some_iff.1 hr).1
      obtain rfl : i = rs.length := by simp at e; omega
      rw [List.getElem?_append_right (Nat.le_refl _), Nat.sub_self] at hr
      rw [hl, List.getElem?_append_right (Nat.le_refl _), Nat.sub_self] at hx
      cases hr; cases hx
      exact ⟨_, cp, rfl, DB_facts (pad := pad) (hF ⟨b, DB y.args ++ pad, ty⟩ (by simp)), hb.1, hb.2.1⟩
def LB (rs : List (List Value)) : List C := rs.flatten.map C.v
theorem flat3 : ∀ {rs : List (List Value)}, (∀ r ∈ rs, r.length = 3) → rs.flatten.length = rs.length * 3
  | [], _ => rfl
  | r :: rs, h => by
    rw [List.flatten_cons, List.length_append, h r (by simp), flat3 fun x hx => h x (by simp [hx]), List.length_cons]; omega
theorem LB_len {rs : List (List Value)} (h : ∀ r ∈ rs, r.length = 3) : (LB rs).length = rs.length * 3 := by unfold LB; rw [List.length_map, flat3 h]
theorem LB_push (rs : List (List Value)) (a b c : Value) (pad : List C) : LB rs ++ (.v a :: .v b :: .v c :: pad) = LB (rs ++ [[a, b, c]]) ++ pad := by simp [LB]
theorem LB_take {rs : List (List Value)} (hr : ∀ r ∈ rs, r.length = 3) (pad : List C) {n : Nat} (h : rs.length = n) : (LB rs ++ pad).take (n * 3) = LB rs := by rw [← h, ← LB_len hr, List.take_left]
theorem LB_full {rs : List (List Value)} (hr : ∀ r ∈ rs, r.length = 3) {pad : List C} {cp n : Nat} (h : rs.length = n) (h1 : pad.length = (cp - n) * 3) (h2 : n ≤ cp) : (LB rs ++ pad).length = cp * 3 := by rw [List.length_append, LB_len hr, h, h1, ← Nat.add_mul]; congr 1; omega
theorem LR.rdn {ty ty2 : TypeId} {xs : List Ins} {rs : List (List Value)} {As : List Blk} (h : LR ty xs rs As) {F : Facts} {b : Nat} {pad : List C}
    (h0 : ∀ (off : Nat) c, (LB rs ++ pad)[off]? = some c → F ⟨b, off, none⟩ = some (den c)) (hF : ∀ A ∈ As, ∀ (off : Nat) c, A.cells[off]? = some c → F ⟨A.id, off, none⟩ = some (den c)) : RdN F (some ⟨b, 0, none⟩) xs := by
  have hL : RdL F (some ⟨b, 0, none⟩) rs.flatten := fun j v hj => ⟨_, rfl, by
    rw [addr_add, Nat.zero_add]
    have hl := (List.getElem?_eq_some_iff.1 hj).1
    exact h0 j (.v v) (by rw [List.getElem?_append_left (by unfold LB; rw [List.length_map]; exact hl)]; unfold LB; rw [List.getElem?_map, hj]; rfl)⟩
  exact ⟨rs, hL.rows (by decide) h.len.2 rfl, h.len.1, h.rows hF⟩
theorem arity_le3' (op : Int) : 0 ≤ arity op ∧ arity op ≤ 3 := by unfold arity; (repeat' split) <;> omega
theorem memRel_sub {cx : Cx} {mem mem' : List Blk} {w : World} (h : MemRel cx mem w) (hs : mem'.Sublist mem) : MemRel cx mem' w := by
  have hp : mem.Pairwise (fun b c => b.id ≠ c.id) := by
    rw [List.pairwise_iff_getElem]
    intro i j hi hj hij e
    exact absurd (h.inj i j _ _ (List.getElem?_eq_getElem hi) (List.getElem?_eq_getElem hj) e) (by omega)
  have hp' := hp.sublist hs
  rw [List.pairwise_iff_getElem] at hp'
  have sub : ∀ b ∈ mem', b ∈ mem := fun b hb => hs.subset hb
  refine ⟨h.os, h.tape, h.output, h.frame, h.facts, h.le01, h.le1, fun k b hk => ?_, fun b hb => h.fresh b (sub b hb), fun b hb => h.low b (sub b hb), fun i j b c hi hj e => ?_⟩
  · obtain ⟨k', hk'⟩ := List.getElem?_of_mem (sub b (List.mem_of_getElem? hk))
    exact h.blk k' b hk'
  · obtain ⟨hi1, hi2⟩ := List.getElem?_eq_some_iff.1 hi
    obtain ⟨hj1, hj2⟩ := List.getElem?_eq_some_iff.1 hj
    rcases Nat.lt_trichotomy i j with hlt | heq | hgt
    · exact absurd (by rw [hi2, hj2]; exact e) (hp' i j hi1 hj1 hlt)
    · exact heq
    · exact absurd (by rw [hi2, hj2]; exact e.symm) (hp' j i hj1 hi1 hgt)
theorem endK_sub {d : Nat} {K : Cx → C → List Blk → Prop} {cx : Cx} {c : C} {mem mem' : List Blk} (hs : mem'.Sublist mem) (h : K cx (.v (den c)) mem') : EndK d K cx c mem := fun w' hm => ⟨cx, .v (den c), mem', rfl, memRel_sub hm hs, h⟩
def gensSum {P : Program} {f : FuncId} (S T : Gens P f) : Gens P f where
  ι := S.ι ⊕ T.ι
  A := Sum.elim S.A T.A
  pre := Sum.elim S.pre T.pre
  post := Sum.elim S.post T.post
  enter := S.enter
  h := fun i cx mem w hp hm => match i, hp with
    | .inl i, hp => S.h i cx mem w hp hm
    | .inr j, hp => T.h j cx mem w hp hm
theorem gensSum_l {P : Program} {f : FuncId} {S T : Gens P f} {d : Nat} {cx : Cx} {args : List C} {mem : List Blk} {K : Cx → C → List Blk → Prop} (h : GenV d S cx args mem K) : GenV d (gensSum S T) cx args mem K := by
  obtain ⟨i, h1, h2, h3⟩ := h
  exact ⟨.inl i, h1, h2, h3⟩
theorem gensSum_r {P : Program} {f : FuncId} {S T : Gens P f} {d : Nat} {cx : Cx} {args : List C} {mem : List Blk} {K : Cx → C → List Blk → Prop} (h : GenV d T cx args mem K) : GenV d (gensSum S T) cx args mem K := by
  obtain ⟨i, h1, h2, h3⟩ := h
  exact ⟨.inr i, h1, h2, h3⟩
def marksD (q : Int) (n : Nat) : List Dev := (List.range n).map fun (i : Nat) => ⟨q + 3 * (i : Int), q + 3 * (i : Int) + 1, q + 3 * (i : Int) + 1 + 1⟩
theorem marksD_len (q : Int) (n : Nat) : (marksD q n).length = n := by simp [marksD]
theorem marksD_succ (q : Int) (n : Nat) : marksD q (n + 1) = marksD q n ++ [⟨q + 3 * (n : Int), q + 3 * (n : Int) + 1, q + 3 * (n : Int) + 1 + 1⟩] := by
  simp [marksD, List.range_succ]
theorem marksD_at {q : Int} {n i : Nat} (h : i < n) : ((marksD q n).map encD)[i]? = some [.int .i64 (q + 3 * (i : Int)), .int .i64 (q + 3 * (i : Int) + 1), .int .i64 (q + 3 * (i : Int) + 1 + 1)] := by
  simp [marksD, h, encD]
theorem DB_mark {q : Int} {i : Nat} {cells : List C} (h : i * 3 + 3 ≤ cells.length) :
    (((DB (marksD q i) ++ cells.drop (i * 3)).set (i * 3) (.v (.int .i64 (q + 3 * (i : Int))))).set (i * 3 + 1) (.v (.int .i64 (q + 3 * (i : Int) + 1)))).set (i * 3 + 2) (.v (.int .i64 (q + 3 * (i : Int) + 1 + 1))) =
      DB (marksD q (i + 1)) ++ cells.drop ((i + 1) * 3) := by
  have hl : (DB (marksD q i)).length = i * 3 := by rw [DB_len, marksD_len]
  have e : cells.drop (i * 3) = cells[i * 3]'(by omega) :: cells[i * 3 + 1]'(by omega) :: cells[i * 3 + 2]'(by omega) :: cells.drop ((i + 1) * 3) := by
    rw [List.drop_eq_getElem_cons (by omega), List.drop_eq_getElem_cons (by omega), List.drop_eq_getElem_cons (by omega)]
    congr 4
    omega
  rw [e]
  generalize cells[i * 3]'(by omega) = x
  generalize cells[i * 3 + 1]'(by omega) = y
  generalize cells[i * 3 + 2]'(by omega) = z
  generalize cells.drop ((i + 1) * 3) = r
  rw [marksD_succ, ← DB_push]
  generalize DB (marksD q i) = a at *
  rw [← hl]
  simp [List.set_append]
def markI (q : Int) (x : Ins) : Ins := ⟨q, q + 1, marksD (q + 1 + 1) x.args.length⟩
def nextM (q : Int) (x : Ins) : Int := q + 1 + 1 + 3 * (x.args.length : Int)
def markN (q : Int) : List Ins → List Ins
  | [] => []
  | x :: r => markI q x :: markN (nextM q x) r
def endM (q : Int) : List Ins → Int
  | [] => q
  | x :: r => endM (nextM q x) r
theorem markN_len : ∀ (q : Int) (xs : List Ins), (markN q xs).length = xs.length
  | _, [] => rfl
  | q, x :: r => by rw [markN, List.length_cons, markN_len, List.length_cons]
theorem markN_at : ∀ {q : Int} {xs : List Ins} {i : Nat} {x : Ins}, xs[i]? = some x → (markN q xs)[i]? = some (markI (endM q (xs.take i)) x)
  | _, [], _, _, h => by simp at h
  | q, y :: r, 0, x, h => by simp at h; subst h; rfl
  | q, y :: r, i + 1, x, h => by
    rw [List.getElem?_cons_succ] at h
    show (markN (nextM q y) r)[i]? = some (markI (endM (nextM q y) (r.take i)) x)
    exact markN_at h
theorem endM_step : ∀ {q : Int} {xs : List Ins} {i : Nat} {x : Ins}, xs[i]? = some x → endM q (xs.take (i + 1)) = nextM (endM q (xs.take i)) x
  | _, [], _, _, h => by simp at h
  | q, y :: r, 0, x, h => by simp at h; subst h; rfl
  | q, y :: r, i + 1, x, h => by
    rw [List.getElem?_cons_succ] at h
    show endM (nextM q y) (r.take (i + 1)) = nextM (endM (nextM q y) (r.take i)) x
    exact endM_step h
theorem endM_bd : ∀ (q : Int) (xs : List Ins), (∀ x ∈ xs, x.args.length ≤ 3) → q ≤ endM q xs ∧ endM q xs ≤ q + 11 * (xs.length : Int)
  | q, [], _ => ⟨Int.le_refl _, by simp [endM]⟩
  | q, x :: r, h => by
    have h1 := h x (by simp)
    obtain ⟨h2, h3⟩ := endM_bd (nextM q x) r fun y hy => h y (by simp [hy])
    have e : endM q (x :: r) = endM (nextM q x) r := rfl
    rw [e, List.length_cons]
    unfold nextM at h2 h3 ⊢
    constructor
    · omega
    · omega
structure KX (ty : TypeId) (xs : List Ins) (cells : List C) (As : List Blk) (J : Nat → Option Nat) : Prop where
  len : xs.length * 3 ≤ cells.length
  at' : ∀ (i : Nat) x, xs[i]? = some x → cells[i * 3]? = some (.v (.int .i64 x.code)) ∧ cells[i * 3 + 1]? = some (.v (.int .i64 x.op)) ∧
    ((x.args = [] ∧ cells[i * 3 + 2]? = some (.v (.slice none 0 0)) ∧ J i = none) ∨
      (∃ (j b cp : Nat) (pad : List C), cells[i * 3 + 2]? = some (.v (.slice (some ⟨b, 0, none⟩) x.args.length cp)) ∧ J i = some j ∧ As[j]? = some ⟨b, DB x.args ++ pad, ty⟩ ∧ x.args.length ≤ cp ∧ cp ≤ maxLen ∧ pad.length = (cp - x.args.length) * 3))
  inj : ∀ (i i' j : Nat), i < xs.length → i' < xs.length → J i = some j → J i' = some j → i = i'
theorem LR.kx {ty : TypeId} {xs : List Ins} {rs : List (List Value)} {As : List Blk} (h : LR ty xs rs As) : ∃ J, (∀ pad, KX ty xs (LB rs ++ pad) As J) ∧ ∀ i j, i < xs.length → J i = some j → j < As.length := by
  induction h with
  | nil => exact ⟨fun _ => none, fun pad => ⟨by simp, fun i x h => by simp at h, fun i i' j h => by simp at h⟩, fun i j h => by simp at h⟩
  | @bare xs rs As y h hy ih =>
    obtain ⟨J, hK, hJ⟩ := ih
    have hl := h.len
    refine ⟨fun i => if i = xs.length then none else J i, fun pad => ?_, fun i j hi hj => ?_⟩
    · have hK' := hK ((.v (.int .i64 y.code)) :: (.v (.int .i64 y.op)) :: (.v (.slice none 0 0)) :: pad)
      rw [LB_push] at hK'
      have hLB := LB_len hl.2
      refine ⟨?_, fun i x hx => ?_, fun i i' j h1 h2 h3 h4 => ?_⟩
      · have := LB_push rs (.int .i64 y.code) (.int .i64 y.op) (.slice none 0 0) pad
        rw [← this]
        simp only [List.length_append, List.length_cons, List.length_nil, hLB]
        omega
      · by_cases e : i = xs.length
        · subst e
          rw [List.getElem?_append_right (Nat.le_refl _), Nat.sub_self] at hx
          cases hx
          rw [← LB_push]
          refine ⟨?_, ?_, Or.inl ⟨hy, ?_, by simp⟩⟩
          · rw [List.getElem?_append_right (by omega), hLB, ← hl.1, Nat.sub_self]; rfl
          · rw [List.getElem?_append_right (by omega), hLB, ← hl.1, Nat.add_sub_cancel_left]; rfl
          · rw [List.getElem?_append_right (by omega), hLB, ← hl.1, Nat.add_sub_cancel_left]; rfl
        · have hi := (List.getElem?_eq_some_iff.1 hx).1
          simp at hi
          rw [List.getElem?_append_left (by omega)] at hx
          have := hK'.at' i x hx
          simp only [e, if_false]
          exact this
      · by_cases e : i = xs.length
        · simp [e] at h3
        · by_cases e' : i' = xs.length
          · simp [e'] at h4
          · simp only [e, e', if_false] at h3 h4
            simp at h1 h2
            exact hK'.inj i i' j (by omega) (by omega) h3 h4
    · by_cases e : i = xs.length
      · simp [e] at hj
      · simp only [e, if_false] at hj
        simp at hi
        exact hJ i j (by omega) hj
  | @full xs rs As y b cp po h hb ih =>
    obtain ⟨J, hK, hJ⟩ := ih
    have hl := h.len
    refine ⟨fun i => if i = xs.length then some As.length else J i, fun pad => ?_, fun i j hi hj => ?_⟩
    · have hK' := hK ((.v (.int .i64 y.code)) :: (.v (.int .i64 y.op)) :: (.v (.slice (some ⟨b, 0, none⟩) y.args.length cp)) :: pad)
      rw [LB_push] at hK'
      have hLB := LB_len hl.2
      refine ⟨?_, fun i x hx => ?_, fun i i' j h1 h2 h3 h4 => ?_⟩
      · have := LB_push rs (.int .i64 y.code) (.int .i64 y.op) (.slice (some ⟨b, 0, none⟩) y.args.length cp) pad
        rw [← this]
        simp only [List.length_append, List.length_cons, List.length_nil, hLB]
        omega
      · by_cases e : i = xs.length
        · subst e
          rw [List.getElem?_append_right (Nat.le_refl _), Nat.sub_self] at hx
          cases hx
          rw [← LB_push]
          refine ⟨?_, ?_, Or.inr ⟨As.length, b, cp, po, ?_, by simp, ?_, hb⟩⟩
          · rw [List.getElem?_append_right (by omega), hLB, ← hl.1, Nat.sub_self]; rfl
          · rw [List.getElem?_append_right (by omega), hLB, ← hl.1, Nat.add_sub_cancel_left]; rfl
          · rw [List.getElem?_append_right (by omega), hLB, ← hl.1, Nat.add_sub_cancel_left]; rfl
          · rw [List.getElem?_append_right (Nat.le_refl _), Nat.sub_self]; rfl
        · have hi := (List.getElem?_eq_some_iff.1 hx).1
          simp at hi
          rw [List.getElem?_append_left (by omega)] at hx
          obtain ⟨g1, g2, g3⟩ := hK'.at' i x hx
          simp only [e, if_false]
          refine ⟨g1, g2, ?_⟩
          rcases g3 with g3 | ⟨j, b', cp', po', k1, k2, k3, k4⟩
          · exact Or.inl g3
          · exact Or.inr ⟨j, b', cp', po', k1, k2, by rw [List.getElem?_append_left (List.getElem?_eq_some_iff.1 k3).1]; exact k3, k4⟩
      · by_cases e : i = xs.length
        · by_cases e' : i' = xs.length
          · omega
          · simp only [e, e', if_true, if_false] at h3 h4
            cases h3
            simp at h2
            have := hJ i' _ (by omega) h4
            omega
        · by_cases e' : i' = xs.length
          · simp only [e, e', if_true, if_false] at h3 h4
            cases h4
            simp at h1
            have := hJ i _ (by omega) h3
            omega
          · simp only [e, e', if_false] at h3 h4
            simp at h1 h2
            exact hK'.inj i i' j (by omega) (by omega) h3 h4
    · by_cases e : i = xs.length
      · simp only [e, if_true] at hj
        cases hj
        simp
      · simp only [e, if_false] at hj
        simp at hi
        have := hJ i j (by omega) hj
        simp
        omega
def MarkedTo (q : Int) (xs : List Ins) (i : Nat) (ys : List Ins) : Prop :=
  ys.length = xs.length ∧ ∀ (k : Nat) x, xs[k]? = some x → ys[k]? = some (if k < i then markI (endM q (xs.take k)) x else x)
theorem MarkedTo.zero (q : Int) (xs : List Ins) : MarkedTo q xs 0 xs := ⟨rfl, fun k x h => by rw [if_neg (Nat.not_lt_zero k)]; exact h⟩
theorem MarkedTo.step {q : Int} {xs ys : List Ins} {i : Nat} {x : Ins} (h : MarkedTo q xs i ys) (hx : xs[i]? = some x) : MarkedTo q xs (i + 1) (ys.set i (markI (endM q (xs.take i)) x)) := by
  refine ⟨by simpa using h.1, fun k y hy => ?_⟩
  by_cases e : k = i
  · subst e
    rw [hx] at hy
    cases hy
    rw [if_pos (by omega), List.getElem?_set_self (by rw [h.1]; exact (List.getElem?_eq_some_iff.1 hx).1)]
  · rw [List.getElem?_set_ne (fun h => e h.symm), h.2 k y hy]
    by_cases h1 : k < i
    · rw [if_pos h1, if_pos (by omega)]
    · rw [if_neg h1, if_neg (by omega)]
theorem MarkedTo.fin {q : Int} {xs ys : List Ins} (h : MarkedTo q xs xs.length ys) : ys = markN q xs := by
  refine List.ext_getElem? fun k => ?_
  by_cases hk : k < xs.length
  · have hx : xs[k]? = some xs[k] := List.getElem?_eq_getElem hk
    rw [h.2 k _ hx, if_pos hk, markN_at hx]
  · rw [List.getElem?_eq_none (by rw [h.1]; omega), List.getElem?_eq_none (by rw [markN_len]; omega)]
theorem KX.bare {ty : TypeId} {ys : List Ins} {cells : List C} {As : List Blk} {J : Nat → Option Nat} (h : KX ty ys cells As J) {i : Nat} {x : Ins} (hx : ys[i]? = some x) (h0 : x.args = []) (hJ : J i = none) (a b : Int) (hc : cells[i * 3 + 2]? = some (.v (.slice none 0 0))) :
    KX ty (ys.set i ⟨a, b, []⟩) ((cells.set (i * 3) (.v (.int .i64 a))).set (i * 3 + 1) (.v (.int .i64 b))) As J := by
  have hi := (List.getElem?_eq_some_iff.1 hx).1
  have hl := h.len
  refine ⟨by simpa using h.len, fun k y hy => ?_, fun i i' j h1 h2 => h.inj i i' j (by simpa using h1) (by simpa using h2)⟩
  by_cases e : k = i
  · subst e
    rw [List.getElem?_set_self hi] at hy
    cases hy
    refine ⟨?_, ?_, Or.inl ⟨rfl, ?_, hJ⟩⟩
    · rw [List.getElem?_set_ne (by omega), List.getElem?_set_self (by omega)]
    · rw [List.getElem?_set_self (by rw [List.length_set]; omega)]
    · rw [List.getElem?_set_ne (by omega), List.getElem?_set_ne (by omega)]; exact hc
  · rw [List.getElem?_set_ne (fun h => e h.symm)] at hy
    obtain ⟨g1, g2, g3⟩ := h.at' k y hy
    have e1 : ∀ c, c < 3 → ((cells.set (i * 3) (.v (.int .i64 a))).set (i * 3 + 1) (.v (.int .i64 b)))[k * 3 + c]? = cells[k * 3 + c]? := fun c hc => by
      rw [List.getElem?_set_ne (by omega), List.getElem?_set_ne (by omega)]
    have e10 := e1 0 (by decide)
    rw [Nat.add_zero] at e10
    exact ⟨e10.trans g1, (e1 1 (by decide)).trans g2, by rw [e1 2 (by decide)]; exact g3⟩
theorem KX.full {ty : TypeId} {ys : List Ins} {cells : List C} {As : List Blk} {J : Nat → Option Nat} (h : KX ty ys cells As J) {i : Nat} {x : Ins} (hx : ys[i]? = some x) {j bo cp : Nat} {pad : List C} (hc : cells[i * 3 + 2]? = some (.v (.slice (some ⟨bo, 0, none⟩) x.args.length cp))) (hJ : J i = some j)
    (hA : As[j]? = some ⟨bo, DB x.args ++ pad, ty⟩) (h1 : x.args.length ≤ cp) (h2 : cp ≤ maxLen) (h3 : pad.length = (cp - x.args.length) * 3) (a b : Int) {ds : List Dev} (hd : ds.length = x.args.length) :
    KX ty (ys.set i ⟨a, b, ds⟩) ((cells.set (i * 3) (.v (.int .i64 a))).set (i * 3 + 1) (.v (.int .i64 b))) (As.set j ⟨bo, DB ds ++ pad, ty⟩) J := by
  have hi := (List.getElem?_eq_some_iff.1 hx).1
  have hl := h.len
  have hjl := (List.getElem?_eq_some_iff.1 hA).1
  refine ⟨by simpa using h.len, fun k y hy => ?_, fun i i' j h1 h2 => h.inj i i' j (by simpa using h1) (by simpa using h2)⟩
  by_cases e : k = i
  · subst e
    rw [List.getElem?_set_self hi] at hy
    cases hy
    refine ⟨?_, ?_, Or.inr ⟨j, bo, cp, pad, ?_, hJ, ?_, ?_, h2, ?_⟩⟩
    · rw [List.getElem?_set_ne (by omega), List.getElem?_set_self (by omega)]
    · rw [List.getElem?_set_self (by rw [List.length_set]; omega)]
    · rw [List.getElem?_set_ne (by omega), List.getElem?_set_ne (by omega), hc]
      simp only [hd]
    · rw [List.getElem?_set_self hjl]
    · simp only [hd]; exact h1
    · simp only [hd]; exact h3
  · rw [List.getElem?_set_ne (fun h => e h.symm)] at hy
    have hk := (List.getElem?_eq_some_iff.1 hy).1
    obtain ⟨g1, g2, g3⟩ := h.at' k y hy
    have e1 : ∀ c, c < 3 → ((cells.set (i * 3) (.v (.int .i64 a))).set (i * 3 + 1) (.v (.int .i64 b)))[k * 3 + c]? = cells[k * 3 + c]? := fun c hc => by
      rw [List.getElem?_set_ne (by omega), List.getElem?_set_ne (by omega)]
    have e10 := e1 0 (by decide)
    rw [Nat.add_zero] at e10
    refine ⟨e10.trans g1, (e1 1 (by decide)).trans g2, ?_⟩
    rw [e1 2 (by decide)]
    rcases g3 with g3 | ⟨j', b', cp', po', k1, k2, k3, k4⟩
    · exact Or.inl g3
    · refine Or.inr ⟨j', b', cp', po', k1, k2, ?_, k4⟩
      rw [List.getElem?_set_ne fun ej => e (h.inj k i j' hk hi k2 (by rw [hJ, ej]))]
      exact k3
theorem KX.rdn {ty : TypeId} {xs : List Ins} {cells : List C} {As : List Blk} {J : Nat → Option Nat} (h : KX ty xs cells As J) {F : Facts} {b : Nat}
    (h0 : ∀ (off : Nat) c, cells[off]? = some c → F ⟨b, off, none⟩ = some (den c)) (hF : ∀ A ∈ As, ∀ (off : Nat) c, A.cells[off]? = some c → F ⟨A.id, off, none⟩ = some (den c)) : RdN F (some ⟨b, 0, none⟩) xs := by
  have hrow : ∀ (i : Nat) x, xs[i]? = some x → ∃ s, cells[i * 3 + 2]? = some (.v s) ∧ RdR F [.int .i64 x.code, .int .i64 x.op, s] x := fun i x hx => by
    obtain ⟨_, _, g3⟩ := h.at' i x hx
    rcases g3 with ⟨k1, k2, _⟩ | ⟨j, bo, cp, po, k1, k2, k3, k4, k5, k6⟩
    · exact ⟨_, k2, none, 0, by rw [k1]; rfl, by rw [k1]; exact RdO.nil _ _ _, by rw [k1]; exact Nat.le_refl _, by decide⟩
    · exact ⟨_, k1, _, cp, rfl, DB_facts (pad := po) (hF _ (List.mem_of_getElem? k3)), k4, k5⟩
  refine ⟨(List.range xs.length).map fun i => [.int .i64 (xs.getD i ⟨0, 0, []⟩).code, .int .i64 (xs.getD i ⟨0, 0, []⟩).op, den (cells.getD (i * 3 + 2) (.v (.bool false)))], fun i r hr => ?_, by simp, fun i r x hr hx => ?_⟩
  · rw [List.getElem?_map] at hr
    obtain ⟨k, hk, rfl⟩ := Option.map_eq_some_iff.1 hr
    obtain ⟨hkl, hke⟩ := List.getElem?_eq_some_iff.1 hk
    simp at hkl hke
    subst hke
    have hx : xs[i]? = some xs[i] := List.getElem?_eq_getElem hkl
    have hxd : xs.getD i ⟨0, 0, []⟩ = xs[i] := by rw [List.getD_eq_getElem?_getD, hx]; rfl
    obtain ⟨g1, g2, _⟩ := h.at' i _ hx
    obtain ⟨s, hs, _⟩ := hrow i _ hx
    refine ⟨rfl, _, rfl, fun j v hj => ?_⟩
    rw [addr_add, Nat.zero_add]
    match j, hj with
    | 0, hj =>
      simp at hj
      subst hj
      rw [← List.getD_eq_getElem?_getD, hxd]
      exact h0 _ _ g1
    | 1, hj =>
      simp at hj
      subst hj
      rw [← List.getD_eq_getElem?_getD, hxd]
      exact h0 _ _ g2
    | 2, hj =>
      simp at hj
      subst hj
      rw [hs]
      exact h0 _ _ hs
    | j + 3, hj => simp at hj
  · rw [List.getElem?_map] at hr
    obtain ⟨k, hk, rfl⟩ := Option.map_eq_some_iff.1 hr
    obtain ⟨hkl, hke⟩ := List.getElem?_eq_some_iff.1 hk
    simp at hkl hke
    subst hke
    have hxd : xs.getD i ⟨0, 0, []⟩ = x := by rw [List.getD_eq_getElem?_getD, hx]; rfl
    obtain ⟨s, hs, hR⟩ := hrow i x hx
    rw [hxd, List.getD_eq_getElem?_getD, hs]
    exact hR
theorem mid_get {m1 Bs m2 : List Blk} {A X : Blk} {j : Nat} (h : Bs[j]? = some X) : (m1 ++ (A :: (Bs ++ m2)))[m1.length + (j + 1)]? = some X := by
  rw [List.getElem?_append_right (by omega), Nat.add_sub_cancel_left, List.getElem?_cons_succ, List.getElem?_append_left (List.getElem?_eq_some_iff.1 h).1]
  exact h
theorem mid_set {m1 Bs m2 : List Blk} {A Y : Blk} {j : Nat} (h : j < Bs.length) : (m1 ++ (A :: (Bs ++ m2))).set (m1.length + (j + 1)) Y = m1 ++ (A :: (Bs.set j Y ++ m2)) := by
  rw [List.set_append_right _ _ (by omega), Nat.add_sub_cancel_left, List.set_cons_succ, List.set_append_left _ _ h]
theorem ins_args {x : Ins} (h : insOk x = true) : x.args.length ≤ 3 := by
  have key : ∀ {op : Int} {xs : List Dev}, ((xs.length : Int) = arity op) → xs.length ≤ 3 := fun {op xs} e => by
    have := arity_le3' op
    omega
  unfold insOk at h
  split at h
  · unfold conOk at h
    simp only [Bool.and_eq_true, decide_eq_true_eq] at h
    exact key h.1.1.2.2
  · split at h
    · unfold coilOk at h
      simp only [Bool.and_eq_true, decide_eq_true_eq] at h
      exact key h.1.1.2.2
    · simp only [decide_eq_true_eq] at h
      omega
theorem KX.mem {cx : Cx} {mem : List Blk} {w : World} {b : Nat} {ty td : TypeId} {xs : List Ins} {cells : List C} {As : List Blk} {J : Nat → Option Nat} (h : KX td xs cells As J) (hm : MemRel cx mem w) (hk : ⟨b, cells, ty⟩ ∈ mem) (hA : ∀ A ∈ As, A ∈ mem) : RdN w.cell? (some ⟨b, 0, none⟩) xs :=
  h.rdn (fun off c hc => by
    obtain ⟨q, hq⟩ := List.getElem?_of_mem hk
    exact blk_cell hm hq hc) fun A hAm off c hc => by
    obtain ⟨q, hq⟩ := List.getElem?_of_mem (hA A hAm)
    obtain ⟨i, cs, t⟩ := A
    exact blk_cell hm hq hc
end Go.Sx
