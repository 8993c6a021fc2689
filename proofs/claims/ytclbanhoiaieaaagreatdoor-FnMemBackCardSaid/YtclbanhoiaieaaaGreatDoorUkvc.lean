/-
  Contracts: a list read out of a text, by the program.
-/
import Derived.Test.YtclbanhoiaieaaaGreatDoorUavc
set_option linter.unusedVariables false
set_option linter.unusedSimpArgs false
set_option maxRecDepth 100000
set_option maxHeartbeats 4000000
namespace Go.Sx
open Go

theorem DB_facts {F : Facts} {b : Nat} {ds : List Dev} {pad : List C} (h : ∀ (off : Nat) c, (DB ds ++ pad)[off]? = some c → F ⟨b, off, none⟩ = some (den c)) : RdD F (some ⟨b, 0, none⟩) ds := by
  have hL : RdL F (some ⟨b, 0, none⟩) (encDs ds) := fun j v hj => ⟨_, rfl, by
    rw [addr_add, Nat.zero_add]
    have hl := (List.getElem?_eq_some_iff.1 hj).1
    exact h j (.v v) (by rw [List.getElem?_append_left (by unfold DB; simpa using hl)]; unfold DB; rw [List.getElem?_map, hj]; rfl)⟩
  exact hL.rows (size := 3) (rows := ds.map encD) (by decide) (DB_rows ds) rfl
inductive LR (ty : TypeId) : List Ins → List (List Value) → List Blk → Prop
  | nil : LR ty [] [] []
  | bare {xs rs As x} (h : LR ty xs rs As) (hx : x.args = []) : LR ty (xs ++ [x]) (rs ++ [[.int .i64 x.code, .int .i64 x.op, .slice .none 0 0]]) As
  | full {xs rs As x b cp pad} (h : LR ty xs rs As) (hl : x.args.length ≤ cp ∧ cp ≤ maxLen ∧ pad.length = (cp - x.args.length) * 3) :
      LR ty (xs ++ [x]) (rs ++ [[.int .i64 x.code, .int .i64 x.op, .slice (.some ⟨b, 0, .none⟩) x.args.length cp]]) (As ++ [⟨b, DB x.args ++ pad, ty⟩])
theorem LR.len {ty : TypeId} {xs : List Ins} {rs : List (List Value)} {As : List Blk} (h : LR ty xs rs As) : rs.length = xs.length ∧ (∀ r ∈ rs, r.length = 3) := by
  induction h with
  | nil => exact ⟨rfl, by simp⟩
  | bare h hx ih =>
    refine ⟨by simp [ih.1], fun r hr => ?_⟩
    rcases List.mem_append.1 hr with hr | hr
    · exact ih.2 r hr
    · rw [List.mem_singleton] at hr; subst hr; rfl
  | full h hl ih =>
    refine ⟨by simp [ih.1], fun r hr => ?_⟩
    rcases List.mem_append.1 hr with hr | hr
    · exact ih.2 r hr
    · rw [List.mem_singleton] at hr; subst hr; rfl
theorem LR.rows {ty : TypeId} {xs : List Ins} {rs : List (List Value)} {As : List Blk} (h : LR ty xs rs As) {F : Facts} (hF : ∀ A ∈ As, ∀ (off : Nat) c, A.cells[off]? = Option.some c → F ⟨A.id, off, Option.none⟩ = Option.some (den c)) :
    ∀ (i : Nat) r x, rs[i]? = Option.some r → xs[i]? = Option.some x → RdR F r x := by
  induction h with
  | nil => intro i r x hr; simp at hr
  | @bare xs rs As y h hy ih =>
    intro i r x hr hx
    have hl := h.len.1
    by_cases hi : i < rs.length
    · rw [List.getElem?_append_left hi] at hr
      rw [List.getElem?_append_left (by omega)] at hx
      exact ih hF i r x hr hx
    · have e := (List.getElem?_eq_some_iff.1 hr).1
      obtain rfl : i = rs.length := by simp at e; omega
      rw [List.getElem?_append_right (Nat.le_refl _), Nat.sub_self] at hr
      rw [hl, List.getElem?_append_right (Nat.le_refl _), Nat.sub_self] at hx
      cases hr; cases hx
      exact ⟨Option.none, 0, by rw [hy]; rfl, by rw [hy]; exact RdO.nil _ _ _, by rw [hy]; exact Nat.le_refl _, by decide⟩
  | @full xs rs As y b cp pad h hb ih =>
    intro i r x hr hx
    have hl := h.len.1
    by_cases hi : i < rs.length
    · rw [List.getElem?_append_left hi] at hr
      rw [List.getElem?_append_left (by omega)] at hx
      exact ih (fun A hA => hF A (by simp [hA])) i r x hr hx
    · have e := (List.getElem?_eq_some_iff.1 hr).1
      obtain rfl : i = rs.length := by simp at e; omega
      rw [List.getElem?_append_right (Nat.le_refl _), Nat.sub_self] at hr
      rw [hl, List.getElem?_append_right (Nat.le_refl _), Nat.sub_self] at hx
      cases hr; cases hx
      exact ⟨_, cp, rfl, DB_facts (pad := pad) (hF ⟨b, DB y.args ++ pad, ty⟩ (by simp)), hb.1, hb.2.1⟩
def LB (rs : List (List Value)) : List C := rs.flatten.map C.v
theorem flat3 : ∀ {rs : List (List Value)}, (∀ r ∈ rs, r.length = 3) → rs.flatten.length = rs.length * 3
  | [], _ => rfl
  | r :: rs, h => by
    rw [List.flatten_cons, List.length_append, h r (by simp), flat3 fun x hx => h x (by simp [hx]), List.length_cons]; omega
theorem LR.rdn {ty ty2 : TypeId} {xs : List Ins} {rs : List (List Value)} {As : List Blk} (h : LR ty xs rs As) {F : Facts} {b : Nat} {pad : List C}
    (h0 : ∀ (off : Nat) c, (LB rs ++ pad)[off]? = some c → F ⟨b, off, none⟩ = some (den c)) (hF : ∀ A ∈ As, ∀ (off : Nat) c, A.cells[off]? = some c → F ⟨A.id, off, none⟩ = some (den c)) : RdN F (some ⟨b, 0, none⟩) xs := by
  have hL : RdL F (some ⟨b, 0, none⟩) rs.flatten := fun j v hj => ⟨_, rfl, by
    rw [addr_add, Nat.zero_add]
    have hl := (List.getElem?_eq_some_iff.1 hj).1
    exact h0 j (.v v) (by rw [List.getElem?_append_left (by unfold LB; rw [List.length_map]; exact hl)]; unfold LB; rw [List.getElem?_map, hj]; rfl)⟩
  exact ⟨rs, hL.rows (by decide) h.len.2 rfl, h.len.1, h.rows hF⟩
def LPK (ti td : TypeId) (r : List Ins × Int × Int) (c : C) (ex : List Blk) : Prop :=
  (r.1 = [] ∧ r.2.2 ≠ 0 ∧ c = .v (.tuple #[.slice none 0 0, .agg #[.int .i64 r.2.1, .int .i64 r.2.2]]) ∧ ex = []) ∨
  (r.2 = (0, 0) ∧ ∃ (b cp : Nat) (pad : List C) (rs : List (List Value)) (As : List Blk), c = .v (.tuple #[.slice (some ⟨b, 0, none⟩) r.1.length cp, .agg #[.int .i64 0, .int .i64 0]]) ∧
    ex = ⟨b, LB rs ++ pad, ti⟩ :: As ∧ LR td r.1 rs As ∧ r.1.length ≤ cp ∧ cp ≤ maxLen ∧ pad.length = (cp - r.1.length) * 3)
def wordsF (ws : List Str) : List Str := ws.filter fun w => decide (w ≠ [])
theorem wordsF_app (a b : List Str) : wordsF (a ++ b) = wordsF a ++ wordsF b := List.filter_append ..
theorem wordsF_one {z : Str} (h : z ≠ []) : wordsF [z] = [z] := by simp [wordsF, h]
def WordsTo (ws : List Str) (i : Nat) (fs : List Str) : Prop := fs = wordsF (ws.take i) ∧ fs.length ≤ i
theorem WordsTo.zero (ws : List Str) : WordsTo ws 0 [] := ⟨rfl, Nat.le_refl _⟩
theorem WordsTo.skip {ws : List Str} {i : Nat} {fs : List Str} (h : WordsTo ws i fs) (hz : ws[i]? = some []) : WordsTo ws (i + 1) fs := by
  refine ⟨?_, by have := h.2; omega⟩
  rw [List.take_add_one, hz, wordsF_app, ← h.1]
  exact (List.append_nil fs).symm
theorem WordsTo.push {ws : List Str} {i : Nat} {fs : List Str} {z : Str} (h : WordsTo ws i fs) (hz : ws[i]? = some z) (h0 : z ≠ []) : WordsTo ws (i + 1) (fs ++ [z]) := by
  refine ⟨?_, by have := h.2; simp; omega⟩
  rw [List.take_add_one, hz, wordsF_app, ← h.1]
  show _ = fs ++ wordsF [z]
  rw [wordsF_one h0]
theorem WordsTo.fin {ws : List Str} {fs : List Str} (h : WordsTo ws ws.length fs) : wordsF ws = fs := by
  have := h.1
  rw [List.take_length] at this
  exact this.symm
/-! ### the same as facts -/
structure RdP (F : Facts) (rs : List (List Value)) (xs : List Ins) : Prop where
  len : rs.length = xs.length
  row : ∀ r ∈ rs, r.length = 3
  at' : ∀ (i : Nat) r x, rs[i]? = some r → xs[i]? = some x → RdR F r x
theorem RdP.nil (F : Facts) : RdP F [] [] := ⟨rfl, by simp, fun i r x h => by simp at h⟩
theorem RdP.mono {F G : Facts} {rs : List (List Value)} {xs : List Ins} (h : RdP F rs xs) (hs : Sub F G) : RdP G rs xs := ⟨h.len, h.row, fun i r x h1 h2 => (h.at' i r x h1 h2).mono hs⟩
structure IsIR (F : Facts) (v : Value) (r : Option Ins) : Prop where
  ex : ∃ (code op : Int) (o : Option Addr) (cap : Nat) (xs : List Dev), v = .tuple #[.agg #[.int .i64 code, .int .i64 op, .slice o xs.length cap], .bool r.isSome] ∧ RdD F o xs ∧ xs.length ≤ cap ∧ cap ≤ maxLen ∧ ∀ x, r = some x → x = ⟨code, op, xs⟩
theorem IsIR.mono {F G : Facts} {v : Value} {r : Option Ins} (h : IsIR F v r) (hs : Sub F G) : IsIR G v r := by
  obtain ⟨a, b, o, cap, xs, h1, h2, h3⟩ := h.ex
  exact ⟨a, b, o, cap, xs, h1, h2.mono hs, h3⟩
structure IsLP (F : Facts) (v : Value) (r : List Ins × Int × Int) : Prop where
  ex : ∃ (o : Option Addr) (cap : Nat), v = .tuple #[.slice o r.1.length cap, .agg #[.int .i64 r.2.1, .int .i64 r.2.2]] ∧ RdN F o r.1 ∧ r.1.length ≤ cap ∧ cap ≤ maxLen
theorem IsLP.mono {F G : Facts} {v : Value} {r : List Ins × Int × Int} (h : IsLP F v r) (hs : Sub F G) : IsLP G v r := by
  obtain ⟨o, cap, h1, h2, h3⟩ := h.ex
  exact ⟨o, cap, h1, h2.mono hs, h3⟩
theorem LB_rows (rs : List (List Value)) (pad : List C) (h : ∀ r ∈ rs, r.length = 3) : (((LB rs ++ pad).map den).drop 0).take (rs.length * 3) = rs.flatten := by
  rw [List.drop_zero, List.map_append, LB, map_den_v, ← flat3 h, List.take_left]
theorem RdP.fin {cx : Cx} {mem : List Blk} {w w' : World} (h0 : cx.w0 = w) (hg : cx.g0 = []) (hm : MemRel cx mem w') {k b : Nat} {rs : List (List Value)} {xs : List Ins} {pad : List C} {ty : TypeId} (hk : mem[k]? = some ⟨b, LB rs ++ pad, ty⟩) (h : RdP (newF cx) rs xs) :
    RdN (fun a => if w.heap.size ≤ a.block then w'.cell? a else none) (some ⟨b, 0, none⟩) xs :=
  ⟨rs, RdO.fin h0 hg hm hk h.row (LB_rows rs pad h.row), h.len, fun j r x hr hx => (h.at' j r x hr hx).mono (sub_end h0 hm)⟩
theorem cutL_len (c : UInt8) (s : Str) : (cutL c s).length ≤ s.length + 1 := by
  rw [cutL_count]
  have := List.length_filter_le (fun x => x == c) s
  omega
end Go.Sx
namespace Go.Sx
open Go
theorem LPK.new {ti td : TypeId} {r : List Ins × Int × Int} {c : C} {ex : List Blk} {cx : Cx} {w w' : World} (h : LPK ti td r c ex) (h0 : cx.w0 = w) (hg : cx.g0 = []) (hm : MemRel cx ex w') : IsLP (fun a => if w.heap.size ≤ a.block then w'.cell? a else none) (den c) r := by
  have hb : ∀ A ∈ ex, w.heap.size ≤ A.id := fun A hA => by
    refine Nat.le_of_not_lt fun hlt => ?_
    have := hm.low A hA (by rw [h0]; exact hlt)
    rw [hg] at this
    simp at this
  rcases h with ⟨h1, h2, rfl, rfl⟩ | ⟨h2, b, cp, pad, rs, As, rfl, rfl, hL, h3, h4, h5⟩
  · refine ⟨none, 0, by rw [h1]; rfl, by rw [h1]; exact ⟨[], RdO.nil _ _ _, rfl, fun i r x h => by simp at h⟩, by rw [h1]; exact Nat.le_refl _, by decide⟩
  · refine ⟨some ⟨b, 0, none⟩, cp, by rw [h2]; rfl, hL.rdn (ty2 := ti) (pad := pad) (fun off c hc => ?_) (fun A hA off c hc => ?_), h3, h4⟩
    · simp only
      rw [if_pos (hb _ (List.mem_cons_self ..))]
      exact blk_cell hm (k := 0) rfl hc
    · simp only
      rw [if_pos (hb A (List.mem_cons_of_mem _ hA))]
      obtain ⟨k, hk⟩ := List.getElem?_of_mem (List.mem_cons_of_mem ⟨b, LB rs ++ pad, ti⟩ hA)
      obtain ⟨i, cs, ty⟩ := A
      exact blk_cell hm hk hc
end Go.Sx
namespace Go.Proofs.YtclbanhoiaieaaaGreatDoor
open Go Go.Sx
attribute [local simp] Sx.vcsE1 Sx.vcsE2 Sx.vcsE3 Sx.vcsE4 Sx.vcsE5 Sx.vcsE6 Sx.vcsE7 Sx.vcsE8 Sx.vcsE9 Sx.vcsE10 Sx.vcsE11 Sx.vcsE12 Sx.vcsE13 Sx.vcsE14 Sx.vcsE15 Sx.vcsE16 Sx.vcsE17 Sx.vcsE18 Sx.vcsE19 Sx.get Sx.look Sx.put Sx.pureFn Sx.findOrd Sx.unF Sx.dstOk Sx.isFloatT Sx.endVC Sx.resFn Sx.packC Sx.newFn Sx.storeFn Sx.buildFn Sx.known Sx.aggT Sx.cellsC Sx.findCon Sx.allV Sx.partsV Sx.partsC Sx.fillL Sx.exitTo Sx.fAr Sx.eqFn Sx.eqFieldsFn Sx.eqElemsFn Sx.partFn Sx.sliceFn Sx.boundFn Sx.AppV Sx.CopyV Sx.MakeSliceV Sx.NewsV Sx.GrowV Sx.TextV Sx.bytesL Sx.notInt Sx.typeAt Sx.argAt Sx.den Go.undef Go.Value.cells Go.Value.oneCell' Sx.Con.pure Sx.Con.some Sx.Con.read Sx.Con.make Sx.Con.ext Sx.Con.rel Sx.Con.extS Sx.Con.draw Sx.Con.step Sx.C.one Sx.Draws.steps

structure TM (F : Facts) : Prop where
  e : TE F
  w : TW F
theorem TM.mono {F G : Facts} (h : TM F) (hs : Sub F G) : TM G := ⟨h.e.mono hs, h.w.mono hs⟩

end Go.Proofs.YtclbanhoiaieaaaGreatDoor
