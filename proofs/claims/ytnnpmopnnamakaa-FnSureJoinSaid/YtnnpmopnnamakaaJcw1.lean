/-
  Rungs in known blocks: each its rows and their operands, the outer row their headers. Plain lemmas: nothing of a program stands here. Conditions: none.
-/
import Derived.Test.YtnnpmopnnamakaaJaw1
import Derived.Test.YtnnpmopnnamakaaKhw1
import Derived.Test.YtnnpmopnnamakaaSjw1
set_option linter.unusedVariables false
set_option linter.unusedSimpArgs false
set_option maxHeartbeats 1000000
namespace Go.Sx
open Go

theorem RdO.drop {F : Facts} {size : Nat} {o : Option Addr} {rows : List (List Value)} (h : RdO F size o rows) (n : Nat) : RdO F size (padd o (n * size)) (rows.drop n) := by
  intro i r hr
  rw [List.getElem?_drop] at hr
  obtain ⟨h1, a, rfl, h3⟩ := h (n + i) r hr
  refine ⟨h1, a.add (n * size), rfl, fun j x hx => ?_⟩
  rw [addr_add_add, ← Nat.add_assoc, ← Nat.add_mul]
  exact h3 j x hx
theorem RdO.take {F : Facts} {size : Nat} {o : Option Addr} {rows : List (List Value)} (h : RdO F size o rows) (n : Nat) : RdO F size o (rows.take n) := by
  intro i r hr
  rw [List.getElem?_take] at hr
  split at hr
  · exact h i r hr
  · simp at hr
theorem RdN.cut {F : Facts} {o : Option Addr} {xs : List Ins} (h : RdN F o xs) (i n : Nat) : RdN F (padd o (n * 3)) ((xs.take i).drop n) := by
  obtain ⟨rows, h1, h2, h3⟩ := h.ex
  refine ⟨(rows.take i).drop n, (h1.take i).drop n, by simp [h2], fun j r x hr hx => ?_⟩
  rw [List.getElem?_drop, List.getElem?_take] at hr hx
  split at hr
  · rename_i hl
    rw [if_pos hl] at hx
    exact h3 _ r x hr hx
  · simp at hr

structure Grp where
  r : List Ins
  b : Nat
  cp : Nat
  cells : List C
  As : List Blk
  J : Nat → Option Nat
def Grp.hd (g : Grp) : Value := .slice (some ⟨g.b, 0, none⟩) g.r.length g.cp
def Grp.blks (ti : TypeId) (g : Grp) : List Blk := ⟨g.b, g.cells, ti⟩ :: g.As
structure Grp.Ok (td : TypeId) (g : Grp) : Prop where
  kx : KX td g.r g.cells g.As g.J
  len : g.cells.length = g.cp * 3
  le : g.r.length ≤ g.cp
  cm : g.cp ≤ maxLen
def allB (ti : TypeId) (gs : List Grp) : List Blk := (gs.map (Grp.blks ti)).flatten
theorem allB_nil (ti : TypeId) : allB ti [] = [] := rfl
theorem allB_cons (ti : TypeId) (g : Grp) (gs : List Grp) : allB ti (g :: gs) = ⟨g.b, g.cells, ti⟩ :: (g.As ++ allB ti gs) := by simp [allB, Grp.blks]
theorem allB_app (ti : TypeId) (gs hs : List Grp) : allB ti (gs ++ hs) = allB ti gs ++ allB ti hs := by simp [allB]
theorem allB_snoc (ti : TypeId) (gs : List Grp) (g : Grp) : allB ti (gs ++ [g]) = allB ti gs ++ (⟨g.b, g.cells, ti⟩ :: g.As) := by rw [allB_app, allB_cons, allB_nil, List.append_nil]
theorem mem_allB {ti : TypeId} {gs : List Grp} {B : Blk} : B ∈ allB ti gs ↔ ∃ g ∈ gs, B ∈ Grp.blks ti g := by
  unfold allB
  rw [List.mem_flatten]
  constructor
  · rintro ⟨l, hl, hB⟩
    obtain ⟨g, hg, rfl⟩ := List.mem_map.1 hl
    exact ⟨g, hg, hB⟩
  · rintro ⟨g, hg, hB⟩
    exact ⟨_, List.mem_map.2 ⟨g, hg, rfl⟩, hB⟩
def HB (gs : List Grp) : List C := gs.map fun g => C.v g.hd
theorem HB_len (gs : List Grp) : (HB gs).length = gs.length := by simp [HB]
theorem HB_push (gs : List Grp) (g : Grp) (pad : List C) : HB gs ++ (C.v g.hd :: pad) = HB (gs ++ [g]) ++ pad := by simp [HB]
theorem HB_take (gs : List Grp) (pad : List C) : (HB gs ++ pad).take gs.length = HB gs := by rw [← HB_len gs, List.take_left]
theorem HB_at {gs : List Grp} {pad : List C} {i : Nat} {g : Grp} (h : gs[i]? = some g) : (HB gs ++ pad)[i]? = some (C.v g.hd) := by
  have hl := (List.getElem?_eq_some_iff.1 h).1
  rw [List.getElem?_append_left (by rw [HB_len]; exact hl)]
  simp [HB, h]
structure RgsAt (F : Facts) (o : Option Addr) (rs : List (List Ins)) : Prop where
  ex : ∃ vs : List Value, RdL F o vs ∧ RgP F vs rs
theorem RgsAt.mono {F G : Facts} {o : Option Addr} {rs : List (List Ins)} (h : RgsAt F o rs) (hs : Sub F G) : RgsAt G o rs := by
  obtain ⟨vs, h1, h2⟩ := h.ex
  exact ⟨vs, h1.mono hs, h2.mono hs⟩
theorem RgsAt.nil (F : Facts) (o : Option Addr) : RgsAt F o [] := ⟨[], fun j v h => by simp at h, RgP.nil F⟩
theorem RgsAt.at {cx : Cx} {o : Option Addr} {rs : List (List Ins)} (h : RgsAt (factF cx) o rs) {i : Nat} {r : List Ins} (hr : rs[i]? = some r) :
    ∃ o' cap', RdN (factF cx) o' r ∧ r.length ≤ cap' ∧ cap' ≤ maxLen ∧ o.isSome = true ∧ ∀ {P : Program} {d : Nat} {mem : List Blk} {t : TypeId} {K : Value → Prop}, aggT P t = some false → LoadV d P cx mem t (padd o i) K = K (.slice o' r.length cap') := by
  obtain ⟨vs, h1, h2⟩ := h.ex
  have hi := (List.getElem?_eq_some_iff.1 hr).1
  have hl := h2.len
  have hv : vs[i]? = some (vs[i]'(by omega)) := List.getElem?_eq_getElem _
  obtain ⟨o', cap', e, g1, g2, g3⟩ := (h2.at' i _ r hv hr).ex
  refine ⟨o', cap', g1, g2, g3, h1.there (i := i) (by omega), fun ht => ?_⟩
  rw [RdL.ld (h1.mono (sub_now _ _)) ht hv, e]
theorem gs_rd {F : Facts} {ts ti td : TypeId} {gs : List Grp} {b : Nat} {pad : List C} (hok : ∀ g ∈ gs, g.Ok td)
    (hF : ∀ B ∈ (⟨b, HB gs ++ pad, ts⟩ : Blk) :: allB ti gs, ∀ (off : Nat) c, B.cells[off]? = some c → F ⟨B.id, off, none⟩ = some (den c)) : RgsAt F (some ⟨b, 0, none⟩) (gs.map Grp.r) := by
  refine ⟨gs.map Grp.hd, fun j v hj => ⟨_, rfl, ?_⟩, by simp, fun i z r hz hr => ?_⟩
  · rw [List.getElem?_map] at hj
    obtain ⟨g, hg, rfl⟩ := Option.map_eq_some_iff.1 hj
    rw [addr_add, Nat.zero_add]
    exact hF _ (List.mem_cons_self ..) j _ (HB_at hg)
  · rw [List.getElem?_map] at hz hr
    obtain ⟨g, hg, rfl⟩ := Option.map_eq_some_iff.1 hz
    rw [hg] at hr
    cases hr
    have hgm := List.mem_of_getElem? hg
    have ho := hok g hgm
    have hm : ∀ B ∈ Grp.blks ti g, B ∈ (⟨b, HB gs ++ pad, ts⟩ : Blk) :: allB ti gs := fun B hB => List.mem_cons_of_mem _ (mem_allB.2 ⟨g, hgm, hB⟩)
    exact ⟨_, _, rfl, ho.kx.rdn (hF ⟨g.b, g.cells, ti⟩ (hm _ (List.mem_cons_self ..))) fun A hA => hF A (hm A (List.mem_cons_of_mem _ hA)), ho.le, ho.cm⟩
theorem gs_mem {cx : Cx} {mem : List Blk} {w : World} {ts ti td : TypeId} {gs : List Grp} {b : Nat} {pad : List C} (hm : MemRel cx mem w) (hok : ∀ g ∈ gs, g.Ok td)
    (hB : (⟨b, HB gs ++ pad, ts⟩ : Blk) ∈ mem) (hA : ∀ B ∈ allB ti gs, B ∈ mem) : RgsAt w.cell? (some ⟨b, 0, none⟩) (gs.map Grp.r) :=
  gs_rd (ts := ts) (ti := ti) (pad := pad) hok fun B hB' off c hc => by
    have hB2 : B ∈ mem := by
      rcases List.mem_cons.1 hB' with rfl | h
      · exact hB
      · exact hA B h
    obtain ⟨q, hq⟩ := List.getElem?_of_mem hB2
    exact blk_cell hm hq hc
def RGK (ts ti td : TypeId) (rs : List (List Ins)) (c : C) (ex : List Blk) : Prop :=
  ∃ (gs : List Grp) (b cp : Nat) (pad : List C), rs = gs.map Grp.r ∧ (∀ g ∈ gs, g.Ok td) ∧ c = .v (.slice (some ⟨b, 0, none⟩) gs.length cp) ∧ ex = ⟨b, HB gs ++ pad, ts⟩ :: allB ti gs ∧ gs.length ≤ cp ∧ cp ≤ maxLen
theorem RGK.new {ts ti td : TypeId} {rs : List (List Ins)} {c : C} {ex : List Blk} {cx : Cx} {w w' : World} (h : RGK ts ti td rs c ex) (h0 : cx.w0 = w) (hg : cx.g0 = []) (hm : MemRel cx ex w') : IsRungs (fun a => if w.heap.size ≤ a.block then w'.cell? a else none) (den c) rs := by
  have hb : ∀ A ∈ ex, w.heap.size ≤ A.id := fun A hA => by
    refine Nat.le_of_not_lt fun hlt => ?_
    have := hm.low A hA (by rw [h0]; exact hlt)
    rw [hg] at this
    simp at this
  obtain ⟨gs, b, cp, pad, rfl, hok, rfl, rfl, h1, h2⟩ := h
  have := gs_rd (F := fun a => if w.heap.size ≤ a.block then w'.cell? a else none) (ts := ts) (ti := ti) (pad := pad) (b := b) hok fun B hB off c hc => by
    simp only
    rw [if_pos (hb B hB)]
    obtain ⟨q, hq⟩ := List.getElem?_of_mem hB
    exact blk_cell hm hq hc
  obtain ⟨vs, g1, g2⟩ := this.ex
  exact ⟨some ⟨b, 0, none⟩, cp, vs, by simp [den], by simpa using h1, h2, g1, g2⟩
theorem IsRungs.at {F : Facts} {v : Value} {rs : List (List Ins)} (h : IsRungs F v rs) : ∃ o cap, v = .slice o rs.length cap ∧ RgsAt F o rs ∧ rs.length ≤ cap ∧ cap ≤ maxLen := by
  obtain ⟨o, cap, vs, h1, h2, h3, h4, h5⟩ := h.ex
  exact ⟨o, cap, h1, ⟨vs, h4, h5⟩, h2, h3⟩
/-! ### marks -/
def markR (q : Int) : List (List Ins) → List (List Ins)
  | [] => []
  | r :: rs => markN q r :: markR (endM q r) rs
def endR (q : Int) : List (List Ins) → Int
  | [] => q
  | r :: rs => endR (endM q r) rs
theorem endR_snoc : ∀ (q : Int) (rs : List (List Ins)) (r : List Ins), endR q (rs ++ [r]) = endM (endR q rs) r
  | _, [], _ => rfl
  | q, a :: rs, r => endR_snoc (endM q a) rs r
theorem markR_snoc : ∀ (q : Int) (rs : List (List Ins)) (r : List Ins), markR q (rs ++ [r]) = markR q rs ++ [markN (endR q rs) r]
  | _, [], _ => rfl
  | q, a :: rs, r => by
    show markN q a :: markR (endM q a) (rs ++ [r]) = markN q a :: (markR (endM q a) rs ++ [markN (endR (endM q a) rs) r])
    rw [markR_snoc (endM q a) rs r]
theorem markR_len : ∀ (q : Int) (rs : List (List Ins)), (markR q rs).length = rs.length
  | _, [] => rfl
  | q, a :: rs => by rw [markR, List.length_cons, markR_len, List.length_cons]
theorem markR_at : ∀ {q : Int} {rs : List (List Ins)} {i : Nat} {r : List Ins}, rs[i]? = some r → (markR q rs)[i]? = some (markN (endR q (rs.take i)) r)
  | _, [], _, _, h => by simp at h
  | q, y :: rs, 0, x, h => by simp at h; subst h; rfl
  | q, y :: rs, i + 1, x, h => by
    rw [List.getElem?_cons_succ] at h
    show (markR (endM q y) rs)[i]? = some (markN (endR (endM q y) (rs.take i)) x)
    exact markR_at h
theorem endR_step {q : Int} {rs : List (List Ins)} {i : Nat} {r : List Ins} (h : rs[i]? = some r) : endR q (rs.take (i + 1)) = endM (endR q (rs.take i)) r := by
  rw [List.take_add_one, h]
  exact endR_snoc q _ r
theorem endR_bd : ∀ (q : Int) (rs : List (List Ins)), (∀ r ∈ rs, ∀ x ∈ r, x.args.length ≤ 3) → q ≤ endR q rs ∧ endR q rs ≤ q + 11 * (rs.flatten.length : Int)
  | q, [], _ => ⟨Int.le_refl _, by simp [endR]⟩
  | q, r :: rs, h => by
    obtain ⟨h1, h2⟩ := endM_bd q r (h r (by simp))
    obtain ⟨h3, h4⟩ := endR_bd (endM q r) rs fun y hy => h y (by simp [hy])
    have e : endR q (r :: rs) = endR (endM q r) rs := rfl
    rw [e, List.flatten_cons, List.length_append]
    constructor <;> omega
theorem flat_take_le (rs : List (List Ins)) (i : Nat) : (rs.take i).flatten.length ≤ rs.flatten.length := by
  have : rs.flatten = (rs.take i).flatten ++ (rs.drop i).flatten := by rw [← List.flatten_append, List.take_append_drop]
  rw [this, List.length_append]; omega
theorem rungs_bd (xs : List Ins) : (rungsN xs).flatten.length ≤ 1000 ∧ (∀ r ∈ rungsN xs, r.length ≤ 1000 ∧ ∀ x ∈ r, x.args.length ≤ 3) := by
  by_cases h : (sureN xs).1 = 0
  · obtain ⟨h1, h2, _⟩ := sureN_zero h
    have hf := rungs_flat h
    refine ⟨by rw [hf]; exact h1, fun r hr => ?_⟩
    obtain ⟨g1, g2⟩ := rungs_len hr
    refine ⟨by omega, fun x hx => ?_⟩
    obtain ⟨i, hi⟩ := List.getElem?_of_mem (g2 x hx)
    have hz := h2 i x hi
    refine ins_args ?_
    unfold wrAt wrongN at hz
    split at hz
    · exact absurd hz (by decide)
    · rename_i hne
      simpa using hne
  · rw [rungs_none h]; exact ⟨by simp, fun r hr => by simp at hr⟩
/-! ### cutting at the ends -/
theorem cut_at {xs : List Ins} {i from' : Nat} {x : Ins} (h : xs[i]? = some x) (hf : from' ≤ i) : (xs.take (i + 1)).drop from' = (xs.take i).drop from' ++ [x] := by
  have hl := (List.getElem?_eq_some_iff.1 h).1
  rw [List.take_add_one, h, List.drop_append_of_le_length (by rw [List.length_take]; omega)]
  rfl
theorem cutG_step {xs : List Ins} {i from' : Nat} {x : Ins} (h : xs[i]? = some x) (hf : from' ≤ i) (hc : x.code ≠ 11) :
    cutG (xs.drop i) ((xs.take i).drop from') = cutG (xs.drop (i + 1)) ((xs.take (i + 1)).drop from') := by
  have hl := (List.getElem?_eq_some_iff.1 h).1
  have e : xs.drop i = x :: xs.drop (i + 1) := by
    rw [List.drop_eq_getElem_cons hl]
    congr 1
    exact (List.getElem?_eq_some_iff.1 h).2
  rw [e, cutG, if_neg hc, cut_at h hf]
theorem cutG_end {xs : List Ins} {i from' : Nat} {x : Ins} (h : xs[i]? = some x) (hf : from' ≤ i) (hc : x.code = 11) :
    cutG (xs.drop i) ((xs.take i).drop from') = ((xs.take (i + 1)).drop from') :: cutG (xs.drop (i + 1)) ((xs.take (i + 1)).drop (i + 1)) := by
  have hl := (List.getElem?_eq_some_iff.1 h).1
  have e : xs.drop i = x :: xs.drop (i + 1) := by
    rw [List.drop_eq_getElem_cons hl]
    congr 1
    exact (List.getElem?_eq_some_iff.1 h).2
  have e2 : (xs.take (i + 1)).drop (i + 1) = [] := List.drop_eq_nil_of_le (by rw [List.length_take]; omega)
  rw [e2, e, cutG, if_pos hc, cut_at h hf]
theorem cutG_count : ∀ (xs cur : List Ins), (cutG xs cur).length ≤ xs.length
  | [], _ => by simp [cutG]
  | x :: r, cur => by
    rw [cutG]
    split
    · have := cutG_count r []; simp; omega
    · have := cutG_count r (cur ++ [x]); simp; omega
theorem rungs_count (xs : List Ins) : (rungsN xs).length ≤ 1000 := by
  unfold rungsN
  split
  · rename_i h
    have := cutG_count xs []
    have := (sureN_zero h).1
    omega
  · simp
end Go.Sx
