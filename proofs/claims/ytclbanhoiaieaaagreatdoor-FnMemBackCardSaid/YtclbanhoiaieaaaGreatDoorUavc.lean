/-
  Contracts: texts cut into rows; contacts and coils read out of texts, by the program.
-/
import Derived.Test.YtclbanhoiaieaaaGreatDoorSwvc
import Derived.Test.YtclbanhoiaieaaaGreatDoorTyvc
import Derived.Test.YtclbanhoiaieaaaGreatDoorTqvc
set_option linter.unusedVariables false
set_option linter.unusedSimpArgs false
set_option maxRecDepth 100000
set_option maxHeartbeats 4000000
namespace Go.Sx
open Go

section
variable {P : Program}
end
end Go.Sx
namespace Go.Sx
open Go
end Go.Sx

namespace Go.Sx
open Go

theorem first_split {c : UInt8} : ∀ {s : Str}, c ∈ s → ∃ a b, c ∉ a ∧ s = a ++ c :: b
  | [], h => by simp at h
  | x :: s, h => by
    by_cases hx : x = c
    · exact ⟨[], s, by simp, by rw [hx]; rfl⟩
    · have hm : c ∈ s := by
        rcases List.mem_cons.1 h with h | h
        · exact absurd h.symm hx
        · exact h
      obtain ⟨a, b, h1, h2⟩ := first_split hm
      exact ⟨x :: a, b, fun hy => by
        rcases List.mem_cons.1 hy with hy | hy
        · exact hx hy.symm
        · exact h1 hy, by rw [h2]; rfl⟩
theorem split_k {c : UInt8} : ∀ (n : Nat) (s : Str), s.length ≤ n → Lib.splitK [c] 0 (Lib.count s [c]) s = cutL c s := by
  intro n
  induction n with
  | zero =>
    intro s hs
    obtain rfl : s = [] := List.eq_nil_of_length_eq_zero (by omega)
    rw [Lib.count_miss rfl]
    rfl
  | succ n ih =>
    intro s hs
    by_cases hm : c ∈ s
    · obtain ⟨a, b, ha, rfl⟩ := first_split hm
      have hi : Lib.index (a ++ c :: b) [c] = (a.length : Nat) := by rw [index_one, idxL_hit ha]
      rw [Lib.count_hit (by simp) hi, Nat.add_comm 1, Lib.splitK, hi]
      have e1 : ((a.length : Int) == -1) = false := by simp
      rw [e1]
      simp only [Bool.false_eq_true, if_false, Int.toNat_natCast, Nat.add_zero, List.length_singleton]
      have e2 : (a ++ c :: b).drop (a.length + 1) = b := by rw [List.append_cons, List.drop_left' (by simp)]
      have hb : b.length ≤ n := by simp at hs; omega
      rw [List.take_left, e2, ih b hb, cutL_app ha]
    · rw [Lib.count_miss (by rw [index_one, idxL_miss hm]), cutL_one hm]
      rfl
theorem split_cut (c : UInt8) (s : Str) : Lib.split s [c] = cutL c s := split_k s.length s (Nat.le_refl _)
theorem bytes_back {L : List ByteArray} {ws : List Str} (h : L.map (·.data.toList) = ws) : L = ws.map txt := by
  subst h
  rw [List.map_map]
  conv => lhs; rw [← List.map_id L]
  exact List.map_congr_left fun x _ => (txt_of x)
theorem cutL_sub (c : UInt8) : ∀ (s : Str) (w : Str), w ∈ cutL c s → w.length ≤ s.length
  | [], w, h => by
    simp [cutL] at h; subst h; simp
  | x :: s, w, h => by
    unfold cutL at h
    split at h
    · rcases List.mem_cons.1 h with rfl | h
      · simp
      · have := cutL_sub c s w h
        simp; omega
    · split at h
      · simp at h; subst h; simp
      · rename_i w' r hq
        rcases List.mem_cons.1 h with rfl | h
        · have := cutL_sub c s w' (by rw [hq]; simp)
          simp; omega
        · have := cutL_sub c s w (by rw [hq]; simp [h])
          simp; omega
structure IsStrs (F : Facts) (v : Value) (ws : List Str) : Prop where
  ex : ∃ (a : Addr) (cap : Nat), v = .slice (some a) ws.length cap ∧ RdL F (some a) (ws.map fun z => .string (txt z)) ∧ ws.length ≤ cap ∧ cap ≤ maxLen
theorem IsStrs.mono {F G : Facts} {v : Value} {ws : List Str} (h : IsStrs F v ws) (hs : Sub F G) : IsStrs G v ws := by
  obtain ⟨a, cap, h1, h2, h3⟩ := h.ex
  exact ⟨a, cap, h1, RdL.mono h2 hs, h3⟩
/-! ### rows of operands in a known block -/
def DB (ds : List Dev) : List C := (encDs ds).map C.v
theorem DB_cells (ds : List Dev) (pad : List C) : (((DB ds ++ pad).map den).drop 0).take ((ds.map encD).length * 3) = (ds.map encD).flatten := by
  rw [List.drop_zero, List.length_map, List.map_append, DB, map_den_v, ← len_encDs, List.take_left]
  rfl
theorem DB_rows (ds : List Dev) : ∀ r ∈ ds.map encD, r.length = 3 := by
  intro r hr
  obtain ⟨d, _, rfl⟩ := List.mem_map.1 hr
  rfl
theorem DB_new {cx : Cx} {mem : List Blk} {w w' : World} (h0 : cx.w0 = w) (hg : cx.g0 = []) {k b : Nat} {ds : List Dev} {pad : List C} {ty : TypeId} (hm : MemRel cx mem w') (hk : mem[k]? = some ⟨b, DB ds ++ pad, ty⟩) :
    RdD (fun a => if w.heap.size ≤ a.block then w'.cell? a else none) (some ⟨b, 0, none⟩) ds :=
  RdO.fin h0 hg hm hk (DB_rows ds) (DB_cells ds pad)
structure IsER (F : Facts) (v : Value) (r : Option (Int × List Dev)) : Prop where
  ex : ∃ (op : Int) (o : Option Addr) (cap : Nat) (xs : List Dev), v = .tuple #[.agg #[.int .i64 op, .slice o xs.length cap], .bool r.isSome] ∧ RdD F o xs ∧ xs.length ≤ cap ∧ cap ≤ maxLen ∧
    ((∃ e, r = some e ∧ op = e.1 ∧ xs = e.2) ∨ (r = none ∧ op = 0 ∧ xs = []))
theorem IsER.mono {F G : Facts} {v : Value} {r : Option (Int × List Dev)} (h : IsER F v r) (hs : Sub F G) : IsER G v r := by
  obtain ⟨op, o, cap, xs, h1, h2, h3⟩ := h.ex
  exact ⟨op, o, cap, xs, h1, h2.mono hs, h3⟩
def ERK (ty : TypeId) (r : Option (Int × List Dev)) (c : C) (ex : List Blk) : Prop :=
  (r = none ∧ c = .v (.tuple #[.agg #[.int .i64 0, .slice none 0 0], .bool false]) ∧ ex = []) ∨
  (∃ (e : Int × List Dev) (b cp : Nat) (pad : List C), r = some e ∧ c = .v (.tuple #[.agg #[.int .i64 e.1, .slice (some ⟨b, 0, none⟩) e.2.length cp], .bool true]) ∧ ex = [⟨b, DB e.2 ++ pad, ty⟩] ∧ e.2.length ≤ cp ∧ cp ≤ maxLen ∧ pad.length = (cp - e.2.length) * 3)
theorem ERK.new {ty : TypeId} {r : Option (Int × List Dev)} {c : C} {ex : List Blk} {cx : Cx} {w w' : World} (h : ERK ty r c ex) (h0 : cx.w0 = w) (hg : cx.g0 = []) (hm : MemRel cx ex w') : IsER (fun a => if w.heap.size ≤ a.block then w'.cell? a else none) (den c) r := by
  rcases h with ⟨rfl, rfl, rfl⟩ | ⟨e, b, cp, pad, rfl, rfl, rfl, h1, h2, h3⟩
  · exact ⟨0, none, 0, [], rfl, RdO.nil _ _ _, by decide, by decide, Or.inr ⟨rfl, rfl, rfl⟩⟩
  · exact ⟨e.1, _, cp, e.2, rfl, DB_new h0 hg (k := 0) hm rfl, h1, h2, Or.inl ⟨e, rfl, rfl, rfl⟩⟩
end Go.Sx
namespace Go.Proofs.YtclbanhoiaieaaaGreatDoor
open Go Go.Sx
attribute [local simp] Sx.vcsE1 Sx.vcsE2 Sx.vcsE3 Sx.vcsE4 Sx.vcsE5 Sx.vcsE6 Sx.vcsE7 Sx.vcsE8 Sx.vcsE9 Sx.vcsE10 Sx.vcsE11 Sx.vcsE12 Sx.vcsE13 Sx.vcsE14 Sx.vcsE15 Sx.vcsE16 Sx.vcsE17 Sx.vcsE18 Sx.vcsE19 Sx.get Sx.look Sx.put Sx.pureFn Sx.findOrd Sx.unF Sx.dstOk Sx.isFloatT Sx.endVC Sx.resFn Sx.packC Sx.newFn Sx.storeFn Sx.buildFn Sx.known Sx.aggT Sx.cellsC Sx.findCon Sx.allV Sx.partsV Sx.partsC Sx.fillL Sx.exitTo Sx.fAr Sx.eqFn Sx.eqFieldsFn Sx.eqElemsFn Sx.partFn Sx.sliceFn Sx.boundFn Sx.AppV Sx.CopyV Sx.MakeSliceV Sx.NewsV Sx.GrowV Sx.TextV Sx.bytesL Sx.notInt Sx.typeAt Sx.argAt Sx.den Go.undef Go.Value.cells Go.Value.oneCell' Sx.Con.pure Sx.Con.some Sx.Con.read Sx.Con.make Sx.Con.ext Sx.Con.rel Sx.Con.extS Sx.Con.draw Sx.Con.step Sx.C.one Sx.Draws.steps

structure TE (F : Facts) : Prop where
  c : TC F
  x : TX F
theorem TE.mono {F G : Facts} (h : TE F) (hs : Sub F G) : TE G := ⟨h.c.mono hs, h.x.mono hs⟩
theorem TE.r {F : Facts} (h : TE F) : TR F := ⟨h.c.t, h.x⟩
end Go.Proofs.YtclbanhoiaieaaaGreatDoor
