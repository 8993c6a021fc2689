/-
  What 'append', 'copy' and 'make' come to in the model, for any source (a slice, none, a text). Plain lemmas: nothing of a program stands here. Conditions: none.
-/
import Derived.WalkKit
import Derived.Orders
import Derived.Laws.AppendOwn
import Derived.Laws.MakeOwn
set_option linter.unusedVariables false
set_option linter.unusedSimpArgs false
namespace Go.Sx
open Go

section
variable {P : Program}

structure Src (P : Program) (w : World) (size : Nat) (x : Value) (m : Nat) (news : List Value) : Prop where
  len : ∀ w', (Builtin.lenOf x).run P w' = .ok m w'
  cells : ∀ w' : World, w'.heap = w.heap → (Builtin.firstCells size m x).run P w' = .ok news.toArray w'
  size : news.length = m * size

theorem Src.none {w : World} {size c : Nat} : Src P w size (.slice none 0 c) 0 [] :=
  ⟨fun w' => by simp [Builtin.lenOf], fun w' _ => run_firstCells_none w' _ _ _ _, by simp⟩
theorem Src.some {w : World} {size m c : Nat} {a : Addr} {news : List Value} (hl : news.length = m * size) (h : ∀ (j : Nat) u, news[j]? = some u → w.cell? (a.add j) = some u) :
    Src P w size (.slice (some a) m c) m news :=
  ⟨fun w' => by simp [Builtin.lenOf], fun w' e => run_firstCells_some w' _ _ _ _ _ _ hl (fun j u hj => by
    have := h j u hj
    unfold World.cell? at this ⊢
    rw [e]; exact this), hl⟩
def strL (s : ByteArray) : List Value := s.data.toList.map fun b => .int .u8 b.toNat
theorem len_strL (s : ByteArray) : (strL s).length = s.size := by simp [strL]
theorem Src.str {w : World} (s : ByteArray) : Src P w 1 (.string s) s.size (strL s) :=
  ⟨fun w' => by simp [Builtin.lenOf], fun w' _ => by
    have : ((s.extract 0 s.size).data.map fun b => Value.int .u8 b.toNat) = (strL s).toArray := by
      apply Array.ext'
      have e : s.extract 0 s.size = s := by simp
      rw [e]; simp [strL]
    simp only [Builtin.firstCells, Sem.run_pure, this], by rw [len_strL, Nat.mul_one]⟩

def notInt (P : Program) (u : TypeId) : Bool :=
  match P.underlying u with
  | some (.slice _) => true
  | some .string => true
  | _ => false
theorem notInt_spec {u : TypeId} (h : notInt P u = true) : (∃ e, P.underlying u = some (.slice e)) ∨ P.underlying u = some .string := by
  unfold notInt at h
  split at h
  · rename_i e he; exact Or.inl ⟨_, he⟩
  · rename_i he; exact Or.inr he
  · simp at h

variable (w : World) (t u ty e : TypeId) (i : TypeInfo) (z : Value) (ht : P.underlying t = some (.slice e)) (hu : notInt P u = true) (hi : P.info? e = some i) (hz : i.zero = some z)
  {x : Value} {m : Nat} {news : List Value} (hs : Src P w i.size x m news)
include ht hu hi hs

theorem append_none (h0 : m = 0) : (Builtin.append_ #[t, u] ty #[.slice none 0 0, x]).run P w = .ok (.slice none 0 0) w := by
  subst h0
  have h1 := hs.len w
  have h2 := hs.cells w rfl
  rcases notInt_spec hu with ⟨e', hk⟩ | hk <;> simp [Builtin.append_, run_underlying ht, run_underlying hk, sizeOf, typeInfo, hi, h1, h2]

include hz in
theorem append_fresh (h0 : 0 < m) (h63 : (m : Int) ≤ 9223372036854775807) (h48 : m * i.bytes ≤ 281474976710656) :
    (Builtin.append_ #[t, u] ty #[.slice none 0 0, x]).run P w =
      .ok (.slice (some ⟨w.heap.size, 0, none⟩) m (grownCap w m 0 e)) (w.drew.alloc (.cells (news.toArray ++ Builtin.zeroCells z.cells (grownCap w m 0 e - m)) e)) := by
  have h1 := hs.len w
  have h2 := hs.cells w.drew rfl
  have hn' : m ≠ 0 := by omega
  have h63' : ¬ (9223372036854775807 < (m : Int)) := by omega
  have h48' : ¬ (281474976710656 < Builtin.nextslicecap m 0 * i.bytes) := by rw [nextslicecap_zero h0]; omega
  rcases notInt_spec hu with ⟨e', hk⟩ | hk <;>
    simp [Builtin.append_, run_underlying ht, run_underlying hk, sizeOf, typeInfo, zeroValue, hi, hz, h1, h2, hn', h63', h48', Question.forced, run_firstCells_none, newRow, grownCap]

theorem append_room (g sLen sCap : Nat) (cur : Array Value) (hg : w.heap[g]? = some (.cells cur e (0, 0))) (h1 : ∀ u ∈ news, u.oneCell' = true)
    (hroom : sLen + m ≤ sCap) (hfit : sLen * i.size + news.length ≤ cur.size) :
    (Builtin.append_ #[t, u] ty #[.slice (some ⟨g, 0, none⟩) sLen sCap, x]).run P w =
      .ok (.slice (some ⟨g, 0, none⟩) (sLen + m) sCap) (w.setRow g (cur.toList.take (sLen * i.size) ++ news ++ cur.toList.drop (sLen * i.size + news.length)).toArray) := by
  have h3 := hs.len w
  have h2 := hs.cells w rfl
  have hst := run_storeCells_at P g (sLen * i.size) e news 0 cur w hg (by simpa using hfit) h1
  simp only [Nat.add_zero] at hst
  rcases notInt_spec hu with ⟨e', hk⟩ | hk <;>
    simp [Builtin.append_, run_underlying ht, run_underlying hk, sizeOf, typeInfo, hi, h3, hroom, h2, Addr.add_lit, hst]

include hz in
theorem append_grow (b : Addr) (sLen sCap : Nat) (olds : List Value) (hlo : olds.length = sLen * i.size) (holds : ∀ (j : Nat) v, olds[j]? = some v → w.cell? (b.add j) = some v)
    (hg : sCap < sLen + m) (h63 : ((sLen + m : Nat) : Int) ≤ 9223372036854775807) (hfit : Builtin.nextslicecap (sLen + m) sCap * i.bytes ≤ 281474976710656) :
    (Builtin.append_ #[t, u] ty #[.slice (some b) sLen sCap, x]).run P w =
      .ok (.slice (some ⟨w.heap.size, 0, none⟩) (sLen + m) (grownCap w (sLen + m) sCap e))
        (w.drew.alloc (.cells (olds.toArray ++ news.toArray ++ Builtin.zeroCells z.cells (grownCap w (sLen + m) sCap e - (sLen + m))) e)) := by
  have h1 := hs.len w
  have h2 := hs.cells w.drew rfl
  have hn' : ¬ (sLen + m ≤ sCap) := by omega
  have h63' : ¬ (9223372036854775807 < ((sLen : Int) + (m : Int))) := by omega
  have h48' : ¬ (281474976710656 < Builtin.nextslicecap (sLen + m) sCap * i.bytes) := by omega
  have hfo := run_firstCells_some (P := P) w.drew i.size sLen b sLen sCap olds hlo (by simpa using holds)
  rcases notInt_spec hu with ⟨e', hk⟩ | hk <;>
    (simp [Builtin.append_, run_underlying ht, run_underlying hk, sizeOf, typeInfo, zeroValue, hi, hz, h1, h2, hn', h63', h48', Question.forced, hfo, newRow, grownCap]
     congr 2
     apply Array.ext'
     simp [List.append_assoc])

end

section
variable {P : Program} (w : World)
theorem copy_row (dt st ty e : TypeId) (i : TypeInfo) (ht : P.underlying dt = some (.slice e)) (hi : P.info? e = some i) {x : Value} {m : Nat} {news : List Value} {e' : TypeId} {fz : Nat × Nat}
    (g off dLen dCap : Nat) (cur : Array Value) (hg : w.heap[g]? = some (.cells cur e' fz)) (hfz : fz = (0, 0)) (n : Nat) (hn : n = min m dLen)
    (hlen : ∀ w', (Builtin.lenOf x).run P w' = .ok m w') (hcells : (Builtin.firstCells i.size n x).run P w = .ok news.toArray w) (h1 : ∀ u ∈ news, u.oneCell' = true)
    (hfit : off + news.length ≤ cur.size) :
    (Builtin.copy_ #[dt, st] ty #[.slice (some ⟨g, off, none⟩) dLen dCap, x]).run P w =
      .ok (.int .i64 n) (w.setRow g (cur.toList.take off ++ news ++ cur.toList.drop (off + news.length)).toArray) := by
  subst hfz
  have h3 := hlen w
  have hst := run_storeCells_at P g off e' news 0 cur w hg (by simpa using hfit) h1
  simp only [Nat.add_zero] at hst
  have hn' : Nat.min m dLen = n := hn.symm
  simp [Builtin.copy_, run_underlying ht, sizeOf, typeInfo, hi, h3, hn', hcells, hst, goInt]
end
end Go.Sx
