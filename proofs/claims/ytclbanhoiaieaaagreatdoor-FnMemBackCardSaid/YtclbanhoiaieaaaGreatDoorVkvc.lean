/-
  Contracts: the library's iterator over a slice of texts, for a loop that writes one known block.
-/
import Derived.RangeFuncBox
import Derived.RangeFuncLeaves
import Derived.Shelf.Abstract
import Derived.OwnWalkIn
import Derived.TacticsInMore
import Derived.LoopNIn
import Derived.LoopIn
import Derived.Test.YtclbanhoiaieaaaGreatDoorVjvc
import Derived.Test.YtclbanhoiaieaaaGreatDoorUkvc
import Derived.Test.YtclbanhoiaieaaaGreatDoorTmvc
set_option linter.unusedVariables false
set_option linter.unusedSimpArgs false
namespace Go.Proofs.YtclbanhoiaieaaaGreatDoor
open Go Go.Sx Go.RowKit Go.Shelf

attribute [local go_sem] Oper.semAt_some

def KeepB (b1 : Nat) (W W' : World) : Prop := ∀ (i : Nat) (o : Obj), i ≠ b1 → W.heap[i]? = some o → o.isCells = true → W'.heap[i]? = some o
theorem KeepB.refl (b1 : Nat) (W : World) : KeepB b1 W W := fun _ _ _ h _ => h
theorem KeepB.trans {b1 : Nat} {X Y Z : World} (h : KeepB b1 X Y) (k : KeepB b1 Y Z) : KeepB b1 X Z := fun i o hi ho hc => k i o hi (h i o hi ho hc) hc
theorem KeepB.cell {b1 : Nat} {W W' : World} (h : KeepB b1 W W') {a : Addr} {v : Value} (ha : a.block ≠ b1) (hc : W.cell? a = some v) : W'.cell? a = some v := by
  obtain ⟨o, ho, hk⟩ := cells_of_cell hc
  exact (World.cell?_of_block ((h a.block o ha ho hk).trans ho.symm)).trans hc
abbrev SW := { z : Str // z.length ≤ 1100000 }
def nilW : SW := ⟨[], by simp⟩
def upto {α : Type} (f : Nat → α) (k : Nat) : List α := (List.range k).map f
theorem upto_succ {α : Type} (f : Nat → α) (k : Nat) : upto f (k + 1) = upto f k ++ [f k] := by simp [upto, List.range_succ]
theorem upto_length {α : Type} (f : Nat → α) (k : Nat) : (upto f k).length = k := by simp [upto]
theorem upto_all (zs : List SW) : upto (fun j => zs[j]?.getD nilW) zs.length = zs := by
  apply List.ext_getElem
  · simp [upto]
  · intro i h1 h2
    simp [upto, h2]
theorem upto_take (zs : List SW) {k : Nat} (hk : k ≤ zs.length) : upto (fun j => zs[j]?.getD nilW) k = zs.take k := by
  apply List.ext_getElem
  · simp [upto, hk]
  · intro i h1 h2
    have : i < zs.length := by simp [upto] at h1; omega
    simp [upto, this]

set_option maxRecDepth 100000 in
set_option maxHeartbeats 2000000 in
theorem values1_in (F : Fence) (n : Nat) (h7 : F.fn 129) (hro : F.round = none) (hn : 1 ≤ n) (l Bs b1 b off len cap : Nat) (zs : List SW) (hreach : len * 16 ≤ 140737488351232) (hb : b ≠ b1) (J Jx : List SW → World → Prop)
    (hY : ∀ pre x W, J pre W → pre.length < len → YieldAt F (n - 1) Tryz.prog l #[.string (txt x.1)] W fun e W' =>
      (e = .returned (.bool true) ∧ J (pre ++ [x]) W' ∧ KeepB b1 W W') ∨ (e = .returned (.bool false) ∧ Jx (pre ++ [x]) W'))
    (W : World) (hBs : W.cell? ⟨Bs, 0, none⟩ = some (.slice (some ⟨b, off, none⟩) len cap)) (hc : ∀ j, j < len → W.cell? ⟨b, off + j, none⟩ = some (.string (txt (zs[j]?.getD nilW).1))) (h0 : J [] W) :
    CallsIn F n Tryz.prog 129 #[.func (.yield l) #[] #[], .pointer (some ⟨Bs, 0, none⟩)] W fun e W' => (∃ v, e = .returned v) ∧
      ((∃ ys, ys = upto (fun j => zs[j]?.getD nilW) len ∧ J ys W') ∨ (∃ pre, (∃ k, k ≤ len ∧ pre = upto (fun j => zs[j]?.getD nilW) k) ∧ Jx pre W')) := by
  refine callsIn_of_wp Tryz.func129 rfl h7 ?_ hro
  simp only [Tryz.ntmps129, List.size_toArray, List.length_cons, List.length_nil, Nat.reduceAdd, Nat.reduceSub, Array.replicate_succ, Array.replicate_zero, List.push_toArray, List.append_toArray, List.nil_append, List.cons_append]
  gi_wp2
  gi_loopw [7] (fun i wr => ∃ k : Nat, k ≤ len ∧ i = .int .i64 k ∧ J (upto (fun j => zs[j]?.getD nilW) k) wr ∧ KeepB b1 W wr)
    (fun i _ => len - (intOf i).toNat)
  case atStart => exact ⟨0, Nat.zero_le _, rfl, h0, KeepB.refl _ _⟩
  case round =>
    obtain ⟨k, hk, rfl, hJs, hnx⟩ := hrel
    have hcx : k < len → wr.cell? ⟨b, off + k, none⟩ = some (.string (txt (zs[k]?.getD nilW).1)) := fun h => hnx.cell (a := ⟨b, off + k, none⟩) hb (hc k h)
    by_cases hlt : k < len
    · obtain ⟨fn, tmps, assign, body, hy, hR⟩ := hY _ (zs[k]?.getD nilW) wr hJs (by rw [upto_length]; exact hlt)
      have hcx' := hcx hlt
      gi_wp2
      refine hR.mono ?_
      rintro e W3 (⟨rfl, hJ3, hk3⟩ | ⟨rfl, hJx3⟩)
      · gi_wp2
        go_roundw
        case rel => exact ⟨k + 1, by omega, by simp, by rw [upto_succ]; exact hJ3, hnx.trans hk3⟩
        case measure => simp [intOf]; omega
      · gi_wp2
        refine bodyPost_ret (results_none rfl _ _ _) rfl ?_
        exact ⟨⟨_, rfl⟩, .inr ⟨_, ⟨k + 1, by omega, (upto_succ _ _).symm⟩, hJx3⟩⟩
    · obtain rfl : k = len := by omega
      gi_wp2
      go_end0
      exact ⟨⟨_, rfl⟩, .inl ⟨_, rfl, hJs⟩⟩
set_option maxHeartbeats 1000000 in
theorem values_in (F : Fence) (n : Nat) (h5 : F.fn 51) (hro : F.round = none) (a : Option Addr) (len cap : Nat) (w : World) :
    CallsIn F n Tryz.prog 51 #[.slice a len cap] w fun e w' => e = .returned (.func (.func 129) #[] #[.pointer (some ⟨w.heap.size, 0, none⟩)]) ∧ w' = w.alloc (.cells #[.slice a len cap] 74) := by
  refine callsIn_of_wp Tryz.func51 rfl h5 ?_ hro
  simp only [Tryz.ntmps51, List.size_toArray, List.length_cons, List.length_nil, Nat.reduceAdd, Nat.reduceSub, Array.replicate_succ, Array.replicate_zero, List.push_toArray, List.append_toArray, List.nil_append, List.cons_append]
  gi_wp2
  go_ret
  exact ⟨rfl, rfl⟩
theorem values_stops (F : Fence) (n : Nat) (h7 : F.fn 129) (hro : F.round = none) (hn : 1 ≤ n) (Bs b1 b cap : Nat) (zs : List SW) (hreach : zs.length * 16 ≤ 140737488351232) (w : World) (hBs : Bs < w.heap.size) (hb : b < w.heap.size) (hb1 : b ≠ b1)
    (hc : w.cell? ⟨Bs, 0, none⟩ = some (.slice (some ⟨b, 0, none⟩) zs.length cap)) (hI : ∀ j, j < zs.length → w.cell? ⟨b, 0 + j, none⟩ = some (.string (txt (zs[j]?.getD nilW).1))) :
    SeqStopsK F n Tryz.prog 129 #[.pointer (some ⟨Bs, 0, none⟩)] (fun x : SW => #[Value.string (txt x.1)]) (KeepB b1) (fun ys => ys = zs) (fun pre => pre <+: zs) zs.length w := fun l J Jx W hW _ _ hY h0 => by
  have hc' := (hW.cell (p := ⟨Bs, 0, none⟩) hBs).trans hc
  refine (values1_in F n h7 hro hn l Bs b1 b 0 zs.length cap zs hreach hb1 J Jx hY W hc' (fun j hj => (hW.cell (p := ⟨b, 0 + j, none⟩) hb).trans (hI j hj)) h0).mono ?_
  rintro e W' ⟨he, ⟨ys, rfl, hj⟩ | ⟨pre, ⟨k, hk, rfl⟩, hj⟩⟩
  · exact ⟨he, .inl ⟨_, upto_all zs, hj⟩⟩
  · exact ⟨he, .inr ⟨_, by rw [upto_take zs hk]; exact List.take_prefix _ _, hj⟩⟩
end Go.Proofs.YtclbanhoiaieaaaGreatDoor
