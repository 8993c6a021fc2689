/-
  Contracts: texts cut into rows; contacts and coils read out of texts, by the program.
-/
import Derived.Test.YtclbanhoiaieaaaGreatDoorTyva
import Derived.Test.YtclbanhoiaieaaaGreatDoorTqva
import Derived.Test.YtclbanhoiaieaaaGreatDoorKmva
set_option linter.unusedVariables false
set_option linter.unusedSimpArgs false
set_option maxRecDepth 100000
set_option maxHeartbeats 4000000
namespace Go.Sx
open Go

theorem first_split {c : UInt8} : ∀ {s : Str}, c ∈ s → ∃ a b, c ∉ a ∧ s = a ++ c :: b
  | [], h => by simp at h
  | x :: s, h => by
    by_cases hx : x = c
    · exact ⟨[], s, by simp, by rw [hx]; rfl⟩
    · have hm : c ∈ s := by
        rcases List.mem_cons.1 h with h | h
        · exact absurd h.symm hx
        · exact h
      obtain ⟨a, b, h1, h2⟩ := first_split hm
      exact ⟨x :: a, b, fun hy => by
        rcases List.mem_cons.1 hy with hy | hy
        · exact hx hy.symm
        · exact h1 hy, by rw [h2]; rfl⟩
theorem split_k {c : UInt8} : ∀ (n : Nat) (s : Str), s.length ≤ n → Lib.splitK [c] 0 (Lib.count s [c]) s = cutL c s := by
  intro n
  induction n with
  | zero =>
    intro s hs
    obtain rfl : s = [] := List.eq_nil_of_length_eq_zero (by omega)
    rw [Lib.count_miss rfl]
    rfl
  | succ n ih =>
    intro s hs
    by_cases hm : c ∈ s
    · obtain ⟨a, b, ha, rfl⟩ := first_split hm
      have hi : Lib.index (a ++ c :: b) [c] = (a.length : Nat) := by rw [index_one, idxL_hit ha]
      rw [Lib.count_hit (by simp) hi, Nat.add_comm 1, Lib.splitK, hi]
      have e1 : ((a.length : Int) == -1) = false := by simp
      rw [e1]
      simp only [Bool.false_eq_true, if_false, Int.toNat_natCast, Nat.add_zero, List.length_singleton]
      have e2 : (a ++ c :: b).drop (a.length + 1) = b := by rw [List.append_cons, List.drop_left' (by simp)]
      have hb : b.length ≤ n := by simp at hs; omega
      rw [List.take_left, e2, ih b hb, cutL_app ha]
    · rw [Lib.count_miss (by rw [index_one, idxL_miss hm]), cutL_one hm]
      rfl
theorem split_cut (c : UInt8) (s : Str) : Lib.split s [c] = cutL c s := split_k s.length s (Nat.le_refl _)
theorem bytes_back {L : List ByteArray} {ws : List Str} (h : L.map (·.data.toList) = ws) : L = ws.map txt := by
  subst h
  rw [List.map_map]
  conv => lhs; rw [← List.map_id L]
  exact List.map_congr_left fun x _ => (txt_of x)
theorem cutL_sub (c : UInt8) : ∀ (s : Str) (w : Str), w ∈ cutL c s → w.length ≤ s.length
  | [], w, h => by
    simp [cutL] at h; subst h; simp
  | x :: s, w, h => by
    unfold cutL at h
    split at h
    · rcases List.mem_cons.1 h with rfl | h
      · simp
      · have := cutL_sub c s w h
        simp; omega
    · split at h
      · simp at h; subst h; simp
      · rename_i w' r hq
        rcases List.mem_cons.1 h with rfl | h
        · have := cutL_sub c s w' (by rw [hq]; simp)
          simp; omega
        · have := cutL_sub c s w (by rw [hq]; simp [h])
          simp; omega
theorem splitN_len (s : Str) (c : UInt8) (n : Nat) : (Lib.splitN s [c] n).length ≤ n + 1 ∧ (∀ w ∈ Lib.splitN s [c] n, w.length ≤ s.length) ∧ 0 < (Lib.splitN s [c] n).length := by
  have pos : ∀ (k : Nat) (s : Str), 0 < (Lib.splitK [c] 0 k s).length := by
    intro k s
    cases k with
    | zero => simp [Lib.splitK]
    | succ k => rw [Lib.splitK]; split <;> simp
  have key : ∀ (k : Nat) (s : Str), (Lib.splitK [c] 0 k s).length ≤ k + 1 ∧ ∀ w ∈ Lib.splitK [c] 0 k s, w.length ≤ s.length := by
    intro k
    induction k with
    | zero => intro s; exact ⟨by simp [Lib.splitK], by simp [Lib.splitK]⟩
    | succ k ih =>
      intro s
      rw [Lib.splitK]
      split
      · simp
      · have := ih (s.drop ((Lib.index s [c]).toNat + [c].length))
        refine ⟨by simp; exact this.1, fun w hw => ?_⟩
        rcases List.mem_cons.1 hw with rfl | hw
        · simp; omega
        · have := this.2 w hw
          simp at this ⊢; omega
  unfold Lib.splitN
  have := key (min n (s.length + 1) - 1) s
  exact ⟨by omega, this.2, pos _ _⟩
theorem cut_len (s p : Str) : (Lib.cut s p).1.length ≤ s.length ∧ (Lib.cut s p).2.1.length ≤ s.length := by
  unfold Lib.cut
  split
  · simp only [List.length_take, List.length_drop]; omega
  · simp
structure IsStrs (F : Facts) (v : Value) (ws : List Str) : Prop where
  ex : ∃ (a : Addr) (cap : Nat), v = .slice (some a) ws.length cap ∧ RdL F (some a) (ws.map fun z => .string (txt z)) ∧ ws.length ≤ cap ∧ cap ≤ maxLen
theorem IsStrs.mono {F G : Facts} {v : Value} {ws : List Str} (h : IsStrs F v ws) (hs : Sub F G) : IsStrs G v ws := by
  obtain ⟨a, cap, h1, h2, h3⟩ := h.ex
  exact ⟨a, cap, h1, RdL.mono h2 hs, h3⟩
theorem row_new {w w' : World} {arr : Array Value} {ty : TypeId} {vs : List Value} {b : Nat} (hb : w.heap.size ≤ b) (hw : w'.heap[b]? = some (.cells arr ty (0, 0))) (hv : ∀ (j : Nat) v, vs[j]? = some v → arr[j]? = some v) :
    RdL (fun a => if w.heap.size ≤ a.block then w'.cell? a else none) (some ⟨b, 0, none⟩) vs := by
  intro j v hj
  refine ⟨_, rfl, ?_⟩
  rw [addr_add]
  simp only
  rw [if_pos hb]
  unfold World.cell?
  simp only
  rw [hw]
  simpa using hv j v hj
/-! ### rows of operands in a known block -/
def DB (ds : List Dev) : List C := (encDs ds).map C.v
theorem DB_len (ds : List Dev) : (DB ds).length = ds.length * 3 := by unfold DB; rw [List.length_map, len_encDs]
theorem DB_push (ds : List Dev) (k n p : Int) (pad : List C) : DB ds ++ (.v (.int .i64 k) :: .v (.int .i64 n) :: .v (.int .i64 p) :: pad) = DB (ds ++ [⟨k, n, p⟩]) ++ pad := by simp [DB, encDs, encD]
theorem DB_take (ds : List Dev) (pad : List C) {n : Nat} (h : ds.length = n) : (DB ds ++ pad).take (n * 3) = DB ds := by rw [← h, ← DB_len ds, List.take_left]
theorem DB_full {ds : List Dev} {pad : List C} {cp n : Nat} (h : ds.length = n) (h1 : pad.length = (cp - n) * 3) (h2 : n ≤ cp) : (DB ds ++ pad).length = cp * 3 := by rw [List.length_append, DB_len, h, h1, ← Nat.add_mul]; congr 1; omega
theorem DB_cells (ds : List Dev) (pad : List C) : (((DB ds ++ pad).map den).drop 0).take ((ds.map encD).length * 3) = (ds.map encD).flatten := by
  rw [List.drop_zero, List.length_map, List.map_append, DB, map_den_v, ← len_encDs, List.take_left]
  rfl
theorem DB_rows (ds : List Dev) : ∀ r ∈ ds.map encD, r.length = 3 := by
  intro r hr
  obtain ⟨d, _, rfl⟩ := List.mem_map.1 hr
  rfl
theorem DB_rd {cx : Cx} {mem : List Blk} {w : World} {k b : Nat} {ds : List Dev} {pad : List C} {ty : TypeId} (hm : MemRel cx mem w) (hk : mem[k]? = some ⟨b, DB ds ++ pad, ty⟩) : RdD w.cell? (some ⟨b, 0, none⟩) ds :=
  RdO.block hm hk (DB_rows ds) (DB_cells ds pad)
theorem DB_new {cx : Cx} {mem : List Blk} {w w' : World} (h0 : cx.w0 = w) (hg : cx.g0 = []) {k b : Nat} {ds : List Dev} {pad : List C} {ty : TypeId} (hm : MemRel cx mem w') (hk : mem[k]? = some ⟨b, DB ds ++ pad, ty⟩) :
    RdD (fun a => if w.heap.size ≤ a.block then w'.cell? a else none) (some ⟨b, 0, none⟩) ds :=
  RdO.fin h0 hg hm hk (DB_rows ds) (DB_cells ds pad)
theorem mapM_none {ws : List Str} {w : Str} (hw : w ∈ ws) (h : devRd w = none) : ws.mapM devRd = none := by
  induction ws with
  | nil => simp at hw
  | cons x ws ih =>
    rw [List.mapM_cons]
    rcases List.mem_cons.1 hw with rfl | hw
    · rw [h]; rfl
    · rw [ih hw]; cases devRd x <;> rfl
theorem mapM_snoc : ∀ {ws : List Str} {ds : List Dev} {w : Str} {d : Dev}, ws.mapM devRd = some ds → devRd w = some d → (ws ++ [w]).mapM devRd = some (ds ++ [d])
  | [], ds, w, d, h, h2 => by
    cases h
    rw [List.nil_append, List.mapM_cons, h2]; rfl
  | x :: ws, ds, w, d, h, h2 => by
    rw [List.mapM_cons] at h
    cases hx : devRd x with
    | none => rw [hx] at h; cases h
    | some y =>
      rw [hx] at h
      cases hr : ws.mapM devRd with
      | none => rw [hr] at h; cases h
      | some r =>
        rw [hr] at h
        cases h
        rw [List.cons_append, List.mapM_cons, hx, mapM_snoc hr h2]; rfl
structure IsER (F : Facts) (v : Value) (r : Option (Int × List Dev)) : Prop where
  ex : ∃ (op : Int) (o : Option Addr) (cap : Nat) (xs : List Dev), v = .tuple #[.agg #[.int .i64 op, .slice o xs.length cap], .bool r.isSome] ∧ RdD F o xs ∧ xs.length ≤ cap ∧ cap ≤ maxLen ∧
    ((∃ e, r = some e ∧ op = e.1 ∧ xs = e.2) ∨ (r = none ∧ op = 0 ∧ xs = []))
theorem IsER.mono {F G : Facts} {v : Value} {r : Option (Int × List Dev)} (h : IsER F v r) (hs : Sub F G) : IsER G v r := by
  obtain ⟨op, o, cap, xs, h1, h2, h3⟩ := h.ex
  exact ⟨op, o, cap, xs, h1, h2.mono hs, h3⟩
def ERK (ty : TypeId) (r : Option (Int × List Dev)) (c : C) (ex : List Blk) : Prop :=
  (r = none ∧ c = .v (.tuple #[.agg #[.int .i64 0, .slice none 0 0], .bool false]) ∧ ex = []) ∨
  (∃ (e : Int × List Dev) (b cp : Nat) (pad : List C), r = some e ∧ c = .v (.tuple #[.agg #[.int .i64 e.1, .slice (some ⟨b, 0, none⟩) e.2.length cp], .bool true]) ∧ ex = [⟨b, DB e.2 ++ pad, ty⟩] ∧ e.2.length ≤ cp ∧ cp ≤ maxLen ∧ pad.length = (cp - e.2.length) * 3)
theorem ERK.new {ty : TypeId} {r : Option (Int × List Dev)} {c : C} {ex : List Blk} {cx : Cx} {w w' : World} (h : ERK ty r c ex) (h0 : cx.w0 = w) (hg : cx.g0 = []) (hm : MemRel cx ex w') : IsER (fun a => if w.heap.size ≤ a.block then w'.cell? a else none) (den c) r := by
  rcases h with ⟨rfl, rfl, rfl⟩ | ⟨e, b, cp, pad, rfl, rfl, rfl, h1, h2, h3⟩
  · exact ⟨0, none, 0, [], rfl, RdO.nil _ _ _, by decide, by decide, Or.inr ⟨rfl, rfl, rfl⟩⟩
  · exact ⟨e.1, _, cp, e.2, rfl, DB_new h0 hg (k := 0) hm rfl, h1, h2, Or.inl ⟨e, rfl, rfl, rfl⟩⟩
end Go.Sx
namespace Go.Proofs.YtclbanhoiaieaaaGreatDoor
open Go Go.Sx
open List renaming all_eq_true → Y1, zipIdx → Y5
open Bool renaming exists_bool → Y3, forall_bool → Y4
attribute [local simp] Sx.vcsE1 Sx.vcsE2 Sx.vcsE3 Sx.vcsE4 Sx.vcsE5 Sx.vcsE6 Sx.vcsE7 Sx.vcsE8 Sx.vcsE9 Sx.vcsE10 Sx.vcsE11 Sx.vcsE12 Sx.vcsE13 Sx.vcsE14 Sx.vcsE15 Sx.vcsE16 Sx.vcsE17 Sx.vcsE18 Sx.vcsE19 Sx.get Sx.look Sx.put Sx.pureFn Sx.findOrd Sx.unF Sx.dstOk Sx.isFloatT Sx.endVC Sx.resFn Sx.packC Sx.newFn Sx.storeFn Sx.buildFn Sx.known Sx.aggT Sx.cellsC Sx.findCon Sx.allV Sx.partsV Sx.partsC Sx.fillL Sx.exitTo Sx.fAr Sx.eqFn Sx.eqFieldsFn Sx.eqElemsFn Sx.partFn Sx.sliceFn Sx.boundFn Sx.AppV Sx.CopyV Sx.MakeSliceV Sx.NewsV Sx.GrowV Sx.TextV Sx.bytesL Sx.notInt Sx.typeAt Sx.argAt Sx.den Go.undef Go.Value.cells Go.Value.oneCell' Sx.Con.pure Sx.Con.some Sx.Con.read Sx.Con.make Sx.Con.ext Sx.Con.rel Sx.Con.extS Sx.Con.draw Sx.Con.step Sx.C.one Sx.Draws.steps

def splitN_S : Makes Tryz.prog 114 where
  ι := Str × UInt8 × Nat
  A i := [.string (txt i.1), .string (txt [i.2.1]), .int .i64 i.2.2]
  pre i F := TX F ∧ i.1.length ≤ 2000000 ∧ 1 ≤ i.2.2 ∧ i.2.2 ≤ 1000
  post i v F := IsStrs F v (Lib.splitN i.1 [i.2.1] i.2.2)
  mono i F G hs h := ⟨h.1.mono hs, h.2⟩
  monoP i v F G hs h := h.mono hs
  enter := Tryz.call114
  h := by
    rintro ⟨s, c, n⟩ w ⟨ht, hl, h1, h2⟩
    simp only at hl h1 h2 ⊢
    obtain ⟨m, hm⟩ := ht.len
    refine (Tryz.strings_SplitN (txt s) (txt [c]) n m w (by rw [txt_size]; omega) hm (Nat.le_refl 1) h1 (by omega)).mono ?_
    rintro e w' ⟨rfl, rfl⟩
    have hb : Lib.splitB (txt [c]) 0 (min n ((txt s).size + 1) - 1) (txt s) = (Lib.splitN s [c] n).map txt := bytes_back (by rw [Lib.splitB_data]; rfl)
    rw [hb]
    have hlen := (Lib.splitB_length_le (txt [c]) 0 (min n ((txt s).size + 1) - 1) (txt s))
    rw [hb] at hlen
    refine ⟨_, rfl, below_alloc _ _, ⟨⟨w.heap.size, 0, none⟩, _, by rw [List.length_map], row_new (Nat.le_refl _) (Array.getElem?_push_size) (fun j v hj => ?_), ?_, ?_⟩⟩
    · unfold Lib.cellsOf
      rw [List.getElem?_toArray, List.getElem?_append_left (by rw [List.length_map, List.length_map]; have := (List.getElem?_eq_some_iff.1 hj).1; simpa using this), List.map_map]
      exact hj
    · rw [List.length_map] at hlen; omega
    · unfold maxLen; omega
def splitNC : Con Tryz.prog := Con.make splitN_S
structure TE (F : Facts) : Prop where
  c : TC F
  x : TX F
theorem TE.mono {F G : Facts} (h : TE F) (hs : Sub F G) : TE G := ⟨h.c.mono hs, h.x.mono hs⟩
theorem TE.r {F : Facts} (h : TE F) : TR F := ⟨h.c.t, h.x⟩
def iElemTextW : Con Tryz.prog := Con.readW iElemTextC_S
theorem iElemOfK_c (op : Int) (o : Option Addr) (cap : Nat) (ws : List Str) (t : Str) (cx : Cx) (mem : List Blk) (w : World) (hpre : mem = [] ∧ RdL (factF cx) o (List.map (fun z => Value.string (txt z)) ws) ∧ TE (factF cx) ∧ 0 < List.length ws ∧ List.length ws ≤ 1000 ∧ (∀ z ∈ ws, List.length z ≤ 1100000)) (hm : MemRel cx mem w) :
    Calls Tryz.prog 113 (([.v (.int .i64 op), .v (.slice o (List.length ws) cap), .v (.string (txt t))] : List C).map den).toArray w fun e w' => ∃ cx' c mem', e = .returned (den c) ∧ MemRel cx' mem' w' ∧ Le cx cx' ∧ ERK 91 (tryE op ws t) c mem' := by
  refine step_of_vcs ⟨[iDevReadC, iElemTextW], []⟩ hmx Tryz.func113 rfl (by kernel_rfl) (args := [.v (.int .i64 op), .v (.slice o (List.length ws) cap), .v (.string (txt t))]) (by simp [Tryz.ntmps113]) hm (fun cx' c mem' => Le cx cx' ∧ ERK 91 (tryE op ws t) c mem') 400 ?_
  obtain ⟨rfl, h, ht, h0, hl, hw⟩ := hpre
  simp (maxSteps := 4000000) -dsimp [-Y1, -Array.all_eq_true, -Y3, -Y4, and_assoc, Y5, Tryz.f113, iDevReadC, iElemTextW]
  intro b0 b1
  refine loop_inv (σ := ⟨[iDevReadC, iElemTextW], []⟩) hmx (by kernel_rfl) (fun q cx' tm mem => Le cx cx' ∧ ∃ (i : Nat) (ds : List Dev) (c : C) (rest : List Blk), i ≤ ws.length ∧ q = ws.length - i ∧ (ws.take i).mapM devRd = some ds ∧ ds.length = i ∧
      mem = ⟨b0, [.v (.int .i64 0), .v (.slice none 0 0)], 55⟩ :: ⟨b1, [.v (.int .i64 op), c], 55⟩ :: rest ∧
      ((i = 0 ∧ c = .v (.slice none 0 0) ∧ rest = []) ∨ (0 < i ∧ ∃ (X : Blk) (b' cp : Nat) (pad : List C), i ≤ cp ∧ cp ≤ maxLen ∧ pad.length = (cp - i) * 3 ∧ c = .s 3 b' 0 i cp ∧ rest = [X, ⟨b', DB ds ++ pad, 91⟩])) ∧
      Sx.look tm 17 = .v (.int .i64 i) ∧ Sx.look tm 16 = .v (.int .i64 ws.length) ∧ Sx.look tm 15 = .v (.slice o ws.length cap) ∧ Sx.look tm 8 = .p 1 b1 0 ∧ Sx.look tm 6 = .p 0 b0 0 ∧ Sx.look tm 2 = .v (.string (txt t)))
    ws.length ⟨Le.refl _, 0, [], .v (.slice none 0 0), [], by omega, rfl, rfl, rfl, rfl, Or.inl ⟨rfl, rfl, rfl⟩, by simp [Sx.look], by simp [Sx.look], by simp [Sx.look], by simp [Sx.look], by simp [Sx.look], by simp [Sx.look]⟩ ?_
  rintro q cx1 tm mem ⟨hle, i, ds, c, rest, hi, rfl, hM, hds, rfl, hcase, j17, j16, j15, j8, j6, j2⟩
  refine ⟨400, ?_⟩
  have h1 := RdL.mono h hle.fact
  have ht1 := ht.mono hle.fact
  by_cases hlt : i < ws.length
  · have hlt' : (i : Int) < ws.length := by omega
    obtain ⟨z, hz⟩ : ∃ z, ws[i]? = some z := ⟨ws[i], by simp [hlt]⟩
    have hzm := List.mem_of_getElem? hz
    have l0 := fun (d : Nat) (mem : List Blk) (K : Value → Prop) => RdL.ld (P := Tryz.prog) (d := d) (K := K) (RdL.mono h1 (sub_now cx1 mem)) (t := 9) (by kernel_rfl) (i := i) (v := .string (txt z)) (by rw [List.getElem?_map, hz]; rfl)
    have hthere : o.isSome = true := RdL.there h (i := i) (by simpa using hlt)
    have r0 := fun (d : Nat) (mem : List Blk) (K : C → Prop) => iDevReadC_rw (s := z) (d := d) (cx := cx1) (mem := mem) (K := K) ⟨(ht1.mono (sub_now _ _)).r, hw z hzm⟩
    cases hd : devRd z with
    | none =>
      have hE : tryE op ws t = none := by unfold tryE; rw [mapM_none hzm hd]
      rw [hE]
      simp (maxSteps := 4000000) -dsimp [-Y1, -Array.all_eq_true, -Y3, -Y4, and_assoc, Y5, Tryz.f113, iDevReadC, iElemTextW, j17, j16, j15, j8, j6, j2, hlt, hlt', l0, hthere, r0, hd, devTup]
      intro b2
      refine EndK.plain 0 ⟨hle, Or.inl ⟨rfl, rfl, rfl⟩⟩
    | some d =>
      obtain ⟨dk, dn, dp⟩ := d
      have hM2 : (ws.take (i + 1)).mapM devRd = some (ds ++ [⟨dk, dn, dp⟩]) := by
        rw [List.take_add_one, hz]
        exact mapM_snoc hM hd
      rcases hcase with ⟨rfl, rfl, rfl⟩ | ⟨hpos, X, b', cp, pad, g1, g2, g3, rfl, rfl⟩
      · obtain rfl : ds = [] := List.eq_nil_of_length_eq_zero hds
        have l1 : ∀ (d : Nat) (mem : List Blk) (K : Value → Prop), LoadV d Tryz.prog cx1 mem 9 o K = K (.string (txt z)) := fun d mem K => by simpa using l0 d mem K
        simp (maxSteps := 4000000) -dsimp [-Y1, -Array.all_eq_true, -Y3, -Y4, and_assoc, Y5, Tryz.f113, iDevReadC, iElemTextW, j17, j16, j15, j8, j6, j2, hlt, hlt', l1, hthere, r0, hd, devTup]
        intro b2 cx' p hle' hlit
        rw [RdL.sl (hlit.mono ((sub_new cx').trans (sub_now _ _))) (by rfl)]
        unfold GrowV
        have hw1 : IntKind.i64.wrap 1 = 1 := by decide
        simp (maxSteps := 4000000) -dsimp [-Y1, -Array.all_eq_true, -Y3, -Y4, and_assoc, Y5, Tryz.f113, iDevReadC, iElemTextW, j17, j16, j15, j8, j6, j2, hw1]
        exact ⟨by decide, fun b cap' pad k1 k2 k3 => ⟨4, ws.length - 1, by omega, hle.trans hle', 1, by omega, rfl, [⟨dk, dn, dp⟩], hM2, rfl, .s 3 b 0 1 cap', _, rfl, Or.inr ⟨by omega, _, b, cap', k1, k2, pad, k3, rfl, rfl⟩, rfl⟩⟩
      · have e0 := DB_take ds pad hds
        have e1 := DB_full hds g3 g1
        simp (maxSteps := 4000000) -dsimp [-Y1, -Array.all_eq_true, -Y3, -Y4, and_assoc, Y5, Tryz.f113, iDevReadC, iElemTextW, j17, j16, j15, j8, j6, j2, hlt, hlt', l0, hthere, r0, hd, devTup]
        intro b2 cx' p hle' hlit
        rw [RdL.sl (hlit.mono ((sub_new cx').trans (sub_now _ _))) (by rfl)]
        unfold GrowV
        simp (maxSteps := 4000000) -dsimp [-Y1, -Array.all_eq_true, -Y3, -Y4, and_assoc, Y5, Tryz.f113, iDevReadC, iElemTextW, j17, j16, j15, j8, j6, j2, e0, e1, i_succ (i := i) (by omega)]
        exact ⟨g1, g2, by unfold maxLen; omega, by omega, fun b cap' pad k1 k2 k3 => ⟨4, ws.length - (i + 1), by omega, hle.trans hle', i + 1, by omega, rfl, ds ++ [⟨dk, dn, dp⟩], hM2, by rw [List.length_append, hds]; rfl, .s 3 b 0 (i + 1) cap', _, rfl, Or.inr ⟨by omega, _, b, cap', k1, k2, pad, k3, rfl, by rw [DB_push]; rfl⟩, by omega⟩⟩
  · obtain rfl : i = ws.length := by omega
    rcases hcase with ⟨h00, _⟩ | ⟨hpos, X, b', cp, pad, g1, g2, g3, rfl, rfl⟩
    · omega
    rw [List.take_length] at hM
    have hlt2 : ¬ (ws.length : Int) < ws.length := by omega
    by_cases ht0 : t = []
    · subst ht0
      have hE : tryE op ws [] = none := by unfold tryE; rw [hM]; simp
      rw [hE]
      simp (maxSteps := 4000000) -dsimp [-Y1, -Array.all_eq_true, -Y3, -Y4, and_assoc, Y5, Tryz.f113, iDevReadC, iElemTextW, j17, j16, j15, j8, j6, j2, hlt2, txt_eta, Con.readW]
      refine EndK.plain 0 ⟨hle, Or.inl ⟨rfl, rfl, rfl⟩⟩
    · have hE : tryE op ws t = if elemL op ds = t then some (op, ds) else none := by
        unfold tryE; rw [hM]; simp [ht0]
      rw [hE]
      simp (maxSteps := 4000000) -dsimp [-Y1, -Array.all_eq_true, -Y3, -Y4, and_assoc, Y5, Tryz.f113, iDevReadC, iElemTextW, j17, j16, j15, j8, j6, j2, hlt2, txt_eta, ht0, Con.readW]
      rw [← hds]
      refine readW_at (S := iElemTextC_S) (op, some ⟨b', 0, none⟩, cp, ds) rfl (fun w' hm' => ⟨DB_rd (k := 3) hm' rfl, (ht1.mono (fact_cell hm')).c, by omega, by omega, by unfold maxLen at g2; omega⟩) ?_
      show vcs _ _ _ _ _ _ _ (put _ _ (.v (.string (txt (elemL op ds))))) _
      by_cases hq : elemL op ds = t
      · simp (maxSteps := 4000000) -dsimp [-Y1, -Array.all_eq_true, -Y3, -Y4, and_assoc, Y5, Tryz.f113, iDevReadC, iElemTextW, j17, j16, j15, j8, j6, j2, hq]
        refine fun w' hm' => ⟨cx1, _, [⟨b', DB ds ++ pad, 91⟩], rfl, ?_, hle, Or.inr ⟨(op, ds), b', cp, pad, if_pos hq, rfl, rfl, by show ds.length ≤ cp; omega, g2, by show pad.length = (cp - ds.length) * 3; rw [hds]; exact g3⟩⟩
        have := memRel_mid (mem := []) (ex := [_, _, _]) (ys := [⟨b', DB ds ++ pad, 91⟩]) hm'
        simpa using this
      · simp (maxSteps := 4000000) -dsimp [-Y1, -Array.all_eq_true, -Y3, -Y4, and_assoc, Y5, Tryz.f113, iDevReadC, iElemTextW, j17, j16, j15, j8, j6, j2, hq]
        exact EndK.plain 0 ⟨hle, Or.inl ⟨if_neg hq, rfl, rfl⟩⟩
def iElemOfK_S : Gens Tryz.prog 113 where
  ι := ((Int) × (Option Addr) × (Nat) × (List Str) × (Str))
  A := fun (i : ((Int) × (Option Addr) × (Nat) × (List Str) × (Str))) => match i with | (op, o, cap, ws, t) => [.v (.int .i64 op), .v (.slice o (List.length ws) cap), .v (.string (txt t))]
  pre := fun (i : ((Int) × (Option Addr) × (Nat) × (List Str) × (Str))) (cx : Cx) (mem : List Blk) => match i with | (op, o, cap, ws, t) => mem = [] ∧ RdL (factF cx) o (List.map (fun z => Value.string (txt z)) ws) ∧ TE (factF cx) ∧ 0 < List.length ws ∧ List.length ws ≤ 1000 ∧ (∀ z ∈ ws, List.length z ≤ 1100000)
  post := fun (i : ((Int) × (Option Addr) × (Nat) × (List Str) × (Str))) (cx : Cx) (mem : List Blk) (cx' : Cx) (c : C) (mem' : List Blk) => match i with | (op, o, cap, ws, t) => Le cx cx' ∧ ERK 91 (tryE op ws t) c mem'
  enter := Tryz.call113
  h := fun i cx mem w hp hm => iElemOfK_c i.1 i.2.1 i.2.2.1 i.2.2.2.1 i.2.2.2.2 cx mem w hp hm
def iElemOfU_S : Gens Tryz.prog 113 where
  ι := Int × Option Addr × Nat × List Str × Str
  A i := [.v (.int .i64 i.1), .v (.slice i.2.1 i.2.2.2.1.length i.2.2.1), .v (.string (txt i.2.2.2.2))]
  pre i cx mem := ∀ w, MemRel cx mem w → RdL w.cell? i.2.1 (i.2.2.2.1.map fun z => Value.string (txt z)) ∧ TE w.cell? ∧ 0 < i.2.2.2.1.length ∧ i.2.2.2.1.length ≤ 1000 ∧ (∀ z ∈ i.2.2.2.1, z.length ≤ 1100000)
  post i cx mem cx' c mem' := Le cx cx' ∧ ∃ ex, mem' = mem ++ ex ∧ ERK 91 (tryE i.1 i.2.2.2.1 i.2.2.2.2) c ex
  enter := iElemOfK_S.enter
  h := fun (op, o, cap, ws, t) cx mem w hp hm => by
    obtain ⟨h1, h2, h3⟩ := hp w hm
    refine (iElemOfK_c op o cap ws t ⟨w, [], w, []⟩ [] w ⟨rfl, by rw [factF_init]; exact h1, by rw [factF_init]; exact h2, h3⟩ (memRel_nil w)).mono ?_
    rintro e w' ⟨cx2, c, mem2, rfl, hm2, hle, hE⟩
    obtain ⟨cx', g1, g2⟩ := memRel_lift hm hm2 hle
    exact ⟨cx', c, _, rfl, g1, g2, mem2, rfl, hE⟩
def iElemOfU : Con Tryz.prog := Con.gen iElemOfU_S
theorem iElemOfU_at {op : Int} {o : Option Addr} {cap n : Nat} {ws : List Str} {t : Str} {d : Nat} {cx : Cx} {mem : List Blk} {K : Cx → C → List Blk → Prop} (hn : n = ws.length) (h1 : RdL (factF cx) o (ws.map fun z => Value.string (txt z))) (h2 : TE (factF cx)) (h3 : 0 < ws.length ∧ ws.length ≤ 1000 ∧ (∀ z ∈ ws, z.length ≤ 1100000))
    (h : ∀ cx' c ex, Le cx cx' → ERK 91 (tryE op ws t) c ex → K cx' c (mem ++ ex)) : GenV d iElemOfU_S cx [.v (.int .i64 op), .v (.slice o n cap), .v (.string (txt t))] mem K := by
  subst hn
  exact ⟨(op, o, cap, ws, t), rfl, fun w hm => ⟨RdL.mono h1 (fact_cell hm), h2.mono (fact_cell hm), h3⟩, by rintro cx' c _ ⟨hle, ex, rfl, hE⟩; exact h cx' c ex hle hE⟩
theorem erk_on {d : Nat} {ty : TypeId} {r : Option (Int × List Dev)} {c : C} {cx0 cx : Cx} {mem ex : List Blk} (hle : Le cx0 cx) (h : ERK ty r c ex) :
    EndK d (fun cx' c mem' => Le cx0 cx' ∧ ERK ty r c mem') cx c (mem ++ ex) := by
  have := endK_mid (d := d) (K := fun cx' c mem' => Le cx0 cx' ∧ ERK ty r c mem') (cx := cx) (c := c) (mem := []) (ex := mem) (ys := ex) ⟨hle, h⟩
  simpa using this
theorem ERK.tup {ty : TypeId} {r : Option (Int × List Dev)} {c : C} {ex : List Blk} (h : ERK ty r c ex) : ∃ (op : Int) (o : Option Addr) (n cap : Nat), c = .v (.tuple #[.agg #[.int .i64 op, .slice o n cap], .bool r.isSome]) := by
  rcases h with ⟨rfl, rfl, rfl⟩ | ⟨e, b, cp, pad, rfl, rfl, rfl, h1, h2, h3⟩
  · exact ⟨_, _, _, _, rfl⟩
  · exact ⟨_, _, _, _, rfl⟩
theorem elemRd_coil {t : Str} (h1 : (cutAt 58 t).2.2 = true) (h2 : 0 ≤ idxW (cutAt 58 t).1 words17) : elemRd t = tryE (21 + idxW (cutAt 58 t).1 words17) (Lib.splitN (cutAt 58 t).2.1 [44] 4) t := by
  unfold elemRd
  rw [if_pos ⟨h1, h2⟩]; rfl
theorem elemRd_no {t : Str} (h : ¬ ((cutAt 58 t).2.2 = true ∧ 0 ≤ idxW (cutAt 58 t).1 words17)) : elemRd t =
    if (cutAt 58 t).2.2 = true ∧ (cutAt 58 t).1.head? = some 43 then tryE 3 [(cutAt 58 t).1.drop 1, (cutAt 58 t).2.1] t
    else if (cutAt 58 t).2.2 = true ∧ (cutAt 58 t).1.head? = some 45 then tryE 4 [(cutAt 58 t).1.drop 1, (cutAt 58 t).2.1] t
    else if t.head? = some 47 then tryE 2 [t.drop 1] t
    else match cmpTry t 6 1 with
      | some e => some e
      | none => tryE 1 [t] t := by
  unfold elemRd
  exact if_neg h
theorem prefix_one (s : Str) (c : UInt8) : Lib.hasPrefix s [c] = decide (s.head? = some c) ∧ Lib.trimPrefix s [c] = (if s.head? = some c then s.drop 1 else s) := by
  cases s with
  | nil => exact ⟨rfl, rfl⟩
  | cons x r =>
    by_cases h : x = c
    · subst h
      simp [Lib.hasPrefix, Lib.trimPrefix, List.isPrefixOf]
    · simp [Lib.hasPrefix, Lib.trimPrefix, List.isPrefixOf, h, Ne.symm h]
theorem iElemReadK_c (t : Str) (cx : Cx) (mem : List Blk) (w : World) (hpre : mem = [] ∧ TE (factF cx) ∧ List.length t ≤ 1100000) (hm : MemRel cx mem w) :
    Calls Tryz.prog 41 (([.v (.string (txt t))] : List C).map den).toArray w fun e w' => ∃ cx' c mem', e = .returned (den c) ∧ MemRel cx' mem' w' ∧ Le cx cx' ∧ ERK 91 (elemRd t) c mem' := by
  refine step_of_vcs ⟨[cutC, idxSC, splitNC, cutPreC, iElemOfU, iCmpTextC], []⟩ hmx Tryz.func41 rfl (by kernel_rfl) (args := [.v (.string (txt t))]) (by simp [Tryz.ntmps41]) hm (fun cx' c mem' => Le cx cx' ∧ ERK 91 (elemRd t) c mem') 500 ?_
  obtain ⟨rfl, ht, hl⟩ := hpre
  have hcut : Lib.cut t [58] = cutAt 58 t := cut_one 58 t
  have a1 : ∀ (d : Nat) (mem : List Blk) (K : C → Prop), ReadV d cut_S cx [.v (.string (txt t)), .v (.string (txt [58]))] mem K = K (.v (.tuple #[.string (txt (cutAt 58 t).1), .string (txt (cutAt 58 t).2.1), .bool (cutAt 58 t).2.2])) := fun d mem K => by
    have := cut_S.eq (d := d) (cx := cx) (args := [.v (.string (txt t)), .v (.string (txt [58]))]) (mem := mem) (K := K) (t, [58]) rfl ⟨(ht.mono (sub_now _ _)).x, Nat.le_trans hl (by decide)⟩
    rw [this, ← hcut]
    rfl
  have a3 : ∀ (d : Nat) (s : Str) (mem : List Blk) (K : C → Prop), ReadV d idxS_S cx [.v (.slice (some ⟨0, 0, none⟩) 17 17), .v (.string (txt s))] mem K = K (.v (.int .i64 (idxW s words17))) := fun d s mem K =>
    idxS_S.eq (d := d) (cx := cx) (args := [.v (.slice (some ⟨0, 0, none⟩) 17 17), .v (.string (txt s))]) (mem := mem) (K := K) (⟨0, 0, none⟩, 17, words17, s) rfl ⟨(ht.mono (sub_now _ _)).c.n, rfl, show words17.length ≤ 1000000 by decide⟩
  have a4 : ∀ (d : Nat) (s : Str) (q : UInt8) (mem : List Blk) (K : C → Prop), ReadV d cutPre_S cx [.v (.string (txt s)), .v (.string (txt [q]))] mem K = K (.v (.tuple #[.string (txt (if s.head? = some q then s.drop 1 else s)), .bool (decide (s.head? = some q))])) := fun d s q mem K => by
    have := cutPre_S.eq (d := d) (cx := cx) (args := [.v (.string (txt s)), .v (.string (txt [q]))]) (mem := mem) (K := K) (s, [q]) rfl trivial
    rw [this]
    show K (.v (.tuple #[.string (txt (Lib.trimPrefix s [q])), .bool (Lib.hasPrefix s [q])])) = _
    rw [(prefix_one s q).1, (prefix_one s q).2]
  have hcl := cutAt_len 58 t
  by_cases hc : (cutAt 58 t).2.2 = true ∧ 0 ≤ idxW (cutAt 58 t).1 words17
  · rw [elemRd_coil hc.1 hc.2]
    have hsn := splitN_len (cutAt 58 t).2.1 44 4
    have hb := idxW_bd (cutAt 58 t).1 words17
    have hwl : words17.length = 17 := rfl
    have hc1 := hc.1
    have hc2 := hc.2
    have w1 : IntKind.i64.wrap (21 + idxW (cutAt 58 t).1 words17) = 21 + idxW (cutAt 58 t).1 words17 := wrap_i64 (by omega) (by omega)
    simp (maxSteps := 4000000) -dsimp [-Y1, -Array.all_eq_true, -Y3, -Y4, and_assoc, Y5, Tryz.f41, cutC, idxSC, splitNC, cutPreC, iElemOfU, iCmpTextC, a1, a3, a4, hc1, hc2, w1, Con.gen, txt_eta]
    intro b
    refine ⟨((cutAt 58 t).2.1, 44, 4), rfl, ⟨(ht.mono (sub_now _ _)).x, by show (cutAt 58 t).2.1.length ≤ 2000000; omega, by show 1 ≤ 4; decide, by show 4 ≤ 1000; decide⟩, ?_⟩
    rintro cx1 v hle1 hv
    obtain ⟨a, cap, rfl, hws, _, _⟩ := hv.ex
    simp (maxSteps := 4000000) -dsimp [-Y1, -Array.all_eq_true, -Y3, -Y4, and_assoc, Y5, Tryz.f41, cutC, idxSC, splitNC, cutPreC, iElemOfU, iCmpTextC]
    refine iElemOfU_at rfl (RdL.mono hws (sub_new _)) (ht.mono hle1.fact) ⟨hsn.2.2, by omega, fun z hz => by have := hsn.2.1 z hz; omega⟩ ?_
    rintro cx2 c ex hle2 hE
    obtain ⟨eop, eo, en, ecap, rfl⟩ := ERK.tup hE
    simp (maxSteps := 4000000) -dsimp [-Y1, -Array.all_eq_true, -Y3, -Y4, and_assoc, Y5, Tryz.f41, cutC, idxSC, splitNC, cutPreC, iElemOfU, iCmpTextC]
    exact erk_on (mem := [_]) (hle1.trans hle2) hE
  · rw [elemRd_no hc]
    by_cases hU : (cutAt 58 t).2.2 = true ∧ (cutAt 58 t).1.head? = some 43
    · rw [if_pos hU, List.drop_one]
      have hP := hU.1
      have h43 := hU.2
      have hidx : ¬ 0 ≤ idxW (cutAt 58 t).1 words17 := fun h => hc ⟨hP, h⟩
      simp (maxSteps := 4000000) -dsimp [-Y1, -Array.all_eq_true, -Y3, -Y4, and_assoc, Y5, Tryz.f41, cutC, idxSC, splitNC, cutPreC, iElemOfU, iCmpTextC, a1, a3, a4, hP, h43, hidx, Con.gen, txt_eta]
      intro b cx1 p hle1 hlit
      refine iElemOfU_at (ws := [(cutAt 58 t).1.tail, (cutAt 58 t).2.1]) rfl (RdL.mono hlit (sub_new _)) (ht.mono hle1.fact) ⟨by simp, by simp, by simp; omega⟩ ?_
      rintro cx2 c ex hle2 hE
      obtain ⟨eop, eo, en, ecap, rfl⟩ := ERK.tup hE
      simp (maxSteps := 4000000) -dsimp [-Y1, -Array.all_eq_true, -Y3, -Y4, and_assoc, Y5, Tryz.f41, cutC, idxSC, splitNC, cutPreC, iElemOfU, iCmpTextC]
      exact erk_on (mem := [_]) (hle1.trans hle2) hE
    rw [if_neg hU]
    by_cases hD : (cutAt 58 t).2.2 = true ∧ (cutAt 58 t).1.head? = some 45
    · rw [if_pos hD, List.drop_one]
      have hP := hD.1
      have h45 := hD.2
      have h43 : ¬ (cutAt 58 t).1.head? = some 43 := fun h => hU ⟨hP, h⟩
      have hidx : ¬ 0 ≤ idxW (cutAt 58 t).1 words17 := fun h => hc ⟨hP, h⟩
      have h4543 : ¬ (some (45 : UInt8) = some 43) := by decide
      simp (maxSteps := 4000000) -dsimp [-Y1, -Array.all_eq_true, -Y3, -Y4, and_assoc, Y5, Tryz.f41, cutC, idxSC, splitNC, cutPreC, iElemOfU, iCmpTextC, a1, a3, a4, hP, h43, h45, h4543, hidx, Con.gen, txt_eta]
      intro b cx1 p hle1 hlit
      refine iElemOfU_at (ws := [(cutAt 58 t).1.tail, (cutAt 58 t).2.1]) rfl (RdL.mono hlit (sub_new _)) (ht.mono hle1.fact) ⟨by simp, by simp, by simp; omega⟩ ?_
      rintro cx2 c ex hle2 hE
      obtain ⟨eop, eo, en, ecap, rfl⟩ := ERK.tup hE
      simp (maxSteps := 4000000) -dsimp [-Y1, -Array.all_eq_true, -Y3, -Y4, and_assoc, Y5, Tryz.f41, cutC, idxSC, splitNC, cutPreC, iElemOfU, iCmpTextC]
      exact erk_on (mem := [_]) (hle1.trans hle2) hE
    rw [if_neg hD]
    have hcomb : ((cutAt 58 t).2.2 = true ∧ ¬ (cutAt 58 t).1.head? = some 43 ∧ ¬ (cutAt 58 t).1.head? = some 45) ∨ ((cutAt 58 t).2.2 = false ∧ (cutAt 58 t).1.head? = some 43 ∧ ¬ (some (43 : UInt8) = some 45)) ∨
        ((cutAt 58 t).2.2 = false ∧ ¬ (cutAt 58 t).1.head? = some 43 ∧ (cutAt 58 t).1.head? = some 45) ∨ ((cutAt 58 t).2.2 = false ∧ ¬ (cutAt 58 t).1.head? = some 43 ∧ ¬ (cutAt 58 t).1.head? = some 45) := by
      by_cases hP : (cutAt 58 t).2.2 = true
      · exact Or.inl ⟨hP, fun h => hU ⟨hP, h⟩, fun h => hD ⟨hP, h⟩⟩
      · have hP' := Bool.eq_false_iff.2 hP
        by_cases h43 : (cutAt 58 t).1.head? = some 43
        · exact Or.inr (Or.inl ⟨hP', h43, by decide⟩)
        · by_cases h45 : (cutAt 58 t).1.head? = some 45
          · exact Or.inr (Or.inr (Or.inl ⟨hP', h43, h45⟩))
          · exact Or.inr (Or.inr (Or.inr ⟨hP', h43, h45⟩))
    by_cases h47 : t.head? = some 47
    · rw [if_pos h47, List.drop_one]
      rcases hcomb with ⟨hP, h43, h45⟩ | ⟨hP, h43, h45⟩ | ⟨hP, h43, h45⟩ | ⟨hP, h43, h45⟩
      all_goals
        have hidx : (cutAt 58 t).2.2 = true → ¬ 0 ≤ idxW (cutAt 58 t).1 words17 := fun h1 h2 => hc ⟨h1, h2⟩
        rw [hP] at hidx
        simp only [Bool.false_eq_true, false_implies, true_implies] at hidx
        simp (maxSteps := 4000000) -dsimp [-Y1, -Array.all_eq_true, -Y3, -Y4, and_assoc, Y5, Tryz.f41, cutC, idxSC, splitNC, cutPreC, iElemOfU, iCmpTextC, a1, a3, a4, hP, h43, h45, h47, hidx, Con.gen, txt_eta]
        intro b cx1 p hle1 hlit
        refine iElemOfU_at (ws := [t.tail]) rfl (RdL.mono hlit (sub_new _)) (ht.mono hle1.fact) ⟨by simp, by simp, by simp; omega⟩ ?_
        rintro cx2 c ex hle2 hE
        obtain ⟨eop, eo, en, ecap, rfl⟩ := ERK.tup hE
        simp (maxSteps := 4000000) -dsimp [-Y1, -Array.all_eq_true, -Y3, -Y4, and_assoc, Y5, Tryz.f41, cutC, idxSC, splitNC, cutPreC, iElemOfU, iCmpTextC]
        exact erk_on (mem := [_]) (hle1.trans hle2) hE
    rw [if_neg h47]
    rcases hcomb with ⟨hP, h43, h45⟩ | ⟨hP, h43, h45⟩ | ⟨hP, h43, h45⟩ | ⟨hP, h43, h45⟩
    all_goals
      have hidx : (cutAt 58 t).2.2 = true → ¬ 0 ≤ idxW (cutAt 58 t).1 words17 := fun h1 h2 => hc ⟨h1, h2⟩
      rw [hP] at hidx
      simp only [Bool.false_eq_true, false_implies, true_implies] at hidx
      obtain ⟨r, hr⟩ : ∃ r, r = (match cmpTry t 6 1 with | some e => some e | none => tryE 1 [t] t) := ⟨_, rfl⟩
      rw [← hr]
      simp (maxSteps := 4000000) -dsimp [-Y1, -Array.all_eq_true, -Y3, -Y4, and_assoc, Y5, Tryz.f41, cutC, idxSC, splitNC, cutPreC, iElemOfU, iCmpTextC, a1, a3, a4, hP, h43, h45, h47, hidx, Con.gen, txt_eta]
      intro b
      refine loop_inv (σ := ⟨[cutC, idxSC, splitNC, cutPreC, iElemOfU, iCmpTextC], []⟩) hmx (by kernel_rfl) (fun q cx' tm mem => Le cx cx' ∧ mem = [⟨b, [.v (.int .i64 0), .v (.slice none 0 0)], 55⟩] ∧ ∃ k : Nat, 1 ≤ k ∧ k ≤ 7 ∧ q = 7 - k ∧ r = (match cmpTry t (7 - k) k with | some e => some e | none => tryE 1 [t] t) ∧
          Sx.look tm 14 = .v (.int .i64 k) ∧ Sx.look tm 2 = .p 0 b 0 ∧ Sx.look tm 0 = .v (.string (txt t)))
        6 ⟨Le.refl _, rfl, 1, by omega, by omega, rfl, hr, by simp [Sx.look], by simp [Sx.look], by simp [Sx.look]⟩ ?_
      rintro q cx1 tm mem ⟨hle1, rfl, k, hk1, hk7, rfl, hR, j14, j2, j0⟩
      refine ⟨500, ?_⟩
      by_cases hlt : k ≤ 6
      · have hlt' : (k : Int) ≤ 6 := by omega
        have hk1' : (1 : Int) ≤ k := by omega
        have hcutl : ∀ z ∈ [(Lib.cut t (cmpS k)).1, (Lib.cut t (cmpS k)).2.1], z.length ≤ 1100000 := by
          have := cut_len t (cmpS k)
          simp; omega
        have a5 : ∀ (d : Nat) (mem : List Blk) (K : C → Prop), ReadV d cut_S cx1 [.v (.string (txt t)), .v (.string (txt (cmpS k)))] mem K = K (.v (.tuple #[.string (txt (Lib.cut t (cmpS k)).1), .string (txt (Lib.cut t (cmpS k)).2.1), .bool (Lib.cut t (cmpS k)).2.2])) := fun d mem K =>
          cut_S.eq (d := d) (cx := cx1) (args := [.v (.string (txt t)), .v (.string (txt (cmpS k)))]) (mem := mem) (K := K) (t, cmpS k) rfl ⟨((ht.mono hle1.fact).mono (sub_now _ _)).x, Nat.le_trans hl (by decide)⟩
        have w1 : IntKind.i64.wrap ((k : Int) - 1) = k - 1 := wrap_i64 (by omega) (by omega)
        have w2 : IntKind.i64.wrap ((k : Int) - 1 + 5) = k + 4 := by rw [wrap_i64 (by omega) (by omega)]; omega
        have hstep : cmpTry t (7 - k) k = if (Lib.cut t (cmpS k)).2.2 then match tryE (k + 4) [(Lib.cut t (cmpS k)).1, (Lib.cut t (cmpS k)).2.1] t with | some e => some e | none => cmpTry t (7 - (k + 1)) (k + 1) else cmpTry t (7 - (k + 1)) (k + 1) := by
          rw [show 7 - k = (7 - (k + 1)) + 1 by omega, cmpTry]; rfl
        cases hq : (Lib.cut t (cmpS k)).2.2
        · rw [hq] at hstep
          simp only [Bool.false_eq_true, if_false] at hstep
          rw [hstep] at hR
          simp (maxSteps := 4000000) -dsimp [-Y1, -Array.all_eq_true, -Y3, -Y4, and_assoc, Y5, Tryz.f41, cutC, idxSC, splitNC, cutPreC, iElemOfU, iCmpTextC, j14, j2, j0, hlt, hlt', hk1', a5, hq, Con.gen, i_succ (i := k) (by omega)]
          exact ⟨1, 7 - (k + 1), by omega, hle1, rfl, k + 1, by omega, by omega, rfl, by rw [hR]; rfl, by omega⟩
        · rw [hq] at hstep
          simp only [if_true] at hstep
          simp (maxSteps := 4000000) -dsimp [-Y1, -Array.all_eq_true, -Y3, -Y4, and_assoc, Y5, Tryz.f41, cutC, idxSC, splitNC, cutPreC, iElemOfU, iCmpTextC, j14, j2, j0, hlt, hlt', hk1', a5, hq, w1, w2, Con.gen]
          intro cx2 p hle2 hlit
          refine iElemOfU_at (ws := [(Lib.cut t (cmpS k)).1, (Lib.cut t (cmpS k)).2.1]) rfl (RdL.mono hlit (sub_new _)) (ht.mono (hle1.trans hle2).fact) ⟨by simp, by simp, hcutl⟩ ?_
          rintro cx3 c ex hle3 hE
          cases hT : tryE (k + 4) [(Lib.cut t (cmpS k)).1, (Lib.cut t (cmpS k)).2.1] t with
          | none =>
            rw [hT] at hE hstep
            simp only at hstep
            rw [hstep] at hR
            rcases hE with ⟨_, rfl, rfl⟩ | ⟨e, _, _, _, h0, _⟩
            · simp (maxSteps := 4000000) -dsimp [-Y1, -Array.all_eq_true, -Y3, -Y4, and_assoc, Y5, Tryz.f41, cutC, idxSC, splitNC, cutPreC, iElemOfU, iCmpTextC, j14, j2, j0, i_succ (i := k) (by omega)]
              exact fun b1 => ⟨1, 7 - (k + 1), by omega, (hle1.trans hle2).trans hle3, rfl, k + 1, by omega, by omega, rfl, by rw [hR]; rfl, by omega⟩
            · cases h0
          | some e =>
            rw [hT] at hE hstep
            simp only at hstep
            rw [hstep] at hR
            rw [hR]
            rcases hE with ⟨h0, _⟩ | ⟨e', eb, ecp, epad, h0, rfl, rfl, k1, k2, k3⟩
            · cases h0
            · cases h0
              simp (maxSteps := 4000000) -dsimp [-Y1, -Array.all_eq_true, -Y3, -Y4, and_assoc, Y5, Tryz.f41, cutC, idxSC, splitNC, cutPreC, iElemOfU, iCmpTextC, j14, j2, j0]
              intro b1
              exact fun w' hm' => erk_on (d := 2) (mem := [_]) ((hle1.trans hle2).trans hle3) (Or.inr ⟨e, eb, ecp, epad, rfl, rfl, rfl, k1, k2, k3⟩) w' (memRel_take hm' 2)
      · obtain rfl : k = 7 := by omega
        have hR2 : r = tryE 1 [t] t := hR
        rw [hR2]
        simp (maxSteps := 4000000) -dsimp [-Y1, -Array.all_eq_true, -Y3, -Y4, and_assoc, Y5, Tryz.f41, cutC, idxSC, splitNC, cutPreC, iElemOfU, iCmpTextC, j14, j2, j0, Con.gen]
        intro cx2 p hle2 hlit
        refine iElemOfU_at (ws := [t]) rfl (RdL.mono hlit (sub_new _)) (ht.mono (hle1.trans hle2).fact) ⟨by simp, by simp, by simp; omega⟩ ?_
        rintro cx3 c ex hle3 hE
        obtain ⟨eop, eo, en, ecap, rfl⟩ := ERK.tup hE
        simp (maxSteps := 4000000) -dsimp [-Y1, -Array.all_eq_true, -Y3, -Y4, and_assoc, Y5, Tryz.f41, cutC, idxSC, splitNC, cutPreC, iElemOfU, iCmpTextC, j14, j2, j0]
        exact erk_on (mem := [_]) ((hle1.trans hle2).trans hle3) hE
def iElemReadK_S : Gens Tryz.prog 41 where
  ι := ((Str))
  A := fun (t : ((Str))) => [.v (.string (txt t))]
  pre := fun (t : ((Str))) (cx : Cx) (mem : List Blk) => mem = [] ∧ TE (factF cx) ∧ List.length t ≤ 1100000
  post := fun (t : ((Str))) (cx : Cx) (mem : List Blk) (cx' : Cx) (c : C) (mem' : List Blk) => Le cx cx' ∧ ERK 91 (elemRd t) c mem'
  enter := Tryz.call41
  h := fun t cx mem w hp hm => iElemReadK_c t cx mem w hp hm
def iElemReadU_S : Gens Tryz.prog 41 where
  ι := Str
  A i := [.v (.string (txt i))]
  pre i cx mem := TE (factF cx) ∧ i.length ≤ 1100000
  post i cx mem cx' c mem' := Le cx cx' ∧ ∃ ex, mem' = mem ++ ex ∧ ERK 91 (elemRd i) c ex
  enter := iElemReadK_S.enter
  h := fun t cx mem w hp hm => by
    refine (iElemReadK_c t ⟨w, [], w, []⟩ [] w ⟨rfl, by rw [factF_init]; exact hp.1.mono (fact_cell hm), hp.2⟩ (memRel_nil w)).mono ?_
    rintro e w' ⟨cx2, c, mem2, rfl, hm2, hle, hE⟩
    obtain ⟨cx', g1, g2⟩ := memRel_lift hm hm2 hle
    exact ⟨cx', c, _, rfl, g1, g2, mem2, rfl, hE⟩
def iElemReadU : Con Tryz.prog := Con.gen iElemReadU_S
theorem iElemReadU_at {t : Str} {d : Nat} {cx : Cx} {mem : List Blk} {K : Cx → C → List Blk → Prop} (h1 : TE (factF cx)) (h2 : t.length ≤ 1100000)
    (h : ∀ cx' c ex, Le cx cx' → ERK 91 (elemRd t) c ex → K cx' c (mem ++ ex)) : GenV d iElemReadU_S cx [.v (.string (txt t))] mem K :=
  ⟨t, rfl, ⟨h1, h2⟩, by rintro cx' c _ ⟨hle, ex, rfl, hE⟩; exact h cx' c ex hle hE⟩
end Go.Proofs.YtclbanhoiaieaaaGreatDoor
