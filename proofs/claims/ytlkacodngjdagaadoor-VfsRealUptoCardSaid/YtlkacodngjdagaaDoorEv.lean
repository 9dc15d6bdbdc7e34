/- Steps of a walk over worlds that are letters: what a load of many cells, a store and a new block leave, told by blocks. -/
import Derived.Test.YtlkacodngjdagaaDoorStr
import Derived.Deep.MidRow
namespace Go.Proofs.YtlkacodngjdagaaDoor.Ev
open Go Go.RowKit Go.Proofs.YtlkacodngjdagaaDoorW.PrintWords Go.Proofs.YtlkacodngjdagaaDoor.Str
set_option linter.unusedVariables false

theorem cell_blk {w : World} {g : Nat} {cs : Array Value} {t : TypeId} {fr : Nat × Nat} {j : Nat} {v : Value} (h : w.heap[g]? = some (.cells cs t fr)) (hj : cs[j]? = some v) : w.cell? ⟨g, j, none⟩ = some v := by
  simp [World.cell?, h, hj]
/-- But for the blocks in S, and new ones, nothing has turned. -/
structure Only (S : Nat → Prop) (w w' : World) : Prop where
  os : w'.os = w.os
  tape : w'.tape = w.tape
  output : w'.output = w.output
  size : w.heap.size ≤ w'.heap.size
  block : ∀ k, k < w.heap.size → ¬ S k → w'.heap[k]? = w.heap[k]?

theorem Only.refl (S : Nat → Prop) (w : World) : Only S w w := ⟨rfl, rfl, rfl, Nat.le_refl _, fun _ _ _ => rfl⟩
theorem Only.of_below {S : Nat → Prop} {w w' : World} (h : Below w.heap.size w w') : Only S w w' := ⟨h.os, h.tape, h.output, h.size, fun k hk _ => h.block k hk⟩
theorem Only.below {S : Nat → Prop} {w w' : World} (h : Only S w w') (hS : ∀ k, S k → w.heap.size ≤ k) : Below w.heap.size w w' :=
  ⟨h.os, h.tape, h.output, h.size, fun k hk => h.block k hk (fun hs => by have := hS k hs; omega)⟩
theorem Only.trans {S S1 : Nat → Prop} {w w1 w2 : World} (h : Only S w w1) (k : Only S1 w1 w2) (hS : ∀ i, S1 i → i < w.heap.size → S i) : Only S w w2 :=
  ⟨k.os.trans h.os, k.tape.trans h.tape, k.output.trans h.output, Nat.le_trans h.size k.size, fun i hi hn => (k.block i (Nat.lt_of_lt_of_le hi h.size) (fun hs => hn (hS i hs hi))).trans (h.block i hi hn)⟩
theorem Only.mono {S S1 : Nat → Prop} {w w1 : World} (h : Only S w w1) (hS : ∀ i, S i → S1 i) : Only S1 w w1 :=
  ⟨h.os, h.tape, h.output, h.size, fun i hi hn => h.block i hi (fun hs => hn (hS i hs))⟩
theorem Only.blk {S : Nat → Prop} {w w1 : World} {g : Nat} {o : Obj} (h : Only S w w1) (hb : w.heap[g]? = some o) (hg : ¬ S g) : w1.heap[g]? = some o := (h.block g (blk_lt hb) hg).trans hb
theorem below_only {w w1 w2 : World} {S : Nat → Prop} (h : Below w.heap.size w w1) (k : Only S w1 w2) (hS : ∀ i, S i → w.heap.size ≤ i) : Below w.heap.size w w2 :=
  ⟨k.os.trans h.os, k.tape.trans h.tape, k.output.trans h.output, Nat.le_trans h.size k.size, fun i hi => (k.block i (Nat.lt_of_lt_of_le hi h.size) (fun hs => by have := hS i hs; omega)).trans (h.block i hi)⟩

theorem only_grown {w w1 : World} {row : Option Nat} (h : w.grownBy w1 row) : Only (fun k => some k = row) w w1 := ⟨h.os, h.tape, h.output, h.size, fun k hk hn => h.block k hk hn⟩
theorem only_setCell (w : World) (g j : Nat) (v : Value) : Only (· = g) w (w.setCell ⟨g, j, none⟩ v) :=
  ⟨rfl, rfl, rfl, by simp [World.setCell], fun k _ hk => Below.heap_setCell w ⟨g, j, none⟩ v k hk⟩
theorem only_setCells (g : Nat) : ∀ (vs : List Value) (o : Nat) (w : World), Only (· = g) w (w.setCells g o vs)
  | [], _, w => Only.refl _ w
  | v :: r, o, w => (only_setCell w g o v).trans (only_setCells g r (o + 1) _) (fun _ h _ => h)
theorem blk_setCells {g : Nat} {t : TypeId} : ∀ (vs : List Value) (o : Nat) (w : World) (C : Array Value), w.heap[g]? = some (.cells C t (0, 0)) → o + vs.length ≤ C.size →
    (w.setCells g o vs).heap[g]? = some (.cells (C.toList.take o ++ vs ++ C.toList.drop (o + vs.length)).toArray t (0, 0))
  | [], o, w, C, hb, _ => by
    show w.heap[g]? = _
    rw [hb]
    simp
  | v :: r, o, w, C, hb, hl => by
    have hl' : o + (r.length + 1) ≤ C.size := by simpa using hl
    have h1 := blk_set hb o v
    have h2 := blk_setCells r (o + 1) (w.setCell ⟨g, o, none⟩ v) _ h1 (by rw [Array.size_setIfInBounds]; omega)
    show ((w.setCell ⟨g, o, none⟩ v).setCells g (o + 1) r).heap[g]? = _
    rw [h2]
    congr 3
    rw [Array.toList_setIfInBounds]
    have ho : o < C.toList.length := by simpa using (by omega : o < C.size)
    rw [List.take_set, List.take_succ_eq_append_getElem ho]
    simp only [List.length_cons]
    have e1 : (List.take o C.toList ++ [C.toList[o]]).set o v = List.take o C.toList ++ [v] := by
      rw [List.set_append_right _ _ (by rw [List.length_take]; omega)]
      congr 1
      rw [List.length_take, Nat.min_eq_left (by omega), Nat.sub_self]
      rfl
    rw [e1, List.drop_set_of_lt (by omega)]
    simp [Nat.add_comm, Nat.add_left_comm]

section
variable {P : Program} {ops : Array Oper} {rest : List Oper} {o : Oper} {a : Act} {Q : Exit → Act → World → Prop}

theorem wpList_want {W : World} (hw : Region.wanted o (yielded ops a.tmps) = true) (h : ∀ K : Act → World → Prop, (∀ a w, wpList P ops Q rest a w → K a w) → o.wp P a W K Q) : wpList P ops Q (o :: rest) a W := by
  unfold wpList
  rw [if_pos hw]
  exact .inl (h _ (fun _ _ h => h))

/-- Many cells are read out of a block. -/
theorem ev_load {W : World} (hgd : Region.wanted o (yielded ops a.tmps) = true) (ty : TypeId) (x : Operand) (ho : o.op = .load ty x) (g off : Nat) (hx : a.eval x = .pointer (some ⟨g, off, none⟩))
    {C : Array Value} {t : TypeId} {fr : Nat × Nat} (hb : W.heap[g]? = some (.cells C t fr)) (l : List Value) (hl : (C.toList.drop off).take l.length = l) {d : TypeDesc}
    (hu : P.underlying ty = some d) (hd : d.isRow = true) (hi : (P.info? ty).map (·.size) = some l.length) (h : wpList P ops Q rest (a.put o.dst (.agg l.toArray)) W) : wpList P ops Q (o :: rest) a W := by
  refine wpList_want hgd fun _ hK => wp_load_mid ty x ho g off hx l d (fun j v hv => ?_) hu hd hi (hK _ _ h)
  refine cell_blk hb ?_
  have hj : j < l.length := (List.getElem?_eq_some_iff.1 hv).1
  rw [← hl, List.getElem?_take, if_pos hj, List.getElem?_drop] at hv
  simpa using hv

/-- A whole block is written. -/
theorem ev_store_all {W : World} (hgd : Region.wanted o (yielded ops a.tmps) = true) (hdst : o.dst = none) (ty : TypeId) (x y : Operand) (ho : o.op = .store ty x y) (g : Nat) (hx : a.eval x = .pointer (some ⟨g, 0, none⟩)) (cells : Array Value) (hy : a.eval y = .agg cells)
    {C : Array Value} {t : TypeId} (hb : W.heap[g]? = some (.cells C t (0, 0))) (hsz : C.size = cells.size) (hi : (P.info? ty).map (·.size) = some cells.size) (h1 : ∀ v ∈ cells.toList, v.oneCell' = true)
    (h : ∀ w1, w1.heap[g]? = some (.cells cells t (0, 0)) → Only (· = g) W w1 → wpList P ops Q rest a w1) : wpList P ops Q (o :: rest) a W := by
  have ht : W.there g 0 cells.size := fun j hj => by
    constructor
    · rw [Nat.zero_add, blk_cell hb j, Array.getElem?_eq_getElem (by omega)]; rfl
    · rw [Nat.zero_add]; exact blk_frozen hb j
  refine wpList_want hgd fun _ hK => wp_store_mid ty x y ho g 0 cells hx hy ht hi (by rw [Array.all_eq_true_iff_forall_mem]; exact fun v hv => h1 v (by simpa using hv)) (hK _ _ ?_)
  rw [hdst]
  refine h _ ?_ (only_setCells g _ _ _)
  rw [blk_setCells cells.toList 0 W C hb (by simp; omega), List.drop_of_length_le (by simp; omega)]
  simp

/-- One cell of a block is written. -/
theorem ev_store_cell {W : World} (hgd : Region.wanted o (yielded ops a.tmps) = true) (hdst : o.dst = none) (g j : Nat) (v : Value)
    {C : Array Value} {t : TypeId} (hb : W.heap[g]? = some (.cells C t (0, 0))) (hst : (execOp a.eval o).run P W = .ok .skip (W.setCell ⟨g, j, none⟩ v))
    (h : ∀ w1, w1.heap[g]? = some (.cells (C.setIfInBounds j v) t (0, 0)) → Only (· = g) W w1 → wpList P ops Q rest a w1) : wpList P ops Q (o :: rest) a W := by
  refine wpList_want hgd fun K hK => ?_
  unfold Oper.wp
  rw [hst]
  show K (a.put o.dst undef) _
  rw [hdst]
  exact hK _ _ (h _ (blk_set hb j v) (only_setCell W g j v))

end
end Go.Proofs.YtlkacodngjdagaaDoor.Ev
