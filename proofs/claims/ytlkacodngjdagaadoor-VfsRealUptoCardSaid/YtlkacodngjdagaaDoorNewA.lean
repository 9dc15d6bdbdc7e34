/- New: what it answers, told by plain functions; steps of a walk over maps. -/
import Derived.Test.YtlkacodngjdagaaDoorFs
namespace Go.Proofs.YtlkacodngjdagaaDoor.Vfs
open Go Go.Maps Go.WideMaps Go.RowKit Go.Proofs.YtlkacodngjdagaaDoorW.PrintWords Go.Proofs.YtlkacodngjdagaaDoor.Kinds Go.Proofs.YtlkacodngjdagaaDoor.Str Go.Proofs.YtlkacodngjdagaaDoor.Ev Go.Proofs.YtlkacodngjdagaaDoor.Frame
set_option linter.unusedVariables false

theorem as_int {P : Program} {f : FuncId} {args : Array Value} {w : World} {b b' : Int} {Q : World → Prop} (h : b = b') (hc : Calls P f args w fun e w' => e = .returned (.int .i64 b) ∧ Q w') : Calls P f args w fun e w' => e = .returned (.int .i64 b') ∧ Q w' := by
  subst h
  exact hc

def root : Nd := ⟨⟨#[47]⟩, 1, [], ⟨#[]⟩⟩
def scan1 (ns : List Nd) : List Nd → Int
  | [] => 0
  | x :: r => if fitsB x = 0 then (if (idxOf ns x.f0).isSome = true then 61 else scan1 (ns ++ [x]) r) else fitsB x
theorem scan1_cons (ns : List Nd) (x : Nd) (r : List Nd) : scan1 ns (x :: r) = if fitsB x = 0 then (if (idxOf ns x.f0).isSome = true then 61 else scan1 (ns ++ [x]) r) else fitsB x := rfl
def dirAt (ns : List Nd) (p : ByteArray) : Bool := match idxOf ns p with
  | some i => decide ((ns.getD i root).f1 = 1)
  | none => false
def scan2 (ns : List Nd) : List Nd → Int
  | [] => 0
  | x :: r => if dirAt ns (upS x.f0) = true then scan2 ns r else 62
theorem scan2_cons (ns : List Nd) (x : Nd) (r : List Nd) : scan2 ns (x :: r) = if dirAt ns (upS x.f0) = true then scan2 ns r else 62 := rfl
def newB (l : List Nd) : Int := if 256 < l.length then 68 else if scan1 [root] l = 0 then scan2 (root :: l) l else scan1 [root] l

theorem up_size (s : ByteArray) : (upS s).size ≤ s.size + 1 := by
  unfold upS
  split
  · exact Nat.le_add_left _ _
  · simp; omega
theorem alloc_size (w : World) (o : Obj) : (w.alloc o).heap.size = w.heap.size + 1 := Array.size_push _
theorem MapAt.made (w : World) : MapAt (w.alloc (.map #[] 0)) w.heap.size [] := by
  refine ⟨0, _, World.ownsMap_made w _ _ _, Nat.le_refl _, fun p => ⟨rfl, rfl⟩⟩

/-- Only new things are turned. -/
theorem _root_.Go.Proofs.YtlkacodngjdagaaDoor.Ev.Only.below2 {S : Nat → Prop} {w w1 w2 : World} (h : Only S w1 w2) (hb : Below w.heap.size w w1) (hS : ∀ k, S k → w.heap.size ≤ k) : Below w.heap.size w w2 := below_only hb h hS

section
variable {P : Program} {ops : Array Oper} {rest : List Oper} {o : Oper} {a : Act} {Q : Exit → Act → World → Prop} {Kc : Act → World → Prop}
theorem run_mapUpdate {W W' : World} {t : TypeId} {m x y : Operand} (ho : o.op = .mapUpdate t m x y) {vm vx vy : Value} (hm : a.eval m = vm) (hx : a.eval x = vx) (hy : a.eval y = vy) (hr : (Instr.mapUpdate t vm vx vy).run P W = .ok () W') : (execOp a.eval o).run P W = .ok .skip W' := by
  simp [execOp, ho, hm, hx, hy, hr]
theorem run_insert {W W' : World} {t : TypeId} {m x y : Operand} (ho : o.op = .insert t m x y) {vm vx vy : Value} (hm : a.eval m = vm) (hx : a.eval x = vx) (hy : a.eval y = vy) (hr : (Instr.mapUpdate t vm vx vy).run P W = .ok () W') : (execOp a.eval o).run P W = .ok .skip W' := by
  simp [execOp, ho, hm, hx, hy, hr]
theorem ev_insert {W : World} (hgd : Region.wanted o (yielded ops a.tmps) = true) (hdst : o.dst = none) (t : TypeId) (m x y : Operand) (ho : o.op = .insert t m x y) (vm vx vy : Value) (hm : a.eval m = vm) (hx : a.eval x = vx) (hy : a.eval y = vy) {W' : World} (hr : (Instr.mapUpdate t vm vx vy).run P W = .ok () W') (h : wpList P ops Q rest a W') : wpList P ops Q (o :: rest) a W := by
  refine wpList_want hgd fun K hK => ?_
  unfold Oper.wp
  rw [run_insert ho hm hx hy hr]
  show K (a.put o.dst undef) _
  rw [hdst]
  exact hK _ _ h
theorem step_mapUpdate {W : World} (hgd : Region.wanted o (yielded ops a.tmps) = true) (hdst : o.dst = none) (t : TypeId) (m x y : Operand) (ho : o.op = .mapUpdate t m x y) (vm vx vy : Value) (hm : a.eval m = vm) (hx : a.eval x = vx) (hy : a.eval y = vy) {W' : World} (hr : (Instr.mapUpdate t vm vx vy).run P W = .ok () W') (h : Kc a W') : if Region.wanted o (yielded ops a.tmps) = true then Oper.wp P o a W Kc Q else Kc (a.put o.dst undef) W := by
  rw [if_pos hgd]
  unfold Oper.wp
  rw [run_mapUpdate ho hm hx hy hr]
  show Kc (a.put o.dst undef) _
  rw [hdst]
  exact h
theorem step_store_cell {W : World} (hgd : Region.wanted o (yielded ops a.tmps) = true) (hdst : o.dst = none) (g j : Nat) (v : Value)
    {C : Array Value} {t : TypeId} (hb : W.heap[g]? = some (.cells C t (0, 0))) (hst : (execOp a.eval o).run P W = .ok .skip (W.setCell ⟨g, j, none⟩ v))
    (h : ∀ w1, w1.heap[g]? = some (.cells (C.setIfInBounds j v) t (0, 0)) → Only (· = g) W w1 → Kc a w1) : if Region.wanted o (yielded ops a.tmps) = true then Oper.wp P o a W Kc Q else Kc (a.put o.dst undef) W := by
  rw [if_pos hgd]
  unfold Oper.wp
  rw [hst]
  show Kc (a.put o.dst undef) _
  rw [hdst]
  exact h _ (blk_set hb j v) (only_setCell W g j v)
end

theorem getD_in {α : Type} {l : List α} {k : Nat} (hk : k < l.length) (d : α) : l.getD k d ∈ l := by
  rw [List.getD_eq_getElem?_getD, List.getElem?_eq_getElem hk]
  exact List.getElem_mem hk
theorem node_at {w : World} {A : Option Addr} {n : Nat} {xs : List Nd} (h : kNd.C w A n xs) (k : Nat) (hk : k < n) :
    ∃ (x : Nd) (ad : Addr) (A2 : Option Addr) (c2 : Nat), A = some ad ∧ xs.drop k = x :: xs.drop (k + 1) ∧ x ∈ xs ∧ w.cell? (ad.add (k * 4)) = some (.string x.f0) ∧ w.cell? ⟨(ad.add (k * 4)).block, (ad.add (k * 4)).off + 1, none⟩ = some (.int .i64 x.f1) ∧ w.cell? ⟨(ad.add (k * 4)).block, (ad.add (k * 4)).off + 2, none⟩ = some (.slice A2 x.f2.length c2) ∧ w.cell? ⟨(ad.add (k * 4)).block, (ad.add (k * 4)).off + 3, none⟩ = some (.string x.f3) ∧ x.f2.length ≤ c2 ∧ (Kd.int .u8).C w A2 x.f2.length x.f2 := by
  have hl : xs.length = n := h.1
  obtain ⟨ad, A2, c2, rfl, x0, x1, x2, x3, l2, g2⟩ := at_T34 h (k : Int) (by omega) (by omega)
  rw [Int.toNat_natCast] at x0 x1 x2 x3
  exact ⟨_, ad, A2, c2, rfl, drop_at xs k (by omega) _, getD_in (by omega) _, x0, x1, x2, x3, l2, g2⟩

end Go.Proofs.YtlkacodngjdagaaDoor.Vfs
