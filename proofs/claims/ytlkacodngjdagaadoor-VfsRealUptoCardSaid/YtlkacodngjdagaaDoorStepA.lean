/- A file system that is only read; what one step of a walk answers. -/
import Derived.Test.YtlkacodngjdagaaDoorNew
namespace Go.Proofs.YtlkacodngjdagaaDoor.Vfs
open Go Go.Maps Go.WideMaps Go.RowKit Go.Proofs.YtlkacodngjdagaaDoorW.PrintWords Go.Proofs.YtlkacodngjdagaaDoor.Kinds Go.Proofs.YtlkacodngjdagaaDoor.Str Go.Proofs.YtlkacodngjdagaaDoor.Ev Go.Proofs.YtlkacodngjdagaaDoor.Frame
set_option linter.unusedVariables false

/-- The file system at block p, its blocks from lo on and below hi. -/
def FSR (w : World) (lo hi p : Nat) (ns : List Nd) : Prop :=
  ∃ v m, w.heap[p]? = some (.cells #[v, .map (some m)] 53 (0, 0)) ∧ kNd.R 34 w lo (fun k => lo ≤ k ∧ k < hi) v ns ∧ MapAt w m ns ∧ (lo ≤ p ∧ p < hi) ∧ (lo ≤ m ∧ m < hi)
theorem FSat.fsr {w : World} {lo p : Nat} {ns : List Nd} (h : FSat w lo p ns) : FSR w lo w.heap.size p ns := by
  obtain ⟨v, m, h1, h2, h3, h4, h5, h6⟩ := h
  exact ⟨v, m, h1, Kd.R_mono (Kd.R_bound h2) (fun k hk => ⟨hk.1.1, hk.2.2.1⟩), h3, ⟨h4, blk_lt h1⟩, ⟨h5, h3.lt⟩⟩
theorem FSR.step {w w1 : World} {lo hi p : Nat} {ns : List Nd} (h : FSR w lo hi p ns) (hk : ∀ k, lo ≤ k → k < hi → k < w.heap.size → w1.heap[k]? = w.heap[k]?) : FSR w1 lo hi p ns := by
  obtain ⟨v, m, h1, h2, h3, h4, h5⟩ := h
  exact ⟨v, m, (hk p h4.1 h4.2 (blk_lt h1)).trans h1, Kd.R_step h2 (fun k ho hl => hk k ho.1 ho.2 hl), h3.same (hk m h5.1 h5.2 h3.lt), h4, h5⟩
theorem FSR.only {S : Nat → Prop} {w w1 : World} {lo hi p : Nat} {ns : List Nd} (h : FSR w lo hi p ns) (hb : Only S w w1) (hS : ∀ k, lo ≤ k → k < hi → ¬ S k) : FSR w1 lo hi p ns := h.step (fun k hk hl hz => hb.block k hz (hS k hk hl))
theorem FSR.below {w w1 : World} {lo hi p : Nat} {ns : List Nd} (h : FSR w lo hi p ns) (hb : Below w.heap.size w w1) : FSR w1 lo hi p ns := h.step (fun k _ _ hl => hb.block k hl)
/-- What is read of it. -/
theorem FSR.read {w : World} {lo hi p : Nat} {ns : List Nd} (h : FSR w lo hi p ns) : ∃ A c m, w.heap[p]? = some (.cells #[.slice A ns.length c, .map (some m)] 53 (0, 0)) ∧ ns.length ≤ c ∧ kNd.C w A ns.length ns ∧ MapAt w m ns := by
  obtain ⟨v, m, h1, h2, h3, _⟩ := h
  obtain ⟨A, c, rfl, hc, hC⟩ := Kd.R_reads h2
  exact ⟨A, c, m, h1, hc, hC, h3⟩

/-- A row of texts that is read, whatever block q turns to. -/
def RestAt (w : World) (q : Nat) (A : Option Addr) (rest : List ByteArray) : Prop := ∀ w', Only (· = q) w w' → Kd.string.C w' A rest.length rest
theorem RestAt.step {w w1 : World} {q : Nat} {A : Option Addr} {rest : List ByteArray} (h : RestAt w q A rest) (k : Only (· = q) w w1) : RestAt w1 q A rest := fun w' hk => h w' (k.trans hk (fun i hi _ => hi))
theorem RestAt.now {w : World} {q : Nat} {A : Option Addr} {rest : List ByteArray} (h : RestAt w q A rest) : Kd.string.C w A rest.length rest := h w (Only.refl _ _)
theorem RestAt.of_R {w : World} {q : Nat} {A : Option Addr} {n c : Nat} {rest : List ByteArray} {base : Nat} {ok : Nat → Prop} (h : Kd.string.R 9 w base ok (.slice A n c) rest) (hq : ∀ k, ok k → k ≠ q) : RestAt w q A rest := fun w' hk =>
  (Kd.R_reads' (Kd.R_step h (w1 := w') (fun k ho hl => hk.block k hl (hq k ho)))).2.2
theorem RestAt.tail {w : World} {q c : Nat} {A : Option Addr} {x : ByteArray} {rest : List ByteArray} (h : RestAt w q A (x :: rest)) (hc : rest.length + 1 ≤ c) : RestAt w q (if c = 1 then A else A.map (·.add (1 * 1))) rest := fun w' hk => by
  have h1 := Kd.C_drop (m := 1) (h w' hk) (by simp) hc
  exact h1

def slash : ByteArray := ⟨#[47]⟩
def rel0 (dir lnk : ByteArray) : ByteArray := if rootedB lnk = true then ⟨#[47]⟩ else dir
/-- One step: the number, whether it is the end, the error, and where one is then. -/
def stepB (ns : List Nd) (dir p : ByteArray) (rest : List ByteArray) (hops : Nat) : (Nat × Bool × Int) × (ByteArray × List ByteArray × Nat) :=
  match idxOf ns p with
  | none => ((0, false, 63), (dir, rest, hops))
  | some i =>
    if (ns.getD i root).f1 = 1 then ((0, false, 0), (p, rest, hops))
    else if (ns.getD i root).f1 = 3 then
      (if 8 < hops + 1 then ((0, false, 64), (dir, rest, hops + 1)) else ((0, false, 0), (rel0 dir (ns.getD i root).f3, partsB (ns.getD i root).f3 ++ rest, hops + 1)))
    else if 0 < rest.length then ((0, false, 65), (dir, rest, hops)) else ((i, true, 0), (dir, rest, hops))
def walkCells (f : Nat) (dir : ByteArray) (A : Option Addr) (n c : Nat) (hops : Nat) : Array Value := #[.pointer (some ⟨f, 0, none⟩), .string dir, .slice A n c, .int .i64 hops]
theorem walk_at {w : World} {q f n c hops : Nat} {dir : ByteArray} {A : Option Addr} {t : TypeId} {fr : Nat × Nat} (h : w.heap[q]? = some (.cells (walkCells f dir A n c hops) t fr)) :
    w.cell? ⟨q, 0, none⟩ = some (.pointer (some ⟨f, 0, none⟩)) ∧ w.cell? ⟨q, 1, none⟩ = some (.string dir) ∧ w.cell? ⟨q, 2, none⟩ = some (.slice A n c) ∧ w.cell? ⟨q, 3, none⟩ = some (.int .i64 hops) :=
  ⟨cell_blk h rfl, cell_blk h rfl, cell_blk h rfl, cell_blk h rfl⟩
theorem _root_.Go.Proofs.YtlkacodngjdagaaDoor.Str.Mx.walk {w w1 : World} {q f n c hops : Nat} {dir : ByteArray} {A : Option Addr} {t : TypeId} {fr : Nat × Nat} (h : Mx w) (k : Only (· = q) w w1) (hq : w.heap[q]? = some (.cells (walkCells f dir A n c hops) t fr)) : Mx w1 := by
  obtain ⟨m, hm⟩ := h
  have hlt := World.block_lt_of_cell? w _ hm
  by_cases e : 0 = q
  · have h0 := (walk_at hq).1
    subst e
    rw [h0] at hm
    cases hm
  · refine ⟨m, ?_⟩
    have hb := k.block 0 hlt e
    simpa [World.cell?, hb] using hm
/-- What is known of the nodes. -/
def Fit (ns : List Nd) : Prop := ∀ x ∈ ns, x.f0.size < 1048577 ∧ x.f3.size < 1048577 ∧ (x.f1 = 3 → 0 < x.f3.size)
def StepPost (w : World) (f q : Nat) (s : (Nat × Bool × Int) × (ByteArray × List ByteArray × Nat)) (e : Ending) (w' : World) : Prop :=
  e = .returned (.tuple #[.int .i64 s.1.1, .bool s.1.2.1, .int .i64 s.1.2.2]) ∧ Only (· = q) w w' ∧ ∃ A c, w'.heap[q]? = some (.cells (walkCells f s.2.1 A s.2.2.1.length c s.2.2.2) 62 (0, 0)) ∧ s.2.2.1.length ≤ c ∧ RestAt w' q A s.2.2.1

end Go.Proofs.YtlkacodngjdagaaDoor.Vfs
