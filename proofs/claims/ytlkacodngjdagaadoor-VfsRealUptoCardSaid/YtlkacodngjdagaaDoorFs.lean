/- A file system in memory: its nodes' row, the map from paths to numbers. -/
import Derived.Test.YtlkacodngjdagaaDoorFits
import Derived.Maps.OwnSet
import Derived.StringKeys
import Derived.Deep.RegionHeld3
import Derived.Deep.CutRange
namespace Go.Proofs.YtlkacodngjdagaaDoor.Vfs
open Go Go.Maps Go.WideMaps Go.RowKit Go.Proofs.YtlkacodngjdagaaDoorW.PrintWords Go.Proofs.YtlkacodngjdagaaDoor.Kinds Go.Proofs.YtlkacodngjdagaaDoor.Str Go.Proofs.YtlkacodngjdagaaDoor.Ev Go.Proofs.YtlkacodngjdagaaDoor.Frame
set_option linter.unusedVariables false

abbrev Nd := S34
abbrev kNd := k34

/-- The number of the first node of a path. -/
def idxOf (ns : List Nd) (p : ByteArray) : Option Nat := ns.findIdx? (fun n => decide (n.f0 = p))
theorem idxOf_lt {ns : List Nd} {p : ByteArray} {i : Nat} (h : idxOf ns p = some i) : i < ns.length := (List.findIdx?_eq_some_iff_findIdx_eq.1 h).1
theorem idxOf_at {ns : List Nd} {p : ByteArray} {i : Nat} (h : idxOf ns p = some i) : ∃ x, ns[i]? = some x ∧ x.f0 = p := by
  unfold idxOf at h
  obtain ⟨h1, h2, h3⟩ := List.findIdx?_eq_some_iff_getElem.1 h
  exact ⟨ns[i], List.getElem?_eq_getElem h1, by simpa using h2⟩
theorem idxOf_snoc {ns : List Nd} {x : Nd} (h : idxOf ns x.f0 = none) (p : ByteArray) : idxOf (ns ++ [x]) p = if x.f0 = p then some ns.length else idxOf ns p := by
  unfold idxOf at *
  rw [List.findIdx?_append]
  split
  · rename_i hp
    subst hp
    rw [h]
    simp [List.findIdx?_cons]
  · rename_i hp
    simp [List.findIdx?_cons, hp]

/-- The map in block m tells each node's number. -/
def MapAt (w : World) (m : Nat) (ns : List Nd) : Prop :=
  ∃ N D, w.ownsMap (H := Unit) Tryd.prog 9 (plainElem Tryd.prog 3) m N D ∧ N ≤ ns.length ∧
    ∀ p : ByteArray, Maps.has D (.string p.data.toList) = (idxOf ns p).isSome ∧ D.atKey (.string p.data.toList) (.lit (.int .i64 0)) = .lit (.int .i64 ((idxOf ns p).getD 0 : Nat))
theorem keyed : Keyed Tryd.prog 9 := string_keyed Tryd.underlying9
theorem zeroI (w : World) : (zeroValue 3).run Tryd.prog w = .ok (.int .i64 0) w := by kernel_rfl
theorem MapAt.same {w w1 : World} {m : Nat} {ns : List Nd} (h : MapAt w m ns) (hb : w1.heap[m]? = w.heap[m]?) : MapAt w1 m ns := by
  obtain ⟨N, D, ⟨es, clock, h1, r⟩, hn, hp⟩ := h
  exact ⟨N, D, ⟨es, clock, hb.trans h1, r⟩, hn, hp⟩
theorem MapAt.lt {w : World} {m : Nat} {ns : List Nd} (h : MapAt w m ns) : m < w.heap.size := by
  obtain ⟨N, D, h, _⟩ := h
  exact h.lt
theorem MapAt.below {w w1 : World} {m : Nat} {ns : List Nd} (h : MapAt w m ns) (hb : Below w.heap.size w w1) : MapAt w1 m ns := h.same (hb.block m h.lt)
theorem MapAt.only {S : Nat → Prop} {w w1 : World} {m : Nat} {ns : List Nd} (h : MapAt w m ns) (hb : Only S w w1) (hS : ¬ S m) : MapAt w1 m ns := h.same (hb.block m h.lt hS)
theorem MapAt.look {w : World} {m : Nat} {ns : List Nd} (h : MapAt w m ns) (p : ByteArray) (hp : p.size ≤ 4294967281) :
    (Instr.lookup 51 (.map (some m)) (.string p) true).run Tryd.prog w = .ok (.tuple #[.int .i64 ((idxOf ns p).getD 0 : Nat), .bool (idxOf ns p).isSome]) w := by
  obtain ⟨N, D, h, hn, hl⟩ := h
  obtain ⟨h1, h2⟩ := hl p
  obtain ⟨v, ps, hr, hv⟩ := h.look_ok keyed Tryd.underlying51 (zeroI w) (zd := .lit (.int .i64 0)) (zp := []) (plainElem_int Tryd.underlying3 (by decide)) (keyOf_string_mk Tryd.underlying9 (s := p) (by unfold maxLen; omega))
  obtain ⟨c, rfl, hc, _⟩ := plainElem_int_inv Tryd.underlying3 hv
  rw [h2] at hc
  simp only [Prod.mk.injEq, DataW.lit.injEq, Lit.int.injEq] at hc
  rw [hr, h1, ← hc.1.2]
theorem MapAt.look1 {w : World} {m : Nat} {ns : List Nd} (h : MapAt w m ns) (p : ByteArray) (hp : p.size ≤ 4294967281) :
    (Instr.lookup 51 (.map (some m)) (.string p) false).run Tryd.prog w = .ok (.int .i64 ((idxOf ns p).getD 0 : Nat)) w := by
  obtain ⟨N, D, h, hn, hl⟩ := h
  obtain ⟨h1, h2⟩ := hl p
  obtain ⟨c, hr, hc, _⟩ := h.lookup_int keyed Tryd.underlying51 Tryd.underlying3 (zeroI w) (keyOf_string_mk Tryd.underlying9 (s := p) (by unfold maxLen; omega))
  rw [h2] at hc
  simp only [DataW.lit.injEq, Lit.int.injEq] at hc
  rw [hr, ← hc.2]
theorem key_ne {p q : ByteArray} (h : p ≠ q) : (Lit.string p.data.toList) ≠ .string q.data.toList := fun e => by
  injection e with e
  exact h (ByteArray.ext (Array.ext' e))
theorem MapAt.put {w : World} {m : Nat} {ns : List Nd} (h : MapAt w m ns) (x : Nd) (hp : x.f0.size ≤ 4294967281) (hn : ns.length ≤ 1048577) (hx : idxOf ns x.f0 = none) :
    ∃ w', (Instr.mapUpdate 51 (.map (some m)) (.string x.f0) (.int .i64 (ns.length : Nat))).run Tryd.prog w = .ok () w' ∧ MapAt w' m (ns ++ [x]) ∧ Only (· = m) w w' := by
  obtain ⟨N, D, h, hN, hl⟩ := h
  obtain ⟨w', hr, ho, hg⟩ := h.update keyed Tryd.underlying51 (by unfold maxLen; omega) (keyOf_string_mk Tryd.underlying9 (s := x.f0) (by unfold maxLen; omega)) (plainElem_int Tryd.underlying3 (q := .i64) (a := ((ns.length : Nat) : Int)) (WalkArith.wf_i64 (by omega)))
  refine ⟨w', hr, ⟨N + 1, _, ho, by simp; omega, fun p => ?_⟩, (only_grown hg).mono (fun k hk => by injection hk)⟩
  rw [idxOf_snoc hx]
  by_cases hp2 : x.f0 = p
  · subst hp2
    rw [if_pos rfl]
    exact ⟨Maps.has_put_same h.isMap (k := .string x.f0.data.toList) trivial _, Maps.atKey_put_same h.isMap (k := .string x.f0.data.toList) trivial _ _⟩
  · rw [if_neg hp2, Maps.has_put_other (key_ne (Ne.symm hp2)), Maps.atKey_put_other (key_ne (Ne.symm hp2))]
    exact hl p

/-- The file system at block p: its nodes are ns. -/
def FSat (w : World) (lo p : Nat) (ns : List Nd) : Prop :=
  ∃ v m, w.heap[p]? = some (.cells #[v, .map (some m)] 53 (0, 0)) ∧ kNd.R 34 w lo (fun k => lo ≤ k ∧ k ≠ p ∧ k ≠ m) v ns ∧ MapAt w m ns ∧ lo ≤ p ∧ lo ≤ m ∧ p ≠ m
theorem FSat.step {w w1 : World} {lo p : Nat} {ns : List Nd} (h : FSat w lo p ns) (hk : ∀ k, lo ≤ k → k < w.heap.size → w1.heap[k]? = w.heap[k]?) : FSat w1 lo p ns := by
  obtain ⟨v, m, h1, h2, h3, h4, h5, h6⟩ := h
  exact ⟨v, m, (hk p h4 (blk_lt h1)).trans h1, Kd.R_step h2 (fun k ho hl => hk k ho.1 hl), h3.same (hk m h5 h3.lt), h4, h5, h6⟩
theorem FSat.below {w w1 : World} {lo p : Nat} {ns : List Nd} (h : FSat w lo p ns) (hb : Below w.heap.size w w1) : FSat w1 lo p ns := h.step (fun k _ hl => hb.block k hl)
theorem FSat.only {S : Nat → Prop} {w w1 : World} {lo p : Nat} {ns : List Nd} (h : FSat w lo p ns) (hb : Only S w w1) (hS : ∀ k, lo ≤ k → k < w.heap.size → ¬ S k) : FSat w1 lo p ns := h.step (fun k hk hl => hb.block k hl (hS k hk hl))

end Go.Proofs.YtlkacodngjdagaaDoor.Vfs
