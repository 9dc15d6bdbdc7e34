/- Where a path leads: by plain functions of the nodes. -/
import Derived.Test.YtlkacodngjdagaaDoorStep
namespace Go.Proofs.YtlkacodngjdagaaDoor.Vfs
open Go Go.Maps Go.WideMaps Go.RowKit Go.Proofs.YtlkacodngjdagaaDoorW.PrintWords Go.Proofs.YtlkacodngjdagaaDoor.Kinds Go.Proofs.YtlkacodngjdagaaDoor.Str Go.Proofs.YtlkacodngjdagaaDoor.Ev Go.Proofs.YtlkacodngjdagaaDoor.Frame
set_option linter.unusedVariables false

/-- A step that goes on goes down. -/
theorem stepB_less (ns : List Nd) (dir p : ByteArray) (rest : List ByteArray) (hops : Nat) (h1 : (stepB ns dir p rest hops).1.2.2 = 0) (h2 : (stepB ns dir p rest hops).1.2.1 = false) :
    ((stepB ns dir p rest hops).2.2.2 = hops ∧ (stepB ns dir p rest hops).2.2.1 = rest) ∨ (hops + 1 ≤ 8 ∧ (stepB ns dir p rest hops).2.2.2 = hops + 1 ∧ ∃ i, idxOf ns p = some i ∧ (stepB ns dir p rest hops).2.2.1 = partsB (ns.getD i root).f3 ++ rest) := by
  unfold stepB at h1 h2 ⊢
  cases h : idxOf ns p with
  | none => rw [h] at h1; exact absurd (show (63 : Int) = 0 from h1) (by decide)
  | some i =>
    rw [h] at h1 h2
    simp only at h1 h2 ⊢
    split
    · exact .inl ⟨rfl, rfl⟩
    · rename_i k1
      rw [if_neg k1] at h1 h2
      split
      · rename_i k3
        rw [if_pos k3] at h1 h2
        split
        · rename_i h8
          rw [if_pos h8] at h1
          exact absurd (show (64 : Int) = 0 from h1) (by decide)
        · exact .inr ⟨by omega, rfl, i, rfl, rfl⟩
      · rename_i k3
        rw [if_neg k3] at h1 h2
        split
        · rename_i h0
          rw [if_pos h0] at h1
          exact absurd (show (65 : Int) = 0 from h1) (by decide)
        · rename_i h0
          rw [if_neg h0] at h2
          exact absurd (show true = false from h2) (by decide)

def resB (ns : List Nd) (dir : ByteArray) (rest : List ByteArray) (hops : Nat) : Nat × ByteArray × Int :=
  match rest with
  | [] => ((idxOf ns dir).getD 0, dir, 0)
  | name :: r =>
    if name.toList = [46, 46] then resB ns (upS dir) r hops
    else if h1 : (stepB ns dir (belowB dir name) r hops).1.2.2 = 0 then
      (if h2 : (stepB ns dir (belowB dir name) r hops).1.2.1 = false then
        resB ns (stepB ns dir (belowB dir name) r hops).2.1 (stepB ns dir (belowB dir name) r hops).2.2.1 (stepB ns dir (belowB dir name) r hops).2.2.2
      else ((stepB ns dir (belowB dir name) r hops).1.1, (ns.getD (stepB ns dir (belowB dir name) r hops).1.1 root).f0, 0))
    else (0, ⟨#[]⟩, (stepB ns dir (belowB dir name) r hops).1.2.2)
termination_by (9 - hops, rest.length)
decreasing_by
  · exact Prod.Lex.right _ (by simp)
  · rcases stepB_less ns dir (belowB dir name) r hops h1 h2 with ⟨e1, e2⟩ | ⟨h8, e1, _⟩
    · rw [e1, e2]
      exact Prod.Lex.right _ (by simp)
    · rw [e1]
      exact Prod.Lex.left _ _ (by omega)
theorem resB_nil (ns : List Nd) (dir : ByteArray) (hops : Nat) : resB ns dir [] hops = ((idxOf ns dir).getD 0, dir, 0) := by rw [resB]
theorem resB_cons (ns : List Nd) (dir name : ByteArray) (r : List ByteArray) (hops : Nat) : resB ns dir (name :: r) hops =
    if name.toList = [46, 46] then resB ns (upS dir) r hops
    else if (stepB ns dir (belowB dir name) r hops).1.2.2 = 0 then
      (if (stepB ns dir (belowB dir name) r hops).1.2.1 = false then
        resB ns (stepB ns dir (belowB dir name) r hops).2.1 (stepB ns dir (belowB dir name) r hops).2.2.1 (stepB ns dir (belowB dir name) r hops).2.2.2
      else ((stepB ns dir (belowB dir name) r hops).1.1, (ns.getD (stepB ns dir (belowB dir name) r hops).1.1 root).f0, 0))
    else (0, ⟨#[]⟩, (stepB ns dir (belowB dir name) r hops).1.2.2) := by
  rw [resB]
  simp only [dite_eq_ite]
def resolveB (ns : List Nd) (p : ByteArray) : Nat × ByteArray × Int := if (cleanB p).2 = 0 then resB ns ⟨#[47]⟩ (partsB p) 0 else (0, ⟨#[]⟩, (cleanB p).2)

/-- How much of the way is left. -/
def msr (q : Nat) (w : World) : Nat := match w.heap[q]? with
  | some (.cells cs _ _) => match cs.toList with
    | [_, _, .slice _ n _, .int _ h] => (9 - h.toNat) * 16777216 + n
    | _ => 0
  | _ => 0
theorem msr_at {w : World} {q f n c hops : Nat} {dir : ByteArray} {A : Option Addr} {t : TypeId} {fr : Nat × Nat} (h : w.heap[q]? = some (.cells (walkCells f dir A n c hops) t fr)) : msr q w = (9 - hops) * 16777216 + n := by
  unfold msr
  rw [h]
  simp [walkCells]

theorem upS_le (s : ByteArray) : (upS s).size ≤ s.size ∨ (upS s).size = 1 := by
  unfold upS
  split
  · exact .inr rfl
  · left; simp; omega
theorem parts_length (s : ByteArray) : (partsB s).length ≤ s.size + 1 := by
  have h1 := List.length_filter_le keepB (splitS s)
  have h2 := splitS_length s
  have h3 := count_small s
  unfold partsB
  omega
theorem parts_size (s x : ByteArray) (h : x ∈ partsB s) : x.size ≤ s.size := split_size _ _ _ _ (List.mem_filter.1 h).1
theorem below_size (dir name : ByteArray) : (belowB dir name).size ≤ dir.size + name.size + 1 := by
  have h1 := slash_size
  unfold belowB
  split <;> simp only [ByteArray.size_append, h1] <;> omega
/-- Where a walk is stays short. -/
theorem stepB_dir (ns : List Nd) (hW : Fit ns) (dir p : ByteArray) (rest : List ByteArray) (hops : Nat) (hd : dir.size ≤ 1048577) : (stepB ns dir p rest hops).2.1.size ≤ 1048577 := by
  unfold stepB
  cases h : idxOf ns p with
  | none => exact hd
  | some i =>
    obtain ⟨x, hx, he⟩ := idxOf_at h
    have hp : p.size ≤ 1048577 := by rw [← he]; have := (hW x (List.mem_of_getElem? hx)).1; omega
    simp only
    split
    · exact hp
    · split
      · split
        · exact hd
        · show (rel0 _ _).size ≤ _
          unfold rel0
          split
          · exact (by decide : (1 : Nat) ≤ 1048577)
          · exact hd
      · split
        · exact hd
        · exact hd

theorem stepB_done (ns : List Nd) (dir p : ByteArray) (rest : List ByteArray) (hops : Nat) (h : (stepB ns dir p rest hops).1.2.1 = true) : idxOf ns p = some (stepB ns dir p rest hops).1.1 := by
  unfold stepB at h ⊢
  cases hi : idxOf ns p with
  | none => rw [hi] at h; exact absurd (show false = true from h) (by decide)
  | some i =>
    rw [hi] at h
    simp only at h ⊢
    by_cases k1 : (ns.getD i root).f1 = 1
    · rw [if_pos k1] at h; exact absurd (show false = true from h) (by decide)
    · rw [if_neg k1] at h ⊢
      by_cases k3 : (ns.getD i root).f1 = 3
      · rw [if_pos k3] at h
        split at h <;> exact absurd (show false = true from h) (by decide)
      · rw [if_neg k3] at h ⊢
        split at h
        · exact absurd (show false = true from h) (by decide)
        · rename_i h0
          rw [if_neg h0]
theorem stepB_keep (ns : List Nd) (hW : Fit ns) (dir p : ByteArray) (r : List ByteArray) (hops : Nat) (h1 : (stepB ns dir p r hops).1.2.2 = 0) (h2 : (stepB ns dir p r hops).1.2.1 = false)
    (hx : ∀ x ∈ r, x.size ≤ 1048577) (hh : hops ≤ 8) (hl : r.length + 1 ≤ (hops + 1) * 1048579) :
    (∀ x ∈ (stepB ns dir p r hops).2.2.1, x.size ≤ 1048577) ∧ (stepB ns dir p r hops).2.2.2 ≤ 8 ∧ (stepB ns dir p r hops).2.2.1.length ≤ ((stepB ns dir p r hops).2.2.2 + 1) * 1048579 ∧
      (9 - (stepB ns dir p r hops).2.2.2) * 16777216 + (stepB ns dir p r hops).2.2.1.length < (9 - hops) * 16777216 + (r.length + 1) := by
  rcases stepB_less ns dir p r hops h1 h2 with ⟨e1, e2⟩ | ⟨h8, e1, i, hi, e2⟩
  · rw [e1, e2]
    exact ⟨hx, hh, by omega, by omega⟩
  · have hm := hW _ (getD_in (idxOf_lt hi) root)
    have hpl := parts_length (ns.getD i root).f3
    rw [e1, e2, List.length_append]
    refine ⟨fun x hxm => ?_, h8, by omega, by omega⟩
    rcases List.mem_append.1 hxm with h | h
    · have := parts_size _ x h; omega
    · exact hx x h

end Go.Proofs.YtlkacodngjdagaaDoor.Vfs
