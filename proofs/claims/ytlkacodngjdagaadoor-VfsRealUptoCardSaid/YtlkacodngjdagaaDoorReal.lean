/- Where a path leads has a path of its own, which leads there: in plain words. -/
import Derived.Test.YtlkacodngjdagaaDoorPure
namespace Go.Proofs.YtlkacodngjdagaaDoor.Pure
open Go Go.Proofs.YtlkacodngjdagaaDoor.Str Go.Proofs.YtlkacodngjdagaaDoor.Vfs
set_option linter.unusedVariables false

theorem scan1_fits : ∀ (l ns : List Nd), scan1 ns l = 0 → ∀ x ∈ l, fitsB x = 0
  | [], _, _, x, hx => by cases hx
  | y :: r, ns, h, x, hx => by
    rw [scan1_cons] at h
    by_cases hy : fitsB y = 0
    · rw [if_pos hy] at h
      rcases List.mem_cons.1 hx with rfl | hx
      · exact hy
      · split at h
        · exact absurd h (by decide)
        · exact scan1_fits r _ h x hx
    · rw [if_neg hy] at h
      exact absurd h hy
theorem scan2_dirs (ns : List Nd) : ∀ (l : List Nd), scan2 ns l = 0 → ∀ x ∈ l, dirAt ns (upS x.f0) = true
  | [], _, x, hx => by cases hx
  | y :: r, h, x, hx => by
    rw [scan2_cons] at h
    by_cases hy : dirAt ns (upS y.f0) = true
    · rw [if_pos hy] at h
      rcases List.mem_cons.1 hx with rfl | hx
      · exact hy
      · exact scan2_dirs ns r h x hx
    · rw [if_neg hy] at h
      exact absurd h (by decide)
/-- A file system as New makes it. -/
structure Sound (l : List Nd) : Prop where
  fits : ∀ x ∈ l, fitsB x = 0
  dirs : ∀ x ∈ l, dirAt (root :: l) (upS x.f0) = true
theorem sound_of {l : List Nd} (h : newB l = 0) : Sound l := by
  unfold newB at h
  split at h
  · exact absurd h (by decide)
  · split at h
    · rename_i h1
      exact ⟨scan1_fits _ _ h1, scan2_dirs _ _ h⟩
    · rename_i h1
      exact absurd h h1
theorem fits_clean {x : Nd} (h : fitsB x = 0) : isCleanB x.f0 = true ∧ ¬ x.f0.toList = [47] ∧ (x.f1 = 3 → ¬ x.f3.toList = []) := by
  unfold fitsB at h
  by_cases h1 : isCleanB x.f0 = true
  · rw [if_pos h1] at h
    by_cases h2 : x.f0.toList = [47]
    · rw [if_pos h2] at h; exact absurd h (by decide)
    · refine ⟨h1, h2, fun h3 he => ?_⟩
      rw [if_neg h2, if_neg (by omega), if_neg (by omega), if_pos h3, if_pos (.inr he)] at h
      exact absurd h (by decide)
  · rw [if_neg h1] at h; exact absurd h (by decide)
theorem dirAt_iff {ns : List Nd} {p : ByteArray} : dirAt ns p = true ↔ ∃ i, idxOf ns p = some i ∧ (ns.getD i root).f1 = 1 := by
  unfold dirAt
  cases h : idxOf ns p with
  | none => simp
  | some i => simp
theorem idx_root (l : List Nd) : idxOf (root :: l) ⟨#[47]⟩ = some 0 := by
  unfold idxOf
  rw [List.findIdx?_cons]
  simp [root]
theorem dirAt_root (l : List Nd) : dirAt (root :: l) ⟨#[47]⟩ = true := dirAt_iff.2 ⟨0, idx_root l, rfl⟩
theorem idx_node {ns : List Nd} {p : ByteArray} {i : Nat} (h : idxOf ns p = some i) : ns.getD i root ∈ ns ∧ (ns.getD i root).f0 = p := by
  obtain ⟨x, hx, he⟩ := idxOf_at h
  rw [List.getD_eq_getElem?_getD, hx]
  exact ⟨List.mem_of_getElem? hx, he⟩
theorem up_dir {l : List Nd} (hS : Sound l) {p : ByteArray} {i : Nat} (h : idxOf (root :: l) p = some i) : dirAt (root :: l) (upS p) = true := by
  obtain ⟨hm, he⟩ := idx_node h
  rw [← he]
  rcases List.mem_cons.1 hm with h1 | h1
  · rw [h1]
    show dirAt (root :: l) (upS ⟨#[47]⟩) = true
    rw [up_root]
    exact dirAt_root l
  · exact hS.dirs _ h1

theorem stepB_kind1 {ns : List Nd} {dir p : ByteArray} {rest : List ByteArray} {hops i : Nat} (h : idxOf ns p = some i) (hk : (ns.getD i root).f1 = 1) : stepB ns dir p rest hops = ((0, false, 0), (p, rest, hops)) := by
  unfold stepB
  rw [h]
  simp only
  rw [if_pos hk]
theorem stepB_file {ns : List Nd} {dir p : ByteArray} {hops i : Nat} (h : idxOf ns p = some i) (hk : ¬ (ns.getD i root).f1 = 1) (hk3 : ¬ (ns.getD i root).f1 = 3) : stepB ns dir p [] hops = ((i, true, 0), (dir, [], hops)) := by
  unfold stepB
  rw [h]
  simp only
  rw [if_neg hk, if_neg hk3, if_neg (by simp)]

theorem ne_root (ps : List ByteArray) (n : ByteArray) (h : ∀ x ∈ ps ++ [n], NameB x) : joinB (ps ++ [n]) ≠ ⟨#[47]⟩ := by
  intro e
  have h1 := parts_join h
  rw [e, ← joinB_nil, parts_join (fun x hx => by cases hx)] at h1
  simp at h1
/-- Down a path of folders. -/
theorem go_down {l : List Nd} (hS : Sound l) : ∀ (k : Nat) (qs : List ByteArray), qs.length = k → (∀ x ∈ qs, NameB x) → dirAt (root :: l) (joinB qs) = true → ∀ rest, resB (root :: l) ⟨#[47]⟩ (qs ++ rest) 0 = resB (root :: l) (joinB qs) rest 0
  | 0, qs, hk, _, _, rest => by
    obtain rfl := List.eq_nil_of_length_eq_zero hk
    rw [joinB_nil]
    rfl
  | k + 1, qs, hk, hn, hd, rest => by
    have hne : qs ≠ [] := fun e => by rw [e] at hk; cases hk
    obtain ⟨ps, n, rfl⟩ : ∃ ps n, qs = ps ++ [n] := ⟨qs.dropLast, qs.getLast hne, (List.dropLast_concat_getLast hne).symm⟩
    obtain ⟨i, hi, h1⟩ := dirAt_iff.1 hd
    have hnn := hn n (by simp)
    have hps : ∀ x ∈ ps, NameB x := fun x hx => hn x (by simp [hx])
    have hup := up_dir hS hi
    rw [up_join ps n hnn] at hup
    have ih := go_down hS k ps (by simpa using hk) hps hup (n :: rest)
    rw [List.append_assoc, List.singleton_append, ih, resB_cons, if_neg (by rw [Lib.toList_data]; exact hnn.2), below_join ps n hps, stepB_kind1 hi h1]
    rfl

/-- What a way comes to. -/
def Come (ns : List Nd) (r : Nat × ByteArray × Int) : Prop := r.2.2 = 0 → idxOf ns r.2.1 = some r.1 ∧ ¬ (ns.getD r.1 root).f1 = 3
theorem step_dir {l : List Nd} {dir p : ByteArray} {rest : List ByteArray} {hops : Nat} (hd : dirAt (root :: l) dir = true) : dirAt (root :: l) (stepB (root :: l) dir p rest hops).2.1 = true := by
  unfold stepB
  cases h : idxOf (root :: l) p with
  | none => exact hd
  | some i =>
    simp only
    split
    · rename_i h1
      exact dirAt_iff.2 ⟨i, h, h1⟩
    · split
      · split
        · exact hd
        · unfold rel0
          split
          · exact dirAt_root l
          · exact hd
      · split <;> exact hd
theorem step_done {ns : List Nd} {dir p : ByteArray} {rest : List ByteArray} {hops : Nat} (h : (stepB ns dir p rest hops).1.2.1 = true) : idxOf ns p = some (stepB ns dir p rest hops).1.1 ∧ ¬ (ns.getD (stepB ns dir p rest hops).1.1 root).f1 = 3 := by
  refine ⟨stepB_done ns dir p rest hops h, fun h3 => ?_⟩
  have hi := stepB_done ns dir p rest hops h
  generalize hi' : (stepB ns dir p rest hops).1.1 = i at *
  unfold stepB at h
  rw [hi] at h
  simp only at h
  rw [if_neg (by omega), if_pos h3] at h
  split at h <;> exact absurd (show false = true from h) (by decide)
theorem come (l : List Nd) (hS : Sound l) : ∀ (dir : ByteArray) (rest : List ByteArray) (hops : Nat), dirAt (root :: l) dir = true → Come (root :: l) (resB (root :: l) dir rest hops) := by
  intro dir rest hops
  induction dir, rest, hops using resB.induct (root :: l) with
  | case1 dir hops =>
    intro hd
    rw [resB_nil]
    obtain ⟨i, hi, h1⟩ := dirAt_iff.1 hd
    intro _
    have e : (idxOf (root :: l) dir).getD 0 = i := by rw [hi]; rfl
    refine ⟨?_, ?_⟩
    · show idxOf (root :: l) dir = some ((idxOf (root :: l) dir).getD 0)
      rw [e, hi]
    · show ¬ ((root :: l).getD ((idxOf (root :: l) dir).getD 0) root).f1 = 3
      rw [e]
      omega
  | case2 dir hops name r h ih =>
    intro hd
    rw [resB_cons, if_pos h]
    obtain ⟨i, hi, h1⟩ := dirAt_iff.1 hd
    exact ih (up_dir hS hi)
  | case3 dir hops name r h h1 h2 ih =>
    intro hd
    rw [resB_cons, if_neg h, if_pos h1, if_pos h2]
    exact ih (step_dir hd)
  | case4 dir hops name r h h1 h2 =>
    intro hd
    rw [resB_cons, if_neg h, if_pos h1, if_neg h2]
    intro _
    obtain ⟨h3, h4⟩ := step_done (ns := root :: l) (dir := dir) (p := belowB dir name) (rest := r) (hops := hops) (by simpa using h2)
    refine ⟨?_, h4⟩
    show idxOf (root :: l) ((root :: l).getD _ root).f0 = _
    rw [(idx_node h3).2]
    exact h3
  | case5 dir hops name r h h1 =>
    intro hd
    rw [resB_cons, if_neg h, if_neg h1]
    intro e
    exact absurd e h1
/-- What is refused leads nowhere. -/
theorem resB_err (ns : List Nd) : ∀ (dir : ByteArray) (rest : List ByteArray) (hops : Nat), ¬ (resB ns dir rest hops).2.2 = 0 → (resB ns dir rest hops).1 = 0 ∧ (resB ns dir rest hops).2.1 = ⟨#[]⟩ := by
  intro dir rest hops
  induction dir, rest, hops using resB.induct ns with
  | case1 dir hops => rw [resB_nil]; intro h; exact absurd rfl h
  | case2 dir hops name r h ih => rw [resB_cons, if_pos h]; exact ih
  | case3 dir hops name r h h1 h2 ih => rw [resB_cons, if_neg h, if_pos h1, if_pos h2]; exact ih
  | case4 dir hops name r h h1 h2 => rw [resB_cons, if_neg h, if_pos h1, if_neg h2]; intro e; exact absurd rfl e
  | case5 dir hops name r h h1 => rw [resB_cons, if_neg h, if_neg h1]; intro _; exact ⟨rfl, rfl⟩
theorem resolve_err {ns : List Nd} {p : ByteArray} (h : ¬ (resolveB ns p).2.2 = 0) : (resolveB ns p).1 = 0 ∧ (resolveB ns p).2.1 = ⟨#[]⟩ := by
  unfold resolveB at *
  split
  · rename_i h1
    rw [if_pos h1] at h
    exact resB_err _ _ _ _ h
  · exact ⟨rfl, rfl⟩

/-- A node that is no link is led to by its own path. -/
theorem own_path {l : List Nd} (hS : Sound l) {q : ByteArray} {i : Nat} (h : idxOf (root :: l) q = some i) (h3 : ¬ ((root :: l).getD i root).f1 = 3) : resolveB (root :: l) q = (i, q, 0) := by
  obtain ⟨hm, he⟩ := idx_node h
  rcases List.mem_cons.1 hm with h1 | h1
  · rw [h1] at he
    have hq : q = ⟨#[47]⟩ := he.symm
    subst hq
    rw [idx_root] at h
    injection h with h
    subst h
    unfold resolveB
    rw [if_pos (by decide +kernel), show partsB ⟨#[47]⟩ = [] by decide +kernel, resB_nil, idx_root]
    rfl
  · obtain ⟨hc, hr, _⟩ := fits_clean (hS.fits _ h1)
    rw [he] at hc hr
    obtain ⟨hc0, hj, hn⟩ := clean_path hc
    unfold resolveB
    rw [if_pos hc0]
    have hne : partsB q ≠ [] := fun e => by
      rw [e, joinB_nil] at hj
      rw [← hj] at hr
      exact hr (by rw [Lib.toList_data])
    obtain ⟨ps, n, hpn⟩ : ∃ ps n, partsB q = ps ++ [n] := ⟨(partsB q).dropLast, (partsB q).getLast hne, (List.dropLast_concat_getLast hne).symm⟩
    rw [hpn] at hn hj ⊢
    have hnn := hn n (by simp)
    have hps : ∀ x ∈ ps, NameB x := fun x hx => hn x (by simp [hx])
    have hup := up_dir hS h
    rw [← hj, up_join ps n hnn] at hup
    rw [go_down hS ps.length ps rfl hps hup [n], resB_cons, if_neg (by rw [Lib.toList_data]; exact hnn.2), below_join ps n hps, hj]
    by_cases hk : ((root :: l).getD i root).f1 = 1
    · rw [stepB_kind1 h hk]
      show resB (root :: l) q [] 0 = _
      rw [resB_nil, h]
      rfl
    · rw [stepB_file h hk h3]
      show ((i, ((root :: l).getD i root).f0, 0) : Nat × ByteArray × Int) = _
      rw [he]
theorem resolve_idx {l : List Nd} (hS : Sound l) {p : ByteArray} (h : (resolveB (root :: l) p).2.2 = 0) : idxOf (root :: l) (resolveB (root :: l) p).2.1 = some (resolveB (root :: l) p).1 ∧ ¬ ((root :: l).getD (resolveB (root :: l) p).1 root).f1 = 3 := by
  have hc : (cleanB p).2 = 0 := by
    unfold resolveB at h
    by_cases hc : (cleanB p).2 = 0
    · exact hc
    · rw [if_neg hc] at h
      exact absurd h hc
  have e : resolveB (root :: l) p = resB (root :: l) ⟨#[47]⟩ (partsB p) 0 := by unfold resolveB; rw [if_pos hc]
  rw [e] at h ⊢
  exact come l hS _ _ _ (dirAt_root l) h
theorem real_again {l : List Nd} (hS : Sound l) {p : ByteArray} (h : (resolveB (root :: l) p).2.2 = 0) : resolveB (root :: l) (resolveB (root :: l) p).2.1 = resolveB (root :: l) p := by
  obtain ⟨h1, h2⟩ := resolve_idx hS h
  rw [own_path hS h1 h2]
  exact Prod.ext rfl (Prod.ext rfl h.symm)

end Go.Proofs.YtlkacodngjdagaaDoor.Pure
