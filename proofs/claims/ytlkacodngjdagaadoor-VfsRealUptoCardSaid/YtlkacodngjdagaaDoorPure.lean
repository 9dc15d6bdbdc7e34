/- Paths, told by the lists of their names. No program stands in it. -/
import Derived.Test.YtlkacodngjdagaaDoorAlive
import Derived.Lib.SplitLaws
import Derived.Lib.LastIndexByte
import Derived.Lib.Join
namespace Go.Proofs.YtlkacodngjdagaaDoor.Pure
open Go Go.Proofs.YtlkacodngjdagaaDoor.Str
set_option linter.unusedVariables false

abbrev Nm := List UInt8
def cutAt : List UInt8 → List Nm
  | [] => [[]]
  | b :: r => if b = 47 then [] :: cutAt r else match cutAt r with
    | x :: xs => (b :: x) :: xs
    | [] => [[b]]
def keepL (x : Nm) : Bool := x != [] && x != [46]
def partsL (l : List UInt8) : List Nm := (cutAt l).filter keepL
def joinP (ns : List Nm) : List UInt8 := 47 :: List.intercalate [47] ns
def stepN (acc : List Nm) (x : Nm) : List Nm := if x = [46, 46] then acc.dropLast else acc ++ [x]
def cleanN (ps : List Nm) : List Nm := ps.foldl stepN []
/-- A name as a path has it. -/
def Name (x : Nm) : Prop := x ≠ [] ∧ x ≠ [46] ∧ (47 : UInt8) ∉ x

theorem cutAt_ne : ∀ l, cutAt l ≠ [] := by
  intro l
  cases l with
  | nil => simp [cutAt]
  | cons b r =>
    unfold cutAt
    split
    · simp
    · split <;> simp
theorem cutAt_no : ∀ (l : List UInt8) x, x ∈ cutAt l → (47 : UInt8) ∉ x := by
  intro l
  induction l with
  | nil => intro x hx; simp [cutAt] at hx; simp [hx]
  | cons b r ih =>
    intro x hx
    unfold cutAt at hx
    split at hx
    · rcases List.mem_cons.1 hx with h | h
      · simp [h]
      · exact ih x h
    · rename_i hb
      split at hx
      · rename_i y ys hc
        rcases List.mem_cons.1 hx with h | h
        · subst h
          have := ih y (by rw [hc]; simp)
          simp [this, Ne.symm hb]
        · exact ih x (by rw [hc]; simp [h])
      · simp at hx
        subst hx
        simp [Ne.symm hb]
theorem partsL_name {l : List UInt8} {x : Nm} (h : x ∈ partsL l) : Name x := by
  unfold partsL at h
  obtain ⟨h1, h2⟩ := List.mem_filter.1 h
  simp [keepL] at h2
  exact ⟨h2.1, h2.2, cutAt_no l x h1⟩
theorem cutAt_append : ∀ (x r : List UInt8), (47 : UInt8) ∉ x → cutAt (x ++ 47 :: r) = x :: cutAt r := by
  intro x
  induction x with
  | nil => intro r _; simp [cutAt]
  | cons b x ih =>
    intro r h
    have hb : b ≠ 47 := fun e => h (by simp [e])
    have hx : (47 : UInt8) ∉ x := fun e => h (by simp [e])
    rw [List.cons_append]
    conv => lhs; unfold cutAt
    rw [if_neg hb, ih r hx]
theorem cutAt_one : ∀ (x : List UInt8), (47 : UInt8) ∉ x → cutAt x = [x] := by
  intro x
  induction x with
  | nil => intro _; rfl
  | cons b x ih =>
    intro h
    have hb : b ≠ 47 := fun e => h (by simp [e])
    have hx : (47 : UInt8) ∉ x := fun e => h (by simp [e])
    unfold cutAt
    rw [if_neg hb, ih hx]
theorem inter_cons (x y : Nm) (r : List Nm) : List.intercalate [47] (x :: y :: r) = x ++ 47 :: List.intercalate [47] (y :: r) := by
  simp [List.intercalate, List.intersperse]
theorem cutAt_inter : ∀ (ns : List Nm), ns ≠ [] → (∀ x ∈ ns, (47 : UInt8) ∉ x) → cutAt (List.intercalate [47] ns) = ns := by
  intro ns
  induction ns with
  | nil => intro h; exact absurd rfl h
  | cons x r ih =>
    intro _ h
    cases r with
    | nil =>
      have : List.intercalate [47] [x] = x := by simp [List.intercalate]
      rw [this, cutAt_one x (h x (by simp))]
    | cons y r =>
      rw [inter_cons, cutAt_append _ _ (h x (by simp)), ih (by simp) (fun z hz => h z (by simp [hz]))]
theorem partsL_join (ns : List Nm) (h : ∀ x ∈ ns, Name x) : partsL (joinP ns) = ns := by
  unfold partsL joinP
  rw [show cutAt (47 :: List.intercalate [47] ns) = [] :: cutAt (List.intercalate [47] ns) from by conv => lhs; unfold cutAt; rw [if_pos rfl]]
  cases ns with
  | nil => rfl
  | cons x r =>
    rw [cutAt_inter _ (by simp) (fun z hz => (h z hz).2.2), List.filter_cons_of_neg (by simp [keepL]), List.filter_eq_self.2]
    intro z hz
    have := h z hz
    simp [keepL, this.1, this.2.1]
theorem foldl_mem : ∀ (ps acc : List Nm) (x : Nm), x ∈ ps.foldl stepN acc → x ∈ acc ∨ (x ∈ ps ∧ x ≠ [46, 46]) := by
  intro ps
  induction ps with
  | nil => intro acc x h; exact .inl h
  | cons p r ih =>
    intro acc x h
    rcases ih _ _ h with h | ⟨h, h2⟩
    · unfold stepN at h
      split at h
      · exact .inl (List.dropLast_subset _ h)
      · rename_i hp
        rcases List.mem_append.1 h with h | h
        · exact .inl h
        · rw [List.mem_singleton.1 h]
          exact .inr ⟨by simp, hp⟩
    · exact .inr ⟨by simp [h], h2⟩
theorem cleanN_name {l : List UInt8} {x : Nm} (h : x ∈ cleanN (partsL l)) : Name x ∧ x ≠ [46, 46] := by
  rcases foldl_mem _ _ _ h with h | ⟨h, h2⟩
  · cases h
  · exact ⟨partsL_name h, h2⟩
/-- A clean path: the names that it has. -/
theorem clean_names {s : List UInt8} (h : joinP (cleanN (partsL s)) = s) : s = joinP (partsL s) ∧ ∀ x ∈ partsL s, Name x ∧ x ≠ [46, 46] := by
  have h1 : partsL s = cleanN (partsL s) := by
    conv => lhs; rw [← h]
    exact partsL_join _ (fun x hx => (cleanN_name hx).1)
  refine ⟨by rw [← h1] at h; exact h.symm, fun x hx => ?_⟩
  rw [h1] at hx
  exact cleanN_name hx
theorem foldl_plain : ∀ (ps acc : List Nm), (∀ x ∈ ps, x ≠ [46, 46]) → ps.foldl stepN acc = acc ++ ps := by
  intro ps
  induction ps with
  | nil => intro acc _; simp
  | cons p r ih =>
    intro acc h
    rw [List.foldl_cons, ih _ (fun x hx => h x (by simp [hx]))]
    unfold stepN
    rw [if_neg (h p (by simp))]
    simp
theorem cleanN_plain {ps : List Nm} (h : ∀ x ∈ ps, x ≠ [46, 46]) : cleanN ps = ps := by
  unfold cleanN
  rw [foldl_plain ps [] h]
  rfl
theorem inter_snoc : ∀ (ns : List Nm) (n : Nm), ns ≠ [] → List.intercalate [47] (ns ++ [n]) = List.intercalate [47] ns ++ 47 :: n := by
  intro ns
  induction ns with
  | nil => intro n h; exact absurd rfl h
  | cons x r ih =>
    intro n _
    cases r with
    | nil => simp [List.intercalate, List.intersperse]
    | cons y r =>
      rw [List.cons_append, List.cons_append, inter_cons, inter_cons, ← List.cons_append, ih n (by simp)]
      simp
/-- A name more. -/
theorem joinP_snoc (ns : List Nm) (n : Nm) : joinP (ns ++ [n]) = if ns = [] then 47 :: n else joinP ns ++ 47 :: n := by
  unfold joinP
  split
  · rename_i h; subst h; simp [List.intercalate]
  · rename_i h; rw [inter_snoc ns n h]; rfl

/-! ### the last slash -/
theorem at_list (s : ByteArray) (l : List UInt8) (hs : s.data.toList = l) (j : Nat) (hj : j < l.length) : s.data[j]! = l[j] := by
  subst hs
  have hj' : j < s.data.size := by simpa using hj
  rw [getElem!_pos s.data j hj', Array.getElem_toList]
theorem lastB_snoc (a n : List UInt8) (h : (47 : UInt8) ∉ n) (s : ByteArray) (hs : s.data.toList = a ++ 47 :: n) : Lib.lastIndexByte s 47 = (a.length : Int) := by
  have hsz : s.size = (a ++ 47 :: n).length := by rw [← hs]; simp
  have hlen : (a ++ 47 :: n).length = a.length + (n.length + 1) := by simp
  have h47 : s.data[a.length]! = 47 := by
    rw [at_list s _ hs a.length (by omega)]
    simp
  rcases Lib.lastIndexByte_spec s 47 with ⟨h1, h2⟩ | ⟨i, h1, h2, h3, h4⟩
  · exact absurd (by rw [h47]; rfl) (h2 a.length (by omega))
  · rw [h2]
    rcases Nat.lt_trichotomy i a.length with hlt | heq | hgt
    · exact absurd (by rw [h47]; rfl) (h4 a.length hlt (by omega))
    · rw [heq]
    · exfalso
      rw [at_list s _ hs i (by omega)] at h3
      rw [List.getElem_append_right (by omega)] at h3
      obtain ⟨m, hm⟩ : ∃ m, i - a.length = m + 1 := ⟨i - a.length - 1, by omega⟩
      have : (47 :: n)[i - a.length]'(by simp; omega) = n[m]'(by omega) := by
        simp [hm]
      rw [this] at h3
      have hm' : n[m]'(by omega) = 47 := by
        apply UInt8.toNat_inj.1
        have : ((n[m]'(by omega)).toNat : Int) = 47 := h3
        have h5 : (n[m]'(by omega)).toNat = 47 := by omega
        rw [h5]; rfl
      exact h (hm' ▸ List.getElem_mem _)
theorem lastB_none (s : ByteArray) (h : (47 : UInt8) ∉ s.data.toList) : Lib.lastIndexByte s 47 = -1 := by
  rcases Lib.lastIndexByte_spec s 47 with ⟨h1, h2⟩ | ⟨i, h1, h2, h3, h4⟩
  · exact h1
  · exfalso
    have hi : i < s.data.toList.length := by simpa using h1
    rw [at_list s _ rfl i hi] at h3
    have : s.data.toList[i]'hi = 47 := by
      apply UInt8.toNat_inj.1
      have h3' : ((s.data.toList[i]'hi).toNat : Int) = 47 := h3
      have h5 : (s.data.toList[i]'hi).toNat = 47 := by omega
      rw [h5]; rfl
    exact h (this ▸ List.getElem_mem _)

/-! ### the library's cuts -/
theorem index_eq (r : List UInt8) : Lib.index (47 :: r) [47] = 0 := by
  unfold Lib.index
  rw [if_pos (by simp [List.isPrefixOf])]
theorem index_ne (b : UInt8) (r : List UInt8) (h : b ≠ 47) : Lib.index (b :: r) [47] = if Lib.index r [47] == -1 then -1 else Lib.index r [47] + 1 := by
  conv => lhs; unfold Lib.index
  rw [if_neg (by simp [List.isPrefixOf, Ne.symm h])]
theorem split_list : ∀ (s : List UInt8) (k : Nat), Lib.count s [47] = k → Lib.splitK [47] 0 k s = cutAt s := by
  intro s
  induction s with
  | nil => intro k h; subst h; rfl
  | cons b r ih =>
    intro k h
    by_cases hb : b = 47
    · subst hb
      rw [Lib.count_cons_eq] at h
      obtain ⟨k', rfl⟩ : ∃ m, k = m + 1 := ⟨k - 1, by omega⟩
      have h2 := ih k' (by omega)
      unfold Lib.splitK
      rw [index_eq, if_neg (by decide)]
      conv => rhs; unfold cutAt
      rw [if_pos rfl, ← h2]
      rfl
    · rw [Lib.count_cons_ne b 47 r hb] at h
      have h2 := ih k h
      conv => rhs; unfold cutAt
      rw [if_neg hb, ← h2]
      cases k with
      | zero => rfl
      | succ k =>
        have hi : Lib.index r [47] ≠ -1 := fun e => by
          rw [Lib.count_miss e] at h
          omega
        have hi' : ¬ ((Lib.index r [47] == -1) = true) := by simpa using hi
        have hge := Lib.index_ge r [47]
        unfold Lib.splitK
        rw [index_ne b r hb, if_neg hi', if_neg (by simp; omega)]
        obtain ⟨n, hn⟩ := Int.eq_ofNat_of_zero_le (show 0 ≤ Lib.index r [47] by omega)
        rw [hn]
        have e1 : ((n : Int) + 1).toNat = n + 1 := by omega
        rw [e1, if_neg (by simp)]
        simp

/-! ### texts as byte arrays -/
theorem ba_ext {a b : ByteArray} (h : a.data.toList = b.data.toList) : a = b := ByteArray.ext (Array.ext' h)
theorem map_inj : ∀ {xs ys : List ByteArray}, xs.map (·.data.toList) = ys.map (·.data.toList) → xs = ys
  | [], [], _ => rfl
  | [], _ :: _, h => by cases h
  | _ :: _, [], h => by cases h
  | x :: xs, y :: ys, h => by
    simp only [List.map_cons, List.cons.injEq] at h
    rw [ba_ext h.1, map_inj h.2]
theorem keep_list (x : ByteArray) : keepB x = keepL x.data.toList := by
  unfold keepB keepL
  rw [Lib.toList_data]
theorem split_map (s : ByteArray) : (splitS s).map (·.data.toList) = cutAt s.data.toList := by
  unfold splitS
  rw [Lib.splitB_data]
  exact split_list _ _ rfl
theorem parts_list (s : ByteArray) : (partsB s).map (·.data.toList) = partsL s.data.toList := by
  unfold partsB partsL
  rw [← split_map, List.filter_map]
  congr 1
  apply List.filter_congr
  intro x _
  exact keep_list x
def NameB (x : ByteArray) : Prop := Name x.data.toList ∧ x.data.toList ≠ [46, 46]
theorem joinB_list (ns : List ByteArray) : (joinB ns).data.toList = joinP (ns.map (·.data.toList)) := by
  unfold joinB joinP
  rw [ByteArray.data_append]
  simp [Lib.join]
theorem fold_map : ∀ (ps acc : List ByteArray), (ps.foldl cleanStep acc).map (·.data.toList) = (ps.map (·.data.toList)).foldl stepN (acc.map (·.data.toList))
  | [], acc => rfl
  | p :: r, acc => by
    rw [List.foldl_cons, fold_map r, List.map_cons, List.foldl_cons]
    congr 1
    unfold cleanStep stepN
    rw [Lib.toList_data]
    split
    · simp [List.map_dropLast]
    · simp
theorem names_list (ps : List ByteArray) : (cleanNames ps).map (·.data.toList) = cleanN (ps.map (·.data.toList)) := fold_map ps []
/-- A clean path has its names, and no other. -/
theorem clean_path {q : ByteArray} (h : isCleanB q = true) : (cleanB q).2 = 0 ∧ joinB (partsB q) = q ∧ ∀ x ∈ partsB q, NameB x := by
  unfold isCleanB at h
  simp only [Bool.and_eq_true, decide_eq_true_eq, beq_iff_eq] at h
  obtain ⟨h1, h2⟩ := h
  have hg : (goodB q && rootedB q) = true := by
    by_cases hg : (goodB q && rootedB q) = true
    · exact hg
    · unfold cleanB at h1
      rw [if_neg hg] at h1
      exact absurd h1 (by decide)
  unfold cleanB at h2
  rw [if_pos hg, Lib.toList_data, Lib.toList_data, joinB_list, names_list, parts_list] at h2
  obtain ⟨h3, h4⟩ := clean_names h2
  refine ⟨h1, ba_ext ?_, fun x hx => h4 _ ?_⟩
  · rw [joinB_list, parts_list]
    exact h3.symm
  · rw [← parts_list]
    exact List.mem_map_of_mem hx
theorem parts_join {ns : List ByteArray} (h : ∀ x ∈ ns, NameB x) : partsB (joinB ns) = ns := by
  apply map_inj
  rw [parts_list, joinB_list]
  apply partsL_join
  intro x hx
  obtain ⟨y, hy, rfl⟩ := List.mem_map.1 hx
  exact (h y hy).1
theorem joinB_nil : joinB [] = ⟨#[47]⟩ := by
  apply ba_ext
  rw [joinB_list]
  rfl
theorem below_join (ns : List ByteArray) (n : ByteArray) (h : ∀ x ∈ ns, NameB x) : Vfs.belowB (joinB ns) n = joinB (ns ++ [n]) := by
  apply ba_ext
  rw [joinB_list, List.map_append, List.map_cons, List.map_nil, joinP_snoc]
  unfold Vfs.belowB
  cases ns with
  | nil =>
    rw [joinB_nil, if_pos (by rw [Lib.toList_data])]
    show (_ : ByteArray).data.toList = if ([] : List Nm) = [] then _ else _
    rw [if_pos rfl, ByteArray.data_append]
    simp
  | cons x r =>
    have hx := h x (by simp)
    have hne : ¬ (joinB (x :: r)).toList = [47] := by
      rw [Lib.toList_data, joinB_list]
      intro e
      have : joinP ((x :: r).map (·.data.toList)) = joinP [] := e
      have h2 := congrArg partsL this
      rw [partsL_join _ (fun z hz => by obtain ⟨y, hy, rfl⟩ := List.mem_map.1 hz; exact (h y hy).1), partsL_join [] (fun z hz => by cases hz)] at h2
      cases h2
    rw [if_neg hne, if_neg (by simp), ByteArray.data_append, ByteArray.data_append]
    simp [joinB_list]
theorem up_join (ns : List ByteArray) (n : ByteArray) (hn : NameB n) : upS (joinB (ns ++ [n])) = joinB ns := by
  have hl : (joinB (ns ++ [n])).data.toList = (if ns = [] then [] else (joinB ns).data.toList) ++ 47 :: n.data.toList := by
    rw [joinB_list, List.map_append, List.map_cons, List.map_nil, joinP_snoc]
    cases ns with
    | nil => rfl
    | cons x r => simp [joinB_list]
  have hlast := lastB_snoc _ _ hn.1.2.2 _ hl
  have hlb : lastB (joinB (ns ++ [n])) = Lib.lastIndexByte (joinB (ns ++ [n])) 47 := rfl
  unfold upS
  rw [hlb, hlast]
  cases ns with
  | nil =>
    rw [if_pos (by simp)]
    exact joinB_nil.symm
  | cons x r =>
    have hpos : 0 < (joinB (x :: r)).data.toList.length := by rw [joinB_list]; simp [joinP]
    rw [if_neg (by simp only [if_neg (List.cons_ne_nil x r)]; omega)]
    apply ba_ext
    rw [Lib.extract_from_zero, hl, if_neg (List.cons_ne_nil x r)]
    simp
theorem up_root : upS ⟨#[47]⟩ = ⟨#[47]⟩ := by decide +kernel

end Go.Proofs.YtlkacodngjdagaaDoor.Pure
