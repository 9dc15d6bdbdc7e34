/- The path functions that make rows of names: good, Parts, Clean, IsClean, Join; each call returns what a plain function of the text says. -/
import Derived.Test.YtlkacodngjdagaaDoorEv
namespace Go.Proofs.YtlkacodngjdagaaDoor.Str
open Go Go.RowKit Go.Proofs.YtlkacodngjdagaaDoorW.PrintWords Go.Proofs.YtlkacodngjdagaaDoor.Ev
set_option linter.unusedVariables false

theorem get_drop {s : ByteArray} {k : Nat} (hk : k < s.size) : s.data.toList.drop k = s[k]'hk :: s.data.toList.drop (k + 1) := by
  have hk' : k < s.data.toList.length := by simpa using hk
  rw [List.drop_eq_getElem_cons hk']
  congr 1

def okB (b : UInt8) : Bool := decide (33 ≤ b.toNat) && decide (b.toNat ≤ 126)
def goodB (s : ByteArray) : Bool := decide (s.size ≤ 256) && s.data.toList.all okB

set_option maxHeartbeats 1000000 in
theorem good_any (s : ByteArray) (w : World) (hs : s.size < 4611686018427387904) :
    Calls Tryd.prog 38 #[.string s] w fun e w' => e = .returned (.bool (goodB s)) ∧ w' = w := by
  by_cases h256 : 256 < s.size
  · go_enter Tryd.func38, Tryd.ntmps38
    go_wp2
    go_ret
    exact ⟨ret_bool (by simp [goodB]; omega), rfl⟩
  · go_enter Tryd.func38, Tryd.ntmps38
    go_wp2
    go_loop [9] (fun i => ∃ k : Nat, k ≤ s.size ∧ i = .int .i64 k ∧ Hid (goodB s = (s.data.toList.drop k).all okB)) (fun i => s.size - (intOf i).toNat)
    case atStart => exact ⟨0, Nat.zero_le _, rfl, by show _ = _; unfold goodB; rw [decide_eq_true (show s.size ≤ 256 by omega)]; rfl⟩
    case round =>
      obtain ⟨k, hk, rfl, hrest⟩ := hrel
      by_cases hlt : k < s.size
      · have HD := Lib.hid (get_drop hlt)
        by_cases h1 : (s[k]'hlt).toNat < 33
        · go_wp2
          go_ret
          exact ⟨ret_bool (by rw [hrest.out, HD.out, List.all_cons]; simp [okB, show ¬ (33 ≤ (s[k]'hlt).toNat) by omega]), rfl⟩
        · by_cases h2 : 126 < (s[k]'hlt).toNat
          · go_wp2
            go_ret
            exact ⟨ret_bool (by rw [hrest.out, HD.out, List.all_cons]; simp [okB, show ¬ ((s[k]'hlt).toNat ≤ 126) by omega]), rfl⟩
          · go_wp2
            go_round
            case rel => exact ⟨k + 1, by omega, by go_num, by show _ = _; rw [hrest.out, HD.out, List.all_cons]; simp [okB, show 33 ≤ (s[k]'hlt).toNat by omega, show (s[k]'hlt).toNat ≤ 126 by omega]⟩
            case measure => simp [intOf]; omega
      · go_wp2
        go_ret
        exact ⟨ret_bool (by rw [hrest.out, List.drop_of_length_le (by simpa using hlt)]; rfl), rfl⟩

theorem slash_size : (⟨#[47]⟩ : ByteArray).size = 1 := rfl
def keepB (x : ByteArray) : Bool := x.toList != [] && x.toList != [46]
def splitS (s : ByteArray) : List ByteArray := Lib.splitB ⟨#[47]⟩ 0 (Lib.countB s ⟨#[47]⟩) s
def partsB (s : ByteArray) : List ByteArray := (splitS s).filter keepB
theorem splitS_length (s : ByteArray) : (splitS s).length = Lib.countB s ⟨#[47]⟩ + 1 := Lib.splitB_all _ (by decide) 0 _ s rfl
theorem count_small (s : ByteArray) : Lib.countB s ⟨#[47]⟩ ≤ s.size := Lib.countB_le _ (by decide) _ s (Nat.le_refl _)
theorem split_size (sep : ByteArray) : ∀ (k : Nat) (s x : ByteArray), x ∈ Lib.splitB sep 0 k s → x.size ≤ s.size
  | 0, s, x, h => by
    rw [Lib.splitB_zero] at h
    rw [List.mem_singleton.1 h]
    exact Nat.le_refl _
  | k + 1, s, x, h => by
    unfold Lib.splitB at h
    split at h
    · rw [List.mem_singleton.1 h]
      exact Nat.le_refl _
    · rcases List.mem_cons.1 h with h | h
      · rw [h]; simp; omega
      · have := split_size sep k _ x h
        simp only [ByteArray.size_extract] at this
        omega

theorem row_strings {w : World} (g : Nat) (xs : List ByteArray) {t : TypeId} {fr : Nat × Nat} (hb : w.heap[g]? = some (.cells ((xs.map Value.string).toArray) t fr)) (hl : xs.length ≤ 9223372036854775807) : Kd.string.C w (some ⟨g, 0, none⟩) xs.length xs := by
  refine ⟨rfl, hl, fun _ => ⟨_, rfl, fun j p hj => ⟨[.string p], rfl, rfl, fun i u hu => ?_⟩⟩⟩
  match i, hu with
  | 0, hu =>
    obtain rfl : Value.string p = u := by simpa using hu
    have e3 : j * Kd.string.sz + 0 = j := Nat.mul_one j
    rw [e3, add_plain]
    exact cell_blk hb (by simp [hj])

theorem take_filter {l : List ByteArray} {k : Nat} (hk : k < l.length) {x : ByteArray} (hx : l.getD k ByteArray.empty = x) : (l.take (k + 1)).filter keepB = (l.take k).filter keepB ++ (if keepB x = true then [x] else []) := by
  rw [List.getD_eq_getElem?_getD, List.getElem?_eq_getElem hk] at hx
  rw [List.take_add_one, List.getElem?_eq_getElem hk, List.filter_append]
  simp only [Option.getD_some] at hx
  simp [hx, List.filter_cons]

theorem split_any (s : ByteArray) (w : World) (hm : Mx w) (hs : s.size < 4294967281) :
    Calls Tryd.prog 40 #[.string s, .string ⟨#[47]⟩] w fun e w' => ∃ A, e = .returned (.slice A (splitS s).length (splitS s).length) ∧ Kd.string.C w' A (splitS s).length (splitS s) ∧ Below w.heap.size w w' := by
  obtain ⟨m, hm⟩ := hm
  have hl := splitS_length s
  have hc := count_small s
  refine (Tryd.strings_Split s ⟨#[47]⟩ m w hs hm (by decide)).mono ?_
  rintro e w1 ⟨rfl, rfl⟩
  exact ⟨_, by rw [hl], row_strings _ _ (blk_new w _) (by omega), below_alloc (Below.refl _ _) _⟩

set_option maxRecDepth 10000 in
set_option maxHeartbeats 2000000 in
theorem parts_any (s : ByteArray) (w : World) (hm : Mx w) (hs : s.size < 4294967281) :
    Calls Tryd.prog 24 #[.string s] w fun e w' => ∃ v, e = .returned v ∧ Kd.string.R 9 w' w.heap.size (fun k => w.heap.size ≤ k) v (partsB s) ∧ Below w.heap.size w w' := by
  have hc := count_small s
  have hl := splitS_length s
  have HS := Lib.hid (split_any s w hm hs)
  have hl2 : (splitS s).length ≤ 4294967281 := by omega
  obtain ⟨ps, hps⟩ : ∃ ps, ps = partsB s := ⟨_, rfl⟩
  obtain ⟨xs, hxs⟩ : ∃ xs, xs = splitS s := ⟨_, rfl⟩
  have HP := Lib.hid (show ps = xs.filter keepB by rw [hps, hxs]; rfl)
  rw [← hps]
  rw [← hxs] at HS hl2
  clear hc hl hm hs hps hxs
  go_enter Tryd.func24, Tryd.ntmps24
  go_wp2_with (go_at_call 40; refine HS.out.mono ?_; rintro e w1 ⟨A, rfl, hC, hW⟩; have HC := Lib.hid hC; have HW1 := Lib.hid hW; clear hC hW)
  go_loopw [9, 3] (fun i v wr => ∃ k : Nat, k ≤ xs.length ∧ i = .int .i64 k ∧ Hid (Kd.string.R 9 wr w1.heap.size (fun k => w1.heap.size ≤ k) v ((xs.take k).filter keepB)) ∧ Hid (Below w1.heap.size w1 wr)) (fun i _ _ => xs.length - (intOf i).toNat)
  case atStart => exact ⟨0, Nat.zero_le _, rfl, Kd.R_nil _ _ _ _ _, Below.refl _ _⟩
  case round =>
    obtain ⟨k, hk, rfl, HR, HW⟩ := hrel
    by_cases hlt : k < xs.length
    · obtain ⟨ad, rfl, hcell⟩ := str_at (Kd.C_below HC.out HW.out) k hlt
      obtain ⟨x, hx⟩ : ∃ x, x = xs.getD k ByteArray.empty := ⟨_, rfl⟩
      rw [← hx] at hcell
      have HT := Lib.hid (take_filter hlt hx.symm)
      have HL := Lib.hid (show ((xs.take k).filter keepB).length + 1 ≤ 4294967281 by have h1 := List.length_filter_le keepB (xs.take k); have h2 : (xs.take k).length ≤ k := List.length_take_le _ _; omega)
      clear hx
      by_cases h1 : x.toList = []
      · have e1 : (x.toList != []) = false := by simp [h1]
        have e2 : x.toList.isEmpty = true := by simp [h1]
        have HK := Lib.hid (show keepB x = false by simp [keepB, h1])
        go_wp2
        go_roundw
        case rel => exact ⟨k + 1, by omega, by go_num, by show Kd.R _ _ _ _ _ _ _; rw [HT.out, if_neg (by rw [HK.out]; decide), List.append_nil]; exact HR.out, HW⟩
        case measure => simp [intOf]; omega
      · have e1 : (x.toList != []) = true := by simp [h1]
        have e2 : x.toList.isEmpty = false := by simp [h1]
        by_cases h2 : x.toList = [46]
        · have e3 : (x.toList == [46]) = true := by simp [h2]
          have HK := Lib.hid (show keepB x = false by simp [keepB, h2])
          go_wp2
          go_roundw
          case rel => exact ⟨k + 1, by omega, by go_num, by show Kd.R _ _ _ _ _ _ _; rw [HT.out, if_neg (by rw [HK.out]; decide), List.append_nil]; exact HR.out, HW⟩
          case measure => simp [intOf]; omega
        · have e3 : (x.toList == [46]) = false := by simp [h2]
          have HK := Lib.hid (show keepB x = true by simp [keepB, h1, h2])
          go_wp2_with (at_builtin; refine Kd.R_append Kd.string (w0 := w1) w1.heap.size rfl (.tmp 19) (.tmp 21) 43 9 (.string ⟨#[]⟩) 16 rfl Tryd.underlying43 (by kernel_rfl) rfl (by decide) (by decide) u3 ((xs.take k).filter keepB) x [.string x] (fun k => w1.heap.size ≤ k) (fun _ => False) rfl rfl ?aP (fun _ hk => hk.elim) ?aF ?aO ?aB ?aS ?aL ?_; (case aP => exact rfl); (case aF => exact (fun _ hk => Nat.le_trans HW.out.size hk)); (case aO => exact HR.out); (case aB => exact HW.out); (case aS => exact HW.out.size); (case aL => exact (by have := HL.out; omega)); intro v1 wq hR hB hg hat; have HR1 := Lib.hid hR; have HB1 := Lib.hid hB; clear hR hB hg hat)
          go_roundw
          case rel => exact ⟨k + 1, by omega, by go_num, by show Kd.R _ _ _ _ _ _ _; rw [HT.out, if_pos HK.out]; exact HR1.out, HB1⟩
          case measure => simp [intOf]; omega
    · go_wp2
      go_ret
      refine ⟨_, rfl, ?_, below_then HW1.out HW1.out.size HW.out⟩
      have h := HR.out
      rw [List.take_of_length_le (by omega), ← HP.out] at h
      exact Kd.R_mono (Kd.R_lower h HW1.out.size) (fun _ hk => Nat.le_trans HW1.out.size hk)

def cleanStep (acc : List ByteArray) (x : ByteArray) : List ByteArray := if x.toList = [46, 46] then acc.dropLast else acc ++ [x]
def cleanNames (ps : List ByteArray) : List ByteArray := ps.foldl cleanStep []
def joinB (ns : List ByteArray) : ByteArray := ⟨#[47]⟩ ++ ⟨(Lib.join (ns.map (·.data.toList)) [47]).toArray⟩
def rootedB (s : ByteArray) : Bool := match s.data.toList with
  | b :: _ => b == 47
  | [] => false
def cleanB (s : ByteArray) : ByteArray × Int := if goodB s && rootedB s then (joinB (cleanNames (partsB s)), 0) else (⟨#[]⟩, 40)
def isCleanB (s : ByteArray) : Bool := decide ((cleanB s).2 = 0) && ((cleanB s).1.toList == s.toList)

theorem join_len (B : Nat) : ∀ (xs : List (List UInt8)), (∀ x ∈ xs, x.length ≤ B) → (Lib.join xs [47]).length ≤ xs.length * (B + 1)
  | [], _ => by simp [Lib.join_nil]
  | [x], h => by rw [Lib.join_one]; have := h x (by simp); simp; omega
  | x :: y :: r, h => by
    have h1 := h x (by simp)
    have h2 := join_len B (y :: r) (fun z hz => h z (List.mem_cons_of_mem _ hz))
    have e : Lib.join (x :: y :: r) [47] = x ++ (47 :: Lib.join (y :: r) [47]) := by simp [Lib.join, List.intercalate, List.intersperse]
    rw [e]
    simp only [List.length_append, List.length_cons] at h2 ⊢
    rw [Nat.succ_mul]
    omega
theorem fold_mem : ∀ (ps acc : List ByteArray) (x : ByteArray), x ∈ ps.foldl cleanStep acc → x ∈ acc ∨ x ∈ ps
  | [], _, _, h => .inl h
  | p :: r, acc, x, h => by
    rcases fold_mem r _ x h with h | h
    · unfold cleanStep at h
      split at h
      · exact .inl (List.dropLast_subset _ h)
      · rcases List.mem_append.1 h with h | h
        · exact .inl h
        · rw [List.mem_singleton.1 h]; exact .inr (by simp)
    · exact .inr (List.mem_cons_of_mem _ h)
theorem fold_len : ∀ (ps acc : List ByteArray), (ps.foldl cleanStep acc).length ≤ acc.length + ps.length
  | [], _ => Nat.le_refl _
  | p :: r, acc => by
    have h := fold_len r (cleanStep acc p)
    have h2 : (cleanStep acc p).length ≤ acc.length + 1 := by
      unfold cleanStep
      split
      · simp; omega
      · simp
    simp only [List.foldl_cons, List.length_cons]
    omega
theorem take_step {l : List ByteArray} {k : Nat} (hk : k < l.length) {x : ByteArray} (hx : x = l.getD k ByteArray.empty) : (l.take (k + 1)).foldl cleanStep [] = cleanStep ((l.take k).foldl cleanStep []) x := by
  rw [List.getD_eq_getElem?_getD, List.getElem?_eq_getElem hk] at hx
  rw [List.take_add_one, List.getElem?_eq_getElem hk, List.foldl_append, hx]
  rfl

set_option maxRecDepth 10000 in
theorem join_any (v : Value) (xs : List ByteArray) (w : World) {base : Nat} {ok : Nat → Prop} (h : Kd.string.R 9 w base ok v xs) (hn : xs.length ≤ 1048576) (hl : ∀ x ∈ xs, x.size ≤ 1048576) :
    Calls Tryd.prog 39 #[v, .string ⟨#[47]⟩] w fun e w' => e = .returned (.string ⟨(Lib.join (xs.map (·.data.toList)) [47]).toArray⟩) ∧ Below w.heap.size w w' := by
  have hlen : (Lib.join (xs.map (·.data.toList)) (⟨#[47]⟩ : ByteArray).data.toList).length ≤ 140737488355328 := by
    have h1 := join_len 1048576 (xs.map (·.data.toList)) (fun x hx => by
      obtain ⟨y, hy, rfl⟩ := List.mem_map.1 hx
      have := hl y hy
      simpa using this)
    rw [List.length_map] at h1
    have h2 : xs.length * (1048576 + 1) ≤ 1048576 * (1048576 + 1) := Nat.mul_le_mul_right _ hn
    show (Lib.join (xs.map (·.data.toList)) [47]).length ≤ _
    omega
  obtain ⟨A, c, rfl, hle, hC⟩ := Kd.R_reads h
  rcases Nat.eq_zero_or_pos xs.length with h0 | h0
  · obtain rfl := List.eq_nil_of_length_eq_zero h0
    exact (Tryd.strings_Join_none A c ⟨#[47]⟩ w).mono fun e w' ⟨he, hw⟩ => ⟨he, hw ▸ Below.refl _ _⟩
  · obtain ⟨g, cap, he, hb, hlt, _⟩ := Kd.R_form h h0
    injection he with e1 e2 e3
    subst e1 e3
    refine Tryd.strings_Join g 0 _ xs ⟨#[47]⟩ w (fun j x hj => ?_) hlt (by omega) hle hlen
    obtain ⟨ad, e4, h5⟩ := str_at hC j (List.getElem?_eq_some_iff.1 hj).1
    injection e4 with e4
    subst e4
    rw [add_plain] at h5
    rw [List.getD_eq_getElem?_getD, hj] at h5
    rw [Nat.zero_add]
    exact h5

theorem ret_two {a b : ByteArray} {m n : Int} (h : (a, m) = (b, n)) : Ending.returned (.tuple #[.string a, .int .i64 m]) = .returned (.tuple #[.string b, .int .i64 n]) := by
  injection h with h1 h2
  rw [h1, h2]
theorem dropLast_take (l : List ByteArray) : l.dropLast = l.take (l.length - 1) := List.dropLast_eq_take

set_option maxRecDepth 10000 in
set_option maxHeartbeats 4000000 in
theorem clean_any (s : ByteArray) (w : World) (hm : Mx w) (hs : s.size < 4294967281) :
    Calls Tryd.prog 23 #[.string s] w fun e w' => e = .returned (.tuple #[.string (cleanB s).1, .int .i64 (cleanB s).2]) ∧ Below w.heap.size w w' := by
  have HG := Lib.hid (fun w => good_any s w (by omega))
  have HPA := Lib.hid (parts_any s w hm hs)
  have HCB := Lib.hid (show cleanB s = if goodB s && rootedB s then (joinB (cleanNames (partsB s)), 0) else (⟨#[]⟩, 40) from rfl)
  have hpl : (partsB s).length ≤ s.size + 1 := by
    have h1 := List.length_filter_le keepB (splitS s)
    have h2 := splitS_length s
    have h3 := count_small s
    unfold partsB
    omega
  have hps : ∀ x ∈ partsB s, x.size ≤ s.size := fun x hx => split_size _ _ _ _ (List.mem_filter.1 hx).1
  cases hg : goodB s with
  | false =>
    have HG2 := Lib.hid hg
    clear hg hpl hps
    go_enter Tryd.func23, Tryd.ntmps23
    go_wp2_with (go_at_call 38; refine (as_bool HG2.out (HG.out _)).mono ?_; rintro e w1 ⟨rfl, rfl⟩)
    go_ret2
    exact ⟨ret_two (by rw [HCB.out, HG2.out]; rfl), Below.refl _ _⟩
  | true =>
    have h256 : s.size ≤ 256 := by
      have : goodB s = true := hg
      unfold goodB at this
      simp only [Bool.and_eq_true, decide_eq_true_eq] at this
      exact this.1
    have HG2 := Lib.hid hg
    have H256 := Lib.hid h256
    clear hg
    by_cases h0 : s.size = 0
    · have e1 : s.toList = [] := by rw [Lib.toList_data]; exact List.eq_nil_of_length_eq_zero (by simpa using h0)
      have e2 : s.toList.isEmpty = true := by rw [e1]; rfl
      have e3 : (s.toList == []) = true := by rw [e1]; rfl
      have HE := Lib.hid (show rootedB s = false by unfold rootedB; rw [← Lib.toList_data, e1])
      clear hpl hps
      go_enter Tryd.func23, Tryd.ntmps23
      go_wp2_with (go_at_call 38; refine (as_bool HG2.out (HG.out _)).mono ?_; rintro e w1 ⟨rfl, rfl⟩)
      go_ret2
      exact ⟨ret_two (by rw [HCB.out, HG2.out, HE.out]; rfl), Below.refl _ _⟩
    · have hpos : 0 < s.size := by omega
      have hd := get_drop hpos
      rw [List.drop_zero] at hd
      obtain ⟨b, hb⟩ : ∃ b, b = s[0]'hpos := ⟨_, rfl⟩
      rw [← hb] at hd
      have e1 : ¬ s.toList = [] := by rw [Lib.toList_data, hd]; simp
      have e2 : s.toList.isEmpty = false := by rw [Lib.toList_data, hd]; rfl
      have e3 : (s.toList == []) = false := by rw [Lib.toList_data, hd]; rfl
      by_cases h47 : b = 47
      · rw [h47] at hb hd
        have hb0 : (s[0]'hpos).toNat = 47 := by rw [← hb]; rfl
        have hb1 : s[0]'hpos = 47 := hb.symm
        clear hb
        have HE := Lib.hid (show rootedB s = true by unfold rootedB; rw [hd]; rfl)
        have HPL := Lib.hid hpl
        have HPS := Lib.hid hps
        obtain ⟨ps, hpe⟩ : ∃ ps, ps = partsB s := ⟨_, rfl⟩
        rw [← hpe] at HPL HPS HPA HCB
        have hpl2 : ps.length ≤ 257 := by have := HPL.out; omega
        clear hd hpl hps hpe
        go_enter Tryd.func23, Tryd.ntmps23
        go_wp2_with (first
          | (go_at_call 38; refine (as_bool HG2.out (HG.out _)).mono ?_; rintro e w1 ⟨rfl, rfl⟩)
          | (go_at_call 24; refine HPA.out.mono ?_; rintro e w1 ⟨vp, rfl, hR, hW⟩; obtain ⟨A, c, rfl, hle, hC⟩ := Kd.R_reads hR; have HC := Lib.hid hC; have HW1 := Lib.hid hW; clear hR hC hW hle))
        go_loopw [22, 4] (fun i v wr => ∃ k : Nat, k ≤ ps.length ∧ i = .int .i64 k ∧ Hid (Kd.string.R 9 wr w1.heap.size (fun k => w1.heap.size ≤ k) v ((ps.take k).foldl cleanStep [])) ∧ Hid (Below w1.heap.size w1 wr)) (fun i _ _ => ps.length - (intOf i).toNat)
        case atStart => exact ⟨0, Nat.zero_le _, rfl, Kd.R_nil _ _ _ _ _, Below.refl _ _⟩
        case round =>
          obtain ⟨k, hk, rfl, HR, HW⟩ := hrel
          have HFL := Lib.hid (show ((ps.take k).foldl cleanStep []).length ≤ 1048576 by have h1 := fold_len (ps.take k) []; have h2 : (ps.take k).length ≤ ps.length := (List.length_take_le' _ _); have h3 := HPL.out; have h4 := H256.out; simp only [List.length_nil] at h1; omega)
          by_cases hlt : k < ps.length
          · obtain ⟨ad, rfl, hcell⟩ := str_at (Kd.C_below HC.out HW.out) k hlt
            obtain ⟨x, hx⟩ : ∃ x, x = ps.getD k ByteArray.empty := ⟨_, rfl⟩
            rw [← hx] at hcell
            have HT := Lib.hid (take_step hlt hx)
            clear hx
            obtain ⟨acc, hacc⟩ : ∃ acc, acc = (ps.take k).foldl cleanStep [] := ⟨_, rfl⟩
            rw [← hacc] at HR HT HFL
            clear hacc
            by_cases h2 : x.toList = [46, 46]
            · have e4 : (x.toList == [46, 46]) = true := by simp [h2]
              have HK := Lib.hid (show cleanStep acc x = acc.dropLast by unfold cleanStep; rw [if_pos h2])
              by_cases h0 : acc.length = 0
              · obtain rfl := List.eq_nil_of_length_eq_zero h0
                obtain ⟨Av, cv, rfl, hlv, hCv⟩ := Kd.R_reads HR.out
                clear hlv hCv
                go_wp2
                go_roundw
                case rel => exact ⟨k + 1, by omega, by go_num, by show Kd.R _ _ _ _ _ _ _; rw [HT.out, HK.out]; exact HR.out, HW⟩
                case measure => simp [intOf]; omega
              · obtain ⟨m, hm⟩ : ∃ m, acc.length = m + 1 := ⟨acc.length - 1, by omega⟩
                obtain ⟨g, cap, rfl, _, _, _⟩ := Kd.R_form HR.out (by omega)
                have hcap : acc.length ≤ cap := (Kd.R_reads' HR.out).2.1
                have HM := Lib.hid hm
                have HRT := Lib.hid (Kd.R_take HR.out (m := m) (by omega))
                have hm2 : m + 1 ≤ 1048576 := by have := HFL.out; omega
                have HD := Lib.hid (show acc.dropLast = acc.take m by rw [dropLast_take, hm]; rfl)
                rw [hm] at hcap ⊢
                clear hm h0
                go_wp2
                go_roundw
                case rel => exact ⟨k + 1, by omega, by go_num, by show Kd.R _ _ _ _ _ _ _; rw [HT.out, HK.out, HD.out]; exact HRT.out, HW⟩
                case measure => simp [intOf]; omega
            · have e4 : (x.toList == [46, 46]) = false := by simp [h2]
              have HK := Lib.hid (show cleanStep acc x = acc ++ [x] by unfold cleanStep; rw [if_neg h2])
              go_wp2_with (at_builtin; refine Kd.R_append Kd.string (w0 := w1) w1.heap.size rfl (.tmp 29) (.tmp 31) 43 9 (.string ⟨#[]⟩) 16 rfl Tryd.underlying43 (by kernel_rfl) rfl (by decide) (by decide) u4 acc x [.string x] (fun k => w1.heap.size ≤ k) (fun _ => False) rfl rfl ?aP (fun _ hk => hk.elim) ?aF ?aO ?aB ?aS ?aL ?_; (case aP => exact rfl); (case aF => exact (fun _ hk => Nat.le_trans HW.out.size hk)); (case aO => exact HR.out); (case aB => exact HW.out); (case aS => exact HW.out.size); (case aL => exact (by have := HFL.out; omega)); intro v1 wq hR hB hg hat; have HR1 := Lib.hid hR; have HB1 := Lib.hid hB; clear hR hB hg hat)
              go_roundw
              case rel => exact ⟨k + 1, by omega, by go_num, by show Kd.R _ _ _ _ _ _ _; rw [HT.out, HK.out]; exact HR1.out, HB1⟩
              case measure => simp [intOf]; omega
          · have HE2 := Lib.hid (show Kd.string.R 9 wr w1.heap.size (fun k => w1.heap.size ≤ k) u4 (cleanNames ps) by have h := HR.out; rw [List.take_of_length_le (by omega)] at h; exact h)
            have HJ := Lib.hid (join_any u4 (cleanNames ps) wr HE2.out (by have h1 := fold_len ps []; have h3 := HPL.out; have h4 := H256.out; unfold cleanNames; simp only [List.length_nil] at h1; omega) (fun x hx => by
              rcases fold_mem ps [] x hx with h | h
              · cases h
              · have h1 := HPS.out x h; have h4 := H256.out; omega))
            obtain ⟨js, hjs⟩ : ∃ js : ByteArray, js = ⟨(Lib.join ((cleanNames ps).map (·.data.toList)) [47]).toArray⟩ := ⟨_, rfl⟩
            rw [← hjs] at HJ
            have HJS := Lib.hid (show joinB (cleanNames ps) = ⟨#[47]⟩ ++ js by rw [hjs]; rfl)
            have hjl : js.size ≤ 1048576 := by
              have h1 := join_len 256 ((cleanNames ps).map (·.data.toList)) (fun y hy => by
                obtain ⟨z, hz, rfl⟩ := List.mem_map.1 hy
                rcases fold_mem ps [] z hz with h | h
                · cases h
                · have h1 := HPS.out z h; have h4 := H256.out; simp; omega)
              have h2 := fold_len ps []
              have h3 := HPL.out
              have h4 := H256.out
              have h5 : js.size = (Lib.join ((cleanNames ps).map (·.data.toList)) [47]).length := by rw [hjs]; simp [ByteArray.size]
              rw [List.length_map] at h1
              have h6 : (cleanNames ps).length ≤ 257 := by unfold cleanNames; simp only [List.length_nil] at h2; omega
              have h7 : (cleanNames ps).length * (256 + 1) ≤ 257 * 257 := Nat.mul_le_mul_right _ h6
              omega
            have hj1 := slash_size
            clear hjs
            go_wp2_with (go_at_call 39; refine HJ.out.mono ?_; rintro e w3 ⟨rfl, hw3⟩)
            go_ret2
            exact ⟨ret_two (by rw [HCB.out, HG2.out, HE.out, HJS.out]; rfl), below_then HW1.out HW1.out.size (below_then HW.out HW.out.size hw3)⟩
      · rw [hb] at h47
        have h47' : ¬ (s[0]'hpos).toNat = 47 := fun e => h47 (UInt8.toNat_inj.1 e)
        have HE := Lib.hid (show rootedB s = false by unfold rootedB; rw [hd, hb]; simpa using h47)
        clear hd hb hpl hps
        go_enter Tryd.func23, Tryd.ntmps23
        go_wp2_with (go_at_call 38; refine (as_bool HG2.out (HG.out _)).mono ?_; rintro e w1 ⟨rfl, rfl⟩)
        go_ret2
        exact ⟨ret_two (by rw [HCB.out, HG2.out, HE.out]; rfl), Below.refl _ _⟩

set_option maxHeartbeats 1000000 in
theorem isClean_any (s : ByteArray) (w : World) (hm : Mx w) (hs : s.size < 4294967281) :
    Calls Tryd.prog 35 #[.string s] w fun e w' => e = .returned (.bool (isCleanB s)) ∧ Below w.heap.size w w' := by
  have HC := Lib.hid (clean_any s w hm hs)
  have hI : isCleanB s = (decide ((cleanB s).2 = 0) && ((cleanB s).1.toList == s.toList)) := rfl
  obtain ⟨p, hp⟩ : ∃ p, p = cleanB s := ⟨_, rfl⟩
  rw [← hp] at HC hI
  obtain ⟨a, n⟩ := p
  have HI := Lib.hid hI
  clear hI hp hm
  by_cases h0 : n = 0
  · by_cases h1 : a.toList = s.toList
    · have e1 : (a.toList == s.toList) = true := beq_iff_eq.2 h1
      have HB := Lib.hid (show isCleanB s = true by rw [HI.out]; simp [h0, h1])
      go_enter Tryd.func35, Tryd.ntmps35
      go_wp2_with (go_at_call 23; refine HC.out.mono ?_; rintro e w1 ⟨rfl, hw1⟩)
      go_ret
      exact ⟨ret_bool (by rw [HB.out]), hw1⟩
    · have e1 : (a.toList == s.toList) = false := beq_eq_false_iff_ne.2 h1
      have HB := Lib.hid (show isCleanB s = false by rw [HI.out]; simp [h1])
      go_enter Tryd.func35, Tryd.ntmps35
      go_wp2_with (go_at_call 23; refine HC.out.mono ?_; rintro e w1 ⟨rfl, hw1⟩)
      go_ret
      exact ⟨ret_bool (by rw [HB.out]), hw1⟩
  · have HB := Lib.hid (show isCleanB s = false by rw [HI.out]; simp [h0])
    go_enter Tryd.func35, Tryd.ntmps35
    go_wp2_with (go_at_call 23; refine HC.out.mono ?_; rintro e w1 ⟨rfl, hw1⟩)
    go_ret
    exact ⟨ret_bool (by rw [HB.out]), hw1⟩

def joinPathB (dir name : ByteArray) : ByteArray × Int :=
  if hasPre name ⟨#[47]⟩ = true then cleanB name else if (goodB dir && goodB name) = true then cleanB (dir ++ ⟨#[47]⟩ ++ name) else (⟨#[]⟩, 40)
set_option maxHeartbeats 1000000 in
theorem joinPath_any (dir name : ByteArray) (w : World) (hm : Mx w) (hd : dir.size < 1048577) (hs : name.size < 1048577) :
    Calls Tryd.prog 36 #[.string dir, .string name] w fun e w' => e = .returned (.tuple #[.string (joinPathB dir name).1, .int .i64 (joinPathB dir name).2]) ∧ Below w.heap.size w w' := by
  have hJ : joinPathB dir name = if hasPre name ⟨#[47]⟩ = true then cleanB name else if (goodB dir && goodB name) = true then cleanB (dir ++ ⟨#[47]⟩ ++ name) else (⟨#[]⟩, 40) := rfl
  have HC1 := Lib.hid (clean_any name w hm (by omega))
  have hsz : (dir ++ ⟨#[47]⟩ ++ name).size < 4294967281 := by
    have : (⟨#[47]⟩ : ByteArray).size = 1 := rfl
    simp only [ByteArray.size_append]
    omega
  have HC2 := Lib.hid (clean_any (dir ++ ⟨#[47]⟩ ++ name) w hm hsz)
  have HG := Lib.hid (fun w => good_any dir w (by omega))
  have HG2 := Lib.hid (fun w => good_any name w (by omega))
  have HJ := Lib.hid hJ
  clear hJ hm
  have hpre : ∀ w, Calls Tryd.prog 47 #[.string name, .string ⟨#[47]⟩] w fun e w' => e = .returned (.bool (hasPre name ⟨#[47]⟩)) ∧ w' = w := fun w => Tryd.strings_HasPrefix _ _ _
  have HP := Lib.hid hpre
  clear hpre
  cases h1 : hasPre name ⟨#[47]⟩ with
  | true =>
    have H1 := Lib.hid h1
    clear h1
    go_enter Tryd.func36, Tryd.ntmps36
    go_wp2_with (first
      | (go_at_call 47; refine (as_bool H1.out (HP.out _)).mono ?_; rintro e w' ⟨rfl, rfl⟩)
      | (go_at_call 23; refine HC1.out.mono ?_; rintro e w1 ⟨rfl, hw1⟩))
    go_ret2
    exact ⟨ret_two (by rw [HJ.out, if_pos H1.out]), hw1⟩
  | false =>
    have H1 := Lib.hid h1
    clear h1
    cases h2 : goodB dir with
    | false =>
      have H2 := Lib.hid h2
      clear h2
      go_enter Tryd.func36, Tryd.ntmps36
      go_wp2_with (first
        | (go_at_call 47; refine (as_bool H1.out (HP.out _)).mono ?_; rintro e w' ⟨rfl, rfl⟩)
        | (go_at_call 38; refine (as_bool H2.out (HG.out _)).mono ?_; rintro e w1 ⟨rfl, rfl⟩))
      go_ret2
      exact ⟨ret_two (by rw [HJ.out, if_neg (by rw [H1.out]; decide), H2.out]; rfl), Below.refl _ _⟩
    | true =>
      have H2 := Lib.hid h2
      clear h2
      cases h3 : goodB name with
      | false =>
        have H3 := Lib.hid h3
        clear h3
        go_enter Tryd.func36, Tryd.ntmps36
        go_wp2_with fail
        refine (as_bool H1.out (HP.out _)).mono ?_
        rintro e w' ⟨rfl, rfl⟩
        go_wp2_with fail
        refine (as_bool H2.out (HG.out _)).mono ?_
        rintro e w' ⟨rfl, rfl⟩
        go_wp2_with fail
        refine (as_bool H3.out (HG2.out _)).mono ?_
        rintro e w' ⟨rfl, rfl⟩
        go_wp2
        go_ret2
        exact ⟨ret_two (by rw [HJ.out, if_neg (by rw [H1.out]; decide), H2.out, H3.out]; rfl), Below.refl _ _⟩
      | true =>
        have H3 := Lib.hid h3
        clear h3
        go_enter Tryd.func36, Tryd.ntmps36
        go_wp2_with fail
        refine (as_bool H1.out (HP.out _)).mono ?_
        rintro e w' ⟨rfl, rfl⟩
        go_wp2_with fail
        refine (as_bool H2.out (HG.out _)).mono ?_
        rintro e w' ⟨rfl, rfl⟩
        go_wp2_with fail
        refine (as_bool H3.out (HG2.out _)).mono ?_
        rintro e w' ⟨rfl, rfl⟩
        go_wp2_with (go_at_call 23; refine HC2.out.mono ?_; rintro e w1 ⟨rfl, hw1⟩)
        go_ret2
        exact ⟨ret_two (by rw [HJ.out, if_neg (by rw [H1.out]; decide), H2.out, H3.out]; rfl), hw1⟩

end Go.Proofs.YtlkacodngjdagaaDoor.Str
